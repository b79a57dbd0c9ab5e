/- Contracts that the claim leans on. -/
import Derived.Test.YtmebpglkeedaoaaDR3
import Derived.Deep.Cut
import Derived.RangeFuncNested
import Derived.RangeFuncLeaves
import Derived.RangeFuncWrites
import Derived.RangeFuncBound
import Derived.Shelf.Abstract
import Derived.OwnWalkIn
import Derived.TacticsInMore
import Derived.LoopNIn
import Derived.LoopIn
import Derived.Sort.CutIn
set_option maxHeartbeats 16000000
set_option maxRecDepth 100000
set_option linter.unusedVariables false
set_option linter.unusedSimpArgs false
set_option linter.unnecessarySimpa false
namespace Go.Proofs.Ytmebpglkeedaoaa
open Go.RowKit Dp
theorem j3 (A B C D E:Option Addr) (S:Site) (cs:List Car) (n nB nC nD m cA cB cC cD cE:Nat) (w:World) (hn:n=S.lim.length) (hnB:nB=S.exp.length) (hnC:nC=S.buy.length) (hnD:nD=S.sell.length) (hm:m=cs.length)
 (hA:n<=cA/\cA<=9223372036854775807) (hB:nB<=cB/\cB<=9223372036854775807) (hC:nC<=cC/\cC<=9223372036854775807) (hD:nD<=cD/\cD<=9223372036854775807) (hE:m<=cE/\cE<=9223372036854775807)
 (hS:bH w A B C D S) (hcs:df w E cs):
 Calls Try.prog 36 #[.agg #[.slice A n cA,.slice B nB cB,.slice C nC cC,.slice D nD cD],.slice E m cE] w fun e w'=>e=.returned (.int .i64 (stE S cs))/\Below w.heap.size w w':=by
 have HN:=zh hn;have HNB:=zh hnB;have HNC:=zh hnC;have HND:=zh hnD;have HM:=zh hm;have HS:=zh hS;have HCS:=zh hcs;clear hn hnB hnC hnD hm hS hcs;have X:=zh (Blk.new' w #[.slice A n cA,.slice B nB cB,.slice C nC cC,.slice D nD cD] 51);have HB:=zh ((Below.refl w.heap.size w).alloc (Nat.le_refl _) (.cells #[.slice A n cA,.slice B nB cB,.slice C nC cC,.slice D nD cD] 51));go_enter Try.func36,Try.ntmps36;go_upto_region 1 with fail
 generalize w.alloc (.cells #[.slice A n cA,.slice B nB cB,.slice C nC cC,.slice D nD cD] 51)=w1 at X HB ⊢
 by_cases q1:8<m
 ·have q1i:(8:Int)<(m:Int):=by omega
  have EE:=zh (BG (S:=S) (cs:=cs) (by rw[<-HM.out];exact q1));go_wp2_with fail
  go_ret;exact⟨ah EE.symm,HB.out⟩
 have q1i: ¬(8:Int)<(m:Int):=by omega
 have HQ1:Hid (¬8<cs.length):=zh (by rw[<-HM.out];exact q1);have x0:=X.cell 0 rfl;have x1:=X.cell 1 rfl;have x2:=X.cell 2 rfl;have x3:=X.cell 3 rfl
 by_cases q2:n<1
 ·have q2i:(n:Int)<1:=by omega
  have EE:=zh (gW (S:=S) (cs:=cs) HQ1.out (by simp[bO,<-HN.out,<-HNB.out,<-HNC.out,<-HND.out];omega));go_wp2_with fail
  go_ret;exact⟨ah EE.symm,HB.out⟩
 have q2i: ¬(n:Int)<1:=by omega
 by_cases q3:48<n
 ·have q3i:(48:Int)<(n:Int):=by omega
  have EE:=zh (gW (S:=S) (cs:=cs) HQ1.out (by simp[bO,<-HN.out,<-HNB.out,<-HNC.out,<-HND.out];omega));go_wp2_with fail
  go_ret;exact⟨ah EE.symm,HB.out⟩
 have q3i: ¬(48:Int)<(n:Int):=by omega
 by_cases q4:nB≠n
 ·have q4i: ¬(nB:Int)=(n:Int):=by omega
  have q4b:((nB:Int)==(n:Int))=false:=by simpa using q4i
  have EE:=zh (gW (S:=S) (cs:=cs) HQ1.out (by simp[bO,<-HN.out,<-HNB.out,<-HNC.out,<-HND.out];omega));go_wp2_with fail
  go_ret;exact⟨ah EE.symm,HB.out⟩
 obtain rfl:n=nB:=by omega
 by_cases q5:nC≠n
 ·have q5i: ¬(nC:Int)=(n:Int):=by omega
  have q5b:((nC:Int)==(n:Int))=false:=by simpa using q5i
  have EE:=zh (gW (S:=S) (cs:=cs) HQ1.out (by simp[bO,<-HN.out,<-HNB.out,<-HNC.out,<-HND.out];omega));go_wp2_with fail
  go_ret;exact⟨ah EE.symm,HB.out⟩
 obtain rfl:n=nC:=by omega
 by_cases q6:nD≠n
 ·have q6i: ¬(nD:Int)=(n:Int):=by omega
  have q6b:((nD:Int)==(n:Int))=false:=by simpa using q6i
  have EE:=zh (gW (S:=S) (cs:=cs) HQ1.out (by simp[bO,<-HN.out,<-HNB.out,<-HNC.out,<-HND.out];omega));go_wp2_with fail
  go_ret;exact⟨ah EE.symm,HB.out⟩
 obtain rfl:n=nD:=by omega
 have HH:Hid (bO S=true):=zh (by simp[bO,<-HN.out,<-HNB.out,<-HNC.out,<-HND.out];omega);go_wp2_with fail
 clear x0 x1 x2 x3
 go_loopw [7,47] (fun _ i wr=> ∃t:Nat,t<=n/\i=.int .i64 t/\Hid (Below w.heap.size w wr/\Blk wr w.heap.size 51 [.slice A n cA,.slice B n cB,.slice C n cC,.slice D n cD]/\ ∀j,j<t->fU S j=true)) (fun _ i _=>n-(intOf i).toNat)
 case atStart=>exact⟨0,Nat.zero_le _,rfl,zh ⟨HB.out,X.out,fun j hj=>absurd hj (Nat.not_lt_zero _)⟩⟩
 case round=>
  obtain⟨t,ht,rfl,HW⟩:=hrel
  by_cases hlt:t<n
  ·have hti:(t:Int)<(n:Int):=by omega
   have hcA:=hA.1;have tA:t<S.lim.length:=by rw[<-HN.out];exact hlt
   obtain⟨aL,rfl,aLb,aLc⟩:=HS.1 t tA;obtain⟨aE,rfl,aEb,aEc⟩:=HS.2.1 t (by rw[<-HNB.out];exact hlt);obtain⟨aB,rfl,aBb,aBc⟩:=HS.2.2.1 t (by rw[<-HNC.out];exact hlt);obtain⟨aS,rfl,aSb,aSc⟩:=HS.2.2.2 t (by rw[<-HND.out];exact hlt);have HV:Hid (∀V,Below w.heap.size w V->(V.cell? (aL.add t)=some (.int .i64 (S.lim.getD t 0))/\(aL.add t).block<V.heap.size)/\(V.cell? (aE.add t)=some (.int .i64 (S.exp.getD t 0))/\(aE.add t).block<V.heap.size)/\(V.cell? (aB.add t)=some (.int .i64 (S.buy.getD t 0))/\(aB.add t).block<V.heap.size)/\(V.cell? (aS.add t)=some (.int .i64 (S.sell.getD t 0))/\(aS.add t).block<V.heap.size)):=zh (fun V hV=>by
    have k:=hV.size;exact⟨⟨(hV.cell (by rw[block_add];exact aLb)).trans aLc,by rw[block_add];omega⟩,⟨(hV.cell (by rw[block_add];exact aEb)).trans aEc,by rw[block_add];omega⟩,⟨(hV.cell (by rw[block_add];exact aBb)).trans aBc,by rw[block_add];omega⟩,⟨(hV.cell (by rw[block_add];exact aSb)).trans aSc,by rw[block_add];omega⟩⟩)
   clear aLc aEc aBc aSc aLb aEb aBb aSb;have HSO:=zh (show fU S t=decide ((0<=S.lim.getD t 0/\S.lim.getD t 0<=1048576)/\(0<=S.exp.getD t 0/\S.exp.getD t 0<=1048576)/\(0<=S.buy.getD t 0/\S.buy.getD t 0<=1048576)/\(0<=S.sell.getD t 0/\S.sell.getD t 0<=S.buy.getD t 0))from rfl);generalize S.lim.getD t 0=l at *;generalize S.exp.getD t 0=e at *;generalize S.buy.getD t 0=b at *;generalize S.sell.getD t 0=s at *;go_upto_region 10 with fail
   by_cases k1:(0<=l/\l<=1048576)/\(0<=e/\e<=1048576)
   ·have HC1:Hid (true=decide ((0<=l/\l<=1048576)/\(0<=e/\e<=1048576))):=zh (decide_eq_true k1).symm
    by_cases k2:0<=b/\b<=1048576
    ·have HC2:Hid (true=decide (0<=b/\b<=1048576)):=zh (decide_eq_true k2).symm
     by_cases k3:0<=s/\s<=b
     ·have HC3:Hid (true=decide (0<=s/\s<=b)):=zh (decide_eq_true k3).symm
      have HK:=zh (And.intro k1 (And.intro k2 k3));clear k1 k2 k3;refine bQ 41 [.q,.q,.q,.q,.q,.q,.q,.q,.q,.q,.q,.p,.c 11 61,.q,.q,.q,.q,.q,.q,.q,.q,.p,.c 21 71,.q,.q,.q,.q,.q,.q,.q,.q,.q,.q,.q,.q,.q,.q,.p,.c 37 87,.q,.q] (fun n=>(if n=37 then (.cells #[.int .i64 s] 2,fun b=>.slice (some ⟨b,0,none⟩) 1 1)else (if n=21 then (.cells #[.int .i64 b] 2,fun b=>.slice (some ⟨b,0,none⟩) 1 1)else (if n=11 then (.cells #[.int .i64 l,.int .i64 e] 2,fun b=>.slice (some ⟨b,0,none⟩) 2 2)else (.cells #[] 2,fun b=>.slice (some ⟨b,0,none⟩) 0 0))))) ?afA (by kernel_rfl) (by kernel_rfl) ?XG ?tailA
      case XG=>
       intro V hV;have XV:=HW.2.1.below hV HW.2.1.lt;obtain⟨⟨vl,vlb⟩,⟨ve,veb⟩,⟨vb,vbb⟩,⟨vs,vsb⟩⟩:=HV.out V (HW.1.trans (hV.mono HW.1.size));have x0:=XV.cell 0 rfl;have x1:=XV.cell 1 rfl;have x2:=XV.cell 2 rfl;have x3:=XV.cell 3 rfl;have xlt:=XV.lt;clear XV hV;simp only[List.take_succ_cons,List.take_zero]
       repeat(with_reducible refine iD ?_;go_big_quiet_step (fail);with_reducible refine wpQuiet_nil ?_)
       refine jr (by kernel_rfl) (fun _=>by kernel_rfl) ?_
       (try simp only[zp])
       refine nE (.bool true) (fun V' g' hV' hg'=>?_) ?_
       ·(try simp only[zp])
        have hbb:Blk V' g' 2 [.int .i64 l,.int .i64 e]:=hg';have zz:=hbb.lt;go_big_quiet_step ((go_at_call 78;exact aN (mW g' _ _ HC1.out (hbb.below (bN.far _) hbb.lt))))
        refine wpQuiet_nil ?_;rfl
       (try simp only[zp])
       repeat(with_reducible refine iD ?_;go_big_quiet_step (fail);with_reducible refine wpQuiet_nil ?_)
       refine jr (by kernel_rfl) (fun _=>by kernel_rfl) ?_
       (try simp only[zp])
       refine nE (.bool true) (fun V' g' hV' hg'=>?_) ?_
       ·(try simp only[zp])
        have hbb:Blk V' g' 2 [.int .i64 b]:=hg';have zz:=hbb.lt;go_big_quiet_step ((go_at_call 78;exact aN (lI g' _ _ HC2.out (hbb.below (bN.far _) hbb.lt))))
        refine wpQuiet_nil ?_;rfl
       (try simp only[zp])
       repeat(with_reducible refine iD ?_;go_big_quiet_step (fail);with_reducible refine wpQuiet_nil ?_)
       refine jr (by kernel_rfl) (fun _=>by kernel_rfl) ?_
       (try simp only[zp])
       refine nE (.bool true) (fun V' g' hV' hg'=>?_) ?_
       ·(try simp only[zp])
        have hbb:Blk V' g' 2 [.int .i64 s]:=hg';have zz:=hbb.lt;go_big_quiet_step ((go_at_call 78;exact aN (lI g' _ _ HC3.out (hbb.below (bN.far _) hbb.lt))))
        refine wpQuiet_nil ?_;rfl
       (try simp only[zp])
       repeat(with_reducible refine iD ?_;go_big_quiet_step (fail);with_reducible refine wpQuiet_nil ?_)
       with_reducible refine iI ?_
       rfl
      intro gs w3 hb3 _ _;have HB3:=zh (HW.1.trans (hb3.mono HW.1.size));have XB3:=zh (HW.2.1.below hb3 HW.2.1.lt);clear hb3;simp only[List.drop_succ_cons,List.drop_zero,List.take_succ_cons,List.take_zero,fillP]
      (try simp only[zp])
      go_wp2_with fail
      refine⟨⟨t+1,by omega,by go_num,zh ⟨HB3.out,XB3.out,fun j hj=>?_⟩⟩,by simp[intOf];omega⟩
      by_cases hjt:j<t
      ·exact HW.2.2 j hjt
      ·obtain rfl:j=t:=by omega
       rw[HSO.out];exact decide_eq_true (by have:=HK.out;omega)
     ·have HC3:Hid (false=decide (0<=s/\s<=b)):=zh (decide_eq_false k3).symm
      have EE:=zh (jK (S:=S) (cs:=cs) HQ1.out t tA (by rw[HSO.out];exact decide_eq_false (fun h=>by omega)));clear k1 k2 k3;refine bQ 41 [.q,.q,.q,.q,.q,.q,.q,.q,.q,.q,.q,.p,.c 11 61,.q,.q,.q,.q,.q,.q,.q,.q,.p,.c 21 71,.q,.q,.q,.q,.q,.q,.q,.q,.q,.q,.q,.q,.q,.q,.p,.c 37 87,.q,.q] (fun n=>(if n=37 then (.cells #[.int .i64 s] 2,fun b=>.slice (some ⟨b,0,none⟩) 1 1)else (if n=21 then (.cells #[.int .i64 b] 2,fun b=>.slice (some ⟨b,0,none⟩) 1 1)else (if n=11 then (.cells #[.int .i64 l,.int .i64 e] 2,fun b=>.slice (some ⟨b,0,none⟩) 2 2)else (.cells #[] 2,fun b=>.slice (some ⟨b,0,none⟩) 0 0))))) ?afB (by kernel_rfl) (by kernel_rfl) ?XH ?tailB
      case XH=>
       intro V hV;have XV:=HW.2.1.below hV HW.2.1.lt;obtain⟨⟨vl,vlb⟩,⟨ve,veb⟩,⟨vb,vbb⟩,⟨vs,vsb⟩⟩:=HV.out V (HW.1.trans (hV.mono HW.1.size));have x0:=XV.cell 0 rfl;have x1:=XV.cell 1 rfl;have x2:=XV.cell 2 rfl;have x3:=XV.cell 3 rfl;have xlt:=XV.lt;clear XV hV;simp only[List.take_succ_cons,List.take_zero]
       repeat(with_reducible refine iD ?_;go_big_quiet_step (fail);with_reducible refine wpQuiet_nil ?_)
       refine jr (by kernel_rfl) (fun _=>by kernel_rfl) ?_
       (try simp only[zp])
       refine nE (.bool true) (fun V' g' hV' hg'=>?_) ?_
       ·(try simp only[zp])
        have hbb:Blk V' g' 2 [.int .i64 l,.int .i64 e]:=hg';have zz:=hbb.lt;go_big_quiet_step ((go_at_call 78;exact aN (mW g' _ _ HC1.out (hbb.below (bN.far _) hbb.lt))))
        refine wpQuiet_nil ?_;rfl
       (try simp only[zp])
       repeat(with_reducible refine iD ?_;go_big_quiet_step (fail);with_reducible refine wpQuiet_nil ?_)
       refine jr (by kernel_rfl) (fun _=>by kernel_rfl) ?_
       (try simp only[zp])
       refine nE (.bool true) (fun V' g' hV' hg'=>?_) ?_
       ·(try simp only[zp])
        have hbb:Blk V' g' 2 [.int .i64 b]:=hg';have zz:=hbb.lt;go_big_quiet_step ((go_at_call 78;exact aN (lI g' _ _ HC2.out (hbb.below (bN.far _) hbb.lt))))
        refine wpQuiet_nil ?_;rfl
       (try simp only[zp])
       repeat(with_reducible refine iD ?_;go_big_quiet_step (fail);with_reducible refine wpQuiet_nil ?_)
       refine jr (by kernel_rfl) (fun _=>by kernel_rfl) ?_
       (try simp only[zp])
       refine nE (.bool false) (fun V' g' hV' hg'=>?_) ?_
       ·(try simp only[zp])
        have hbb:Blk V' g' 2 [.int .i64 s]:=hg';have zz:=hbb.lt;go_big_quiet_step ((go_at_call 78;exact aN (lI g' _ _ HC3.out (hbb.below (bN.far _) hbb.lt))))
        refine wpQuiet_nil ?_;rfl
       (try simp only[zp])
       repeat(with_reducible refine iD ?_;go_big_quiet_step (fail);with_reducible refine wpQuiet_nil ?_)
       with_reducible refine iI ?_
       rfl
      intro gs w3 hb3 _ _;have HB3:=zh (HW.1.trans (hb3.mono HW.1.size));have XB3:=zh (HW.2.1.below hb3 HW.2.1.lt);clear hb3;simp only[List.drop_succ_cons,List.drop_zero,List.take_succ_cons,List.take_zero,fillP]
      (try simp only[zp])
      go_wp2_with fail
      go_ret;exact⟨ah EE.symm,HB3.out⟩
    ·have HC2:Hid (false=decide (0<=b/\b<=1048576)):=zh (decide_eq_false k2).symm
     have EE:=zh (jK (S:=S) (cs:=cs) HQ1.out t tA (by rw[HSO.out];exact decide_eq_false (fun h=>by omega)));clear k1 k2;refine bQ 41 [.q,.q,.q,.q,.q,.q,.q,.q,.q,.q,.q,.p,.c 11 61,.q,.q,.q,.q,.q,.q,.q,.q,.p,.c 21 71,.q,.q,.q,.q,.q,.q,.q,.q,.q,.q,.q,.q,.q,.q,.q,.q,.q,.q] (fun n=>(if n=21 then (.cells #[.int .i64 b] 2,fun b=>.slice (some ⟨b,0,none⟩) 1 1)else (if n=11 then (.cells #[.int .i64 l,.int .i64 e] 2,fun b=>.slice (some ⟨b,0,none⟩) 2 2)else (.cells #[] 2,fun b=>.slice (some ⟨b,0,none⟩) 0 0)))) ?afC (by kernel_rfl) (by kernel_rfl) ?XJ ?tailC
     case XJ=>
      intro V hV;have XV:=HW.2.1.below hV HW.2.1.lt;obtain⟨⟨vl,vlb⟩,⟨ve,veb⟩,⟨vb,vbb⟩,⟨vs,vsb⟩⟩:=HV.out V (HW.1.trans (hV.mono HW.1.size));have x0:=XV.cell 0 rfl;have x1:=XV.cell 1 rfl;have x2:=XV.cell 2 rfl;have x3:=XV.cell 3 rfl;have xlt:=XV.lt;clear XV hV;simp only[List.take_succ_cons,List.take_zero]
      repeat(with_reducible refine iD ?_;go_big_quiet_step (fail);with_reducible refine wpQuiet_nil ?_)
      refine jr (by kernel_rfl) (fun _=>by kernel_rfl) ?_
      (try simp only[zp])
      refine nE (.bool true) (fun V' g' hV' hg'=>?_) ?_
      ·(try simp only[zp])
       have hbb:Blk V' g' 2 [.int .i64 l,.int .i64 e]:=hg';have zz:=hbb.lt;go_big_quiet_step ((go_at_call 78;exact aN (mW g' _ _ HC1.out (hbb.below (bN.far _) hbb.lt))))
       refine wpQuiet_nil ?_;rfl
      (try simp only[zp])
      repeat(with_reducible refine iD ?_;go_big_quiet_step (fail);with_reducible refine wpQuiet_nil ?_)
      refine jr (by kernel_rfl) (fun _=>by kernel_rfl) ?_
      (try simp only[zp])
      refine nE (.bool false) (fun V' g' hV' hg'=>?_) ?_
      ·(try simp only[zp])
       have hbb:Blk V' g' 2 [.int .i64 b]:=hg';have zz:=hbb.lt;go_big_quiet_step ((go_at_call 78;exact aN (lI g' _ _ HC2.out (hbb.below (bN.far _) hbb.lt))))
       refine wpQuiet_nil ?_;rfl
      (try simp only[zp])
      repeat(with_reducible refine iD ?_;go_big_quiet_step (fail);with_reducible refine wpQuiet_nil ?_)
      with_reducible refine iI ?_
      rfl
     intro gs w3 hb3 _ _;have HB3:=zh (HW.1.trans (hb3.mono HW.1.size));have XB3:=zh (HW.2.1.below hb3 HW.2.1.lt);clear hb3;simp only[List.drop_succ_cons,List.drop_zero,List.take_succ_cons,List.take_zero,fillP]
     (try simp only[zp])
     go_wp2_with fail
     go_ret;exact⟨ah EE.symm,HB3.out⟩
   ·have HC1:Hid (false=decide ((0<=l/\l<=1048576)/\(0<=e/\e<=1048576))):=zh (decide_eq_false k1).symm
    have EE:=zh (jK (S:=S) (cs:=cs) HQ1.out t tA (by rw[HSO.out];exact decide_eq_false (fun h=>by omega)));clear k1;refine bQ 41 [.q,.q,.q,.q,.q,.q,.q,.q,.q,.q,.q,.p,.c 11 61,.q,.q,.q,.q,.q,.q,.q,.q,.q,.q,.q,.q,.q,.q,.q,.q,.q,.q,.q,.q,.q,.q,.q,.q,.q,.q,.q,.q] (fun n=>(if n=11 then (.cells #[.int .i64 l,.int .i64 e] 2,fun b=>.slice (some ⟨b,0,none⟩) 2 2)else (.cells #[] 2,fun b=>.slice (some ⟨b,0,none⟩) 0 0))) ?afD (by kernel_rfl) (by kernel_rfl) ?XK ?tailD
    case XK=>
     intro V hV;have XV:=HW.2.1.below hV HW.2.1.lt;obtain⟨⟨vl,vlb⟩,⟨ve,veb⟩,⟨vb,vbb⟩,⟨vs,vsb⟩⟩:=HV.out V (HW.1.trans (hV.mono HW.1.size));have x0:=XV.cell 0 rfl;have x1:=XV.cell 1 rfl;have x2:=XV.cell 2 rfl;have x3:=XV.cell 3 rfl;have xlt:=XV.lt;clear XV hV;simp only[List.take_succ_cons,List.take_zero]
     repeat(with_reducible refine iD ?_;go_big_quiet_step (fail);with_reducible refine wpQuiet_nil ?_)
     refine jr (by kernel_rfl) (fun _=>by kernel_rfl) ?_
     (try simp only[zp])
     refine nE (.bool false) (fun V' g' hV' hg'=>?_) ?_
     ·(try simp only[zp])
      have hbb:Blk V' g' 2 [.int .i64 l,.int .i64 e]:=hg';have zz:=hbb.lt;go_big_quiet_step ((go_at_call 78;exact aN (mW g' _ _ HC1.out (hbb.below (bN.far _) hbb.lt))))
      refine wpQuiet_nil ?_;rfl
     (try simp only[zp])
     repeat(with_reducible refine iD ?_;go_big_quiet_step (fail);with_reducible refine wpQuiet_nil ?_)
     with_reducible refine iI ?_
     rfl
    intro gs w3 hb3 _ _;have HB3:=zh (HW.1.trans (hb3.mono HW.1.size));have XB3:=zh (HW.2.1.below hb3 HW.2.1.lt);clear hb3;simp only[List.drop_succ_cons,List.drop_zero,List.take_succ_cons,List.take_zero,fillP]
    (try simp only[zp])
    go_wp2_with fail
    go_ret;exact⟨ah EE.symm,HB3.out⟩
  ·obtain rfl:n=t:=by omega
   have HSL:=HW;go_wp2_with fail
   rename_i KK hKK;refine gT (c':=Jn) (by kernel_rfl) ?_;exact Sv E S cs n m cE w wr HN.out HM.out hE HQ1.out HH.out (fun t ht=>HW.2.2 t (by rw[HN.out];exact ht)) HCS.out HW.1 (fun a w' h=>hKK a w' (gT (by kernel_rfl) h))
def VA (c:Car) (T:Option Addr) (n cT:Nat):Array Value:= #[.int .i64 c.cap,.int .i64 c.inn,.int .i64 c.out,.int .i64 c.start,.int .i64 c.fin,.slice T n cT]
theorem uH (v0 v1 v2 v3 v4:Value) (k:Int) (T:Option Addr) (l:List ja) (n cT:Nat) (w:World) (hn:n=l.length) (hc:n<=cT/\cT<=9223372036854775807) (hT:fP w T l):
 Calls Try.prog 87 #[.agg #[v0,v1,v2,v3,v4,.slice T n cT],.int .i64 k] w fun e w'=>e=.returned (.tuple #[.int .i64 (iM l k n),.bool (fO l k n)])/\Below w.heap.size w w':=by
 have HN:=zh hn;have HT:=zh hT;clear hn hT;have X:=zh (Blk.new' w #[v0,v1,v2,v3,v4,.slice T n cT] 63);have HB:=zh ((Below.refl w.heap.size w).alloc (Nat.le_refl _) (.cells #[v0,v1,v2,v3,v4,.slice T n cT] 63));go_enter Try.func87,Try.ntmps87;go_upto_region 1 with fail
 generalize w.alloc (.cells #[v0,v1,v2,v3,v4,.slice T n cT] 63)=w1 at X HB ⊢;have c5:=X.cell 5 rfl;go_wp2_with fail
 clear c5;have HT1:=zh (HT.below HB.out (Nat.le_refl _))
 go_loopw [4,5,7,11] (fun u a _ i wr=> ∃j:Nat,j<=n/\i=.int .i64 j/\u=.int .i64 (iM l k j)/\a=.bool (fO l k j)/\Hid (Below w.heap.size w wr)) (fun _ _ _ i _=>n-(intOf i).toNat)
 case atStart=>exact⟨0,Nat.zero_le _,rfl,rfl,rfl,HB⟩
 case round=>
  obtain⟨j,hj,rfl,rfl,rfl,HW⟩:=hrel
  by_cases hlt:j<n
  ·have hji:(j:Int)<(n:Int):=by omega
   obtain⟨ad,rfl,abl,t0,t1,t2⟩:=(HT.below HW.out (Nat.le_refl _)) j (by rw[<-HN.out];exact hlt);have HU:=zh (show iM l k (j+1)=if (l.getD j default).fr=k then (l.getD j default).use else iM l k j from rfl);have HA:=zh (show fO l k (j+1)=(fO l k j||decide ((l.getD j default).fr<=k/\k<(l.getD j default).to))from rfl);generalize l.getD j default=t at *;obtain⟨fr,«to»,us⟩:=t;simp only at t0 t1 t2 HU HA;go_upto_region 4 with fail
   have HX:=zh (HW.alloc HW.size (.cells #[.int .i64 fr,.int .i64 «to»,.int .i64 us] 65));have BX:=zh (Blk.new' wr #[.int .i64 fr,.int .i64 «to»,.int .i64 us] 65);generalize wr.alloc (.cells #[.int .i64 fr,.int .i64 «to»,.int .i64 us] 65)=wx at HX BX ⊢;clear t0 t1 t2 abl;have e0:=BX.cell 0 rfl;have e1:=BX.cell 1 rfl;have e2:=BX.cell 2 rfl;generalize iM l k j=U at *
   cases ha:fO l k j
   ·rw[ha]at HA
    by_cases h1:fr=k
    ·subst h1
     have h2:fr<=fr:=Int.le_refl _
     by_cases h3:fr<«to»
     ·go_wp2_with fail
      exact⟨⟨j+1,by omega,by go_num,by rw[HU.out,if_pos rfl],by rw[HA.out,(decide_eq_true (And.intro h2 h3))];rfl,HX⟩,by simp[intOf];omega⟩
     ·go_wp2_with fail
      exact⟨⟨j+1,by omega,by go_num,by rw[HU.out,if_pos rfl],by rw[HA.out,(decide_eq_false (fun h=>h3 h.2))];rfl,HX⟩,by simp[intOf];omega⟩
    ·have h1b:(fr==k)=false:=by simp[h1]
     by_cases h2:fr<=k
     ·by_cases h3:k<«to»
      ·go_wp2_with fail
       exact⟨⟨j+1,by omega,by go_num,by rw[HU.out,if_neg h1],by rw[HA.out,(decide_eq_true (And.intro h2 h3))];rfl,HX⟩,by simp[intOf];omega⟩
      ·go_wp2_with fail
       exact⟨⟨j+1,by omega,by go_num,by rw[HU.out,if_neg h1],by rw[HA.out,(decide_eq_false (fun h=>h3 h.2))];rfl,HX⟩,by simp[intOf];omega⟩
     ·go_wp2_with fail
      exact⟨⟨j+1,by omega,by go_num,by rw[HU.out,if_neg h1],by rw[HA.out,(decide_eq_false (fun h=>h2 h.1))];rfl,HX⟩,by simp[intOf];omega⟩
   ·rw[ha]at HA
    by_cases h1:fr=k
    ·subst h1
     go_wp2_with fail
     exact⟨⟨j+1,by omega,by go_num,by rw[HU.out,if_pos rfl],by rw[HA.out];rfl,HX⟩,by simp[intOf];omega⟩
    ·have h1b:(fr==k)=false:=by simp[h1]
     go_wp2_with fail
     exact⟨⟨j+1,by omega,by go_num,by rw[HU.out,if_neg h1],by rw[HA.out];rfl,HX⟩,by simp[intOf];omega⟩
  ·obtain rfl:j=n:=by omega
   go_wp2_with fail
   exact bodyPost_ret (v:=.tuple #[.int .i64 (iM l k j),.bool (fO l k j)]) (by simp[results,Try.results87,go_sem]) rfl ⟨rfl,HW.out⟩
theorem Fb (A B:Option Addr) (T:Tab) (m mo cA cB k:Nat) (w:World) (hm:m=T.inn.length) (hmo:mo=T.out.length) (hmm:m<=mo) (h8:m<=8) (hA:m<=cA/\cA<=9223372036854775807) (hB:mo<=cB/\cB<=9223372036854775807) (hT:eu w A B T) (hS:lJ T k m):
 Calls Try.prog 89 #[.agg #[.slice A m cA,.slice B mo cB],.int .i64 k] w fun e w'=>e=.returned (.int .i64 (drP T k m))/\Below w.heap.size w w':=by
 have HM:=zh hm;have HMO:=zh hmo;have HT:=zh hT;have HS:=zh hS;have HD:=zh (wY hS);clear hm hmo hT hS;have X:=zh (Blk.new' w #[.slice A m cA,.slice B mo cB] 55);have HB:=zh ((Below.refl w.heap.size w).alloc (Nat.le_refl _) (.cells #[.slice A m cA,.slice B mo cB] 55));go_enter Try.func89,Try.ntmps89;go_upto_region 1 with fail
 generalize w.alloc (.cells #[.slice A m cA,.slice B mo cB] 55)=w1 at X HB ⊢;have c0:=X.cell 0 rfl;go_wp2_with fail
 clear c0
 go_loopw [4,5,9] (fun s _ i wr=> ∃j:Nat,j<=m/\i=.int .i64 j/\s=.int .i64 (drP T k j)/\Hid (Below w.heap.size w wr/\Blk wr w.heap.size 55 [.slice A m cA,.slice B mo cB])) (fun _ _ i _=>m-(intOf i).toNat)
 case atStart=>exact⟨0,Nat.zero_le _,rfl,rfl,zh ⟨HB.out,X.out⟩⟩
 case round=>
  obtain⟨j,hj,rfl,rfl,HW⟩:=hrel
  by_cases hlt:j<m
  ·have hji:(j:Int)<(m:Int):=by omega
   have hjo:(j:Int)<(mo:Int):=by omega
   obtain⟨ad,rfl,abl,P,cP,p0,pb,pi⟩:=(HT.1.below HW.1 (Nat.le_refl _)) j (by rw[<-HM.out];exact hlt);obtain⟨bd,rfl,bbl,Q,cQ,q0,qb,qi⟩:=(HT.2.below HW.1 (Nat.le_refl _)) j (by rw[<-HMO.out];omega);have hs:=HS.out j hlt;obtain⟨pd,rfl,pbl,px⟩:=pi k hs.1.1;obtain⟨qd,rfl,qbl,qx⟩:=qi k hs.1.2;have hkp:(k:Int)<((T.inn.getD j []).length:Int):=by omega
   have hkq:(k:Int)<((T.out.getD j []).length:Int):=by omega
   have hb:=HD.out j (by omega);have hb2:=hs.2;have HST:=zh (show drP T k (j+1)=drP T k j+((T.inn.getD j []).getD k 0-(T.out.getD j []).getD k 0)from rfl);clear hs pi qi;generalize (T.inn.getD j []).getD k 0=x at *;generalize (T.out.getD j []).getD k 0=y at *;generalize (T.inn.getD j []).length=np at *;generalize (T.out.getD j []).length=nq at *;generalize drP T k j=d at *;go_upto_region 4 with fail
   have c0:=HW.2.cell 0 rfl;have c1:=HW.2.cell 1 rfl;have lt0:=HW.2.lt;have w1e:IntKind.i64.wrap (x-y)=x-y:=IntWalk.i64_in _ (by omega);have w2e:IntKind.i64.wrap (d+(x-y))=d+(x-y):=IntWalk.i64_in _ (by omega);have ab2:(ad.add j).block<wr.heap.size:=by rw[block_add];exact abl
   have bb2:(bd.add j).block<wr.heap.size:=by rw[block_add];exact bbl
   have pb2:(pd.add k).block<wr.heap.size:=by rw[block_add];exact pbl
   have qb2:(qd.add k).block<wr.heap.size:=by rw[block_add];exact qbl
   clear hb hb2;refine wrp ?_
   repeat(go_big_quiet_step (fail))
   refine wpQuiet_nil ?_;intro xx;have HX:=zh (HW.1.trans (xx.far.mono HW.1.size));have BX:=zh (HW.2.below xx.far HW.2.lt);generalize xx.w=w3 at HX BX ⊢;clear c0 c1 lt0 ab2 bb2 pb2 qb2 w1e w2e p0 q0 px qx;go_wp2_with fail
   exact⟨⟨j+1,by omega,by go_num,by rw[HST.out],zh ⟨HX.out,BX.out⟩⟩,by simp[intOf];omega⟩
  ·obtain rfl:j=m:=by omega
   go_wp2_with fail
   go_ret;exact⟨rfl,HW.1⟩
end Go.Proofs.Ytmebpglkeedaoaa
namespace Go.Proofs.Ytmebpglkeedaoaa
open Go Go.RowKit
def MU {α:Type} (B:Nat) (I:List α->World->Prop) (c:Code) (Ix:List α->World->Prop) (pre:List α) (x:α) (W:World):Exit->Act->World->Prop
 |.normal,_,W'=>KeepsFrom B W W'/\I (pre++[x]) W'
 |.exit id,_,W'=>c=.exit id/\KeepsFrom B W W'/\Ix (pre++[x]) W'
 |.ret,_,W'=>c=.ret/\KeepsFrom B W W'/\Ix (pre++[x]) W'
 |_,_,_=>False
theorem pY {α:Type} {F:Fence} {n:Nat} {P:Program} {g:Operand} {ps:Array Tmp} {assign body:Code} {Q:Exit->Act->World->Prop} {a:Act} {w:World}
 (hro:F.round=none) (h1:1<=n) {gf:Nat} {lb:Array Value} (hg:a.eval g=.func (.func gf) #[] lb) (hFg:F.fn gf) (eg: ∀args w,(callFunc gf args).run P w=.ok (.enter gf args) w)
 {encs:α->Array Value} (hps: ∀x,(encs x).size=ps.size) (I Ix:List α->World->Prop) (c:Code) (S Sp:List α->Prop) (Ok:List α->α->Prop)
 (hI:OwnFrom w.heap.size I) (hIx:OwnFrom w.heap.size Ix) (h0:I [] w)
 (hseq: ∀(l:Nat) (J Jx:List α->World->Prop) (W:World),(∀pre W,J pre W->I pre W)->OwnFrom W.heap.size J->OwnFrom W.heap.size Jx->w.heap.size<=W.heap.size->
   (∀pre x W1,J pre W1->Ok pre x->YieldAt F (n-1-1) P l (encs x) W1 fun e W'=>KeepsFrom W.heap.size W1 W'/\((e=.returned (.bool true)/\J (pre++[x]) W')∨(e=.returned (.bool false)/\Jx (pre++[x]) W')))->
   J [] W->CallsIn F (n-1) P gf (#[.func (.yield l) #[] #[]]++lb) W fun e W'=>(∃v,e=.returned v)/\((∃xs,S xs/\J xs W')∨(∃pre,Sp pre/\Jx pre W')))
 (a₁:α->Act)
 (hassign: ∀(l:Nat) (x:α) (W:World) (K:Act->World->Prop),K (a₁ x) W->
   assign.wpIn (F.inRound l) (n-1-1) P (Exit.then K (fun _ _ _=>False)) {tmps:=(ps.zip (encs x)).foldl (fun t (p,v)=>t.setIfInBounds p v) a.tmps,defers:=[]} W)
 (hbody: ∀(l:Nat) (pre:List α) (x:α) (W:World),I pre W->Ok pre x->body.wpIn (F.inRound l) (n-1-1) P (MU w.heap.size I c Ix pre x W) (a₁ x) W)
 (hdone: ∀(D:Nat) (xs:List α) (W:World),w.heap.size<=D->S xs->I xs W->W.heap[D]?=some (.deferred (some []))->Q .normal {a with defers:={target:=.collected D,args:= #[]}::a.defers} W)
 (hstop: ∀(D:Nat) (pre:List α) (W:World),w.heap.size<=D->Sp pre->Ix pre W->W.heap[D]?=some (.deferred (some []))->c.wpIn F n P Q {a with defers:={target:=.collected D,args:= #[]}::a.defers} W):
 (Code.rangeFunc g ps assign body).wpIn F n P Q a w:=by
 refine wpIn_rangeFunc fun fn hfn=>?_
 rw[hro];generalize hd:w.heap.size=d at *;obtain⟨rec,hrec⟩: ∃rec:LoopState->Option Code->Loop,rec=fun st pe=>{state:=st,pending:=pe,fn,tmps:=a.tmps,params:=ps,assign,body,defers:=d}:=⟨_,rfl⟩
 obtain⟨W1,hW1⟩: ∃W1,(w.alloc (.deferred (some []))).alloc (.loop (rec .ready none))=W1:=⟨_,rfl⟩;have eL:W1.heap[d+1]?=some (.loop (rec .ready none)):=by
  rw[<-hW1,<-hd];have h:=World.alloc_heap_new (w.alloc (.deferred (some []))) (.loop (rec .ready none))
  rwa [World.size_alloc]at h
 have eD:W1.heap[d]?=some (.deferred (some [])):=by
  rw[<-hW1,<-hd];exact(Below.heap_alloc _ _ _ (by simp)).trans (World.alloc_heap_new w _)
 have hz1:W1.heap.size=d+2:=by rw[<-hW1,<-hd];simp
 have i1:I [] W1:=by rw[<-hW1];exact hI.alloc _ (hI.alloc _ h0)
 have turn: ∀{W:World} {o:Obj} (o':Obj),W.heap[d+1]?=some o->(W.putObj (d+1) o').heap[d+1]?=some o'/\((W.putObj (d+1) o').heap[d]?=W.heap[d]?):=
  fun {W o} o' h=>⟨World.putObj_heap_same (Array.getElem?_eq_some_iff.1 h).1,World.putObj_heap_other (by omega)⟩
 refine⟨d+1,[{target:=.collected d,args:= #[]}],W1,{target:=.fn (.func gf) lb,args:= #[.func (.yield (d+1)) #[] #[]]},W1,gf,#[.func (.yield (d+1)) #[] #[]]++lb,W1,?_,?_,?_,?_,fun _=>h1,?_⟩
 ·rw[<-hW1,hrec,<-hd];exact run_enterLoop_outer _ _ _ _ _
 ·simp only[resolve,hg];simp[go_sem]
 ·intro f' hf'
  simp[Target.leads]at hf';subst hf';exact hFg
 ·simp[invoke,go_sem,eg]
 ·refine(hseq (d+1) (fun pre W=>I pre W/\W.heap[d+1]?=some (.loop (rec .ready none))/\W.heap[d]?=some (.deferred (some [])))
   (fun pre W=>Ix pre W/\W.heap[d+1]?=some (.loop (rec .done (some c)))/\W.heap[d]?=some (.deferred (some []))) W1 (fun pre W h=>h.1) (fun pre W W' row h hg hr=>⟨hI pre W W' row h.1 hg (fun r e=>⟨Nat.le_trans (by omega) (hr r e).1,(hr r e).2⟩),(hg.block _ (Array.getElem?_eq_some_iff.1 h.2.1).1 (fun e=>by have:=(hr _ e.symm).1;omega)).trans h.2.1,(hg.block _ (Array.getElem?_eq_some_iff.1 h.2.2).1 (fun e=>by have:=(hr _ e.symm).1;omega)).trans h.2.2⟩) (fun pre W W' row h hg hr=>⟨hIx pre W W' row h.1 hg (fun r e=>⟨Nat.le_trans (by omega) (hr r e).1,(hr r e).2⟩),(hg.block _ (Array.getElem?_eq_some_iff.1 h.2.1).1 (fun e=>by have:=(hr _ e.symm).1;omega)).trans h.2.1,(hg.block _ (Array.getElem?_eq_some_iff.1 h.2.2).1 (fun e=>by have:=(hr _ e.symm).1;omega)).trans h.2.2⟩) (by omega) ?_ ⟨i1,eL,eD⟩).mono ?_
  ·rintro pre x W ⟨hi,hl,hk⟩ hok
   have hy:=run_yield (P:=P) (args:=encs x) hl (by rw[hrec];exact hps x);rw[hrec]at hy;obtain⟨W2,hW2⟩: ∃W2,W.putObj (d+1) (.loop {rec .ready none with state:=.busy})=W2:=⟨_,rfl⟩;have hb:=run_beginRound (P:=P) hl (by rw[hrec]);rw[hW2]at hb;have t:=turn (.loop {rec .ready none with state:=.busy}) hl;rw[hW2]at t;have i2:I pre W2:=by rw[<-hW2];exact hI.putObj _ hi (by omega) hl rfl
   refine⟨fn,_,assign,body,hy,roundIn_of_wpIn hfn (hassign _ x W _ ⟨W2,hb,wpIn_mono (hbody _ pre x _ i2 hok) ?_⟩)⟩;have close: ∀(j:Option Code) (W3:World),KeepsFrom d W2 W3-> ∃W4,(Instr.endRound (d+1) j).run P W3=.ok (.bool j.isNone) W4/\W4=W3.putObj (d+1) (.loop (rec (if j.isNone then .ready else .done) j))/\
    W3.heap[d+1]?=some (.loop {rec .ready none with state:=.busy})/\W4.heap[d+1]?=some (.loop (rec (if j.isNone then .ready else .done) j))/\W4.heap[d]?=some (.deferred (some []))/\KeepsFrom W1.heap.size W W4:=fun j W3 hk3=>by
    have l3:=hk3.same _ _ (by omega) t.1 rfl;have k3:=hk3.same _ _ (by omega) (t.2.trans hk) rfl;have he:=run_endRound (P:=P) j l3;have t3:=turn (.loop (rec (if j.isNone then .ready else .done) j)) l3;refine⟨_,he,?_,l3,?_,?_,?_⟩
    ·rw[hrec]
    ·have:=t3.1;rw[hrec]at this ⊢;exact this
    ·exact(World.putObj_heap_other (by omega)).trans k3
    ·refine⟨?_,fun k o hk4 ho hc=>?_⟩
     ·have e1:W2.heap.size=W.heap.size:=by rw[<-hW2];simp[World.putObj]
      have e2:=hk3.size;have e3: ∀o:Obj,(W3.putObj (d+1) o).heap.size=W3.heap.size:=fun o=>by simp[World.putObj]
      rw[e3];omega
     ·refine(World.putObj_heap_other (by omega)).trans (hk3.same k o (by omega) ?_ hc)
      rw[<-hW2];exact(World.putObj_heap_other (by omega)).trans ho
   rintro e a3 W3 hp
   cases e with
   |normal=>
    obtain⟨hk3,hi3⟩:=hp;obtain⟨W4,he,hW4,l3,l4,k4,kk⟩:=close none W3 hk3;refine⟨_,_,he,kk,.inl ⟨rfl,?_,l4,k4⟩⟩;rw[hW4];exact hI.putObj _ hi3 (by omega) l3 rfl
   |exit id=>
    obtain⟨hc,hk3,hi3⟩:=hp;obtain⟨W4,he,hW4,l3,l4,k4,kk⟩:=close (some (.exit id)) W3 hk3;refine⟨_,_,he,kk,.inr ⟨rfl,?_,by rw[hc];exact l4,k4⟩⟩;rw[hW4];exact hIx.putObj _ hi3 (by omega) l3 rfl
   |ret=>
    obtain⟨hc,hk3,hi3⟩:=hp;obtain⟨W4,he,hW4,l3,l4,k4,kk⟩:=close (some .ret) W3 hk3;refine⟨_,_,he,kk,.inr ⟨rfl,?_,by rw[hc];exact l4,k4⟩⟩;rw[hW4];exact hIx.putObj _ hi3 (by omega) l3 rfl
   |goto t=>exact hp.elim
   |panic ch=>exact hp.elim
   |outgrown=>exact hp.elim
  ·rintro e W2 ⟨⟨v,rfl⟩,(⟨xs,hS,hi,hl,hk⟩|⟨pre,hSp,hi,hl,hk⟩)⟩
   ·have he:=run_endLoop (P:=P) hl (by rw[hrec];simp)
    rw[hrec]at he;have t:=turn (.loop {rec .ready none with state:=.exhausted}) hl;refine⟨none,_,he,hdone d xs _ (by omega) hS (hI.putObj _ hi (by omega) hl rfl) ?_⟩;have:=t.2.trans hk;rw[hrec]at this;exact this
   ·have he:=run_endLoop (P:=P) hl (by rw[hrec];simp)
    rw[hrec]at he;have t:=turn (.loop {rec .done (some c)with state:=.exhausted}) hl;refine⟨some c,_,he,hstop d pre _ (by omega) hSp (hIx.putObj _ hi (by omega) hl rfl) ?_⟩;have:=t.2.trans hk;rw[hrec]at this;exact this
end Go.Proofs.Ytmebpglkeedaoaa
namespace Go.Proofs.Ytmebpglkeedaoaa
open Go.RowKit Go.Shelf Dp
attribute [local go_sem] Oper.semAt_some
theorem mX {m m' k l:Nat} {P:Program} {f:FuncId} {tmps:Array Value} {assign body:Code} {w:World} {R:Ending->World->Prop} (h:RoundIn Fence.wide m P l f tmps assign body w R):RoundIn (Fence.wide.inRound k) m' P l f tmps assign body w R:=
 ⟨h.1,fun c cs _=>h.2 c cs (room_wide _)⟩
theorem j4 {w w':World} (h:Below w.heap.size w w'):w.grownBy w' none:=⟨h.os,h.tape,h.output,h.size,fun k hk _=>h.block k hk⟩
theorem Jo (v:Array Value) (a b:Value) (w:World) (hv: ∃v0 v1 v2 v3 v4 v5,v= #[v0,v1,v2,v3,v4,v5]) (ha: ∃A n c,a=.slice A n c) (hb: ∃A n c,b=.slice A n c):
 Calls Try.prog 75 #[.agg v,a,b] w fun e w'=>e=.returned (.func (.func 107) #[] #[.pointer (some ⟨w.heap.size,0,none⟩),.pointer (some ⟨w.heap.size+1,0,none⟩),.pointer (some ⟨w.heap.size+2,0,none⟩)])/\w'=((w.alloc (.cells v 63)).alloc (.cells #[a] 22)).alloc (.cells #[b] 22):=by
 obtain⟨v0,v1,v2,v3,v4,v5,rfl⟩:=hv;obtain⟨A,n,c,rfl⟩:=ha;obtain⟨B,m,d,rfl⟩:=hb;go_enter Try.func75,Try.ntmps75
 go_wp2
 go_ret;exact⟨rfl,rfl⟩
def lvs (c:Car) (x y:List Int) (k:Nat):List (Int×Int):=(List.range k).map fun (j:Nat)=>((j:Int),lev c x y j)
theorem Jp (c:Car) (x y:List Int) (k:Nat):lvs c x y (k+1)=lvs c x y k++[((k:Int),lev c x y k)]:=by simp[lvs,List.range_succ]
structure LvM (bc bi bo:Nat) (c:Car) (x y:List Int) (T A B:Option Addr) (q n m cT cA cB:Nat) (W:World):Prop where
 kc:Blk W bc 63 (VA c T q cT).toList
 ki:Blk W bi 22 [.slice A n cA]
 ko:Blk W bo 22 [.slice B m cB]
 kt:fP W T c.trips
 kx:aH W A x
 ky:aH W B y
theorem LvM.below {bc bi bo:Nat} {c:Car} {x y:List Int} {T A B:Option Addr} {q n m cT cA cB:Nat} {W V:World} (h:LvM bc bi bo c x y T A B q n m cT cA cB W) (hb:Below W.heap.size W V):LvM bc bi bo c x y T A B q n m cT cA cB V:=
 ⟨h.kc.below hb h.kc.lt,h.ki.below hb h.ki.lt,h.ko.below hb h.ko.lt,h.kt.below hb (Nat.le_refl _),h.kx.below hb (Nat.le_refl _),h.ky.below hb (Nat.le_refl _)⟩
theorem Ha (bc bi bo:Nat) (c:Car) (x y:List Int) (T A B:Option Addr) (q n m cT cA cB l:Nat) (hq:q=c.trips.length) (hcT:q<=cT/\cT<=9223372036854775807) (hn:n=x.length) (hm:n<=m) (hmy:m=y.length) (hcA:n<=cA/\cA<=9223372036854775807) (hcB:m<=cB/\cB<=9223372036854775807)
 (hbd: ∀k,k<n->(-167772160<=lev c x y k/\lev c x y k<=167772160)/\(0<=x.getD k 0/\x.getD k 0<=1048576)/\(0<=y.getD k 0/\y.getD k 0<=1048576)/\(0<=dz c k/\dz c k<=1048576))
 (J Jx:List (Int×Int)->World->Prop) (hJ: ∀pre W,J pre W->LvM bc bi bo c x y T A B q n m cT cA cB W) (hJo: ∀pre W W',J pre W->Below W.heap.size W W'->J pre W')
 (hY: ∀k,k<=n-> ∀W1,J (lvs c x y k) W1->YieldAt Fence.wide 1 Try.prog l #[.int .i64 k,.int .i64 (lev c x y k)] W1 fun e W'=>(e=.returned (.bool true)/\J (lvs c x y (k+1)) W')∨(e=.returned (.bool false)/\Jx (lvs c x y (k+1)) W'))
 (W:World) (hj:J (lvs c x y 0) W):
 CallsIn Fence.wide 2 Try.prog 107 #[.func (.yield l) #[] #[],.pointer (some ⟨bc,0,none⟩),.pointer (some ⟨bi,0,none⟩),.pointer (some ⟨bo,0,none⟩)] W fun e W'=>(∃v,e=.returned v)/\(J (lvs c x y (n+1)) W'∨(∃k,k<=n/\Jx (lvs c x y (k+1)) W')):=by
 refine callsIn_of_wp Try.func107 rfl trivial ?_ rfl;simp only[Try.ntmps107,List.size_toArray,List.length_cons,List.length_nil,Nat.reduceAdd,Nat.reduceSub,Array.replicate_succ,Array.replicate_zero,List.push_toArray,List.append_toArray,List.nil_append,List.cons_append];have HQ:=zh hq;have HN:=zh hn;have HMY:=zh hmy;have HBD:=zh hbd;have HJ:=zh hJ;have HJO:=zh hJo;have HY:=zh hY;have HJ0:=zh hj;clear hq hn hmy hbd hJ hJo hY;have s0:=(HJ.out _ _ hj).kc.cell 3 rfl;have i0:=(HJ.out _ _ hj).ki.cell 0 rfl;have L0:=zh (show lev c x y 0=c.start from rfl);clear hj
 gi_wp2
 clear s0 i0
 gi_loopw [5,6,7,8,13] (fun lv _ _ _ i wr=> ∃k:Nat,k<=n/\i=.int .i64 k/\lv=.int .i64 (lev c x y k)/\Hid (J (lvs c x y k) wr)) (fun _ _ _ _ i _=>n-(intOf i).toNat)
 case atStart=>exact⟨0,Nat.zero_le _,rfl,by rw[L0.out],HJ0⟩
 case round=>
  obtain⟨k,hk,rfl,rfl,HK⟩:=hrel
  by_cases hlt:k<n
  ·have hki:(k:Int)<(n:Int):=by omega
   have hkm:(k:Int)<(m:Int):=by omega
   obtain⟨fn,tmps,assign,body,hy,hR⟩:=HY.out k hk _ HK.out;have HST:=zh (show lev c x y (k+1)=lev c x y k+(x.getD k 0-y.getD k 0-dz c k)from rfl);have hb:=HBD.out k hlt;have HBB:=zh hb;clear hb;generalize lev c x y k=v at *
   gi_wp2
   refine hR.mono ?_;rintro e W1 (⟨rfl,hJ1⟩|⟨rfl,Jq⟩)
   ·have HJ1:=zh hJ1
    clear hJ1 hy hR;have M1:=HJ.out _ _ HJ1.out;have c0:=M1.kc.cell 0 rfl;have c1:=M1.kc.cell 1 rfl;have c2:=M1.kc.cell 2 rfl;have c3:=M1.kc.cell 3 rfl;have c4:=M1.kc.cell 4 rfl;have c5:=M1.kc.cell 5 rfl;have TC:=uH (.int .i64 c.cap) (.int .i64 c.inn) (.int .i64 c.out) (.int .i64 c.start) (.int .i64 c.fin) k T c.trips q cT W1 HQ.out hcT M1.kt;rw[show iM c.trips k q=dz c k from by unfold dz;rw[HQ.out]]at TC;clear M1
    gi_wp2
    refine⟨trivial,callsIn_wide.2 (TC.mono ?_)⟩;rintro e W2 ⟨rfl,hb2⟩;clear c0 c1 c2 c3 c4 c5;have HJ2:=zh (HJO.out _ _ _ HJ1.out hb2);clear hb2;generalize fO c.trips k q=aw;have M2:=HJ.out _ _ HJ2.out;have i0:=M2.ki.cell 0 rfl;have o0:=M2.ko.cell 0 rfl;have il:=M2.ki.lt;have ol:=M2.ko.lt;obtain⟨pd,rfl,pbl,px⟩:=M2.kx k (by rw[<-HN.out];exact hlt);obtain⟨qd,rfl,qbl,qx⟩:=M2.ky k (by rw[<-HMY.out];omega);have pb2:(pd.add k).block<W2.heap.size:=by rw[block_add];exact pbl
    have qb2:(qd.add k).block<W2.heap.size:=by rw[block_add];exact qbl
    clear M2
    gi_wp2
    generalize x.getD k 0=a at *;generalize y.getD k 0=b at *;generalize dz c k=u at *;have w1e:IntKind.i64.wrap (a-b)=a-b:=IntWalk.i64_in _ (by have:=HBB.out;omega);have w2e:IntKind.i64.wrap (a-b-u)=a-b-u:=IntWalk.i64_in _ (by have:=HBB.out;omega);have w3e:IntKind.i64.wrap (v+(a-b-u))=v+(a-b-u):=IntWalk.i64_in _ (by have:=HBB.out;omega);refine wpIn_wide.2 ?_;refine wrp ?_
    repeat(go_big_quiet_step (fail))
    refine wpQuiet_nil ?_;intro xx;have HJ3:=zh (HJO.out _ _ _ HJ2.out xx.far);generalize xx.w=W3 at HJ3 ⊢;clear i0 o0 il ol pb2 qb2 px qx pbl qbl w1e w2e w3e
    gi_wp2
    exact⟨⟨k+1,by omega,by go_num,by rw[HST.out],HJ3⟩,by simp[intOf];omega⟩
   ·have HJX:=zh Jq
    clear Jq hy hR
    gi_wp2
    refine bodyPost_ret (results_none rfl _ _ _) rfl ?_;exact⟨⟨_,rfl⟩,.inr ⟨k,hk,HJX.out⟩⟩
  ·obtain rfl:n=k:=by omega
   obtain⟨fn,tmps,assign,body,hy,hR⟩:=HY.out n hk _ HK.out;have i0:=(HJ.out _ _ HK.out).ki.cell 0 rfl
   gi_wp2
   refine hR.mono ?_;rintro e W1 (⟨rfl,hJ1⟩|⟨rfl,Jq⟩)
   ·have HJ1:=zh hJ1
    clear hJ1 hy hR i0
    gi_wp2
    go_end0
    exact⟨⟨_,rfl⟩,.inl HJ1.out⟩
   ·have HJX:=zh Jq
    clear Jq hy hR i0
    gi_wp2
    go_end0
    exact⟨⟨_,rfl⟩,.inr ⟨n,hk,HJX.out⟩⟩
end Go.Proofs.Ytmebpglkeedaoaa
namespace Go.Proofs.Ytmebpglkeedaoaa
open Go.RowKit Dp
theorem MW (T:Option Addr) (q cT n bn:Nat) (w:World) (hb:w.cell? ⟨bn,0,none⟩=some (.int .i64 n)):
 Calls Try.prog 106 #[.slice T q cT,.pointer (some ⟨bn,0,none⟩)] w fun e w'=>e=.returned (.bool (!decide (q=n)))/\w=w':=by
 by_cases h:q=n
 ·subst h
  go_enter Try.func106,Try.ntmps106
  go_wp2
  go_ret;exact⟨bM (by simp),rfl⟩
 ·have h1: ¬(q:Int)=(n:Int):=by omega
  have h2:((q:Int)==(n:Int))=false:=by simpa using h1
  go_enter Try.func106,Try.ntmps106
  go_wp2
  go_ret;exact⟨bM (by simp[h];exact h1),rfl⟩
theorem BJ (A:Option Addr) (rows:List (List Int)) (m cap n bn:Nat) (w:World) (hm:m=rows.length) (hcap:m<=cap/\cap<=9223372036854775807) (hR:iA w A rows) (hb:w.cell? ⟨bn,0,none⟩=some (.int .i64 n)):
 Calls Try.prog 113 #[.slice A m cap,.func (.func 106) #[] #[.pointer (some ⟨bn,0,none⟩)]] w fun e w'=>(∃r:Int,e=.returned (.int .i64 r)/\(0<=r↔ji m (fun i=>decide ((rows.getD i []).length=n))=false))/\w=w':=by
 have HM:=zh hm;have HR:=zh hR;clear hm hR;have LC:=zh (fun T q cT=>MW T q cT n bn w hb);clear hb;go_enter Try.func113,Try.ntmps113;go_wp2_with fail
 go_loop [4,5,8] (fun _ _ i=> ∃k:Nat,k<=m/\i=.int .i64 k/\Hid (∀j,j<k->(rows.getD j []).length=n)) (fun _ _ i=>m-(intOf i).toNat)
 case atStart=>exact⟨0,Nat.zero_le _,rfl,zh (fun j hj=>by omega)⟩
 case round=>
  obtain⟨k,hk,rfl,HK⟩:=hrel
  by_cases hlt:k<m
  ·have hki:(k:Int)<(m:Int):=by omega
   obtain⟨ad,rfl,abl,T,cT,c0,cb,_⟩:=HR.out k (by rw[<-HM.out];exact hlt);have HL:=zh (show(rows.getD k []).length=(rows.getD k []).length from rfl);have LK:=LC.out T (rows.getD k []).length cT
   by_cases hq:(rows.getD k []).length=n
   ·have HQ:=zh hq
    rw[hq]at c0 LK cb;clear hq;rw[show(!decide (n=n))=false from by simp]at LK;go_wp2_with (go_at_call 106;refine LK.mono ?_;rintro e w1 ⟨rfl,rfl⟩)
    go_round
    case rel=>
     refine⟨k+1,by omega,by go_num,zh (fun j hj=>?_)⟩
     by_cases hjk:j<k
     ·exact HK.out j hjk
     ·obtain rfl:j=k:=by omega
      exact HQ.out
    case measure=>simp[intOf];omega
   ·have HA:=zh (jZ (n:=m) (p:=fun i=>decide ((rows.getD i []).length=n)) k hlt (decide_eq_false hq))
    rw[show(!decide ((rows.getD k []).length=n))=true from by rw[decide_eq_false hq];rfl]at LK;generalize (rows.getD k []).length=q at *;clear hq;go_wp2_with (go_at_call 106;refine LK.mono ?_;rintro e w1 ⟨rfl,rfl⟩)
    go_ret;exact⟨⟨_,rfl,fun _=>HA.out,fun _=>by omega⟩,rfl⟩
  ·obtain rfl:m=k:=by omega
   have HA:=zh (dD (n:=m) (p:=fun i=>decide ((rows.getD i []).length=n)) |>.2 (fun j hj=>decide_eq_true (HK.out j hj)));go_wp2_with fail
   go_ret;exact⟨⟨_,rfl,fun h=>by omega,fun h=>by have h':=HA.symm.trans h;cases h'⟩,rfl⟩
theorem mq (A:Option Addr) (rows:List (List Int)) (m cap n bn:Nat) (w:World) (hm:m=rows.length) (hcap:m<=cap/\cap<=9223372036854775807) (hR:iA w A rows) (hb:w.cell? ⟨bn,0,none⟩=some (.int .i64 n)):
 Calls Try.prog 105 #[.slice A m cap,.func (.func 106) #[] #[.pointer (some ⟨bn,0,none⟩)]] w fun e w'=>e=.returned (.bool (!ji m (fun i=>decide ((rows.getD i []).length=n))))/\w=w':=by
 have IC:=BJ A rows m cap n bn w hm hcap hR hb;clear hR hm hb;generalize ji m (fun i=>decide ((rows.getD i []).length=n))=v at *;go_enter Try.func105,Try.ntmps105;go_wp2_with fail
 refine IC.mono ?_;rintro e w1 ⟨⟨r,rfl,hr⟩,rfl⟩
 by_cases h0:0<=r
 ·have hv:=hr.1 h0
  subst hv;clear hr IC;go_wp2_with fail
  go_ret;exact⟨bM (by simp),rfl⟩
 ·have hv:v=true:=by cases v
                     ·exact absurd (hr.2 rfl) h0
                     ·rfl
  subst hv;clear hr IC;go_wp2_with fail
  go_ret;exact⟨bM (by simpa using h0),rfl⟩
theorem Jr (v:Array Value) (a:Value) (u:Array Value) (w:World) (hv: ∃v0 v1 v2 v3,v= #[v0,v1,v2,v3]) (ha: ∃A n c,a=.slice A n c) (hu: ∃v0 v1,u= #[v0,v1]):
 Calls Try.prog 74 #[.agg v,a,.agg u] w fun e w'=>e=.returned (.func (.func 104) #[] #[.pointer (some ⟨w.heap.size,0,none⟩),.pointer (some ⟨w.heap.size+2,0,none⟩),.pointer (some ⟨w.heap.size+1,0,none⟩)])/\w'=((w.alloc (.cells v 51)).alloc (.cells #[a] 52)).alloc (.cells u 55):=by
 obtain⟨v0,v1,v2,v3,rfl⟩:=hv;obtain⟨A,n,c,rfl⟩:=ha;obtain⟨u0,u1,rfl⟩:=hu;go_enter Try.func74,Try.ntmps74
 go_wp2
 go_ret;exact⟨rfl,rfl⟩
end Go.Proofs.Ytmebpglkeedaoaa
namespace Go.Proofs.Ytmebpglkeedaoaa
namespace Dp
section
variable {S:Site} {cs:List Car} {T:Tab}
theorem kg: ∀{n:Nat},(∀k,k<n->fE S cs T k=0)->iy S cs T n=0
 |0,_=>rfl
 |n+1,h=>by
  unfold iy;rw[kg (fun k hk=>h k (by omega)),if_pos rfl];exact h n (by omega)
theorem vJ {k:Nat} {e:Int} (h: ∀j,j<k->fE S cs T j=0) (he:fE S cs T k=e) (h0:e≠0): ∀d,iy S cs T (k+1+d)=e
 |0=>by
  show iy S cs T (k+1)=e
  unfold iy;rw[kg h,if_pos rfl,he]
 |d+1=>by
  have ih:=vJ h he h0 d
  show iy S cs T (k+1+d+1)=e
  unfold iy;rw[ih,if_neg h0]
theorem mY (h0:stE S cs=0) (h:(fQ cs.length S.lim.length T.inn&&fQ cs.length S.lim.length T.out)=false):plE S cs T=20:=by
 unfold plE;rw[if_pos h0,h];rfl
theorem oI (h0:stE S cs=0) (hl:(fQ cs.length S.lim.length T.inn&&fQ cs.length S.lim.length T.out)=true) {k:Nat} {e:Int} (hk:k<S.lim.length) (h: ∀j,j<k->fE S cs T j=0) (he:fE S cs T k=e) (hne:e≠0):plE S cs T=e:=by
 have:=vJ h he hne (S.lim.length-(k+1));rw[show k+1+(S.lim.length-(k+1))=S.lim.length by omega]at this;unfold plE;rw[if_pos h0,if_pos hl,this,if_neg hne]
theorem Fe (h0:stE S cs=0) (hl:(fQ cs.length S.lim.length T.inn&&fQ cs.length S.lim.length T.out)=true) (h: ∀j,j<S.lim.length->fE S cs T j=0) {i:Nat} (hi:i<cs.length) {k:Nat} (hk:k<=S.lim.length)
 (hg:jk (cs.getD i default) (T.inn.getD i []) (T.out.getD i []) S.lim.length k=false):plE S cs T=19:=by
 have h1:BI cs T S.lim.length i=false:=jZ k (by omega) hg;have h2:ji cs.length (BI cs T S.lim.length)=false:=jZ i hi h1;unfold plE;rw[if_pos h0,if_pos hl,kg h,if_pos rfl,h2];rfl
theorem mr (h0:stE S cs=0) (hl:(fQ cs.length S.lim.length T.inn&&fQ cs.length S.lim.length T.out)=true) (h: ∀j,j<S.lim.length->fE S cs T j=0)
 (hg: ∀i,i<cs.length-> ∀k,k<=S.lim.length->jk (cs.getD i default) (T.inn.getD i []) (T.out.getD i []) S.lim.length k=true):plE S cs T=0:=by
 have h2:ji cs.length (BI cs T S.lim.length)=true:=dD.2 fun i hi=>dD.2 fun k hk=>hg i hi k (by omega)
 unfold plE;rw[if_pos h0,if_pos hl,kg h,if_pos rfl,if_pos h2]
theorem vK {k i:Nat} (hi:i<cs.length) (h:eZ cs T k i=false):fE S cs T k=3:=by
 have:ji cs.length (eZ cs T k)=false:=jZ i hi h;unfold fE;rw[this];rfl
theorem vL {k:Nat} (h: ∀i,i<cs.length->eZ cs T k i=true) (hd: ¬(drP T k T.inn.length<=S.lim.getD k 0/\ -(S.exp.getD k 0)<=drP T k T.inn.length)):fE S cs T k=17:=by
 have:ji cs.length (eZ cs T k)=true:=dD.2 h;unfold fE;rw[if_pos this,if_neg hd]
theorem mD {k:Nat} (h: ∀i,i<cs.length->eZ cs T k i=true) (hd:drP T k T.inn.length<=S.lim.getD k 0/\ -(S.exp.getD k 0)<=drP T k T.inn.length):fE S cs T k=0:=by
 have:ji cs.length (eZ cs T k)=true:=dD.2 h;unfold fE;rw[if_pos this,if_pos hd]
theorem Ff (h0:stE S cs=0) (hl:(fQ cs.length S.lim.length T.inn&&fQ cs.length S.lim.length T.out)=true) {k:Nat} (hk:k<S.lim.length) (h: ∀i,i<cs.length->eZ cs T k i=true):lJ T k cs.length:=by
 rw[Bool.and_eq_true]at hl;have a:=bP.1 hl.1;have b:=bP.1 hl.2;intro i hi;have c:=aT.1 ((aW h0).2.2.2 i hi);have d:=dL.1 (h i hi);have e:=a.2 i hi;have f:=b.2 i hi;exact⟨⟨by omega,by omega⟩,⟨by omega,by omega⟩,by omega,by omega⟩
theorem Js (h0:stE S cs=0) (hl:(fQ cs.length S.lim.length T.inn&&fQ cs.length S.lim.length T.out)=true) (h: ∀k,k<S.lim.length-> ∀i,i<cs.length->eZ cs T k i=true) {i:Nat} (hi:i<cs.length):
 pX S.lim.length (T.inn.getD i [])/\pX S.lim.length (T.out.getD i []):=by
 rw[Bool.and_eq_true]at hl;have a:=bP.1 hl.1;have b:=bP.1 hl.2;have c:=aT.1 ((aW h0).2.2.2 i hi);refine⟨⟨a.2 i hi,fun k hk=>?_⟩,⟨b.2 i hi,fun k hk=>?_⟩⟩
 ·have d:=dL.1 (h k hk i hi)
  omega
 ·have d:=dL.1 (h k hk i hi)
  omega
theorem uI {k:Nat} (h:fE S cs T k=0): ∀i,i<cs.length->eZ cs T k i=true:=(Fa h).1
end
theorem MX {n:Nat} {c:Car} {x y:List Int} (hn:n<=48) (hc:dE n c=true) (hx:pX n x) (hy:pX n y): ∀k,k<n->(-167772160<=lev c x y k/\lev c x y k<=167772160)/\(0<=x.getD k 0/\x.getD k 0<=1048576)/\(0<=y.getD k 0/\y.getD k 0<=1048576)/\(0<=dz c k/\dz c k<=1048576):=by
 intro k hk;have h1:=Du hc hx hy k (by omega);exact⟨⟨by omega,by omega⟩,hx.2 k hk,hy.2 k hk,iN hc k⟩
end Dp
end Go.Proofs.Ytmebpglkeedaoaa
namespace Go.Proofs.Ytmebpglkeedaoaa
open Go Go.RowKit
def mE (r:Nat):Deferred:={target:=.collected r,args:= #[]}
def Marks (B:Nat) (ds:List Deferred) (W:World):Prop:= ∃rs:List Nat,ds=rs.map mE/\rs.Nodup/\ ∀r,r∈rs->B<=r/\W.heap[r]?=some (.deferred (some []))
theorem Marks.nil (B:Nat) (W:World):Marks B [] W:=⟨[],rfl,List.nodup_nil,fun r h=>by cases h⟩
theorem Marks.keep {B:Nat} {ds:List Deferred} {W W':World} (h:Marks B ds W) (k:KeepsFrom B W W'):Marks B ds W':=by
 obtain⟨rs,h1,h2,h3⟩:=h;exact⟨rs,h1,h2,fun r hr=>⟨(h3 r hr).1,k.same r _ (h3 r hr).1 (h3 r hr).2 rfl⟩⟩
theorem Marks.below {B:Nat} {ds:List Deferred} {W W':World} (h:Marks B ds W) (k:Below W.heap.size W W'):Marks B ds W':=by
 obtain⟨rs,h1,h2,h3⟩:=h;exact⟨rs,h1,h2,fun r hr=>⟨(h3 r hr).1,(k.block r (Array.getElem?_eq_some_iff.1 (h3 r hr).2).1).trans (h3 r hr).2⟩⟩
theorem Marks.cons {B D:Nat} {ds:List Deferred} {W0 W:World} (h0:Marks B ds W0) (hz:W0.heap.size<=D) (hB:B<=D) (h:Marks B ds W) (hD:W.heap[D]?=some (.deferred (some []))):Marks B (mE D::ds) W:=by
 obtain⟨rs,h1,h2,h3⟩:=h;obtain⟨rs0,h4,h5,h6⟩:=h0;have e:rs0=rs:=by
  rw[h4]at h1;have hinj: ∀a b,mE a=mE b->a=b:=fun a b e=>by cases e;rfl
  clear h2 h3 h4 h5 h6
  induction rs0 generalizing rs with
  |nil=>cases rs with
   |nil=>rfl
   |cons a l=>cases h1
  |cons a l ih=>cases rs with
   |nil=>cases h1
   |cons b m=>
    simp only[List.map_cons,List.cons.injEq]at h1;rw[hinj _ _ h1.1,ih m h1.2]
 subst e;refine⟨D::rs0,by rw[h1];rfl,List.nodup_cons.2 ⟨fun hm=>?_,h2⟩,fun r hr=>?_⟩
 ·have:=(Array.getElem?_eq_some_iff.1 (h6 D hm).2).1
  omega
 ·rcases List.mem_cons.1 hr with rfl|hr
  ·exact⟨hB,hD⟩
  ·exact h3 r hr
theorem Hd {B D:Nat} {ds:List Deferred} {W0:World} (h0:Marks B ds W0) (hz:W0.heap.size<=D):OwnFrom D (fun (_:Unit) W=>Marks B ds W):=by
 rintro _ W W' row ⟨rs,h1,h2,h3⟩ hg hr;obtain⟨rs0,h4,h5,h6⟩:=h0;have e: ∀r,r∈rs->r<W0.heap.size:=fun r hm=>by
  have:mE r∈rs0.map mE:=by rw[<-h4,h1];exact List.mem_map_of_mem hm
  obtain⟨r',hr',e⟩:=List.mem_map.1 this
  cases e
  exact(Array.getElem?_eq_some_iff.1 (h6 _ hr').2).1
 refine⟨rs,h1,h2,fun r hm=>⟨(h3 r hm).1,(hg.block r (Array.getElem?_eq_some_iff.1 (h3 r hm).2).1 (fun e'=>?_)).trans (h3 r hm).2⟩⟩;have:=(hr r e'.symm).1;have:=e r hm;omega
theorem jA {F:Fence} {n:Nat} {P:Program} {fn:Func} {tmps:Array Value} {R:Ending->World->Prop} {B:Nat} {C:World->Prop} {u:FrameMode} (hu:u≠ .run)
 (hC:OwnFrom B (fun (_:Unit) W=>C W)) (hend: ∀W,C W->LeavesInM F n P fn tmps R [] u W) {ds:List Deferred} {W:World} (hm:Marks B ds W) (hc:C W):LeavesInM F n P fn tmps R ds u W:=by
 obtain⟨rs,rfl,h2,h3⟩:=hm
 induction rs generalizing W with
 |nil=>exact hend W hc
 |cons r rs ih=>
  have hr:=h3 r (by simp);refine⟨hu,.inl ⟨r,_,rfl,run_takeDeferred hr.2,?_⟩⟩;refine ih (hC.putObj (s:=()) _ hc hr.1 hr.2 rfl) (List.nodup_cons.1 h2).2 (fun r' hr'=>?_);have hne:r'≠r:=fun e=>(List.nodup_cons.1 h2).1 (e▸hr')
  have:=h3 r' (by simp[hr']);exact⟨this.1,(World.putObj_heap_other hne).trans this.2⟩
end Go.Proofs.Ytmebpglkeedaoaa
namespace Go.Proofs.Ytmebpglkeedaoaa
open Go.RowKit Go.Shelf Dp
attribute [local go_sem] Oper.semAt_some
structure FtH (S:Site) (cs:List Car) (T:Tab) (n m p q cA cB cC cD cE cP cQ:Nat):Prop where
 hn:n=S.lim.length
 hm:m=cs.length
 hp:p=T.inn.length
 hq:q=T.out.length
 ok:stE S cs=0
 ha:n<=cA/\cA<=9223372036854775807
 hb:n<=cB/\cB<=9223372036854775807
 hc:n<=cC/\cC<=9223372036854775807
 hd:n<=cD/\cD<=9223372036854775807
 he:m<=cE/\cE<=9223372036854775807
 hx:p<=cP/\cP<=9223372036854775807
 hy:q<=cQ/\cQ<=9223372036854775807
structure FtM (bs bt bc:Nat) (S:Site) (cs:List Car) (T:Tab) (A B C D E P Q:Option Addr) (n m p q cA cB cC cD cE cP cQ:Nat) (W:World):Prop where
 ks:Blk W bs 51 [.slice A n cA,.slice B n cB,.slice C n cC,.slice D n cD]
 kt:Blk W bt 55 [.slice P p cP,.slice Q q cQ]
 kc:Blk W bc 52 [.slice E m cE]
 hs:bH W A B C D S
 ht:eu W P Q T
 hc:df W E cs
theorem FtM.below {bs bt bc:Nat} {S:Site} {cs:List Car} {T:Tab} {A B C D E P Q:Option Addr} {n m p q cA cB cC cD cE cP cQ:Nat} {W V:World} (h:FtM bs bt bc S cs T A B C D E P Q n m p q cA cB cC cD cE cP cQ W) (hb:Below W.heap.size W V):FtM bs bt bc S cs T A B C D E P Q n m p q cA cB cC cD cE cP cQ V:=
 ⟨h.ks.below hb h.ks.lt,h.kt.below hb h.kt.lt,h.kc.below hb h.kc.lt,h.hs.below hb (Nat.le_refl _),h.ht.below hb (Nat.le_refl _),h.hc.below hb (Nat.le_refl _)⟩
theorem Dv {R:Ending->World->Prop} {tmps:Array Value} {n:Nat}: ∀W:World,(∀v,R (.returned v) W)->LeavesInM Fence.wide n Try.prog Try.f104 tmps R [] .returning W:=fun W h=>⟨_,results_none rfl _ _ _,h _⟩
attribute [local go_sem] Oper.semAt_some
noncomputable def Fg:Code:=((Try.f104.body.bind (gq 6)).getD .skip)
def St8 (J:World->Prop) (b4 b5 l n D0:Nat) (V:World):Prop:=J V/\Blk V b4 161 [.func (.yield l) #[] #[]]/\Blk V b5 3 [.int .i64 n]/\D0<=V.heap.size
def VB (S:Site) (cs:List Car) (T:Tab) (J:World->Prop) (Jx:Int->World->Prop):Ending->World->Prop:=fun e W'=>(∃v,e=.returned v)/\((plE S cs T=0/\J W')∨(plE S cs T≠0/\Jx (plE S cs T) W'))
def VC (S:Site) (cs:List Car) (T:Tab) (J:World->Prop) (b4 b5 l n m D0:Nat) (v:Value) (ds:List Deferred) (w:World):Prop:=
 ∃i:Nat,v=.int .i64 i/\i<=m/\Marks D0 ds w/\St8 J b4 b5 l n D0 w/\ ∀x,x<i-> ∀k,k<=n->jk (cs.getD x default) (T.inn.getD x []) (T.out.getD x []) n k=true
theorem oJ {W W':World} {row:Option Nat} {g D:Nat} {t:TypeId} {vs:List Value} (h:Blk W g t vs) (hg:W.grownBy W' row) (hr: ∀r,row=some r->D<=r/\ ∃o:Obj,W.heap[r]?=some o/\o.isCells=false):Blk W' g t vs:=
 h.of_eq (hg.block g h.lt (fun e=>by
  obtain⟨o,ho,hc⟩:=(hr g e.symm).2;have h':W.heap[g]?=some (.cells vs.toArray t (0,0)):=h;rw[h']at ho
  cases ho
  cases hc))
theorem He (bs bt bc b4 b5:Nat) (S:Site) (cs:List Car) (T:Tab) (A B C D E P Q:Option Addr) (n m p q cA cB cC cD cE cP cQ l D0:Nat) (hH:FtH S cs T n m p q cA cB cC cD cE cP cQ) (hpm:p=m) (hqm:q=m)
 (hL:(fQ cs.length S.lim.length T.inn&&fQ cs.length S.lim.length T.out)=true) (hSl: ∀j,j<n->fE S cs T j=0)
 (J:World->Prop) (Jx:Int->World->Prop) (hJ: ∀W,J W->FtM bs bt bc S cs T A B C D E P Q n m p q cA cB cC cD cE cP cQ W) (hJo:OwnFrom D0 (fun (_:Unit) W=>J W)) (Jt: ∀e,OwnFrom D0 (fun (_:Unit) W=>Jx e W))
 (hY: ∀e W1,J W1->YieldAt Fence.wide 1 Try.prog l #[.int .i64 e] W1 fun e' W'=>KeepsFrom D0 W1 W'/\e'=.returned (.bool false)/\Jx e W')
 (W0:World) (h0:St8 J b4 b5 l n D0 W0) {x6 x7 x8 x9 x10 x11 x12 x13 x14 x15 x16 x17 x18 x19 x20 x21 x22 x23 x24 x25 x26 x27 x28 x29 x30 x31 x32 x33 x34 x35 x36 x37 x38 x39 x40 x41 x42 x43 x44 x45 x46 x47 x48 x49 x50 x51 x52 x53 x54 x55 x56 x57 x58 x59 x60 x61 x62 x63 x64 x65 x66 x67 x68 x69 x70 x71 x72 x73 x74 x75 x76 x77 x78 x79 x80 x81 x82 x83 x84 x85 x86 x87 x88 x89 x90 x91 x92 x93 x94 x95 x96 x97 x98 x99 x100 x101 x102 x103 x104 x105 qy x107 qz qA qB qC x112 x113 x114 x115 qD qE qG qH qI qJ qK qL qM qO qQ qR qU qV qW qX qY tQ tT tV tX tY tZ uf ug uh ui uj uk uo uq x150 x151 x152 x153 uu uw uy x157 x158 x159 x160 uA uB uC uD uE uF x167 x168 xh xk xm xn xq xu xw xy xA xB xC xD xE xG xH xI xJ xK xL xM xN:Value}:
 Code.wpIn Fence.wide 2 Try.prog Fg (Exit.inBlock 6 (bodyPostM Fence.wide 2 Try.prog Try.f104 (VB S cs T J Jx))) {tmps:=List.toArray ((.func (.yield l) #[] #[]:Value)::(.pointer (some ⟨bs,0,none⟩):Value)::(.pointer (some ⟨bt,0,none⟩):Value)::(.pointer (some ⟨bc,0,none⟩):Value)::(.pointer (some ⟨b4,0,none⟩):Value)::(.pointer (some ⟨b5,0,none⟩):Value)::x6::x7::x8::x9::x10::x11::x12::x13::x14::x15::x16::x17::x18::x19::x20::x21::x22::x23::x24::x25::x26::x27::x28::x29::x30::x31::x32::x33::x34::x35::x36::x37::x38::x39::x40::x41::x42::x43::x44::x45::x46::x47::x48::x49::x50::x51::x52::x53::x54::x55::x56::x57::x58::x59::x60::x61::x62::x63::x64::x65::x66::x67::x68::x69::x70::x71::x72::x73::x74::x75::x76::x77::x78::x79::x80::x81::x82::x83::x84::x85::x86::x87::x88::x89::x90::x91::x92::x93::x94::x95::x96::x97::x98::x99::x100::x101::x102::x103::x104::x105::qy::x107::qz::qA::qB::qC::x112::x113::x114::x115::qD::qE::qG::qH::qI::qJ::qK::qL::qM::qO::qQ::qR::qU::qV::qW::qX::qY::(.slice E m cE:Value)::(.int .i64 m:Value)::(.int .i64 0:Value)::tQ::tT::tV::tX::tY::tZ::uf::ug::uh::ui::uj::uk::uo::uq::x150::x151::x152::x153::uu::uw::uy::x157::x158::x159::x160::uA::uB::uC::uD::uE::uF::x167::x168::xh::xk::xm::xn::xq::xu::xw::xy::xA::xB::xC::xD::xE::xG::xH::xI::xJ::xK::xL::xM::xN::[]),defers:=[]} W0:=by
 have HH:=zh hH;have HV1:=zh hpm;have HV2:=zh hqm;have HL:=zh hL;have HSL:=zh hSl;have HJ:=zh hJ;have HJO:=zh hJo;have MZ:=zh Jt;have HJB:Hid (∀W W',J W->Below W.heap.size W W'->J W'):=zh (fun W W' h hb=>hJo () W W' none h (j4 hb) (fun r e=>by cases e));have HY:=zh hY;have H0:=zh h0;have HS8:Hid (∀V V',St8 J b4 b5 l n D0 V->Below V.heap.size V V'->St8 J b4 b5 l n D0 V'):=zh (fun V V' h hb=>⟨HJB.out _ _ h.1 hb,h.2.1.below hb h.2.1.lt,h.2.2.1.below hb h.2.2.1.lt,Nat.le_trans h.2.2.2 hb.size⟩);have ee:=hH.he;have ep:=hH.hx;have eq:=hH.hy;clear hH hpm hqm hL hSl hJ hJo Jt hY h0
 conv=>arg 4;whnf
 refine wpIn_loop (fun a w=> ∃u16 u17 u18 u19 u20 QK Sy Sz u138 u139 SF SG SI SL SQ SV Ta Tc Td Te Tf Tg u152 Ti u154 Tj Tk Tm Tn Tp Tq Tt u162 Tu u164 Tv Tw Tx Ty Tz TB TD TE TG TH TI TJ TL TM TN TP TQ TR TS TU TV TW TY TZ Ua ds,(VC S cs T J b4 b5 l n m D0 QK ds w)/\a={tmps:=List.toArray ((.func (.yield l) #[] #[]:Value)::(.pointer (some ⟨bs,0,none⟩):Value)::(.pointer (some ⟨bt,0,none⟩):Value)::(.pointer (some ⟨bc,0,none⟩):Value)::(.pointer (some ⟨b4,0,none⟩):Value)::(.pointer (some ⟨b5,0,none⟩):Value)::x6::x7::x8::x9::x10::x11::x12::x13::x14::x15::u16::u17::u18::u19::u20::x21::x22::x23::x24::x25::x26::x27::x28::x29::x30::x31::x32::x33::x34::x35::x36::x37::x38::x39::x40::x41::x42::x43::x44::x45::x46::x47::x48::x49::x50::x51::x52::x53::x54::x55::x56::x57::x58::x59::x60::x61::x62::x63::x64::x65::x66::x67::x68::x69::x70::x71::x72::x73::x74::x75::x76::x77::x78::x79::x80::x81::x82::x83::x84::x85::x86::x87::x88::x89::x90::x91::x92::x93::x94::x95::x96::x97::x98::x99::x100::x101::x102::x103::x104::x105::qy::x107::qz::qA::qB::qC::x112::x113::x114::x115::qD::qE::qG::qH::qI::qJ::qK::qL::qM::qO::qQ::qR::qU::qV::qW::qX::qY::(.slice E m cE:Value)::(.int .i64 m:Value)::QK::Sy::Sz::u138::u139::SF::SG::SI::SL::SQ::SV::Ta::Tc::Td::Te::Tf::Tg::u152::Ti::u154::Tj::Tk::Tm::Tn::Tp::Tq::Tt::u162::Tu::u164::Tv::Tw::Tx::Ty::Tz::TB::TD::TE::TG::TH::TI::TJ::TL::TM::TN::TP::TQ::TR::TS::TU::TV::TW::TY::TZ::Ua::[]),defers:=ds}) (fun a w=>m-(intOf (a.tmps.getD 135 undef)).toNat) ?start ?round
 case start=>
  (repeat apply Exists.intro)
  refine⟨⟨0,rfl,Nat.zero_le _,Marks.nil _ _,H0.out,fun x hx=>by omega⟩,rfl⟩
 intro a w hinv;obtain⟨u16,hinv⟩:=hinv;obtain⟨u17,hinv⟩:=hinv;obtain⟨u18,hinv⟩:=hinv;obtain⟨u19,hinv⟩:=hinv;obtain⟨u20,hinv⟩:=hinv;obtain⟨QK,hinv⟩:=hinv;obtain⟨Sy,hinv⟩:=hinv;obtain⟨Sz,hinv⟩:=hinv;obtain⟨u138,hinv⟩:=hinv;obtain⟨u139,hinv⟩:=hinv;obtain⟨SF,hinv⟩:=hinv;obtain⟨SG,hinv⟩:=hinv;obtain⟨SI,hinv⟩:=hinv;obtain⟨SL,hinv⟩:=hinv;obtain⟨SQ,hinv⟩:=hinv;obtain⟨SV,hinv⟩:=hinv;obtain⟨Ta,hinv⟩:=hinv;obtain⟨Tc,hinv⟩:=hinv;obtain⟨Td,hinv⟩:=hinv;obtain⟨Te,hinv⟩:=hinv;obtain⟨Tf,hinv⟩:=hinv;obtain⟨Tg,hinv⟩:=hinv;obtain⟨u152,hinv⟩:=hinv;obtain⟨Ti,hinv⟩:=hinv;obtain⟨u154,hinv⟩:=hinv;obtain⟨Tj,hinv⟩:=hinv;obtain⟨Tk,hinv⟩:=hinv;obtain⟨Tm,hinv⟩:=hinv;obtain⟨Tn,hinv⟩:=hinv;obtain⟨Tp,hinv⟩:=hinv;obtain⟨Tq,hinv⟩:=hinv;obtain⟨Tt,hinv⟩:=hinv;obtain⟨u162,hinv⟩:=hinv;obtain⟨Tu,hinv⟩:=hinv;obtain⟨u164,hinv⟩:=hinv;obtain⟨Tv,hinv⟩:=hinv;obtain⟨Tw,hinv⟩:=hinv;obtain⟨Tx,hinv⟩:=hinv;obtain⟨Ty,hinv⟩:=hinv;obtain⟨Tz,hinv⟩:=hinv;obtain⟨TB,hinv⟩:=hinv;obtain⟨TD,hinv⟩:=hinv;obtain⟨TE,hinv⟩:=hinv;obtain⟨TG,hinv⟩:=hinv;obtain⟨TH,hinv⟩:=hinv;obtain⟨TI,hinv⟩:=hinv;obtain⟨TJ,hinv⟩:=hinv;obtain⟨TL,hinv⟩:=hinv;obtain⟨TM,hinv⟩:=hinv;obtain⟨TN,hinv⟩:=hinv;obtain⟨TP,hinv⟩:=hinv;obtain⟨TQ,hinv⟩:=hinv;obtain⟨TR,hinv⟩:=hinv;obtain⟨TS,hinv⟩:=hinv;obtain⟨TU,hinv⟩:=hinv;obtain⟨TV,hinv⟩:=hinv;obtain⟨TW,hinv⟩:=hinv;obtain⟨TY,hinv⟩:=hinv;obtain⟨TZ,hinv⟩:=hinv;obtain⟨Ua,hinv⟩:=hinv;obtain⟨ds,hinv⟩:=hinv;obtain⟨⟨i,rfl,hi,HMK,HST,HLV⟩,rfl⟩:=hinv;have HW:=zh (And.intro HMK (And.intro HST HLV));clear HMK HST HLV
 try dsimp only
 by_cases hlt:i<m
 ·have hii:(i:Int)<(m:Int):=by omega
  have il:i<cs.length:=by rw[<-HH.hm];exact hlt
  have M:=HJ.out _ HW.2.1.1;obtain⟨ad,rfl,abl,c0,c1,c2,c3,c4,TT,cT,c5,hcT,HTT⟩:=M.hc i il;have HTR:=zh HTT;have Hf:=zh ((aW HH.ok).2.2.2 i il);clear HTT M;generalize hcc:cs.getD i default=c at *;have HCC:=zh hcc;clear hcc;obtain⟨cap,inn,out,start,fin,trips⟩:=c;simp only at c0 c1 c2 c3 c4 c5 hcT HTR Hf;obtain⟨qn,hqn⟩: ∃qn,qn=trips.length:=⟨_,rfl⟩;rw[<-hqn]at c5 hcT;have HQN:=zh hqn;clear hqn
  gi_upto_region 26 with fail
  have HBB:=zh (((Below.refl w.heap.size w).alloc (Nat.le_refl _) (.cells #[.int .i64 i] 3)).alloc (by simp) (.cells #[.int .i64 cap,.int .i64 inn,.int .i64 out,.int .i64 start,.int .i64 fin,.slice TT qn cT] 63));have XI:=zh ((Blk.new' w #[.int .i64 i] 3).alloc (.cells #[.int .i64 cap,.int .i64 inn,.int .i64 out,.int .i64 start,.int .i64 fin,.slice TT qn cT] 63));have XC:=zh (show Blk ((w.alloc (.cells #[.int .i64 i] 3)).alloc (.cells #[.int .i64 cap,.int .i64 inn,.int .i64 out,.int .i64 start,.int .i64 fin,.slice TT qn cT] 63)) (w.heap.size+1) 63 [.int .i64 cap,.int .i64 inn,.int .i64 out,.int .i64 start,.int .i64 fin,.slice TT qn cT]from by simpa using Blk.new' (w.alloc (.cells #[.int .i64 i] 3)) #[.int .i64 cap,.int .i64 inn,.int .i64 out,.int .i64 start,.int .i64 fin,.slice TT qn cT] 63);have HX0:=zh (HS8.out _ _ HW.2.1 HBB.out);have uG:=zh (HTR.below HBB.out (Nat.le_refl _));have QL:=zh (HW.1.below HBB.out);have HLV:=zh HW.2.2;clear HBB HTR HW c0 c1 c2 c3 c4 c5 abl;generalize (w.alloc (.cells #[.int .i64 i] 3)).alloc (.cells #[.int .i64 cap,.int .i64 inn,.int .i64 out,.int .i64 start,.int .i64 fin,.slice TT qn cT] 63)=w2 at XI XC HX0 uG QL ⊢;generalize w.heap.size=bi at *;have M:=HJ.out _ HX0.1;obtain⟨pa,rfl,pal,PT,cPT,p0,pb,pi⟩:=M.ht.1 i (by rw[<-HH.hp,HV1.out];exact hlt);obtain⟨qa,rfl,qal,QT,cQT,q0,qb,qi⟩:=M.ht.2 i (by rw[<-HH.hq,HV2.out];exact hlt);have LL:=HL.out;rw[Bool.and_eq_true]at LL;have L1:=(bP.1 LL.1).2 i il;have L2:=(bP.1 LL.2).2 i il;rw[L1,<-HH.hn]at p0 pb
  rw[L2,<-HH.hn]at q0 qb;have N8:n<=48:=by
   have h:=aj.1 (aW HH.ok).2.1;have h3:=HH.hn;omega
  have RB:=Js HH.ok HL.out (fun k hk x hx=>uI (HSL.out k (by rw[HH.hn];exact hk)) x hx) il;rw[<-HH.hn]at RB Hf;have HLA:=zh (MX N8 Hf.out RB.1 RB.2);have HPI:=zh (And.intro pi qi);have HLX:=zh (And.intro (L1.trans HH.hn.symm).symm (L2.trans HH.hn.symm).symm);clear pi qi LL L1 L2 M RB;have hip:(i:Int)<(p:Int):=by have:=HV1.out;omega
  have hiq:(i:Int)<(q:Int):=by have:=HV2.out;omega
  have HPE:Hid (∀k,k<=n->jk ⟨cap,inn,out,start,fin,trips⟩ (T.inn.getD i []) (T.out.getD i []) n k=false->plE S cs T=19):=zh (fun k hk h=>Fe HH.ok HL.out (fun j hj=>HSL.out j (by rw[HH.hn];exact hj)) il (k:=k) (by rw[<-HH.hn];exact hk) (by rw[HCC.out,<-HH.hn];exact h));have Dw:Hid ((∀k,k<=n->jk ⟨cap,inn,out,start,fin,trips⟩ (T.inn.getD i []) (T.out.getD i []) n k=true)-> ∀x,x<i+1-> ∀k,k<=n->jk (cs.getD x default) (T.inn.getD x []) (T.out.getD x []) n k=true):=zh (fun h x hx k hk=>by
   by_cases hxi:x<i
   ·exact HLV.out x hxi k hk
   ·obtain rfl:x=i:=by omega
    rw[HCC.out];exact h k hk)
  generalize T.inn.getD i []=xr at *;generalize hyr:T.out.getD i []=yr at *;have HYR:=zh hyr;clear hyr;have HP0:Hid (∀V,Below w2.heap.size w2 V->(V.cell? (pa.add i)=some (.slice PT n cPT)/\(pa.add i).block<V.heap.size)/\(V.cell? (qa.add i)=some (.slice QT n cQT)/\(qa.add i).block<V.heap.size)):=zh (fun V hV=>by
   have k:=hV.size;exact⟨⟨(hV.cell (by rw[block_add];exact pal)).trans p0,by rw[block_add];omega⟩,⟨(hV.cell (by rw[block_add];exact qal)).trans q0,by rw[block_add];omega⟩⟩)
  clear p0 q0 pal qal;refine wpIn_wide.2 ?_;refine lV 11 _ ?af rfl (by kernel_rfl) (by kernel_rfl) ?walk ?tail
  case walk=>
   intro V hV;have XIV:=XI.below hV XI.lt;have XCV:=XC.below hV XC.lt;have MV:=HJ.out _ (HS8.out _ _ HX0.out hV).1;obtain⟨⟨p0,pab⟩,⟨q0,qab⟩⟩:=HP0.out V hV;have i0:=XIV.cell 0 rfl;have ilt:=XIV.lt;have clt:=XCV.lt;have e0:=XCV.cell 0 rfl;have e1:=XCV.cell 1 rfl;have e2:=XCV.cell 2 rfl;have e3:=XCV.cell 3 rfl;have e4:=XCV.cell 4 rfl;have e5:=XCV.cell 5 rfl;have t0:=MV.kt.cell 0 rfl;have t1:=MV.kt.cell 1 rfl;have tl:=MV.kt.lt;clear XIV XCV MV hV;simp only[List.take_succ_cons,List.take_zero]
   repeat(go_big_quiet_step (fail))
   refine wpQuiet_nil ?_;rfl
  intro w8 hb8;have XI3:=zh (XI.below hb8 XI.lt);have XC3:=zh (XC.below hb8 XC.lt);have HX3:=zh (HS8.out _ _ HX0.out hb8);have Ub:=zh (QL.below hb8);have xg:=zh (uG.below hb8 (Nat.le_refl _));have QM:=zh (And.intro (HPI.1.below hb8 (Nat.le_refl _)) (HPI.2.below hb8 (Nat.le_refl _)));clear hb8 XI XC HX0 QL uG HPI HP0;go_simp;refine(Jo _ _ _ _ ⟨_,_,_,_,_,_,rfl⟩ ⟨_,_,_,rfl⟩ ⟨_,_,_,rfl⟩).mono ?_;rintro e w9 ⟨rfl,hw9⟩;have HB9:Below w8.heap.size w8 w9:=by
   rw[hw9];exact(((Below.refl _ _).alloc (Nat.le_refl _) _).alloc (by simp) _).alloc (by simp;omega) _
  have KC:Blk w9 w8.heap.size 63 [.int .i64 cap,.int .i64 inn,.int .i64 out,.int .i64 start,.int .i64 fin,.slice TT qn cT]:=by
   rw[hw9];exact((Blk.new' w8 #[.int .i64 cap,.int .i64 inn,.int .i64 out,.int .i64 start,.int .i64 fin,.slice TT qn cT] 63).alloc _).alloc _
  have KI:Blk w9 (w8.heap.size+1) 22 [.slice PT n cPT]:=by
   have:=(Blk.new' (w8.alloc (.cells #[.int .i64 cap,.int .i64 inn,.int .i64 out,.int .i64 start,.int .i64 fin,.slice TT qn cT] 63)) #[.slice PT n cPT] 22).alloc (.cells #[.slice QT n cQT] 22);rw[hw9];simpa using this
  have KO:Blk w9 (w8.heap.size+2) 22 [.slice QT n cQT]:=by
   have:=Blk.new' ((w8.alloc (.cells #[.int .i64 cap,.int .i64 inn,.int .i64 out,.int .i64 start,.int .i64 fin,.slice TT qn cT] 63)).alloc (.cells #[.slice PT n cPT] 22)) #[.slice QT n cQT] 22;rw[hw9];simpa [Nat.add_assoc]using this
  have XI4:=zh (XI3.below HB9 XI3.lt);have XC4:=zh (XC3.below HB9 XC3.lt);have HX4:=zh (HS8.out _ _ HX3.out HB9);have Uc:=zh (Ub.below HB9);have HLM:Hid (LvM w8.heap.size (w8.heap.size+1) (w8.heap.size+2) ⟨cap,inn,out,start,fin,trips⟩ xr yr TT PT QT qn n n cT cPT cQT w9):=zh ⟨KC,KI,KO,xg.below HB9 (Nat.le_refl _),QM.1.below HB9 (Nat.le_refl _),QM.2.below HB9 (Nat.le_refl _)⟩;clear hw9 HB9 KC KI KO XI3 XC3 HX3 Ub xg QM;dsimp only
  (try simp only[zp])
  refine wpQuiet_nil ?_;intro xx;have XI5:=zh (XI4.below xx.far XI4.lt);have XC5:=zh (XC4.below xx.far XC4.lt);have HX5:=zh (HS8.out _ _ HX4.out xx.far);have Dx:=zh (Uc.below xx.far);have QN:=zh (HLM.below xx.far);generalize xx.w=w5 at XI5 XC5 HX5 Dx QN ⊢;clear XI4 XC4 HX4 Uc HLM;generalize w8.heap.size=g at *
  gi_wp2
  refine wpIn_wide.2 ((wpIn_wide (n:=3)).1 (pY (F:=Fence.wide) (n:=3) rfl (by omega) (gf:=107) (lb:= #[.pointer (some ⟨g,0,none⟩),.pointer (some ⟨g+1,0,none⟩),.pointer (some ⟨g+2,0,none⟩)]) rfl trivial (fun _ _=>by kernel_rfl)
   (encs:=fun y:Int×Int=> #[.int .i64 y.1,.int .i64 y.2]) (fun _=>rfl)
   (fun pre V=>St8 J b4 b5 l n D0 V/\Below w5.heap.size w5 V/\ ∀j,j<pre.length->jk ⟨cap,inn,out,start,fin,trips⟩ xr yr n j=true) (fun _ V=>Jx 19 V/\plE S cs T=19/\Marks D0 ds V) .ret
   (fun ys=>ys.length=n+1) (fun _=>True) (fun pre y=> ∃k:Nat,k<=n/\pre.length=k/\y=((k:Int),lev ⟨cap,inn,out,start,fin,trips⟩ xr yr k))
   ?hI ?hIx ⟨HX5.out,Below.refl _ _,fun j hj=>by simp at hj⟩ ?hseq ?a1 ?assign ?body ?done ?stop))
  case hI=>
   rintro pre V V' row ⟨⟨h1,h2,h3,h4⟩,h5,h6⟩ hg hr;exact⟨⟨HJO.out () V V' row h1 hg (fun r e=>⟨Nat.le_trans HX5.2.2.2 (hr r e).1,(hr r e).2⟩),oJ h2 hg hr,oJ h3 hg hr,Nat.le_trans h4 hg.size⟩,h5.grown hg h5.size (fun r e=>(hr r e).1),h6⟩
  case hIx=>
   rintro pre V V' row ⟨h1,h2,h3⟩ hg hr;exact⟨MZ.out 19 () V V' row h1 hg (fun r e=>⟨Nat.le_trans HX5.2.2.2 (hr r e).1,(hr r e).2⟩),h2,Hd Dx.out (Nat.le_refl _) () V V' row h3 hg hr⟩
  case hseq=>
   intro l2 J2 Jx2 V hJ2 hO2 Ud hz2 hY2 hj2;have lv0: ∀k,(lvs ⟨cap,inn,out,start,fin,trips⟩ xr yr k).length=k:=fun k=>by simp[lvs]
   refine(Ha g (g+1) (g+2) ⟨cap,inn,out,start,fin,trips⟩ xr yr TT PT QT qn n n cT cPT cQT l2 HQN.out hcT HLX.1 (Nat.le_refl _) HLX.2 pb qb HLA.out J2 Jx2 (fun pre V2 h=>QN.below (hJ2 pre V2 h).2.1) (fun pre V1 V2 h hb=>hO2 pre V1 V2 none h (j4 hb) (fun r e=>by cases e)) (fun k hk V1 h=>(hY2 _ ((k:Int),lev ⟨cap,inn,out,start,fin,trips⟩ xr yr k) V1 h ⟨k,hk,lv0 k,rfl⟩).mono (fun e V2 h2=>by rw[Jp];exact h2.2)) V hj2).mono ?_;rintro e V2 ⟨hv,h|⟨k,hk,h⟩⟩
   ·exact⟨hv,.inl ⟨_,lv0 _,h⟩⟩
   ·exact⟨hv,.inr ⟨_,trivial,h⟩⟩
  case assign=>
   intro l2 y V K hK
   gi_wp2
   exact hK
  case body=>
   rintro l2 pre y V hI ⟨k,hk,hpre,rfl⟩;have HI:=zh hI;clear hI;have HBAD:Hid (¬(least ⟨cap,inn,out,start,fin,trips⟩ yr n k<=lev ⟨cap,inn,out,start,fin,trips⟩ xr yr k/\lev ⟨cap,inn,out,start,fin,trips⟩ xr yr k<=(Car.cap ⟨cap,inn,out,start,fin,trips⟩))->plE S cs T=19):=zh (fun h=>HPE.out k hk (by rw[<-Bool.not_eq_true,kR];exact h));have P7:Hid ((least ⟨cap,inn,out,start,fin,trips⟩ yr n k<=lev ⟨cap,inn,out,start,fin,trips⟩ xr yr k/\lev ⟨cap,inn,out,start,fin,trips⟩ xr yr k<=(Car.cap ⟨cap,inn,out,start,fin,trips⟩))->jk ⟨cap,inn,out,start,fin,trips⟩ xr yr n k=true):=zh (fun h=>kR.2 h);have XC6:=XC5.below HI.2.1 XC5.lt;have XI6:=XI5.below HI.2.1 XI5.lt;have e0:=XC6.cell 0 rfl;have e1:=XC6.cell 1 rfl;have e2:=XC6.cell 2 rfl;have e3:=XC6.cell 3 rfl;have e4:=XC6.cell 4 rfl;have e5:=XC6.cell 5 rfl;have n0:=HI.1.2.2.1.cell 0 rfl
   by_cases hkn:k<n
   ·have hki:(k:Int)<(n:Int):=by omega
    have HLS:Hid (least ⟨cap,inn,out,start,fin,trips⟩ yr n k=max (dz ⟨cap,inn,out,start,fin,trips⟩ k) (yr.getD k 0)):=zh (by unfold least;rw[if_pos hkn]);have TC:=uH (.int .i64 cap) (.int .i64 inn) (.int .i64 out) (.int .i64 start) (.int .i64 fin) k TT trips qn cT V HQN.out hcT (QN.below HI.2.1).kt;rw[show iM trips k qn=dz ⟨cap,inn,out,start,fin,trips⟩ k from by unfold dz;rw[HQN.out]]at TC;clear XC6 XI6;generalize lev ⟨cap,inn,out,start,fin,trips⟩ xr yr k=LV at *
    gi_wp2
    refine⟨trivial,CallsIn.inRound _ (callsIn_wide.2 (TC.mono ?_))⟩;rintro e V2 ⟨rfl,hb2⟩;have HI2:=zh (And.intro (HS8.out _ _ HI.1 hb2) (HI.2.1.trans (hb2.mono HI.2.1.size)));have HMV:=zh ((Dx.below HI.2.1).below hb2);have HKV:Hid (KeepsFrom w5.heap.size V V2):=zh (KeepsFrom.of_grownBy (j4 hb2) (fun j e=>by cases e));clear e0 e1 e2 e3 e4 e5 n0 hb2 TC;have XC6:=XC5.below HI2.2 XC5.lt;have XI6:=XI5.below HI2.2 XI5.lt;have e0:=XC6.cell 0 rfl;have i0:=XI6.cell 0 rfl;have ilt:=XI6.lt;have M:=HJ.out _ HI2.1.1;have t1:=M.kt.cell 1 rfl;obtain⟨qa2,hqa,qal,QT2,Yu,q0,qb2,qi⟩:=M.ht.2 i (by rw[<-HH.hq,HV2.out];exact hlt)
    cases hqa
    rw[HYR.out,<-HLX.2]at q0 qb2;rw[HYR.out]at qi;obtain⟨qd,rfl,qdl,qx⟩:=qi k (by rw[<-HLX.2];exact hkn);clear M qi XC6 XI6;generalize yr.getD k 0=yk at *;generalize dz ⟨cap,inn,out,start,fin,trips⟩ k=us at *;generalize fO trips k qn=aw at *;have hmx:=fun ts t W=>lY us yk ts t W
    generalize max us yk=mx at *
    gi_upto_region 33 with fail
    clear t1 q0 qx i0 ilt hmx;have y0:=HI2.1.2.1.cell 0 rfl;obtain⟨fn,tm,asg,bo,hy,hR⟩:=HY.out 19 V2 HI2.1.1
    by_cases d1:LV<mx
    ·have HPX:=zh (HBAD.out (fun h=>by have:=h.1;rw[HLS.out]at this;omega))
     gi_wp2
     refine(mX hR).mono ?_;rintro e V4 ⟨hk4,rfl,hx⟩;have HX:=zh hx;have HM4:=zh (HMV.keep hk4);have HK4:Hid (KeepsFrom w5.heap.size V V4):=zh (HKV.trans ⟨hk4.size,fun k o h=>hk4.same k o (Nat.le_trans HX5.2.2.2 h)⟩);clear hx hk4
     gi_wp2
     exact(⟨rfl,HK4.out,HX.out,HPX.out,HM4.out⟩:_/\_/\_/\_/\_)
    by_cases d2:cap<LV
    ·have HPX:=zh (HBAD.out (fun h=>by have:=h.2;(try simp only at this);omega))
     gi_wp2
     refine(mX hR).mono ?_;rintro e V4 ⟨hk4,rfl,hx⟩;have HX:=zh hx;have HM4:=zh (HMV.keep hk4);have HK4:Hid (KeepsFrom w5.heap.size V V4):=zh (HKV.trans ⟨hk4.size,fun k o h=>hk4.same k o (Nat.le_trans HX5.2.2.2 h)⟩);clear hx hk4
     gi_wp2
     exact(⟨rfl,HK4.out,HX.out,HPX.out,HM4.out⟩:_/\_/\_/\_/\_)
    have HGG:=zh (P7.out ⟨by rw[HLS.out];omega,by(try simp only);omega⟩);clear hy hR
    gi_wp2
    refine⟨fun _ h=>(by cases h),?_⟩
    gi_wp2
    refine(⟨HKV.out,HI2.1,HI2.2,fun j hj=>?_⟩:_/\_/\_/\_)
    by_cases hjk:j<k
    ·exact HI.2.2 j (by rw[hpre];exact hjk)
    ·obtain rfl:j=k:=by rw[List.length_append,hpre]at hj;simp at hj;omega
     exact HGG.out
   ·obtain rfl:n=k:=by omega
    have hki: ¬(n:Int)<(n:Int):=by omega
    have HLS:Hid (least ⟨cap,inn,out,start,fin,trips⟩ yr n n=fin):=zh (by unfold least;rw[if_neg (by omega)]);have HI2:=zh (And.intro HI.1 HI.2.1);have HMV:=zh (Dx.below HI.2.1);have HKV:Hid (KeepsFrom w5.heap.size V V):=zh (KeepsFrom.refl _ _);clear XC6 XI6;generalize lev ⟨cap,inn,out,start,fin,trips⟩ xr yr n=LV at *
    gi_upto_region 33 with fail
    have y0:=HI2.1.2.1.cell 0 rfl;obtain⟨fn,tm,asg,bo,hy,hR⟩:=HY.out 19 V HI2.1.1
    by_cases d1:LV<fin
    ·have HPX:=zh (HBAD.out (fun h=>by have:=h.1;rw[HLS.out]at this;omega))
     gi_wp2
     refine(mX hR).mono ?_;rintro e V4 ⟨hk4,rfl,hx⟩;have HX:=zh hx;have HM4:=zh (HMV.keep hk4);have HK4:Hid (KeepsFrom w5.heap.size V V4):=zh (HKV.trans ⟨hk4.size,fun k o h=>hk4.same k o (Nat.le_trans HX5.2.2.2 h)⟩);clear hx hk4
     gi_wp2
     exact(⟨rfl,HK4.out,HX.out,HPX.out,HM4.out⟩:_/\_/\_/\_/\_)
    by_cases d2:cap<LV
    ·have HPX:=zh (HBAD.out (fun h=>by have:=h.2;(try simp only at this);omega))
     gi_wp2
     refine(mX hR).mono ?_;rintro e V4 ⟨hk4,rfl,hx⟩;have HX:=zh hx;have HM4:=zh (HMV.keep hk4);have HK4:Hid (KeepsFrom w5.heap.size V V4):=zh (HKV.trans ⟨hk4.size,fun k o h=>hk4.same k o (Nat.le_trans HX5.2.2.2 h)⟩);clear hx hk4
     gi_wp2
     exact(⟨rfl,HK4.out,HX.out,HPX.out,HM4.out⟩:_/\_/\_/\_/\_)
    have HGG:=zh (P7.out ⟨by rw[HLS.out];omega,by(try simp only);omega⟩);clear hy hR
    gi_wp2
    refine⟨fun _ h=>(by cases h),?_⟩
    gi_wp2
    refine(⟨HKV.out,HI2.1,HI2.2,fun j hj=>?_⟩:_/\_/\_/\_)
    by_cases hjk:j<n
    ·exact HI.2.2 j (by rw[hpre];exact hjk)
    ·obtain rfl:j=n:=by rw[List.length_append,hpre]at hj;simp at hj;omega
     exact HGG.out
  case done=>
   rintro D ys V hD hys hI hK;have HI:=zh hI;have HK:=zh hK;have QO:=zh (Marks.cons Dx.out hD (Nat.le_trans HX5.2.2.2 hD) (Dx.below HI.2.1) HK.out);have HGO:=zh (Dw.out (fun k hk=>HI.2.2 k (by rw[hys];omega)));clear hI hK
   gi_wp2
   refine⟨?_,by simp[intOf];omega⟩
   (repeat apply Exists.intro)
   refine⟨⟨i+1,rfl,by omega,QO.out,HI.1,HGO.out⟩,rfl⟩
  case stop=>
   rintro D pre V hD _ hI hK;have QO:=zh (Marks.cons Dx.out hD (Nat.le_trans HX5.2.2.2 hD) hI.2.2 hK);have HI:=zh hI;clear hI hK
   gi_wp2
   exact jA (by simp) (MZ.out 19) (fun V2 h=>Dv _ (fun v=>⟨⟨_,rfl⟩,.inr ⟨by rw[HI.2.1];omega,by rw[HI.2.1];exact h⟩⟩)) QO.out HI.1
 ·obtain rfl:m=i:=by omega
  have HPZ:=zh (mr HH.ok HL.out (fun j hj=>HSL.out j (by rw[HH.hn];exact hj)) (fun x hx k hk=>by rw[<-HH.hn]at hk ⊢;exact HW.2.2 x (by rw[HH.hm];exact hx) k hk))
  gi_wp2
  exact jA (by simp) HJO.out (fun V2 h=>Dv _ (fun v=>⟨⟨_,rfl⟩,.inl ⟨HPZ.out,h⟩⟩)) HW.1 HW.2.1.1
attribute [local go_sem] Oper.semAt_some
theorem Dy {F:Fence} {n:Nat} {P:Program} {c c':Code} {Q:Exit->Act->World->Prop} {a:Act} {W:World} (h:c=c') (hw:c'.wpIn F n P Q a W):c.wpIn F n P Q a W:=h▸hw
@[go_sem] theorem UX (A B:Option Addr) (n m c d:Nat) (w:World):(Instr.index 162 (.agg #[.slice A n c,.slice B m d]) (.int .i64 0)).run Try.prog w=.ok (.slice A n c) w:=by kernel_rfl
@[go_sem] theorem UY (A B:Option Addr) (n m c d:Nat) (w:World):(Instr.index 162 (.agg #[.slice A n c,.slice B m d]) (.int .i64 1)).run Try.prog w=.ok (.slice B m d) w:=by kernel_rfl
theorem Hg (bs bt bc:Nat) (S:Site) (cs:List Car) (T:Tab) (A B C D E P Q:Option Addr) (n m p q cA cB cC cD cE cP cQ l D0:Nat) (hH:FtH S cs T n m p q cA cB cC cD cE cP cQ)
 (J:World->Prop) (Jx:Int->World->Prop) (hJ: ∀W,J W->FtM bs bt bc S cs T A B C D E P Q n m p q cA cB cC cD cE cP cQ W) (hJo:OwnFrom D0 (fun (_:Unit) W=>J W)) (Jt: ∀e,OwnFrom D0 (fun (_:Unit) W=>Jx e W))
 (hY: ∀e W1,J W1->YieldAt Fence.wide 1 Try.prog l #[.int .i64 e] W1 fun e' W'=>KeepsFrom D0 W1 W'/\e'=.returned (.bool false)/\Jx e W')
 (W:World) (hD:D0<=W.heap.size) (hj:J W):
 CallsIn Fence.wide 2 Try.prog 104 #[.func (.yield l) #[] #[],.pointer (some ⟨bs,0,none⟩),.pointer (some ⟨bt,0,none⟩),.pointer (some ⟨bc,0,none⟩)] W fun e W'=>(∃v,e=.returned v)/\((plE S cs T=0/\J W')∨(plE S cs T≠0/\Jx (plE S cs T) W')):=by
 refine callsIn_of_wp_marks Try.func104 rfl trivial ?_ rfl;simp only[Try.ntmps104,List.size_toArray,List.length_cons,List.length_nil,Nat.reduceAdd,Nat.reduceSub,Array.replicate_succ,Array.replicate_zero,List.push_toArray,List.append_toArray,List.nil_append,List.cons_append];have HH:=zh hH;have HJ:=zh hJ;have HJO:=zh hJo;have MZ:=zh Jt;have HJB:Hid (∀W W',J W->Below W.heap.size W W'->J W'):=zh (fun W W' h hb=>hJo () W W' none h (j4 hb) (fun r e=>by cases e));have HY:=zh hY;have u6:Hid (∀(e:Int) (W':World) (tmps:Array Value),plE S cs T=e->e≠0->Jx e W'->LeavesInM Fence.wide 2 Try.prog Try.f104 tmps (fun e W'=>(∃v,e=.returned v)/\((plE S cs T=0/\J W')∨(plE S cs T≠0/\Jx (plE S cs T) W'))) [] .returning W'):=zh (fun e W' tmps h h0 hx=>Dv _ fun v=>⟨⟨_,rfl⟩,.inr ⟨by rw[h];exact h0,by rw[h];exact hx⟩⟩);have ea:=hH.ha;have eb:=hH.hb;have ee:=hH.he;have ep:=hH.hx;have eq:=hH.hy;have HN8:Hid (m<=8/\n<=48):=zh (by
  have h:=aW hH.ok;have h1:=aj.1 h.2.1;have h2:=hH.hm;have h3:=hH.hn;omega)
 have HB0:=(Below.refl W.heap.size W).alloc (Nat.le_refl _) (.cells #[.func (.yield l) #[] #[]] 161);have X4:=zh (Blk.new' W #[.func (.yield l) #[] #[]] 161);have HJ1:=zh (HJB.out _ _ hj HB0);have HD1:Hid (D0<=W.heap.size):=zh hD;clear hJ hJo Jt hY hj HB0 hH hD
 gi_upto_region 1 with fail
 generalize W.alloc (.cells #[.func (.yield l) #[] #[]] 161)=W1 at X4 HJ1 ⊢;generalize W.heap.size=b4 at *;have M0:=HJ.out _ HJ1.out;have s0:=M0.ks.cell 0 rfl;have sl:=M0.ks.lt;have X4b:=zh (X4.alloc (.cells #[.int .i64 n] 3));have X5:=zh (Blk.new' W1 #[.int .i64 n] 3);have HJ2:=zh (HJB.out _ _ HJ1.out ((Below.refl W1.heap.size W1).alloc (Nat.le_refl _) (.cells #[.int .i64 n] 3)));have HB5:Hid (b4<W1.heap.size):=zh X4.lt;clear M0
 gi_upto_region 2 with fail
 generalize W1.alloc (.cells #[.int .i64 n] 3)=W2 at X4b X5 HJ2 ⊢;generalize W1.heap.size=b5 at *;clear s0 sl X4 HJ1;have M1:=HJ.out _ HJ2.out;have t0:=M1.kt.cell 0 rfl;have t1:=M1.kt.cell 1 rfl;have k0:=M1.kc.cell 0 rfl;have n0:=X5.cell 0 rfl;have y0:=X4b.cell 0 rfl;have CC1:=mq P T.inn p cP n b5 W2 HH.hp ep M1.ht.1 n0;have CC2:=mq Q T.out q cQ n b5 W2 HH.hq eq M1.ht.2 n0;obtain⟨fn,tm,asg,bo,hy,hR⟩:=HY.out 20 W2 HJ2.out;clear M1;have HA1:Hid (fQ cs.length S.lim.length T.inn=(decide (p=m)&&ji p (fun i=>decide ((T.inn.getD i []).length=n)))):=zh (by rw[fQ,<-HH.hp,<-HH.hm,<-HH.hn]);have HA2:Hid (fQ cs.length S.lim.length T.out=(decide (q=m)&&ji q (fun i=>decide ((T.out.getD i []).length=n)))):=zh (by rw[fQ,<-HH.hq,<-HH.hm,<-HH.hn]);generalize ji p (fun i=>decide ((T.inn.getD i []).length=n))=v1 at *;generalize ji q (fun i=>decide ((T.out.getD i []).length=n))=v2 at *
 gi_wp2
 clear t0 t1;refine wpIn_loop_rounds 3 ?_;rw[roundsIn_succ];have u7:Hid (v1=true->v2=true->p=m->q=m->(fQ cs.length S.lim.length T.inn&&fQ cs.length S.lim.length T.out)=true):=zh (fun a b c d=>by rw[HA1.out,HA2.out,a,b,decide_eq_true c,decide_eq_true d];rfl);have QP:Hid ((p=m->v1=false)->plE S cs T=20):=zh (fun h=>mY HH.ok (by
  rw[HA1.out]
  by_cases e:p=m
  ·rw[h e];simp
  ·rw[decide_eq_false e];simp))
 have Ju:Hid ((q=m->v2=false)->plE S cs T=20):=zh (fun h=>mY HH.ok (by
  rw[HA2.out]
  by_cases e:q=m
  ·rw[h e];simp
  ·rw[decide_eq_false e];simp))
 have FIN:Hid (∀(e:Int) (tm0:Array Value) (W':World),plE S cs T=e->e≠0->Jx e W'->LeavesInM Fence.wide 2 Try.prog Try.f104 tm0 (fun e W'=>(∃v,e=.returned v)/\((plE S cs T=0/\J W')∨(plE S cs T≠0/\Jx (plE S cs T) W'))) [] .returning W'):=zh (fun e tm0 W' h1 h2 h3=>u6.out e W' tm0 h1 h2 h3)
 by_cases hpm:p=m
 ·have hpb:((p:Int) != (m:Int))=false:=by simp[hpm]
  have hpi:(p:Int)=(m:Int):=by omega
  cases v1
  ·have HPE:=zh (QP.out (fun _=>rfl))
   rw[show(!false)=true from rfl]at CC1;clear hpm
   gi_wp2
   refine⟨trivial,callsIn_wide.2 (CC1.mono ?_)⟩;rintro e W3 ⟨rfl,rfl⟩
   gi_wp2
   refine hR.mono ?_;rintro e W4 ⟨_,rfl,hx⟩;have HX:=zh hx;clear hx
   gi_wp2
   exact FIN.out 20 _ _ HPE.out (by omega) HX.out
  ·rw[show(!true)=false from rfl]at CC1
   have HV1:=zh hpm;clear hpm
   gi_wp2
   refine⟨trivial,callsIn_wide.2 (CC1.mono ?_)⟩;rintro e W3 ⟨rfl,rfl⟩;clear hpb hpi CC1
   gi_wp2
   rw[roundsIn_succ]
   by_cases hqm:q=m
   ·have hqb:((q:Int) != (m:Int))=false:=by simp[hqm]
    have hqi:(q:Int)=(m:Int):=by omega
    have HV2:=zh hqm;clear hqm
    cases v2
    ·have HPE:=zh (Ju.out (fun _=>rfl))
     rw[show(!false)=true from rfl]at CC2
     gi_wp2
     refine⟨trivial,callsIn_wide.2 (CC2.mono ?_)⟩;rintro e W3 ⟨rfl,rfl⟩
     gi_wp2
     refine hR.mono ?_;rintro e W4 ⟨_,rfl,hx⟩;have HX:=zh hx;clear hx
     gi_wp2
     exact FIN.out 20 _ _ HPE.out (by omega) HX.out
    ·rw[show(!true)=false from rfl]at CC2
     gi_wp2
     refine⟨trivial,callsIn_wide.2 (CC2.mono ?_)⟩;rintro e W3 ⟨rfl,rfl⟩;clear hqb hqi CC2;have HL:=zh (u7.out (by simp) (by simp) HV1.out HV2.out);clear u7 QP Ju HA1 HA2 hy hR
     gi_wp2
     rw[roundsIn_succ]
     gi_wp2
     have HS8:Hid (∀V V':World,(J V/\Blk V b4 161 [.func (.yield l) #[] #[]]/\Blk V b5 3 [.int .i64 n]/\D0<=V.heap.size)->Below V.heap.size V V'->(J V'/\Blk V' b4 161 [.func (.yield l) #[] #[]]/\Blk V' b5 3 [.int .i64 n]/\D0<=V'.heap.size)):=zh (fun V V' h hb=>⟨HJB.out _ _ h.1 hb,h.2.1.below hb h.2.1.lt,h.2.2.1.below hb h.2.2.1.lt,Nat.le_trans h.2.2.2 hb.size⟩);have H0:Hid (J W2/\Blk W2 b4 161 [.func (.yield l) #[] #[]]/\Blk W2 b5 3 [.int .i64 n]/\D0<=W2.heap.size):=zh ⟨HJ2.out,X4b.out,X5.out,by have:=X4b.lt;have:=HD1.out;omega⟩;clear HJ2 X4b X5 k0 n0 y0
     gi_loopw [8,9,10,11,12,13,14,15,46] (fun _ _ _ _ _ _ _ _ iv wr=> ∃k:Nat,k<=n/\iv=.int .i64 k/\Hid ((J wr/\Blk wr b4 161 [.func (.yield l) #[] #[]]/\Blk wr b5 3 [.int .i64 n]/\D0<=wr.heap.size)/\ ∀j,j<k->fE S cs T j=0)) (fun _ _ _ _ _ _ _ _ iv _=>n-(intOf iv).toNat)
     case atStart=>exact⟨0,Nat.zero_le _,rfl,zh ⟨H0.out,fun j hj=>by omega⟩⟩
     case round=>
      obtain⟨k,hk,rfl,HW⟩:=hrel
      by_cases hlt:k<n
      ·have hki:(k:Int)<(n:Int):=by omega
       have M:=HJ.out _ HW.1.1;have k0:=M.kc.cell 0 rfl;have kl:=M.kc.lt;clear M
       gi_wp2
       clear k0 kl
       gi_loopw [9,10,11,12,13,14,51] (fun _ _ _ _ _ _ iv wr=> ∃i:Nat,i<=m/\iv=.int .i64 i/\Hid ((J wr/\Blk wr b4 161 [.func (.yield l) #[] #[]]/\Blk wr b5 3 [.int .i64 n]/\D0<=wr.heap.size)/\ ∀x,x<i->eZ cs T k x=true)) (fun _ _ _ _ _ _ iv _=>m-(intOf iv).toNat)
       case atStart=>exact⟨0,Nat.zero_le _,rfl,zh ⟨HW.1,fun j hj=>by omega⟩⟩
       case round=>
        obtain⟨i,hi,rfl,HI⟩:=hrel
        by_cases hlt2:i<m
        ·have hii:(i:Int)<(m:Int):=by omega
         have M:=HJ.out _ HI.1.1;have il:i<cs.length:=by rw[<-HH.hm];exact hlt2
         obtain⟨ad,rfl,abl,c0,c1,c2,c3,c4,TT,cT,c5,hcT,HTT⟩:=M.hc i il;have HTR:=zh HTT;have Hf:=zh ((aW HH.ok).2.2.2 i il);clear HTT M;have HCA:=zh (show eZ cs T k i=Jl (cs.getD i default) ((T.inn.getD i []).getD k 0) ((T.out.getD i []).getD k 0) (dB (cs.getD i default) k)from rfl);have Dw:Hid (eZ cs T k i=true-> ∀x,x<i+1->eZ cs T k x=true):=zh (fun h x hx=>by
          by_cases hxi:x<i
          ·exact HI.2 x hxi
          ·obtain rfl:x=i:=by omega
           exact h)
         have HPE:Hid (eZ cs T k i=false->plE S cs T=3):=zh (fun h=>oI HH.ok HL.out (by rw[<-HH.hn];exact hlt) HW.2 (vK il h) (by omega));rw[HCA.out]at Dw HPE;clear HCA;generalize cs.getD i default=c at *;obtain⟨cap,inn,out,start,fin,trips⟩:=c;simp only at c0 c1 c2 c3 c4 c5 hcT HTR Dw HPE Hf;obtain⟨qn,hqn⟩: ∃qn,qn=trips.length:=⟨_,rfl⟩;rw[<-hqn]at c5 hcT;have HQN:=zh hqn;have HAW:=zh (show dB ⟨cap,inn,out,start,fin,trips⟩ k=fO trips k qn from by rw[hqn];rfl);clear hqn
         gi_upto_region 14 with fail
         have HY0:=zh (HS8.out _ _ HI.1 ((Below.refl wr.heap.size wr).alloc (Nat.le_refl _) (.cells #[.int .i64 cap,.int .i64 inn,.int .i64 out,.int .i64 start,.int .i64 fin,.slice TT qn cT] 63)));have XC:=zh (Blk.new' wr #[.int .i64 cap,.int .i64 inn,.int .i64 out,.int .i64 start,.int .i64 fin,.slice TT qn cT] 63);have uG:=zh (HTR.below ((Below.refl wr.heap.size wr).alloc (Nat.le_refl _) (.cells #[.int .i64 cap,.int .i64 inn,.int .i64 out,.int .i64 start,.int .i64 fin,.slice TT qn cT] 63)) (Nat.le_refl _));generalize wr.alloc (.cells #[.int .i64 cap,.int .i64 inn,.int .i64 out,.int .i64 start,.int .i64 fin,.slice TT qn cT] 63)=wx at HY0 XC uG ⊢;generalize wr.heap.size=gc at *;clear c0 c1 c2 c3 c4 c5 abl HTR;have M:=HJ.out _ HY0.1;have t0:=M.kt.cell 0 rfl;have t1:=M.kt.cell 1 rfl;have tl:=M.kt.lt;obtain⟨pa,rfl,pal,PT,cPT,p0,pb,pi⟩:=M.ht.1 i (by rw[<-HH.hp,HV1.out];exact hlt2);obtain⟨qa,rfl,qal,QT,cQT,q0,qb,qi⟩:=M.ht.2 i (by rw[<-HH.hq,HV2.out];exact hlt2);have LL:=HL.out;rw[Bool.and_eq_true]at LL;have L1:=(bP.1 LL.1).2 i il;have L2:=(bP.1 LL.2).2 i il;obtain⟨pd,rfl,pdl,px⟩:=pi k (by rw[L1,<-HH.hn];exact hlt);obtain⟨qd,rfl,qdl,qx⟩:=qi k (by rw[L2,<-HH.hn];exact hlt);rw[L1,<-HH.hn]at p0 pb;rw[L2,<-HH.hn]at q0 qb;clear pi qi LL L1 L2 M;have hip:(i:Int)<(p:Int):=by have:=HV1.out;omega
         have hiq:(i:Int)<(q:Int):=by have:=HV2.out;omega
         have pab:(pa.add i).block<wx.heap.size:=by rw[block_add];exact pal
         have qab:(qa.add i).block<wx.heap.size:=by rw[block_add];exact qal
         have pdb:(pd.add k).block<wx.heap.size:=by rw[block_add];exact pdl
         have qdb:(qd.add k).block<wx.heap.size:=by rw[block_add];exact qdl
         generalize (T.inn.getD i []).getD k 0=x at *;generalize (T.out.getD i []).getD k 0=y at *;refine wpIn_wide.2 ?_;refine wrp ?_
         repeat(go_big_quiet_step (fail))
         refine wpQuiet_nil ?_;intro xx;have HY1:=zh (HS8.out _ _ HY0.out xx.far);have XC1:=zh (XC.below xx.far XC.lt);have xg:=zh (uG.below xx.far (Nat.le_refl _));generalize xx.w=w3 at HY1 XC1 xg ⊢;clear t0 t1 tl p0 q0 px qx pal qal pdl qdl pab qab pdb qdb HY0 XC uG;have e0:=XC1.cell 0 rfl;have e1:=XC1.cell 1 rfl;have e2:=XC1.cell 2 rfl;have e3:=XC1.cell 3 rfl;have e4:=XC1.cell 4 rfl;have e5:=XC1.cell 5 rfl;have TC:=uH (.int .i64 cap) (.int .i64 inn) (.int .i64 out) (.int .i64 start) (.int .i64 fin) k TT trips qn cT w3 HQN.out hcT xg.out
         gi_wp2
         refine⟨trivial,callsIn_wide.2 (TC.mono ?_)⟩;rintro e w5 ⟨rfl,hb5⟩;have HY2:=zh (HS8.out _ _ HY1.out hb5);have XC2:=zh (XC1.below hb5 XC1.lt);clear e0 e1 e2 e3 e4 e5 hb5 HY1 XC1 xg TC;generalize fO trips k qn=aw at *;generalize iM trips k qn=us at *
         gi_upto_region 16 with fail
         have e1:=XC2.cell 1 rfl;have e2:=XC2.cell 2 rfl;have y0:=HY2.2.1.cell 0 rfl;rw[HAW.out]at Dw HPE;obtain⟨fn,tm,asg,bo,hy,hR⟩:=HY.out 3 w5 HY2.1
         by_cases a1:x<0
         ·have HPX:=zh (HPE.out (by rw[<-Bool.not_eq_true,dL];simp only;omega))
          gi_wp2
          refine hR.mono ?_;rintro e W4 ⟨_,rfl,hx⟩;have HX:=zh hx;clear hx
          gi_wp2
          exact FIN.out 3 _ _ HPX.out (by omega) HX.out
         by_cases a2:inn<x
         ·have HPX:=zh (HPE.out (by rw[<-Bool.not_eq_true,dL];simp only;omega))
          gi_wp2
          refine hR.mono ?_;rintro e W4 ⟨_,rfl,hx⟩;have HX:=zh hx;clear hx
          gi_wp2
          exact FIN.out 3 _ _ HPX.out (by omega) HX.out
         by_cases a3:y<0
         ·have HPX:=zh (HPE.out (by rw[<-Bool.not_eq_true,dL];simp only;omega))
          gi_wp2
          refine hR.mono ?_;rintro e W4 ⟨_,rfl,hx⟩;have HX:=zh hx;clear hx
          gi_wp2
          exact FIN.out 3 _ _ HPX.out (by omega) HX.out
         by_cases a4:out<y
         ·have HPX:=zh (HPE.out (by rw[<-Bool.not_eq_true,dL];simp only;omega))
          gi_wp2
          refine hR.mono ?_;rintro e W4 ⟨_,rfl,hx⟩;have HX:=zh hx;clear hx
          gi_wp2
          exact FIN.out 3 _ _ HPX.out (by omega) HX.out
         have CB:=(aT.1 Hf.out).1;simp only at CB;have wxy:IntKind.i64.wrap (x+y)=x+y:=IntWalk.i64_in _ (by omega);clear CB
         cases aw
         ·have HGG:=zh (Dw.out (by rw[dL];simp only;refine⟨by omega,by omega,fun h=>by cases h⟩))
          clear hy hR
          gi_wp2
          exact⟨⟨i+1,by omega,by go_num,zh ⟨HY2.out,HGG.out⟩⟩,by simp[intOf];omega⟩
         ·by_cases a5:x+y=0
          ·have HGG:=zh (Dw.out (by rw[dL];simp only;exact⟨by omega,by omega,fun _=>a5⟩))
           clear hy hR
           gi_wp2
           exact⟨⟨i+1,by omega,by go_num,zh ⟨HY2.out,HGG.out⟩⟩,by simp[intOf];omega⟩
          ·have a5b:((x+y) != 0)=true:=by simpa using a5
           have HPX:=zh (HPE.out (by rw[<-Bool.not_eq_true,dL];simp only;exact fun h=>a5 (h.2.2 trivial)))
           gi_wp2
           refine hR.mono ?_;rintro e W4 ⟨_,rfl,hx⟩;have HX:=zh hx;clear hx
           gi_wp2
           exact FIN.out 3 _ _ HPX.out (by omega) HX.out
        ·obtain rfl:m=i:=by omega
         have M:=HJ.out _ HI.1.1;have t0:=M.kt.cell 0 rfl;have t1:=M.kt.cell 1 rfl;have DC:=Fb P Q T p q cP cQ k wr HH.hp HH.hq (by rw[HV1.out,HV2.out];exact Nat.le_refl _) (by rw[HV1.out];exact HN8.1) ep eq M.ht (by rw[HV1.out,HH.hm];exact Ff HH.ok HL.out (by rw[<-HH.hn];exact hlt) (fun x hx=>HI.2 x (by rw[HH.hm];exact hx)));clear M
         gi_wp2
         refine⟨trivial,callsIn_wide.2 (DC.mono ?_)⟩;rintro e w6 ⟨rfl,hb6⟩;have HI2:=zh (HS8.out _ _ HI.1 hb6);clear t0 t1 hb6 DC;have kS:k<S.lim.length:=by rw[<-HH.hn];exact hlt
         have HGD:Hid (drP T k p<=S.lim.getD k 0/\ -(S.exp.getD k 0)<=drP T k p->fE S cs T k=0):=zh (fun h=>mD (fun x hx=>HI.2 x (by rw[HH.hm];exact hx)) (by rw[<-HH.hp];exact h));have HBG:Hid (¬(drP T k p<=S.lim.getD k 0/\ -(S.exp.getD k 0)<=drP T k p)->plE S cs T=17):=zh (fun h=>oI HH.ok HL.out kS HW.2 (vL (fun x hx=>HI.2 x (by rw[HH.hm];exact hx)) (by rw[<-HH.hp];exact h)) (by omega));have SB:=cu.1 ((aW HH.ok).2.2.1 k kS);have SH:=aj.1 (aW HH.ok).2.1;have M:=HJ.out _ HI2.1;have s0:=M.ks.cell 0 rfl;have s1:=M.ks.cell 1 rfl;obtain⟨la,hla,lal,lx⟩:=M.hs.1 k kS;obtain⟨ea2,Ue,eal,ex⟩:=M.hs.2.1 k (by rw[SH.2.1];exact kS);rw[hla]at s0;rw[Ue]at s1;clear M SH hla Ue;generalize drP T k p=d at *;generalize S.lim.getD k 0=lm at *;generalize S.exp.getD k 0=ep2 at *;have wne:IntKind.i64.wrap (-ep2)= -ep2:=IntWalk.i64_in _ (by omega);clear SB
         gi_upto_region 20 with fail
         have y0:=HI2.2.1.cell 0 rfl;obtain⟨fn,tm,asg,bo,hy,hR⟩:=HY.out 17 w6 HI2.1
         by_cases b1:lm<d
         ·have HPX:=zh (HBG.out (fun h=>by omega))
          gi_wp2
          refine hR.mono ?_;rintro e W4 ⟨_,rfl,hx⟩;have HX:=zh hx;clear hx
          gi_wp2
          exact FIN.out 17 _ _ HPX.out (by omega) HX.out
         by_cases b2:d< -ep2
         ·have HPX:=zh (HBG.out (fun h=>by omega))
          gi_wp2
          refine hR.mono ?_;rintro e W4 ⟨_,rfl,hx⟩;have HX:=zh hx;clear hx
          gi_wp2
          exact FIN.out 17 _ _ HPX.out (by omega) HX.out
         have HGG:=zh (HGD.out ⟨by omega,by omega⟩);clear hy hR
         gi_wp2
         go_roundw
         case measure=>simp[intOf];omega
         case rel=>
          refine⟨k+1,by omega,by go_num,zh ⟨HI2.out,fun j hj=>?_⟩⟩
          by_cases hjk:j<k
          ·exact HW.2 j hjk
          ·obtain rfl:j=k:=by omega
           exact HGG.out
      ·obtain rfl:n=k:=by omega
       have M:=HJ.out _ HW.1.1;have k0:=M.kc.cell 0 rfl;have kl:=M.kc.lt;clear M
       gi_wp2
       clear k0 kl;refine Dy (c':=Fg) (by kernel_rfl) ?_;exact He bs bt bc b4 b5 S cs T A B C D E P Q n m p q cA cB cC cD cE cP cQ l D0 HH.out HV1.out HV2.out HL.out HW.2 J Jx HJ.out HJO.out MZ.out HY.out wr HW.1
   ·have hqi: ¬(q:Int)=(m:Int):=by omega
    have hqb:((q:Int) != (m:Int))=true:=by simpa using hqi
    have HPE:=zh (Ju.out (fun h=>absurd h hqm));clear CC2 hqm
    gi_wp2
    refine⟨trivial,?_⟩
    gi_wp2
    refine hR.mono ?_;rintro e W4 ⟨_,rfl,hx⟩;have HX:=zh hx;clear hx
    gi_wp2
    exact FIN.out 20 _ _ HPE.out (by omega) HX.out
 ·have hpi: ¬(p:Int)=(m:Int):=by omega
  have hpb:((p:Int) != (m:Int))=true:=by simpa using hpi
  have HPE:=zh (QP.out (fun h=>absurd h hpm));clear CC1 CC2 hpm
  gi_wp2
  refine⟨trivial,?_⟩
  gi_wp2
  refine hR.mono ?_;rintro e W4 ⟨_,rfl,hx⟩;have HX:=zh hx;clear hx
  gi_wp2
  exact FIN.out 20 _ _ HPE.out (by omega) HX.out
attribute [local go_sem] Oper.semAt_some
theorem BM {S:Site} {cs:List Car} {T:Tab} (h:stE S cs≠0):plE S cs T=stE S cs:=by unfold plE;rw[if_neg h]
theorem p8 (A B C D E P Q:Option Addr) (S:Site) (cs:List Car) (T:Tab) (n nB nC nD m p q cA cB cC cD cE cP cQ:Nat) (w:World) (hn:n=S.lim.length) (hnB:nB=S.exp.length) (hnC:nC=S.buy.length) (hnD:nD=S.sell.length) (hm:m=cs.length) (hp:p=T.inn.length) (hq:q=T.out.length)
 (hA:n<=cA/\cA<=9223372036854775807) (hB:nB<=cB/\cB<=9223372036854775807) (hC:nC<=cC/\cC<=9223372036854775807) (hD:nD<=cD/\cD<=9223372036854775807) (hE:m<=cE/\cE<=9223372036854775807) (hP:p<=cP/\cP<=9223372036854775807) (hQ:q<=cQ/\cQ<=9223372036854775807)
 (hS:bH w A B C D S) (hcs:df w E cs) (hT:eu w P Q T):
 Calls Try.prog 32 #[.agg #[.slice A n cA,.slice B nB cB,.slice C nC cC,.slice D nD cD],.slice E m cE,.agg #[.slice P p cP,.slice Q q cQ]] w fun e w'=>e=.returned (.int .i64 (plE S cs T))/\Below w.heap.size w w':=by
 have HN:=zh hn;have HNB:=zh hnB;have HNC:=zh hnC;have HND:=zh hnD;have HM:=zh hm;have HP:=zh hp;have HQ:=zh hq;have HS:=zh hS;have HCS:=zh hcs;have HT:=zh hT;clear hn hnB hnC hnD hm hp hq hS hcs hT;refine(callsIn_wide (n:=3)).1 (callsIn_of_wp_marks Try.func32 rfl trivial (wpIn_wide.2 ?_) rfl);simp only[Try.ntmps32,List.size_toArray,List.length_cons,List.length_nil,Nat.reduceAdd,Nat.reduceSub,Array.replicate_succ,Array.replicate_zero,List.push_toArray,List.append_toArray,List.nil_append,List.cons_append];have HB:=zh ((((Below.refl w.heap.size w).alloc (Nat.le_refl _) (.cells #[.slice A n cA,.slice B nB cB,.slice C nC cC,.slice D nD cD] 51)).alloc (by simp) (.cells #[.slice P p cP,.slice Q q cQ] 55)).alloc (by simp;omega) (.cells #[.int .i64 0] 29));have XS:=zh (((Blk.new' w #[.slice A n cA,.slice B nB cB,.slice C nC cC,.slice D nD cD] 51).alloc (.cells #[.slice P p cP,.slice Q q cQ] 55)).alloc (.cells #[.int .i64 0] 29));have XT:=zh (show Blk (((w.alloc (.cells #[.slice A n cA,.slice B nB cB,.slice C nC cC,.slice D nD cD] 51)).alloc (.cells #[.slice P p cP,.slice Q q cQ] 55)).alloc (.cells #[.int .i64 0] 29)) (w.heap.size+1) 55 [.slice P p cP,.slice Q q cQ]from by
  simpa using (Blk.new' (w.alloc (.cells #[.slice A n cA,.slice B nB cB,.slice C nC cC,.slice D nD cD] 51)) #[.slice P p cP,.slice Q q cQ] 55).alloc (.cells #[.int .i64 0] 29))
 have XR:=zh (show Blk (((w.alloc (.cells #[.slice A n cA,.slice B nB cB,.slice C nC cC,.slice D nD cD] 51)).alloc (.cells #[.slice P p cP,.slice Q q cQ] 55)).alloc (.cells #[.int .i64 0] 29)) (w.heap.size+2) 29 [.int .i64 0]from by
  simpa [Nat.add_assoc]using Blk.new' ((w.alloc (.cells #[.slice A n cA,.slice B nB cB,.slice C nC cC,.slice D nD cD] 51)).alloc (.cells #[.slice P p cP,.slice Q q cQ] 55)) #[.int .i64 0] 29)
 go_upto_region 1 with fail
 simp only[World.size_alloc,Nat.add_assoc,Nat.reduceAdd];generalize ((w.alloc (.cells #[.slice A n cA,.slice B nB cB,.slice C nC cC,.slice D nD cD] 51)).alloc (.cells #[.slice P p cP,.slice Q q cQ] 55)).alloc (.cells #[.int .i64 0] 29)=w1 at HB XS XT XR ⊢;have s0:=XS.cell 0 rfl;have s1:=XS.cell 1 rfl;have s2:=XS.cell 2 rfl;have s3:=XS.cell 3 rfl;have CS:=j3 A B C D E S cs n nB nC nD m cA cB cC cD cE w1 HN.out HNB.out HNC.out HND.out HM.out hA hB hC hD hE (HS.below HB.out (Nat.le_refl _)) (HCS.below HB.out (Nat.le_refl _));have HPS:=zh (BM (S:=S) (cs:=cs) (T:=T));obtain⟨v,hv⟩: ∃v,v=stE S cs:=⟨_,rfl⟩;rw[<-hv]at CS HPS;have HV:=zh hv;clear hv;go_upto_region 2 with (go_at_call 36;refine CS.mono ?_;rintro e w2 ⟨rfl,hb2⟩)
 have HB2:=zh (HB.trans (hb2.mono HB.size));have XS2:=zh (XS.below hb2 XS.lt);have XT2:=zh (XT.below hb2 XT.lt);have XR2:=zh (XR.below hb2 XR.lt);clear hb2 s0 s1 s2 s3 CS HB XS XT XR
 by_cases h0:v=0
 rotate_left
 ·have hb0:(v==0)=false:=by simpa using h0
  have HPV:=zh (HPS.out h0);have r0:=XR2.cell 0 rfl;have rf:=XR2.free 0;have XE:=zh (XR2.setCell 0 (.int .i64 v));have BE:=zh (HB2.setCell (p:=⟨w.heap.size+2,0,none⟩) (by simp) (.int .i64 v));go_wp2_with fail
  have c0:=XE.cell 0 rfl;exact⟨.int .i64 v,by simp[results,Try.results32,go_sem,c0],ah HPV.symm,BE.out⟩
 ·subst h0
  clear HPS;have s0:=XS2.cell 0 rfl;have s1:=XS2.cell 1 rfl;have s2:=XS2.cell 2 rfl;have s3:=XS2.cell 3 rfl;have t0:=XT2.cell 0 rfl;have t1:=XT2.cell 1 rfl;go_wp2_with fail
  refine(Jr _ _ _ _ ⟨_,_,_,_,rfl⟩ ⟨_,_,_,rfl⟩ ⟨_,_,rfl⟩).mono ?_;rintro e w4 ⟨rfl,hw4⟩;have HB4:Below w2.heap.size w2 w4:=by
   rw[hw4];exact(((Below.refl _ _).alloc (Nat.le_refl _) _).alloc (by simp) _).alloc (by simp;omega) _
  have KS:Blk w4 w2.heap.size 51 [.slice A n cA,.slice B nB cB,.slice C nC cC,.slice D nD cD]:=by
   rw[hw4];exact((Blk.new' w2 #[.slice A n cA,.slice B nB cB,.slice C nC cC,.slice D nD cD] 51).alloc _).alloc _
  have KC:Blk w4 (w2.heap.size+1) 52 [.slice E m cE]:=by
   have:=(Blk.new' (w2.alloc (.cells #[.slice A n cA,.slice B nB cB,.slice C nC cC,.slice D nD cD] 51)) #[.slice E m cE] 52).alloc (.cells #[.slice P p cP,.slice Q q cQ] 55);rw[hw4];simpa using this
  have KT:Blk w4 (w2.heap.size+2) 55 [.slice P p cP,.slice Q q cQ]:=by
   have:=Blk.new' ((w2.alloc (.cells #[.slice A n cA,.slice B nB cB,.slice C nC cC,.slice D nD cD] 51)).alloc (.cells #[.slice E m cE] 52)) #[.slice P p cP,.slice Q q cQ] 55;rw[hw4];simpa [Nat.add_assoc]using this
  have SH:=aj.1 (aW HV.symm).2.1;have eB:nB=n:=by have h1:=HNB.out;have h2:=HN.out;omega
  have eC:nC=n:=by have h1:=HNC.out;have h2:=HN.out;omega
  have eD:nD=n:=by have h1:=HND.out;have h2:=HN.out;omega
  have HB5:=zh (HB2.trans (HB4.mono HB2.size));have XR5:=zh (XR2.below HB4 XR2.lt);have HFM:Hid (FtM w2.heap.size (w2.heap.size+2) (w2.heap.size+1) S cs T A B C D E P Q n m p q cA cB cC cD cE cP cQ w4):=zh ⟨by rw[eB,eC,eD]at KS;exact KS,KT,KC,HS.below HB5.out (Nat.le_refl _),HT.below HB5.out (Nat.le_refl _),HCS.below HB5.out (Nat.le_refl _)⟩;have HFH:Hid (FtH S cs T n m p q cA cB cC cD cE cP cQ):=zh ⟨HN.out,HM.out,HP.out,HQ.out,HV.symm,hA,by rw[<-eB];exact hB,by rw[<-eC];exact hC,by rw[<-eD];exact hD,hE,hP,hQ⟩;have hz4:w.heap.size<=w4.heap.size:=HB5.size;have hr4:w.heap.size+2<w4.heap.size:=XR5.lt;clear hw4 HB4 KS KC KT SH eB eC eD s0 s1 s2 s3 t0 t1 HB2 XS2 XT2 XR2;generalize w2.heap.size=g at *;go_wp2_with fail
  have HOWN:Hid (OwnFrom w4.heap.size (fun (_:Unit) V=>Below w.heap.size w V/\Blk V (w.heap.size+2) 29 [.int .i64 (plE S cs T)])):=zh (by
   rintro _ V V' row ⟨h1,h2⟩ hg hr;exact⟨h1.grown hg h1.size (fun r e=>Nat.le_trans hz4 (hr r e).1),oJ h2 hg hr⟩)
  refine(wpIn_wide (n:=3)).1 (pY (F:=Fence.wide) (n:=3) rfl (by omega) (gf:=104) (lb:= #[.pointer (some ⟨g,0,none⟩),.pointer (some ⟨g+2,0,none⟩),.pointer (some ⟨g+1,0,none⟩)]) rfl trivial (fun _ _=>by kernel_rfl)
   (encs:=fun y:Int=> #[.int .i64 y]) (fun _=>rfl)
   (fun pre V=>pre=[]/\Below w4.heap.size w4 V) (fun pre V=> ∃x,pre=[x]/\Below w.heap.size w V/\Blk V (w.heap.size+2) 29 [.int .i64 x]) .ret
   (fun ys=>ys=[]/\plE S cs T=0) (fun pre=>pre=[plE S cs T]) (fun pre y=>True)
   ?hI ?hIx ⟨rfl,Below.refl _ _⟩ ?hseq ?a1 ?assign ?body ?done ?stop)
  case hI=>
   rintro pre V V' row ⟨h1,h2⟩ hg hr;exact⟨h1,h2.grown hg h2.size (fun r e=>(hr r e).1)⟩
  case hIx=>
   rintro pre V V' row ⟨x,h1,h2,h3⟩ hg hr;exact⟨x,h1,h2.grown hg h2.size (fun r e=>Nat.le_trans hz4 (hr r e).1),oJ h3 hg hr⟩
  case hseq=>
   intro l2 J2 Jx2 V hJ2 hO2 Ud hz2 hY2 hj2;refine(Hg g (g+2) (g+1) S cs T A B C D E P Q n m p q cA cB cC cD cE cP cQ l2 V.heap.size HFH.out (fun W=>J2 [] W) (fun x W=>Jx2 [x] W) (fun W h=>HFM.below (hJ2 [] W h).2) (fun _ W W' row h=>hO2 [] W W' row h) (fun x _ W W' row h=>Ud [x] W W' row h)
    (fun x W1 h=>(hY2 [] x W1 h trivial).mono (fun e W' h2=>⟨h2.1,?_⟩)) V (Nat.le_refl _) hj2).mono ?_
   ·rcases h2.2 with ⟨rfl,h3⟩|⟨rfl,h3⟩
    ·have:=(hJ2 _ _ h3).1
     cases this
    ·exact⟨rfl,h3⟩
   ·rintro e W' ⟨hv,⟨h3,h4⟩|⟨h3,h4⟩⟩
    ·exact⟨hv,.inl ⟨_,⟨rfl,h3⟩,h4⟩⟩
    ·exact⟨hv,.inr ⟨_,rfl,h4⟩⟩
  case assign=>
   intro l2 y V K hK
   gi_wp2
   exact hK
  case body=>
   rintro l2 pre y V hI _;have HI:=zh hI;clear hI;have XV:=zh (XR5.below HI.2 hr4);have rf:=XV.free 0;have r0:=XV.cell 0 rfl
   gi_wp2
   refine(⟨rfl,(KeepsOthers.setCell _ _ _).from _,?_⟩:_/\_/\_);exact⟨y,by rw[HI.1];rfl,((HB5.trans (HI.2.mono hz4)).setCell (p:=⟨w.heap.size+2,0,none⟩) (by simp) _),XV.setCell 0 (.int .i64 y)⟩
  case done=>
   rintro Dk ys V hD ⟨hys,h0⟩ hI hK;have HI:=zh hI;have XV:=zh (XR5.below HI.2 hr4);have rf:=XV.free 0;have r0:=XV.cell 0 rfl;have EE:Hid (Below w.heap.size w (V.setCell ⟨w.heap.size+2,0,none⟩ (.int .i64 0))/\Blk (V.setCell ⟨w.heap.size+2,0,none⟩ (.int .i64 0)) (w.heap.size+2) 29 [.int .i64 (plE S cs T)]):=zh ⟨((HB5.trans (HI.2.mono hz4)).setCell (p:=⟨w.heap.size+2,0,none⟩) (by simp) _),by rw[h0];exact XV.setCell 0 (.int .i64 0)⟩;have HMK:Hid (Marks w4.heap.size [mE Dk] (V.setCell ⟨w.heap.size+2,0,none⟩ (.int .i64 0))):=zh (Marks.cons (W0:=w4) (Marks.nil _ _) hD hD (Marks.nil _ _) ((Below.heap_setCell _ _ _ _ (by simp;omega)).trans hK));clear hI hK
   gi_wp2
   go_wp2_with fail
   refine jA (u:=.returning) (by intro h;cases h) HOWN.out (fun V2 h2=>?_) HMK.out EE.out;have c0:=h2.2.cell 0 rfl;exact⟨.int .i64 (plE S cs T),by simp[results,Try.results32,go_sem,c0],rfl,h2.1⟩
  case stop=>
   rintro Dk pre V hD hS ⟨x,h1,h2,h3⟩ hK;rw[hS]at h1
   cases h1
   have HMK:Hid (Marks w4.heap.size [mE Dk] V):=zh (Marks.cons (W0:=w4) (Marks.nil _ _) hD hD (Marks.nil _ _) hK);have EE:=zh (And.intro h2 h3);clear h2 h3 hK
   gi_wp2
   refine jA (u:=.returning) (by intro h;cases h) HOWN.out (fun V2 h2=>?_) HMK.out EE.out;have c0:=h2.2.cell 0 rfl;exact⟨.int .i64 (plE S cs T),by simp[results,Try.results32,go_sem,c0],rfl,h2.1⟩
attribute [local go_sem] Oper.semAt_some
theorem QQ:(Try.prog.info? 22).map (fun i=>(i.zero,i.size,i.bytes))=some (some (.slice none 0 0),1,24):=by kernel_rfl
def lvN (c:Car) (x y:List Int) (k:Nat):List Int:=(List.range k).map (fun j=>lev c x y j)
theorem Jv (c:Car) (x y:List Int) (k:Nat):lvN c x y (k+1)=lvN c x y k++[lev c x y k]:=by simp[lvN,List.range_succ]
theorem rM (c:Car) (x y:List Int) (k:Nat):(lvN c x y k).length=k:=by simp[lvN]
theorem pJ {w:World} {B B' e z n:Nat} {v:Value} {xs:List Value} (h:w.ownsRow B e z v n xs) (hb:B'<=B):w.ownsRow B' e z v n xs:=⟨h.1,h.2.imp id (fun ⟨k,c,cur,hv,hb',r⟩=>⟨k,c,cur,hv,Nat.le_trans hb hb',r⟩)⟩
attribute [local go_sem] Oper.semAt_some
end Go.Proofs.Ytmebpglkeedaoaa
namespace Go.Proofs.Ytmebpglkeedaoaa
open Go.RowKit Dp
theorem Fh {c:Car} {x y:List Int} {n k:Nat} (h:k<n):(lvN c x y n).getD k 0=lev c x y k:=by
 simp[lvN,zg,h]
end Go.Proofs.Ytmebpglkeedaoaa
namespace Go.Proofs.Ytmebpglkeedaoaa
namespace Dp
def ag (n i k:Nat):Nat:=1+n+2*(i*(n+1)+k)
theorem ig (n i k:Nat):ag n i k=ag n i 0+2*k:=by unfold ag;omega
theorem jL (n i:Nat):ag n (i+1) 0=ag n i n+2:=by
 unfold ag;rw[Nat.add_mul];omega
def slA (c:Car) (a k:Nat):List Arc:=⟨a,a+1,c.cap,0⟩::⟨a+1,a+2,c.cap,0⟩::(if dB c k=true then []else [⟨1+k,a+2,c.inn,0⟩,⟨a+1,1+k,c.out,0⟩])
def carA (c:Car) (a:Nat):Nat->List Arc
 |0=>[]
 |k+1=>carA c a k++slA c (a+2*k) k
def nN (c:Car) (a:Nat):List Arc:=[⟨a,a+1,c.cap,0⟩,⟨a+1,0,c.cap-c.fin,0⟩]
def dP (S:Site):Nat->List Arc
 |0=>[]
 |t+1=>dP S t++[⟨0,1+t,S.lim.getD t 0,S.buy.getD t 0⟩]
def gQ (S:Site):Nat->List Arc
 |0=>[]
 |t+1=>gQ S t++[⟨1+t,0,S.exp.getD t 0,-(S.sell.getD t 0)⟩]
def aQ (S:Site) (cs:List Car):Nat->List Arc
 |0=>dP S S.lim.length++gQ S S.lim.length
 |i+1=>aQ S cs i++(carA (cs.getD i default) (ag S.lim.length i 0) S.lim.length++nN (cs.getD i default) (ag S.lim.length i S.lim.length))
theorem fF (S:Site): ∀t,(dP S t).length=t
 |0=>rfl
 |t+1=>by simp[dP,fF S t]
theorem iO (S:Site): ∀t,(gQ S t).length=t
 |0=>rfl
 |t+1=>by simp[gQ,iO S t]
theorem Fj (c:Car) (a k:Nat):(slA c a k).length<=4/\2<=(slA c a k).length:=by unfold slA;split<;>simp
theorem BN (c:Car) (a:Nat): ∀k,(carA c a k).length<=4*k
 |0=>Nat.le_refl _
 |k+1=>by have:=BN c a k;have:=Fj c (a+2*k) k;simp only[carA,List.length_append];omega
theorem vM (S:Site) (cs:List Car): ∀i,(aQ S cs i).length<=2*S.lim.length+i*(4*S.lim.length+2)
 |0=>by simp[aQ,fF,iO];omega
 |i+1=>by
  have:=vM S cs i;have h2:=BN (cs.getD i default) (ag S.lim.length i 0) S.lim.length;simp only[aQ,List.length_append,nN,List.length_cons,List.length_nil,Nat.add_mul];omega
theorem uJ {S:Site} {cs:List Car} (h:stE S cs=0) (i:Nat) (hi:i<=cs.length):(aQ S cs i).length<=1648:=by
 have h0:=aW h;have hn:=(aj.1 h0.2.1).1;have h1:=vM S cs i;have h2:i*(4*S.lim.length+2)<=8*194:=Nat.mul_le_mul (by omega) (by omega);omega
def bG (S:Site) (cs:List Car) (i k:Nat):List Arc:=aQ S cs i++carA (cs.getD i default) (ag S.lim.length i 0) k
theorem vN (c:Car) (a k:Nat): ∀d,(carA c a k).length<=(carA c a (k+d)).length
 |0=>Nat.le_refl _
 |d+1=>by
  have:=vN c a k d
  show _<=(carA c a (k+d+1)).length
  simp only[carA,List.length_append];omega
theorem vO {S:Site} {cs:List Car} (h:stE S cs=0) {i k:Nat} (hi:i<cs.length) (hk:k<=S.lim.length):(bG S cs i k).length+2<=1648:=by
 have h1:=uJ h (i+1) hi;have h2:=vN (cs.getD i default) (ag S.lim.length i 0) k (S.lim.length-k);rw[show k+(S.lim.length-k)=S.lim.length by omega]at h2;simp only[aQ,bG,List.length_append,nN,List.length_cons,List.length_nil]at h1 ⊢;omega
theorem mF (S:Site) (cs:List Car) (i:Nat):bG S cs i 0=aQ S cs i:=by simp[bG,carA]
theorem p9 (S:Site) (cs:List Car) (i k:Nat):bG S cs i (k+1)=bG S cs i k++slA (cs.getD i default) (ag S.lim.length i k) k:=by
 rw[ig];simp[bG,carA]
theorem kr (S:Site) (cs:List Car) (i:Nat):aQ S cs (i+1)=bG S cs i S.lim.length++nN (cs.getD i default) (ag S.lim.length i S.lim.length):=by simp[bG,aQ]
def inX (S:Site) (cs:List Car) (i k:Nat):Int:=if dB (cs.getD i default) k=true then -1 else ((bG S cs i k).length:Int)+2
def nP (S:Site) (cs:List Car) (i k:Nat):Int:=if dB (cs.getD i default) k=true then -1 else ((bG S cs i k).length:Int)+3
def bT (f:Nat->Int) (n k:Nat):List Int:=(List.range n).map fun j=>if j<k then f j else 0
theorem fV (f:Nat->Int) (n k:Nat):(bT f n k).length=n:=by simp[bT]
theorem kT (f:Nat->Int) (n:Nat):bT f n 0=List.replicate n 0:=by
 apply List.ext_getElem
 ·simp[bT]
 ·intro i h1 h2;simp[bT]
theorem mG (f:Nat->Int) (n k:Nat) (hk:k<n):(bT f n k).set k (f k)=bT f n (k+1):=by
 apply List.ext_getElem
 ·simp[bT]
 ·intro i h1 h2
  simp only[bT,List.getElem_set,List.getElem_map,List.getElem_range]
  by_cases e:k=i
  ·subst e;rw[if_pos rfl,if_pos (by omega)]
  ·rw[if_neg e]
   by_cases h:i<k
   ·rw[if_pos h,if_pos (by omega)]
   ·rw[if_neg h,if_neg (by omega)]
theorem Jw {f:Nat->Int} {n k j:Nat} (hj:j<n):(bT f n k).getD j 0=if j<k then f j else 0:=by
 simp[bT,zg,hj]
theorem vP {f:Nat->Int} {n j:Nat} (hj:j<n):(bT f n n).getD j 0=f j:=by rw[Jw hj,if_pos hj]
theorem vQ (f:Nat->Int) (n k:Nat) (h:f k=0) (hk:k<n):bT f n k=bT f n (k+1):=by
 apply List.ext_getElem
 ·simp[bT]
 ·intro i h1 h2
  simp only[bT,List.getElem_map,List.getElem_range]
  by_cases e:i=k
  ·subst e;rw[if_neg (by omega),if_pos (by omega),h]
  ·by_cases h:i<k
   ·rw[if_pos h,if_pos (by omega)]
   ·rw[if_neg h,if_neg (by omega)]
def inR (S:Site) (cs:List Car) (i:Nat):List Int:=bT (inX S cs i) S.lim.length S.lim.length
def gX (S:Site) (cs:List Car) (i:Nat):List Int:=bT (nP S cs i) S.lim.length S.lim.length
def slS (c:Car) (k:Nat):List Int:=[if k=0 then c.start else 0,-(dz c k)]
def gN (c:Car):Nat->List Int
 |0=>[]
 |k+1=>gN c k++slS c k
def oK (c:Car):Nat->List Int
 |0=>[]
 |k+1=>oK c k++[0,-(dz c k)]
def aY (S:Site) (cs:List Car):Nat->List Int
 |0=>0::List.replicate S.lim.length 0
 |i+1=>aY S cs i++(gN (cs.getD i default) S.lim.length++[0,-(cs.getD i default).fin])
theorem mH (c:Car): ∀k,(gN c k).length=2*k
 |0=>rfl
 |k+1=>by simp[gN,slS,mH c k];omega
theorem BO (c:Car): ∀k,(oK c k).length=2*k
 |0=>rfl
 |k+1=>by simp[oK,BO c k];omega
theorem dG (S:Site) (cs:List Car): ∀i,(aY S cs i).length=ag S.lim.length i 0
 |0=>by simp[aY,ag];omega
 |i+1=>by
  rw[jL,ig];simp only[aY,List.length_append,mH,dG S cs i,List.length_cons,List.length_nil];omega
theorem QR (c:Car) (k:Nat): ∃t,oK c (k+1)=0::t/\gN c (k+1)=c.start::t:=by
 induction k with
 |zero=>exact⟨[-(dz c 0)],by simp[oK],by simp[gN,slS]⟩
 |succ k ih=>
  obtain⟨t,h1,h2⟩:=ih;refine⟨t++[0,-(dz c (k+1))],?_,?_⟩
  ·rw[oK,h1];simp
  ·rw[gN,h2];simp[slS]
theorem Jy {P Z:List Int} {a x:Int}:(P++a::Z).set P.length x=P++x::Z:=by
 rw[List.set_append_right _ _ (Nat.le_refl _),Nat.sub_self];rfl
theorem Fp {P Z:List Int} {a:Int}:(P++a::Z).getD P.length 0=a:=by
 rw[zg,List.getElem?_append_right (Nat.le_refl _),Nat.sub_self];rfl
theorem rO {P Z:List Int} {a b x:Int}:(P++a::b::Z).set (P.length+1) x=P++a::x::Z:=by
 simp
theorem uK {P Z:List Int} {a b:Int}:(P++a::b::Z).getD (P.length+1) 0=b:=by
 simp
def tlS (c:Car) (k r:Nat):List Int:=if k=0 then c.start::List.replicate (r-1) 0 else List.replicate r 0
theorem uL (c:Car) (k r:Nat):tlS c k (r+2)=(if k=0 then c.start else 0)::0::List.replicate r 0:=by
 unfold tlS;split<;>rfl
theorem Na (c:Car) (k r:Nat) (hr:0<r):(tlS c k r).length=r:=by
 unfold tlS;split<;>simp;omega
def mI (S:Site) (cs:List Car) (M i k:Nat):List Int:=(aY S cs i++gN (cs.getD i default) k)++tlS (cs.getD i default) k (M-ag S.lim.length i k)
def jB (S:Site) (cs:List Car) (M i:Nat):List Int:=aY S cs i++List.replicate (M-ag S.lim.length i 0) 0
theorem oL (S:Site) (cs:List Car) (i k:Nat):(aY S cs i++gN (cs.getD i default) k).length=ag S.lim.length i k:=by
 rw[List.length_append,dG,mH,<-ig]
theorem Jz (S:Site) (cs:List Car) {M i k:Nat} (h:ag S.lim.length i k<M):(mI S cs M i k).length=M:=by
 unfold mI;rw[List.length_append,oL,Na _ _ _ (by omega)];omega
theorem JB (S:Site) (cs:List Car) {M i:Nat} (h:ag S.lim.length i 0<=M):(jB S cs M i).length=M:=by
 unfold jB;rw[List.length_append,dG,List.length_replicate];omega
theorem JC (S:Site) (cs:List Car) {M i:Nat} (h:ag S.lim.length i 0<M):(jB S cs M i).getD (ag S.lim.length i 0) 0=0:=by
 obtain⟨r,hr⟩: ∃r,M-ag S.lim.length i 0=r+1:=⟨M-ag S.lim.length i 0-1,by omega⟩;unfold jB;rw[hr,List.replicate_succ];have:=Fp (P:=aY S cs i) (Z:=List.replicate r 0) (a:=0);rw[dG]at this;exact this
theorem Dz (S:Site) (cs:List Car) {M i:Nat} (h:ag S.lim.length i 0<M):(jB S cs M i).set (ag S.lim.length i 0) (cs.getD i default).start=mI S cs M i 0:=by
 obtain⟨r,hr⟩: ∃r,M-ag S.lim.length i 0=r+1:=⟨M-ag S.lim.length i 0-1,by omega⟩;unfold jB mI;rw[hr,List.replicate_succ];have:=Jy (P:=aY S cs i) (Z:=List.replicate r 0) (a:=0) (x:=(cs.getD i default).start);rw[dG]at this;rw[this];simp[gN,tlS]
theorem JD (S:Site) (cs:List Car) {M i k:Nat} (h:ag S.lim.length i k+1<M):(mI S cs M i k).getD (ag S.lim.length i k+1) 0=0:=by
 obtain⟨r,hr⟩: ∃r,M-ag S.lim.length i k=r+2:=⟨M-ag S.lim.length i k-2,by omega⟩;unfold mI;rw[hr,uL];have:=uK (P:=aY S cs i++gN (cs.getD i default) k) (Z:=List.replicate r 0) (a:=if k=0 then (cs.getD i default).start else 0) (b:=0);rw[oL]at this;exact this
theorem JE (S:Site) (cs:List Car) {M i k:Nat} (h:ag S.lim.length i k+1<M):(mI S cs M i k).set (ag S.lim.length i k+1) (-(dz (cs.getD i default) k))=mI S cs M i (k+1):=by
 obtain⟨r,hr⟩: ∃r,M-ag S.lim.length i k=r+2:=⟨M-ag S.lim.length i k-2,by omega⟩;have hr2:M-ag S.lim.length i (k+1)=r:=by rw[ig]at hr ⊢;omega
 unfold mI;rw[hr,hr2,uL];have:=rO (P:=aY S cs i++gN (cs.getD i default) k) (Z:=List.replicate r 0) (a:=if k=0 then (cs.getD i default).start else 0) (b:=0) (x:= -(dz (cs.getD i default) k));rw[oL]at this;rw[this];simp[gN,slS,tlS]
theorem Hl (S:Site) (cs:List Car) {M i:Nat} (hn:0<S.lim.length) (h:ag S.lim.length i S.lim.length+1<M):(mI S cs M i S.lim.length).set (ag S.lim.length i S.lim.length+1) (-(cs.getD i default).fin)=jB S cs M (i+1):=by
 obtain⟨r,hr⟩: ∃r,M-ag S.lim.length i S.lim.length=r+2:=⟨M-ag S.lim.length i S.lim.length-2,by omega⟩;have hr2:M-ag S.lim.length (i+1) 0=r:=by rw[jL];omega
 unfold mI jB;rw[hr,hr2,uL];have:=rO (P:=aY S cs i++gN (cs.getD i default) S.lim.length) (Z:=List.replicate r 0) (a:=if S.lim.length=0 then (cs.getD i default).start else 0) (b:=0) (x:= -(cs.getD i default).fin);rw[oL]at this;rw[this,if_neg (by omega)];simp[aY]
def jo (S:Site) (cs:List Car) (M i k:Nat):List Int:=(aY S cs i++oK (cs.getD i default) k)++List.replicate (M-ag S.lim.length i k) 0
theorem uM (S:Site) (cs:List Car) (i k:Nat):(aY S cs i++oK (cs.getD i default) k).length=ag S.lim.length i k:=by
 rw[List.length_append,dG,BO,<-ig]
theorem Hm (S:Site) (cs:List Car) (M i:Nat):jo S cs M i 0=jB S cs M i:=by simp[jo,jB,oK]
theorem JF (S:Site) (cs:List Car) {M i k:Nat} (h:ag S.lim.length i k<=M):(jo S cs M i k).length=M:=by
 unfold jo;rw[List.length_append,uM,List.length_replicate];omega
theorem JG (S:Site) (cs:List Car) {M i k:Nat} (h:ag S.lim.length i k+1<M):(jo S cs M i k).getD (ag S.lim.length i k+1) 0=0:=by
 obtain⟨r,hr⟩: ∃r,M-ag S.lim.length i k=r+2:=⟨M-ag S.lim.length i k-2,by omega⟩;unfold jo;rw[hr];have:=uK (P:=aY S cs i++oK (cs.getD i default) k) (Z:=List.replicate r 0) (a:=0) (b:=0);rw[uM]at this;exact this
theorem JH (S:Site) (cs:List Car) {M i k:Nat} (h:ag S.lim.length i k+1<M):(jo S cs M i k).set (ag S.lim.length i k+1) (-(dz (cs.getD i default) k))=jo S cs M i (k+1):=by
 obtain⟨r,hr⟩: ∃r,M-ag S.lim.length i k=r+2:=⟨M-ag S.lim.length i k-2,by omega⟩;have hr2:M-ag S.lim.length i (k+1)=r:=by rw[ig]at hr ⊢;omega
 unfold jo;rw[hr,hr2];have:=rO (P:=aY S cs i++oK (cs.getD i default) k) (Z:=List.replicate r 0) (a:=0) (b:=0) (x:= -(dz (cs.getD i default) k));rw[uM]at this
 show(aY S cs i++oK (cs.getD i default) k++0::0::List.replicate r 0).set _ _=_
 rw[this];simp[oK]
theorem DD (S:Site) (cs:List Car) {M i:Nat} (hn:0<S.lim.length):(jo S cs M i S.lim.length).getD (ag S.lim.length i 0) 0=0/\
 (jo S cs M i S.lim.length).set (ag S.lim.length i 0) (cs.getD i default).start=(aY S cs i++gN (cs.getD i default) S.lim.length)++List.replicate (M-ag S.lim.length i S.lim.length) 0:=by
 obtain⟨k,hk⟩: ∃k,S.lim.length=k+1:=⟨S.lim.length-1,by omega⟩;obtain⟨t,h1,h2⟩:=QR (cs.getD i default) k;have e:jo S cs M i S.lim.length=aY S cs i++0::(t++List.replicate (M-ag S.lim.length i S.lim.length) 0):=by
  unfold jo;rw[show oK (cs.getD i default) S.lim.length=0::t by rw[hk];exact h1];simp
 rw[e];have a:=Fp (P:=aY S cs i) (Z:=t++List.replicate (M-ag S.lim.length i S.lim.length) 0) (a:=0);have b:=Jy (P:=aY S cs i) (Z:=t++List.replicate (M-ag S.lim.length i S.lim.length) 0) (a:=0) (x:=(cs.getD i default).start);rw[dG]at a b;refine⟨a,?_⟩;rw[b,show gN (cs.getD i default) S.lim.length=(cs.getD i default).start::t by rw[hk];exact h2];simp
theorem Ho (S:Site) (cs:List Car) {M i:Nat} (h:ag S.lim.length i S.lim.length+1<M):
 ((aY S cs i++gN (cs.getD i default) S.lim.length)++List.replicate (M-ag S.lim.length i S.lim.length) 0).getD (ag S.lim.length i S.lim.length+1) 0=0/\
 ((aY S cs i++gN (cs.getD i default) S.lim.length)++List.replicate (M-ag S.lim.length i S.lim.length) 0).set (ag S.lim.length i S.lim.length+1) (-(cs.getD i default).fin)=jB S cs M (i+1):=by
 obtain⟨r,hr⟩: ∃r,M-ag S.lim.length i S.lim.length=r+2:=⟨M-ag S.lim.length i S.lim.length-2,by omega⟩;have hr2:M-ag S.lim.length (i+1) 0=r:=by rw[jL];omega
 unfold jB;rw[hr,hr2];have a:=uK (P:=aY S cs i++gN (cs.getD i default) S.lim.length) (Z:=List.replicate r 0) (a:=0) (b:=0);have b:=rO (P:=aY S cs i++gN (cs.getD i default) S.lim.length) (Z:=List.replicate r 0) (a:=0) (b:=0) (x:= -(cs.getD i default).fin);rw[oL]at a b;refine⟨a,?_⟩
 show(aY S cs i++gN (cs.getD i default) S.lim.length++0::0::List.replicate r 0).set _ _=_
 rw[b];simp[aY]
def kU (S:Site) (cs:List Car):List Int:=(aY S cs cs.length).set 0 (-(sum (aY S cs cs.length)))
def az (S:Site) (cs:List Car):Net:=⟨kU S cs,aQ S cs cs.length⟩
def bK (S:Site) (cs:List Car):Nat:=ag S.lim.length cs.length 0
theorem eF (S:Site) (cs:List Car):(kU S cs).length=bK S cs:=by simp[kU,dG,bK]
theorem BP (S:Site) (cs:List Car):jB S cs (bK S cs) cs.length=aY S cs cs.length:=by simp[jB,bK]
theorem vR (S:Site) (cs:List Car) (hm:S.lim.length+1<=bK S cs):jB S cs (bK S cs) 0=List.replicate (bK S cs) 0:=by
 unfold jB
 show 0::List.replicate S.lim.length 0++_=_
 rw[<-List.replicate_succ,<-List.replicate_append_replicate.symm]
 congr 1
 simp[ag];omega
theorem dM {S:Site} {cs:List Car} (h:stE S cs=0):bK S cs<=833/\S.lim.length+1<=bK S cs:=by
 have h0:=aW h;have hn:=(aj.1 h0.2.1).1;unfold bK ag;have h2:cs.length*(S.lim.length+1)<=8*49:=Nat.mul_le_mul (by omega) (by omega);omega
theorem xO {S:Site} {cs:List Car} {i k:Nat} (hi:i<cs.length) (hk:k<=S.lim.length):ag S.lim.length i k+1<bK S cs:=by
 unfold bK ag;have h2:(i+1)*(S.lim.length+1)<=cs.length*(S.lim.length+1):=Nat.mul_le_mul hi (Nat.le_refl _);rw[Nat.add_mul]at h2;omega
theorem eG {S:Site} {cs:List Car} (h:stE S cs=0) {i:Nat} (hi:i<cs.length):dE S.lim.length (cs.getD i default)=true:=(aW h).2.2.2 i hi
theorem Fq {n:Nat} {c:Car} (h:dE n c=true): ∀k x,x∈gN c k-> -1048576<=x/\x<=1048576
 |0,x,hx=>by simp[gN]at hx
 |k+1,x,hx=>by
  simp only[gN,slS,List.mem_append,List.mem_cons,List.not_mem_nil,or_false]at hx;have h1:=(aT.1 h).1;have h2:=iN h k
  rcases hx with hx|hx|hx
  ·exact Fq h k x hx
  ·subst hx;split<;>omega
  ·subst hx;omega
theorem kV {S:Site} {cs:List Car} (h:stE S cs=0): ∀i,i<=cs.length-> ∀x,x∈aY S cs i-> -1048576<=x/\x<=1048576
 |0,_,x,hx=>by
  simp only[aY,List.mem_cons,List.mem_replicate]at hx
  rcases hx with hx|hx<;>omega
 |i+1,hi,x,hx=>by
  have hc:=eG h (show i<cs.length by omega);have h1:=(aT.1 hc).1;simp only[aY,List.mem_append,List.mem_cons,List.not_mem_nil,or_false]at hx
  rcases hx with hx|hx|hx|hx
  ·exact kV h i (by omega) x hx
  ·exact Fq hc _ x hx
  ·subst hx;omega
  ·subst hx;omega
def lS (l:List Int) (j:Nat):Int:=sum ((l.drop 1).take j)
theorem vS (l:List Int):lS l 0=0:=rfl
theorem vT (l:List Int) (j:Nat) (h:j+1<l.length):lS l (j+1)=lS l j+l.getD (j+1) 0:=by
 unfold lS;rw[jd _ _ (by simp;omega)]
 congr 1
 simp only[zg,List.getElem?_drop];rw[Nat.add_comm 1 j]
theorem BQ (l:List Int) (h0:l.getD 0 0=0) (hl:0<l.length):lS l (l.length-1)=sum l:=by
 cases l with
 |nil=>simp at hl
 |cons a t=>
  have ha:a=0:=h0;subst ha;unfold lS;simp[sum]
theorem Fs {l:List Int} (h: ∀x,x∈l-> -1048576<=x/\x<=1048576) (j:Nat) (hj:j<=1024): -1073741824<=lS l j/\lS l j<=1073741824:=by
 have h2:=wF (B:=1048576) (by omega) ((l.drop 1).take j) (fun x hx=>h x (List.mem_of_mem_drop (List.mem_of_mem_take hx)));have h3:((l.drop 1).take j).length<=1024:=by rw[List.length_take];omega
 unfold lS;omega
theorem jM (S:Site) (cs:List Car): ∀i,(aY S cs i).getD 0 0=0
 |0=>rfl
 |i+1=>by
  have h:=jM S cs i;have hl:0<(aY S cs i).length:=by rw[dG];unfold ag;omega
  simp only[aY,zg]at h ⊢;rw[List.getElem?_append_left hl];exact h
def egA (c:Car) (k:Nat) (l left:Int):Int:=if dB c k=true then 0 else max 0 (min (min c.inn (c.cap-l)) left)
def egW (S:Site) (cs:List Car) (L:Nat->Int) (k:Nat):Nat->Int
 |0=>S.lim.getD k 0
 |i+1=>egW S cs L k i-egA (cs.getD i default) k (L i) (egW S cs L k i)
def egL (S:Site) (cs:List Car):Nat->Nat->Int
 |0,i=>(cs.getD i default).start
 |k+1,i=>egL S cs k i+egA (cs.getD i default) k (egL S cs k i) (egW S cs (egL S cs k) k i)-dz (cs.getD i default) k
def egV (S:Site) (cs:List Car) (k i:Nat):Int:=egW S cs (egL S cs k) k i
def egX (S:Site) (cs:List Car) (i k:Nat):Int:=egA (cs.getD i default) k (egL S cs k i) (egV S cs k i)
theorem BR (S:Site) (cs:List Car) (k i:Nat):egV S cs k (i+1)=egV S cs k i-egX S cs i k:=rfl
theorem BS (S:Site) (cs:List Car) (k i:Nat):egL S cs (k+1) i=egL S cs k i+egX S cs i k-dz (cs.getD i default) k:=rfl
theorem JI {c:Car} {k:Nat} {l left:Int} (h:0<=c.inn/\c.inn<=1048576):0<=egA c k l left/\egA c k l left<=1048576:=by
 unfold egA
 split<;>omega
theorem JJ {S:Site} {cs:List Car} (h:stE S cs=0) {i:Nat} (hi:i<cs.length): ∀k:Nat,-(1048576*(k:Int))<=egL S cs k i/\egL S cs k i<=1048576*((k:Int)+1)
 |0=>by
  have h1:=(aT.1 (eG h hi)).1;simp only[egL];omega
 |k+1=>by
  have h1:=(aT.1 (eG h hi)).1;have h2:=JJ h hi k;have h3:=iN (eG h hi) k;have h4:=JI (c:=cs.getD i default) (k:=k) (l:=egL S cs k i) (left:=egV S cs k i) h1.2.1;rw[BS];unfold egX;omega
theorem JK {S:Site} {cs:List Car} (h:stE S cs=0) {i:Nat} (hi:i<cs.length) (k:Nat):0<=egX S cs i k/\egX S cs i k<=1048576:=JI (aT.1 (eG h hi)).1.2.1
theorem JL {S:Site} {cs:List Car} (h:stE S cs=0) {k:Nat} (hk:k<S.lim.length): ∀i:Nat,i<=cs.length-> -(1048576*(i:Int))<=egV S cs k i/\egV S cs k i<=1048576
 |0,_=>by
  have h1:=cu.1 ((aW h).2.2.1 k hk);have:egV S cs k 0=S.lim.getD k 0:=rfl;omega
 |i+1,hi=>by
  have h2:=JL h hk i (by omega);have h3:=JK h (show i<cs.length by omega) k;rw[BR];omega
def egT (S:Site) (cs:List Car):Tab:=⟨(List.range cs.length).map fun i=>bT (egX S cs i) S.lim.length S.lim.length,(List.range cs.length).map fun _=>List.replicate S.lim.length 0⟩
def egE (S:Site) (cs:List Car):Int:=if stE S cs=0 then (if plE S cs (egT S cs)=0 then 0 else 18)else stE S cs
end Dp
end Go.Proofs.Ytmebpglkeedaoaa
namespace Go.Proofs.Ytmebpglkeedaoaa
open Go.RowKit Dp
theorem vU {l:List ja} {k:Int}: ∀j,(∀i,i<j->(l.getD i default).fr≠k)->iM l k j=0
 |0,_=>rfl
 |j+1,h=>by
  unfold iM;rw[if_neg (h j (by omega))];exact vU j (fun i hi=>h i (by omega))
theorem vV {l:List ja} {k:Int} {j:Nat} (h:(l.getD j default).fr<=k/\k<(l.getD j default).to): ∀n,j<n->fO l k n=true
 |0,hn=>by omega
 |n+1,hn=>by
  unfold fO
  by_cases e:n=j
  ·subst e;rw[decide_eq_true h];simp
  ·rw[vV h n (by omega)];rfl
theorem JN (v0 v1 v2 v3 v4:Value) (k:Int) (T:Option Addr) (l:List ja) (n cT:Nat) (w:World) (hn:n=l.length) (hc:n<=cT/\cT<=9223372036854775807) (hT:fP w T l):
 Calls Try.prog 84 #[.agg #[v0,v1,v2,v3,v4,.slice T n cT],.int .i64 k] w fun e w'=>e=.returned (.bool (fO l k n))/\Below w.heap.size w w':=by
 have HN:=zh hn;have HT:=zh hT;clear hn hT;have X:=zh (Blk.new' w #[v0,v1,v2,v3,v4,.slice T n cT] 63);have HB:=zh ((Below.refl w.heap.size w).alloc (Nat.le_refl _) (.cells #[v0,v1,v2,v3,v4,.slice T n cT] 63));have HT1:=zh (HT.below HB.out (Nat.le_refl _));go_enter Try.func84,Try.ntmps84;go_upto_region 1 with fail
 generalize w.alloc (.cells #[v0,v1,v2,v3,v4,.slice T n cT] 63)=w1 at X HB HT1 ⊢;have c5:=X.cell 5 rfl;go_wp2_with fail
 go_loop [5] (fun i=> ∃j:Nat,j<=n/\i=.int .i64 j/\Hid (fO l k j=false)) (fun i=>n-(intOf i).toNat)
 case atStart=>exact⟨0,Nat.zero_le _,rfl,zh rfl⟩
 case round=>
  obtain⟨j,hj,rfl,HJ⟩:=hrel
  by_cases hlt:j<n
  ·have hji:(j:Int)<(n:Int):=by omega
   obtain⟨ad,rfl,abl,t0,t1,t2⟩:=HT1.out j (by rw[<-HN.out];exact hlt);have HA:=zh (show fO l k (j+1)=(fO l k j||decide ((l.getD j default).fr<=k/\k<(l.getD j default).to))from rfl);have HY:=zh (fun h=>vV (l:=l) (k:=k) (j:=j) h n hlt);generalize l.getD j default=t at *;obtain⟨fr,«to»,us⟩:=t;simp only at t0 t1 t2 HA HY
   by_cases h1:fr<=k
   ·by_cases h2:k<«to»
    ·go_wp2_with fail
     exact bodyPost_ret (v:=.bool true) (by simp[results,Try.results84,go_sem]) rfl ⟨by rw[HY.out ⟨h1,h2⟩],HB.out⟩
    ·go_wp2_with fail
     exact⟨⟨j+1,by omega,by go_num,zh (by rw[HA.out,HJ.out,decide_eq_false (fun h=>h2 h.2)];rfl)⟩,by simp[intOf];omega⟩
   ·go_wp2_with fail
    exact⟨⟨j+1,by omega,by go_num,zh (by rw[HA.out,HJ.out,decide_eq_false (fun h=>h1 h.1)];rfl)⟩,by simp[intOf];omega⟩
  ·obtain rfl:j=n:=by omega
   go_wp2_with fail
   exact bodyPost_ret (v:=.bool false) (by simp[results,Try.results84,go_sem]) rfl ⟨by rw[HJ.out],HB.out⟩
theorem JO (v0 v1 v2 v3 v4:Value) (k cap:Int) (N:Nat) (T:Option Addr) (l:List ja) (n cT:Nat) (w:World) (hn:n=l.length) (hc:n<=cT/\cT<=9223372036854775807) (hT:fP w T l) (hok: ∀j,j<l.length->eU cap N l j=true):
 Calls Try.prog 86 #[.agg #[v0,v1,v2,v3,v4,.slice T n cT],.int .i64 k] w fun e w'=>e=.returned (.int .i64 (iM l k n))/\Below w.heap.size w w':=by
 have HN:=zh hn;have HT:=zh hT;have HK:=zh hok;clear hn hT hok;have X:=zh (Blk.new' w #[v0,v1,v2,v3,v4,.slice T n cT] 63);have HB:=zh ((Below.refl w.heap.size w).alloc (Nat.le_refl _) (.cells #[v0,v1,v2,v3,v4,.slice T n cT] 63));have HT1:=zh (HT.below HB.out (Nat.le_refl _));go_enter Try.func86,Try.ntmps86;go_upto_region 1 with fail
 generalize w.alloc (.cells #[v0,v1,v2,v3,v4,.slice T n cT] 63)=w1 at X HB HT1 ⊢;have c5:=X.cell 5 rfl;go_wp2_with fail
 go_loop [5] (fun i=> ∃j:Nat,j<=n/\i=.int .i64 j/\Hid (∀i,i<j->(l.getD i default).fr≠k)) (fun i=>n-(intOf i).toNat)
 case atStart=>exact⟨0,Nat.zero_le _,rfl,zh (fun i hi=>absurd hi (Nat.not_lt_zero _))⟩
 case round=>
  obtain⟨j,hj,rfl,HJ⟩:=hrel
  by_cases hlt:j<n
  ·have hji:(j:Int)<(n:Int):=by omega
   obtain⟨ad,rfl,abl,t0,t1,t2⟩:=HT1.out j (by rw[<-HN.out];exact hlt);have HY:=zh (E9 HK.out (j:=j) (by rw[<-HN.out];exact hlt) n hlt (by rw[<-HN.out];exact Nat.le_refl _));have HS:Hid ((l.getD j default).fr≠k-> ∀i,i<j+1->(l.getD i default).fr≠k):=zh (fun h i hi=>by
    by_cases e:i=j
    ·subst e;exact h
    ·exact HJ.out i (by omega))
   generalize l.getD j default=t at *;obtain⟨fr,«to»,us⟩:=t;simp only at t0 t1 t2 HY HS
   by_cases h1:fr=k
   ·subst h1
    go_wp2_with fail
    exact bodyPost_ret (v:=.int .i64 us) (by simp[results,Try.results86,go_sem]) rfl ⟨by rw[HY.out],HB.out⟩
   ·have h1b:(fr==k)=false:=by simp[h1]
    have HR:=zh (HS.out h1);go_wp2_with fail
    exact⟨⟨j+1,by omega,by go_num,HR⟩,by simp[intOf];omega⟩
  ·obtain rfl:j=n:=by omega
   have HZ:=zh (vU (l:=l) (k:=k) j HJ.out);go_wp2_with fail
   exact bodyPost_ret (v:=.int .i64 0) (by simp[results,Try.results86,go_sem]) rfl ⟨by rw[HZ.out],HB.out⟩
theorem uN (n i k:Nat) (hn:n<=48) (hi:i<=8) (hk:k<=48) (w:World):Calls Try.prog 109 #[.int .i64 n,.int .i64 i,.int .i64 k] w fun e w'=>e=.returned (.int .i64 ((ag n i k:Nat):Int))/\w=w':=by
 have h1:i*(n+1)<=8*49:=Nat.mul_le_mul hi (by omega);have e1:(i:Int)*((n:Int)+1)=((i*(n+1):Nat):Int):=by rw[Int.natCast_mul];rfl
 have HE:Hid ((1+(n:Int))+2*(((i*(n+1):Nat):Int)+k)=((ag n i k:Nat):Int)):=zh (by unfold ag;omega);generalize i*(n+1)=q at *;have w1:IntKind.i64.wrap (1+(n:Int))=1+(n:Int):=IntWalk.i64_in _ (by omega);have w2:IntKind.i64.wrap ((n:Int)+1)=(n:Int)+1:=IntWalk.i64_in _ (by omega);have w3:IntKind.i64.wrap ((q:Int))=(q:Int):=IntWalk.i64_in _ (by omega);have w4:IntKind.i64.wrap ((q:Int)+k)=(q:Int)+k:=IntWalk.i64_in _ (by omega);have w5:IntKind.i64.wrap (2*((q:Int)+k))=2*((q:Int)+k):=IntWalk.i64_in _ (by omega);have w6:IntKind.i64.wrap ((1+(n:Int))+2*((q:Int)+k))=(1+(n:Int))+2*((q:Int)+k):=IntWalk.i64_in _ (by omega);go_enter Try.func109,Try.ntmps109;go_wp2_with fail
 exact bodyPost_ret (v:=.int .i64 (((ag n i k:Nat):Int))) (by simp[results,Try.results109,go_sem];rw[<-HE.out]) rfl ⟨rfl,rfl⟩
end Go.Proofs.Ytmebpglkeedaoaa
namespace Go.Proofs.Ytmebpglkeedaoaa
namespace Dp
def prQ (S:Site) (T:Tab) (m k:Nat):Int:=max 0 (drP T k m)*S.buy.getD k 0+min 0 (drP T k m)*S.sell.getD k 0
def prc (S:Site) (T:Tab) (m:Nat):Nat->Int
 |0=>0
 |k+1=>prc S T m k+prQ S T m k
theorem JP {a b A B:Int} (ha:0<=a/\a<=A) (hb:0<=b/\b<=B):0<=a*b/\a*b<=A*B:=
 ⟨Int.mul_nonneg ha.1 hb.1,Int.mul_le_mul ha.2 hb.2 hb.1 (by omega)⟩
theorem mul_neg {a b A B:Int} (ha: -A<=a/\a<=0) (hb:0<=b/\b<=B): -(A*B)<=a*b/\a*b<=0:=by
 have h:=JP (a:= -a) (A:=A) (by omega) hb;rw[Int.neg_mul]at h;omega
theorem DF {S:Site} {T:Tab} {m k:Nat} (hs:fU S k=true) (hb:lJ T k m) (h8:m<=8):
 (0<=max 0 (drP T k m)*S.buy.getD k 0/\max 0 (drP T k m)*S.buy.getD k 0<=8796093022208)/\(-8796093022208<=min 0 (drP T k m)*S.sell.getD k 0/\min 0 (drP T k m)*S.sell.getD k 0<=0):=by
 have h1:=cu.1 hs;have h2:=wY hb m (Nat.le_refl _);exact⟨JP (A:=8388608) (B:=1048576) (by omega) (by omega),mul_neg (A:=8388608) (B:=1048576) (by omega) (by omega)⟩
theorem DI {S:Site} {T:Tab} {m:Nat} (h8:m<=8): ∀k:Nat,(∀j,j<k->fU S j=true/\lJ T j m)-> -(8796093022208*(k:Int))<=prc S T m k/\prc S T m k<=8796093022208*(k:Int)
 |0,_=>by simp[prc]
 |k+1,h=>by
  have h1:=DI h8 k (fun j hj=>h j (by omega));have h2:=DF (h k (by omega)).1 (h k (by omega)).2 h8;simp only[prc,prQ];omega
theorem Nb {S:Site} {T:Tab} {m k:Nat} (h:0<drP T k m):prQ S T m k=drP T k m*S.buy.getD k 0:=by
 unfold prQ;rw[show max 0 (drP T k m)=drP T k m by omega,show min 0 (drP T k m)=0 by omega];omega
theorem Nc {S:Site} {T:Tab} {m k:Nat} (h: ¬0<drP T k m):prQ S T m k=drP T k m*S.sell.getD k 0:=by
 unfold prQ;rw[show max 0 (drP T k m)=0 by omega,show min 0 (drP T k m)=drP T k m by omega];omega
def oM (S:Site) (cs:List Car) (T:Tab):Int:=if plE S cs T=0 then prc S T cs.length S.lim.length else 0
theorem iU.slot {S:Site} {cs:List Car} {T:Tab} (h:iU S cs T) {k:Nat} (hk:k<S.lim.length):lJ T k cs.length:=by
 intro i hi;have h1:=dL.1 (h.car k hk i hi);have h2:=(aT.1 (h.carok hi)).1;have h3:=h.ri i hi;have h4:=h.ro i hi;omega
end Dp
end Go.Proofs.Ytmebpglkeedaoaa
namespace Go.Proofs.Ytmebpglkeedaoaa
open Go.RowKit Dp
theorem oN {W:World} {B e z n cap:Nat} {A:Option Addr} {xs:List Value} (h:W.ownsRow B e z (.slice A n cap) n xs) (hn:0<n): ∃g,A=some ⟨g,0,none⟩/\B<=g/\g<W.heap.size/\n<=cap/\cap<=9223372036854775807:=by
 rcases h.2 with ⟨h1,h2⟩|⟨g,c,cur,hv,hb,hg,hnc,hcm,_⟩
 ·simp only[Value.slice.injEq]at h1;omega
 ·simp only[Value.slice.injEq,true_and]at hv
  obtain⟨rfl,rfl⟩:=hv;exact⟨g,rfl,hb,(Array.getElem?_eq_some_iff.1 hg).1,hnc,by unfold maxLen at hcm;omega⟩
theorem JS {W V:World} {B e z n cap g:Nat} {A:Option Addr} {xs cs:List Value} {t:TypeId} (hb:Blk W g t cs) (h:W.ownsRow B e z (.slice A n cap) n xs) (hg:W.grownBy V (Value.slice A n cap).ownBlock) (hB:g<B):Blk V g t cs:=
 hb.grown hg (fun q=>by have:=(World.ownsRow.lt h g q.symm).1;omega)
theorem Hq (cap inn out start fin:Int) (trips:List ja) (xs ys:List Int) (T P Q:Option Addr) (q n cT cP cQ:Nat) (w:World) (hq:q=trips.length) (hcT:q<=cT/\cT<=9223372036854775807) (hT:fP w T trips) (hc:dE n ⟨cap,inn,out,start,fin,trips⟩=true)
 (h48:n<=48) (hP:n<=cP/\cP<=9223372036854775807) (hQ:n<=cQ/\cQ<=9223372036854775807) (hX:aH w P xs) (hY:aH w Q ys) (bx:pX n xs) (bY:pX n ys):
 Calls Try.prog 83 #[.agg #[.int .i64 cap,.int .i64 inn,.int .i64 out,.int .i64 start,.int .i64 fin,.slice T q cT],.slice P n cP,.slice Q n cQ] w fun e w'=> ∃g c,e=.returned (.slice (some ⟨g,0,none⟩) (n+1) c)/\dI w.heap.size w' g c (lvN ⟨cap,inn,out,start,fin,trips⟩ xs ys (n+1))/\Below w.heap.size w w':=by
 have HQ:=zh hq;have HT:=zh hT;have HX:=zh hX;have HY:=zh hY;have HU:Hid (∀k V,Below w.heap.size w V->Calls Try.prog 86 #[.agg #[.int .i64 cap,.int .i64 inn,.int .i64 out,.int .i64 start,.int .i64 fin,.slice T q cT],.int .i64 ((k:Nat):Int)] V fun e w'=>e=.returned (.int .i64 (dz ⟨cap,inn,out,start,fin,trips⟩ k))/\Below V.heap.size V w'):=zh (fun k V hV=>by
  have:=JO (.int .i64 cap) (.int .i64 inn) (.int .i64 out) (.int .i64 start) (.int .i64 fin) k _ n T trips q cT V hq hcT (hT.below hV (Nat.le_refl _)) (aT.1 hc).2;rw[show dz ⟨cap,inn,out,start,fin,trips⟩ k=iM trips k q from by rw[hq];rfl];exact this)
 have HBX:=zh bx;have HBY:=zh bY;have HLB:=zh (fun k (hk:k<=n)=>Du hc bx bY k hk);have HUB:=zh (fun k=>iN hc k);have HLS:=zh (fun k=>(show lev ⟨cap,inn,out,start,fin,trips⟩ xs ys (k+1)=lev ⟨cap,inn,out,start,fin,trips⟩ xs ys k+(xs.getD k 0-ys.getD k 0-dz ⟨cap,inn,out,start,fin,trips⟩ k)from rfl));have HL0:Hid (lvN ⟨cap,inn,out,start,fin,trips⟩ xs ys 1=[start]):=zh rfl;have HSB:Hid (-9223372036854775808<=start/\start<=9223372036854775807):=zh (by have:=(aT.1 hc).1;simp only at this;omega);clear hq hT hX hY bx bY hc;generalize hcar:(⟨cap,inn,out,start,fin,trips⟩:Car)=C at *;clear hcar;have HB:=zh (((Below.refl w.heap.size w).alloc (Nat.le_refl _) (.cells #[.int .i64 cap,.int .i64 inn,.int .i64 out,.int .i64 start,.int .i64 fin,.slice T q cT] 63)).alloc (by simp) (.cells #[.int .i64 start] 2));have XC:=zh ((Blk.new' w #[.int .i64 cap,.int .i64 inn,.int .i64 out,.int .i64 start,.int .i64 fin,.slice T q cT] 63).alloc (.cells #[.int .i64 start] 2));have XO:Hid (dI (w.heap.size+1) ((w.alloc (.cells #[.int .i64 cap,.int .i64 inn,.int .i64 out,.int .i64 start,.int .i64 fin,.slice T q cT] 63)).alloc (.cells #[.int .i64 start] 2)) (w.heap.size+1) 1 (lvN C xs ys 1)):=zh (by
  rw[HL0.out];have:=World.ownsRow_lit (base:=w.heap.size+1) (w.alloc (.cells #[.int .i64 cap,.int .i64 inn,.int .i64 out,.int .i64 start,.int .i64 fin,.slice T q cT] 63)) (e:=2) (size:=1) #[.int .i64 start] 1 (by simp) (by unfold maxLen;omega) rfl;simpa [dI]using this)
 obtain⟨i2,h2i,h2z,h2s,h2b⟩:=info_parts pU;go_enter Try.func83,Try.ntmps83;go_upto_region 2 with fail
 (try simp only[World.size_alloc])
 generalize (w.alloc (.cells #[.int .i64 cap,.int .i64 inn,.int .i64 out,.int .i64 start,.int .i64 fin,.slice T q cT] 63)).alloc (.cells #[.int .i64 start] 2)=w1 at HB XC XO ⊢;go_wp2_with fail
 go_loopw [7,8] (fun lv iv wr=> ∃(j g c:Nat),j<=n/\iv=.int .i64 j/\lv=.slice (some ⟨g,0,none⟩) (j+1) c/\Hid (dI (w.heap.size+1) wr g c (lvN C xs ys (j+1))/\Below w.heap.size w wr/\Blk wr w.heap.size 63 [.int .i64 cap,.int .i64 inn,.int .i64 out,.int .i64 start,.int .i64 fin,.slice T q cT])) (fun _ iv _=>n-(intOf iv).toNat)
 case atStart=>exact⟨0,w.heap.size+1,1,Nat.zero_le _,rfl,rfl,zh ⟨XO.out,HB.out,XC.out⟩⟩
 case round=>
  clear HB XC XO;obtain⟨j,g,c,hj,rfl,rfl,HJ⟩:=hrel;have HO:=zh HJ.1;have HB:=zh HJ.2.1;have XC:=zh HJ.2.2;clear HJ
  by_cases hlt:j<n
  ·have hji:(j:Int)<(n:Int):=by omega
   have hjj:(j:Int)<(j:Int)+1:=by omega
   obtain⟨pa,rfl,pal,px⟩:=(HX.below HB.out (Nat.le_refl _)) j (by rw[HBX.1];exact hlt);obtain⟨qa,rfl,qal,qx⟩:=(HY.below HB.out (Nat.le_refl _)) j (by rw[HBY.1];exact hlt);have b1:=HBX.2 j hlt;have b2:=HBY.2 j hlt;have b3:=HLB.out j hj;have b4:=HUB.out j;have HV:=zh (HLS.out j);have HN2:=zh (Jv C xs ys (j+1));have ow:=HO.cell j (by rw[rM];omega);rw[Fh (by omega)]at ow;have HUU:=zh (HU.out j);have gl:=HO.lt.2;generalize xs.getD j 0=x at *;generalize ys.getD j 0=y at *;generalize dz C j=u at *;generalize lev C xs ys (j+1)=lv1 at *;generalize lev C xs ys j=lv at *;have w1e:IntKind.i64.wrap (lv-y)=lv-y:=IntWalk.i64_in _ (by omega);have w2e:IntKind.i64.wrap (lv-y+x)=lv-y+x:=IntWalk.i64_in _ (by omega);have w3e:IntKind.i64.wrap (lv-y+x-u)=lv-y+x-u:=IntWalk.i64_in _ (by omega);have HV2:Hid (lv-y+x-u=lv1):=zh (by rw[HV.out];omega);have pb2:(pa.add j).block<wr.heap.size:=by rw[block_add];exact pal
   have qb2:(qa.add j).block<wr.heap.size:=by rw[block_add];exact qal
   have e0:=XC.cell 0 rfl;have e1:=XC.cell 1 rfl;have e2:=XC.cell 2 rfl;have e3:=XC.cell 3 rfl;have e4:=XC.cell 4 rfl;have e5:=XC.cell 5 rfl;have el:=XC.lt;clear b1 b2 b3 b4 HV;go_upto_region 5 with fail
   refine bQ 20 [.q,.q,.q,.q,.q,.q,.q,.q,.q,.q,.q,.q,.q,.q,.q,.q,.q,.q,.q,.p] (fun _=>(.cells #[.int .i64 (lv-y+x-u)] 2,fun b=>.slice (some ⟨b,0,none⟩) 1 1)) ?af (by kernel_rfl) (by kernel_rfl) ?walk ?tail
   case walk=>
    intro V hV;have pv:=(hV.cell pb2).trans px;have qv:=(hV.cell qb2).trans qx;have ov:=(hV.cell (p:=⟨g,j,none⟩) gl).trans ow;have e0v:=(hV.cell (p:=⟨w.heap.size,0,none⟩) el).trans e0;have e1v:=(hV.cell (p:=⟨w.heap.size,1,none⟩) el).trans e1;have e2v:=(hV.cell (p:=⟨w.heap.size,2,none⟩) el).trans e2;have e3v:=(hV.cell (p:=⟨w.heap.size,3,none⟩) el).trans e3;have e4v:=(hV.cell (p:=⟨w.heap.size,4,none⟩) el).trans e4;have e5v:=(hV.cell (p:=⟨w.heap.size,5,none⟩) el).trans e5;have pb3:=Nat.lt_of_lt_of_le pb2 hV.size;have qb3:=Nat.lt_of_lt_of_le qb2 hV.size;have gl3:=Nat.lt_of_lt_of_le gl hV.size;have el3:=Nat.lt_of_lt_of_le el hV.size;have HBV:=zh (HB.trans (hV.mono HB.size));clear hV;simp only[List.take_succ_cons,List.take_zero]
    repeat(with_reducible refine iD ?_;go_big_quiet_step ((go_at_call 86;exact aZ (HUU.out _ (HBV.out.trans ((bN.far _).mono HBV.out.size)))));with_reducible refine wpQuiet_nil ?_)
    refine jr (by kernel_rfl) (fun _=>by kernel_rfl) ?_
    (try simp only[zp])
    with_reducible refine iI ?_
    rfl
   intro gs w3 hb3 hgs _;have HB3:=zh (HB.trans (hb3.mono HB.size));have XC3:=zh (XC.below hb3 XC.lt);have HO3:=zh (HO.below hb3);obtain⟨_,hgb⟩:=hgs 19 rfl;have GB:Hid (Blk w3 (gs 19) 2 [.int .i64 (lv-y+x-u)]):=zh hgb;clear hb3 hgs hgb HB XC HO e0 e1 e2 e3 e4 e5 ow px qx pb2 qb2 gl el pal qal;simp only[List.drop_succ_cons,List.drop_zero,List.take_succ_cons,List.take_zero,fillP]
   (try simp only[zp])
   generalize gs 19=gb at *;have OO:Hid (w3.ownsRow (w.heap.size+1) 2 1 (.slice (some ⟨g,0,none⟩) (j+1) c) (j+1) ((lvN C xs ys (j+1)).map (.int .i64))):=zh (by have:=HO3.out;unfold dI at this;rwa [rM]at this);go_wp2_with (at_builtin;refine ax (.tmp 18) (.tmp 37) 22 rfl rfl (w.heap.size+1) 2 i2 (.int .i64 0) 1 8 Try.underlying22 h2i h2z h2s h2b rfl (by decide) (some ⟨g,0,none⟩) (j+1) c ((lvN C xs ys (j+1)).map (.int .i64)) (by rfl) OO.out (some ⟨gb,0,none⟩) 1 1 [.int .i64 (lv-y+x-u)] (by rfl) (by rfl) (.inr ⟨_,rfl,fun k u hk=>by rcases k with _|k<;>simp at hk;subst hk;exact GB.cell 0 rfl⟩) (by simp[Value.oneCell']) (by unfold maxLen;omega) (by omega) (by have:=XC3.lt;omega) ?_;intro A3 c3 w4 hown hgrow hat;obtain⟨g3,rfl,VD,VE,_,_⟩:=oN hown (by omega);have HO4:Hid (dI (w.heap.size+1) w4 g3 c3 (lvN C xs ys (j+1+1))):=zh (by unfold dI;rw[rM,HN2.out,List.map_append,<-HV2.out];exact hown);have HB4:=zh (HB3.grown hgrow HB3.size (fun k e=>by have:=(World.ownsRow.lt OO.out k e).1;omega));have XC4:=zh (JS XC3.out OO.out hgrow (Nat.lt_succ_self _));clear hown hgrow hat VD VE)
   exact⟨⟨j+1,g3,c3,by omega,by go_num,rfl,zh ⟨HO4.out,HB4.out,XC4.out⟩⟩,by simp[intOf];omega⟩
  ·obtain rfl:j=n:=by omega
   go_wp2_with fail
   exact bodyPost_ret (v:=.slice (some ⟨g,0,none⟩) (j+1) c) (by simp[results,Try.results83,go_sem]) rfl ⟨g,c,rfl,HO.mono (Nat.le_succ _),HB.out⟩
def stK (k:Nat):Int×Bool:=(((k/2:Nat):Int),decide (k%2=1))
theorem vW (k:Nat):dcS (k:Int)=stK k:=by
 unfold dcS stK;rw[if_neg (by omega)];have:((k:Int)%2=1)↔(k%2=1):=by omega
 simp[this]
theorem BU (i:Nat):((i:Int),false)=dcS ((2*i:Nat):Int):=by rw[vW];unfold stK;rw[show 2*i/2=i by omega,show 2*i%2=0 by omega];rfl
theorem Fu (i:Nat):((i:Int),true)=dcS ((2*i+1:Nat):Int):=by rw[vW];unfold stK;rw[show(2*i+1)/2=i by omega,show(2*i+1)%2=1 by omega];rfl
theorem xP {W:World} {B e z n cap:Nat} {A:Option Addr} {xs:List Value} (h:W.ownsRow B e z (.slice A n cap) n xs):kC W A n xs:=by
 rcases h.2 with ⟨h1,h2⟩|⟨g,c,cur,hv,hb,hg,hnc,hcm,hs,ht⟩
 ·cases h1;exact .inl ⟨rfl,rfl⟩
 ·cases hv
  refine .inr ⟨_,rfl,fun j u hu=>?_⟩;have hj:j<n*z:=by rw[<-h.1];exact(List.getElem?_eq_some_iff.1 hu).1
  rw[show(⟨g,0,none⟩:Addr).add j=⟨g,j,none⟩from(by unfold Addr.add;split<;>simp_all),World.ownsRow.cellAt h j hj];exact hu
theorem uO (L:List (Int×Bool)): ∀u∈flat stC L,u.oneCell'=true:=by
 intro u hu;obtain⟨s,_,hs⟩:=List.mem_flatMap.1 hu;simp[stC]at hs
 rcases hs with rfl|rfl<;>rfl
section
variable {G:Gr} {n:Nat} {vi:List Int} {S P Q:List Nat}
theorem BfI.go1 {u i tn:Nat} (hG:G.Ok n) (hz: ∀k,k<G.es.length->G.cost k=0) (h:BfI G n vi S P Q (exE G u (2*i))) (he:2*i<G.es.length) (ht:G.toA (2*i)=tn) (hf:G.frA (2*i)=u) (hu:u∈S) (hr:0<G.room (2*i)) (hn:tn ∉ S):BfI G n (vi.set tn ((2*i:Nat):Int)) (tn::S) P (Q++[tn]) (exE G u (2*i+1)):=by
 subst ht;exact h.visit hG hz he hf hu hr hn
theorem BfI.go2 {u i tn:Nat} (hG:G.Ok n) (hz: ∀k,k<G.es.length->G.cost k=0) (h:BfI G n vi S P Q (exE G u (2*i+1))) (he:2*i+1<G.es.length) (ht:G.toA (2*i+1)=tn) (hf:G.frA (2*i+1)=u) (hu:u∈S) (hr:0<G.room (2*i+1)) (hn:tn ∉ S):BfI G n (vi.set tn ((2*i+1:Nat):Int)) (tn::S) P (Q++[tn]) (exE G u (2*(i+1))):=by
 subst ht;exact h.visit hG hz he hf hu hr hn
end
section
variable {W V:World} {gc gs n nq cq ga:Nat} {cm:List (Int×Bool)} {sn:List Bool} {Aq:Option Addr} {xs:List Int} {cv av:List Value} {w:World}
structure WyX (w:World) (gc gs:Nat) (cv:List Value) (cm:List (Int×Bool)) (sn:List Bool) (Aq:Option Addr) (nq cq:Nat) (xs:List Int) (ga:Nat) (av:List Value) (W:World):Prop where
 m:WyM w gc gs cv cm sn Aq nq cq xs W
 y:Blk W ga 46 av
theorem WyX.below (h:WyX w gc gs cv cm sn Aq nq cq xs ga av W) (hb:Below W.heap.size W V):WyX w gc gs cv cm sn Aq nq cq xs ga av V:=⟨h.m.below hb,h.y.below hb h.y.lt⟩
theorem WyX.see (h:WyX w gc gs cv cm sn Aq nq cq xs ga av W) (v:Nat):WyX w gc gs cv cm (sn.set v true) Aq nq cq xs ga av (W.setCell ⟨gs,v,none⟩ (.bool true)):=
 ⟨h.m.see v,h.y.setCell_ne (p:=⟨gs,v,none⟩) (fun e=>ae h.y h.m.s (by decide) e.symm) _⟩
theorem WyX.come (h:WyX w gc gs cv cm sn Aq nq cq xs ga av W) {v:Nat} (hv:v<cm.length) (s:Int×Bool):WyX w gc gs cv (cm.set v s) sn Aq nq cq xs ga av ((W.setCell ⟨gc,v*2,none⟩ (.int .i64 s.1)).setCell ⟨gc,v*2+1,none⟩ (.bool s.2)):=
 ⟨h.m.come hv s,(h.y.setCell_ne (p:=⟨gc,v*2,none⟩) (fun e=>ae h.y h.m.c (by decide) e.symm) _).setCell_ne (p:=⟨gc,v*2+1,none⟩) (fun e=>ae h.y h.m.c (by decide) e.symm) _⟩
theorem WyX.grow {A':Option Addr} {n' c':Nat} {ys:List Int} (h:WyX w gc gs cv cm sn Aq nq cq xs ga av W) (hq:gV V w.heap.size A' n' c' ys) (hg:W.grownBy V (Value.slice Aq nq cq).ownBlock):WyX w gc gs cv cm sn A' n' c' ys ga av V:=
 ⟨h.m.grow hq hg,h.y.grown hg (fun e=>h.m.q.no h.y (by decide) ((bE (n:=nq) (cap:=cq)).2 e.symm))⟩
end
def Uf (G:Gr) (n:Nat) (w:World) (e:Ending) (w':World):Prop:=
 (e=.returned (.slice none 0 0)/\ ∃fa wi,NR G n [] fa wi (-1))∨
 (∃(g c nk t s:Nat) (ks:List Nat) (vi:List Int),e=.returned (.slice (some ⟨g,0,none⟩) nk c)/\nk=ks.length/\bB stC 150 2 w.heap.size w' (some ⟨g,0,none⟩) c (ks.reverse.map stK)/\0<ks.length/\ks.length<=n/\Dp.Way G vi t ks s/\(t::ks.map G.frA).Nodup/\s<n/\t<n/\0<G.lf s/\G.lf t<0/\ ∀k,k∈ks->0<G.room k)
theorem Ug (A B F Y:Option Addr) (N:Net) (G:Gr) (n m cA cB cF cY:Nat) (w:World) (hn:n=N.sup.length) (hm:m=N.arcs.length) (hch:chE N=0) (hG:G.Ok n) (hf:Fits (zcN N) G)
 (hA:n<=cA/\cA<=9223372036854775807) (hB:m<=cB/\cB<=9223372036854775807) (hF:m<=cF/\cF<=9223372036854775807) (hY:n<=cY/\cY<=9223372036854775807) (hN:dm w A B N) (hFl:aH w F (aR N G)) (hL:aH w Y G.left):
 Calls Try.prog 98 #[.agg #[.slice A n cA,.slice B m cB],.slice F m cF,.slice Y n cY] w fun e w'=>Uf G n w e w'/\Below w.heap.size w w':=by
 have n1:1<=n/\n<=1024:=hG.n1;have m2:m<=2048:=by rw[hm];exact(bV hch).2.2
 have HG:=zh hG;have HFT:=zh hf;have HZC:=zh (GM hf);have HES:Hid (G.es.length=2*m):=zh (by rw[hf.es,fH,hm]);have HTA:Hid (∀i,i<m->(G.toA (2*i)=toN N i/\G.toA (2*i+1)=frN N i)/\(G.frA (2*i)=frN N i/\G.frA (2*i+1)=toN N i)):=zh (fun i hi=>by
  have h1:i<(zcN N).arcs.length:=by rw[fH,<-hm];exact hi
  have h2:=hf.t0 i h1;have h3:=hf.fr i h1;have e1:toN (zcN N) i=toN N i:=by unfold toN;rw[iK (by rw[<-hm];exact hi)];rfl
  have e2:frN (zcN N) i=frN N i:=by unfold frN;rw[iK (by rw[<-hm];exact hi)];rfl
  rw[e1,e2]at h2 h3;exact⟨h2,h3⟩)
 have HRM:Hid (∀i,i<m->G.room (2*i)+G.room (2*i+1)=(N.arcs.getD i default).cap/\0<=G.room (2*i+1)):=zh (fun i hi=>by
  have h1:i<(zcN N).arcs.length:=by rw[fH,<-hm];exact hi
  have h2:=hf.r0 i h1;rw[iK (by rw[<-hm];exact hi)]at h2;exact⟨h2,(l8 hG hf i h1).2⟩)
 have HAR:Hid (∀V,Below w.heap.size w V-> ∀i,i<m-> ∃pb,B=some pb/\(pb.add (i*4)).block<V.heap.size/\V.cell? (pb.add (i*4))=some (.int .i64 (frN N i:Nat))/\V.cell? ⟨(pb.add (i*4)).block,(pb.add (i*4)).off+1,none⟩=some (.int .i64 (toN N i:Nat))/\V.cell? ⟨(pb.add (i*4)).block,(pb.add (i*4)).off+2,none⟩=some (.int .i64 (N.arcs.getD i default).cap)/\V.cell? ⟨(pb.add (i*4)).block,(pb.add (i*4)).off+3,none⟩=some (.int .i64 (N.arcs.getD i default).cost)):=zh (fun V hV i hi=>by
  obtain⟨pb,e,h0,h1,h2,h3,h4⟩:=(hN.2.below hV (Nat.le_refl _)) i (by rw[<-hm];exact hi);have he:=dZ hch i (by rw[<-hm];exact hi);rw[he.1]at h1;rw[he.2.1]at h2;exact⟨pb,e,by rw[block_add];exact h0,h1,h2,h3,h4⟩)
 have HND:Hid (∀i,i<m->frN N i<n/\toN N i<n/\frN N i≠toN N i):=zh (fun i hi=>by
  have he:=dZ hch i (by rw[<-hm];exact hi);have ha:=bX hch i (by rw[<-hm];exact hi);rw[hn];exact⟨he.2.2.1,he.2.2.2,fun e=>ha.2.2.1 (by rw[he.1,he.2.1,e])⟩)
 have HFL:Hid (∀V,Below w.heap.size w V-> ∀i,i<m-> ∃pf,F=some pf/\(pf.add i).block<V.heap.size/\V.cell? (pf.add i)=some (.int .i64 (G.room (2*i+1)))):=zh (fun V hV i hi=>by
  obtain⟨pf,e,h0,h1⟩:=(hFl.below hV (Nat.le_refl _)) i (by rw[gG,<-hm];exact hi);rw[fG (by rw[<-hm];exact hi)]at h1;exact⟨pf,e,by rw[block_add];exact h0,h1⟩)
 have HLE:Hid (∀V,Below w.heap.size w V-> ∀v,v<n-> ∃pl,Y=some pl/\(pl.add v).block<V.heap.size/\V.cell? (pl.add v)=some (.int .i64 (G.lf v))):=zh (fun V hV v hv=>by
  obtain⟨pl,e,h0,h1⟩:=(hL.below hV (Nat.le_refl _)) v (by rw[hG.ll];exact hv);exact⟨pl,e,by rw[block_add];exact h0,h1⟩)
 have HNL:Hid (n=(zcN N).sup.length):=zh hn;clear hn hm hch hG hf hN hFl hL;have VF:=tH n (by omega);have Uh:=tF n (by omega);obtain⟨i3,h3i,h3z,h3s,h3b⟩:=info_parts Bn;obtain⟨i150,Nf,Ng,Nh,Ni⟩:=info_parts wW;have M0:Hid (WyM w (w.heap.size+1) (w.heap.size+1+1) [.slice A n cA,.slice B m cB] (List.replicate n (0,false)) (List.replicate n false) none 0 0 [] (((w.alloc (.cells #[.slice A n cA,.slice B m cB] 25)).alloc (.cells (flat stC (List.replicate n ((0:Int),false))).toArray 150)).alloc (.cells (Array.replicate n (.bool false)) 4))):=zh (by
  have x1:=Blk.new' w #[.slice A n cA,.slice B m cB] 25;have x2:=Blk.new' (w.alloc (.cells #[.slice A n cA,.slice B m cB] 25)) (flat stC (List.replicate n ((0:Int),false))).toArray 150;have x3:=Blk.new' ((w.alloc (.cells #[.slice A n cA,.slice B m cB] 25)).alloc (.cells (flat stC (List.replicate n ((0:Int),false))).toArray 150)) (Array.replicate n (.bool false)) 4;refine⟨?_,?_,gV.nil _ _,(x1.alloc _).alloc _,by omega,by omega,(((Below.refl w.heap.size w).alloc (Nat.le_refl _) _).alloc (by simp) _).alloc (by simp;omega) _⟩
  ·simpa using x2.alloc (.cells (Array.replicate n (.bool false)) 4)
  ·simpa using x3)
 go_enter Try.func98,Try.ntmps98;go_upto_region 4 with fail
 generalize ((w.alloc (.cells #[.slice A n cA,.slice B m cB] 25)).alloc (.cells (flat stC (List.replicate n ((0:Int),false))).toArray 150)).alloc (.cells (Array.replicate n (.bool false)) 4)=w1 at M0 ⊢;obtain⟨gc,hgc⟩: ∃g,g=w.heap.size+1:=⟨_,rfl⟩;rw[<-hgc]at M0 ⊢;obtain⟨gs,hgs⟩: ∃g,g=gc+1:=⟨_,rfl⟩;rw[<-hgs]at M0 ⊢;clear hgc hgs;go_wp2_with fail
 go_loopw [9,10] (fun qv iv wr=> ∃(i:Nat) (Aq:Option Addr) (nq cq:Nat) (cm:List (Int×Bool)) (sn:List Bool) (S Q:List Nat) (vi:List Int),i<=n/\iv=.int .i64 i/\qv=.slice Aq nq cq/\nq=Q.length/\Q.length<=i/\Hid (BfS G n vi S Q i/\WyG n cm sn S vi/\WyM w gc gs [.slice A n cA,.slice B m cB] cm sn Aq nq cq (Q.map (fun v:Nat=>(v:Int))) wr)) (fun _ iv _=>n-(intOf iv).toNat)
 case atStart=>exact⟨0,none,0,0,_,_,[],[],_,Nat.zero_le _,rfl,rfl,rfl,Nat.le_refl _,zh ⟨BfS.start G n,WyG.start n,M0.out⟩⟩
 case round=>
  clear M0;obtain⟨i,Aq,nq,cq,cm,sn,S,Q,vi,hi,rfl,rfl,hnq,hql,HJ⟩:=hrel;have HB1:=zh HJ.1;have HWG:=zh HJ.2.1;have M1:=zh HJ.2.2;have HNQ:=zh hnq;have VG:nq<=i:=by omega
  clear HJ hnq
  by_cases hin:i<n
  ·have hii:(i:Int)<(n:Int):=by omega
   have hidx:i<n:=hin;obtain⟨pl,rfl,lb,lc⟩:=HLE.out _ M1.bel i hin;have HNO:=zh (fun h=>HB1.no (i:=i) h);have HYS:=zh (fun h=>HB1.yes hin (i:=i) h);have hiS:i ∉ S:=fun hm=>absurd (HB1.lt i hm) (Nat.lt_irrefl i)
   have HWA:=zh (HWG.add hin hiS (-1) (-1,false) rfl);generalize G.lf i=x at *
   by_cases hx:0<x
   ·have d1:decide (0<x)=true:=decide_eq_true hx
    have HCL:=zh HWG.cl;have HSL:=zh HWG.sl;have uP:i<cm.length:=by rw[HCL.out];exact hidx
    have c0:=M1.seenAt (v:=i) (by rw[HSL.out];exact hidx);have z0:=M1.s.free i;have l0:=M1.s.lt;have M2:=zh (M1.see i);go_upto_region 9 with fail
    clear c0 z0 l0 M1;generalize wr.setCell ⟨gs,i,none⟩ (.bool true)=w2 at *;have c1:=(M2.cell uP).1;have c2:=(M2.cell uP).2;have z1:=M2.c.free (i*2);have z2:=M2.c.free (i*2+1);have l1:=M2.c.lt;have M3:=zh (show WyM w gc gs [.slice A n cA,.slice B m cB] (cm.set i (-1,false)) (sn.set i true) Aq nq cq (Q.map (fun v:Nat=>(v:Int))) ((w2.setCell ⟨gc,i*2,none⟩ (.int .i64 (-1))).setCell ⟨gc,i*2+1,none⟩ (.bool false))from M2.come uP (-1,false));go_upto_region 10 with fail
    clear c1 c2 z1 z2 l1 M2;generalize (w2.setCell ⟨gc,i*2,none⟩ (.int .i64 (-1))).setCell ⟨gc,i*2+1,none⟩ (.bool false)=w3 at *;have M4:=zh (M3.below ((Below.refl w3.heap.size w3).alloc (Nat.le_refl _) (.cells #[.int .i64 i] 3)));have X4:=zh (Blk.new' w3 #[.int .i64 i] 3);go_wp2_with (at_builtin;refine kD (.tmp 39) (.tmp 41) 26 rfl rfl w.heap.size i3 Try.underlying26 h3i h3z h3s h3b Aq nq cq (Q.map (fun v:Nat=>(v:Int))) (by rfl) M4.q ⟨w3.heap.size,0,none⟩ 1 (i:Int) (by rfl) (X4.cell 0 rfl) (by omega) M4.bel.size ?_;intro A3 c3 w5 hq hg hat;have HE:=zh (show BfS G n (vi.set i (-1)) (i::S) (Q++[i]) (i+1)/\WyG n (cm.set i (-1,false)) (sn.set i true) (i::S) (vi.set i (-1))/\WyM w gc gs [.slice A n cA,.slice B m cB] (cm.set i (-1,false)) (sn.set i true) A3 (nq+1) c3 ((Q++[i]).map (fun v:Nat=>(v:Int))) w5 from⟨HYS.out hx,HWA.out,by rw[List.map_append];exact M4.grow hq hg⟩);clear hq hg hat)
    exact⟨⟨i+1,A3,nq+1,c3,_,_,_,_,_,by omega,by go_num,rfl,by rw[List.length_append,<-HNQ.out];rfl,by rw[List.length_append];simp;omega,HE⟩,by simp[intOf];omega⟩
   ·have d1:decide (0<x)=false:=decide_eq_false hx
    have HE:=zh (HNO.out hx);go_wp2_with fail
    exact⟨⟨i+1,Aq,nq,cq,cm,sn,S,Q,vi,by omega,by go_num,rfl,HNQ.out,by omega,zh ⟨HE.out,HWG.out,M1.out⟩⟩,by simp[intOf];omega⟩
  ·obtain rfl:n=i:=by omega
   have HB2:=zh HB1.bf;clear HB1 hql;go_upto_region 11 with fail
   go_loopg [9] n (fun q qv wr=> ∃(Aq:Option Addr) (nq cq:Nat) (cm:List (Int×Bool)) (sn:List Bool) (S Q:List Nat) (vi:List Int) (P:List Nat),qv=.slice Aq nq cq/\nq=Q.length/\P.length+q=n/\P.length+Q.length<=n/\Hid (BfI G n vi S P Q (fun _=>False)/\WyG n cm sn S vi/\WyM w gc gs [.slice A n cA,.slice B m cB] cm sn Aq nq cq (Q.map (fun v:Nat=>(v:Int))) wr))
   case atStart=>exact⟨Aq,nq,cq,cm,sn,S,Q,vi,[],rfl,HNQ.out,by simp,HB2.short,zh ⟨HB2.out,HWG.out,M1.out⟩⟩
   case round=>
    clear HB2 HWG M1 HNQ VG;obtain⟨Aq,nq,cq,cm,sn,S,Q,vi,P,rfl,hnq,hpq,hps,HJ⟩:=hrel;have HB1:=zh HJ.1;have HWG:=zh HJ.2.1;have M1:=zh HJ.2.2;have HPQ:=zh hpq;have HPS:=zh hps;clear HJ hpq hps
    cases Q with
    |nil=>
     have hn0:nq=0:=hnq;subst hn0;have HCU:=zh (HB1.cut (N:=N) HG.out HFT.out HNL.out HZC.out);clear hnq;go_wp2_with fail
     go_ret;exact⟨.inl ⟨rfl,HCU.out⟩,M1.bel⟩
    |cons u Q=>
     obtain⟨k,rfl⟩: ∃k,nq=k+1:=⟨Q.length,by simpa using hnq⟩;have HNQ:Hid (k=Q.length):=zh (by simpa using hnq);clear hnq;have hk:k+1<=n:=by have h1:=HPS.out;have h2:=HNQ.out;rw[List.length_cons]at h1;omega
     have hq:=M1.q;obtain⟨g0,o0,hAq⟩: ∃g0 o0,Aq=some ⟨g0,o0,none⟩:=by rcases hq.2 with ⟨_,h,_⟩|⟨g,k,cur,e,_⟩;omega;exact⟨_,_,e⟩
     subst hAq;obtain⟨a,ea,q1,q2,_⟩:=hq.head
     cases ea
     simp only[List.map_cons,List.getD_cons_zero]at q2;simp only at q1;have hcq:k+1<=cq/\cq<=9223372036854775807:=by rcases hq.2 with ⟨h,_⟩|⟨g,k,cur,e,_,_,h1,_,h2,_⟩;cases h;unfold maxLen at h2;omega
     have hun:u<n:=HB1.lt u ((HB1.mem u).2 (.inr (by simp)));have MT:=zh (show WyM w gc gs [.slice A n cA,.slice B m cB] cm sn (if cq=1 then some ⟨g0,o0,none⟩else some ⟨g0,o0+1,none⟩) k (cq-1) (Q.map (fun v:Nat=>(v:Int))) wr from{M1.out with q:=by have:=hq.tailIf;simpa using this});clear hq;have huS:u∈S:=(HB1.mem u).2 (.inr (by simp));obtain⟨pl,rfl,lb,lc⟩:=HLE.out _ M1.bel u hun;have hui:(u:Int)<(n:Int):=by omega
     obtain⟨x,hx0⟩: ∃x,x=G.lf u:=⟨_,rfl⟩;rw[<-hx0]at lc;have HX:=zh hx0;clear hx0;go_upto_region 14 with fail
     generalize (if cq=1 then some (⟨g0,o0,none⟩:Addr)else some ⟨g0,o0+1,none⟩)=Aq at MT ⊢;generalize cq-1=cqt at MT ⊢;clear q1 q2 M1
     by_cases hx:x<0
     ·have d1:decide (x<0)=true:=decide_eq_true hx
      obtain⟨ks,s,hwy,hls,hrm,hnd,hsub⟩:=ou HB1.nd HB1.chn u huS;have HWY:=zh hwy;have HRO:=zh (fun k hk=>(hrm k hk).1);have VH:=zh hnd;have HSU:=zh hsub;have HLS:=zh hls;have HKN:Hid (ks.length+1<=n):=zh (by
 have h1:=hnd.length_le_of_subset (l₂:=List.range n) (fun v hv=>by simp;exact HB1.lt v (hsub v hv));simpa using h1)
      have HSN:Hid (s<n):=zh (HB1.lt s (hsub s hwy.last));have HK0:Hid (0<ks.length):=zh (by
 rcases ks with _|⟨k0,ks⟩
 ·have e:=hwy.2;rw[<-e]at hls;have:=HX.out;omega
 ·simp)
      have HTN:Hid (G.lf u<0):=zh (by rw[<-HX.out];exact hx);clear hwy hls hrm hnd hsub;go_upto_region 16 with fail
      clear lb lc
      go_loopg [11,12] ks.length (fun q av ov wr=> ∃(v nO cO:Nat) (OA:Option Addr),av=.int .i64 v/\ov=.slice OA nO cO/\Hid (∃ks1 ks2:List Nat,ks=ks1++ks2/\ks2.length=q/\nO=ks1.length/\v∈S/\Dp.Way G vi v ks2 s/\wr.ownsRow w.heap.size 150 2 (.slice OA nO cO) nO (flat stC (ks1.reverse.map stK))/\WyM w gc gs [.slice A n cA,.slice B m cB] cm sn Aq k cqt (Q.map (fun v:Nat=>(v:Int))) wr))
      case atStart=>exact⟨u,0,0,none,rfl,rfl,zh ⟨[],ks,rfl,rfl,rfl,huS,HWY.out,World.ownsRow_nil _ _ _ _,MT.out⟩⟩
      case round=>
       clear MT;obtain⟨v,nO,cO,OA,rfl,rfl,HJ⟩:=hrel;obtain⟨ks1,ks2,e0,eq,en,hvS,hw2,hown,hm⟩:=HJ.out;clear HJ;have HE0:=zh e0;have HEQ:=zh eq;have HEN:=zh en;have HO:=zh hown;have M1:=zh hm;clear e0 eq en hown hm;have hvn:v<n:=HB1.lt v hvS;have HCV:=zh (HWG.cm v hvS);obtain⟨c0,c1⟩:=M1.cell (v:=v) (by rw[HWG.cl];exact hvn);rw[HCV.out]at c0 c1;have l0:=M1.c.lt;have hnO:nO<=1024:=by have h1:=HKN.out;rw[HE0.out,List.length_append]at h1;have h2:=HEN.out;omega
       have hcO:nO<=cO/\cO<=9223372036854775807:=by rcases HO.2 with ⟨h1,h2⟩|⟨g,c,cur,hv,hb,hg,hnc,hcm,_⟩<;>(cases ‹Value.slice _ _ _=_›)<;>(first|(unfold maxLen at hcm;omega)|omega)
       cases ks2 with
       |nil=>
        obtain⟨e1,e2⟩:=hw2;rw[e1]at c0 c1;rw[show dcS (-1)=((-1:Int),false)from rfl]at c0 c1;clear e1;simp only at c0 c1;rw[List.append_nil]at HE0;have HO2:Hid (wr.ownsRow w.heap.size 150 2 (.slice OA nO cO) nO (flat stC (ks.reverse.map stK))):=zh (by rw[HE0.out];exact HO.out);have hn0:0<nO:=by have h1:=HK0.out;rw[HE0.out]at h1;have h2:=HEN.out;omega
        obtain⟨g,rfl,hgB,hgl,_⟩:=oN HO2.out hn0;have Ui:Hid (nO=ks.length):=zh (by rw[HE0.out];exact HEN.out);clear HE0 HEN HO e2;go_wp2_with fail
        go_ret;refine⟨.inr ⟨g,cO,nO,u,s,ks,vi,rfl,Ui.out,?_,HK0.out,by have:=HKN.out;omega,HWY.out,VH.out,HSN.out,hun,HLS.out,HTN.out,HRO.out⟩,M1.bel⟩;have h:=HO2.out;unfold bB;rw[List.length_map,List.length_reverse,<-Ui.out];exact h
       |cons k1 ks3=>
        obtain⟨e1,e2,e3,e4⟩:=hw2;have HC2:Hid (cm.getD v (0,false)=stK k1):=zh (by rw[HCV.out,e1,vW]);rw[e1,vW]at c0 c1;clear e1 HCV;simp only[stK]at c0 c1;have hkd:k1/2<m/\(k1=2*(k1/2)∨k1=2*(k1/2)+1):=by have:=HES.out;omega
        have hw3:G.frA k1∈S:=HSU.out _ (by rw[HE0.out];simp);have HFA:=zh (HTA.out (k1/2) hkd.1).2;obtain⟨pb,rfl,ab,a0,a1,_,_⟩:=HAR.out _ M1.bel (k1/2) hkd.1;have HBB:=zh HAR.out;have hfn:=HND.out (k1/2) hkd.1;generalize hi:k1/2=i at *;generalize hbk:decide (k1%2=1)=bk at *;have HSK:Hid (stK k1=((i:Int),bk)):=zh (by unfold stK;rw[hi,hbk]);go_upto_region 17 with fail
        have hb4:=(Below.refl wr.heap.size wr).alloc (Nat.le_refl _) (.cells #[.int .i64 i,.bool bk] 150);have M4:=zh (M1.below hb4);have HO4:=zh (bF HO.out hb4);have LIT:Hid ((wr.alloc (.cells #[.int .i64 i,.bool bk] 150)).ownsRow w.heap.size 150 2 (.slice (some ⟨wr.heap.size,0,none⟩) 1 1) 1 (stC (stK k1))):=zh (by rw[HSK.out];have:=World.ownsRow_lit (base:=w.heap.size) (e:=150) (size:=2) wr #[.int .i64 i,.bool bk] 1 M1.bel.size (by unfold maxLen;omega) rfl;exact this);have HLN:Hid ((flat stC (ks1.reverse.map stK)).length=nO*2):=zh HO.1;have HB4:=zh hb4;rw[HSK.out]at HC2;have hii:(i:Int)<(m:Int):=by omega
        clear hb4 HO a0 a1 ab;go_upto_region 18 with (at_builtin;refine ax (.tmp 66) (.tmp 67) 104 rfl rfl w.heap.size 150 i150 (.agg #[.int .i64 0,.bool false]) 2 16 Try.underlying104 Nf Ng Nh Ni rfl (by decide) (some ⟨wr.heap.size,0,none⟩) 1 1 (stC (stK k1)) (by rfl) LIT.out OA nO cO (flat stC (ks1.reverse.map stK)) (by rfl) HLN.out (xP HO4.out) (uO _) (by unfold maxLen;omega) (by omega) M4.bel.size ?_;intro A3 c3 w5 hown hgrow hat;have M5:=zh (M1.below (HB4.grown hgrow (by simp) (fun j e=>by cases e;exact Nat.le_refl _)));have HO5:=zh hown;clear hown hgrow hat c0 c1 l0)
        clear M1 M4 HO4 LIT HLN HB4;obtain⟨c0,c1⟩:=M5.cell (v:=v) (by rw[HWG.cl];exact hvn);rw[HC2.out]at c0 c1;simp only at c0 c1;have l0:=M5.c.lt;have x0:=M5.x.cell 1 rfl;have xl:=M5.x.lt;obtain⟨pb2,epb,ab,a0,a1,_,_⟩:=HBB.out _ M5.bel i hkd.1
        cases epb
        cases bk with
        |false=>
         have hkk:k1=2*i:=by have:=of_decide_eq_false hbk;omega
         have hfr:G.frA k1=frN N i:=by rw[hkk];exact HFA.1
         rw[hfr]at hw3 e4;have HW3:=zh hw3;have HW4:=zh e4;have HQ1:Hid (ks3.length<gk):=zh (by have h:=HEQ.out;rw[List.length_cons]at h;omega);clear hkk hfr hw3 e4 e2 e3 hbk hi hfn;go_upto_region 20 with fail
         refine wrp ?_
         repeat(go_big_quiet_step (fail))
         refine wpQuiet_nil ?_;intro xx;have M6:=zh (M5.below xx.far);have HO6:=zh (bF HO5.out xx.far);generalize xx.w=w6 at M6 HO6 ⊢;clear M5 HO5 c0 c1 l0 x0 xl ab a0 a1;go_wp2_with fail
         go_roundg ks3.length
         case measure=>exact HQ1.out
         case rel=>exact⟨frN N i,1+nO,c3,A3,rfl,rfl,zh ⟨ks1++[k1],ks3,by rw[HE0.out];simp,rfl,by rw[List.length_append,<-HEN.out];simp;omega,HW3.out,HW4.out,by have h:=HO6.out;rw[show flat stC ((ks1++[k1]).reverse.map stK)=stC (stK k1)++flat stC (ks1.reverse.map stK) by simp[flat]];exact h,M6.out⟩⟩
        |true=>
         have hkk:k1=2*i+1:=by have:=of_decide_eq_true hbk;omega
         have hfr:G.frA k1=toN N i:=by rw[hkk];exact HFA.2
         rw[hfr]at hw3 e4;have HW3:=zh hw3;have HW4:=zh e4;have HQ1:Hid (ks3.length<gk):=zh (by have h:=HEQ.out;rw[List.length_cons]at h;omega);clear hkk hfr hw3 e4 e2 e3 hbk hi hfn;go_upto_region 19 with fail
         refine wrp ?_
         repeat(go_big_quiet_step (fail))
         refine wpQuiet_nil ?_;intro xx;have M6:=zh (M5.below xx.far);have HO6:=zh (bF HO5.out xx.far);generalize xx.w=w6 at M6 HO6 ⊢;clear M5 HO5 c0 c1 l0 x0 xl ab a0 a1;go_wp2_with fail
         go_roundg ks3.length
         case measure=>exact HQ1.out
         case rel=>exact⟨toN N i,1+nO,c3,A3,rfl,rfl,zh ⟨ks1++[k1],ks3,by rw[HE0.out];simp,rfl,by rw[List.length_append,<-HEN.out];simp;omega,HW3.out,HW4.out,by have h:=HO6.out;rw[show flat stC ((ks1++[k1]).reverse.map stK)=stC (stK k1)++flat stC (ks1.reverse.map stK) by simp[flat]];exact h,M6.out⟩⟩
     ·have d1:decide (x<0)=false:=decide_eq_false hx
      have HB2:=zh (HB1.pop (by rw[<-HX.out];omega));have Uj:=zh HNQ.out;clear HB1 HNQ hx;obtain⟨go,rfl⟩: ∃g,g=gk:=⟨_,rfl⟩;go_upto_region 23 with fail
      clear lb lc
      go_loopg [9,13] m (fun q qv iv wr=> ∃(i:Nat) (Aq:Option Addr) (nq cq:Nat) (cm:List (Int×Bool)) (sn:List Bool) (S Q:List Nat) (vi:List Int),i+q=m/\iv=.int .i64 i/\qv=.slice Aq nq cq/\Hid (nq=Q.length/\u∈S/\BfI G n vi S (u::P) Q (exE G u (2*i))/\WyG n cm sn S vi/\WyM w gc gs [.slice A n cA,.slice B m cB] cm sn Aq nq cq (Q.map (fun v:Nat=>(v:Int))) wr))
      case atStart=>exact⟨0,Aq,k,cqt,cm,sn,S,Q,vi,Nat.zero_add _,rfl,rfl,zh ⟨Uj.out,huS,HB2.out,HWG.out,MT.out⟩⟩
      case round=>
       clear MT HB2 HWG Uj huS hk hcq;obtain⟨i,Aq,nq,cq,cm,sn,S,Q,vi,hi,rfl,rfl,HJ⟩:=hrel;have HNQ:=zh HJ.1;have huS:=HJ.2.1;have HB1:=zh HJ.2.2.1;have HWG:=zh HJ.2.2.2.1;have M1:=zh HJ.2.2.2.2;clear HJ;have Uk:nq<=1024:=by have h1:=HB1.short;have h2:=HNQ.out;omega
       by_cases hin:i<m
       ·have hii:(i:Int)<(m:Int):=by omega
        obtain⟨⟨t1,t2⟩,t3,t4⟩:=HTA.out i hin;have hR:=HRM.out i hin;have hN:=HND.out i hin;have hes:2*i+1<G.es.length:=by have:=HES.out;omega
        obtain⟨pb,rfl,ab,a0,a1,a2,a3⟩:=HAR.out _ M1.bel i hin;obtain⟨pf,rfl,fb,f0⟩:=HFL.out _ M1.bel i hin;have x0:=M1.x.cell 1 rfl;have xl:=M1.x.lt;generalize toN N i=tn at *;generalize frN N i=fr at *;generalize (N.arcs.getD i default).cap=ca at *;generalize (N.arcs.getD i default).cost=co at *;obtain⟨f,hf⟩: ∃f,f=G.room (2*i+1):=⟨_,rfl⟩;rw[<-hf]at hR f0;have HF:=zh hf;have HRE:Hid (G.room (2*i)=ca-f):=zh (by omega);clear hf;obtain⟨hfn,htn,hne⟩:=hN;have HT1:=zh t1;have HT2:=zh t2;have HT3:=zh t3;have HT4:=zh t4;have JU:=zh hes;have HR2:=zh hR;clear t1 t2 t3 t4 hes hR;have X1:=zh (show WyX w gc gs [.slice A n cA,.slice (some pb) m cB] cm sn Aq nq cq (Q.map (fun v:Nat=>(v:Int))) wr.heap.size [.int .i64 fr,.int .i64 tn,.int .i64 ca,.int .i64 co] (wr.alloc (.cells #[.int .i64 fr,.int .i64 tn,.int .i64 ca,.int .i64 co] 46))from⟨M1.below ((Below.refl _ _).alloc (Nat.le_refl _) _),Blk.new' wr #[.int .i64 fr,.int .i64 tn,.int .i64 ca,.int .i64 co] 46⟩);have f1:Hid ((wr.alloc (.cells #[.int .i64 fr,.int .i64 tn,.int .i64 ca,.int .i64 co] 46)).cell? (pf.add i)=some (.int .i64 f)/\(pf.add i).block<(wr.alloc (.cells #[.int .i64 fr,.int .i64 tn,.int .i64 ca,.int .i64 co] 46)).heap.size):=zh (by obtain⟨pf2,e,h1,h2⟩:=HFL.out _ X1.m.bel i hin;cases e;rw[<-HF.out]at h2;exact⟨h2,h1⟩);clear M1;go_upto_region 26 with fail
        clear a0 a1 a2 a3 ab f0 fb x0 xl;generalize wr.alloc (.cells #[.int .i64 fr,.int .i64 tn,.int .i64 ca,.int .i64 co] 46)=w1 at X1 f1 ⊢;generalize wr.heap.size=ga at X1 ⊢;have y0:=X1.y.cell 0 rfl;have y1:=X1.y.cell 1 rfl;have y2:=X1.y.cell 2 rfl;have yl:=X1.y.lt;have fc:=f1.1;have fl:=f1.2;have sc:=X1.m.seenAt (v:=tn) (by rw[HWG.sl];exact htn);have sl:=X1.m.s.lt;rw[HWG.sn tn htn]at sc
        go_cut [127]from 102 to 176 (fun bv wc=> ∃b:Bool,bv=.bool b/\Hid (WyX w gc gs [.slice A n cA,.slice (some pb) m cB] cm sn Aq nq cq (Q.map (fun v:Nat=>(v:Int))) ga [.int .i64 fr,.int .i64 tn,.int .i64 ca,.int .i64 co] wc/\(b=true->fr=u/\f<ca/\tn ∉ S)/\(b=false-> ¬(fr=u/\f<ca/\tn ∉ S))))
        case first=>
         by_cases hat:fr=u
         ·have d4:((fr:Int)==(u:Int))=true:=by simp;omega
          by_cases hfc:f<ca
          ·have d2:decide (f<ca)=true:=decide_eq_true hfc
           by_cases hS:tn∈S
           ·have d3:decide (tn∈S)=true:=decide_eq_true hS
            have HP:Hid (¬(fr=u/\f<ca/\tn ∉ S)):=zh (fun h=>h.2.2 hS);refine wrp ?_
            repeat(go_big_quiet_step (fail))
            refine wpQuiet_nil ?_;intro xx;have X2:=zh (X1.below xx.far);generalize xx.w=w2 at X2 ⊢;clear y0 y1 y2 yl fc fl sc sl X1 f1;go_wp2_with fail
            go_meet
            case rel=>exact⟨false,rfl,zh ⟨X2.out,fun h=>(by cases h),fun _=>HP.out⟩⟩
           ·have d3:decide (tn∈S)=false:=decide_eq_false hS
            have HP:Hid (fr=u/\f<ca/\tn ∉ S):=zh (⟨hat,hfc,hS⟩);refine wrp ?_
            repeat(go_big_quiet_step (fail))
            refine wpQuiet_nil ?_;intro xx;have X2:=zh (X1.below xx.far);generalize xx.w=w2 at X2 ⊢;clear y0 y1 y2 yl fc fl sc sl X1 f1;go_wp2_with fail
            go_meet
            case rel=>exact⟨true,rfl,zh ⟨X2.out,fun _=>HP.out,fun h=>(by cases h)⟩⟩
          ·have d2:decide (f<ca)=false:=decide_eq_false hfc
           have HP:Hid (¬(fr=u/\f<ca/\tn ∉ S)):=zh (fun h=>hfc h.2.1);refine wrp ?_
           repeat(go_big_quiet_step (fail))
           refine wpQuiet_nil ?_;intro xx;have X2:=zh (X1.below xx.far);generalize xx.w=w2 at X2 ⊢;clear y0 y1 y2 yl fc fl sc sl X1 f1;go_wp2_with fail
           go_meet
           case rel=>exact⟨false,rfl,zh ⟨X2.out,fun h=>(by cases h),fun _=>HP.out⟩⟩
         ·have d4:((fr:Int)==(u:Int))=false:=by simp;omega
          have HP:Hid (¬(fr=u/\f<ca/\tn ∉ S)):=zh (fun h=>hat h.1);refine wrp ?_
          repeat(go_big_quiet_step (fail))
          refine wpQuiet_nil ?_;intro xx;have X2:=zh (X1.below xx.far);generalize xx.w=w2 at X2 ⊢;clear y0 y1 y2 yl fc fl sc sl X1 f1;go_wp2_with fail
          go_meet
          case rel=>exact⟨false,rfl,zh ⟨X2.out,fun h=>(by cases h),fun _=>HP.out⟩⟩
        case rest=>
         clear y0 y1 y2 yl fc fl sc sl X1 f1;obtain⟨b,rfl,HJ⟩:=hcut;have X2:=zh HJ.1;have HBT:=zh HJ.2.1;have HBF:=zh HJ.2.2;clear HJ;generalize wc=wd at X2 ⊢
         go_upto_if 127 with fail
         go_cut [9]from 102 to 176 (fun qv wc=> ∃(Aq:Option Addr) (nq cq:Nat) (cm:List (Int×Bool)) (sn:List Bool) (S Q:List Nat) (vi:List Int),qv=.slice Aq nq cq/\Hid (nq=Q.length/\u∈S/\BfI G n vi S (u::P) Q (exE G u (2*i+1))/\WyG n cm sn S vi/\WyX w gc gs [.slice A n cA,.slice (some pb) m cB] cm sn Aq nq cq (Q.map (fun v:Nat=>(v:Int))) ga [.int .i64 fr,.int .i64 tn,.int .i64 ca,.int .i64 co] wc))
         case first=>
          cases b with
          |false=>
           have HE:Hid (BfI G n vi S (u::P) Q (exE G u (2*i+1))):=zh (HB1.skip (fun _ h1 h2=>by
            have h3:=HBF.out rfl;rw[HT3.out]at h1;rw[HRE.out]at h2;rw[HT1.out];exact Decidable.byContradiction (fun h4=>h3 ⟨h1,by omega,h4⟩)))
           go_wp2_with fail
           go_meet
           case rel=>exact⟨Aq,nq,cq,cm,sn,S,Q,vi,rfl,zh ⟨HNQ.out,huS,HE.out,HWG.out,X2.out⟩⟩
          |true=>
           have hc:=HBT.out rfl;have HV:=zh (BfI.go1 HG.out HZC.out HB1.out (by have:=JU.out;omega) HT1.out (HT3.trans hc.1) huS (by rw[HRE.out];omega) hc.2.2);have HWA:=zh (HWG.add htn hc.2.2 ((2*i:Nat):Int) (((i:Nat):Int),false) (BU i));clear hc;have HCL:=zh HWG.cl;have HSL:=zh HWG.sl;have y1:=X2.y.cell 1 rfl;have yl:=X2.y.lt;have c0:=X2.m.seenAt (v:=tn) (by rw[HSL.out];exact htn);have z0:=X2.m.s.free tn;have l0:=X2.m.s.lt;have X3:=zh (X2.see tn);have uP:tn<cm.length:=by rw[HCL.out];exact htn
           go_upto_region 28 with fail
           clear c0 z0 l0 X2 y1 yl;generalize wd.setCell ⟨gs,tn,none⟩ (.bool true)=w3 at X3 ⊢;have y1:=X3.y.cell 1 rfl;have yl:=X3.y.lt;have c1:=(X3.m.cell uP).1;have c2:=(X3.m.cell uP).2;have z1:=X3.m.c.free (tn*2);have z2:=X3.m.c.free (tn*2+1);have l1:=X3.m.c.lt;have X4:=zh (X3.come uP (((i:Nat):Int),false));go_upto_region 29 with fail
           clear c1 c2 z1 z2 l1 X3 y1 yl;generalize (w3.setCell ⟨gc,tn*2,none⟩ (.int .i64 i)).setCell ⟨gc,tn*2+1,none⟩ (.bool false)=w4 at X4 ⊢;have y1:=X4.y.cell 1 rfl;have yl:=X4.y.lt;have X5:=zh (X4.below ((Below.refl w4.heap.size w4).alloc (Nat.le_refl _) (.cells #[.int .i64 tn] 3)));have L5:=zh (Blk.new' w4 #[.int .i64 tn] 3);have HE:Hid (∀A3 c3 w5,WyX w gc gs [.slice A n cA,.slice (some pb) m cB] (cm.set tn ((i:Int),false)) (sn.set tn true) A3 (nq+1) c3 (Q.map (fun v:Nat=>(v:Int))++[(tn:Int)]) ga [.int .i64 fr,.int .i64 tn,.int .i64 ca,.int .i64 co] w5->nq+1=(Q++[tn]).length/\u∈tn::S/\BfI G n (vi.set tn ((2*i:Nat):Int)) (tn::S) (u::P) (Q++[tn]) (exE G u (2*i+1))/\WyG n (cm.set tn ((i:Int),false)) (sn.set tn true) (tn::S) (vi.set tn ((2*i:Nat):Int))/\WyX w gc gs [.slice A n cA,.slice (some pb) m cB] (cm.set tn ((i:Int),false)) (sn.set tn true) A3 (nq+1) c3 ((Q++[tn]).map (fun v:Nat=>(v:Int))) ga [.int .i64 fr,.int .i64 tn,.int .i64 ca,.int .i64 co] w5):=zh (fun A3 c3 w5 h=>⟨by rw[List.length_append,HNQ.out];rfl,List.mem_cons_of_mem _ huS,HV.out,HWA.out,by rw[List.map_append];exact h⟩);clear HV HWA HBT HBF;go_wp2_with (at_builtin;refine kD (.tmp 138) (.tmp 141) 26 rfl rfl w.heap.size i3 Try.underlying26 h3i h3z h3s h3b Aq nq cq (Q.map (fun v:Nat=>(v:Int))) (by rfl) X5.m.q ⟨w4.heap.size,0,none⟩ 1 (tn:Int) (by rfl) (L5.cell 0 rfl) (by omega) X5.m.bel.size ?_;intro A3 c3 w5 hq hg uX;have X6:=zh (X5.grow hq hg);clear hq hg uX)
           go_meet
           case rel=>exact⟨A3,nq+1,c3,_,_,_,_,_,rfl,zh (HE.out _ _ _ X6.out)⟩
         case rest=>
          clear HB1 HWG X2 HNQ Uk huS HBT HBF;obtain⟨Aq,nq,cq,cm,sn,S,Q,vi,rfl,HJ⟩:=hcut;have HNQ:=zh HJ.1;have huS:=HJ.2.1;have HB1:=zh HJ.2.2.1;have HWG:=zh HJ.2.2.2.1;have M1:=zh HJ.2.2.2.2;clear HJ;have Uk:nq<=1024:=by have h1:=HB1.short;have h2:=HNQ.out;omega
          have X1:=M1;have f1:Hid (wc.cell? (pf.add i)=some (.int .i64 f)/\(pf.add i).block<wc.heap.size):=zh (by obtain⟨pf2,e,h1,h2⟩:=HFL.out _ X1.m.bel i hin;cases e;rw[<-HF.out]at h2;exact⟨h2,h1⟩);clear M1;go_upto_region 30 with fail
          have y0:=X1.y.cell 0 rfl;have y1:=X1.y.cell 1 rfl;have y2:=X1.y.cell 2 rfl;have yl:=X1.y.lt;have fc:=f1.1;have fl:=f1.2;have sc:=X1.m.seenAt (v:=fr) (by rw[HWG.sl];exact hfn);have sl:=X1.m.s.lt;rw[HWG.sn fr hfn]at sc
          go_cut [161]from 102 to 176 (fun bv wc=> ∃b:Bool,bv=.bool b/\Hid (WyX w gc gs [.slice A n cA,.slice (some pb) m cB] cm sn Aq nq cq (Q.map (fun v:Nat=>(v:Int))) ga [.int .i64 fr,.int .i64 tn,.int .i64 ca,.int .i64 co] wc/\(b=true->tn=u/\0<f/\fr ∉ S)/\(b=false-> ¬(tn=u/\0<f/\fr ∉ S))))
          case first=>
           by_cases hat:tn=u
           ·have d4:((tn:Int)==(u:Int))=true:=by simp;omega
            by_cases hfc:0<f
            ·have d2:decide (0<f)=true:=decide_eq_true hfc
             by_cases hS:fr∈S
             ·have d3:decide (fr∈S)=true:=decide_eq_true hS
              have HP:Hid (¬(tn=u/\0<f/\fr ∉ S)):=zh (fun h=>h.2.2 hS);have X2:=X1;go_wp2_with fail
              go_meet
              case rel=>exact⟨false,rfl,zh ⟨X2.out,fun h=>(by cases h),fun _=>HP.out⟩⟩
             ·have d3:decide (fr∈S)=false:=decide_eq_false hS
              have HP:Hid (tn=u/\0<f/\fr ∉ S):=zh (⟨hat,hfc,hS⟩);have X2:=X1;go_wp2_with fail
              go_meet
              case rel=>exact⟨true,rfl,zh ⟨X2.out,fun _=>HP.out,fun h=>(by cases h)⟩⟩
            ·have d2:decide (0<f)=false:=decide_eq_false hfc
             have HP:Hid (¬(tn=u/\0<f/\fr ∉ S)):=zh (fun h=>hfc h.2.1);have X2:=X1;go_wp2_with fail
             go_meet
             case rel=>exact⟨false,rfl,zh ⟨X2.out,fun h=>(by cases h),fun _=>HP.out⟩⟩
           ·have d4:((tn:Int)==(u:Int))=false:=by simp;omega
            have HP:Hid (¬(tn=u/\0<f/\fr ∉ S)):=zh (fun h=>hat h.1);have X2:=X1;go_wp2_with fail
            go_meet
            case rel=>exact⟨false,rfl,zh ⟨X2.out,fun h=>(by cases h),fun _=>HP.out⟩⟩
          case rest=>
           clear y0 y1 y2 yl fc fl sc sl X1 f1;obtain⟨b,rfl,HJ⟩:=hcut;have X2:=zh HJ.1;have HBT:=zh HJ.2.1;have HBF:=zh HJ.2.2;clear HJ;generalize wc=we at X2 ⊢
           cases b with
           |false=>
            have HE:Hid (BfI G n vi S (u::P) Q (exE G u (2*(i+1)))):=zh (HB1.skip (fun _ h1 h2=>by
             have h3:=HBF.out rfl;rw[HT4.out]at h1;rw[<-HF.out]at h2;rw[HT2.out];exact Decidable.byContradiction (fun h4=>h3 ⟨h1,by omega,h4⟩)))
            go_wp2_with fail
            go_roundg (gk-1)
            case measure=>omega
            case rel=>exact⟨i+1,Aq,nq,cq,cm,sn,S,Q,vi,by omega,by go_num,rfl,zh ⟨HNQ.out,huS,HE.out,HWG.out,X2.m⟩⟩
           |true=>
            have hc:=HBT.out rfl;have HV:=zh (BfI.go2 HG.out HZC.out HB1.out JU.out HT2.out (HT4.trans hc.1) huS (by rw[<-HF.out];omega) hc.2.2);have HWA:=zh (HWG.add hfn hc.2.2 ((2*i+1:Nat):Int) (((i:Nat):Int),true) (Fu i));clear hc;have HCL:=zh HWG.cl;have HSL:=zh HWG.sl;have y1:=X2.y.cell 0 rfl;have yl:=X2.y.lt;have c0:=X2.m.seenAt (v:=fr) (by rw[HSL.out];exact hfn);have z0:=X2.m.s.free fr;have l0:=X2.m.s.lt;have X3:=zh (X2.see fr);have uP:fr<cm.length:=by rw[HCL.out];exact hfn
            go_upto_region 32 with fail
            clear c0 z0 l0 X2 y1 yl;generalize we.setCell ⟨gs,fr,none⟩ (.bool true)=w3 at X3 ⊢;have y1:=X3.y.cell 0 rfl;have yl:=X3.y.lt;have c1:=(X3.m.cell uP).1;have c2:=(X3.m.cell uP).2;have z1:=X3.m.c.free (fr*2);have z2:=X3.m.c.free (fr*2+1);have l1:=X3.m.c.lt;have X4:=zh (X3.come uP (((i:Nat):Int),true));go_upto_region 33 with fail
            clear c1 c2 z1 z2 l1 X3 y1 yl;generalize (w3.setCell ⟨gc,fr*2,none⟩ (.int .i64 i)).setCell ⟨gc,fr*2+1,none⟩ (.bool true)=w4 at X4 ⊢;have y1:=X4.y.cell 0 rfl;have yl:=X4.y.lt;have X5:=zh (X4.below ((Below.refl w4.heap.size w4).alloc (Nat.le_refl _) (.cells #[.int .i64 fr] 3)));have L5:=zh (Blk.new' w4 #[.int .i64 fr] 3);have HE:Hid (∀A3 c3 w5,WyX w gc gs [.slice A n cA,.slice (some pb) m cB] (cm.set fr ((i:Int),true)) (sn.set fr true) A3 (nq+1) c3 (Q.map (fun v:Nat=>(v:Int))++[(fr:Int)]) ga [.int .i64 fr,.int .i64 tn,.int .i64 ca,.int .i64 co] w5->nq+1=(Q++[fr]).length/\u∈fr::S/\BfI G n (vi.set fr ((2*i+1:Nat):Int)) (fr::S) (u::P) (Q++[fr]) (exE G u (2*(i+1)))/\WyG n (cm.set fr ((i:Int),true)) (sn.set fr true) (fr::S) (vi.set fr ((2*i+1:Nat):Int))/\WyM w gc gs [.slice A n cA,.slice (some pb) m cB] (cm.set fr ((i:Int),true)) (sn.set fr true) A3 (nq+1) c3 ((Q++[fr]).map (fun v:Nat=>(v:Int))) w5):=zh (fun A3 c3 w5 h=>⟨by rw[List.length_append,HNQ.out];rfl,List.mem_cons_of_mem _ huS,HV.out,HWA.out,by rw[List.map_append];exact h.m⟩);clear HV HWA HBT HBF;go_wp2_with (at_builtin;refine kD (.tmp 172) (.tmp 175) 26 rfl rfl w.heap.size i3 Try.underlying26 h3i h3z h3s h3b Aq nq cq (Q.map (fun v:Nat=>(v:Int))) (by rfl) X5.m.q ⟨w4.heap.size,0,none⟩ 1 (fr:Int) (by rfl) (L5.cell 0 rfl) (by omega) X5.m.bel.size ?_;intro A3 c3 w5 hq hg uX;have X6:=zh (X5.grow hq hg);clear hq hg uX)
            go_roundg (gk-1)
            case measure=>omega
            case rel=>exact⟨i+1,A3,nq+1,c3,_,_,_,_,_,by omega,by go_num,rfl,zh (HE.out _ _ _ X6.out)⟩
       ·obtain rfl:m=i:=by omega
        have HE:Hid (BfI G n vi S (u::P) Q (fun _=>False)):=zh (BfI.over (by have h:=HB1.out;rw[<-HES.out]at h;exact h));have HPP:Hid ((u::P).length+(go-1)=n/\(u::P).length+Q.length<=n/\go-1<go):=zh (by have h1:=HPQ.out;have h2:=HE.short;have h3:=HPS.out;rw[List.length_cons]at h2 ⊢;rw[List.length_cons]at h3;omega);have x0:=M1.x.cell 1 rfl;have xl:=M1.x.lt;go_wp2_with fail
        go_roundg (go-1)
        case measure=>exact HPP.2.2
        case rel=>exact⟨Aq,nq,cq,cm,sn,S,Q,vi,u::P,rfl,HNQ.out,HPP.1,HPP.2.1,zh ⟨HE.out,HWG.out,M1.out⟩⟩
namespace Dp
structure xQ (N:Net) (G:Gr):Prop where
 es:G.es.length=2*N.arcs.length
 t0: ∀i,i<N.arcs.length->G.toA (2*i)=toN N i/\G.toA (2*i+1)=frN N i
 r0: ∀i,i<N.arcs.length->G.room (2*i)+G.room (2*i+1)=(N.arcs.getD i default).cap
theorem Fits.f {N:Net} {G:Gr} (h:Fits N G):xQ N G:=⟨h.es,h.t0,h.r0⟩
theorem Fits.z {N:Net} {G:Gr} (h:Fits (zcN N) G):xQ N G:=
 ⟨by rw[h.es,fH],fun i hi=>by
   have h1:i<(zcN N).arcs.length:=by rw[fH];exact hi
   have h2:=h.t0 i h1;have e1:toN (zcN N) i=toN N i:=by unfold toN;rw[iK hi];rfl
   have e2:frN (zcN N) i=frN N i:=by unfold frN;rw[iK hi];rfl
   rw[e1,e2]at h2;exact h2,fun i hi=>by
   have h1:i<(zcN N).arcs.length:=by rw[fH];exact hi
   have h2:=h.r0 i h1;rw[iK hi]at h2;exact h2⟩
theorem xQ.fr {N:Net} {G:Gr} (h:xQ N G) (i:Nat) (hi:i<N.arcs.length):G.frA (2*i)=frN N i/\G.frA (2*i+1)=toN N i:=by
 unfold Gr.frA;rw[lF,jm];exact⟨(h.t0 i hi).2,(h.t0 i hi).1⟩
def iP (G:Gr) (E:List Nat):Int:=E.foldl (fun a k=>min a (G.room k)) 1099511627776
theorem DJ (G:Gr) (E:List Nat) (j:Nat) (hj:j<E.length):iP G (E.take (j+1))=min (iP G (E.take j)) (G.room (E.getD j 0)):=by
 unfold iP;rw[List.take_add_one,List.foldl_append,List.getElem?_eq_getElem hj,zg,List.getElem?_eq_getElem hj];rfl
theorem mJ (G:Gr): ∀(E:List Nat) (a:Int),(∀k,k∈E->E.foldl (fun a k=>min a (G.room k)) a<=G.room k)/\E.foldl (fun a k=>min a (G.room k)) a<=a
 |[],a=>⟨fun k hk=>by simp at hk,Int.le_refl _⟩
 |k0::E,a=>by
  have ih:=mJ G E (min a (G.room k0));simp only[List.foldl_cons];refine⟨fun k hk=>?_,by have:=ih.2;omega⟩
  rcases List.mem_cons.1 hk with rfl|hk
  ·have:=ih.2;omega
  ·exact ih.1 k hk
theorem pK (G:Gr): ∀(E:List Nat) (a:Int),0<a->(∀k,k∈E->0<G.room k)->0<E.foldl (fun a k=>min a (G.room k)) a
 |[],a,h,_=>h
 |k0::E,a,h,hE=>by
  simp only[List.foldl_cons];refine pK G E _ ?_ (fun k hk=>hE k (by simp[hk]));have:=hE k0 (by simp);omega
theorem BV (G:Gr): ∀(E:List Nat) (a:Int),0<=a->(∀k,k∈E->0<=G.room k)->0<=E.foldl (fun a k=>min a (G.room k)) a
 |[],a,h,_=>h
 |k0::E,a,h,hE=>by
  simp only[List.foldl_cons];refine BV G E _ ?_ (fun k hk=>hE k (by simp[hk]));have:=hE k0 (by simp);omega
end Dp
open Dp
theorem xR {A B:Option Addr} {N:Net} {m:Nat} {w:World} (hm:m=N.arcs.length) (hch:chE N=0) (hN:dm w A B N): ∀V,Below w.heap.size w V-> ∀i,i<m-> ∃pb,B=some pb/\(pb.add (i*4)).block<V.heap.size/\V.cell? (pb.add (i*4))=some (.int .i64 (frN N i:Nat))/\V.cell? ⟨(pb.add (i*4)).block,(pb.add (i*4)).off+1,none⟩=some (.int .i64 (toN N i:Nat))/\V.cell? ⟨(pb.add (i*4)).block,(pb.add (i*4)).off+2,none⟩=some (.int .i64 (N.arcs.getD i default).cap)/\V.cell? ⟨(pb.add (i*4)).block,(pb.add (i*4)).off+3,none⟩=some (.int .i64 (N.arcs.getD i default).cost):=fun V hV i hi=>by
 obtain⟨pb,e,h0,h1,h2,h3,h4⟩:=(hN.2.below hV (Nat.le_refl _)) i (by rw[<-hm];exact hi);have he:=dZ hch i (by rw[<-hm];exact hi);rw[he.1]at h1;rw[he.2.1]at h2;exact⟨pb,e,by rw[block_add];exact h0,h1,h2,h3,h4⟩
theorem JW {F:Option Addr} {N:Net} {G:Gr} {m:Nat} {w:World} (hm:m=N.arcs.length) (hFl:aH w F (aR N G)): ∀V,Below w.heap.size w V-> ∀i,i<m-> ∃pf,F=some pf/\(pf.add i).block<V.heap.size/\V.cell? (pf.add i)=some (.int .i64 (G.room (2*i+1))):=fun V hV i hi=>by
 obtain⟨pf,e,h0,h1⟩:=(hFl.below hV (Nat.le_refl _)) i (by rw[gG,<-hm];exact hi);rw[fG (by rw[<-hm];exact hi)]at h1;exact⟨pf,e,by rw[block_add];exact h0,h1⟩
theorem xS {W:World} {g c B:Nat} {E:List Nat} (h:bB stC 150 2 B W (some ⟨g,0,none⟩) c (E.map stK)) (j:Nat) (hj:j<E.length):W.cell? ⟨g,j*2,none⟩=some (.int .i64 ((E.getD j 0/2:Nat):Int))/\W.cell? ⟨g,j*2+1,none⟩=some (.bool (decide (E.getD j 0%2=1))):=by
 have hx:(E.map stK)[j]?=some (stK (E.getD j 0)):=by rw[List.getElem?_map,zg,List.getElem?_eq_getElem hj];rfl
 exact⟨bB.cell ic h j 0 _ hx (by omega),bB.cell ic h j 1 _ hx (by omega)⟩
theorem JX (A B F:Option Addr) (N:Net) (G:Gr) (E:List Nat) (m n b cA cB cF g c nk:Nat) (w:World) (hm:m=N.arcs.length) (hch:chE N=0) (hG:G.Ok b) (hf:xQ N G) (hE: ∀k,k∈E->k<2*m) (hnk:nk=E.length) (hn:nk<=1048576)
 (hB:m<=cB/\cB<=9223372036854775807) (hF:m<=cF/\cF<=9223372036854775807) (hc:nk<=c/\c<=9223372036854775807) (hN:dm w A B N) (hFl:aH w F (aR N G)) (ho:bB stC 150 2 0 w (some ⟨g,0,none⟩) c (E.map stK)):
 Calls Try.prog 69 #[.agg #[.slice A n cA,.slice B m cB],.slice F m cF,.slice (some ⟨g,0,none⟩) nk c] w fun e w'=>e=.returned (.int .i64 (iP G E))/\Below w.heap.size w w':=by
 have m2:m<=2048:=by rw[hm];exact(bV hch).2.2
 have HAR:=zh (xR hm hch hN);have HFL:=zh (JW hm hFl);have HST:Hid (∀V,Below w.heap.size w V-> ∀j,j<nk->V.cell? ⟨g,j*2,none⟩=some (.int .i64 ((E.getD j 0/2:Nat):Int))/\V.cell? ⟨g,j*2+1,none⟩=some (.bool (decide (E.getD j 0%2=1)))/\g<V.heap.size):=zh (fun V hV j hj=>by
  have h:=xS (ho.below hV) j (by rw[<-hnk];exact hj);exact⟨h.1,h.2,(ho.below hV).lt.2⟩)
 have HEK:Hid (∀j,j<nk->E.getD j 0<2*m):=zh (fun j hj=>hE _ (by rw[zg,List.getElem?_eq_getElem (by rw[<-hnk];exact hj)];exact List.getElem_mem _));have HRB:Hid (∀i,i<m->G.room (2*i)+G.room (2*i+1)=(N.arcs.getD i default).cap/\0<=G.room (2*i)/\0<=G.room (2*i+1)/\G.room (2*i)+G.room (2*i+1)<=1048576):=zh (fun i hi=>by
  have h0:=hf.r0 i (by rw[<-hm];exact hi);have h1:=hG.rm (2*i) (by rw[hf.es,<-hm];omega);have h2:=hG.rm (2*i+1) (by rw[hf.es,<-hm];omega);rw[lF]at h1;exact⟨h0,h1.1,h2.1,h1.2⟩)
 have HTK:Hid (∀j,j<nk->iP G (E.take (j+1))=min (iP G (E.take j)) (G.room (E.getD j 0))):=zh (fun j hj=>DJ G E j (by rw[<-hnk];exact hj));have HLE:Hid (∀j,j<=nk->0<=iP G (E.take j)/\iP G (E.take j)<=1099511627776):=zh (fun j hj=>⟨BV G _ _ (by decide) (fun k hk=>(hG.rm k (by rw[hf.es,<-hm];exact hE k (List.mem_of_mem_take hk))).1),(mJ G _ _).2⟩);have u6:Hid (iP G (E.take nk)=iP G E):=zh (by rw[hnk,List.take_length]);clear hm hch hG hf hE hnk hN hFl ho;have X0:=zh (Blk.new' w #[.slice A n cA,.slice B m cB] 25);have B0:=zh ((Below.refl w.heap.size w).alloc (Nat.le_refl _) (.cells #[.slice A n cA,.slice B m cB] 25));go_enter Try.func69,Try.ntmps69;go_upto_region 1 with fail
 generalize w.alloc (.cells #[.slice A n cA,.slice B m cB] 25)=w1 at X0 B0 ⊢;go_wp2_with fail
 go_loopw [7,8] (fun sv iv wr=> ∃j:Nat,j<=nk/\iv=.int .i64 j/\sv=.int .i64 (iP G (E.take j))/\Hid (Blk wr w.heap.size 25 [.slice A n cA,.slice B m cB]/\Below w.heap.size w wr)) (fun _ iv _=>nk-(intOf iv).toNat)
 case atStart=>exact⟨0,Nat.zero_le _,rfl,rfl,zh ⟨X0.out,B0.out⟩⟩
 case round=>
  clear X0 B0;obtain⟨j,hj,rfl,rfl,HJ⟩:=hrel
  by_cases hjn:j<nk
  ·have hji:(j:Int)<(nk:Int):=by omega
   obtain⟨c0,c1,gl⟩:=HST.out _ HJ.2 j hjn;have hk:=HEK.out j hjn;have h1:=HTK.out j hjn;have h2:=HLE.out j hj;generalize hR1:iP G (E.take (j+1))=R1 at *;have HR0:=zh hR1;clear hR1;generalize iP G (E.take j)=R at *;generalize hkk:E.getD j 0=k at *;clear hkk;have hi:k/2<m:=by omega
   have hii:((k/2:Nat):Int)<(m:Int):=by omega
   obtain⟨pf,rfl,fb,f0⟩:=HFL.out _ HJ.2 (k/2) hi;obtain⟨pb,rfl,ab,_,_,a2,_⟩:=HAR.out _ HJ.2 (k/2) hi;obtain⟨r1,r2,r3,r4⟩:=HRB.out (k/2) hi;have x0:=HJ.1.cell 1 rfl;have xl:=HJ.1.lt;have hm2:k%2=0∨k%2=1:=by omega
   have hke:k=2*(k/2)+k%2:=by omega
   generalize k/2=i at *;generalize (N.arcs.getD i default).cap=ca at *;obtain⟨f,hf⟩: ∃f,f=G.room (2*i+1):=⟨_,rfl⟩;rw[<-hf]at f0 r1 r3 r4
   rcases hm2 with e|e
   ·rw[e]at c1 hke
    have hr:G.room k=ca-f:=by rw[hke];rw[Nat.add_zero];omega
    rw[hr]at h1;have c1:wr.cell? ⟨g,j*2+1,none⟩=some (.bool false):=c1;have HR1:=zh h1;have hb: -2147483648<=ca-f/\ca-f<=2147483648:=by omega
    clear hr hke e hf h1 r1;go_upto_region 7 with fail
    by_cases hlt:ca-f<R
    ·have HE:Hid (R1=ca-f):=zh (by rw[HR1.out];omega)
     refine wrp ?_
     repeat(go_big_quiet_step (fail))
     refine wpQuiet_nil ?_;intro xx;have HJ2:Hid (Blk xx.w w.heap.size 25 [.slice A n cA,.slice (some pb) m cB]/\Below w.heap.size w xx.w):=zh ⟨HJ.1.below xx.far HJ.1.lt,HJ.2.trans (xx.far.mono HJ.2.size)⟩;generalize xx.w=w2 at HJ2 ⊢;go_wp2_with fail
     exact⟨⟨j+1,by omega,by go_num,by rw[HR0.out,HE.out],HJ2⟩,by simp[intOf];omega⟩
    ·have HE:Hid (R1=R):=zh (by rw[HR1.out];omega)
     have hlt2:R<=ca-f:=by omega
     refine wrp ?_
     repeat(go_big_quiet_step (fail))
     refine wpQuiet_nil ?_;intro xx;have HJ2:Hid (Blk xx.w w.heap.size 25 [.slice A n cA,.slice (some pb) m cB]/\Below w.heap.size w xx.w):=zh ⟨HJ.1.below xx.far HJ.1.lt,HJ.2.trans (xx.far.mono HJ.2.size)⟩;generalize xx.w=w2 at HJ2 ⊢;go_wp2_with fail
     exact⟨⟨j+1,by omega,by go_num,by rw[HR0.out,HE.out],HJ2⟩,by simp[intOf];omega⟩
   ·rw[e]at c1 hke
    have hr:G.room k=f:=by rw[hke];exact hf.symm
    rw[hr]at h1;have c1:wr.cell? ⟨g,j*2+1,none⟩=some (.bool true):=c1;have HR1:=zh h1;have hb: -2147483648<=ca-f/\ca-f<=2147483648:=by omega
    clear hr hke e hf h1 r1
    by_cases hlt:f<R
    ·have HE:Hid (R1=f):=zh (by rw[HR1.out];omega)
     go_wp2_with fail
     exact⟨⟨j+1,by omega,by go_num,by rw[HR0.out,HE.out],HJ⟩,by simp[intOf];omega⟩
    ·have HE:Hid (R1=R):=zh (by rw[HR1.out];omega)
     have hlt2:R<=f:=by omega
     go_wp2_with fail
     exact⟨⟨j+1,by omega,by go_num,by rw[HR0.out,HE.out],HJ⟩,by simp[intOf];omega⟩
  ·obtain rfl:nk=j:=by omega
   go_wp2_with fail
   go_ret;exact⟨ah u6.out,HJ.2⟩
end Go.Proofs.Ytmebpglkeedaoaa
namespace Go.Proofs.Ytmebpglkeedaoaa
open Go.RowKit Dp
namespace Dp
theorem DK (G:Gr) (E:List Nat) (x:Int) (j:Nat) (hj:j<E.length):G.pushL (E.take (j+1)) x=(G.pushL (E.take j) x).push1 (E.getD j 0) x:=by
 unfold Gr.pushL;rw[List.take_add_one,List.foldl_append,List.getElem?_eq_getElem hj,zg,List.getElem?_eq_getElem hj];rfl
theorem qf {N:Net} {H:Gr} {k:Nat} {x:Int} (hl:H.es.length=2*N.arcs.length) (hk:k<2*N.arcs.length):aR N (H.push1 k x)=(aR N H).set (k/2) (H.room (2*(k/2)+1)+(if k%2=1 then -x else x)):=by
 apply List.ext_getElem
 ·simp[aR]
 ·intro i h1 h2
  have hi:i<N.arcs.length:=by simpa [aR]using h1
  have hr:=lC (G:=H) (k:=k) (x:=x) (by omega) (by unfold tw;split<;>omega) (2*i+1);rw[List.getElem_set];simp only[aR,List.getElem_map,List.getElem_range];rw[hr,jm]
  by_cases e:k/2=i
  ·subst e
   rw[if_pos rfl]
   rcases Nat.mod_two_eq_zero_or_one k with e|e
   ·rw[if_neg (by omega),if_pos (by omega),if_neg (by omega)];omega
   ·rw[if_pos (by omega),if_neg (by omega),if_pos e];omega
  ·rw[if_neg e,if_neg (by omega),if_neg (by omega)];omega
theorem uQ {N:Net} {G:Gr} {E ks:List Nat} {x:Int} (hl:G.es.length=2*N.arcs.length) (hE: ∀k,k∈E->k<2*N.arcs.length) (hp:E.Perm ks):aR N (G.pushL E x)=aR N (G.pushL ks x):=by
 have hb: ∀k,k∈E->k<G.es.length/\tw k<G.es.length:=fun k hk=>by
  have:=hE k hk;refine⟨by omega,?_⟩;unfold tw;split<;>omega
 have hb2: ∀k,k∈ks->k<G.es.length/\tw k<G.es.length:=fun k hk=>hb k (hp.mem_iff.2 hk)
 unfold aR;apply List.map_congr_left;intro i hi;rw[ik hb,ik hb2,hp.count_eq,hp.count_eq]
theorem JY {G:Gr} {n:Nat} {E:List Nat} {x:Int} (hG:G.Ok n) (hE: ∀k,k∈E->k<G.es.length) (hn:E.Nodup) (h0:0<=x) (j i:Nat) (hi:i<G.es.length):G.room i-x<=(G.pushL (E.take j) x).room i/\(G.pushL (E.take j) x).room i<=G.room i+x:=by
 have hb: ∀k,k∈E.take j->k<G.es.length/\tw k<G.es.length:=fun k hk=>⟨hE k (List.mem_of_mem_take hk),hG.tl (hE k (List.mem_of_mem_take hk))⟩
 rw[ik hb];have hn2:(E.take j).Nodup:=hn.sublist (List.take_sublist _ _);have h1:(E.take j).count i<=1:=by rw[hn2.count];split<;>omega
 have h2:(E.take j).count (tw i)<=1:=by rw[hn2.count];split<;>omega
 generalize (E.take j).count i=a at *;generalize (E.take j).count (tw i)=b at *;have ha:a=0∨a=1:=by omega
 have hb:b=0∨b=1:=by omega
 rcases ha with rfl|rfl<;>rcases hb with rfl|rfl<;>simp<;>omega
end Dp
open Dp
theorem Fv (N:Net) (G:Gr) (E:List Nat) (m n b cF g gF c nk:Nat) (x:Int) (w:World) (hm:m=N.arcs.length) (hm2:m<=2048) (hG:G.Ok b) (hf:xQ N G) (hE: ∀k,k∈E->k<2*m) (hnd:E.Nodup) (hx:0<=x/\x<=1099511627776) (hnk:nk=E.length) (hn:nk<=1048576)
 (hF:m<=cF/\cF<=9223372036854775807) (hc:nk<=c/\c<=9223372036854775807) (hFl:Fl 2 w gF (aR N G)) (ho:bB stC 150 2 0 w (some ⟨g,0,none⟩) c (E.map stK)) (hgf:g≠gF):
 Calls Try.prog 68 #[.slice (some ⟨gF,0,none⟩) m cF,.slice (some ⟨g,0,none⟩) nk c,.int .i64 x] w fun e w'=>e=.returned (.tuple #[])/\Fl 2 w' gF (aR N (G.pushL E x))/\Touch (fun k=>k=gF) w w':=by
 have HST:Hid (∀V,Touch (fun k=>k=gF) w V-> ∀j,j<nk->V.cell? ⟨g,j*2,none⟩=some (.int .i64 ((E.getD j 0/2:Nat):Int))/\V.cell? ⟨g,j*2+1,none⟩=some (.bool (decide (E.getD j 0%2=1)))/\g<V.heap.size):=zh (fun V hV j hj=>by
  have ho2:=ho.touch hV (fun k hk e=>by obtain⟨a,ea,hb⟩:=hk;cases ea;exact hgf (hb.trans e));have h:=xS ho2 j (by rw[<-hnk];exact hj);exact⟨h.1,h.2,ho2.lt.2⟩)
 have HEK:Hid (∀j,j<nk->E.getD j 0<2*m):=zh (fun j hj=>hE _ (by rw[zg,List.getElem?_eq_getElem (by rw[<-hnk];exact hj)];exact List.getElem_mem _));have HFF:Hid (Fl 2 w gF (aR N (G.pushL (E.take 0) x))):=zh hFl;have HLN:Hid (∀H,(aR N H).length=m):=zh (fun H=>by rw[gG,<-hm]);have HGE:Hid (∀j,(aR N (G.pushL (E.take j) x)).length=m/\ ∀i,i<m->((aR N (G.pushL (E.take j) x)).getD i 0=(G.pushL (E.take j) x).room (2*i+1))/\ -2199023255552<=(G.pushL (E.take j) x).room (2*i+1)/\(G.pushL (E.take j) x).room (2*i+1)<=2199023255552):=zh (fun j=>⟨by rw[gG,<-hm],fun i hi=>⟨fG (by rw[<-hm];exact hi),by
  have h1:=JY hG (fun k hk=>by rw[hf.es,<-hm];exact hE k hk) hnd hx.1 j (2*i+1) (by rw[hf.es,<-hm];omega);have h2:=hG.rm (2*i+1) (by rw[hf.es,<-hm];omega);have h3:=hG.rm (tw (2*i+1)) (hG.tl (by rw[hf.es,<-hm];omega));omega⟩⟩)
 have HPU:Hid (∀j,j<nk->aR N (G.pushL (E.take (j+1)) x)=(aR N (G.pushL (E.take j) x)).set (E.getD j 0/2) ((G.pushL (E.take j) x).room (2*(E.getD j 0/2)+1)+(if E.getD j 0%2=1 then -x else x))):=zh (fun j hj=>by
  rw[DK G E x j (by rw[<-hnk];exact hj)];have hb: ∀k,k∈E.take j->k<G.es.length/\tw k<G.es.length:=fun k hk=>by
   have h1:k<G.es.length:=by rw[hf.es,<-hm];exact hE k (List.mem_of_mem_take hk)
   exact⟨h1,hG.tl h1⟩
  exact qf (by rw[(cZ hb).le];exact hf.es) (by rw[<-hm];exact HEK.out j hj))
 have u6:Hid (aR N (G.pushL (E.take nk) x)=aR N (G.pushL E x)):=zh (by rw[hnk,List.take_length]);clear hm hG hf hE hnd hnk hFl ho hgf;go_enter Try.func68,Try.ntmps68;go_wp2_with fail
 go_loopw [6] (fun iv wr=> ∃j:Nat,j<=nk/\iv=.int .i64 j/\Hid (Fl 2 wr gF (aR N (G.pushL (E.take j) x))/\Touch (fun k=>k=gF) w wr)) (fun iv _=>nk-(intOf iv).toNat)
 case atStart=>exact⟨0,Nat.zero_le _,rfl,zh ⟨HFF.out,Touch.refl _ _⟩⟩
 case round=>
  clear HFF;obtain⟨j,hj,rfl,HJ⟩:=hrel
  by_cases hjn:j<nk
  ·have hji:(j:Int)<(nk:Int):=by omega
   obtain⟨c0,c1,gl⟩:=HST.out _ HJ.2 j hjn;have hk:=HEK.out j hjn;have h1:=HPU.out j hjn;have hi:E.getD j 0/2<m:=by omega
   have hii:((E.getD j 0/2:Nat):Int)<(m:Int):=by omega
   obtain⟨hl,hg⟩:=HGE.out j;obtain⟨g1,g2⟩:=hg _ hi;have f0:=HJ.1.cell (E.getD j 0/2) (by rw[hl];exact hi);have fz:=Blk.free HJ.1 (E.getD j 0/2);have fl:=Blk.lt HJ.1;rw[g1]at f0;generalize (G.pushL (E.take j) x).room (2*(E.getD j 0/2)+1)=f at *;generalize hkk:E.getD j 0=k at *;clear hkk hg g1 hl hk;have hm2:k%2=0∨k%2=1:=by omega
   generalize k/2=i at *
   rcases hm2 with e|e
   ·rw[e]at c1 h1
    have h2:aR N (G.pushL (E.take (j+1)) x)=(aR N (G.pushL (E.take j) x)).set i (f+x):=by rw[h1];rw[if_neg (by omega)]
    have c1:wr.cell? ⟨g,j*2+1,none⟩=some (.bool false):=c1;have HE:Hid (Fl 2 (wr.setCell ⟨gF,i,none⟩ (.int .i64 (f+x))) gF (aR N (G.pushL (E.take (j+1)) x))/\Touch (fun k=>k=gF) w (wr.setCell ⟨gF,i,none⟩ (.int .i64 (f+x)))):=zh ⟨by rw[h2];exact HJ.1.put i _,HJ.2.put i _⟩;clear h1 h2 e;go_wp2_with fail
    exact⟨⟨j+1,by omega,by go_num,HE⟩,by simp[intOf];omega⟩
   ·rw[e]at c1 h1
    have h2:aR N (G.pushL (E.take (j+1)) x)=(aR N (G.pushL (E.take j) x)).set i (f-x):=by rw[h1];rw[if_pos rfl];rfl
    have c1:wr.cell? ⟨g,j*2+1,none⟩=some (.bool true):=c1;have HE:Hid (Fl 2 (wr.setCell ⟨gF,i,none⟩ (.int .i64 (f-x))) gF (aR N (G.pushL (E.take (j+1)) x))/\Touch (fun k=>k=gF) w (wr.setCell ⟨gF,i,none⟩ (.int .i64 (f-x)))):=zh ⟨by rw[h2];exact HJ.1.put i _,HJ.2.put i _⟩;clear h1 h2 e;go_wp2_with fail
    exact⟨⟨j+1,by omega,by go_num,HE⟩,by simp[intOf];omega⟩
  ·obtain rfl:nk=j:=by omega
   go_wp2_with fail
   exact bodyPost_end (v:=.tuple #[]) (by simp[results,Try.results68,go_sem]) rfl ⟨rfl,by rw[<-u6.out];exact HJ.1,HJ.2⟩
end Go.Proofs.Ytmebpglkeedaoaa
