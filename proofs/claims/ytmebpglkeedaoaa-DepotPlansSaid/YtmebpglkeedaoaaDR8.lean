/- Contracts that the claim leans on. -/
import Derived.Test.YtmebpglkeedaoaaDR7
import Derived.Deep.Cut
import Derived.WalkMore
set_option maxHeartbeats 8000000
set_option maxRecDepth 100000
set_option linter.unusedVariables false
set_option linter.unusedSimpArgs false
set_option linter.unnecessarySimpa false
namespace Go.Proofs.Ytmebpglkeedaoaa
open Go.RowKit Dp
theorem Pg (AI AO F:Option Addr) (LI LO:List (List Int)) (fl:List Int) (m ci co n nf cf b:Nat) (v0 v1:Value) (w:World) (hm:m=LI.length) (hmo:m=LO.length) (hm8:m<=64) (hn:n<=64) (hci:m<=ci/\ci<=9223372036854775807) (hco:m<=co/\co<=9223372036854775807) (hLI:iA w AI LI) (hLO:iA w AO LO) (hrI: ∀i,i<m->(LI.getD i []).length=n) (hrO: ∀i,i<m->(LO.getD i []).length=n)
 (hb:Blk w b 125 [v0,v1,.slice AI m ci,.slice AO m co]) (hnf:nf=fl.length) (Rm:nf<=4096) (hcf:nf<=cf/\cf<=9223372036854775807) (hF:aH w F fl) (hxI: ∀i k,i<m->k<n->(LI.getD i []).getD k 0<fl.length) (hxO: ∀i k,i<m->k<n->(LO.getD i []).getD k 0<fl.length):
 Calls Try.prog 91 #[.pointer (some ⟨b,0,none⟩),.slice F nf cf] w fun e w'=> ∃g1 g2 gI gO,e=.returned (.agg #[.slice (some ⟨g1,0,none⟩) m m,.slice (some ⟨g2,0,none⟩) m m])/\RwJ n m g1 gI (fun i=>bT (fun k=>rdF fl ((LI.getD i []).getD k 0)) n n) w'/\RwJ n m g2 gO (fun i=>bT (fun k=>rdF fl ((LO.getD i []).getD k 0)) n n) w'/\Below w.heap.size w w':=by
 obtain⟨RI,hRI⟩: ∃R:Nat->List Int,R=fun i=>bT (fun k=>rdF fl ((LI.getD i []).getD k 0)) n n:=⟨_,rfl⟩
 obtain⟨RO,hRO⟩: ∃R:Nat->List Int,R=fun i=>bT (fun k=>rdF fl ((LO.getD i []).getD k 0)) n n:=⟨_,rfl⟩
 have HB1:=zh (((Below.refl w.heap.size w).alloc (Nat.le_refl _) (.cells #[.slice F nf cf] 22)).alloc (by simp) (.cells #[.slice none 0 0,.slice none 0 0] 55));have XF:=zh ((Blk.new' w #[.slice F nf cf] 22).alloc (.cells #[.slice none 0 0,.slice none 0 0] 55));have XR:=zh (show Blk ((w.alloc (.cells #[.slice F nf cf] 22)).alloc (.cells #[.slice none 0 0,.slice none 0 0] 55)) (w.heap.size+1) 55 [.slice none 0 0,.slice none 0 0]from by simpa using Blk.new' (w.alloc (.cells #[.slice F nf cf] 22)) #[.slice none 0 0,.slice none 0 0] 55);have FR:Hid (∀W1,Below w.heap.size w W1->Blk W1 w.heap.size 22 [.slice F nf cf]->(∀V,Below W1.heap.size W1 V->Calls Try.prog 110 #[.slice AI m ci,.pointer (some ⟨w.heap.size,0,none⟩)] V (fun e w'=> ∃g gI,e=.returned (.slice (some ⟨g,0,none⟩) m m)/\RwJ n m g gI RI w'/\Below V.heap.size V w'/\V.heap.size<=g/\ ∀i,i<m->V.heap.size<=gI i))/\ ∀V,Below W1.heap.size W1 V->Calls Try.prog 110 #[.slice AO m co,.pointer (some ⟨w.heap.size,0,none⟩)] V (fun e w'=> ∃g gI,e=.returned (.slice (some ⟨g,0,none⟩) m m)/\RwJ n m g gI RO w'/\Below V.heap.size V w'/\V.heap.size<=g/\ ∀i,i<m->V.heap.size<=gI i)):=zh (fun W1 h1 h2=>by
  refine⟨fun V hV=>?_,fun V hV=>?_⟩
  ·have hw:=h1.trans (hV.mono h1.size)
   have hx:=h2.below hV h2.lt;rw[hRI];exact LX AI F LI fl m ci n nf cf w.heap.size V hm hm8 hn hci (hLI.below hw (Nat.le_refl _)) hrI (hx.cell 0 rfl) hx.lt hnf Rm hcf (hF.below hw (Nat.le_refl _)) hxI
  ·have hw:=h1.trans (hV.mono h1.size)
   have hx:=h2.below hV h2.lt;rw[hRO];exact LX AO F LO fl m co n nf cf w.heap.size V hmo hm8 hn hco (hLO.below hw (Nat.le_refl _)) hrO (hx.cell 0 rfl) hx.lt hnf Rm hcf (hF.below hw (Nat.le_refl _)) hxO)
 have HX:=zh hb;rw[<-hRI,<-hRO];clear hRI hRO hm hmo hLI hLO hrI hrO hb hnf hF hxI hxO;go_enter Try.func91,Try.ntmps91;go_upto_region 2 with fail
 generalize (w.alloc (.cells #[.slice F nf cf] 22)).alloc (.cells #[.slice none 0 0,.slice none 0 0] 55)=w1 at HB1 XF XR ⊢;have FI:=zh (FR.out w1 HB1.out XF.out).1;have FO:=zh (FR.out w1 HB1.out XF.out).2;have RD:Hid (∀W,Below w1.heap.size w1 W->(W.cell? ⟨b,2,none⟩=some (.slice AI m ci)/\W.cell? ⟨b,3,none⟩=some (.slice AO m co))/\Blk W (w.heap.size+1) 55 [.slice none 0 0,.slice none 0 0]/\Below w.heap.size w W):=zh (fun W h=>by
  have hb:=HB1.trans (h.mono HB1.size);have hx:=HX.below hb HX.lt;exact⟨⟨hx.cell 2 rfl,hx.cell 3 rfl⟩,XR.below h XR.lt,hb⟩)
 have HS:=zh XR.lt;have HT:=zh (Below.refl w1.heap.size w1).drew;clear FR;refine kF (S:=fun L W=>(True)/\(L.getD 13 false=true∨(W.cell? ⟨b,2,none⟩=some (.slice AI m ci)/\W.cell? ⟨b,3,none⟩=some (.slice AO m co)))) (by kernel_rfl) ?_ (fun hHeld=>?_)
 ·(try dsimp only);refine⟨?_,Or.inr ?_⟩
  ·(first|trivial|with_reducible assumption)
  ·(first|with_reducible exact(RD.out _ HT.out).1|with_reducible assumption)
 refine bS (i:=0) (v:=?_) rfl (by kernel_rfl) (by kernel_rfl) (by kernel_rfl) (fun _ _ _ h=>h) (by rfl) (fun _ _ h=>by simpa only[getD_set_ne false (show 0≠13 by decide)]using h) (fun _ _ h=>by simpa only[getD_set_ne false (show 0≠13 by decide)]using h) ?_ (by assumption) (fun aa=>?_);rotate_left 1
 ·(intro _ _ _ _ _;first|(go_simp;done)|(go_simp;with_reducible rfl))
 clear hHeld;have hHeld:=aa;clear aa
 (try simp only[zp])
 refine bS (i:=1) (v:=?_) rfl (by kernel_rfl) (by kernel_rfl) (by kernel_rfl) (fun _ _ _ h=>h) (by rfl) (fun _ _ h=>by simpa only[getD_set_ne false (show 1≠13 by decide)]using h) (fun _ _ h=>by simpa only[getD_set_ne false (show 1≠13 by decide)]using h) ?_ (by assumption) (fun aa=>?_);rotate_left 1
 ·(intro _ _ _ _ _;first|(go_simp;done)|(go_simp;with_reducible rfl))
 clear hHeld;have hHeld:=aa;clear aa
 (try simp only[zp])
 refine bS (i:=2) (v:=?_) rfl (by kernel_rfl) (by kernel_rfl) (by kernel_rfl) (fun _ _ _ h=>h) (by rfl) (fun _ _ h=>by simpa only[getD_set_ne false (show 2≠13 by decide)]using h) (fun _ _ h=>by simpa only[getD_set_ne false (show 2≠13 by decide)]using h) ?_ (by assumption) (fun aa=>?_);rotate_left 1
 ·(intro _ _ _ _ _;first|(go_simp;done)|(go_simp;with_reducible rfl))
 clear hHeld;have hHeld:=aa;clear aa
 (try simp only[zp])
 refine bS (i:=3) (v:=?_) rfl (by kernel_rfl) (by kernel_rfl) (by kernel_rfl) (fun _ _ _ h=>h) (by rfl) (fun _ _ h=>by simpa only[getD_set_ne false (show 3≠13 by decide)]using h) (fun _ _ h=>by simpa only[getD_set_ne false (show 3≠13 by decide)]using h) ?_ (by assumption) (fun aa=>?_);rotate_left 1
 ·(intro _ _ _ _ _;first|(go_simp;done)|(go_simp;with_reducible rfl))
 clear hHeld;have hHeld:=aa;clear aa
 (try simp only[zp])
 refine bS (i:=4) (v:=?_) rfl (by kernel_rfl) (by kernel_rfl) (by kernel_rfl) (fun _ _ _ h=>h) (by rfl) (fun _ _ h=>by simpa only[getD_set_ne false (show 4≠13 by decide)]using h) (fun _ _ h=>by simpa only[getD_set_ne false (show 4≠13 by decide)]using h) ?_ (by assumption) (fun aa=>?_);rotate_left 1
 ·(intro L W hL hK hSw;(try dsimp only at hSw);obtain⟨h0,h1⟩:=hSw;replace h1:=still [] hK hL (by kernel_rfl) h1;clear hL hK;first|(go_simp;done)|(go_simp;with_reducible rfl))
 clear hHeld;have hHeld:=aa;clear aa
 (try simp only[zp])
 refine bS (i:=6) (v:=?_) rfl (by kernel_rfl) (by kernel_rfl) (by kernel_rfl) (fun _ _ _ h=>h) (by rfl) (fun _ _ h=>by simpa only[getD_set_ne false (show 6≠13 by decide)]using h) (fun _ _ h=>by simpa only[getD_set_ne false (show 6≠13 by decide)]using h) ?_ (by assumption) (fun aa=>?_);rotate_left 1
 ·(intro _ _ _ _ _;first|(go_simp;done)|(go_simp;with_reducible rfl))
 clear hHeld;have hHeld:=aa;clear aa
 (try simp only[zp])
 refine bS (i:=7) (v:=?_) rfl (by kernel_rfl) (by kernel_rfl) (by kernel_rfl) (fun _ _ _ h=>h) (by rfl) (fun _ _ h=>by simpa only[getD_set_ne false (show 7≠13 by decide)]using h) (fun _ _ h=>by simpa only[getD_set_ne false (show 7≠13 by decide)]using h) ?_ (by assumption) (fun aa=>?_);rotate_left 1
 ·(intro _ _ _ _ _;first|(go_simp;done)|(go_simp;with_reducible rfl))
 clear hHeld;have hHeld:=aa;clear aa
 (try simp only[zp])
 refine bS (i:=8) (v:=?_) rfl (by kernel_rfl) (by kernel_rfl) (by kernel_rfl) (fun _ _ _ h=>h) (by rfl) (fun _ _ h=>by simpa only[getD_set_ne false (show 8≠13 by decide)]using h) (fun _ _ h=>by simpa only[getD_set_ne false (show 8≠13 by decide)]using h) ?_ (by assumption) (fun aa=>?_);rotate_left 1
 ·(intro _ _ _ _ _;first|(go_simp;done)|(go_simp;with_reducible rfl))
 clear hHeld;have hHeld:=aa;clear aa
 (try simp only[zp])
 refine bS (i:=9) (v:=?_) rfl (by kernel_rfl) (by kernel_rfl) (by kernel_rfl) (fun _ _ _ h=>h) (by rfl) (fun _ _ h=>by simpa only[getD_set_ne false (show 9≠13 by decide)]using h) (fun _ _ h=>by simpa only[getD_set_ne false (show 9≠13 by decide)]using h) ?_ (by assumption) (fun aa=>?_);rotate_left 1
 ·(intro _ _ _ _ _;first|(go_simp;done)|(go_simp;with_reducible rfl))
 clear hHeld;have hHeld:=aa;clear aa
 (try simp only[zp])
 refine bS (i:=10) (v:=?_) rfl (by kernel_rfl) (by kernel_rfl) (by kernel_rfl) (fun _ _ _ h=>h) (by rfl) (fun _ _ h=>by simpa only[getD_set_ne false (show 10≠13 by decide)]using h) (fun _ _ h=>by simpa only[getD_set_ne false (show 10≠13 by decide)]using h) ?_ (by assumption) (fun aa=>?_);rotate_left 1
 ·(intro L W hL hK hSw;(try dsimp only at hSw);obtain⟨h0,h1⟩:=hSw;replace h1:=still [] hK hL (by kernel_rfl) h1;clear hL hK;first|(go_simp;done)|(go_simp;with_reducible rfl))
 clear hHeld;have hHeld:=aa;clear aa
 (try simp only[zp])
 refine ay (rs:=[5]) (by kernel_rfl) (by simp) ?_;refine au.cons (i:=5) rfl (fun K hK=>?_) ?_
 ·go_simp;refine(FI.out _ HT.out).mono ?_;rintro e w5 ⟨g1,gI,rfl,hr5,hb5,hg5,hi5⟩;(try have H2:=zh (RwJ.below H2.out hb5));have H1:=zh hr5;have G1:=zh (Nat.le_trans HT.size hg5);have I1:=zh (fun i (h:i<m)=>Nat.le_trans HT.size (hi5 i h));have HT:=zh (HT.trans (hb5.mono HT.size));clear hr5 hb5 hg5 hi5
  (try go_wp2_with fail)
  refine hK.out _ _ ?_ (fun aa=>?_)
  ·(try dsimp only);refine⟨?_,Or.inr ?_⟩
   ·(first|trivial|with_reducible assumption)
   ·(first|with_reducible exact(RD.out _ HT.out).1|with_reducible assumption)
  clear hK K;clear hHeld;have hHeld:=aa;clear aa
  (try simp only[zp])
  refine ay (rs:=[11]) (by kernel_rfl) (by simp) ?_;refine au.cons (i:=11) rfl (fun K hK=>?_) ?_
  ·go_simp;refine(FO.out _ HT.out).mono ?_;rintro e w6 ⟨g2,gO,rfl,hr5,hb5,hg5,hi5⟩;(try have H1:=zh (RwJ.below H1.out hb5));have H2:=zh hr5;have G2:=zh (Nat.le_trans HT.size hg5);have I2:=zh (fun i (h:i<m)=>Nat.le_trans HT.size (hi5 i h));have HT:=zh (HT.trans (hb5.mono HT.size));clear hr5 hb5 hg5 hi5
   (try go_wp2_with fail)
   refine hK.out _ _ ?_ (fun aa=>?_)
   ·(try dsimp only);refine⟨?_,Or.inr ?_⟩
    ·(first|trivial|with_reducible assumption)
    ·(first|with_reducible exact(RD.out _ HT.out).1|with_reducible assumption)
   clear hK K;clear hHeld;have hHeld:=aa;clear aa
   (try simp only[zp])
   refine bS (i:=12) (v:=?_) rfl (by kernel_rfl) (by kernel_rfl) (by kernel_rfl) (fun _ _ _ h=>h) (by rfl) (fun _ _ h=>by simpa only[getD_set_ne false (show 12≠13 by decide)]using h) (fun _ _ h=>by simpa only[getD_set_ne false (show 12≠13 by decide)]using h) ?_ (by assumption) (fun aa=>?_);rotate_left 1
   ·(intro _ _ _ _ _;first|(go_simp;done)|(go_simp;with_reducible rfl))
   clear hHeld;have hHeld:=aa;clear aa
   (try simp only[zp])
   refine ay (rs:=[13]) (by kernel_rfl) (by simp) ?_;refine au.cons (i:=13) rfl (fun K hK=>?_) ?_
   ·(have XR2:=(RD.out _ HT.out).2.1;have q0:=XR2.cell 0 rfl;have q1:=XR2.cell 1 rfl;have z0:=XR2.free 0;have z1:=XR2.free 1;have zl:=XR2.lt;have HE1:=zh ((XR2.setCell 0 (.slice (some ⟨g1,0,none⟩) m m)).setCell 1 (.slice (some ⟨g2,0,none⟩) m m));have HE2:=zh ((H1.other (p:=⟨w.heap.size+1,0,none⟩) (by have:=G1.out;have:=HS.out;simp only;omega) (fun i h=>by have:=I1.out i h;have:=HS.out;simp only;omega) (.slice (some ⟨g1,0,none⟩) m m)).other (p:=⟨w.heap.size+1,1,none⟩) (by have:=G1.out;have:=HS.out;simp only;omega) (fun i h=>by have:=I1.out i h;have:=HS.out;simp only;omega) (.slice (some ⟨g2,0,none⟩) m m));have HE3:=zh ((H2.other (p:=⟨w.heap.size+1,0,none⟩) (by have:=G2.out;have:=HS.out;simp only;omega) (fun i h=>by have:=I2.out i h;have:=HS.out;simp only;omega) (.slice (some ⟨g1,0,none⟩) m m)).other (p:=⟨w.heap.size+1,1,none⟩) (by have:=G2.out;have:=HS.out;simp only;omega) (fun i h=>by have:=I2.out i h;have:=HS.out;simp only;omega) (.slice (some ⟨g2,0,none⟩) m m));have HE4:=zh (((RD.out _ HT.out).2.2.setCell (p:=⟨w.heap.size+1,0,none⟩) (by simp) (.slice (some ⟨g1,0,none⟩) m m)).setCell (p:=⟨w.heap.size+1,1,none⟩) (by simp) (.slice (some ⟨g2,0,none⟩) m m));go_simp)
    (try go_wp2_with fail)
    refine hK.out _ _ ?_ (fun aa=>?_)
    ·(try dsimp only);refine⟨?_,Or.inl (by rfl)⟩
     ·(first|trivial|with_reducible assumption)
    clear hK K;clear hHeld;have hHeld:=aa;clear aa
    (try simp only[zp])
    refine fM (by kernel_rfl) ?_ _;clear hHeld;go_wp2_with fail
    have q0:=HE1.cell 0 rfl;have q1:=HE1.cell 1 rfl;exact bodyPost_ret (v:=.agg #[.slice (some ⟨g1,0,none⟩) m m,.slice (some ⟨g2,0,none⟩) m m]) (by simp[results,Try.results91,go_sem,q0,q1]) rfl ⟨g1,g2,gI,gO,rfl,HE2.out,HE3.out,HE4.out⟩
   exact au.nil
  exact au.nil
 exact au.nil
theorem Cz {W:World} {B n G m c:Nat} {A:Option Addr} {vs:List Value} {R:Nat->List Int} (ho:W.ownsRow B 26 1 (.slice A m c) m vs) (h:cK W n G vs R m) (hn:n<=9223372036854775807):iA W A ((List.range m).map R)/\m<=c/\c<=9223372036854775807:=by
 refine⟨fun i hi=>?_,?_⟩
 ·have hi':i<m:=by simpa using hi
  have e:((List.range m).map R).getD i []=R i:=by simp[zg,hi']
  obtain⟨g,cap,hv,hb,hlt⟩:=ho.form (by omega)
  cases hv
  obtain⟨v,h1,gi,rfl,h3,h4,h5⟩:=h i hi';refine⟨_,rfl,hlt,some ⟨gi,0,none⟩,n,?_,?_,?_⟩
  ·rw[dN,e,h5,World.ownsRow.cellAt ho i (by omega)];exact h1
  ·rw[e,h5];exact⟨Nat.le_refl _,hn⟩
  ·rw[e];exact h4.ints
 ·rcases ho.2 with ⟨h0,h1⟩|⟨g',c',cur,hv,_,_,hc1,hc2,_⟩
  ·cases h0
   omega
  ·cases hv
   unfold maxLen at hc2;omega
def UD (N:Net) (LI LO:List (List Int)) (m k l:Nat) (w:World):Ending->World->Prop:=fun e w'=> ∃(b gs:Nat) (A AI AO:Option Addr) (c ci co:Nat),e=.returned (.pointer (some ⟨b,0,none⟩))/\Blk w' b 125 [.slice (some ⟨gs,0,none⟩) k k,.slice A l c,.slice AI m ci,.slice AO m co]/\dm w' (some ⟨gs,0,none⟩) A N/\(l<=c/\c<=9223372036854775807)/\(iA w' AI LI/\m<=ci/\ci<=9223372036854775807)/\(iA w' AO LO/\m<=co/\co<=9223372036854775807)/\Below w.heap.size w w'
theorem R76.p {S:Site} {cs:List Car} {w w':World} {e:Ending} {m k l:Nat} (hn:S.lim.length<=48) (hm:m=cs.length) (hk:k=bK S cs) (hl:l=(aQ S cs cs.length).length) (h:R76 S cs w e w'):UD (az S cs) ((List.range m).map (inR S cs)) ((List.range m).map (gX S cs)) m k l w e w':=by
 subst hk hl hm;obtain⟨b,rfl,gs,A,cap,AI,AO,ci,co,vi,vo,hJ,hRI,hRO⟩:=h;obtain⟨ha,hc⟩:=vI hJ.own rfl;have hb:=hJ.b;rw[eF]at hb;exact⟨b,gs,A,AI,AO,cap,ci,co,rfl,hb,⟨hJ.s.ints,ha⟩,hc,Cz hJ.oi hRI (by omega),Cz hJ.oo hRO (by omega),hJ.bel⟩
theorem RwJ.typ {n m g:Nat} {gI:Nat->Nat} {R:Nat->List Int} {W:World} (h:RwJ n m g gI R W) {p:Addr} {t:TypeId} {cs:List Value} (hb:Blk W p.block t cs) (h1:t≠22) (h2:t≠2) (u:Value):RwJ n m g gI R (W.setCell p u):=by
 obtain⟨cs',c1,_⟩:=h.b;exact h.other (fun e=>ae hb c1 h1 e) (fun i hi e=>ae hb (h.f i hi).1 h2 e) u
def qj (S:Site) (cs:List Car) (w:World) (e:Ending) (w':World):Prop:=
 (stE S cs≠0/\e=.returned (.tuple #[.agg #[.slice none 0 0,.slice none 0 0],.slice none 0 0,.int .i64 (stE S cs)]))∨
 (stE S cs=0/\e=.returned (.tuple #[.agg #[.slice none 0 0,.slice none 0 0],.slice none 0 0,.int .i64 18])/\ ∀T,plE S cs T≠0)∨
 (stE S cs=0/\ ∃(g1 g2 gp:Nat) (gI gO:Nat->Nat) (RI RO:Nat->List Int) (p:List Int),e=.returned (.tuple #[.agg #[.slice (some ⟨g1,0,none⟩) cs.length cs.length,.slice (some ⟨g2,0,none⟩) cs.length cs.length],.slice (some ⟨gp,0,none⟩) (bK S cs) (bK S cs),.int .i64 0])/\RwJ S.lim.length cs.length g1 gI RI w'/\RwJ S.lim.length cs.length g2 gO RO w'/\Fl 2 w' gp p/\p.length=bK S cs/\KJ S cs ⟨(List.range cs.length).map RI,(List.range cs.length).map RO⟩ p)
theorem LY (A B C D E:Option Addr) (S:Site) (cs:List Car) (n nB nC nD m cA cB cC cD cE:Nat) (w:World) (hn:n=S.lim.length) (hnB:nB=S.exp.length) (hnC:nC=S.buy.length) (hnD:nD=S.sell.length) (hm:m=cs.length)
 (hA:n<=cA/\cA<=9223372036854775807) (hB:nB<=cB/\cB<=9223372036854775807) (hC:nC<=cC/\cC<=9223372036854775807) (hD:nD<=cD/\cD<=9223372036854775807) (hE:m<=cE/\cE<=9223372036854775807)
 (hS:bH w A B C D S) (hcs:df w E cs):
 Calls Try.prog 50 #[.agg #[.slice A n cA,.slice B nB cB,.slice C nC cC,.slice D nD cD],.slice E m cE] w fun e w'=>qj S cs w e w'/\Below w.heap.size w w':=by
 obtain⟨u,hu⟩: ∃u,u=stE S cs:=⟨_,rfl⟩;obtain⟨k,hk⟩: ∃k,k=bK S cs:=⟨_,rfl⟩;obtain⟨l,hl⟩: ∃l,l=(aQ S cs cs.length).length:=⟨_,rfl⟩;have F36:Hid (∀V,Below w.heap.size w V->Calls Try.prog 36 #[.agg #[.slice A n cA,.slice B nB cB,.slice C nC cC,.slice D nD cD],.slice E m cE] V (fun e w'=>e=.returned (.int .i64 u)/\Below V.heap.size V w')):=zh (fun V hV=>by rw[hu];exact j3 A B C D E S cs n nB nC nD m cA cB cC cD cE V hn hnB hnC hnD hm hA hB hC hD hE (hS.below hV (Nat.le_refl _)) (hcs.below hV (Nat.le_refl _)));have F76:Hid (u=0-> ∀V,Below w.heap.size w V->Calls Try.prog 76 #[.agg #[.slice A n cA,.slice B nB cB,.slice C nC cC,.slice D nD cD],.slice E m cE] V (UD (az S cs) ((List.range m).map (inR S cs)) ((List.range m).map (gX S cs)) m k l V)):=zh (fun h V hV=>by
  have h0:=hu.symm.trans h;have h2:=aj.1 (aW h0).2.1;obtain rfl:nB=n:=by omega
  obtain rfl:nC=nB:=by omega
  obtain rfl:nD=nC:=by omega
  exact(Gs A B C D E S cs _ m cA cB cC cD cE V h0 hn hm hA hB hC hD hE (hS.below hV (Nat.le_refl _)) (hcs.below hV (Nat.le_refl _))).mono (fun _ _ h=>R76.p (by omega) hm hk hl h))
 have HP1:Hid (u≠0-> ∀w',qj S cs w (.returned (.tuple #[.agg #[.slice none 0 0,.slice none 0 0],.slice none 0 0,.int .i64 u])) w'):=zh (fun h w'=>.inl ⟨by rw[<-hu];exact h,by rw[hu]⟩);have HP2:Hid (u=0->(∀fl,ak (az S cs) fl=false)-> ∀w',qj S cs w (.returned (.tuple #[.agg #[.slice none 0 0,.slice none 0 0],.slice none 0 0,.int .i64 18])) w'):=zh (fun h h2 w'=>.inr (.inl ⟨hu.symm.trans h,rfl,wo h2⟩));have HP3:Hid (u=0-> ∀(g1 g2 gp:Nat) (fl p:List Int) gI gO w',ak (az S cs) fl=true->p.length=(az S cs).sup.length->(∀v,v<p.length->dX (p.getD v 0)=true)->aV (az S cs) fl (az S cs).arcs.length=prA (az S cs) p (az S cs).arcs.length->RwJ n m g1 gI (fun i=>bT (fun k=>rdF fl ((((List.range m).map (inR S cs)).getD i []).getD k 0)) n n) w'->RwJ n m g2 gO (fun i=>bT (fun k=>rdF fl ((((List.range m).map (gX S cs)).getD i []).getD k 0)) n n) w'->Fl 2 w' gp p->qj S cs w (.returned (.tuple #[.agg #[.slice (some ⟨g1,0,none⟩) m m,.slice (some ⟨g2,0,none⟩) m m],.slice (some ⟨gp,0,none⟩) k k,.int .i64 0])) w'):=zh (fun h g1 g2 gp fl p gI gO w' h1 h2 h3 h4 h5 h6 h7=>by
  have h0:=hu.symm.trans h;have hh:=(aj.1 (aW h0).2.1).1;subst hm hn hk;refine .inr (.inr ⟨h0,g1,g2,gp,gI,gO,fun i=>(inR S cs i).map (rdF fl),fun i=>(gX S cs i).map (rdF fl),p,rfl,?_,?_,h7,?_,Hw h0 h1 h2 h3 h4⟩)
  ·exact h5.of (fun i hi=>by rw[dU _ _ _ _ hi];exact(KL (S:=S) (cs:=cs) (i:=i) _ rfl).symm)
  ·exact h6.of (fun i hi=>by rw[dU _ _ _ _ hi];exact(KL (S:=S) (cs:=cs) (i:=i) _ rfl).symm)
  ·rw[h2];exact eF S cs)
 have F25:Hid (u=0-> ∀(gs:Nat) (M:Option Addr) (c:Nat) V,dm V (some ⟨gs,0,none⟩) M (az S cs)->(l<=c/\c<=9223372036854775807)->Calls Try.prog 25 #[.agg #[.slice (some ⟨gs,0,none⟩) k k,.slice M l c]] V (fun e w'=>((∃gf gp fl p,e=.returned (.tuple #[.slice (some ⟨gf,0,none⟩) l l,.slice (some ⟨gp,0,none⟩) k k,.int .i64 0])/\Fl 2 w' gf fl/\Fl 2 w' gp p/\fl.length=l/\ak (az S cs) fl=true/\p.length=(az S cs).sup.length/\(∀v,v<p.length->dX (p.getD v 0)=true)/\aV (az S cs) fl (az S cs).arcs.length=prA (az S cs) p (az S cs).arcs.length)∨(e=.returned (.tuple #[.slice none 0 0,.slice none 0 0,.int .i64 18])/\ ∀fl,ak (az S cs) fl=false))/\Below V.heap.size V w')):=zh (fun h gs M c V hV hc=>by
  have h0:=hu.symm.trans h;have hb:=dM h0;have ek:k=(az S cs).sup.length:=by rw[hk];exact(eF S cs).symm
  have el:l=(az S cs).arcs.length:=hl;refine(wU (some ⟨gs,0,none⟩) M (az S cs) k l k c V ek el ⟨Nat.le_refl _,by omega⟩ hc hV).mono ?_;rintro e w' ⟨hP,hbl⟩;refine⟨?_,hbl⟩
  rcases hP with ⟨hne,_⟩|⟨_,gf,gp,fl,p,rfl,z1,z2,_,_,z3,z4,z5,z6,z7⟩|⟨_,rfl,_,_,_,hno⟩
  ·exact absurd (jq h0) hne
  ·rw[<-ek,<-el]
   exact .inl ⟨gf,gp,fl,p,rfl,z1,z2,by rw[el];exact z3,z4,by rw[ek];exact z5,z6,by rw[el];exact z7⟩
  ·exact .inr ⟨rfl,hno⟩)
 have HKB:Hid (u=0->(1<=n/\n<=48)/\m<=8/\l<=1648):=zh (fun h=>by
  have h0:=hu.symm.trans h;have hh:=(aj.1 (aW h0).2.1).1;have h8:=(aW h0).1;have hlb:=uJ h0 cs.length (Nat.le_refl _);omega)
 have HIX:Hid (∀i k,i<m->k<n->(((List.range m).map (inR S cs)).getD i []).getD k 0<l/\(((List.range m).map (gX S cs)).getD i []).getD k 0<l):=zh (fun i k hi hk=>by
  rw[dU _ _ _ _ hi,dU _ _ _ _ hi];unfold inR gX;rw[vP (by omega),vP (by omega)];have:=Ur (S:=S) (cs:=cs) (i:=i) (k:=k) (by omega) (by omega);omega)
 have HRL:Hid (∀i,i<m->(((List.range m).map (inR S cs)).getD i []).length=n/\(((List.range m).map (gX S cs)).getD i []).length=n):=zh (fun i hi=>by
  rw[dU _ _ _ _ hi,dU _ _ _ _ hi];unfold inR gX;rw[fV,fV];omega)
 clear hn hnB hnC hnD hm hS hcs hu hk hl;generalize hPP:qj S cs w=PP at *;clear hPP;have WU:Hid (((List.range m).map (inR S cs)).length=m/\((List.range m).map (gX S cs)).length=m):=zh (by simp);generalize (List.range m).map (inR S cs)=LI at *;generalize (List.range m).map (gX S cs)=LO at *;have HLL:Hid (LI.length=m/\LO.length=m):=WU;have HB:=zh (((Below.refl w.heap.size w).alloc (Nat.le_refl _) (.cells #[.slice A n cA,.slice B nB cB,.slice C nC cC,.slice D nD cD] 51)).alloc (by simp) (.cells #[.slice none 0 0,.slice none 0 0] 55));have XS:=zh ((Blk.new' w #[.slice A n cA,.slice B nB cB,.slice C nC cC,.slice D nD cD] 51).alloc (.cells #[.slice none 0 0,.slice none 0 0] 55));have XR:=zh (show Blk ((w.alloc (.cells #[.slice A n cA,.slice B nB cB,.slice C nC cC,.slice D nD cD] 51)).alloc (.cells #[.slice none 0 0,.slice none 0 0] 55)) (w.heap.size+1) 55 [.slice none 0 0,.slice none 0 0]from by simpa using Blk.new' (w.alloc (.cells #[.slice A n cA,.slice B nB cB,.slice C nC cC,.slice D nD cD] 51)) #[.slice none 0 0,.slice none 0 0] 55);go_enter Try.func50,Try.ntmps50;go_upto_region 1 with fail
 generalize (w.alloc (.cells #[.slice A n cA,.slice B nB cB,.slice C nC cC,.slice D nD cD] 51)).alloc (.cells #[.slice none 0 0,.slice none 0 0] 55)=w1 at HB XS XR ⊢;have s0:=XS.cell 0 rfl;have s1:=XS.cell 1 rfl;have s2:=XS.cell 2 rfl;have s3:=XS.cell 3 rfl;have sl:=XS.lt;go_wp2_with fail
 refine(F36.out w1 HB.out).mono ?_;rintro e w2 ⟨rfl,hb⟩;clear s0 s1 s2 s3 sl;have XS:=zh (XS.below hb XS.lt);have XR:=zh (XR.below hb XR.lt);have HB:=zh (HB.trans (hb.mono HB.size));clear hb
 by_cases h0:u=0
 rotate_left
 ·have hb0:(u==0)=false:=by simpa using h0
  have HPX:=zh (HP1.out h0);clear h0;have r0:=XR.cell 0 rfl;have r1:=XR.cell 1 rfl;have rz:=XR.free 0;have rz1:=XR.free 1;have rl:=XR.lt;have R2:=zh ((XR.setCell 0 (.slice none 0 0)).setCell 1 (.slice none 0 0));have B2:=zh ((HB.setCell (p:=⟨w.heap.size+1,0,none⟩) (by simp) (.slice none 0 0)).setCell (p:=⟨w.heap.size+1,1,none⟩) (by simp) (.slice none 0 0));go_wp2_with fail
  have q0:=R2.cell 0 rfl;have q1:=R2.cell 1 rfl;exact bodyPost_ret (v:=.tuple #[.agg #[.slice none 0 0,.slice none 0 0],.slice none 0 0,.int .i64 u]) (by simp[results,Try.results50,go_sem,q0,q1]) rfl ⟨HPX.out _,B2.out⟩
 have Ph:=zh (HP2.out h0);have Rn:=zh (HP3.out h0);have WV:=zh (F76.out h0);have WW:=zh (F25.out h0);have WX:=zh (HKB.out h0);clear HP1 HP2 HP3 F76 F25 HKB;subst h0;have s0:=XS.cell 0 rfl;have s1:=XS.cell 1 rfl;have s2:=XS.cell 2 rfl;have s3:=XS.cell 3 rfl;have sl:=XS.lt;go_wp2_with fail
 refine(WV.out w2 HB.out).mono ?_;rintro e w3 ⟨b,gs,M,AI,AO,c,ci,co,rfl,hX,hNA,hc,hRI,hRO,hb⟩;clear s0 s1 s2 s3 sl XS;have XR:=zh (XR.below hb XR.lt);have HB:=zh (HB.trans (hb.mono HB.size));clear hb;have XB:=zh hX;have HNA:=zh hNA;have HC:=zh hc;have HRI:=zh hRI;have HRO:=zh hRO;clear hX hNA hc hRI hRO;have b0:=XB.cell 0 rfl;have b1:=XB.cell 1 rfl;have bl:=XB.lt;go_wp2_with fail
 refine(WW.out gs M c w3 HNA.out HC.out).mono ?_;rintro e w4 ⟨hP,hb⟩;clear b0 b1 bl;have WY:=zh (HRI.1.below hb (Nat.le_refl _));have WZ:=zh (HRO.1.below hb (Nat.le_refl _));have XR:=zh (XR.below hb XR.lt);have XB:=zh (XB.below hb XB.lt);have HB:=zh (HB.trans (hb.mono HB.size));clear hb
 rcases hP with ⟨gf,gp,fl,p,rfl,z1,z2,z3,z4,z5,z6,z7⟩|⟨rfl,hno⟩
 rotate_left
 ·have HPX:=zh (Ph.out hno)
  clear hno;have r0:=XR.cell 0 rfl;have r1:=XR.cell 1 rfl;have rz:=XR.free 0;have rz1:=XR.free 1;have rl:=XR.lt;have R2:=zh ((XR.setCell 0 (.slice none 0 0)).setCell 1 (.slice none 0 0));have B2:=zh ((HB.setCell (p:=⟨w.heap.size+1,0,none⟩) (by simp) (.slice none 0 0)).setCell (p:=⟨w.heap.size+1,1,none⟩) (by simp) (.slice none 0 0));go_wp2_with fail
  have q0:=R2.cell 0 rfl;have q1:=R2.cell 1 rfl;exact bodyPost_ret (v:=.tuple #[.agg #[.slice none 0 0,.slice none 0 0],.slice none 0 0,.int .i64 18]) (by simp[results,Try.results50,go_sem,q0,q1]) rfl ⟨HPX.out _,B2.out⟩
 have HPX:=zh (fun g1 g2 gI gO w' h5 h6 h7=>Rn.out g1 g2 gp fl p gI gO w' z4 z5 z6 z7 h5 h6 h7);have HZ1:=zh z1;have HZ2:=zh z2;have HZ3:=zh z3;have hkb:=WX.out;clear z1 z2 z3 z4 z5 z6 z7;go_wp2_with fail
 refine(Pg AI AO (some ⟨gf,0,none⟩) LI LO fl m ci co n l l b _ _ w4 HLL.1.symm HLL.2.symm (by omega) (by omega) HRI.2 HRO.2 WY.out WZ.out (fun i hi=>(HRL.out i hi).1) (fun i hi=>(HRL.out i hi).2) XB.out HZ3.symm (by omega) ⟨Nat.le_refl _,by omega⟩ HZ1.ints (fun i k hi hk=>by rw[HZ3.out];exact(HIX.out i k hi hk).1) (fun i k hi hk=>by rw[HZ3.out];exact(HIX.out i k hi hk).2)).mono ?_;rintro e w5 ⟨g1,g2,gI,gO,rfl,hr1,hr2,hb⟩;have HZ5:=zh (HZ2.below hb);have XR:=zh (XR.below hb XR.lt);have HB:=zh (HB.trans (hb.mono HB.size));clear hb;have NE: ∀{t:TypeId} {g:Nat} {xs:List Value},Blk w5 g t xs->t≠55->g≠w.heap.size+1:=fun h1 h2 e=>by subst e;exact ae h1 XR.out h2 rfl
 have NR: ∀{g:Nat} {gI:Nat->Nat} {R:Nat->List Int},RwJ n m g gI R w5->RwJ n m g gI R ((w5.setCell ⟨w.heap.size+1,0,none⟩ (.slice (some ⟨g1,0,none⟩) m m)).setCell ⟨w.heap.size+1,1,none⟩ (.slice (some ⟨g2,0,none⟩) m m)):=fun h=>by
  obtain⟨cs,c1,c2⟩:=h.b;have n1:=NE c1 (by decide);have n2:=fun i hi=>NE (h.f i hi).1 (by decide)
  exact(h.other (p:=⟨w.heap.size+1,0,none⟩) n1 n2 _).other (p:=⟨w.heap.size+1,1,none⟩) n1 n2 _
 have HPY:=zh (HPX.out g1 g2 gI gO _ (NR hr1) (NR hr2) ((HZ5.set_ne (p:=⟨w.heap.size+1,0,none⟩) (NE HZ5.out (by decide)) (.slice (some ⟨g1,0,none⟩) m m)).set_ne (p:=⟨w.heap.size+1,1,none⟩) (NE HZ5.out (by decide)) (.slice (some ⟨g2,0,none⟩) m m)));clear NE NR hr1 hr2;have r0:=XR.cell 0 rfl;have r1:=XR.cell 1 rfl;have rz:=XR.free 0;have rz1:=XR.free 1;have rl:=XR.lt;have R2:=zh ((XR.setCell 0 (.slice (some ⟨g1,0,none⟩) m m)).setCell 1 (.slice (some ⟨g2,0,none⟩) m m));have B2:=zh ((HB.setCell (p:=⟨w.heap.size+1,0,none⟩) (by simp) (.slice (some ⟨g1,0,none⟩) m m)).setCell (p:=⟨w.heap.size+1,1,none⟩) (by simp) (.slice (some ⟨g2,0,none⟩) m m));go_wp2_with fail
 have q0:=R2.cell 0 rfl;have q1:=R2.cell 1 rfl;exact bodyPost_ret (v:=.tuple #[.agg #[.slice (some ⟨g1,0,none⟩) m m,.slice (some ⟨g2,0,none⟩) m m],.slice (some ⟨gp,0,none⟩) k k,.int .i64 0]) (by simp[results,Try.results50,go_sem,q0,q1]) rfl ⟨HPY.out,B2.out⟩
def cpK (S:Site) (most:Int) (k:Nat):List Int:=(List.range S.lim.length).map fun i=>if i<k then min (S.lim.getD i 0) most else S.lim.getD i 0
theorem Pj (S:Site) (most:Int) (k:Nat):(cpK S most k).length=S.lim.length:=by simp[cpK]
theorem UE (S:Site) (most:Int):cpK S most 0=S.lim:=by
 apply List.ext_getElem
 ·simp[cpK]
 ·intro i h1 h2
  simp[cpK,zg,h2]
theorem Pk {S:Site} {most:Int} {k i:Nat} (hi:i<S.lim.length):(cpK S most k).getD i 0=if i<k then min (S.lim.getD i 0) most else S.lim.getD i 0:=by
 simp[cpK,zg,hi]
theorem Pm {S:Site} {most:Int} {k:Nat} (hk:k<S.lim.length):(cpK S most k).set k (min (S.lim.getD k 0) most)=cpK S most (k+1):=by
 apply List.ext_getElem
 ·simp[cpK]
 ·intro i h1 h2
  rw[List.getElem_set];simp only[cpK,List.getElem_map,List.getElem_range]
  by_cases e:k=i
  ·subst e;simp
  ·rw[if_neg e]
   by_cases h:i<k
   ·rw[if_pos h,if_pos (by omega)]
   ·rw[if_neg h,if_neg (by omega)]
theorem Pn (S:Site) (most:Int):cpK S most S.lim.length=cpL S most S.lim.length:=by
 unfold cpK cpL;exact List.map_congr_left fun x hx=>by rw[if_pos (by simpa using hx)]
theorem CE (A B C D:Option Addr) (S:Site) (most:Int) (n nB nC nD cA cB cC cD:Nat) (w:World) (hn:n=S.lim.length) (h60:n<=1024) (h1:1<=n)
 (hA:n<=cA/\cA<=9223372036854775807) (hS:aH w A S.lim):
 Calls Try.prog 90 #[.agg #[.slice A n cA,.slice B nB cB,.slice C nC cC,.slice D nD cD],.int .i64 most] w fun e w'=> ∃(G:Option Addr) (c:Nat),e=.returned (.agg #[.slice G n c,.slice B nB cB,.slice C nC cC,.slice D nD cD])/\(n<=c/\c<=9223372036854775807)/\w'.ownsRow w.heap.size 2 1 (.slice G n c) n ((cpL S most n).map (.int .i64))/\Below w.heap.size w w':=by
 have HN:=zh hn;have HS:=zh hS;clear hn hS;obtain⟨i2,h2i,h2z,h2s,h2b⟩:=info_parts pU;have HB:=zh (((Below.refl w.heap.size w).alloc (Nat.le_refl _) (.cells #[.slice A n cA,.slice B nB cB,.slice C nC cC,.slice D nD cD] 51)).alloc (by simp) (.cells #[.slice none 0 0,.slice none 0 0,.slice none 0 0,.slice none 0 0] 51));have XS:=zh ((Blk.new' w #[.slice A n cA,.slice B nB cB,.slice C nC cC,.slice D nD cD] 51).alloc (.cells #[.slice none 0 0,.slice none 0 0,.slice none 0 0,.slice none 0 0] 51));have XR:=zh (show Blk ((w.alloc (.cells #[.slice A n cA,.slice B nB cB,.slice C nC cC,.slice D nD cD] 51)).alloc (.cells #[.slice none 0 0,.slice none 0 0,.slice none 0 0,.slice none 0 0] 51)) (w.heap.size+1) 51 [.slice none 0 0,.slice none 0 0,.slice none 0 0,.slice none 0 0]from by simpa using Blk.new' (w.alloc (.cells #[.slice A n cA,.slice B nB cB,.slice C nC cC,.slice D nD cD] 51)) #[.slice none 0 0,.slice none 0 0,.slice none 0 0,.slice none 0 0] 51);go_enter Try.func90,Try.ntmps90;go_upto_region 1 with fail
 generalize (w.alloc (.cells #[.slice A n cA,.slice B nB cB,.slice C nC cC,.slice D nD cD] 51)).alloc (.cells #[.slice none 0 0,.slice none 0 0,.slice none 0 0,.slice none 0 0] 51)=w1 at HB XS XR ⊢;have s0:=XS.cell 0 rfl;have sz:=XS.free 0;have sl:=XS.lt;go_wp2_with fail
 refine(rC A S.lim n cA w1 HN.out h1 (by omega) (HS.below HB.out (Nat.le_refl _))).mono ?_;rintro e w2 ⟨g,c,rfl,hb,hg1,hg2,hO⟩;have HLT:Hid (w.heap.size+1<w1.heap.size):=zh XR.lt;have HG:Hid (w1.heap.size<=g):=zh hg1;have hc:n<=c/\c<=9223372036854775807:=by
  have hO2:=hO;unfold dI at hO2
  rcases hO2.2 with ⟨h0,_⟩|⟨g',c',cur,hv,_,_,hc1,hc2,_⟩
  ·cases h0
  ·cases hv
   unfold maxLen at hc2;rw[HN.out];omega
 have HC:=zh hc;have X0:=XS.below hb XS.lt;have HJ0:Hid (Below w.heap.size w (w2.setCell ⟨w.heap.size,0,none⟩ (.slice (some ⟨g,0,none⟩) n c))/\Blk (w2.setCell ⟨w.heap.size,0,none⟩ (.slice (some ⟨g,0,none⟩) n c)) w.heap.size 51 [.slice (some ⟨g,0,none⟩) n c,.slice B nB cB,.slice C nC cC,.slice D nD cD]/\Blk (w2.setCell ⟨w.heap.size,0,none⟩ (.slice (some ⟨g,0,none⟩) n c)) (w.heap.size+1) 51 [.slice none 0 0,.slice none 0 0,.slice none 0 0,.slice none 0 0]/\dI w1.heap.size (w2.setCell ⟨w.heap.size,0,none⟩ (.slice (some ⟨g,0,none⟩) n c)) g c (cpK S most 0)):=zh ⟨(HB.trans (hb.mono HB.size)).setCell (p:=⟨w.heap.size,0,none⟩) (Nat.le_refl _) _,X0.setCell 0 _,(XR.below hb XR.lt).setCell_ne (p:=⟨w.heap.size,0,none⟩) (by simp) _,by rw[UE];exact bI (p:=⟨w.heap.size,0,none⟩) hO (aF (g:=w.heap.size) X0 hO (by decide)) _⟩;have HX0:=zh X0;clear s0 sz sl hc hO hb hg1 hg2 X0 XR XS HB;have s0:=HX0.cell 0 rfl;have sz:=HX0.free 0;have sl:=HX0.lt;go_upto_region 2 with fail
 clear s0 sz sl HX0;generalize w2.setCell ⟨w.heap.size,0,none⟩ (.slice (some ⟨g,0,none⟩) n c)=w3 at HJ0 ⊢;have s0:=HJ0.2.1.cell 0 rfl;have sl:=HJ0.2.1.lt;go_wp2_with fail
 clear s0 sl
 go_loopw [14] (fun iv wr=> ∃k:Nat,k<=n/\iv=.int .i64 k/\Hid (Below w.heap.size w wr/\Blk wr w.heap.size 51 [.slice (some ⟨g,0,none⟩) n c,.slice B nB cB,.slice C nC cC,.slice D nD cD]/\Blk wr (w.heap.size+1) 51 [.slice none 0 0,.slice none 0 0,.slice none 0 0,.slice none 0 0]/\dI w1.heap.size wr g c (cpK S most k))) (fun iv _=>n-(intOf iv).toNat)
 case atStart=>exact⟨0,Nat.zero_le _,rfl,HJ0⟩
 case round=>
  clear HJ0;obtain⟨k,hk,rfl,HJ⟩:=hrel;have s0:=HJ.2.1.cell 0 rfl;have sl:=HJ.2.1.lt;have hcc:=HC.out
  by_cases hlt:k<n
  ·have hki:(k:Int)<(n:Int):=by omega
   have kS:k<S.lim.length:=by rw[<-HN.out];exact hlt
   have HX:=zh (Pm (most:=most) kS);have g0:=HJ.2.2.2.cell k (by rw[Pj];exact kS);have gz:=HJ.2.2.2.free k;have gl:=HJ.2.2.2.lt.2;rw[Pk kS,if_neg (Nat.lt_irrefl k)]at g0;generalize S.lim.getD k 0=x at *;obtain⟨mv,hmv⟩: ∃mv,mv=min x most:=⟨_,rfl⟩;have gm:(if most<x then most else x)=mv:=by rw[nS,hmv]
   rw[<-hmv]at HX;clear hmv;have hg1:=HG.out;have hl1:=HLT.out;have HE:Hid (Below w.heap.size w (wr.setCell ⟨g,k,none⟩ (.int .i64 mv))/\Blk (wr.setCell ⟨g,k,none⟩ (.int .i64 mv)) w.heap.size 51 [.slice (some ⟨g,0,none⟩) n c,.slice B nB cB,.slice C nC cC,.slice D nD cD]/\Blk (wr.setCell ⟨g,k,none⟩ (.int .i64 mv)) (w.heap.size+1) 51 [.slice none 0 0,.slice none 0 0,.slice none 0 0,.slice none 0 0]/\dI w1.heap.size (wr.setCell ⟨g,k,none⟩ (.int .i64 mv)) g c (cpK S most (k+1))):=zh ⟨HJ.1.setCell (p:=⟨g,k,none⟩) (by simp;omega) _,HJ.2.1.setCell_ne (p:=⟨g,k,none⟩) (by simp;omega) _,HJ.2.2.1.setCell_ne (p:=⟨g,k,none⟩) (by simp;omega) _,by rw[<-HX.out];exact HJ.2.2.2.put k mv⟩;clear hg1 hl1;go_wp2_with fail
   exact⟨⟨k+1,by omega,by go_num,HE⟩,by simp[intOf];omega⟩
  ·obtain rfl:n=k:=by omega
   have s1:=HJ.2.1.cell 1 rfl;have s2:=HJ.2.1.cell 2 rfl;have s3:=HJ.2.1.cell 3 rfl;have r0:=HJ.2.2.1.cell 0 rfl;have r1:=HJ.2.2.1.cell 1 rfl;have r2:=HJ.2.2.1.cell 2 rfl;have r3:=HJ.2.2.1.cell 3 rfl;have rz:=HJ.2.2.1.free 0;have rz1:=HJ.2.2.1.free 1;have rz2:=HJ.2.2.1.free 2;have rz3:=HJ.2.2.1.free 3;have rl:=HJ.2.2.1.lt;have O1:=HJ.2.2.2;have R0:=HJ.2.2.1;have O2:=bI (p:=⟨w.heap.size+1,0,none⟩) O1 (aF (g:=w.heap.size+1) R0 O1 (by decide)) (.slice (some ⟨g,0,none⟩) n c);have R1:=R0.setCell 0 (.slice (some ⟨g,0,none⟩) n c);have O3:=bI (p:=⟨w.heap.size+1,1,none⟩) O2 (aF (g:=w.heap.size+1) R1 O2 (by decide)) (.slice B nB cB);have R2:=R1.setCell 1 (.slice B nB cB);have O4:=bI (p:=⟨w.heap.size+1,2,none⟩) O3 (aF (g:=w.heap.size+1) R2 O3 (by decide)) (.slice C nC cC);have R3:=R2.setCell 2 (.slice C nC cC);have O5:=pJ (bI (p:=⟨w.heap.size+1,3,none⟩) O4 (aF (g:=w.heap.size+1) R3 O4 (by decide)) (.slice D nD cD)) (show w.heap.size<=w1.heap.size by have:=HLT.out;omega);have R4:=zh (R3.setCell 3 (.slice D nD cD));have B5:=zh ((((HJ.1.setCell (p:=⟨w.heap.size+1,0,none⟩) (Nat.le_succ _) (.slice (some ⟨g,0,none⟩) n c)).setCell (p:=⟨w.heap.size+1,1,none⟩) (Nat.le_succ _) (.slice B nB cB)).setCell (p:=⟨w.heap.size+1,2,none⟩) (Nat.le_succ _) (.slice C nC cC)).setCell (p:=⟨w.heap.size+1,3,none⟩) (Nat.le_succ _) (.slice D nD cD));rw[show cpK S most n=cpL S most n by rw[HN.out];exact Pn S most,r9]at O5;have O6:=zh O5;clear O1 R0 O2 R1 O3 R2 O4 R3 O5;go_wp2_with fail
   have q0:=R4.cell 0 rfl;have q1:=R4.cell 1 rfl;have q2:=R4.cell 2 rfl;have q3:=R4.cell 3 rfl;exact bodyPost_ret (v:=.agg #[.slice (some ⟨g,0,none⟩) n c,.slice B nB cB,.slice C nC cC,.slice D nD cD]) (by simp[results,Try.results90,go_sem,q0,q1,q2,q3]) rfl ⟨some ⟨g,0,none⟩,c,rfl,hcc,O6.out,B5.out⟩
def MsV (N:Net) (w:World) (e:Ending) (w':World):Prop:=
 (e=.returned (.slice none 0 0)/\ ∃fl,ak N fl=true)∨
 ∃(g c k:Nat) (cut:List Int),k=cut.length/\e=.returned (.slice (some ⟨g,0,none⟩) k c)/\w'.ownsRow w.heap.size 3 1 (.slice (some ⟨g,0,none⟩) k c) k (cut.map (.int .i64))/\(k<=c/\c<=9223372036854775807)/\k<=1024/\(∀j,j<cut.length->cutAt N.sup.length cut j=true)/\0<lkA N cut N.arcs.length/\ ∀fl,ak N fl=false
theorem MsV.mono {N:Net} {w V w':World} {e:Ending} (h:MsV N V e w') (hb:w.heap.size<=V.heap.size):MsV N w e w':=by
 rcases h with h|⟨g,c,k,cut,h1,h2,h3,h4⟩
 ·exact .inl h
 ·exact .inr ⟨g,c,k,cut,h1,h2,iZ h3 hb,h4⟩
def MsU (N:Net) (w:World) (e:Ending) (w':World):Prop:=(∃v x y,e=.returned (.tuple #[v,.int .i64 x,.int .i64 y])/\MsV N w (.returned v) w')/\Below w.heap.size w w'
theorem EW.u {N:Net} {w w':World} {e:Ending} (h:EW N w e w') (h0:chE N=0) (hb:Below w.heap.size w w'):MsU N w e w':=by
 refine⟨?_,hb⟩
 rcases h with ⟨h1,_⟩|⟨_,rfl,h2⟩|⟨_,g,c,cut,rfl,h1,h2,h3,h4,h5⟩
 ·exact absurd h0 h1
 ·exact⟨_,_,_,rfl,.inl ⟨rfl,h2⟩⟩
 ·exact⟨_,_,_,rfl,.inr ⟨g,c,cut.length,cut,rfl,rfl,h1,BA h1,h2,h3,h4,h5⟩⟩
theorem Ic (A B C D E:Option Addr) (S:Site) (cs:List Car) (n m cA cB cC cD cE b1 b2:Nat) (most:Int) (w:World) (h0:stE S cs=0) (hp:0<=most) (hn:n=S.lim.length) (hm:m=cs.length)
 (hA:n<=cA/\cA<=9223372036854775807) (hB:n<=cB/\cB<=9223372036854775807) (hC:n<=cC/\cC<=9223372036854775807) (hD:n<=cD/\cD<=9223372036854775807) (hE:m<=cE/\cE<=9223372036854775807)
 (hS:bH w A B C D S) (hcs:df w E cs) (hb1:Blk w b1 51 [.slice A n cA,.slice B n cB,.slice C n cC,.slice D n cD]) (hb2:Blk w b2 52 [.slice E m cE]):
 Calls Try.prog 92 #[.int .i64 most,.pointer (some ⟨b1,0,none⟩),.pointer (some ⟨b2,0,none⟩)] w fun e w'=>MsV (az (cpS S most) cs) w e w'/\Below w.heap.size w w':=by
 have h48:=(aj.1 (aW h0).2.1).1;have hok:=mP (most:=most) h0 hp;obtain⟨N,hN⟩: ∃N,N=az (cpS S most) cs:=⟨_,rfl⟩;obtain⟨k,hk⟩: ∃k,k=N.sup.length:=⟨_,rfl⟩;obtain⟨l,hl⟩: ∃l,l=N.arcs.length:=⟨_,rfl⟩;have FX:Hid (∀V,Below w.heap.size w V->Calls Try.prog 90 #[.agg #[.slice A n cA,.slice B n cB,.slice C n cC,.slice D n cD],.int .i64 most] V (fun e w'=> ∃(G:Option Addr) (c:Nat),e=.returned (.agg #[.slice G n c,.slice B n cB,.slice C n cC,.slice D n cD])/\(n<=c/\c<=9223372036854775807)/\bH w' G B C D (cpS S most)/\Below V.heap.size V w')):=zh (fun V hV=>by
  refine(CE A B C D S most n n n n cA cB cC cD V hn (by omega) (by omega) hA (hS.below hV (Nat.le_refl _)).1).mono ?_;rintro e w' ⟨G,c,rfl,hc,hO,hb⟩;exact⟨G,c,rfl,hc,((hS.below hV (Nat.le_refl _)).below hb (Nat.le_refl _)).capped hn hO,hb⟩)
 have FB:Hid (∀(G:Option Addr) (c:Nat) V,Below w.heap.size w V->(n<=c/\c<=9223372036854775807)->bH V G B C D (cpS S most)->Calls Try.prog 76 #[.agg #[.slice G n c,.slice B n cB,.slice C n cC,.slice D n cD],.slice E m cE] V (Ri N k l V)):=zh (fun G c V hV hc hSV=>(Gs G B C D E (cpS S most) cs _ m c cB cC cD cE V hok (by rw[kz];exact hn) hm hc hB hC hD hE hSV (hcs.below hV (Nat.le_refl _))).mono (fun _ _ h=>R76.v hN hk hl h));have FM:Hid (∀(gs:Nat) (M:Option Addr) (c:Nat) V,dm V (some ⟨gs,0,none⟩) M N->(l<=c/\c<=9223372036854775807)->Calls Try.prog 28 #[.agg #[.slice (some ⟨gs,0,none⟩) k k,.slice M l c]] V (MsU N V)):=zh (fun gs M c V hV hc=>by
  have hch:chE N=0:=by rw[hN];exact jq hok
  refine(G8 (some ⟨gs,0,none⟩) M N k l k c V hk hl ⟨Nat.le_refl _,?_⟩ hc hV).mono (fun _ _ h=>h.1.u hch h.2);have:=(bV hch).2.1;omega)
 have RD:Hid (∀W,Below w.heap.size w W->(W.cell? ⟨b1,0,none⟩=some (.slice A n cA)/\W.cell? ⟨b1,1,none⟩=some (.slice B n cB)/\W.cell? ⟨b1,2,none⟩=some (.slice C n cC)/\W.cell? ⟨b1,3,none⟩=some (.slice D n cD))/\W.cell? ⟨b2,0,none⟩=some (.slice E m cE)/\b1<W.heap.size):=zh (fun W h=>by
  have x1:=hb1.below h hb1.lt;have x2:=hb2.below h hb2.lt;exact⟨⟨x1.cell 0 rfl,x1.cell 1 rfl,x1.cell 2 rfl,x1.cell 3 rfl⟩,x2.cell 0 rfl,x1.lt⟩)
 have HT:=zh (Below.refl w.heap.size w);have HT:=zh (HT.drew);rw[<-hN];clear hb1 hb2 hS hcs hn hm hok hN hk hl h0 hp;go_enter Try.func92,Try.ntmps92;go_upto_region 1 with fail
 refine kF (S:=fun _ W=>((W.cell? ⟨b1,0,none⟩=some (.slice A n cA)/\W.cell? ⟨b1,1,none⟩=some (.slice B n cB)/\W.cell? ⟨b1,2,none⟩=some (.slice C n cC)/\W.cell? ⟨b1,3,none⟩=some (.slice D n cD))/\W.cell? ⟨b2,0,none⟩=some (.slice E m cE)/\b1<W.heap.size)) (by kernel_rfl) ?_ (fun hHeld=>?_)
 ·(try dsimp only);(first|with_reducible exact RD.out _ HT.out|with_reducible assumption)
 refine lTk 0 ?_ ?_ (fun aa=>?_);rotate_left 1
 ·(intro L W _ _ hSw;(try dsimp only at hSw);first|(go_simp;done)|(go_simp;with_reducible rfl))
 clear hHeld;have hHeld:=aa;clear aa
 (try simp only[zp])
 refine lTk 1 ?_ ?_ (fun aa=>?_);rotate_left 1
 ·(intro _ _ _ _ _;first|(go_simp;done)|(go_simp;with_reducible rfl))
 clear hHeld;have hHeld:=aa;clear aa
 (try simp only[zp])
 refine lTk 3 ?_ ?_ (fun aa=>?_);rotate_left 1
 ·(intro L W _ _ hSw;(try dsimp only at hSw);first|(go_simp;done)|(go_simp;with_reducible rfl))
 clear hHeld;have hHeld:=aa;clear aa
 (try simp only[zp])
 refine ay (rs:=[2]) (by kernel_rfl) (by simp) ?_;refine au.cons (i:=2) rfl (fun K hK=>?_) ?_
 ·go_simp;(refine(FX.out _ HT.out).mono ?_;rintro e w2 ⟨G,c,rfl,hc,hSA,hb⟩;have HT:=zh (HT.trans (hb.mono HT.size));have HC:=zh hc;have HSA:=zh hSA;clear hb hc hSA)
  (try go_wp2_with fail)
  refine hK.out _ _ ?_ (fun aa=>?_)
  ·(try dsimp only);(first|with_reducible exact RD.out _ HT.out|with_reducible assumption)
  clear hK K;clear hHeld;have hHeld:=aa;clear aa
  (try simp only[zp])
  refine ay (rs:=[4]) (by kernel_rfl) (by simp) ?_;refine au.cons (i:=4) rfl (fun K hK=>?_) ?_
  ·go_simp;(refine(FB.out G c _ HT.out HC.out HSA.out).mono ?_;rintro e w3 ⟨b,gs,M,c4,v2,v3,rfl,hX,hNA,hc4,hb⟩;have HT:=zh (HT.trans (hb.mono HT.size));have XB:=zh hX;have HNA:=zh hNA;have HC4:=zh hc4;clear hb hX hNA hc4)
   (try go_wp2_with fail)
   refine hK.out _ _ ?_ (fun aa=>?_)
   ·(try dsimp only);(first|with_reducible exact RD.out _ HT.out|with_reducible assumption)
   clear hK K;clear hHeld;have hHeld:=aa;clear aa
   (try simp only[zp])
   refine lTk 5 ?_ ?_ (fun aa=>?_);rotate_left 1
   ·(intro _ _ _ _ _;first|(go_simp;done)|(go_simp;with_reducible rfl))
   clear hHeld;have hHeld:=aa;clear aa
   (try simp only[zp])
   refine lTk 6 ?_ ?_ (fun aa=>?_);rotate_left 1
   ·(intro _ _ _ _ _;first|(go_simp;done)|(go_simp;with_reducible rfl))
   clear hHeld;have hHeld:=aa;clear aa
   (try simp only[zp])
   refine ay (rs:=[7]) (by kernel_rfl) (by simp) ?_;refine au.cons (i:=7) rfl (fun K hK=>?_) ?_
   ·(have y0:=XB.cell 0 rfl;have y1:=XB.cell 1 rfl;have yl:=XB.lt;go_simp)
    (try go_wp2_with fail)
    refine hK.out _ _ ?_ (fun aa=>?_)
    ·(try dsimp only);(first|with_reducible exact RD.out _ HT.out|with_reducible assumption)
    clear hK K;clear hHeld;have hHeld:=aa;clear aa
    (try simp only[zp])
    refine ay (rs:=[8]) (by kernel_rfl) (by simp) ?_;refine au.cons (i:=8) rfl (fun K hK=>?_) ?_
    ·go_simp;(refine(FM.out gs M c4 _ HNA.out HC4.out).mono ?_;rintro e w4 ⟨⟨v,x,y,rfl,hV⟩,hb⟩;have HV:=zh (hV.mono HT.size);have HT:=zh (HT.trans (hb.mono HT.size));clear hb hV)
     (try go_wp2_with fail)
     refine hK.out _ _ ?_ (fun aa=>?_)
     ·(try dsimp only);(first|with_reducible exact RD.out _ HT.out|with_reducible assumption)
     clear hK K;clear hHeld;have hHeld:=aa;clear aa
     (try simp only[zp])
     refine lTk 9 ?_ ?_ (fun aa=>?_);rotate_left 1
     ·(intro _ _ _ _ _;first|(go_simp;done)|(go_simp;with_reducible rfl))
     clear hHeld;have hHeld:=aa;clear aa
     (try simp only[zp])
     refine lTk 10 ?_ ?_ (fun aa=>?_);rotate_left 1
     ·(intro _ _ _ _ _;first|(go_simp;done)|(go_simp;with_reducible rfl))
     clear hHeld;have hHeld:=aa;clear aa
     (try simp only[zp])
     refine lTk 11 ?_ ?_ (fun aa=>?_);rotate_left 1
     ·(intro _ _ _ _ _;first|(go_simp;done)|(go_simp;with_reducible rfl))
     clear hHeld;have hHeld:=aa;clear aa
     (try simp only[zp])
     refine lTk 12 ?_ ?_ (fun aa=>?_);rotate_left 1
     ·(intro _ _ _ _ _;first|(go_simp;done)|(go_simp;with_reducible rfl))
     clear hHeld;have hHeld:=aa;clear aa
     (try simp only[zp])
     refine lTk 13 ?_ ?_ (fun aa=>?_);rotate_left 1
     ·(intro _ _ _ _ _;first|(go_simp;done)|(go_simp;with_reducible rfl))
     clear hHeld;have hHeld:=aa;clear aa
     (try simp only[zp])
     refine lTk 14 ?_ ?_ (fun aa=>?_);rotate_left 1
     ·(intro _ _ _ _ _;first|(go_simp;done)|(go_simp;with_reducible rfl))
     clear hHeld;have hHeld:=aa;clear aa
     (try simp only[zp])
     refine lTk 15 ?_ ?_ (fun aa=>?_);rotate_left 1
     ·(intro _ _ _ _ _;first|(go_simp;done)|(go_simp;with_reducible rfl))
     clear hHeld;have hHeld:=aa;clear aa
     (try simp only[zp])
     refine fM (by kernel_rfl) ?_ _;clear hHeld;go_wp2_with fail
     go_ret;exact⟨HV.out,HT.out⟩
    exact au.nil
   exact au.nil
  exact au.nil
 exact au.nil
def qm (S:Site) (cs:List Car) (w:World) (e:Ending) (w':World):Prop:=
 (stE S cs≠0/\e=.returned (.tuple #[.int .i64 0,.agg #[.slice none 0 0,.slice none 0 0],.slice none 0 0,.int .i64 (stE S cs)]))∨
 (stE S cs=0/\e=.returned (.tuple #[.int .i64 0,.agg #[.slice none 0 0,.slice none 0 0],.slice none 0 0,.int .i64 18])/\ ∀T,plE S cs T≠0)∨
 (stE S cs=0/\ ∃(pk:Int) (g1 g2:Nat) (gI gO:Nat->Nat) (RI RO:Nat->List Int) (Y:Option Addr) (y cY:Nat) (cut:List Int),e=.returned (.tuple #[.int .i64 pk,.agg #[.slice (some ⟨g1,0,none⟩) cs.length cs.length,.slice (some ⟨g2,0,none⟩) cs.length cs.length],.slice Y y cY,.int .i64 0])/\RwJ S.lim.length cs.length g1 gI RI w'/\RwJ S.lim.length cs.length g2 gO RO w'/\y=cut.length/\aH w' Y cut/\(y<=cY/\cY<=9223372036854775807)/\LQ S cs pk ⟨(List.range cs.length).map RI,(List.range cs.length).map RO⟩ cut)
def Po (S:Site) (cs:List Car) (l:Int) (cut:List Int):Prop:=(l=0->cut=[])/\(0<l->(∀k,k<cut.length->cutAt (az (cpS S (l-1)) cs).sup.length cut k=true)/\0<lkA (az (cpS S (l-1)) cs) cut (az (cpS S (l-1)) cs).arcs.length/\ ∀fl,ak (az (cpS S (l-1)) cs) fl=false)
def FlW (S:Site) (cs:List Car) (x:Int):Prop:= ∃fl,ak (az (cpS S x) cs) fl=true
theorem Ro (A B C D E:Option Addr) (S:Site) (cs:List Car) (n nB nC nD m cA cB cC cD cE:Nat) (w:World) (hn:n=S.lim.length) (hnB:nB=S.exp.length) (hnC:nC=S.buy.length) (hnD:nD=S.sell.length) (hm:m=cs.length)
 (hA:n<=cA/\cA<=9223372036854775807) (hB:nB<=cB/\cB<=9223372036854775807) (hC:nC<=cC/\cC<=9223372036854775807) (hD:nD<=cD/\cD<=9223372036854775807) (hE:m<=cE/\cE<=9223372036854775807)
 (hS:bH w A B C D S) (hcs:df w E cs):
 Calls Try.prog 52 #[.agg #[.slice A n cA,.slice B nB cB,.slice C nC cC,.slice D nD cD],.slice E m cE] w fun e w'=>qm S cs w e w'/\Below w.heap.size w w':=by
 obtain⟨u,hu⟩: ∃u,u=stE S cs:=⟨_,rfl⟩;obtain⟨mx,hmx⟩: ∃mx,mx=mxP S.lim n:=⟨_,rfl⟩;have HKB:u=0->stE S cs=0/\nB=n/\nC=n/\nD=n/\(1<=n/\n<=48)/\m<=8/\(0<=mx/\mx<=1048576)/\cpS S mx=S:=fun h=>by
  have h0:=hu.symm.trans h;have h2:=aj.1 (aW h0).2.1;have h3:=(aW h0).1;have hs:=(aW h0).2.2.1;have hb:=Qg (xs:=S.lim) (a:=0) (b:=1048576) n (fun t ht=>(cu.1 (hs t (by omega))).1);rw[<-hmx]at hb;refine⟨h0,by omega,by omega,by omega,by omega,by omega,hb,LM (fun t ht=>?_)⟩;rw[hmx];exact Qf S.lim n t (by omega)
 have F36:Hid (∀V,Below w.heap.size w V->Calls Try.prog 36 #[.agg #[.slice A n cA,.slice B nB cB,.slice C nC cC,.slice D nD cD],.slice E m cE] V (fun e w'=>e=.returned (.int .i64 u)/\Below V.heap.size V w')):=zh (fun V hV=>by rw[hu];exact j3 A B C D E S cs n nB nC nD m cA cB cC cD cE V hn hnB hnC hnD hm hA hB hC hD hE (hS.below hV (Nat.le_refl _)) (hcs.below hV (Nat.le_refl _)));have FMS:Hid (u=0-> ∀V (b1 b2:Nat) (most:Int),Below w.heap.size w V->Blk V b1 51 [.slice A n cA,.slice B nB cB,.slice C nC cC,.slice D nD cD]->Blk V b2 52 [.slice E m cE]->0<=most->Calls Try.prog 92 #[.int .i64 most,.pointer (some ⟨b1,0,none⟩),.pointer (some ⟨b2,0,none⟩)] V (fun e w'=>MsV (az (cpS S most) cs) V e w'/\Below V.heap.size V w')):=zh (fun h V b1 b2 most hV h1 h2 hp=>by
  obtain⟨h0,rfl,rfl,rfl,_⟩:=HKB h;exact Ic A B C D E S cs _ m cA cB cC cD cE b1 b2 most V h0 hp hn hm hA hB hC hD hE (hS.below hV (Nat.le_refl _)) (hcs.below hV (Nat.le_refl _)) h1 h2)
 have F80:Hid (u=0-> ∀V,Below w.heap.size w V->Calls Try.prog 80 #[.slice A n cA] V (fun e w'=>e=.returned (.int .i64 mx)/\V=w')):=zh (fun h V hV=>by rw[hmx];exact PZ A S.lim n cA V hn (HKB h).2.2.2.2.1.1 hA ((hS.below hV (Nat.le_refl _)).1));have F90:Hid (u=0-> ∀V (most:Int),Below w.heap.size w V->Calls Try.prog 90 #[.agg #[.slice A n cA,.slice B nB cB,.slice C nC cC,.slice D nD cD],.int .i64 most] V (fun e w'=> ∃(G:Option Addr) (c:Nat),e=.returned (.agg #[.slice G n c,.slice B nB cB,.slice C nC cC,.slice D nD cD])/\(n<=c/\c<=9223372036854775807)/\bH w' G B C D (cpS S most)/\Below V.heap.size V w')):=zh (fun h V most hV=>by
  obtain⟨_,_,_,_,h48,_⟩:=HKB h;refine(CE A B C D S most n nB nC nD cA cB cC cD V hn (by omega) (by omega) hA (hS.below hV (Nat.le_refl _)).1).mono ?_;rintro e w' ⟨G,c,rfl,hc,hO,hb⟩;exact⟨G,c,rfl,hc,((hS.below hV (Nat.le_refl _)).below hb (Nat.le_refl _)).capped hn hO,hb⟩)
 have F50:Hid (u=0-> ∀(most:Int) (G:Option Addr) (c:Nat) V,Below w.heap.size w V->0<=most->FlW S cs most->(n<=c/\c<=9223372036854775807)->bH V G B C D (cpS S most)->Calls Try.prog 50 #[.agg #[.slice G n c,.slice B nB cB,.slice C nC cC,.slice D nD cD],.slice E m cE] V (fun e w'=>(∃(g1 g2 gp k:Nat) (gI gO:Nat->Nat) (RI RO:Nat->List Int),e=.returned (.tuple #[.agg #[.slice (some ⟨g1,0,none⟩) m m,.slice (some ⟨g2,0,none⟩) m m],.slice (some ⟨gp,0,none⟩) k k,.int .i64 0])/\RwJ n m g1 gI RI w'/\RwJ n m g2 gO RO w'/\plE (cpS S most) cs ⟨(List.range m).map RI,(List.range m).map RO⟩=0)/\Below V.heap.size V w')):=zh (fun h most G c V hV hp hf hc hSV=>by
  obtain⟨h0,hb1,hb2,hb3,_⟩:=HKB h;have h1:=mP (most:=most) h0 hp;have hl:=kz S most;refine(LY G B C D E (cpS S most) cs n nB nC nD m c cB cC cD cE V (by rw[hl];exact hn) hnB hnC hnD hm hc hB hC hD hE hSV (hcs.below hV (Nat.le_refl _))).mono ?_;rintro e w' ⟨hP,hb⟩;refine⟨?_,hb⟩
  rcases hP with ⟨h2,_⟩|⟨_,_,h3⟩|⟨_,g1,g2,gp,gI,gO,RI,RO,pp,rfl,z1,z2,_,_,z5⟩
  ·exact absurd h1 h2
  ·obtain⟨fl,hfl⟩:=hf
   exact absurd (jb h1 hfl) (h3 _)
  ·rw[hl,<-hn,<-hm]at z1 z2
   rw[<-hm]at z5 ⊢;exact⟨g1,g2,gp,_,gI,gO,RI,RO,rfl,z1,z2,z5.ok⟩)
 have HP1:Hid (u≠0-> ∀w',qm S cs w (.returned (.tuple #[.int .i64 0,.agg #[.slice none 0 0,.slice none 0 0],.slice none 0 0,.int .i64 u])) w'):=zh (fun h w'=>.inl ⟨by rw[<-hu];exact h,by rw[hu]⟩);have HP2:Hid (u=0->(∀fl,ak (az (cpS S 1048576) cs) fl=false)-> ∀w',qm S cs w (.returned (.tuple #[.int .i64 0,.agg #[.slice none 0 0,.slice none 0 0],.slice none 0 0,.int .i64 18])) w'):=zh (fun h h2 w'=>by
  have h0:=hu.symm.trans h;rw[AA h0]at h2;exact .inr (.inl ⟨h0,rfl,wo h2⟩))
 have HP3:Hid (u=0-> ∀(pk:Int) (g1 g2:Nat) (gI gO:Nat->Nat) (RI RO:Nat->List Int) (Y:Option Addr) (y cY:Nat) (cut:List Int) w',(0<=pk/\pk<=1048576)->RwJ n m g1 gI RI w'->RwJ n m g2 gO RO w'->plE (cpS S pk) cs ⟨(List.range m).map RI,(List.range m).map RO⟩=0->y=cut.length->aH w' Y cut->(y<=cY/\cY<=9223372036854775807)->Po S cs pk cut->qm S cs w (.returned (.tuple #[.int .i64 pk,.agg #[.slice (some ⟨g1,0,none⟩) m m,.slice (some ⟨g2,0,none⟩) m m],.slice Y y cY,.int .i64 0])) w'):=zh (fun h pk g1 g2 gI gO RI RO Y y cY cut w' h1 h2 h3 h4 h5 h6 h7 h8=>by
  subst hn hm;exact .inr (.inr ⟨hu.symm.trans h,pk,g1,g2,gI,gO,RI,RO,Y,y,cY,cut,rfl,h2,h3,h5,h6,h7,⟨h1,h4,h8.1,h8.2⟩⟩))
 have HF0:Hid (u=0->(∃fl,ak (az (cpS S 1048576) cs) fl=true)->FlW S cs mx):=zh (fun h hf=>by
  obtain⟨h0,_,_,_,_,_,_,e⟩:=HKB h;rw[AA h0]at hf;unfold FlW;rw[e];exact hf)
 have HC0:Hid (Po S cs 0 []):=zh ⟨fun _=>rfl,fun h=>absurd h (by omega)⟩;have HC1:Hid (∀(md:Int) (ct:List Int),0<=md->(∀j,j<ct.length->cutAt (az (cpS S md) cs).sup.length ct j=true)->0<lkA (az (cpS S md) cs) ct (az (cpS S md) cs).arcs.length->(∀fl,ak (az (cpS S md) cs) fl=false)->Po S cs (md+1) ct):=zh (fun md ct h0 h1 h2 h3=>by
  refine⟨fun h=>absurd h (by omega),fun _=>?_⟩;rw[show md+1-1=md by omega];exact⟨h1,h2,h3⟩)
 have HBD:Hid (u=0->(1<=n/\n<=48)/\m<=8/\0<=mx/\mx<=1048576):=zh (fun h=>by obtain⟨_,_,_,_,a,b,c,_⟩:=HKB h;exact⟨a,b,c.1,c.2⟩);clear HKB hn hnB hnC hnD hm hS hcs hu hmx;generalize hPP:qm S cs w=PP at *;clear hPP;generalize hFW:FlW S cs=FW at *;have HFW:=zh hFW;clear hFW;generalize hCT:Po S cs=CT at *;clear hCT;have qN: ∀w:World,(binOp .neq 26 (.slice none 0 0) (.slice none 0 0)).run Try.prog w=.ok (.bool false) w:=fun w=>run_neq_slice_nil w 26 3 none 0 0 Try.underlying26
 have qS: ∀(g k c:Nat) (w:World),(binOp .neq 26 (.slice (some ⟨g,0,none⟩) k c) (.slice none 0 0)).run Try.prog w=.ok (.bool true) w:=fun g k c w=>run_neq_slice_nil w 26 3 (some ⟨g,0,none⟩) k c Try.underlying26
 have HB:=zh ((((Below.refl w.heap.size w).alloc (Nat.le_refl _) (.cells #[.slice A n cA,.slice B nB cB,.slice C nC cC,.slice D nD cD] 51)).alloc (by simp) (.cells #[.slice E m cE] 52)).alloc (by simp;omega) (.cells #[.slice none 0 0,.slice none 0 0] 55));have XS:=zh (((Blk.new' w #[.slice A n cA,.slice B nB cB,.slice C nC cC,.slice D nD cD] 51).alloc (.cells #[.slice E m cE] 52)).alloc (.cells #[.slice none 0 0,.slice none 0 0] 55));have XE:=zh (show Blk (((w.alloc (.cells #[.slice A n cA,.slice B nB cB,.slice C nC cC,.slice D nD cD] 51)).alloc (.cells #[.slice E m cE] 52)).alloc (.cells #[.slice none 0 0,.slice none 0 0] 55)) (w.heap.size+1) 52 [.slice E m cE]from by simpa using (Blk.new' (w.alloc (.cells #[.slice A n cA,.slice B nB cB,.slice C nC cC,.slice D nD cD] 51)) #[.slice E m cE] 52).alloc (.cells #[.slice none 0 0,.slice none 0 0] 55));have XR:=zh (show Blk (((w.alloc (.cells #[.slice A n cA,.slice B nB cB,.slice C nC cC,.slice D nD cD] 51)).alloc (.cells #[.slice E m cE] 52)).alloc (.cells #[.slice none 0 0,.slice none 0 0] 55)) (w.heap.size+1+1) 55 [.slice none 0 0,.slice none 0 0]from by simpa using Blk.new' ((w.alloc (.cells #[.slice A n cA,.slice B nB cB,.slice C nC cC,.slice D nD cD] 51)).alloc (.cells #[.slice E m cE] 52)) #[.slice none 0 0,.slice none 0 0] 55);go_enter Try.func52,Try.ntmps52;go_upto_region 1 with fail
 generalize ((w.alloc (.cells #[.slice A n cA,.slice B nB cB,.slice C nC cC,.slice D nD cD] 51)).alloc (.cells #[.slice E m cE] 52)).alloc (.cells #[.slice none 0 0,.slice none 0 0] 55)=w1 at HB XS XE XR ⊢;have s0:=XS.cell 0 rfl;have s1:=XS.cell 1 rfl;have s2:=XS.cell 2 rfl;have s3:=XS.cell 3 rfl;have sl:=XS.lt;have e0:=XE.cell 0 rfl;have el:=XE.lt;go_wp2_with fail
 refine(F36.out w1 HB.out).mono ?_;rintro e w2 ⟨rfl,hb⟩;clear s0 s1 s2 s3 sl e0 el;have XS:=zh (XS.below hb XS.lt);have XE:=zh (XE.below hb XE.lt);have XR:=zh (XR.below hb XR.lt);have HB:=zh (HB.trans (hb.mono HB.size));clear hb
 by_cases h0:u=0
 rotate_left
 ·have hb0:(u==0)=false:=by simpa using h0
  have HPX:=zh (HP1.out h0);clear h0;have r0:=XR.cell 0 rfl;have r1:=XR.cell 1 rfl;have rz:=XR.free 0;have rz1:=XR.free 1;have rl:=XR.lt;have R2:=zh ((XR.setCell 0 (.slice none 0 0)).setCell 1 (.slice none 0 0));have B2:=zh ((HB.setCell (p:=⟨w.heap.size+1+1,0,none⟩) (by simp only;omega) (.slice none 0 0)).setCell (p:=⟨w.heap.size+1+1,1,none⟩) (by simp only;omega) (.slice none 0 0));go_wp2_with fail
  have q0:=R2.cell 0 rfl;have q1:=R2.cell 1 rfl;exact bodyPost_ret (v:=.tuple #[.int .i64 0,.agg #[.slice none 0 0,.slice none 0 0],.slice none 0 0,.int .i64 u]) (by simp[results,Try.results52,go_sem,q0,q1]) rfl ⟨HPX.out _,B2.out⟩
 have UF:=zh (FMS.out h0);have W9:=zh (F80.out h0);have Rp:=zh (F90.out h0);have Pp:=zh (F50.out h0);have Ph:=zh (HP2.out h0);have Rn:=zh (HP3.out h0);have UG:=zh (HF0.out h0);have Xa:=zh (HBD.out h0);clear FMS F80 F90 F50 HP1 HP2 HP3 HF0 HBD F36;subst h0;have hbd:=Xa.out;go_wp2_with fail
 refine(UF.out w2 _ _ 1048576 HB.out XS.out XE.out (by omega)).mono ?_;rintro e w3 ⟨hV,hb⟩;have XS:=zh (XS.below hb XS.lt);have XE:=zh (XE.below hb XE.lt);have XR:=zh (XR.below hb XR.lt);have HB:=zh (HB.trans (hb.mono HB.size));clear hb
 rcases hV with ⟨rfl,hfl⟩|⟨g,c,k,ct,_,rfl,_,_,_,_,_,hno⟩
 rotate_left
 ·have HPX:=zh (Ph.out hno)
  have qS2:=qS g k c;clear hno;have r0:=XR.cell 0 rfl;have r1:=XR.cell 1 rfl;have rz:=XR.free 0;have rz1:=XR.free 1;have rl:=XR.lt;have R2:=zh ((XR.setCell 0 (.slice none 0 0)).setCell 1 (.slice none 0 0));have B2:=zh ((HB.setCell (p:=⟨w.heap.size+1+1,0,none⟩) (by simp only;omega) (.slice none 0 0)).setCell (p:=⟨w.heap.size+1+1,1,none⟩) (by simp only;omega) (.slice none 0 0));go_wp2_with fail
  have q0:=R2.cell 0 rfl;have q1:=R2.cell 1 rfl;exact bodyPost_ret (v:=.tuple #[.int .i64 0,.agg #[.slice none 0 0,.slice none 0 0],.slice none 0 0,.int .i64 18]) (by simp[results,Try.results52,go_sem,q0,q1]) rfl ⟨HPX.out _,B2.out⟩
 have HFX:=zh (UG.out hfl);clear hfl Ph UG;have s0:=XS.cell 0 rfl;have s1:=XS.cell 1 rfl;have s2:=XS.cell 2 rfl;have s3:=XS.cell 3 rfl;have sl:=XS.lt;go_wp2_with fail
 refine(W9.out w3 HB.out).mono ?_;rintro e w4 ⟨rfl,rfl⟩;clear s0 s1 s2 s3 sl;go_upto_region 8 with fail
 go_wp2_with fail
 go_loopw [10,11,12] (fun lo hi cv wr=> ∃(l h:Int) (Y:Option Addr) (y cY:Nat) (cut:List Int),lo=.int .i64 l/\hi=.int .i64 h/\cv=.slice Y y cY/\(0<=l/\l<=h/\h<=1048576)/\Hid (Below w3.heap.size w3 wr/\FW h/\y=cut.length/\wr.ownsRow w3.heap.size 3 1 (.slice Y y cY) y (cut.map (.int .i64))/\(y<=cY/\cY<=9223372036854775807)/\CT l cut)) (fun lo hi _ _=>(intOf hi-intOf lo).toNat)
 case atStart=>exact⟨0,mx,none,0,0,[],rfl,rfl,rfl,⟨Int.le_refl _,by omega,by omega⟩,zh ⟨Below.refl _ _,HFX.out,rfl,World.ownsRow_nil _ _ _ _,by omega,HC0.out⟩⟩
 case round=>
  obtain⟨l,h,Y,y,cY,cut,rfl,rfl,rfl,hlh,HW⟩:=hrel;clear HFX HC0;have hb:=HW.1;have XS:=zh (XS.below hb XS.lt);have XE:=zh (XE.below hb XE.lt);have XR:=zh (XR.below hb XR.lt);have HB:=zh (HB.trans (hb.mono HB.size));clear hb
  by_cases hlt:l<h
  ·have d1:decide (l<h)=true:=decide_eq_true hlt
   obtain⟨md,hmd⟩: ∃md,md=(l+h).tdiv 2:=⟨_,rfl⟩;have hmb:l<=md/\md<h:=by rw[hmd,Int.tdiv_eq_ediv_of_nonneg (by omega)];omega
   have s1:IntKind.i64.wrap (l+h)=l+h:=IntWalk.i64_in _ (by omega);have s2:IntKind.i64.wrap md=md:=IntWalk.i64_in _ (by omega);have s3:IntKind.i64.wrap (md+1)=md+1:=IntWalk.i64_in _ (by omega);have YF:=hmd.symm;clear hmd;go_wp2_with fail
   refine(UF.out wr _ _ md HB.out XS.out XE.out (by omega)).mono ?_;rintro e w5 ⟨hV,hb⟩
   rcases hV with ⟨rfl,hfl⟩|⟨g,c,k,ct,hk,rfl,hI,hc,hk4,hv1,hv2,hno⟩
   ·have HE:Hid (Below w3.heap.size w3 w5/\FW md/\y=cut.length/\w5.ownsRow w3.heap.size 3 1 (.slice Y y cY) y (cut.map (.int .i64))/\(y<=cY/\cY<=9223372036854775807)/\CT l cut):=zh ⟨HW.1.trans (hb.mono HW.1.size),by rw[<-HFW.out];exact hfl,HW.2.2.1,bF HW.2.2.2.1 hb,HW.2.2.2.2⟩
    clear hb hfl;go_wp2_with fail
    exact⟨⟨l,md,Y,y,cY,cut,rfl,rfl,rfl,by omega,HE⟩,by simp[intOf];omega⟩
   ·have HE:Hid (Below w3.heap.size w3 w5/\FW h/\k=ct.length/\w5.ownsRow w3.heap.size 3 1 (.slice (some ⟨g,0,none⟩) k c) k (ct.map (.int .i64))/\(k<=c/\c<=9223372036854775807)/\CT (md+1) ct):=zh ⟨HW.1.trans (hb.mono HW.1.size),HW.2.1,hk,iZ hI HW.1.size,hc,HC1.out md ct (by omega) hv1 hv2 hno⟩
    have qS2:=qS g k c;clear hb hk hI hc hv1 hv2 hno;go_wp2_with fail
    exact⟨⟨md+1,h,some ⟨g,0,none⟩,k,c,ct,rfl,rfl,rfl,by omega,HE⟩,by simp[intOf];omega⟩
  ·obtain rfl:l=h:=by omega
   have d1:decide (l<l)=false:=decide_eq_false hlt;have HFV:=zh HW.2.1;have HIY:=zh HW.2.2.2.1;have HYY:=zh HW.2.2;clear HW;have RD:Hid (∀W,Below wr.heap.size wr W->((W.cell? ⟨w.heap.size,0,none⟩=some (.slice A n cA)/\W.cell? ⟨w.heap.size,1,none⟩=some (.slice B nB cB)/\W.cell? ⟨w.heap.size,2,none⟩=some (.slice C nC cC)/\W.cell? ⟨w.heap.size,3,none⟩=some (.slice D nD cD))/\W.cell? ⟨w.heap.size+1,0,none⟩=some (.slice E m cE)/\w.heap.size<W.heap.size)/\Below w.heap.size w W/\W.ownsRow w3.heap.size 3 1 (.slice Y y cY) y (cut.map (.int .i64))/\Blk W (w.heap.size+1+1) 55 [.slice none 0 0,.slice none 0 0]):=zh (fun W hW=>by
    have x1:=XS.below hW XS.lt;exact⟨⟨⟨x1.cell 0 rfl,x1.cell 1 rfl,x1.cell 2 rfl,x1.cell 3 rfl⟩,(XE.below hW XE.lt).cell 0 rfl,x1.lt⟩,HB.trans (hW.mono HB.size),bF HIY.out hW,XR.below hW XR.lt⟩)
   have HT:=zh (Below.refl wr.heap.size wr).drew;have HWS:=zh HB.size;have HRL:=zh XR.lt;go_upto_region 15 with fail
   clear XS XE XR HB HIY
   go_cut [15,17]from 18 (fun sp se wc=> ∃(b g1 g2:Nat) (gI gO:Nat->Nat) (RI RO:Nat->List Int),sp=.pointer (some ⟨b,0,none⟩)/\se=.int .i64 0/\Hid (Blk wc b 55 [.slice (some ⟨g1,0,none⟩) m m,.slice (some ⟨g2,0,none⟩) m m]/\RwJ n m g1 gI RI wc/\RwJ n m g2 gO RO wc/\plE (cpS S l) cs ⟨(List.range m).map RI,(List.range m).map RO⟩=0/\Below wr.heap.size wr wc/\wr.heap.size<=b))
   case first=>
    refine kF (S:=fun _ W=>((W.cell? ⟨w.heap.size,0,none⟩=some (.slice A n cA)/\W.cell? ⟨w.heap.size,1,none⟩=some (.slice B nB cB)/\W.cell? ⟨w.heap.size,2,none⟩=some (.slice C nC cC)/\W.cell? ⟨w.heap.size,3,none⟩=some (.slice D nD cD))/\W.cell? ⟨w.heap.size+1,0,none⟩=some (.slice E m cE)/\w.heap.size<W.heap.size)) (by kernel_rfl) ?_ (fun hHeld=>?_)
    ·(try dsimp only);(first|with_reducible exact(RD.out _ HT.out).1|with_reducible assumption)
    refine lTk 0 ?_ ?_ (fun aa=>?_);rotate_left 1
    ·(intro L W _ _ hSw;(try dsimp only at hSw);first|(go_simp;done)|(go_simp;with_reducible rfl))
    clear hHeld;have hHeld:=aa;clear aa
    (try simp only[zp])
    refine lTk 1 ?_ ?_ (fun aa=>?_);rotate_left 1
    ·(intro _ _ _ _ _;first|(go_simp;done)|(go_simp;with_reducible rfl))
    clear hHeld;have hHeld:=aa;clear aa
    (try simp only[zp])
    refine lTk 3 ?_ ?_ (fun aa=>?_);rotate_left 1
    ·(intro L W _ _ hSw;(try dsimp only at hSw);first|(go_simp;done)|(go_simp;with_reducible rfl))
    clear hHeld;have hHeld:=aa;clear aa
    (try simp only[zp])
    refine ay (rs:=[2,9]) (by kernel_rfl) (by simp) ?_;refine au.cons (i:=2) rfl (fun K hK=>?_) ?_
    ·go_simp;(refine(Rp.out _ l (RD.out _ HT.out).2.1).mono ?_;rintro e w6 ⟨G,c,rfl,hc,hSA,hb⟩;(try have HMK:=zh (Blk.below HMK.out hb (Blk.lt HMK.out)));have HT:=zh (HT.trans (hb.mono HT.size));have HC:=zh hc;have HSA:=zh hSA;clear hb hc hSA)
     (try go_wp2_with fail)
     refine hK.out _ _ ?_ (fun aa=>?_)
     ·(try dsimp only);(first|with_reducible exact(RD.out _ HT.out).1|with_reducible assumption)
     clear hK K;clear hHeld;have hHeld:=aa;clear aa
     (try simp only[zp])
     refine ay (rs:=[4,9]) (by kernel_rfl) (by simp) ?_;refine au.cons (i:=4) rfl (fun K hK=>?_) ?_
     ·go_simp;(refine(Pp.out l G c _ (RD.out _ HT.out).2.1 (by omega) HFV.out HC.out HSA.out).mono ?_;rintro e w7 ⟨⟨g1,g2,gp,k,gI,gO,RI,RO,rfl,z1,z2,z3⟩,hb⟩;(try have HMK:=zh (Blk.below HMK.out hb (Blk.lt HMK.out)));have HT:=zh (HT.trans (hb.mono HT.size));have H1:=zh z1;have H2:=zh z2;have H3:=zh z3;clear hb z1 z2 z3 HSA)
      (try go_wp2_with fail)
      refine hK.out _ _ ?_ (fun aa=>?_)
      ·(try dsimp only);(first|with_reducible exact(RD.out _ HT.out).1|with_reducible assumption)
      clear hK K;clear hHeld;have hHeld:=aa;clear aa
      (try simp only[zp])
      refine lTk 5 ?_ ?_ (fun aa=>?_);rotate_left 1
      ·(intro _ _ _ _ _;first|(go_simp;done)|(go_simp;with_reducible rfl))
      clear hHeld;have hHeld:=aa;clear aa
      (try simp only[zp])
      refine lTk 6 ?_ ?_ (fun aa=>?_);rotate_left 1
      ·(intro _ _ _ _ _;first|(go_simp;done)|(go_simp;with_reducible rfl))
      clear hHeld;have hHeld:=aa;clear aa
      (try simp only[zp])
      refine lTk 7 ?_ ?_ (fun aa=>?_);rotate_left 1
      ·(intro _ _ _ _ _;first|(go_simp;done)|(go_simp;with_reducible rfl))
      clear hHeld;have hHeld:=aa;clear aa
      (try simp only[zp])
      refine lTk 8 ?_ ?_ (fun aa=>?_);rotate_left 1
      ·(intro _ _ _ _ _;first|(go_simp;done)|(go_simp;with_reducible rfl))
      clear hHeld;have hHeld:=aa;clear aa
      (try simp only[zp])
      refine ay (rs:=[9]) (by kernel_rfl) (by simp) ?_;refine au.cons (i:=9) rfl (fun K hK=>?_) ?_
      ·refine aG (.cells #[.slice none 0 0,.slice none 0 0] 55) (fun g=>.pointer (some ⟨g,0,none⟩)) rfl (by kernel_rfl) ?_;intro b w8 y8 hc8 hb8;(try have H1:=zh (RwJ.below H1.out hb8));(try have H2:=zh (RwJ.below H2.out hb8));(try have HSA:=zh (bH.below HSA.out hb8 (Nat.le_refl _)));have HMK:=zh (show Blk w8 b 55 [.slice none 0 0,.slice none 0 0]from hc8);have HMT:=zh (Nat.le_trans HT.size y8);have HT:=zh (HT.trans (hb8.mono HT.size));clear hb8 hc8 y8
       (try go_wp2_with fail)
       refine hK.out _ _ ?_ (fun aa=>?_)
       ·(try dsimp only);(first|with_reducible exact(RD.out _ HT.out).1|with_reducible assumption)
       clear hK K;clear hHeld;have hHeld:=aa;clear aa
       (try simp only[zp])
       refine ay (rs:=[10]) (by kernel_rfl) (by simp) ?_;refine au.cons (i:=10) rfl (fun K hK=>?_) ?_
       ·(have q0:=HMK.cell 0 rfl;have q1:=HMK.cell 1 rfl;have z0:=HMK.free 0;have z1:=HMK.free 1;have zl:=HMK.lt;have HE1:=zh ((HMK.setCell 0 (.slice (some ⟨g1,0,none⟩) m m)).setCell 1 (.slice (some ⟨g2,0,none⟩) m m));have HE2:=zh ((H1.typ (p:=⟨b,0,none⟩) HMK.out (by decide) (by decide) (.slice (some ⟨g1,0,none⟩) m m)).typ (p:=⟨b,1,none⟩) (HMK.setCell 0 (.slice (some ⟨g1,0,none⟩) m m)) (by decide) (by decide) (.slice (some ⟨g2,0,none⟩) m m));have HE3:=zh ((H2.typ (p:=⟨b,0,none⟩) HMK.out (by decide) (by decide) (.slice (some ⟨g1,0,none⟩) m m)).typ (p:=⟨b,1,none⟩) (HMK.setCell 0 (.slice (some ⟨g1,0,none⟩) m m)) (by decide) (by decide) (.slice (some ⟨g2,0,none⟩) m m));have HT:=zh ((HT.setCell (p:=⟨b,0,none⟩) HMT.out (.slice (some ⟨g1,0,none⟩) m m)).setCell (p:=⟨b,1,none⟩) HMT.out (.slice (some ⟨g2,0,none⟩) m m));go_simp)
        (try go_wp2_with fail)
        refine hK.out _ _ ?_ (fun aa=>?_)
        ·(try dsimp only);(first|with_reducible exact(RD.out _ HT.out).1|with_reducible assumption)
        clear hK K;clear hHeld;have hHeld:=aa;clear aa
        (try simp only[zp])
        refine lTk 11 ?_ ?_ (fun aa=>?_);rotate_left 1
        ·(intro _ _ _ _ _;first|(go_simp;done)|(go_simp;with_reducible rfl))
        clear hHeld;have hHeld:=aa;clear aa
        (try simp only[zp])
        refine lTk 12 ?_ ?_ (fun aa=>?_);rotate_left 1
        ·(intro _ _ _ _ _;first|(go_simp;done)|(go_simp;with_reducible rfl))
        clear hHeld;have hHeld:=aa;clear aa
        (try simp only[zp])
        refine fM (by kernel_rfl) ?_ _;clear hHeld;go_wp2_with fail
        go_meet
        case rel=>exact⟨b,g1,g2,gI,gO,RI,RO,rfl,rfl,zh ⟨HE1.out,HE2.out,HE3.out,H3.out,HT.out,HMT.out⟩⟩
       exact au.nil
      exact au.nil
     refine au.cons (i:=9) rfl (fun K hK=>?_) ?_
     ·refine aG (.cells #[.slice none 0 0,.slice none 0 0] 55) (fun g=>.pointer (some ⟨g,0,none⟩)) rfl (by kernel_rfl) ?_;intro b w8 y8 hc8 hb8;(try have H1:=zh (RwJ.below H1.out hb8));(try have H2:=zh (RwJ.below H2.out hb8));(try have HSA:=zh (bH.below HSA.out hb8 (Nat.le_refl _)));have HMK:=zh (show Blk w8 b 55 [.slice none 0 0,.slice none 0 0]from hc8);have HMT:=zh (Nat.le_trans HT.size y8);have HT:=zh (HT.trans (hb8.mono HT.size));clear hb8 hc8 y8
      (try go_wp2_with fail)
      refine hK.out _ _ ?_ (fun aa=>?_)
      ·(try dsimp only);(first|with_reducible exact(RD.out _ HT.out).1|with_reducible assumption)
      clear hK K;clear hHeld;have hHeld:=aa;clear aa
      (try simp only[zp])
      refine ay (rs:=[4]) (by kernel_rfl) (by simp) ?_;refine au.cons (i:=4) rfl (fun K hK=>?_) ?_
      ·go_simp;(refine(Pp.out l G c _ (RD.out _ HT.out).2.1 (by omega) HFV.out HC.out HSA.out).mono ?_;rintro e w7 ⟨⟨g1,g2,gp,k,gI,gO,RI,RO,rfl,z1,z2,z3⟩,hb⟩;(try have HMK:=zh (Blk.below HMK.out hb (Blk.lt HMK.out)));have HT:=zh (HT.trans (hb.mono HT.size));have H1:=zh z1;have H2:=zh z2;have H3:=zh z3;clear hb z1 z2 z3 HSA)
       (try go_wp2_with fail)
       refine hK.out _ _ ?_ (fun aa=>?_)
       ·(try dsimp only);(first|with_reducible exact(RD.out _ HT.out).1|with_reducible assumption)
       clear hK K;clear hHeld;have hHeld:=aa;clear aa
       (try simp only[zp])
       refine lTk 5 ?_ ?_ (fun aa=>?_);rotate_left 1
       ·(intro _ _ _ _ _;first|(go_simp;done)|(go_simp;with_reducible rfl))
       clear hHeld;have hHeld:=aa;clear aa
       (try simp only[zp])
       refine lTk 6 ?_ ?_ (fun aa=>?_);rotate_left 1
       ·(intro _ _ _ _ _;first|(go_simp;done)|(go_simp;with_reducible rfl))
       clear hHeld;have hHeld:=aa;clear aa
       (try simp only[zp])
       refine lTk 7 ?_ ?_ (fun aa=>?_);rotate_left 1
       ·(intro _ _ _ _ _;first|(go_simp;done)|(go_simp;with_reducible rfl))
       clear hHeld;have hHeld:=aa;clear aa
       (try simp only[zp])
       refine lTk 8 ?_ ?_ (fun aa=>?_);rotate_left 1
       ·(intro _ _ _ _ _;first|(go_simp;done)|(go_simp;with_reducible rfl))
       clear hHeld;have hHeld:=aa;clear aa
       (try simp only[zp])
       refine ay (rs:=[10]) (by kernel_rfl) (by simp) ?_;refine au.cons (i:=10) rfl (fun K hK=>?_) ?_
       ·(have q0:=HMK.cell 0 rfl;have q1:=HMK.cell 1 rfl;have z0:=HMK.free 0;have z1:=HMK.free 1;have zl:=HMK.lt;have HE1:=zh ((HMK.setCell 0 (.slice (some ⟨g1,0,none⟩) m m)).setCell 1 (.slice (some ⟨g2,0,none⟩) m m));have HE2:=zh ((H1.typ (p:=⟨b,0,none⟩) HMK.out (by decide) (by decide) (.slice (some ⟨g1,0,none⟩) m m)).typ (p:=⟨b,1,none⟩) (HMK.setCell 0 (.slice (some ⟨g1,0,none⟩) m m)) (by decide) (by decide) (.slice (some ⟨g2,0,none⟩) m m));have HE3:=zh ((H2.typ (p:=⟨b,0,none⟩) HMK.out (by decide) (by decide) (.slice (some ⟨g1,0,none⟩) m m)).typ (p:=⟨b,1,none⟩) (HMK.setCell 0 (.slice (some ⟨g1,0,none⟩) m m)) (by decide) (by decide) (.slice (some ⟨g2,0,none⟩) m m));have HT:=zh ((HT.setCell (p:=⟨b,0,none⟩) HMT.out (.slice (some ⟨g1,0,none⟩) m m)).setCell (p:=⟨b,1,none⟩) HMT.out (.slice (some ⟨g2,0,none⟩) m m));go_simp)
        (try go_wp2_with fail)
        refine hK.out _ _ ?_ (fun aa=>?_)
        ·(try dsimp only);(first|with_reducible exact(RD.out _ HT.out).1|with_reducible assumption)
        clear hK K;clear hHeld;have hHeld:=aa;clear aa
        (try simp only[zp])
        refine lTk 11 ?_ ?_ (fun aa=>?_);rotate_left 1
        ·(intro _ _ _ _ _;first|(go_simp;done)|(go_simp;with_reducible rfl))
        clear hHeld;have hHeld:=aa;clear aa
        (try simp only[zp])
        refine lTk 12 ?_ ?_ (fun aa=>?_);rotate_left 1
        ·(intro _ _ _ _ _;first|(go_simp;done)|(go_simp;with_reducible rfl))
        clear hHeld;have hHeld:=aa;clear aa
        (try simp only[zp])
        refine fM (by kernel_rfl) ?_ _;clear hHeld;go_wp2_with fail
        go_meet
        case rel=>exact⟨b,g1,g2,gI,gO,RI,RO,rfl,rfl,zh ⟨HE1.out,HE2.out,HE3.out,H3.out,HT.out,HMT.out⟩⟩
       exact au.nil
      exact au.nil
     exact au.nil
    refine au.cons (i:=9) rfl (fun K hK=>?_) ?_
    ·refine aG (.cells #[.slice none 0 0,.slice none 0 0] 55) (fun g=>.pointer (some ⟨g,0,none⟩)) rfl (by kernel_rfl) ?_;intro b w8 y8 hc8 hb8;(try have H1:=zh (RwJ.below H1.out hb8));(try have H2:=zh (RwJ.below H2.out hb8));(try have HSA:=zh (bH.below HSA.out hb8 (Nat.le_refl _)));have HMK:=zh (show Blk w8 b 55 [.slice none 0 0,.slice none 0 0]from hc8);have HMT:=zh (Nat.le_trans HT.size y8);have HT:=zh (HT.trans (hb8.mono HT.size));clear hb8 hc8 y8
     (try go_wp2_with fail)
     refine hK.out _ _ ?_ (fun aa=>?_)
     ·(try dsimp only);(first|with_reducible exact(RD.out _ HT.out).1|with_reducible assumption)
     clear hK K;clear hHeld;have hHeld:=aa;clear aa
     (try simp only[zp])
     refine ay (rs:=[2]) (by kernel_rfl) (by simp) ?_;refine au.cons (i:=2) rfl (fun K hK=>?_) ?_
     ·go_simp;(refine(Rp.out _ l (RD.out _ HT.out).2.1).mono ?_;rintro e w6 ⟨G,c,rfl,hc,hSA,hb⟩;(try have HMK:=zh (Blk.below HMK.out hb (Blk.lt HMK.out)));have HT:=zh (HT.trans (hb.mono HT.size));have HC:=zh hc;have HSA:=zh hSA;clear hb hc hSA)
      (try go_wp2_with fail)
      refine hK.out _ _ ?_ (fun aa=>?_)
      ·(try dsimp only);(first|with_reducible exact(RD.out _ HT.out).1|with_reducible assumption)
      clear hK K;clear hHeld;have hHeld:=aa;clear aa
      (try simp only[zp])
      refine ay (rs:=[4]) (by kernel_rfl) (by simp) ?_;refine au.cons (i:=4) rfl (fun K hK=>?_) ?_
      ·go_simp;(refine(Pp.out l G c _ (RD.out _ HT.out).2.1 (by omega) HFV.out HC.out HSA.out).mono ?_;rintro e w7 ⟨⟨g1,g2,gp,k,gI,gO,RI,RO,rfl,z1,z2,z3⟩,hb⟩;(try have HMK:=zh (Blk.below HMK.out hb (Blk.lt HMK.out)));have HT:=zh (HT.trans (hb.mono HT.size));have H1:=zh z1;have H2:=zh z2;have H3:=zh z3;clear hb z1 z2 z3 HSA)
       (try go_wp2_with fail)
       refine hK.out _ _ ?_ (fun aa=>?_)
       ·(try dsimp only);(first|with_reducible exact(RD.out _ HT.out).1|with_reducible assumption)
       clear hK K;clear hHeld;have hHeld:=aa;clear aa
       (try simp only[zp])
       refine lTk 5 ?_ ?_ (fun aa=>?_);rotate_left 1
       ·(intro _ _ _ _ _;first|(go_simp;done)|(go_simp;with_reducible rfl))
       clear hHeld;have hHeld:=aa;clear aa
       (try simp only[zp])
       refine lTk 6 ?_ ?_ (fun aa=>?_);rotate_left 1
       ·(intro _ _ _ _ _;first|(go_simp;done)|(go_simp;with_reducible rfl))
       clear hHeld;have hHeld:=aa;clear aa
       (try simp only[zp])
       refine lTk 7 ?_ ?_ (fun aa=>?_);rotate_left 1
       ·(intro _ _ _ _ _;first|(go_simp;done)|(go_simp;with_reducible rfl))
       clear hHeld;have hHeld:=aa;clear aa
       (try simp only[zp])
       refine lTk 8 ?_ ?_ (fun aa=>?_);rotate_left 1
       ·(intro _ _ _ _ _;first|(go_simp;done)|(go_simp;with_reducible rfl))
       clear hHeld;have hHeld:=aa;clear aa
       (try simp only[zp])
       refine ay (rs:=[10]) (by kernel_rfl) (by simp) ?_;refine au.cons (i:=10) rfl (fun K hK=>?_) ?_
       ·(have q0:=HMK.cell 0 rfl;have q1:=HMK.cell 1 rfl;have z0:=HMK.free 0;have z1:=HMK.free 1;have zl:=HMK.lt;have HE1:=zh ((HMK.setCell 0 (.slice (some ⟨g1,0,none⟩) m m)).setCell 1 (.slice (some ⟨g2,0,none⟩) m m));have HE2:=zh ((H1.typ (p:=⟨b,0,none⟩) HMK.out (by decide) (by decide) (.slice (some ⟨g1,0,none⟩) m m)).typ (p:=⟨b,1,none⟩) (HMK.setCell 0 (.slice (some ⟨g1,0,none⟩) m m)) (by decide) (by decide) (.slice (some ⟨g2,0,none⟩) m m));have HE3:=zh ((H2.typ (p:=⟨b,0,none⟩) HMK.out (by decide) (by decide) (.slice (some ⟨g1,0,none⟩) m m)).typ (p:=⟨b,1,none⟩) (HMK.setCell 0 (.slice (some ⟨g1,0,none⟩) m m)) (by decide) (by decide) (.slice (some ⟨g2,0,none⟩) m m));have HT:=zh ((HT.setCell (p:=⟨b,0,none⟩) HMT.out (.slice (some ⟨g1,0,none⟩) m m)).setCell (p:=⟨b,1,none⟩) HMT.out (.slice (some ⟨g2,0,none⟩) m m));go_simp)
        (try go_wp2_with fail)
        refine hK.out _ _ ?_ (fun aa=>?_)
        ·(try dsimp only);(first|with_reducible exact(RD.out _ HT.out).1|with_reducible assumption)
        clear hK K;clear hHeld;have hHeld:=aa;clear aa
        (try simp only[zp])
        refine lTk 11 ?_ ?_ (fun aa=>?_);rotate_left 1
        ·(intro _ _ _ _ _;first|(go_simp;done)|(go_simp;with_reducible rfl))
        clear hHeld;have hHeld:=aa;clear aa
        (try simp only[zp])
        refine lTk 12 ?_ ?_ (fun aa=>?_);rotate_left 1
        ·(intro _ _ _ _ _;first|(go_simp;done)|(go_simp;with_reducible rfl))
        clear hHeld;have hHeld:=aa;clear aa
        (try simp only[zp])
        refine fM (by kernel_rfl) ?_ _;clear hHeld;go_wp2_with fail
        go_meet
        case rel=>exact⟨b,g1,g2,gI,gO,RI,RO,rfl,rfl,zh ⟨HE1.out,HE2.out,HE3.out,H3.out,HT.out,HMT.out⟩⟩
       exact au.nil
      exact au.nil
     exact au.nil
    exact au.nil
   case rest=>
    clear HT Rp Pp;obtain⟨b,g1,g2,gI,gO,RI,RO,rfl,rfl,HJ⟩:=hcut;have HT:=zh HJ.2.2.2.2.1.drew;have HD:=zh (HJ.2.2.2.2.1);have XB:=zh (Blk.drew HJ.1);have hbn:b≠w.heap.size+1+1:=by have:=HJ.2.2.2.2.2;have:=HRL.out;omega
    have RJ:Hid (∀W,Below wc.heap.size wc W->RwJ n m g1 gI RI W/\RwJ n m g2 gO RO W/\(W.cell? ⟨b,0,none⟩=some (.slice (some ⟨g1,0,none⟩) m m)/\W.cell? ⟨b,1,none⟩=some (.slice (some ⟨g2,0,none⟩) m m)/\b<W.heap.size)):=zh (fun W hW=>by have x:=HJ.1.below hW HJ.1.lt;exact⟨HJ.2.1.below hW,HJ.2.2.1.below hW,x.cell 0 rfl,x.cell 1 rfl,x.lt⟩);have HPL:=zh HJ.2.2.2.1;have HT:=zh (Below.refl wc.heap.size wc).drew;clear HJ;go_upto_region 16 with fail
    refine kF (S:=fun L W=>(True)/\(L.getD 5 false=true∨(W.cell? ⟨b,0,none⟩=some (.slice (some ⟨g1,0,none⟩) m m)/\W.cell? ⟨b,1,none⟩=some (.slice (some ⟨g2,0,none⟩) m m)/\b<W.heap.size))) (by kernel_rfl) ?_ (fun hHeld=>?_)
    ·(try dsimp only);refine⟨?_,Or.inr ?_⟩
     ·(first|trivial|with_reducible assumption)
     ·(first|with_reducible exact(RJ.out _ HT.out).2.2|with_reducible assumption)
    refine bS (i:=0) (v:=?_) rfl (by kernel_rfl) (by kernel_rfl) (by kernel_rfl) (fun _ _ _ h=>h) (by rfl) (fun _ _ h=>by simpa only[getD_set_ne false (show 0≠5 by decide)]using h) (fun _ _ h=>by simpa only[getD_set_ne false (show 0≠5 by decide)]using h) ?_ (by assumption) (fun aa=>?_);rotate_left 1
    ·(intro _ _ _ _ _;first|(go_simp;done)|(go_simp;with_reducible rfl))
    clear hHeld;have hHeld:=aa;clear aa
    (try simp only[zp])
    refine bS (i:=1) (v:=?_) rfl (by kernel_rfl) (by kernel_rfl) (by kernel_rfl) (fun _ _ _ h=>h) (by rfl) (fun _ _ h=>by simpa only[getD_set_ne false (show 1≠5 by decide)]using h) (fun _ _ h=>by simpa only[getD_set_ne false (show 1≠5 by decide)]using h) ?_ (by assumption) (fun aa=>?_);rotate_left 1
    ·(intro L W hL hK hSw;(try dsimp only at hSw);obtain⟨h0,h1⟩:=hSw;replace h1:=still [] hK hL (by kernel_rfl) h1;clear hL hK;first|(go_simp;done)|(go_simp;with_reducible rfl))
    clear hHeld;have hHeld:=aa;clear aa
    (try simp only[zp])
    refine bS (i:=2) (v:=?_) rfl (by kernel_rfl) (by kernel_rfl) (by kernel_rfl) (fun _ _ _ h=>h) (by rfl) (fun _ _ h=>by simpa only[getD_set_ne false (show 2≠5 by decide)]using h) (fun _ _ h=>by simpa only[getD_set_ne false (show 2≠5 by decide)]using h) ?_ (by assumption) (fun aa=>?_);rotate_left 1
    ·(intro _ _ _ _ _;first|(go_simp;done)|(go_simp;with_reducible rfl))
    clear hHeld;have hHeld:=aa;clear aa
    (try simp only[zp])
    refine bS (i:=3) (v:=?_) rfl (by kernel_rfl) (by kernel_rfl) (by kernel_rfl) (fun _ _ _ h=>h) (by rfl) (fun _ _ h=>by simpa only[getD_set_ne false (show 3≠5 by decide)]using h) (fun _ _ h=>by simpa only[getD_set_ne false (show 3≠5 by decide)]using h) ?_ (by assumption) (fun aa=>?_);rotate_left 1
    ·(intro _ _ _ _ _;first|(go_simp;done)|(go_simp;with_reducible rfl))
    clear hHeld;have hHeld:=aa;clear aa
    (try simp only[zp])
    refine bS (i:=4) (v:=?_) rfl (by kernel_rfl) (by kernel_rfl) (by kernel_rfl) (fun _ _ _ h=>h) (by rfl) (fun _ _ h=>by simpa only[getD_set_ne false (show 4≠5 by decide)]using h) (fun _ _ h=>by simpa only[getD_set_ne false (show 4≠5 by decide)]using h) ?_ (by assumption) (fun aa=>?_);rotate_left 1
    ·(intro _ _ _ _ _;first|(go_simp;done)|(go_simp;with_reducible rfl))
    clear hHeld;have hHeld:=aa;clear aa
    (try simp only[zp])
    refine ay (rs:=[5]) (by kernel_rfl) (by simp) ?_;refine au.cons (i:=5) rfl (fun K hK=>?_) ?_
    ·(have HX:=RD.out _ (HD.trans (HT.mono HD.size));have XR:=HX.2.2.2;have q0:=XR.cell 0 rfl;have q1:=XR.cell 1 rfl;have z0:=XR.free 0;have z1:=XR.free 1;have zl:=XR.lt;have XR0:=(RD.out _ HD.out).2.2.2;have y0:=XR0.cell 0 rfl;have y1:=XR0.cell 1 rfl;have y2:=XR0.free 0;have y3:=XR0.free 1;have y4:=XR0.lt;have HE0:=zh ((XR0.setCell 0 (.slice (some ⟨g1,0,none⟩) m m)).setCell 1 (.slice (some ⟨g2,0,none⟩) m m));clear XR0;have HE1:=zh ((XR.setCell 0 (.slice (some ⟨g1,0,none⟩) m m)).setCell 1 (.slice (some ⟨g2,0,none⟩) m m));have HE2:=zh (((RJ.out _ HT.out).1.typ (p:=⟨w.heap.size+1+1,0,none⟩) XR (by decide) (by decide) (.slice (some ⟨g1,0,none⟩) m m)).typ (p:=⟨w.heap.size+1+1,1,none⟩) (XR.setCell 0 (.slice (some ⟨g1,0,none⟩) m m)) (by decide) (by decide) (.slice (some ⟨g2,0,none⟩) m m));have HE3:=zh (((RJ.out _ HT.out).2.1.typ (p:=⟨w.heap.size+1+1,0,none⟩) XR (by decide) (by decide) (.slice (some ⟨g1,0,none⟩) m m)).typ (p:=⟨w.heap.size+1+1,1,none⟩) (XR.setCell 0 (.slice (some ⟨g1,0,none⟩) m m)) (by decide) (by decide) (.slice (some ⟨g2,0,none⟩) m m));have HE4:=zh ((HX.2.1.setCell (p:=⟨w.heap.size+1+1,0,none⟩) (by simp only;omega) (.slice (some ⟨g1,0,none⟩) m m)).setCell (p:=⟨w.heap.size+1+1,1,none⟩) (by simp only;omega) (.slice (some ⟨g2,0,none⟩) m m));have HE5:=zh (bI (p:=⟨w.heap.size+1+1,1,none⟩) (bI (p:=⟨w.heap.size+1+1,0,none⟩) HX.2.2.1 (dJ XR HX.2.2.1 (by decide)) (.slice (some ⟨g1,0,none⟩) m m)) (dJ (XR.setCell 0 (.slice (some ⟨g1,0,none⟩) m m)) (bI (p:=⟨w.heap.size+1+1,0,none⟩) HX.2.2.1 (dJ XR HX.2.2.1 (by decide)) (.slice (some ⟨g1,0,none⟩) m m)) (by decide)) (.slice (some ⟨g2,0,none⟩) m m));clear HX XR;go_simp)
     (try go_wp2_with fail)
     refine hK.out _ _ ?_ (fun aa=>?_)
     ·(try dsimp only);refine⟨?_,Or.inl (by rfl)⟩
      ·(first|trivial|with_reducible assumption)
     clear hK K;clear hHeld;have hHeld:=aa;clear aa
     (try simp only[zp])
     refine bS (i:=6) (v:=?_) rfl (by kernel_rfl) (by kernel_rfl) (by kernel_rfl) (fun _ _ _ h=>h) (by rfl) (fun _ _ h=>by simpa only[getD_set_ne false (show 6≠5 by decide)]using h) (fun _ _ h=>by simpa only[getD_set_ne false (show 6≠5 by decide)]using h) ?_ (by assumption) (fun aa=>?_);rotate_left 1
     ·(intro _ _ _ _ _;first|(go_simp;done)|(go_simp;with_reducible rfl))
     clear hHeld;have hHeld:=aa;clear aa
     (try simp only[zp])
     refine bS (i:=7) (v:=?_) rfl (by kernel_rfl) (by kernel_rfl) (by kernel_rfl) (fun _ _ _ h=>h) (by rfl) (fun _ _ h=>by simpa only[getD_set_ne false (show 7≠5 by decide)]using h) (fun _ _ h=>by simpa only[getD_set_ne false (show 7≠5 by decide)]using h) ?_ (by assumption) (fun aa=>?_);rotate_left 1
     ·(intro _ _ _ _ _;first|(go_simp;done)|(go_simp;with_reducible rfl))
     clear hHeld;have hHeld:=aa;clear aa
     (try simp only[zp])
     refine fM (by kernel_rfl) ?_ _;clear hHeld;go_wp2_with fail
     have q0:=HE1.cell 0 rfl;have q1:=HE1.cell 1 rfl;have q2:=HE0.cell 0 rfl;have q3:=HE0.cell 1 rfl;exact bodyPost_ret (v:=.tuple #[.int .i64 l,.agg #[.slice (some ⟨g1,0,none⟩) m m,.slice (some ⟨g2,0,none⟩) m m],.slice Y y cY,.int .i64 0]) (by simp[results,Try.results52,go_sem,q0,q1,q2,q3]) rfl ⟨Rn.out l g1 g2 gI gO RI RO Y y cY cut _ ⟨by omega,by omega⟩ HE2.out HE3.out HPL.out HYY.1 (G7 HE5.out HYY.1) HYY.2.2.1 HYY.2.2.2,HE4.out⟩
    exact au.nil
theorem RwJ.tab2 {n m g1 g2:Nat} {gI gO:Nat->Nat} {RI RO:Nat->List Int} {W:World} (h1:RwJ n m g1 gI RI W) (h2:RwJ n m g2 gO RO W) (hn:n<=9223372036854775807):eu W (some ⟨g1,0,none⟩) (some ⟨g2,0,none⟩) ⟨(List.range m).map RI,(List.range m).map RO⟩:=⟨h1.rows hn,h2.rows hn⟩
theorem L6 {N:Net} {c:List Int} (h:chE N=0) (hc: ∀k,k<c.length->cutAt N.sup.length c k=true): ∀j:Nat,j<=N.arcs.length-> -(274877906944+1048576*j:Int)<=lkA N c j/\lkA N c j<=274877906944
 |0,_=>by
  have h1:=IL h c.length hc;have h2:=IK c.length hc;have h3:=bV h;simp only[lkA];omega
 |j+1,hj=>by
  have ih:=L6 h hc j (by omega);obtain⟨a1,a2,a3,a4,a5⟩:=bX h j (by omega);simp only[lkA];rw[Int.natCast_add]
  split<;>omega
theorem L9 {N:Net} {c:List Int} (h:chE N=0) (p:Nat): ∀j:Nat,j<=N.sup.length-> -(268435456*j:Int)<=lkR N c p j/\lkR N c p j<=268435456*j
 |0,_=>by simp[lkR]
 |j+1,hj=>by
  have ih:=L9 (c:=c) h p j (by omega);have h2:=jW h j (by omega);simp only[lkR];rw[Int.natCast_add]
  split<;>omega
theorem Ie {n:Nat} {c:List Int} {k:Nat} (h:c.getD k 0<0∨(n:Int)<=c.getD k 0):cutAt n c k=false:=by
 cases hb:cutAt n c k
 ·rfl
 ·have:=dS.1 hb;omega
theorem Ig {n:Nat} {c:List Int} {k:Nat} (h0:0<k) (h:c.getD k 0<=c.getD (k-1) 0):cutAt n c k=false:=by
 cases hb:cutAt n c k
 ·rfl
 ·have:=(dS.1 hb).2.2 h0;omega
theorem Ma (A B C:Option Addr) (N:Net) (c:List Int) (n m p cA cB cC:Nat) (w:World) (hn:n=N.sup.length) (hm:m=N.arcs.length) (hp:p=c.length) (hA:n<=cA/\cA<=9223372036854775807) (hB:m<=cB/\cB<=9223372036854775807) (hC:p<=cC/\cC<=9223372036854775807) (hN:dm w A B N) (hF:aH w C c):
 Calls Try.prog 19 #[.agg #[.slice A n cA,.slice B m cB],.slice C p cC] w fun e w'=>e=.returned (.tuple #[.int .i64 (lkV N c),.int .i64 (lkE N c)])/\Below w.heap.size w w':=by
 have HN:=zh hn;have HM:=zh hm;have HP:=zh hp;have HNA:=zh hN;have HFA:=zh hF;clear hn hm hp hN hF;have B1:=zh (Blk.new' w #[.slice A n cA,.slice B m cB] 25);have HB1:=zh ((Below.refl w.heap.size w).alloc (Nat.le_refl _) (.cells #[.slice A n cA,.slice B m cB] 25));go_enter Try.func19,Try.ntmps19;go_wp2_with fail
 generalize w.alloc (.cells #[.slice A n cA,.slice B m cB] 25)=w1 at B1 HB1 ⊢;refine(lZ A B N n m cA cB w1 HN.out HM.out hA hB (HNA.below HB1.out (Nat.le_refl _))).mono ?_;rintro e w2 ⟨rfl,hb2⟩;have B2:=zh (B1.below hb2 B1.lt);have HB2:=zh (HB1.trans (hb2.mono HB1.size));clear hb2 B1 HB1;have cA0:=B2.cell 0 rfl;have cB0:=B2.cell 1 rfl
 by_cases hch:chE N=0
 ·have hce:=bV hch
  rw[hch];have n1:1<=n:=by rw[HN.out];exact hce.1
  have n2:n<=1024:=by rw[HN.out];exact hce.2.1
  have m2:m<=2048:=by rw[HM.out];exact hce.2.2
  have HCH:=zh hch;clear hch hce;have hmk:=tF n (by omega);have zg:w.heap.size<w2.heap.size:=B2.lt;have J3:Hid (LkJ w A B n cA m cB w2.heap.size c 0 (w2.alloc (.cells (Array.replicate n (.bool false)) 4))):=zh ⟨HB2.alloc HB2.size _,B2.alloc _,by
   rw[Dm];have:=Blk.new' w2 (Array.replicate n (.bool false)) 4;simpa using this⟩
  go_wp2_with fail
  generalize w2.alloc (.cells (Array.replicate n (.bool false)) 4)=w3 at J3 ⊢;generalize w2.heap.size=g at *;clear hmk cA0 cB0;have SC:Hid (∀W,Below w.heap.size w W-> ∀k,k<n-> ∃aS,A=some aS/\W.cell? (aS.add k)=some (.int .i64 (N.sup.getD k 0))):=zh (fun W h k hk=>by
   obtain⟨a',e,hb,hc⟩:=HNA.1 k (by rw[<-HN.out];exact hk);exact⟨a',e,(h.cell (by rw[block_add];exact hb)).trans hc⟩)
  have FC:Hid (∀W,Below w.heap.size w W-> ∀k,k<p-> ∃aC,C=some aC/\W.cell? (aC.add k)=some (.int .i64 (c.getD k 0))/\(aC.add k).block<W.heap.size):=zh (fun W h k hk=>by
   obtain⟨a',e,hb,hc⟩:=HFA.out k (by rw[<-HP.out];exact hk);exact⟨a',e,(h.cell (by rw[block_add];exact hb)).trans hc,by rw[block_add];have:=h.size;omega⟩)
  go_loopw [7] (fun i wr=> ∃k:Nat,k<=p/\i=.int .i64 k/\Hid (LkJ w A B n cA m cB g c k wr)/\Hid (∀x,x<k->cutAt n c x=true)) (fun i _=>p-(intOf i).toNat)
  case atStart=>exact⟨0,Nat.zero_le _,rfl,J3,zh (fun x hx=>absurd hx (Nat.not_lt_zero _))⟩
  case round=>
   obtain⟨k,hk,rfl,HJ,HK⟩:=hrel;have hkn:=IK k HK.out;have cA0:=HJ.2.1.cell 0 rfl;have cB0:=HJ.2.1.cell 1 rfl;have bg:w.heap.size<wr.heap.size:=HJ.2.1.lt
   by_cases hlt:k<p
   ·obtain⟨aC,rfl,hcc,hcb⟩:=FC.out _ HJ.1 k hlt
    have ENO:=zh (fun h=>RH (c:=c) HCH.out k (by rw[<-HP.out];exact hlt) (by rw[<-HN.out];exact h));have HMK:=zh (fun W (h:LkJ w A B n cA m cB g c k W) hc=>h.mark zg (by rw[<-HP.out];exact hlt) hc);have NO0:=zh (Ie (n:=n) (c:=c) (k:=k));have NO1:=zh (Ig (n:=n) (c:=c) (k:=k));have YES:=zh (dS (n:=n) (c:=c) (k:=k));have F1:=zh (fun (h0:0<k)=>FC.out _ HJ.1 (k-1) (by omega));generalize hx:c.getD k 0=x at *;have HX:=zh hx;clear hx;generalize c.getD (k-1) 0=y at *;have k0:(0:Int)<=(k:Int):=by omega
    have kx:(k:Int)<(p:Int):=by omega
    by_cases h1:x<0
    ·have E:=zh (ENO.out (NO0.out (.inl h1)))
     have d1:decide (x<0)=true:=decide_eq_true h1;go_wp2_with fail
     refine wrp ?_
     repeat(go_big_quiet_step (fail))
     refine wpQuiet_nil ?_;intro xx;have HXX:=zh xx.far;generalize xx.w=w4 at HXX ⊢
     go_wp2
     go_ret2
     exact⟨kP E.2.symm E.1.symm,(HJ.below HXX.out).1⟩
    have d1:decide (x<0)=false:=decide_eq_false h1
    by_cases h2:(n:Int)<=x
    ·have E:=zh (ENO.out (NO0.out (.inr h2)))
     have d2:decide ((n:Int)<=x)=true:=decide_eq_true h2;go_wp2_with fail
     refine wrp ?_
     repeat(go_big_quiet_step (fail))
     refine wpQuiet_nil ?_;intro xx;have HXX:=zh xx.far;generalize xx.w=w4 at HXX ⊢
     go_wp2
     go_ret2
     exact⟨kP E.2.symm E.1.symm,(HJ.below HXX.out).1⟩
    have d2:decide ((n:Int)<=x)=false:=decide_eq_false h2;obtain⟨a,rfl⟩: ∃a:Nat,x=a:=⟨x.toNat,by omega⟩;have d2n:decide (n<=a)=false:=decide_eq_false (by omega)
    by_cases h3:0<k
    ·have d3:decide ((0:Int)<(k:Int))=true:=decide_eq_true (by omega)
     have d3n:decide (0<k)=true:=decide_eq_true h3;obtain⟨aC',e,YG,YH⟩:=F1.out h3
     cases e
     have w1':IntKind.i64.wrap ((k:Int)-1)=(k:Int)-1:=IntWalk.i64_in _ (by omega);have t1':((k:Int)-1).toNat=k-1:=by omega
     have l1':(1:Int)<=(k:Int):=by omega
     have l2':(k:Int)-1<(p:Int):=by omega
     by_cases h4:(a:Int)<=y
     ·have E:=zh (ENO.out (NO1.out h3 h4))
      have d4:decide ((a:Int)<=y)=true:=decide_eq_true h4;go_wp2_with fail
      refine wrp ?_
      repeat(go_big_quiet_step (fail))
      refine wpQuiet_nil ?_;intro xx;have HXX:=zh xx.far;generalize xx.w=w4 at HXX ⊢
      go_wp2
      go_ret2
      exact⟨kP E.2.symm E.1.symm,(HJ.below HXX.out).1⟩
     have d4:decide ((a:Int)<=y)=false:=decide_eq_false h4;have HCT:=zh (YES.2 ⟨by omega,by omega,fun _=>by omega⟩);go_wp2_with fail
     refine wrp ?_
     repeat(go_big_quiet_step (fail))
     refine wpQuiet_nil ?_;intro xx;have J4:=zh (HJ.below xx.far);generalize xx.w=w4 at J4 ⊢;have m0:=J4.2.2.cell a (kQ (by omega));have f0:=J4.2.2.free a;obtain⟨aC2,e2,Mc,Xb⟩:=FC.out _ J4.1 k hlt
     cases e2
     rw[HX.out]at Mc;go_upto_region 6 with fail
     refine iV (fun W=>LkJ w A B n cA m cB g c (k+1) W) (HMK.out _ J4.out HCT.out) ?_;rintro w5 j5;have J5:=zh j5;clear j5 m0 f0 cA0 cB0 hcc Mc
     go_wp2
     go_roundw
     case rel=>
      refine⟨k+1,by omega,by go_num,J5,zh (fun y hy=>?_)⟩
      by_cases hjk:y<k
      ·exact HK.out y hjk
      ·obtain rfl:y=k:=by omega
       exact HCT.out
     case measure=>simp[intOf];omega
    have d3:decide ((0:Int)<(k:Int))=false:=decide_eq_false (by omega);have d3n:decide (0<k)=false:=decide_eq_false h3;have HCT:=zh (YES.2 ⟨by omega,by omega,fun _=>by omega⟩);go_wp2_with fail
    refine wrp ?_
    repeat(go_big_quiet_step (fail))
    refine wpQuiet_nil ?_;intro xx;have J4:=zh (HJ.below xx.far);generalize xx.w=w4 at J4 ⊢;have m0:=J4.2.2.cell a (kQ (by omega));have f0:=J4.2.2.free a;obtain⟨aC2,e2,Mc,Xb⟩:=FC.out _ J4.1 k hlt
    cases e2
    rw[HX.out]at Mc;go_upto_region 6 with fail
    refine iV (fun W=>LkJ w A B n cA m cB g c (k+1) W) (HMK.out _ J4.out HCT.out) ?_;rintro w5 j5;have J5:=zh j5;clear j5 m0 f0 cA0 cB0 hcc Mc
    go_wp2
    go_roundw
    case rel=>
     refine⟨k+1,by omega,by go_num,J5,zh (fun y hy=>?_)⟩
     by_cases hjk:y<k
     ·exact HK.out y hjk
     ·obtain rfl:y=k:=by omega
      exact HCT.out
    case measure=>simp[intOf];omega
   ·obtain rfl:k=p:=by omega
    have HCO:Hid (∀x,x<c.length->cutAt N.sup.length c x=true):=zh (fun x hx=>by rw[<-HN.out];exact HK.out x (by rw[HP.out];exact hx));have E:=zh (II HCH.out HCO.out);have E0:=zh (show lkR N c k n=lkA N c 0 from by rw[HN.out,HP.out,sK c.length (Nat.le_refl _) HCO.out];rfl);clear HK;go_wp2_with fail
    go_loopw [8,9] (fun v i wr=> ∃j:Nat,j<=n/\i=.int .i64 j/\v=.int .i64 (lkR N c k j)/\Hid (LkJ w A B n cA m cB g c k wr)) (fun _ i _=>n-(intOf i).toNat)
    case atStart=>exact⟨0,Nat.zero_le _,rfl,rfl,HJ⟩
    case round=>
     obtain⟨j,hj,rfl,rfl,HB⟩:=hrel;have br:=L9 (c:=c) HCH.out k j (by rw[<-HN.out];exact hj);have cA0:=HB.2.1.cell 0 rfl;have cB0:=HB.2.1.cell 1 rfl
     by_cases hlt2:j<n
     ·obtain⟨aS,rfl,sc⟩:=SC.out _ HB.1 j hlt2
      have hsu:=jW HCH.out j (by rw[<-HN.out];exact hlt2);have HR1:=zh (show lkR N c k (j+1)=lkR N c k j+if inK c k j=true then N.sup.getD j 0 else 0 from rfl);have mj:=HB.2.2.cell j (kQ (by omega));generalize N.sup.getD j 0=s at *;generalize inK c k (j:Int)=ij at *;generalize lkR N c k j=S at *
      cases ij
      all_goals
       go_wp2
       go_roundw
       case rel=>exact⟨j+1,by omega,by go_num,by rw[HR1.out];simp,HB⟩
       case measure=>simp[intOf];omega
     ·obtain rfl:j=n:=by omega
      rw[E0.out];rw[E0.out]at br;clear cA0 cB0;go_wp2_with fail
      go_loopw [8,10] (fun v i wr=> ∃q:Nat,q<=m/\i=.int .i64 q/\v=.int .i64 (lkA N c q)/\Hid (LkJ w A B j cA m cB g c k wr)) (fun _ i _=>m-(intOf i).toNat)
      case atStart=>exact⟨0,Nat.zero_le _,rfl,rfl,HB⟩
      case round=>
       obtain⟨q,hq,rfl,rfl,HB⟩:=hrel;have ba:=L6 HCH.out HCO.out q (by rw[<-HM.out];exact hq);have cA0:=HB.2.1.cell 0 rfl;have cB0:=HB.2.1.cell 1 rfl
       by_cases hlt3:q<m
       ·obtain⟨ad,rfl,hbl,d0,d1,d2,d3⟩:=(HNA.2.below HB.1 (Nat.le_refl _)) q (by rw[<-HM.out];exact hlt3)
        obtain⟨a1,a2,a3,a4,a5⟩:=bX HCH.out q (by rw[<-HM.out];exact hlt3);rw[<-HN.out]at a1 a2;have HA1:=zh (show lkA N c (q+1)=lkA N c q-if inK c c.length (N.arcs.getD q default).fr=true/\inK c c.length (N.arcs.getD q default).to=false then (N.arcs.getD q default).cap else 0 from rfl);generalize N.arcs.getD q default=ar at *;obtain⟨fr,«to»,ca,co⟩:=ar;simp only at d0 d1 d2 d3 a1 a2 a3 a4 a5 HA1;rw[<-HP.out]at HA1;obtain⟨a,rfl⟩: ∃a:Nat,fr=a:=⟨fr.toNat,by omega⟩;obtain⟨b,rfl⟩: ∃b:Nat,«to»=b:=⟨«to».toNat,by omega⟩;have ma:=HB.2.2.cell a (kQ (by omega));have mb:=HB.2.2.cell b (kQ (by omega));generalize inK c k (a:Int)=ia at *;generalize inK c k (b:Int)=ib at *;generalize lkA N c q=S at *
        cases ia<;>cases ib
        all_goals
         go_wp2
         go_roundw
         case rel=>exact⟨q+1,by omega,by go_num,by rw[HA1.out];simp,HB⟩
         case measure=>simp[intOf];omega
       ·obtain rfl:q=m:=by omega
        have hx1:=fun ts t W=>lY 0 (lkA N c q) ts t W
        have E1:=zh (show max 0 (lkA N c q)=lkV N c from by rw[E.2,HM.out]);generalize lkA N c q=S at *
        go_wp2
        go_ret2
        exact⟨kP E1.out E.1.symm,HB.1⟩
 ·have E:=zh (RG (c:=c) hch)
  have hne:(chE N==0)=false:=by simpa using hch
  have CC:=zh (lZ A B N n m cA cB w2 HN.out HM.out hA hB (HNA.below HB2.out (Nat.le_refl _)));generalize chE N=q at *;go_wp2_with fail
  refine CC.mono ?_;rintro e w3 ⟨rfl,hb3⟩
  go_wp2
  go_ret2
  exact⟨kP E.2.symm E.1.symm,HB2.trans (hb3.mono HB2.size)⟩
theorem AB (A B C D E P Q Y:Option Addr) (S:Site) (cs:List Car) (T:Tab) (bU:Int) (ps:List Int) (n nB nC nD m p q y cA cB cC cD cE cP cQ cY:Nat) (w:World) (hn:n=S.lim.length) (hnB:nB=S.exp.length) (hnC:nC=S.buy.length) (hnD:nD=S.sell.length) (hm:m=cs.length) (hp:p=T.inn.length) (hq:q=T.out.length) (hy:y=ps.length)
 (hA:n<=cA/\cA<=9223372036854775807) (hB:nB<=cB/\cB<=9223372036854775807) (hC:nC<=cC/\cC<=9223372036854775807) (hD:nD<=cD/\cD<=9223372036854775807) (hE:m<=cE/\cE<=9223372036854775807) (hP:p<=cP/\cP<=9223372036854775807) (hQ:q<=cQ/\cQ<=9223372036854775807) (hY:y<=cY/\cY<=9223372036854775807)
 (hS:bH w A B C D S) (hcs:df w E cs) (hT:eu w P Q T) (hI:aH w Y ps):
 Calls Try.prog 48 #[.agg #[.slice A n cA,.slice B nB cB,.slice C nC cC,.slice D nD cD],.slice E m cE,.int .i64 bU,.agg #[.slice P p cP,.slice Q q cQ],.slice Y y cY] w fun e w'=>e=.returned (.int .i64 (pkE S cs bU T ps))/\Below w.heap.size w w':=by
 obtain⟨z,hz⟩: ∃z,z=pkE S cs bU T ps:=⟨_,rfl⟩;obtain⟨N,hN⟩: ∃N,N=az (cpS S (bU-1)) cs:=⟨_,rfl⟩;obtain⟨k0,hk⟩: ∃k,k=N.sup.length:=⟨_,rfl⟩;obtain⟨l,hl⟩: ∃l,l=N.arcs.length:=⟨_,rfl⟩;obtain⟨u,hu⟩: ∃u,u=plE S cs T:=⟨_,rfl⟩;obtain⟨le,hle⟩: ∃le,le=lkE N ps:=⟨_,rfl⟩;obtain⟨lv,hlv⟩: ∃lv,lv=lkV N ps:=⟨_,rfl⟩;have HKB:u=0->stE S cs=0/\nB=n/\nC=n/\nD=n/\p=m/\q=m/\m<=8/\1<=n/\n<=48:=fun h=>by
  have h0:=(lQ (hu.symm.trans h));have h2:=aj.1 (aW h0.ok).2.1;have h3:=(aW h0.ok).1;have e1:=h0.li;have e2:=h0.lo;exact⟨h0.ok,by omega,by omega,by omega,by omega,by omega,by omega,by omega,by omega⟩
 have HZ:Hid (u≠0->z=u):=zh (fun h=>by rw[hz,hu];unfold pkE;rw[if_neg (by rw[<-hu];exact h)]);have HR:Hid (u=0-> ¬(0<=bU/\bU<=1048576)->z=3):=zh (fun h h2=>by rw[hz];unfold pkE;rw[if_pos (hu.symm.trans h),if_neg h2]);have HG:Hid (u=0->(0<=bU/\bU<=1048576)-> ∀k,k<n->bU<drP T k p->z=17):=zh (fun h h2 k hk hd=>by rw[hz];unfold pkE;rw[if_pos (hu.symm.trans h),if_pos h2,Rj (n:=S.lim.length) (k:=k) (by omega) (by rw[<-hp];exact hd)];rfl);have HF:Hid (u=0->(0<=bU/\bU<=1048576)->(∀k,k<n->drP T k p<=bU)->z=if bU=0 then (if y=0 then 0 else 19)else (if le=0 then (if lv=0 then 19 else 0)else le)):=zh (fun h h2 h3=>by rw[hz,hle,hlv,hN,hy];unfold pkE;rw[if_pos (hu.symm.trans h),if_pos h2,if_pos (LJ (fun k hk=>by have:=h3 k (by omega);rwa [<-hp]))]);have FC:Hid (∀V,Below w.heap.size w V->Calls Try.prog 41 #[.agg #[.slice A n cA,.slice B nB cB,.slice C nC cC,.slice D nD cD],.slice E m cE,.agg #[.slice P p cP,.slice Q q cQ]] V (fun e w'=>e=.returned (.int .i64 u)/\Below V.heap.size V w')):=zh (fun V hV=>by rw[hu];exact oV A B C D E P Q S cs T n nB nC nD m p q cA cB cC cD cE cP cQ V hn hnB hnC hnD hm hp hq hA hB hC hD hE hP hQ (hS.below hV (Nat.le_refl _)) (hcs.below hV (Nat.le_refl _)) (hT.below hV (Nat.le_refl _)));have FD:Hid (u=0-> ∀(k:Nat) V,k<n->Below w.heap.size w V->Calls Try.prog 85 #[.agg #[.slice P p cP,.slice Q q cQ],.int .i64 k] V (fun e w'=>e=.returned (.int .i64 (drP T k p))/\Below V.heap.size V w')):=zh (fun h k V hk hV=>by
  obtain⟨_,_,_,_,e1,e2,h8,_,_⟩:=HKB h;exact uV P Q T p q cP cQ k V hp hq (by omega) (by omega) hP hQ (hT.below hV (Nat.le_refl _)) (by have:=(lQ (hu.symm.trans h)).slot (k:=k) (by omega);rwa [<-hm,<-e1]at this))
 have FX:Hid (u=0-> ∀V,Below w.heap.size w V->Calls Try.prog 53 #[.agg #[.slice A n cA,.slice B nB cB,.slice C nC cC,.slice D nD cD],.int .i64 (bU-1)] V (fun e w'=> ∃(G:Option Addr) (c:Nat),e=.returned (.agg #[.slice G n c,.slice B nB cB,.slice C nC cC,.slice D nD cD])/\(n<=c/\c<=9223372036854775807)/\bH w' G B C D (cpS S (bU-1))/\Below V.heap.size V w')):=zh (fun h V hV=>by
  obtain⟨_,_,_,_,_,_,_,h1,h48⟩:=HKB h;refine(Cy A B C D S (bU-1) n nB nC nD cA cB cC cD V hn (by omega) hA (hS.below hV (Nat.le_refl _)).1).mono ?_;rintro e w' ⟨G,c,rfl,hc,hO,hb⟩;exact⟨G,c,rfl,hc,((hS.below hV (Nat.le_refl _)).below hb (Nat.le_refl _)).capped hn hO,hb⟩)
 have FB:Hid (u=0->0<bU-> ∀(G:Option Addr) (c:Nat) V,Below w.heap.size w V->(n<=c/\c<=9223372036854775807)->bH V G B C D (cpS S (bU-1))->Calls Try.prog 77 #[.agg #[.slice G n c,.slice B nB cB,.slice C nC cC,.slice D nD cD],.slice E m cE] V (NtV N k0 l V)):=zh (fun h hpk G c V hV hc hSV=>by
  obtain⟨h0,rfl,rfl,rfl,_⟩:=HKB h;exact(Cv G B C D E (cpS S (bU-1)) cs _ m c cB cC cD cE V (mP h0 (by omega)) (by rw[kz];exact hn) hm hc hB hC hD hE hSV (hcs.below hV (Nat.le_refl _))).mono (fun _ _ h=>R77.v hN hk hl h))
 have FL:Hid (∀(G M:Option Addr) (c d:Nat) (V:World),Below w.heap.size w V->dm V G M N->(k0<=c/\c<=9223372036854775807)->(l<=d/\d<=9223372036854775807)->Calls Try.prog 19 #[.agg #[.slice G k0 c,.slice M l d],.slice Y y cY] V (fun e w'=>e=.returned (.tuple #[.int .i64 lv,.int .i64 le])/\Below V.heap.size V w')):=zh (fun G M c d V hV hN hc hd=>by rw[hle,hlv];exact Ma G M Y N ps k0 l y c d cY V hk hl hy hc hd hY hN (hI.below hV (Nat.le_refl _)));have HKN:Hid (u=0->0<bU->k0<=833):=zh (fun h hpk=>by rw[hk,hN];show(kU (cpS S (bU-1)) cs).length<=833;rw[eF];exact(dM (mP (HKB h).1 (by omega))).1);have HKK:Hid (u=0->1<=n/\n<=48):=zh (fun h=>(HKB h).2.2.2.2.2.2.2);rw[<-hz];clear HKB hz hn hnB hnC hnD hm hp hq hS hcs hT hI hN hu hle hlv hk hl hy;have HB:=zh (((Below.refl w.heap.size w).alloc (Nat.le_refl _) (.cells #[.slice A n cA,.slice B nB cB,.slice C nC cC,.slice D nD cD] 51)).alloc (by simp) (.cells #[.slice P p cP,.slice Q q cQ] 55));have XS:=zh ((Blk.new' w #[.slice A n cA,.slice B nB cB,.slice C nC cC,.slice D nD cD] 51).alloc (.cells #[.slice P p cP,.slice Q q cQ] 55));have XT:=zh (show Blk ((w.alloc (.cells #[.slice A n cA,.slice B nB cB,.slice C nC cC,.slice D nD cD] 51)).alloc (.cells #[.slice P p cP,.slice Q q cQ] 55)) (w.heap.size+1) 55 [.slice P p cP,.slice Q q cQ]from by simpa using Blk.new' (w.alloc (.cells #[.slice A n cA,.slice B nB cB,.slice C nC cC,.slice D nD cD] 51)) #[.slice P p cP,.slice Q q cQ] 55);go_enter Try.func48,Try.ntmps48;go_upto_region 1 with fail
 generalize (w.alloc (.cells #[.slice A n cA,.slice B nB cB,.slice C nC cC,.slice D nD cD] 51)).alloc (.cells #[.slice P p cP,.slice Q q cQ] 55)=w1 at HB XS XT ⊢;have s0:=XS.cell 0 rfl;have s1:=XS.cell 1 rfl;have s2:=XS.cell 2 rfl;have s3:=XS.cell 3 rfl;have sl:=XS.lt;have t0:=XT.cell 0 rfl;have t1:=XT.cell 1 rfl;have tl:=XT.lt;go_wp2_with fail
 refine(FC.out w1 HB.out).mono ?_;rintro e w2 ⟨rfl,hb⟩;clear s0 s1 s2 s3 sl t0 t1 tl;have XS:=zh (XS.below hb XS.lt);have XT:=zh (XT.below hb XT.lt);have HB:=zh (HB.trans (hb.mono HB.size));clear hb
 by_cases h0:u=0
 rotate_left
 ·have hb0:(u==0)=false:=by simpa using h0
  have EE:z=u:=HZ.out h0;clear h0;have s0:=XS.cell 0 rfl;have s1:=XS.cell 1 rfl;have s2:=XS.cell 2 rfl;have s3:=XS.cell 3 rfl;have sl:=XS.lt;have t0:=XT.cell 0 rfl;have t1:=XT.cell 1 rfl;have tl:=XT.lt;go_wp2_with fail
  refine(FC.out w2 HB.out).mono ?_;rintro e w3 ⟨rfl,hb⟩;have HB:=zh (HB.trans (hb.mono HB.size));clear s0 s1 s2 s3 sl t0 t1 tl hb;go_wp2_with fail
  go_ret;exact⟨ah EE.symm,HB.out⟩
 have HR1:=zh (HR.out h0);have HG1:=zh (HG.out h0);have HF1:=zh (HF.out h0);have FD1:=zh (FD.out h0);have FX1:=zh (FX.out h0);have FB1:=zh (FB.out h0);have Xc:=zh (HKN.out h0);have YI:=HKK.out h0;clear HR HG HF FD FX FB HKN HKK HZ FC;subst h0
 by_cases hpk:0<=bU/\bU<=1048576
 rotate_left
 ·have hw:inB bU 0 1048576=false:=decide_eq_false hpk
  have EE:z=3:=HR1.out hpk;go_wp2_with fail
  refine(bR _ _ _ _).mono ?_;rintro e w3 ⟨rfl,rfl⟩;rw[hw];go_wp2_with fail
  go_ret;exact⟨ah EE.symm,HB.out⟩
 have hw:inB bU 0 1048576=true:=decide_eq_true hpk;have s0:=XS.cell 0 rfl;have s1:=XS.cell 1 rfl;have s2:=XS.cell 2 rfl;have s3:=XS.cell 3 rfl;have sl:=XS.lt;have t0:=XT.cell 0 rfl;have t1:=XT.cell 1 rfl;have tl:=XT.lt;go_wp2_with fail
 refine(bR _ _ _ _).mono ?_;rintro e w3 ⟨rfl,rfl⟩;rw[hw];go_wp2_with fail
 clear s0 s1 s2 s3 sl t0 t1 tl;clear hw;have HJ0:Hid (Below w.heap.size w w2/\Blk w2 w.heap.size 51 [.slice A n cA,.slice B nB cB,.slice C nC cC,.slice D nD cD]/\Blk w2 (w.heap.size+1) 55 [.slice P p cP,.slice Q q cQ]/\ ∀j,j<0->drP T j p<=bU):=zh ⟨HB.out,XS.out,XT.out,fun j h=>absurd h (Nat.not_lt_zero _)⟩
 go_loopw [11] (fun iv wr=> ∃k:Nat,k<=n/\iv=.int .i64 k/\Hid (Below w.heap.size w wr/\Blk wr w.heap.size 51 [.slice A n cA,.slice B nB cB,.slice C nC cC,.slice D nD cD]/\Blk wr (w.heap.size+1) 55 [.slice P p cP,.slice Q q cQ]/\ ∀j,j<k->drP T j p<=bU)) (fun iv _=>n-(intOf iv).toNat)
 case atStart=>exact⟨0,Nat.zero_le _,rfl,HJ0⟩
 case round=>
  clear HJ0 XS XT HB;obtain⟨k,hk,rfl,HJ⟩:=hrel;have HB:=zh HJ.1;have XS:=zh HJ.2.1;have XT:=zh HJ.2.2.1;have HA:=zh HJ.2.2.2;clear HJ
  by_cases hlt:k<n
  ·have hki:(k:Int)<(n:Int):=by omega
   have s0:=XS.cell 0 rfl;have s1:=XS.cell 1 rfl;have s2:=XS.cell 2 rfl;have s3:=XS.cell 3 rfl;have sl:=XS.lt;have t0:=XT.cell 0 rfl;have t1:=XT.cell 1 rfl;have tl:=XT.lt;go_wp2_with fail
   refine(FD1.out k wr hlt HB.out).mono ?_;rintro e w4 ⟨rfl,hb⟩;clear s0 s1 s2 s3 sl t0 t1 tl;have XS:=zh (XS.below hb XS.lt);have XT:=zh (XT.below hb XT.lt);have HB:=zh (HB.trans (hb.mono HB.size));clear hb;have HG2:=zh (HG1.out hpk k hlt);have HA2:Hid (drP T k p<=bU-> ∀j,j<k+1->drP T j p<=bU):=zh (fun h j hj=>by rcases Nat.lt_or_ge j k with h1|h1;exact HA.out j h1;obtain rfl:j=k:=(by omega);exact h);generalize drP T k p=dv at *
   by_cases hd:bU<dv
   ·have d1:decide (bU<dv)=true:=decide_eq_true hd
    have EE:z=17:=HG2.out hd;go_wp2_with fail
    go_ret;exact⟨ah EE.symm,HB.out⟩
   have d1:decide (bU<dv)=false:=decide_eq_false hd;have HE:Hid (Below w.heap.size w w4/\Blk w4 w.heap.size 51 [.slice A n cA,.slice B nB cB,.slice C nC cC,.slice D nD cD]/\Blk w4 (w.heap.size+1) 55 [.slice P p cP,.slice Q q cQ]/\ ∀j,j<k+1->drP T j p<=bU):=zh ⟨HB.out,XS.out,XT.out,HA2.out (by omega)⟩;go_wp2_with fail
   exact⟨⟨k+1,by omega,by go_num,HE⟩,by simp[intOf];omega⟩
  ·obtain rfl:n=k:=by omega
   have HF2:=zh (HF1.out hpk HA.out);clear HF1 HG1 HR1 FD1 HA;have s0:=XS.cell 0 rfl;have s1:=XS.cell 1 rfl;have s2:=XS.cell 2 rfl;have s3:=XS.cell 3 rfl;have sl:=XS.lt;have t0:=XT.cell 0 rfl;have t1:=XT.cell 1 rfl;have tl:=XT.lt
   by_cases hp0:bU=0
   ·have b0:(bU==0)=true:=by simpa using hp0
    have HF3:=zh (HF2.trans (if_pos hp0));clear hp0 HF2
    by_cases hy:y=0
    ·have EE:z=0:=HF3.trans (if_pos hy)
     have d1:((y:Int)==0)=true:=by simp;omega
     clear HF3;go_wp2_with fail
     go_ret;exact⟨ah EE.symm,HB.out⟩
    ·have EE:z=19:=HF3.trans (if_neg hy)
     have d1:((y:Int)==0)=false:=by simp;omega
     clear HF3;go_wp2_with fail
     go_ret;exact⟨ah EE.symm,HB.out⟩
   have b0:(bU==0)=false:=by simpa using hp0
   have HF3:=zh (HF2.trans (if_neg hp0));have hpp:0<bU:=by omega
   have w1s:IntKind.i64.wrap (bU-1)=bU-1:=IntWalk.i64_in _ (by omega);clear HF2;go_wp2_with fail
   refine(FX1.out wr HB.out).mono ?_;rintro e w3 ⟨G,c,rfl,hc,hSA,hb⟩;clear s0 s1 s2 s3 sl t0 t1 tl w1s;have HB:=zh (HB.trans (hb.mono HB.size));have HSA:=zh hSA;have HC:=zh hc;clear hb hSA hc XS XT;go_wp2_with fail
   refine(FB1.out hpp G c w3 HB.out HC.out HSA.out).mono ?_;rintro e w4 ⟨gs,M,c4,rfl,hNA,hc4,hb⟩;have HB:=zh (HB.trans (hb.mono HB.size));have HC4:=zh hc4;have HNA:=zh hNA;clear hb hNA hc4 HSA HC;go_wp2_with fail
   refine(FL.out _ _ _ _ w4 HB.out HNA.out ⟨Nat.le_refl _,by have:=Xc.out hpp;omega⟩ HC4.out).mono ?_;rintro e w5 ⟨rfl,hb⟩;have HB:=zh (HB.trans (hb.mono HB.size));clear hb HNA
   by_cases h1:le=0
   rotate_left
   ·have hb1:(le==0)=false:=by simpa using h1
    have EE:z=le:=HF3.trans (if_neg h1);clear h1;go_wp2_with fail
    go_ret;exact⟨ah EE.symm,HB.out⟩
   have HF4:=zh (HF3.trans (if_pos h1));clear HF3;subst h1
   by_cases h2:lv=0
   ·have EE:z=19:=HF4.trans (if_pos h2)
    subst h2;go_wp2_with fail
    go_ret;exact⟨ah EE.symm,HB.out⟩
   have hb2:(lv==0)=false:=by simpa using h2
   have EE:z=0:=HF4.trans (if_neg h2);clear h2;go_wp2_with fail
   go_ret;exact⟨ah EE.symm,HB.out⟩
namespace Dp
theorem Pq {S:Site} {cs:List Car} {T:Tab} {p:List Int} (h:KJ S cs T p):cbE S cs T p=0/\oM S cs T=prc S T cs.length S.lim.length/\plE S cs T=0:=by
 have h1:oM S cs T=prc S T cs.length S.lim.length:=if_pos h.ok;refine⟨?_,h1,h.ok⟩;unfold cbE;rw[if_pos h.ok,if_pos h.pe,if_pos (h1.trans h.pv.symm)]
theorem Rq {S:Site} {cs:List Car} {pk:Int} {T:Tab} {cut:List Int} (h0:stE S cs=0) (h:LQ S cs pk T cut):pkE S cs pk T cut=0:=by
 have hc:=wu h0 h.ok;have hl:T.inn.length=cs.length:=(lQ hc.1).li;unfold pkE;rw[if_pos hc.1,if_pos h.bd,if_pos (LJ (fun k hk=>by rw[hl];exact hc.2 k hk))]
 by_cases hp:pk=0
 ·rw[if_pos hp,h.z hp];rfl
 ·have hb:=h.bd
  obtain⟨h1,h2,_⟩:=h.no (by omega);have h3:=II (jq (mP h0 (show 0<=pk-1 by omega))) h1;rw[if_neg hp,if_pos h3.1,if_neg (by rw[h3.2];omega)]
end Dp
open Dp
def Qh (S:Site) (cs:List Car) (m k:Nat) (e:Ending) (w':World):Prop:=
 (stE S cs≠0/\e=.returned (.tuple #[.agg #[.slice none 0 0,.slice none 0 0],.slice none 0 0,.int .i64 (stE S cs)]))∨
 (stE S cs=0/\e=.returned (.tuple #[.agg #[.slice none 0 0,.slice none 0 0],.slice none 0 0,.int .i64 18])/\ ∀T,plE S cs T≠0)∨
 (stE S cs=0/\ ∃(g1 g2 gp:Nat) (T:Tab) (ps:List Int),e=.returned (.tuple #[.agg #[.slice (some ⟨g1,0,none⟩) m m,.slice (some ⟨g2,0,none⟩) m m],.slice (some ⟨gp,0,none⟩) k k,.int .i64 0])/\eu w' (some ⟨g1,0,none⟩) (some ⟨g2,0,none⟩) T/\m=T.inn.length/\m=T.out.length/\aH w' (some ⟨gp,0,none⟩) ps/\k=ps.length/\KJ S cs T ps)
theorem qj.u {S:Site} {cs:List Car} {w w':World} {e:Ending} {m k:Nat} (hm:m=cs.length) (hk:k=bK S cs) (hn:S.lim.length<=9223372036854775807) (h:qj S cs w e w'):Qh S cs m k e w':=by
 subst hm hk
 rcases h with h|h|⟨h0,g1,g2,gp,gI,gO,RI,RO,p,rfl,h1,h2,h3,h4,h5⟩
 ·exact .inl h
 ·exact .inr (.inl h)
 ·exact .inr (.inr ⟨h0,g1,g2,gp,_,p,rfl,RwJ.tab2 h1 h2 hn,by simp,by simp,h3.ints,h4.symm,h5⟩)
def Qi (S:Site) (cs:List Car) (m:Nat) (e:Ending) (w':World):Prop:=
 (stE S cs≠0/\e=.returned (.tuple #[.int .i64 0,.agg #[.slice none 0 0,.slice none 0 0],.slice none 0 0,.int .i64 (stE S cs)]))∨
 (stE S cs=0/\e=.returned (.tuple #[.int .i64 0,.agg #[.slice none 0 0,.slice none 0 0],.slice none 0 0,.int .i64 18])/\ ∀T,plE S cs T≠0)∨
 (stE S cs=0/\ ∃(pk:Int) (g1 g2:Nat) (U:Tab) (Y:Option Addr) (y cY:Nat) (cut:List Int),e=.returned (.tuple #[.int .i64 pk,.agg #[.slice (some ⟨g1,0,none⟩) m m,.slice (some ⟨g2,0,none⟩) m m],.slice Y y cY,.int .i64 0])/\eu w' (some ⟨g1,0,none⟩) (some ⟨g2,0,none⟩) U/\m=U.inn.length/\m=U.out.length/\y=cut.length/\aH w' Y cut/\(y<=cY/\cY<=9223372036854775807)/\LQ S cs pk U cut)
theorem qm.u {S:Site} {cs:List Car} {w w':World} {e:Ending} {m:Nat} (hm:m=cs.length) (hn:S.lim.length<=9223372036854775807) (h:qm S cs w e w'):Qi S cs m e w':=by
 subst hm
 rcases h with h|h|⟨h0,pk,g1,g2,gI,gO,RI,RO,Y,y,cY,cut,rfl,h1,h2,h3,h4,h5,h6⟩
 ·exact .inl h
 ·exact .inr (.inl h)
 ·exact .inr (.inr ⟨h0,pk,g1,g2,_,Y,y,cY,cut,rfl,RwJ.tab2 h1 h2 hn,by simp,by simp,h3,h4,h5,h6⟩)
end Go.Proofs.Ytmebpglkeedaoaa
namespace Go.Proofs.Ytmebpglkeedaoaa
open Go.RowKit Dp
@[go_sem] theorem YJ:bits BinOp.and IntKind.i64 0 1=0:=by kernel_rfl
@[go_sem] theorem YK:bits BinOp.and IntKind.i64 1 1=1:=by kernel_rfl
@[go_sem] theorem YL:bits BinOp.and IntKind.i64 2 1=0:=by kernel_rfl
@[go_sem] theorem Xd:bits BinOp.or IntKind.i64 0 1=1:=by kernel_rfl
@[go_sem] theorem Xe:bits BinOp.or IntKind.i64 0 2=2:=by kernel_rfl
@[go_sem] theorem Xf:bits BinOp.or IntKind.i64 1 2=3:=by kernel_rfl
@[go_sem] theorem Xg:bits BinOp.or IntKind.i64 2 1=3:=by kernel_rfl
structure AsJ (w:World) (gL gA gB r gb:Nat) (b0 b1 b2 b3:Int) (W:World):Prop where
 co:CO W gL gA gB
 res:Blk W r 87 [.slice none 0 0,.int .i64 0,.slice none 0 0,.slice none 0 0]
 best:Blk W gb 2 [.int .i64 b0,.int .i64 b1,.int .i64 b2,.int .i64 b3]
 nL:gL≠gb
 nA:gA≠gb
 nB:gB≠gb
 nr:r≠gb
 own:w.heap.size<=gb
 bel:Below w.heap.size w W
theorem AsJ.drew {w W:World} {gL gA gB r gb:Nat} {b0 b1 b2 b3:Int} (h:AsJ w gL gA gB r gb b0 b1 b2 b3 W):AsJ w gL gA gB r gb b0 b1 b2 b3 W.drew:=
 ⟨⟨h.co.L,h.co.A,h.co.B⟩,h.res,h.best,h.nL,h.nA,h.nB,h.nr,h.own,h.bel.drew⟩
theorem AsJ.set0 {w W:World} {gL gA gB r gb:Nat} {b0 b1 b2 b3:Int} (h:AsJ w gL gA gB r gb b0 b1 b2 b3 W) (x:Int):AsJ w gL gA gB r gb x b1 b2 b3 (W.setCell ⟨gb,0,none⟩ (.int .i64 x)):=
 ⟨⟨h.co.L.setCell_ne h.nL _,h.co.A.setCell_ne h.nA _,h.co.B.setCell_ne h.nB _⟩,h.res.setCell_ne h.nr _,h.best.setCell 0 _,h.nL,h.nA,h.nB,h.nr,h.own,h.bel.setCell h.own _⟩
theorem AsJ.set1 {w W:World} {gL gA gB r gb:Nat} {b0 b1 b2 b3:Int} (h:AsJ w gL gA gB r gb b0 b1 b2 b3 W) (x:Int):AsJ w gL gA gB r gb b0 x b2 b3 (W.setCell ⟨gb,1,none⟩ (.int .i64 x)):=
 ⟨⟨h.co.L.setCell_ne h.nL _,h.co.A.setCell_ne h.nA _,h.co.B.setCell_ne h.nB _⟩,h.res.setCell_ne h.nr _,h.best.setCell 1 _,h.nL,h.nA,h.nB,h.nr,h.own,h.bel.setCell h.own _⟩
theorem AsJ.set2 {w W:World} {gL gA gB r gb:Nat} {b0 b1 b2 b3:Int} (h:AsJ w gL gA gB r gb b0 b1 b2 b3 W) (x:Int):AsJ w gL gA gB r gb b0 b1 x b3 (W.setCell ⟨gb,2,none⟩ (.int .i64 x)):=
 ⟨⟨h.co.L.setCell_ne h.nL _,h.co.A.setCell_ne h.nA _,h.co.B.setCell_ne h.nB _⟩,h.res.setCell_ne h.nr _,h.best.setCell 2 _,h.nL,h.nA,h.nB,h.nr,h.own,h.bel.setCell h.own _⟩
theorem AsJ.start {w V:World} {gL gA gB r:Nat} (h:CO V gL gA gB) (hr:Blk V r 87 [.slice none 0 0,.int .i64 0,.slice none 0 0,.slice none 0 0]) (hb:Below w.heap.size w V):AsJ w gL gA gB r V.heap.size 0 0 0 0 (V.alloc (.cells (Array.replicate 4 (.int .i64 0)) 2)):=by
 have b2:=hb.alloc hb.size (.cells (Array.replicate 4 (.int .i64 0)) 2);have l1:=h.L.lt;have l2:=h.A.lt;have l3:=h.B.lt;have l4:=hr.lt;have l5:=hb.size;have r2:=Blk.new' V (Array.replicate 4 (.int .i64 0)) 2;refine⟨⟨h.L.alloc _,h.A.alloc _,h.B.alloc _⟩,hr.alloc _,?_,by omega,by omega,by omega,by omega,by omega,b2⟩;simpa using r2
def Md:Prop:= ∀(gL gA gB:Nat) (V:World),CO V gL gA gB->Calls Try.prog 96 #[.slice (some ⟨gL,0,none⟩) 2 2,.int .i64 2] V fun e V'=> ∃R rn rc Q qn qc,e=.returned (.tuple #[.slice R rn rc,.slice Q qn qc])/\Below V.heap.size V V'
structure AsM (w:World) (gL gA gB r gb gm:Nat) (A:Option Addr) (n cap:Nat) (cs:List Value) (W:World):Prop where
 j:AsJ w gL gA gB r gb 3 3 2 0 W
 m:Blk W gm 87 [.slice A n cap,.int .i64 3,.slice none 0 0,.slice none 0 0]
 own:W.ownsRow (gm+1) 3 1 (.slice A n cap) n cs
 lt:gL<gm/\gA<gm/\gB<gm/\r<gm/\gb<gm
theorem AsJ.below {w W V:World} {gL gA gB r gb:Nat} {b0 b1 b2 b3:Int} (h:AsJ w gL gA gB r gb b0 b1 b2 b3 W) (hb:Below W.heap.size W V):AsJ w gL gA gB r gb b0 b1 b2 b3 V:=
 ⟨h.co.below hb (Nat.le_refl _),h.res.below hb h.res.lt,h.best.below hb h.best.lt,h.nL,h.nA,h.nB,h.nr,h.own,h.bel.trans (hb.mono h.bel.size)⟩
theorem AsM.below {w W V:World} {gL gA gB r gb gm n cap:Nat} {A:Option Addr} {cs:List Value} (h:AsM w gL gA gB r gb gm A n cap cs W) (hb:Below W.heap.size W V):AsM w gL gA gB r gb gm A n cap cs V:=
 ⟨h.j.below hb,h.m.below hb h.m.lt,bF h.own hb,h.lt⟩
theorem AsM.alloc {w W:World} {gL gA gB r gb gm n cap:Nat} {A:Option Addr} {cs:List Value} (h:AsM w gL gA gB r gb gm A n cap cs W) (o:Obj):AsM w gL gA gB r gb gm A n cap cs (W.alloc o):=
 h.below ((Below.refl _ _).alloc (Nat.le_refl _) o)
theorem AsM.start {w W:World} {gL gA gB r gb:Nat} (h:AsJ w gL gA gB r gb 3 3 2 0 W):AsM w gL gA gB r gb W.heap.size none 0 0 [] (W.alloc (.cells #[.slice none 0 0,.int .i64 3,.slice none 0 0,.slice none 0 0] 87)):=
 ⟨h.below ((Below.refl _ _).alloc (Nat.le_refl _) _),Blk.new' W _ 87,World.ownsRow_nil _ _ _ _,h.co.L.lt,h.co.A.lt,h.co.B.lt,h.res.lt,h.best.lt⟩
theorem AsM.mid {w W V:World} {gL gA gB r gb gm n cap:Nat} {A:Option Addr} {cs:List Value} (h:AsM w gL gA gB r gb gm A n cap cs W) (hg:W.grownBy V (Value.slice A n cap).ownBlock):
 Blk V gm 87 [.slice A n cap,.int .i64 3,.slice none 0 0,.slice none 0 0]/\AsJ w gL gA gB r gb 3 3 2 0 V:=by
 have hk: ∀k,(Value.slice A n cap).ownBlock=some k->gm+1<=k:=fun k e=>(World.ownsRow.lt h.own k e).1
 have hne: ∀k,k<=gm->some k≠(Value.slice A n cap).ownBlock:=fun k hk' e=>by have:=hk k e.symm;omega
 have hl:=h.lt;have ho:=h.j.own;have hbs:=h.j.bel.size;exact⟨h.m.grown hg (hne _ (Nat.le_refl _)),⟨h.j.co.L.grown hg (hne _ (by omega)),h.j.co.A.grown hg (hne _ (by omega)),h.j.co.B.grown hg (hne _ (by omega))⟩,h.j.res.grown hg (hne _ (by omega)),h.j.best.grown hg (hne _ (by omega)),h.j.nL,h.j.nA,h.j.nB,h.j.nr,h.j.own,h.j.bel.grown hg hbs (fun k e=>by have:=hk k e;omega)⟩
theorem AsM.push {w W V:World} {gL gA gB r gb gm n cap n2 cap2:Nat} {A A2:Option Addr} {cs cs2:List Value} (h:AsM w gL gA gB r gb gm A n cap cs W) (hg:W.grownBy V (Value.slice A n cap).ownBlock)
 (ho:V.ownsRow (gm+1) 3 1 (.slice A2 n2 cap2) n2 cs2):AsM w gL gA gB r gb gm A2 n2 cap2 cs2 (V.setCell ⟨gm,0,none⟩ (.slice A2 n2 cap2)):=by
 obtain⟨m2,j2⟩:=h.mid hg;have hl:=h.lt;have ho2:=h.j.own;refine⟨⟨⟨j2.co.L.setCell_ne (by simp;omega) _,j2.co.A.setCell_ne (by simp;omega) _,j2.co.B.setCell_ne (by simp;omega) _⟩,j2.res.setCell_ne (by simp;omega) _,j2.best.setCell_ne (by simp;omega) _,j2.nL,j2.nA,j2.nB,j2.nr,j2.own,j2.bel.setCell (by simp;omega) _⟩,m2.setCell 0 _,?_,hl⟩;exact fT ho ⟨rfl,rfl,rfl,by simp[World.setCell],fun k hk hne=>Below.heap_setCell _ _ _ _ (fun e=>hne (by rw[e]))⟩ (row:=some gm) (fun k hk e=>by
  have:=(World.ownsRow.lt ho k (bE.1 hk)).1
  cases e;omega)
theorem final {w W:World} {gL gA gB r gb gm n cap:Nat} {A:Option Addr} {cs:List Value} (h:AsM w gL gA gB r gb gm A n cap cs W) (R Q:Option Addr) (rn rc qn qc:Nat) (U:World:=(W.setCell ⟨gm,2,none⟩ (.slice R rn rc)).setCell ⟨gm,3,none⟩ (.slice Q qn qc)) (hU:U=(W.setCell ⟨gm,2,none⟩ (.slice R rn rc)).setCell ⟨gm,3,none⟩ (.slice Q qn qc):=by rfl):
 Blk U r 87 [.slice none 0 0,.int .i64 0,.slice none 0 0,.slice none 0 0]/\Blk U gm 87 [.slice A n cap,.int .i64 3,.slice R rn rc,.slice Q qn qc]/\U.ownsRow (gm+1) 3 1 (.slice A n cap) n cs/\Below w.heap.size w U:=by
 subst hU;have hl:=h.lt;have ho:=h.j.own;have row: ∀(V:World) (o:Nat) (x:Value),V.ownsRow (gm+1) 3 1 (.slice A n cap) n cs->(V.setCell ⟨gm,o,none⟩ x).ownsRow (gm+1) 3 1 (.slice A n cap) n cs:=fun V o x hV=>
  fT hV ⟨rfl,rfl,rfl,by simp[World.setCell],fun k hk hne=>Below.heap_setCell _ _ _ _ (fun e=>hne (by rw[e]))⟩ (row:=some gm) (fun k hk e=>by
   have:=(World.ownsRow.lt hV k (bE.1 hk)).1
   cases e;omega)
 exact⟨(h.j.res.setCell_ne (by simp;omega) _).setCell_ne (by simp;omega) _,(h.m.setCell 2 _).setCell 3 _,row _ _ _ (row _ _ _ h.own),(h.j.bel.setCell (by simp;omega) _).setCell (by simp;omega) _⟩
theorem Rs {w U:World} {r gm n cap:Nat} {A R Q:Option Addr} {cs:List Value} {rn rc qn qc:Nat} (h:Blk U r 87 [.slice none 0 0,.int .i64 0,.slice none 0 0,.slice none 0 0]/\Blk U gm 87 [.slice A n cap,.int .i64 3,.slice R rn rc,.slice Q qn qc]/\U.ownsRow (gm+1) 3 1 (.slice A n cap) n cs/\Below w.heap.size w U)
 (hr:w.heap.size<=r) (hm:r<gm) (Z:World) (hZ:Z=(((U.setCell ⟨r,0,none⟩ (.slice A n cap)).setCell ⟨r,1,none⟩ (.int .i64 3)).setCell ⟨r,2,none⟩ (.slice R rn rc)).setCell ⟨r,3,none⟩ (.slice Q qn qc)):
 Blk Z r 87 [.slice A n cap,.int .i64 3,.slice R rn rc,.slice Q qn qc]/\Z.ownsRow w.heap.size 3 1 (.slice A n cap) n cs/\Below w.heap.size w Z:=by
 subst hZ;have row: ∀(V:World) (o:Nat) (x:Value),V.ownsRow (gm+1) 3 1 (.slice A n cap) n cs->(V.setCell ⟨r,o,none⟩ x).ownsRow (gm+1) 3 1 (.slice A n cap) n cs:=fun V o x hV=>
  fT hV ⟨rfl,rfl,rfl,by simp[World.setCell],fun k hk hne=>Below.heap_setCell _ _ _ _ (fun e=>hne (by rw[e]))⟩ (row:=some r) (fun k hk e=>by
   have:=(World.ownsRow.lt hV k (bE.1 hk)).1
   cases e;omega)
 have ro:=row _ 3 (.slice Q qn qc) (row _ 2 (.slice R rn rc) (row _ 1 (.int .i64 3) (row _ 0 (.slice A n cap) h.2.2.1)));exact⟨(((h.1.setCell 0 _).setCell 1 _).setCell 2 _).setCell 3 _,⟨ro.1,ro.2.imp id (fun ⟨k,c,cur,hv,hb',r⟩=>⟨k,c,cur,hv,by omega,r⟩)⟩,(((h.2.2.2.setCell hr _).setCell hr _).setCell hr _).setCell hr _⟩
theorem Me (HD:Md) (gL gA gB:Nat) (w:World) (h:CO w gL gA gB):Calls Try.prog 56 #[.slice (some ⟨gL,0,none⟩) 2 2] w fun e w'=> ∃A c R rn rc Q qn qc,e=.returned (.tuple #[.agg #[.slice A 2 c,.int .i64 3,.slice R rn rc,.slice Q qn qc],.int .i64 0])/\w'.ownsRow w.heap.size 3 1 (.slice A 2 c) 2 [.int .i64 1,.int .i64 0]/\Below w.heap.size w w':=by
 have HB:=zh ((Below.refl w.heap.size w).alloc (Nat.le_refl _) (.cells #[.slice none 0 0,.int .i64 0,.slice none 0 0,.slice none 0 0] 87));have HR:=zh (Blk.new' w #[.slice none 0 0,.int .i64 0,.slice none 0 0,.slice none 0 0] 87);have B1:=zh (h.below HB.out (Nat.le_refl _));obtain⟨i3,h3i,h3z,h3s,h3b⟩:=info_parts Bn;clear h;go_enter Try.func56,Try.ntmps56;go_wp2_with fail
 go_step3
 generalize w.alloc (.cells #[.slice none 0 0,.int .i64 0,.slice none 0 0,.slice none 0 0] 87)=w1 at HB HR B1 ⊢;obtain⟨r,hr⟩: ∃r,r=w.heap.size:=⟨_,rfl⟩;rw[<-hr]at HR ⊢;have HRR:Hid (w.heap.size<=r):=zh (Nat.le_of_eq hr.symm);clear hr;go_wp2_with fail
 refine(wV gL gA gB _ B1.out).mono ?_;rintro e w2 ⟨rfl,rfl⟩;go_wp2_with fail
 have l0:=B1.L.cell 0 rfl;have l9:=B1.L.lt;refine wrp ?_
 repeat(go_big_quiet_step (fail))
 refine wpQuiet_nil ?_;intro xx;have J1:=zh (AsJ.start (B1.below xx.far (Nat.le_refl _)) (HR.below xx.far HR.lt) (HB.trans (xx.far.mono HB.size)));clear l0 l9 B1 HR HB;generalize xx.w=w2 at J1 ⊢;have hm1: ∀W:World,(Instr.makeSlice 22 (.int .i64 4) (.int .i64 4)).run Try.prog W=.ok (.slice (some ⟨W.heap.size,0,none⟩) 4 4) (W.alloc (.cells (Array.replicate 4 (.int .i64 0)) 2)):=gZ 4 (by omega);generalize hgb:w2.heap.size=gb at *;go_upto_region 6 with fail
 generalize w2.alloc (.cells (Array.replicate 4 (.int .i64 0)) 2)=w3 at J1 ⊢;go_wp2_with fail
 refine wp_loop_rounds 5 ?_;rw[rounds_succ];go_wp2_with fail
 refine(QJ _).mono ?_;rintro e w2 ⟨rfl,rfl⟩;go_wp2_with fail
 rw[rounds_succ];go_wp2_with fail
 refine(QI _).mono ?_;rintro e w2 ⟨rfl,rfl⟩;have l0:=J1.co.L.cell 0 rfl;have l1:=J1.co.L.cell 1 rfl;have a0:=J1.co.A.cell 0 rfl;have a1:=J1.co.A.cell 1 rfl;have b0:=J1.co.B.cell 0 rfl;have b1:=J1.co.B.cell 1 rfl;have s0:=J1.best.cell 0 rfl;have s1:=J1.best.cell 1 rfl;have s2:=J1.best.cell 2 rfl;have s3:=J1.best.cell 3 rfl;have z0:=J1.best.free 0;have z1:=J1.best.free 1;have z2:=J1.best.free 2;have z3:=J1.best.free 3;go_upto_region 12 with fail
 clear l0 l1 a0 a1 b0 b1 s0 s1 s2 s3 z0 z1 z2 z3;refine iV (fun W=>AsJ w gL gA gB r gb 0 0 1152921504606846976 0 W) (J1.set2 1152921504606846976) ?_;rintro w12 hj;have J2:=zh hj;clear hj;have l0:=J2.co.L.cell 0 rfl;have l1:=J2.co.L.cell 1 rfl;have a0:=J2.co.A.cell 0 rfl;have a1:=J2.co.A.cell 1 rfl;have b0:=J2.co.B.cell 0 rfl;have b1:=J2.co.B.cell 1 rfl;have s0:=J2.best.cell 0 rfl;have s1:=J2.best.cell 1 rfl;have s2:=J2.best.cell 2 rfl;have s3:=J2.best.cell 3 rfl;have z0:=J2.best.free 0;have z1:=J2.best.free 1;have z2:=J2.best.free 2;have z3:=J2.best.free 3;go_wp2_with fail
 refine wp_loop_rounds 3 ?_;rw[rounds_succ];go_wp2_with fail
 clear l0 l1 a0 a1 b0 b1 s0 s1 s2 s3 z0 z1 z2 z3;refine aD 17 [false] [] ?af_2_0 (fun V=>AsJ w gL gA gB r gb 0 0 1152921504606846976 0 V) (by kernel_rfl) (by kernel_rfl) J2.drew ?UH ?_
 case UH=>
  intro V hV;have s2:=hV.best.cell 2 rfl;have s3:=hV.best.cell 3 rfl;have hmx: ∀ts t W,(Builtin.min_ ts t #[.int .i64 1152921504606846976,.int .i64 2]).run Try.prog W=.ok (.int .i64 2) W:=fun ts t W=>gH 1152921504606846976 2 ts t W
  clear hV;simp only[List.take_succ_cons,List.take_zero]
  repeat(go_big_quiet_step (fail))
  refine wpQuiet_nil ?_;rfl
 intro w13 hV;have J3:=zh (hV.set2 2);have s2:=hV.best.cell 2 rfl;have z2:=hV.best.free 2;clear hV;refine aI ?_;unfold eQ;go_simp;generalize w13.setCell ⟨gb,2,none⟩ (.int .i64 2)=w14 at J3 ⊢;clear s2 z2;refine bJ ?_;go_wp2_with fail
 have J4:=J3;have l0:=J4.co.L.cell 0 rfl;have l1:=J4.co.L.cell 1 rfl;have a0:=J4.co.A.cell 0 rfl;have a1:=J4.co.A.cell 1 rfl;have b0:=J4.co.B.cell 0 rfl;have b1:=J4.co.B.cell 1 rfl;have s0:=J4.best.cell 0 rfl;have s1:=J4.best.cell 1 rfl;have s2:=J4.best.cell 2 rfl;have s3:=J4.best.cell 3 rfl;have z0:=J4.best.free 0;have z1:=J4.best.free 1;have z2:=J4.best.free 2;have z3:=J4.best.free 3;rw[rounds_succ];go_wp2_with fail
 rw[rounds_succ];go_wp2_with fail
 clear l0 l1 a0 a1 b0 b1 s0 s1 s2 s3 z0 z1 z2 z3;rw[rounds_succ];go_wp2_with fail
 refine(QH _).mono ?_;rintro e w2 ⟨rfl,rfl⟩;have l0:=J4.co.L.cell 0 rfl;have l1:=J4.co.L.cell 1 rfl;have a0:=J4.co.A.cell 0 rfl;have a1:=J4.co.A.cell 1 rfl;have b0:=J4.co.B.cell 0 rfl;have b1:=J4.co.B.cell 1 rfl;have s0:=J4.best.cell 0 rfl;have s1:=J4.best.cell 1 rfl;have s2:=J4.best.cell 2 rfl;have s3:=J4.best.cell 3 rfl;have z0:=J4.best.free 0;have z1:=J4.best.free 1;have z2:=J4.best.free 2;have z3:=J4.best.free 3;go_upto_region 12 with fail
 clear l0 l1 a0 a1 b0 b1 s0 s1 s2 s3 z0 z1 z2 z3;refine iV (fun W=>AsJ w gL gA gB r gb 0 1152921504606846976 2 0 W) (J4.set1 1152921504606846976) ?_;rintro w15 hj;have J5:=zh hj;clear hj;have l0:=J5.co.L.cell 0 rfl;have l1:=J5.co.L.cell 1 rfl;have a0:=J5.co.A.cell 0 rfl;have a1:=J5.co.A.cell 1 rfl;have b0:=J5.co.B.cell 0 rfl;have b1:=J5.co.B.cell 1 rfl;have s0:=J5.best.cell 0 rfl;have s1:=J5.best.cell 1 rfl;have s2:=J5.best.cell 2 rfl;have s3:=J5.best.cell 3 rfl;have z0:=J5.best.free 0;have z1:=J5.best.free 1;have z2:=J5.best.free 2;have z3:=J5.best.free 3;go_wp2_with fail
 refine wp_loop_rounds 3 ?_;rw[rounds_succ];go_wp2_with fail
 rw[rounds_succ];go_wp2_with fail
 clear l0 l1 a0 a1 b0 b1 s0 s1 s2 s3 z0 z1 z2 z3;refine aD 17 [false] [] ?af_1_1 (fun V=>AsJ w gL gA gB r gb 0 1152921504606846976 2 0 V) (by kernel_rfl) (by kernel_rfl) J5.drew ?UI ?_
 case UI=>
  intro V hV;have s1:=hV.best.cell 1 rfl;have s3:=hV.best.cell 3 rfl;have hmx: ∀ts t W,(Builtin.min_ ts t #[.int .i64 1152921504606846976,.int .i64 3]).run Try.prog W=.ok (.int .i64 3) W:=fun ts t W=>gH 1152921504606846976 3 ts t W
  clear hV;simp only[List.take_succ_cons,List.take_zero]
  repeat(go_big_quiet_step (fail))
  refine wpQuiet_nil ?_;rfl
 intro w16 hV;have J6:=zh (hV.set1 3);have s1:=hV.best.cell 1 rfl;have z1:=hV.best.free 1;clear hV;refine aI ?_;unfold eQ;go_simp;generalize w16.setCell ⟨gb,1,none⟩ (.int .i64 3)=w17 at J6 ⊢;clear s1 z1;refine bJ ?_;go_wp2_with fail
 have J7:=J6;have l0:=J7.co.L.cell 0 rfl;have l1:=J7.co.L.cell 1 rfl;have a0:=J7.co.A.cell 0 rfl;have a1:=J7.co.A.cell 1 rfl;have b0:=J7.co.B.cell 0 rfl;have b1:=J7.co.B.cell 1 rfl;have s0:=J7.best.cell 0 rfl;have s1:=J7.best.cell 1 rfl;have s2:=J7.best.cell 2 rfl;have s3:=J7.best.cell 3 rfl;have z0:=J7.best.free 0;have z1:=J7.best.free 1;have z2:=J7.best.free 2;have z3:=J7.best.free 3;rw[rounds_succ];go_wp2_with fail
 clear l0 l1 a0 a1 b0 b1 s0 s1 s2 s3 z0 z1 z2 z3;rw[rounds_succ];go_wp2_with fail
 refine(QG _).mono ?_;rintro e w2 ⟨rfl,rfl⟩;have l0:=J7.co.L.cell 0 rfl;have l1:=J7.co.L.cell 1 rfl;have a0:=J7.co.A.cell 0 rfl;have a1:=J7.co.A.cell 1 rfl;have b0:=J7.co.B.cell 0 rfl;have b1:=J7.co.B.cell 1 rfl;have s0:=J7.best.cell 0 rfl;have s1:=J7.best.cell 1 rfl;have s2:=J7.best.cell 2 rfl;have s3:=J7.best.cell 3 rfl;have z0:=J7.best.free 0;have z1:=J7.best.free 1;have z2:=J7.best.free 2;have z3:=J7.best.free 3;go_upto_region 12 with fail
 clear l0 l1 a0 a1 b0 b1 s0 s1 s2 s3 z0 z1 z2 z3;refine iV (fun W=>AsJ w gL gA gB r gb 1152921504606846976 3 2 0 W) (J7.set0 1152921504606846976) ?_;rintro w18 hj;have J8:=zh hj;clear hj;have l0:=J8.co.L.cell 0 rfl;have l1:=J8.co.L.cell 1 rfl;have a0:=J8.co.A.cell 0 rfl;have a1:=J8.co.A.cell 1 rfl;have b0:=J8.co.B.cell 0 rfl;have b1:=J8.co.B.cell 1 rfl;have s0:=J8.best.cell 0 rfl;have s1:=J8.best.cell 1 rfl;have s2:=J8.best.cell 2 rfl;have s3:=J8.best.cell 3 rfl;have z0:=J8.best.free 0;have z1:=J8.best.free 1;have z2:=J8.best.free 2;have z3:=J8.best.free 3;go_wp2_with fail
 refine wp_loop_rounds 3 ?_;rw[rounds_succ];go_wp2_with fail
 clear l0 l1 a0 a1 b0 b1 s0 s1 s2 s3 z0 z1 z2 z3;refine aD 17 [false] [] ?af_0_0 (fun V=>AsJ w gL gA gB r gb 1152921504606846976 3 2 0 V) (by kernel_rfl) (by kernel_rfl) J8.drew ?UJ ?_
 case UJ=>
  intro V hV;have s0:=hV.best.cell 0 rfl;have s1:=hV.best.cell 1 rfl;have hmx: ∀ts t W,(Builtin.min_ ts t #[.int .i64 1152921504606846976,.int .i64 7]).run Try.prog W=.ok (.int .i64 7) W:=fun ts t W=>gH 1152921504606846976 7 ts t W
  clear hV;simp only[List.take_succ_cons,List.take_zero]
  repeat(go_big_quiet_step (fail))
  refine wpQuiet_nil ?_;rfl
 intro w19 hV;have J9:=zh (hV.set0 7);have s0:=hV.best.cell 0 rfl;have z0:=hV.best.free 0;clear hV;refine aI ?_;unfold eQ;go_simp;generalize w19.setCell ⟨gb,0,none⟩ (.int .i64 7)=w20 at J9 ⊢;clear s0 z0;refine bJ ?_;go_wp2_with fail
 have J10:=J9;have l0:=J10.co.L.cell 0 rfl;have l1:=J10.co.L.cell 1 rfl;have a0:=J10.co.A.cell 0 rfl;have a1:=J10.co.A.cell 1 rfl;have b0:=J10.co.B.cell 0 rfl;have b1:=J10.co.B.cell 1 rfl;have s0:=J10.best.cell 0 rfl;have s1:=J10.best.cell 1 rfl;have s2:=J10.best.cell 2 rfl;have s3:=J10.best.cell 3 rfl;have z0:=J10.best.free 0;have z1:=J10.best.free 1;have z2:=J10.best.free 2;have z3:=J10.best.free 3;rw[rounds_succ];go_wp2_with fail
 clear l0 l1 a0 a1 b0 b1 s0 s1 s2 s3 z0 z1 z2 z3;refine aD 17 [false] [] ?af_0_1 (fun V=>AsJ w gL gA gB r gb 7 3 2 0 V) (by kernel_rfl) (by kernel_rfl) J10.drew ?UK ?_
 case UK=>
  intro V hV;have s0:=hV.best.cell 0 rfl;have s2:=hV.best.cell 2 rfl;have hmx: ∀ts t W,(Builtin.min_ ts t #[.int .i64 7,.int .i64 3]).run Try.prog W=.ok (.int .i64 3) W:=fun ts t W=>gH 7 3 ts t W
  clear hV;simp only[List.take_succ_cons,List.take_zero]
  repeat(go_big_quiet_step (fail))
  refine wpQuiet_nil ?_;rfl
 intro w21 hV;have J11:=zh (hV.set0 3);have s0:=hV.best.cell 0 rfl;have z0:=hV.best.free 0;clear hV;refine aI ?_;unfold eQ;go_simp;generalize w21.setCell ⟨gb,0,none⟩ (.int .i64 3)=w22 at J11 ⊢;clear s0 z0;refine bJ ?_;go_wp2_with fail
 have J12:=J11;have l0:=J12.co.L.cell 0 rfl;have l1:=J12.co.L.cell 1 rfl;have a0:=J12.co.A.cell 0 rfl;have a1:=J12.co.A.cell 1 rfl;have b0:=J12.co.B.cell 0 rfl;have b1:=J12.co.B.cell 1 rfl;have s0:=J12.best.cell 0 rfl;have s1:=J12.best.cell 1 rfl;have s2:=J12.best.cell 2 rfl;have s3:=J12.best.cell 3 rfl;have z0:=J12.best.free 0;have z1:=J12.best.free 1;have z2:=J12.best.free 2;have z3:=J12.best.free 3;rw[rounds_succ];go_wp2_with fail
 rw[rounds_succ];go_wp2_with fail
 clear l0 l1 a0 a1 b0 b1 s0 s1 s2 s3 z0 z1 z2 z3
 go_step3
 have M0:=zh (AsM.start J12.out);generalize w22.heap.size=gm at *;generalize w22.alloc (.cells #[.slice none 0 0,.int .i64 3,.slice none 0 0,.slice none 0 0] 87)=v0 at M0 ⊢;have l0:=M0.j.co.L.cell 0 rfl;have l1:=M0.j.co.L.cell 1 rfl;have a0:=M0.j.co.A.cell 0 rfl;have a1:=M0.j.co.A.cell 1 rfl;have b0:=M0.j.co.B.cell 0 rfl;have b1:=M0.j.co.B.cell 1 rfl;have s0:=M0.j.best.cell 0 rfl;have s1:=M0.j.best.cell 1 rfl;have s2:=M0.j.best.cell 2 rfl;have s3:=M0.j.best.cell 3 rfl;have z0:=M0.j.best.free 0;have z1:=M0.j.best.free 1;have z2:=M0.j.best.free 2;have z3:=M0.j.best.free 3;have y0:=M0.m.cell 0 rfl;have q0:=M0.m.free 0;have lb:=M0.j.best.lt;go_wp2_with fail
 refine wp_loop_rounds 3 ?_;rw[rounds_succ];go_wp2_with fail
 refine wp_loop_rounds 3 ?_;rw[rounds_succ];go_wp2_with fail
 refine wrp ?_
 repeat(go_big_quiet_step (fail))
 refine wpQuiet_nil ?_;intro xx;have M1:=zh (M0.below xx.far);clear l0 l1 a0 a1 b0 b1 s0 s1 s2 s3 z0 z1 z2 z3 y0 q0 lb;generalize xx.w=v1 at M1 ⊢;have l0:=M1.j.co.L.cell 0 rfl;have l1:=M1.j.co.L.cell 1 rfl;have a0:=M1.j.co.A.cell 0 rfl;have a1:=M1.j.co.A.cell 1 rfl;have b0:=M1.j.co.B.cell 0 rfl;have b1:=M1.j.co.B.cell 1 rfl;have s0:=M1.j.best.cell 0 rfl;have s1:=M1.j.best.cell 1 rfl;have s2:=M1.j.best.cell 2 rfl;have s3:=M1.j.best.cell 3 rfl;have z0:=M1.j.best.free 0;have z1:=M1.j.best.free 1;have z2:=M1.j.best.free 2;have z3:=M1.j.best.free 3;have y0:=M1.m.cell 0 rfl;have q0:=M1.m.free 0;have lb:=M1.j.best.lt;go_wp2_with fail
 rw[rounds_succ];go_wp2_with fail
 refine wrp ?_
 repeat(go_big_quiet_step (fail))
 refine wpQuiet_nil ?_;intro xx;have M2:=zh (M1.below xx.far);clear l0 l1 a0 a1 b0 b1 s0 s1 s2 s3 z0 z1 z2 z3 y0 q0 lb;generalize xx.w=v2 at M2 ⊢;have l0:=M2.j.co.L.cell 0 rfl;have l1:=M2.j.co.L.cell 1 rfl;have a0:=M2.j.co.A.cell 0 rfl;have a1:=M2.j.co.A.cell 1 rfl;have b0:=M2.j.co.B.cell 0 rfl;have b1:=M2.j.co.B.cell 1 rfl;have s0:=M2.j.best.cell 0 rfl;have s1:=M2.j.best.cell 1 rfl;have s2:=M2.j.best.cell 2 rfl;have s3:=M2.j.best.cell 3 rfl;have z0:=M2.j.best.free 0;have z1:=M2.j.best.free 1;have z2:=M2.j.best.free 2;have z3:=M2.j.best.free 3;have y0:=M2.m.cell 0 rfl;have q0:=M2.m.free 0;have lb:=M2.j.best.lt;have MA:=zh (M2.alloc (.cells #[.int .i64 1] 3));have X:=zh (Blk.new' v2 #[.int .i64 1] 3);clear l0 l1 a0 a1 b0 b1 s0 s1 s2 s3 z0 z1 z2 z3 y0 q0 lb;have y0:=MA.m.cell 0 rfl;have yy:=M2.m.cell 0 rfl;go_wp2_with (at_builtin;refine ax (.tmp 134) (.tmp 136) 26 rfl rfl (gm+1) 3 i3 (.int .i64 0) 1 8 Try.underlying26 h3i h3z h3s h3b rfl (by decide) none 0 0 [] (by rfl) MA.own (some ⟨v2.heap.size,0,none⟩) 1 1 [.int .i64 1] (by rfl) (by rfl) (.inr ⟨_,rfl,fun k u hk=>by rcases k with _|k<;>simp at hk;subst hk;exact X.cell 0 rfl⟩) (by simp[Value.oneCell']) (by decide) (by decide) (by have:=MA.m.lt;omega) ?_;intro A1 c1 v hown hgrow hat;have M3:=zh (show AsM w gL gA gB r gb gm A1 1 c1 [.int .i64 1] (v.setCell ⟨gm,0,none⟩ (.slice A1 1 c1))from MA.push hgrow hown);have MM:=(MA.mid hgrow).1;clear y0 yy;have y0:=MM.cell 0 rfl;have q0:=MM.free 0;clear MM hown hgrow hat)
 generalize v.setCell ⟨gm,0,none⟩ (.slice A1 1 c1)=v3 at M3 ⊢;clear y0 q0;have l0:=M3.j.co.L.cell 0 rfl;have l1:=M3.j.co.L.cell 1 rfl;have a0:=M3.j.co.A.cell 0 rfl;have a1:=M3.j.co.A.cell 1 rfl;have b0:=M3.j.co.B.cell 0 rfl;have b1:=M3.j.co.B.cell 1 rfl;have s0:=M3.j.best.cell 0 rfl;have s1:=M3.j.best.cell 1 rfl;have s2:=M3.j.best.cell 2 rfl;have s3:=M3.j.best.cell 3 rfl;have z0:=M3.j.best.free 0;have z1:=M3.j.best.free 1;have z2:=M3.j.best.free 2;have z3:=M3.j.best.free 3;have y0:=M3.m.cell 0 rfl;have q0:=M3.m.free 0;have lb:=M3.j.best.lt;rw[rounds_succ];go_wp2_with fail
 refine wp_loop_rounds 3 ?_;rw[rounds_succ];go_wp2_with fail
 refine wrp ?_
 repeat(go_big_quiet_step (fail))
 refine wpQuiet_nil ?_;intro xx;have M4:=zh (M3.below xx.far);clear l0 l1 a0 a1 b0 b1 s0 s1 s2 s3 z0 z1 z2 z3 y0 q0 lb;generalize xx.w=v4 at M4 ⊢;have l0:=M4.j.co.L.cell 0 rfl;have l1:=M4.j.co.L.cell 1 rfl;have a0:=M4.j.co.A.cell 0 rfl;have a1:=M4.j.co.A.cell 1 rfl;have b0:=M4.j.co.B.cell 0 rfl;have b1:=M4.j.co.B.cell 1 rfl;have s0:=M4.j.best.cell 0 rfl;have s1:=M4.j.best.cell 1 rfl;have s2:=M4.j.best.cell 2 rfl;have s3:=M4.j.best.cell 3 rfl;have z0:=M4.j.best.free 0;have z1:=M4.j.best.free 1;have z2:=M4.j.best.free 2;have z3:=M4.j.best.free 3;have y0:=M4.m.cell 0 rfl;have q0:=M4.m.free 0;have lb:=M4.j.best.lt;have MA:=zh (M4.alloc (.cells #[.int .i64 0] 3));have X:=zh (Blk.new' v4 #[.int .i64 0] 3);clear l0 l1 a0 a1 b0 b1 s0 s1 s2 s3 z0 z1 z2 z3 y0 q0 lb;have y0:=MA.m.cell 0 rfl;have yy:=M4.m.cell 0 rfl
 go_wp2_with (at_builtin;refine ax (.tmp 134) (.tmp 136) 26 rfl rfl (gm+1) 3 i3 (.int .i64 0) 1 8 Try.underlying26 h3i h3z h3s h3b rfl (by decide) A1 1 c1 [.int .i64 1] (by rfl) MA.own (some ⟨v4.heap.size,0,none⟩) 1 1 [.int .i64 0] (by rfl) (by rfl) (.inr ⟨_,rfl,fun k u hk=>by rcases k with _|k<;>simp at hk;subst hk;exact X.cell 0 rfl⟩) (by simp[Value.oneCell']) (by decide) (by decide) (by have:=MA.m.lt;omega) ?_;intro A2 c2 v hown hgrow hat;have M5:=zh (show AsM w gL gA gB r gb gm A2 2 c2 [.int .i64 1,.int .i64 0] (v.setCell ⟨gm,0,none⟩ (.slice A2 2 c2))from MA.push hgrow hown);have MM:=(MA.mid hgrow).1;clear y0 yy;have y0:=MM.cell 0 rfl;have q0:=MM.free 0;clear MM hown hgrow hat)
 generalize v.setCell ⟨gm,0,none⟩ (.slice A2 2 c2)=v5 at M5 ⊢;clear y0 q0;have l0:=M5.j.co.L.cell 0 rfl;have l1:=M5.j.co.L.cell 1 rfl;have a0:=M5.j.co.A.cell 0 rfl;have a1:=M5.j.co.A.cell 1 rfl;have b0:=M5.j.co.B.cell 0 rfl;have b1:=M5.j.co.B.cell 1 rfl;have s0:=M5.j.best.cell 0 rfl;have s1:=M5.j.best.cell 1 rfl;have s2:=M5.j.best.cell 2 rfl;have s3:=M5.j.best.cell 3 rfl;have z0:=M5.j.best.free 0;have z1:=M5.j.best.free 1;have z2:=M5.j.best.free 2;have z3:=M5.j.best.free 3;have y0:=M5.m.cell 0 rfl;have q0:=M5.m.free 0;have lb:=M5.j.best.lt;rw[rounds_succ];go_wp2_with fail
 refine(HD gL gA gB _ M5.j.co).mono ?_;rintro e v ⟨R,rn,rc,Q,qn,qc,rfl,hb⟩;have M6:=zh (M5.below hb);clear hb;clear l0 l1 a0 a1 b0 b1 s0 s1 s2 s3 z0 z1 z2 z3 y0 q0 lb;have F:=zh (final M6.out R Q rn rc qn qc);have y0:=M6.m.cell 0 rfl;have y1:=M6.m.cell 1 rfl;have y2:=M6.m.cell 2 rfl;have y3:=M6.m.cell 3 rfl;have q2:=M6.m.free 2;have q3:=M6.m.free 3;go_upto_region 34 with fail
 generalize (v.setCell ⟨gm,2,none⟩ (.slice R rn rc)).setCell ⟨gm,3,none⟩ (.slice Q qn qc)=u at F ⊢;clear y0 y1 y2 y3 q2 q3;have y0:=F.2.1.cell 0 rfl;have y1:=F.2.1.cell 1 rfl;have y2:=F.2.1.cell 2 rfl;have y3:=F.2.1.cell 3 rfl;have x0:=F.1.cell 0 rfl;have x1:=F.1.cell 1 rfl;have x2:=F.1.cell 2 rfl;have x3:=F.1.cell 3 rfl;have p0:=F.1.free 0;have p1:=F.1.free 1;have p2:=F.1.free 2;have p3:=F.1.free 3;go_wp2_with fail
 have Z:=zh (Rs F.out HRR.out M6.lt.2.2.2.1 _ rfl);rw[Exit.noGoto_ret];generalize (((u.setCell ⟨r,0,none⟩ (.slice A2 2 c2)).setCell ⟨r,1,none⟩ (.int .i64 3)).setCell ⟨r,2,none⟩ (.slice R rn rc)).setCell ⟨r,3,none⟩ (.slice Q qn qc)=z at Z ⊢;clear y0 y1 y2 y3 x0 x1 x2 x3 p0 p1 p2 p3;have x0:=Z.1.cell 0 rfl;have x1:=Z.1.cell 1 rfl;have x2:=Z.1.cell 2 rfl;have x3:=Z.1.cell 3 rfl;exact bodyPost_ret (v:=.tuple #[.agg #[.slice A2 2 c2,.int .i64 3,.slice R rn rc,.slice Q qn qc],.int .i64 0]) (by simp[results,Try.results56,go_sem,x0,x1,x2,x3]) rfl ⟨A2,c2,R,rn,rc,Q,qn,qc,rfl,Z.2⟩
def duN:Net:=⟨[1,1,0,0,-2],[⟨0,2,1,4⟩,⟨0,3,1,1⟩,⟨1,2,1,2⟩,⟨1,3,1,3⟩,⟨2,4,1,0⟩,⟨3,4,1,0⟩]⟩
theorem Rt:chE duN=0:=by decide
theorem Mf:ak duN [0,1,1,0,1,1]=true:=by decide
theorem five {p:List Int} (h:p.length=5): ∃a b c d e,p=[a,b,c,d,e]:=by
 rcases p with _|⟨a,_|⟨b,_|⟨c,_|⟨d,_|⟨e,_|⟨f,t⟩⟩⟩⟩⟩⟩<;>simp at h
 exact⟨a,b,c,d,e,rfl⟩
theorem Mg {w w':World} {e:Ending} (h:Dj duN w e w'): ∃gf gp p0 p1 p2 p3 p4,e=.returned (.tuple #[.slice (some ⟨gf,0,none⟩) 6 6,.slice (some ⟨gp,0,none⟩) 5 5,.int .i64 0])/\
 Blk w' gp 2 [.int .i64 p0,.int .i64 p1,.int .i64 p2,.int .i64 p3,.int .i64 p4]/\w.heap.size<=gp/\(-1073741824<=p2/\p2<=1073741824)/\(-1073741824<=p3/\p3<=1073741824)/\(-1073741824<=p4/\p4<=1073741824):=by
 rcases h with ⟨h,_⟩|⟨_,gf,gp,fl,p,rfl,_,hp,_,hg,_,_,hl,hb,_⟩|⟨_,_,_,_,_,h⟩
 ·exact absurd Rt h
 ·obtain⟨a,b,c,d,e,rfl⟩:=five hl
  exact⟨gf,gp,a,b,c,d,e,rfl,hp,hg,dR.1 (hb 2 (by simp)),dR.1 (hb 3 (by simp)),dR.1 (hb 4 (by simp))⟩
 ·have:=h [0,1,1,0,1,1]
  rw[Mf]at this
  cases this
theorem BuJ.start {w V:World} {gL gA gB:Nat} (h:CO V gL gA gB) (hb:Below w.heap.size w V):BuJ w gL gA gB V.heap.size (V.heap.size+1) none 0 0 [0,0,0,0,0] [] ((V.alloc (.cells (Array.replicate 5 (.int .i64 0)) 2)).alloc (.cells #[.slice (some ⟨V.heap.size,0,none⟩) 5 5,.slice none 0 0,.slice none 0 0,.slice none 0 0] 125)):=by
 have b2:=(hb.alloc hb.size (.cells (Array.replicate 5 (.int .i64 0)) 2));have b3:=b2.alloc b2.size (.cells #[.slice (some ⟨V.heap.size,0,none⟩) 5 5,.slice none 0 0,.slice none 0 0,.slice none 0 0] 125);have f:=kE 2 5 V;have x:=Blk.new' (V.alloc (.cells (Array.replicate 5 (.int .i64 0)) 2)) #[.slice (some ⟨V.heap.size,0,none⟩) 5 5,.slice none 0 0,.slice none 0 0,.slice none 0 0] 125;refine⟨⟨(h.L.alloc _).alloc _,(h.A.alloc _).alloc _,(h.B.alloc _).alloc _⟩,?_,?_,World.ownsRow_nil _ _ _ _,⟨h.L.lt,h.A.lt,h.B.lt,Nat.lt_succ_self _,hb.size⟩,b3⟩
 ·simpa using x
 ·exact Blk.alloc f _
theorem BuJ.net {w W:World} {gL gA gB gs gb cap:Nat} {A:Option Addr} (h:BuJ w gL gA gB gs gb A 6 cap duN.sup duN.arcs W):dm W (some ⟨gs,0,none⟩) A duN/\6<=cap/\cap<=9223372036854775807:=by
 have hA:=h.own;obtain⟨g,c,hv,hb,hlt⟩:=hA.form (by omega)
 cases hv
 refine⟨⟨h.s.ints,fun i hi=>?_⟩,?_⟩
 ·have hi6:i<6:=hi
  have hc: ∀j,j<4->W.cell? ⟨g,i*4+j,none⟩=(bD (duN.arcs.getD i default))[j]?:=fun j hj=>by
   rw[World.ownsRow.cellAt hA (i*4+j) (by omega)];exact fD (f:=bD) (s:=4) (fun _=>rfl) _ _ _ _ (bL _ _ _ hi) hj
  have had:(⟨g,0,none⟩:Addr).add (i*4)=⟨g,i*4,none⟩:=by unfold Addr.add;split<;>simp_all
  exact⟨⟨g,0,none⟩,rfl,hlt,by rw[had];exact hc 0 (by omega),by rw[had];exact hc 1 (by omega),by rw[had];exact hc 2 (by omega),by rw[had];exact hc 3 (by omega)⟩
 ·rcases hA.2 with ⟨h0,_⟩|⟨g',c',cur,hv,_,_,hc1,hc2,_⟩
  ·simp at h0
  ·cases hv
   unfold maxLen at hc2;omega
structure PrJ (w:World) (gL gA gB gp:Nat) (p0 p1 p2 p3 p4:Int) (b:Nat) (A:Option Addr) (n cap:Nat) (cs:List Value) (W:World):Prop where
 co:CO W gL gA gB
 p:Blk W gp 2 [.int .i64 p0,.int .i64 p1,.int .i64 p2,.int .i64 p3,.int .i64 p4]
 own:W.ownsRow b 2 1 (.slice A n cap) n cs
 lt:gL<b/\gA<b/\gB<b/\gp<b/\w.heap.size<=b
 bW:b<=W.heap.size
 bel:Below w.heap.size w W
section
variable {w W V:World} {gL gA gB gp b n cap n2 cap2:Nat} {p0 p1 p2 p3 p4:Int} {A A2:Option Addr} {cs cs2:List Value}
theorem PrJ.below (h:PrJ w gL gA gB gp p0 p1 p2 p3 p4 b A n cap cs W) (hb:Below W.heap.size W V):PrJ w gL gA gB gp p0 p1 p2 p3 p4 b A n cap cs V:=
 ⟨h.co.below hb (Nat.le_refl _),h.p.below hb h.p.lt,bF h.own hb,h.lt,Nat.le_trans h.bW hb.size,h.bel.trans (hb.mono h.bel.size)⟩
theorem PrJ.alloc (h:PrJ w gL gA gB gp p0 p1 p2 p3 p4 b A n cap cs W) (o:Obj):PrJ w gL gA gB gp p0 p1 p2 p3 p4 b A n cap cs (W.alloc o):=
 h.below ((Below.refl _ _).alloc (Nat.le_refl _) o)
theorem PrJ.drew (h:PrJ w gL gA gB gp p0 p1 p2 p3 p4 b A n cap cs W):PrJ w gL gA gB gp p0 p1 p2 p3 p4 b A n cap cs W.drew:=
 h.below (Below.refl _ _).drew
theorem PrJ.other (h:PrJ w gL gA gB gp p0 p1 p2 p3 p4 b A n cap cs W) {row:Option Nat} (hg:W.grownBy V row) (hr: ∀k,row=some k->b<=k) (ho:V.ownsRow b 2 1 (.slice A2 n2 cap2) n2 cs2):PrJ w gL gA gB gp p0 p1 p2 p3 p4 b A2 n2 cap2 cs2 V:=by
 have hne: ∀k,k<b->some k≠row:=fun k hk' e=>by have:=hr k e.symm;omega
 have hl:=h.lt;have hbs:=h.bel.size;exact⟨⟨h.co.L.grown hg (hne _ (by omega)),h.co.A.grown hg (hne _ (by omega)),h.co.B.grown hg (hne _ (by omega))⟩,h.p.grown hg (hne _ (by omega)),ho,hl,Nat.le_trans h.bW hg.size,h.bel.grown hg hbs (fun k e=>by have:=hr k e;omega)⟩
theorem PrJ.push (h:PrJ w gL gA gB gp p0 p1 p2 p3 p4 b A n cap cs W) (hg:W.grownBy V (Value.slice A n cap).ownBlock) (ho:V.ownsRow b 2 1 (.slice A2 n2 cap2) n2 cs2):PrJ w gL gA gB gp p0 p1 p2 p3 p4 b A2 n2 cap2 cs2 V:=
 h.other hg (fun k e=>(World.ownsRow.lt h.own k e).1) ho
end
structure RoJ (w:World) (gL gA gB gp:Nat) (p0 p1 p2 p3 p4:Int) (b g5 cap:Nat) (cs:List Value) (b2:Nat) (A:Option Addr) (n c2:Nat) (ds:List Value) (W:World):Prop where
 p:PrJ w gL gA gB gp p0 p1 p2 p3 p4 b (some ⟨g5,0,none⟩) 2 cap cs W
 own2:W.ownsRow b2 2 1 (.slice A n c2) n ds
 lt2:g5<b2/\b<=b2/\b2<=W.heap.size
section
variable {w W V:World} {gL gA gB gp b g5 cap b2 n c2 n2 c3:Nat} {p0 p1 p2 p3 p4:Int} {A A2:Option Addr} {cs ds ds2:List Value}
theorem RoJ.below (h:RoJ w gL gA gB gp p0 p1 p2 p3 p4 b g5 cap cs b2 A n c2 ds W) (hb:Below W.heap.size W V):RoJ w gL gA gB gp p0 p1 p2 p3 p4 b g5 cap cs b2 A n c2 ds V:=
 ⟨h.p.below hb,bF h.own2 hb,h.lt2.1,h.lt2.2.1,Nat.le_trans h.lt2.2.2 hb.size⟩
theorem RoJ.alloc (h:RoJ w gL gA gB gp p0 p1 p2 p3 p4 b g5 cap cs b2 A n c2 ds W) (o:Obj):RoJ w gL gA gB gp p0 p1 p2 p3 p4 b g5 cap cs b2 A n c2 ds (W.alloc o):=
 h.below ((Below.refl _ _).alloc (Nat.le_refl _) o)
theorem RoJ.push (h:RoJ w gL gA gB gp p0 p1 p2 p3 p4 b g5 cap cs b2 A n c2 ds W) (hg:W.grownBy V (Value.slice A n c2).ownBlock) (ho:V.ownsRow b2 2 1 (.slice A2 n2 c3) n2 ds2):RoJ w gL gA gB gp p0 p1 p2 p3 p4 b g5 cap cs b2 A2 n2 c3 ds2 V:=by
 have hk: ∀k,(Value.slice A n c2).ownBlock=some k->b2<=k:=fun k e=>(World.ownsRow.lt h.own2 k e).1
 have hl:=h.lt2;refine⟨h.p.other hg (fun k e=>by have:=hk k e;omega) (fT h.p.own hg (fun k hk' e=>?_)),ho,hl.1,hl.2.1,Nat.le_trans hl.2.2 hg.size⟩;have h1:=hk k e.symm;have h2:k=g5:=aA.1 hk';omega
end
theorem Ps:Md:=by
 intro gL gA gB w h;have H0:=zh (BuJ.start h (Below.refl w.heap.size w));have l0:=h.L.cell 0 rfl;have l1:=h.L.cell 1 rfl;clear h;have hm1: ∀W:World,(Instr.makeSlice 22 (.int .i64 5) (.int .i64 5)).run Try.prog W=.ok (.slice (some ⟨W.heap.size,0,none⟩) 5 5) (W.alloc (.cells (Array.replicate 5 (.int .i64 0)) 2)):=gZ 5 (by omega);go_enter Try.func96,Try.ntmps96;go_upto_region 3 with fail
 have J0:=H0;clear H0 l0 l1 hm1;generalize ((w.alloc (.cells (Array.replicate 5 (.int .i64 0)) 2)).alloc (.cells #[.slice (some ⟨w.heap.size,0,none⟩) 5 5,.slice none 0 0,.slice none 0 0,.slice none 0 0] 125))=v0 at J0 ⊢;obtain⟨gs,hgs⟩: ∃g,g=w.heap.size:=⟨_,rfl⟩;rw[<-hgs]at J0 ⊢;clear hgs;generalize gs+1=gb at J0 ⊢;have y0:=J0.b.cell 0 rfl;have y1:=J0.b.cell 1 rfl;have l0:=J0.co.L.cell 0 rfl;have l1:=J0.co.L.cell 1 rfl;have a0:=J0.co.A.cell 0 rfl;have a1:=J0.co.A.cell 1 rfl;have b0:=J0.co.B.cell 0 rfl;have b1:=J0.co.B.cell 1 rfl;have s0:v0.cell? ⟨gs,0,none⟩=some (.int .i64 (0)):=Blk.cell J0.s 0 rfl;have z0:=J0.s.free 0;have s1:v0.cell? ⟨gs,1,none⟩=some (.int .i64 (0)):=Blk.cell J0.s 1 rfl;have z1:=J0.s.free 1;have s4:v0.cell? ⟨gs,4,none⟩=some (.int .i64 (0)):=Blk.cell J0.s 4 rfl;have z4:=J0.s.free 4;go_wp2_with fail
 refine wp_loop_rounds 3 ?_;rw[rounds_succ];go_upto_region 6 with fail
 clear y0 y1 l0 l1 a0 a1 b0 b1 s0 s1 s4 z0 z1 z4;have y0:=J0.b.cell 0 rfl;have y1:=J0.b.cell 1 rfl;have l0:=J0.co.L.cell 0 rfl;have l1:=J0.co.L.cell 1 rfl;have a0:=J0.co.A.cell 0 rfl;have a1:=J0.co.A.cell 1 rfl;have b0:=J0.co.B.cell 0 rfl;have b1:=J0.co.B.cell 1 rfl;have s0:v0.cell? ⟨gs,0,none⟩=some (.int .i64 (0)):=Blk.cell J0.s 0 rfl;have z0:=J0.s.free 0;have s1:v0.cell? ⟨gs,1,none⟩=some (.int .i64 (0)):=Blk.cell J0.s 1 rfl;have z1:=J0.s.free 1;have s4:v0.cell? ⟨gs,4,none⟩=some (.int .i64 (0)):=Blk.cell J0.s 4 rfl;have z4:=J0.s.free 4;go_upto_region 7 with fail
 clear y0 y1 l0 l1 a0 a1 b0 b1 s0 s1 s4 z0 z1 z4;have J1:=zh (show BuJ w gL gA gB gs gb none 0 0 [1,0,0,0,0] [] _ from J0.set 0 (1));generalize v0.setCell ⟨gs,0,none⟩ (.int .i64 (1))=v1 at J1 ⊢;have y0:=J1.b.cell 0 rfl;have y1:=J1.b.cell 1 rfl;have l0:=J1.co.L.cell 0 rfl;have l1:=J1.co.L.cell 1 rfl;have a0:=J1.co.A.cell 0 rfl;have a1:=J1.co.A.cell 1 rfl;have b0:=J1.co.B.cell 0 rfl;have b1:=J1.co.B.cell 1 rfl;have s0:v1.cell? ⟨gs,0,none⟩=some (.int .i64 (1)):=Blk.cell J1.s 0 rfl;have z0:=J1.s.free 0;have s1:v1.cell? ⟨gs,1,none⟩=some (.int .i64 (0)):=Blk.cell J1.s 1 rfl;have z1:=J1.s.free 1;have s4:v1.cell? ⟨gs,4,none⟩=some (.int .i64 (0)):=Blk.cell J1.s 4 rfl;have z4:=J1.s.free 4;go_upto_region 8 with fail
 clear y0 y1 l0 l1 a0 a1 b0 b1 s0 s1 s4 z0 z1 z4;have J2:=zh (show BuJ w gL gA gB gs gb none 0 0 [1,0,0,0,-1] [] _ from J1.set 4 (-1));generalize v1.setCell ⟨gs,4,none⟩ (.int .i64 (-1))=v2 at J2 ⊢;have y0:=J2.b.cell 0 rfl;have y1:=J2.b.cell 1 rfl;have l0:=J2.co.L.cell 0 rfl;have l1:=J2.co.L.cell 1 rfl;have a0:=J2.co.A.cell 0 rfl;have a1:=J2.co.A.cell 1 rfl;have b0:=J2.co.B.cell 0 rfl;have b1:=J2.co.B.cell 1 rfl;have s0:v2.cell? ⟨gs,0,none⟩=some (.int .i64 (1)):=Blk.cell J2.s 0 rfl;have z0:=J2.s.free 0;have s1:v2.cell? ⟨gs,1,none⟩=some (.int .i64 (0)):=Blk.cell J2.s 1 rfl;have z1:=J2.s.free 1;have s4:v2.cell? ⟨gs,4,none⟩=some (.int .i64 (-1)):=Blk.cell J2.s 4 rfl;have z4:=J2.s.free 4;go_wp2_with fail
 refine wp_loop_rounds 3 ?_;rw[rounds_succ];go_wp2_with fail
 clear y0 y1 l0 l1 a0 a1 b0 b1 s0 s1 s4 z0 z1 z4;have MA:=zh (J2.alloc (.cells #[.int .i64 0,.int .i64 2,.int .i64 1,.int .i64 4] 46));have X:=zh (Blk.new' v2 #[.int .i64 0,.int .i64 2,.int .i64 1,.int .i64 4] 46);refine(vH w _ gL gA gB gs gb 0 0 _ none [1,0,0,0,-1] [] ⟨0,2,1,4⟩ (by decide) MA.out X.out rfl).mono ?_;rintro e v3 ⟨A1,c1,rfl,hj⟩;have J3:=zh (show BuJ w gL gA gB gs gb A1 1 c1 [1,0,0,0,-1] [⟨0,2,1,4⟩] v3 from hj);clear hj MA X;have y0:=J3.b.cell 0 rfl;have y1:=J3.b.cell 1 rfl;have l0:=J3.co.L.cell 0 rfl;have l1:=J3.co.L.cell 1 rfl;have a0:=J3.co.A.cell 0 rfl;have a1:=J3.co.A.cell 1 rfl;have b0:=J3.co.B.cell 0 rfl;have b1:=J3.co.B.cell 1 rfl;have s0:v3.cell? ⟨gs,0,none⟩=some (.int .i64 (1)):=Blk.cell J3.s 0 rfl;have z0:=J3.s.free 0;have s1:v3.cell? ⟨gs,1,none⟩=some (.int .i64 (0)):=Blk.cell J3.s 1 rfl;have z1:=J3.s.free 1;have s4:v3.cell? ⟨gs,4,none⟩=some (.int .i64 (-1)):=Blk.cell J3.s 4 rfl;have z4:=J3.s.free 4;go_wp2_with fail
 rw[rounds_succ];go_wp2_with fail
 clear y0 y1 l0 l1 a0 a1 b0 b1 s0 s1 s4 z0 z1 z4;have MA:=zh (J3.alloc (.cells #[.int .i64 0,.int .i64 3,.int .i64 1,.int .i64 1] 46));have X:=zh (Blk.new' v3 #[.int .i64 0,.int .i64 3,.int .i64 1,.int .i64 1] 46);refine(vH w _ gL gA gB gs gb 1 c1 _ A1 [1,0,0,0,-1] [⟨0,2,1,4⟩] ⟨0,3,1,1⟩ (by decide) MA.out X.out rfl).mono ?_;rintro e v4 ⟨A2,c2,rfl,hj⟩;have J4:=zh (show BuJ w gL gA gB gs gb A2 2 c2 [1,0,0,0,-1] [⟨0,2,1,4⟩,⟨0,3,1,1⟩] v4 from hj);clear hj MA X;have y0:=J4.b.cell 0 rfl;have y1:=J4.b.cell 1 rfl;have l0:=J4.co.L.cell 0 rfl;have l1:=J4.co.L.cell 1 rfl;have a0:=J4.co.A.cell 0 rfl;have a1:=J4.co.A.cell 1 rfl;have b0:=J4.co.B.cell 0 rfl;have b1:=J4.co.B.cell 1 rfl;have s0:v4.cell? ⟨gs,0,none⟩=some (.int .i64 (1)):=Blk.cell J4.s 0 rfl;have z0:=J4.s.free 0;have s1:v4.cell? ⟨gs,1,none⟩=some (.int .i64 (0)):=Blk.cell J4.s 1 rfl;have z1:=J4.s.free 1;have s4:v4.cell? ⟨gs,4,none⟩=some (.int .i64 (-1)):=Blk.cell J4.s 4 rfl;have z4:=J4.s.free 4;go_wp2_with fail
 rw[rounds_succ];go_wp2_with fail
 rw[rounds_succ];go_upto_region 6 with fail
 clear y0 y1 l0 l1 a0 a1 b0 b1 s0 s1 s4 z0 z1 z4;have y0:=J4.b.cell 0 rfl;have y1:=J4.b.cell 1 rfl;have l0:=J4.co.L.cell 0 rfl;have l1:=J4.co.L.cell 1 rfl;have a0:=J4.co.A.cell 0 rfl;have a1:=J4.co.A.cell 1 rfl;have b0:=J4.co.B.cell 0 rfl;have b1:=J4.co.B.cell 1 rfl;have s0:v4.cell? ⟨gs,0,none⟩=some (.int .i64 (1)):=Blk.cell J4.s 0 rfl;have z0:=J4.s.free 0;have s1:v4.cell? ⟨gs,1,none⟩=some (.int .i64 (0)):=Blk.cell J4.s 1 rfl;have z1:=J4.s.free 1;have s4:v4.cell? ⟨gs,4,none⟩=some (.int .i64 (-1)):=Blk.cell J4.s 4 rfl;have z4:=J4.s.free 4;go_upto_region 7 with fail
 clear y0 y1 l0 l1 a0 a1 b0 b1 s0 s1 s4 z0 z1 z4;have J5:=zh (show BuJ w gL gA gB gs gb A2 2 c2 [1,1,0,0,-1] [⟨0,2,1,4⟩,⟨0,3,1,1⟩] _ from J4.set 1 (1));generalize v4.setCell ⟨gs,1,none⟩ (.int .i64 (1))=v5 at J5 ⊢;have y0:=J5.b.cell 0 rfl;have y1:=J5.b.cell 1 rfl;have l0:=J5.co.L.cell 0 rfl;have l1:=J5.co.L.cell 1 rfl;have a0:=J5.co.A.cell 0 rfl;have a1:=J5.co.A.cell 1 rfl;have b0:=J5.co.B.cell 0 rfl;have b1:=J5.co.B.cell 1 rfl;have s0:v5.cell? ⟨gs,0,none⟩=some (.int .i64 (1)):=Blk.cell J5.s 0 rfl;have z0:=J5.s.free 0;have s1:v5.cell? ⟨gs,1,none⟩=some (.int .i64 (1)):=Blk.cell J5.s 1 rfl;have z1:=J5.s.free 1;have s4:v5.cell? ⟨gs,4,none⟩=some (.int .i64 (-1)):=Blk.cell J5.s 4 rfl;have z4:=J5.s.free 4;go_upto_region 8 with fail
 clear y0 y1 l0 l1 a0 a1 b0 b1 s0 s1 s4 z0 z1 z4;have J6:=zh (show BuJ w gL gA gB gs gb A2 2 c2 [1,1,0,0,-2] [⟨0,2,1,4⟩,⟨0,3,1,1⟩] _ from J5.set 4 (-2));generalize v5.setCell ⟨gs,4,none⟩ (.int .i64 (-2))=v6 at J6 ⊢;have y0:=J6.b.cell 0 rfl;have y1:=J6.b.cell 1 rfl;have l0:=J6.co.L.cell 0 rfl;have l1:=J6.co.L.cell 1 rfl;have a0:=J6.co.A.cell 0 rfl;have a1:=J6.co.A.cell 1 rfl;have b0:=J6.co.B.cell 0 rfl;have b1:=J6.co.B.cell 1 rfl;have s0:v6.cell? ⟨gs,0,none⟩=some (.int .i64 (1)):=Blk.cell J6.s 0 rfl;have z0:=J6.s.free 0;have s1:v6.cell? ⟨gs,1,none⟩=some (.int .i64 (1)):=Blk.cell J6.s 1 rfl;have z1:=J6.s.free 1;have s4:v6.cell? ⟨gs,4,none⟩=some (.int .i64 (-2)):=Blk.cell J6.s 4 rfl;have z4:=J6.s.free 4;go_wp2_with fail
 refine wp_loop_rounds 3 ?_;rw[rounds_succ];go_wp2_with fail
 clear y0 y1 l0 l1 a0 a1 b0 b1 s0 s1 s4 z0 z1 z4;have MA:=zh (J6.alloc (.cells #[.int .i64 1,.int .i64 2,.int .i64 1,.int .i64 2] 46));have X:=zh (Blk.new' v6 #[.int .i64 1,.int .i64 2,.int .i64 1,.int .i64 2] 46);refine(vH w _ gL gA gB gs gb 2 c2 _ A2 [1,1,0,0,-2] [⟨0,2,1,4⟩,⟨0,3,1,1⟩] ⟨1,2,1,2⟩ (by decide) MA.out X.out rfl).mono ?_;rintro e v7 ⟨A3,c3,rfl,hj⟩;have J7:=zh (show BuJ w gL gA gB gs gb A3 3 c3 [1,1,0,0,-2] [⟨0,2,1,4⟩,⟨0,3,1,1⟩,⟨1,2,1,2⟩] v7 from hj);clear hj MA X;have y0:=J7.b.cell 0 rfl;have y1:=J7.b.cell 1 rfl;have l0:=J7.co.L.cell 0 rfl;have l1:=J7.co.L.cell 1 rfl;have a0:=J7.co.A.cell 0 rfl;have a1:=J7.co.A.cell 1 rfl;have b0:=J7.co.B.cell 0 rfl;have b1:=J7.co.B.cell 1 rfl;have s0:v7.cell? ⟨gs,0,none⟩=some (.int .i64 (1)):=Blk.cell J7.s 0 rfl;have z0:=J7.s.free 0;have s1:v7.cell? ⟨gs,1,none⟩=some (.int .i64 (1)):=Blk.cell J7.s 1 rfl;have z1:=J7.s.free 1;have s4:v7.cell? ⟨gs,4,none⟩=some (.int .i64 (-2)):=Blk.cell J7.s 4 rfl;have z4:=J7.s.free 4;go_wp2_with fail
 rw[rounds_succ];go_wp2_with fail
 clear y0 y1 l0 l1 a0 a1 b0 b1 s0 s1 s4 z0 z1 z4;have MA:=zh (J7.alloc (.cells #[.int .i64 1,.int .i64 3,.int .i64 1,.int .i64 3] 46));have X:=zh (Blk.new' v7 #[.int .i64 1,.int .i64 3,.int .i64 1,.int .i64 3] 46);refine(vH w _ gL gA gB gs gb 3 c3 _ A3 [1,1,0,0,-2] [⟨0,2,1,4⟩,⟨0,3,1,1⟩,⟨1,2,1,2⟩] ⟨1,3,1,3⟩ (by decide) MA.out X.out rfl).mono ?_;rintro e v8 ⟨A4,c4,rfl,hj⟩;have J8:=zh (show BuJ w gL gA gB gs gb A4 4 c4 [1,1,0,0,-2] [⟨0,2,1,4⟩,⟨0,3,1,1⟩,⟨1,2,1,2⟩,⟨1,3,1,3⟩] v8 from hj);clear hj MA X;have y0:=J8.b.cell 0 rfl;have y1:=J8.b.cell 1 rfl;have l0:=J8.co.L.cell 0 rfl;have l1:=J8.co.L.cell 1 rfl;have a0:=J8.co.A.cell 0 rfl;have a1:=J8.co.A.cell 1 rfl;have b0:=J8.co.B.cell 0 rfl;have b1:=J8.co.B.cell 1 rfl;have s0:v8.cell? ⟨gs,0,none⟩=some (.int .i64 (1)):=Blk.cell J8.s 0 rfl;have z0:=J8.s.free 0;have s1:v8.cell? ⟨gs,1,none⟩=some (.int .i64 (1)):=Blk.cell J8.s 1 rfl;have z1:=J8.s.free 1;have s4:v8.cell? ⟨gs,4,none⟩=some (.int .i64 (-2)):=Blk.cell J8.s 4 rfl;have z4:=J8.s.free 4;go_wp2_with fail
 rw[rounds_succ];go_wp2_with fail
 rw[rounds_succ];go_wp2_with fail
 refine wp_loop_rounds 3 ?_;rw[rounds_succ];go_wp2_with fail
 clear y0 y1 l0 l1 a0 a1 b0 b1 s0 s1 s4 z0 z1 z4;have MA:=zh (J8.alloc (.cells #[.int .i64 2,.int .i64 4,.int .i64 1,.int .i64 0] 46));have X:=zh (Blk.new' v8 #[.int .i64 2,.int .i64 4,.int .i64 1,.int .i64 0] 46);refine(vH w _ gL gA gB gs gb 4 c4 _ A4 [1,1,0,0,-2] [⟨0,2,1,4⟩,⟨0,3,1,1⟩,⟨1,2,1,2⟩,⟨1,3,1,3⟩] ⟨2,4,1,0⟩ (by decide) MA.out X.out rfl).mono ?_;rintro e v9 ⟨A5,c5,rfl,hj⟩;have J9:=zh (show BuJ w gL gA gB gs gb A5 5 c5 [1,1,0,0,-2] [⟨0,2,1,4⟩,⟨0,3,1,1⟩,⟨1,2,1,2⟩,⟨1,3,1,3⟩,⟨2,4,1,0⟩] v9 from hj);clear hj MA X;have y0:=J9.b.cell 0 rfl;have y1:=J9.b.cell 1 rfl;have l0:=J9.co.L.cell 0 rfl;have l1:=J9.co.L.cell 1 rfl;have a0:=J9.co.A.cell 0 rfl;have a1:=J9.co.A.cell 1 rfl;have b0:=J9.co.B.cell 0 rfl;have b1:=J9.co.B.cell 1 rfl;have s0:v9.cell? ⟨gs,0,none⟩=some (.int .i64 (1)):=Blk.cell J9.s 0 rfl;have z0:=J9.s.free 0;have s1:v9.cell? ⟨gs,1,none⟩=some (.int .i64 (1)):=Blk.cell J9.s 1 rfl;have z1:=J9.s.free 1;have s4:v9.cell? ⟨gs,4,none⟩=some (.int .i64 (-2)):=Blk.cell J9.s 4 rfl;have z4:=J9.s.free 4;go_wp2_with fail
 rw[rounds_succ];go_wp2_with fail
 clear y0 y1 l0 l1 a0 a1 b0 b1 s0 s1 s4 z0 z1 z4;have MA:=zh (J9.alloc (.cells #[.int .i64 3,.int .i64 4,.int .i64 1,.int .i64 0] 46));have X:=zh (Blk.new' v9 #[.int .i64 3,.int .i64 4,.int .i64 1,.int .i64 0] 46);refine(vH w _ gL gA gB gs gb 5 c5 _ A5 [1,1,0,0,-2] [⟨0,2,1,4⟩,⟨0,3,1,1⟩,⟨1,2,1,2⟩,⟨1,3,1,3⟩,⟨2,4,1,0⟩] ⟨3,4,1,0⟩ (by decide) MA.out X.out rfl).mono ?_;rintro e v10 ⟨A6,c6,rfl,hj⟩;have J10:=zh (show BuJ w gL gA gB gs gb A6 6 c6 [1,1,0,0,-2] [⟨0,2,1,4⟩,⟨0,3,1,1⟩,⟨1,2,1,2⟩,⟨1,3,1,3⟩,⟨2,4,1,0⟩,⟨3,4,1,0⟩] v10 from hj);clear hj MA X;have y0:=J10.b.cell 0 rfl;have y1:=J10.b.cell 1 rfl;have l0:=J10.co.L.cell 0 rfl;have l1:=J10.co.L.cell 1 rfl;have a0:=J10.co.A.cell 0 rfl;have a1:=J10.co.A.cell 1 rfl;have b0:=J10.co.B.cell 0 rfl;have b1:=J10.co.B.cell 1 rfl;have s0:v10.cell? ⟨gs,0,none⟩=some (.int .i64 (1)):=Blk.cell J10.s 0 rfl;have z0:=J10.s.free 0;have s1:v10.cell? ⟨gs,1,none⟩=some (.int .i64 (1)):=Blk.cell J10.s 1 rfl;have z1:=J10.s.free 1;have s4:v10.cell? ⟨gs,4,none⟩=some (.int .i64 (-2)):=Blk.cell J10.s 4 rfl;have z4:=J10.s.free 4;go_wp2_with fail
 rw[rounds_succ];go_wp2_with fail
 clear y0 y1 l0 l1 a0 a1 b0 b1 s0 s1 s4 z0 z1 z4;have NT:=zh (BuJ.net J10.out);refine(wU _ _ duN 5 6 5 c6 _ rfl rfl (by omega) NT.2 NT.1).mono ?_;rintro e v ⟨hL,hb⟩;obtain⟨gf,gp,p0,p1,p2,p3,p4,rfl,hp,hg,B2,B3,B4⟩:=Mg hL;have HBV:=zh (J10.bel.trans (hb.mono J10.bel.size));have P0:Hid (PrJ w gL gA gB gp p0 p1 p2 p3 p4 v.heap.size none 0 0 [] v):=zh ⟨J10.co.below hb (Nat.le_refl _),hp,World.ownsRow_nil _ _ _ _,⟨(J10.co.below hb (Nat.le_refl _)).L.lt,(J10.co.below hb (Nat.le_refl _)).A.lt,(J10.co.below hb (Nat.le_refl _)).B.lt,hp.lt,HBV.size⟩,Nat.le_refl _,HBV.out⟩;clear hL hp hg hb HBV NT;obtain⟨d0,D0⟩: ∃d:Int,Hid (IntKind.i64.wrap (p2-p4)=d/\ -4294967296<=d/\d<=4294967296):=⟨p2-p4,zh ⟨IntWalk.i64_in (p2-p4) (by omega),by omega,by omega⟩⟩;obtain⟨d1,D1⟩: ∃d:Int,Hid (IntKind.i64.wrap (p3-p4)=d/\ -4294967296<=d/\d<=4294967296):=⟨p3-p4,zh ⟨IntWalk.i64_in (p3-p4) (by omega),by omega,by omega⟩⟩;clear B2 B3 B4;obtain⟨q0,Q0⟩: ∃q:Int,Hid ((∀ts t W,(Builtin.min_ ts t #[.int .i64 0,.int .i64 d0]).run Try.prog W=.ok (.int .i64 q) W)/\ -4294967296<=q/\q<=0):=⟨min 0 d0,zh ⟨fun ts t W=>gH 0 d0 ts t W,by have:=D0.out;omega,by omega⟩⟩;obtain⟨q1,Q1⟩: ∃q:Int,Hid ((∀ts t W,(Builtin.min_ ts t #[.int .i64 0,.int .i64 d1]).run Try.prog W=.ok (.int .i64 q) W)/\ -4294967296<=q/\q<=0):=⟨min 0 d1,zh ⟨fun ts t W=>gH 0 d1 ts t W,by have:=D1.out;omega,by omega⟩⟩;generalize hbp:v.heap.size=bp at P0 ⊢;clear hbp;obtain⟨i2,h2i,h2z,h2s,h2b⟩:=info_parts pU;go_wp2_with fail
 refine wp_loop_rounds 3 ?_;rw[rounds_succ];go_upto_region 24 with fail
 refine aD 14 [true,false] [0] ?af0 (fun V=>PrJ w gL gA gB gp p0 p1 p2 p3 p4 bp none 0 0 [] V) (by kernel_rfl) (by kernel_rfl) P0.drew ?XM ?_
 case XM=>
  intro V hV;have k0:=hV.p.cell 2 rfl;have k4:=hV.p.cell 4 rfl;have e0:=D0.1;have hmx:=Q0.1;clear hV;simp only[List.take_succ_cons,List.take_zero]
  repeat(go_big_quiet_step (fail))
  refine wpQuiet_nil ?_;rfl
 intro u hV;have PV:=zh hV;clear hV;refine aI ?_;unfold eQ;go_simp;refine⟨PV.alloc _,?_⟩;have PA:=zh (PV.alloc (.cells #[.int .i64 q0] 2));have X:=zh (Blk.new' u #[.int .i64 q0] 2);generalize u.alloc (.cells #[.int .i64 q0] 2)=u2 at PA X ⊢;generalize u.heap.size=gu at *;refine aI ?_;refine lH (.tmp 104) (.tmp 118) 22 rfl bp 2 i2 (.int .i64 0) 1 8 Try.underlying22 h2i h2z h2s h2b rfl (by decide) none 0 0 [] (by rfl) PA.own (some ⟨gu,0,none⟩) 1 1 [.int .i64 q0] (by rfl) (by rfl) (.inr ⟨_,rfl,?_⟩) (by simp[Value.oneCell']) (by decide) (by decide) PA.bW ?_
 ·intro j u' hj
  rcases j with _|j<;>simp at hj
  subst hj;exact X.cell 0 rfl
 intro B1 e1 v1 ho hg hk;refine⟨fun h=>(by cases h),?_⟩;have P1:=zh (show PrJ w gL gA gB gp p0 p1 p2 p3 p4 bp B1 1 e1 [.int .i64 q0] v1 from PA.push hg ho);clear ho hg hk PA X PV;refine bJ ?_;go_wp2_with fail
 rw[rounds_succ];go_upto_region 24 with fail
 refine aD 14 [true,false] [0] ?af1 (fun V=>PrJ w gL gA gB gp p0 p1 p2 p3 p4 bp B1 1 e1 [.int .i64 q0] V) (by kernel_rfl) (by kernel_rfl) P1.drew ?RV ?_
 case RV=>
  intro V hV;have k1:=hV.p.cell 3 rfl;have k4:=hV.p.cell 4 rfl;have e0:=D1.1;have hmx:=Q1.1;clear hV;simp only[List.take_succ_cons,List.take_zero]
  repeat(go_big_quiet_step (fail))
  refine wpQuiet_nil ?_;rfl
 intro u hV;have PV:=zh hV;clear hV;refine aI ?_;unfold eQ;go_simp;refine⟨PV.alloc _,?_⟩;have PA:=zh (PV.alloc (.cells #[.int .i64 q1] 2));have X:=zh (Blk.new' u #[.int .i64 q1] 2);generalize u.alloc (.cells #[.int .i64 q1] 2)=u2 at PA X ⊢;generalize u.heap.size=gu at *;refine aI ?_;refine lH (.tmp 104) (.tmp 118) 22 rfl bp 2 i2 (.int .i64 0) 1 8 Try.underlying22 h2i h2z h2s h2b rfl (by decide) B1 1 e1 [.int .i64 q0] (by rfl) PA.own (some ⟨gu,0,none⟩) 1 1 [.int .i64 q1] (by rfl) (by rfl) (.inr ⟨_,rfl,?_⟩) (by simp[Value.oneCell']) (by decide) (by decide) PA.bW ?_
 ·intro j u' hj
  rcases j with _|j<;>simp at hj
  subst hj;exact X.cell 0 rfl
 intro B2 e2 v2 ho hg hk;refine⟨fun h=>(by cases h),?_⟩;have P2:=zh (show PrJ w gL gA gB gp p0 p1 p2 p3 p4 bp B2 2 e2 [.int .i64 q0,.int .i64 q1] v2 from PA.push hg ho);clear ho hg hk PA X PV;refine bJ ?_;go_wp2_with fail
 rw[rounds_succ];go_wp2_with fail
 obtain⟨g5,c5,hv,hb5,UL⟩:=P2.own.form (by omega)
 cases hv
 have R0:Hid (RoJ w gL gA gB gp p0 p1 p2 p3 p4 bp g5 e2 [.int .i64 q0,.int .i64 q1] v2.heap.size none 0 0 [] v2):=zh ⟨P2.out,World.ownsRow_nil _ _ _ _,UL,P2.bW,Nat.le_refl _⟩;clear hb5 UL;obtain⟨b2,hb2⟩: ∃b,b=v2.heap.size:=⟨_,rfl⟩;rw[<-hb2]at R0;clear hb2;obtain⟨s00,S00⟩: ∃d:Int,Hid (IntKind.i64.wrap (4-q0)=d):=⟨_,zh rfl⟩;obtain⟨x00,X00⟩: ∃q:Int,Hid (∀ts t W,(Builtin.min_ ts t #[.int .i64 1152921504606846976,.int .i64 s00]).run Try.prog W=.ok (.int .i64 q) W):=⟨_,zh fun ts t W=>gH _ _ ts t W⟩;obtain⟨s01,S01⟩: ∃d:Int,Hid (IntKind.i64.wrap (1-q1)=d):=⟨_,zh rfl⟩;obtain⟨x01,X01⟩: ∃q:Int,Hid (∀ts t W,(Builtin.min_ ts t #[.int .i64 x00,.int .i64 s01]).run Try.prog W=.ok (.int .i64 q) W):=⟨_,zh fun ts t W=>gH _ _ ts t W⟩;obtain⟨s10,S10⟩: ∃d:Int,Hid (IntKind.i64.wrap (2-q0)=d):=⟨_,zh rfl⟩;obtain⟨x10,X10⟩: ∃q:Int,Hid (∀ts t W,(Builtin.min_ ts t #[.int .i64 1152921504606846976,.int .i64 s10]).run Try.prog W=.ok (.int .i64 q) W):=⟨_,zh fun ts t W=>gH _ _ ts t W⟩;obtain⟨s11,S11⟩: ∃d:Int,Hid (IntKind.i64.wrap (3-q1)=d):=⟨_,zh rfl⟩;obtain⟨x11,X11⟩: ∃q:Int,Hid (∀ts t W,(Builtin.min_ ts t #[.int .i64 x10,.int .i64 s11]).run Try.prog W=.ok (.int .i64 q) W):=⟨_,zh fun ts t W=>gH _ _ ts t W⟩;refine wp_loop_rounds 3 ?_;rw[rounds_succ];have l0:=R0.p.co.L.cell 0 rfl;have l1:=R0.p.co.L.cell 1 rfl;have a0:=R0.p.co.A.cell 0 rfl;have a1:=R0.p.co.A.cell 1 rfl;have b0:=R0.p.co.B.cell 0 rfl;have b1:=R0.p.co.B.cell 1 rfl
 have f0:v2.cell? ⟨g5,0,none⟩=some (.int .i64 q0):=World.ownsRow.cellAt R0.p.own 0 (by omega);have f1:v2.cell? ⟨g5,1,none⟩=some (.int .i64 q1):=World.ownsRow.cellAt R0.p.own 1 (by omega);go_wp2_with fail
 refine wp_loop_rounds 3 ?_;have t1:=S00.out;have t2:=X00.out;rw[rounds_succ];go_wp2_with fail
 clear t1 t2;have t1:=S01.out;have t2:=X01.out;rw[rounds_succ];go_wp2_with fail
 clear t1 t2;clear l0 l1 a0 a1 b0 b1 f0 f1;have MA:=zh (R0.alloc (.cells #[.int .i64 x01] 2));have X:=zh (Blk.new' v2 #[.int .i64 x01] 2);rw[rounds_succ];go_wp2_with (at_builtin;refine ax (.tmp 145) (.tmp 147) 22 rfl rfl b2 2 i2 (.int .i64 0) 1 8 Try.underlying22 h2i h2z h2s h2b rfl (by decide) none 0 0 [] (by rfl) MA.own2 (some ⟨v2.heap.size,0,none⟩) 1 1 [.int .i64 x01] (by rfl) (by rfl) (.inr ⟨_,rfl,fun k u hk=>by rcases k with _|k<;>simp at hk;subst hk;exact X.cell 0 rfl⟩) (by simp[Value.oneCell']) (by decide) (by decide) MA.lt2.2.2 ?_;intro C1 k1 r1 hown hgrow hat;have R1:=zh (show RoJ w gL gA gB gp p0 p1 p2 p3 p4 bp g5 e2 [.int .i64 q0,.int .i64 q1] b2 C1 1 k1 [.int .i64 x01] r1 from MA.push hgrow hown);clear hown hgrow hat MA X)
 rw[rounds_succ];have l0:=R1.p.co.L.cell 0 rfl;have l1:=R1.p.co.L.cell 1 rfl;have a0:=R1.p.co.A.cell 0 rfl;have a1:=R1.p.co.A.cell 1 rfl;have b0:=R1.p.co.B.cell 0 rfl;have b1:=R1.p.co.B.cell 1 rfl;have f0:r1.cell? ⟨g5,0,none⟩=some (.int .i64 q0):=World.ownsRow.cellAt R1.p.own 0 (by omega);have f1:r1.cell? ⟨g5,1,none⟩=some (.int .i64 q1):=World.ownsRow.cellAt R1.p.own 1 (by omega);go_wp2_with fail
 refine wp_loop_rounds 3 ?_;have t1:=S10.out;have t2:=X10.out;rw[rounds_succ];go_wp2_with fail
 clear t1 t2;have t1:=S11.out;have t2:=X11.out;rw[rounds_succ];go_wp2_with fail
 clear t1 t2;clear l0 l1 a0 a1 b0 b1 f0 f1;have MA:=zh (R1.alloc (.cells #[.int .i64 x11] 2));have X:=zh (Blk.new' r1 #[.int .i64 x11] 2);rw[rounds_succ];go_wp2_with (at_builtin;refine ax (.tmp 145) (.tmp 147) 22 rfl rfl b2 2 i2 (.int .i64 0) 1 8 Try.underlying22 h2i h2z h2s h2b rfl (by decide) C1 1 k1 [.int .i64 x01] (by rfl) MA.own2 (some ⟨r1.heap.size,0,none⟩) 1 1 [.int .i64 x11] (by rfl) (by rfl) (.inr ⟨_,rfl,fun k u hk=>by rcases k with _|k<;>simp at hk;subst hk;exact X.cell 0 rfl⟩) (by simp[Value.oneCell']) (by decide) (by decide) MA.lt2.2.2 ?_;intro C2 k2 r2 hown hgrow hat;have R2:=zh (show RoJ w gL gA gB gp p0 p1 p2 p3 p4 bp g5 e2 [.int .i64 q0,.int .i64 q1] b2 C2 2 k2 [.int .i64 x01,.int .i64 x11] r2 from MA.push hgrow hown);clear hown hgrow hat MA X)
 rw[rounds_succ];go_wp2_with fail
 exact bodyPost_ret (v:=.tuple #[.slice C2 2 k2,.slice (some ⟨g5,0,none⟩) 2 e2]) (by simp[results,Try.results96,go_sem]) rfl ⟨_,_,_,_,_,_,rfl,R2.p.bel⟩
namespace Dp
def clE (N:Net) (fl ps:List Int):Int:=if coE N fl=0 then (if prE N ps=0 then (if coV N fl=prV N ps then 0 else 19)else prE N ps)else coE N fl
theorem UM {N:Net} {fl ps:List Int} (h:coE N fl≠0):clE N fl ps=coE N fl:=by simp[clE,h]
theorem UN {N:Net} {fl ps:List Int} (h:coE N fl=0) (h2:prE N ps≠0):clE N fl ps=prE N ps:=by simp[clE,h,h2]
theorem UO {N:Net} {fl ps:List Int} (h:coE N fl=0) (h2:prE N ps=0) (h3:coV N fl≠prV N ps):clE N fl ps=19:=by simp[clE,h,h2,h3]
theorem Qj {N:Net} {fl ps:List Int} (h:coE N fl=0) (h2:prE N ps=0) (h3:coV N fl=prV N ps):clE N fl ps=0:=by simp[clE,h,h2,h3]
end Dp
theorem AJ (A B C D:Option Addr) (N:Net) (fl ps:List Int) (n m p q cA cB cC cD:Nat) (w:World) (hn:n=N.sup.length) (hm:m=N.arcs.length) (hp:p=fl.length) (hq:q=ps.length) (hA:n<=cA/\cA<=9223372036854775807) (hB:m<=cB/\cB<=9223372036854775807) (hC:p<=cC/\cC<=9223372036854775807) (hD:q<=cD/\cD<=9223372036854775807) (hN:dm w A B N) (hF:aH w C fl) (hP:aH w D ps):
 Calls Try.prog 22 #[.agg #[.slice A n cA,.slice B m cB],.slice C p cC,.slice D q cD] w fun e w'=>e=.returned (.int .i64 (clE N fl ps))/\Below w.heap.size w w':=by
 have HN:=zh hn;have HM:=zh hm;have HP:=zh hp;have HQ:=zh hq;have HNA:=zh hN;have HFA:=zh hF;have HPA:=zh hP;clear hn hm hp hq hN hF hP;have B1:=zh (Blk.new' w #[.slice A n cA,.slice B m cB] 25);have HB1:=zh ((Below.refl w.heap.size w).alloc (Nat.le_refl _) (.cells #[.slice A n cA,.slice B m cB] 25));go_enter Try.func22,Try.ntmps22;go_wp2_with fail
 generalize w.alloc (.cells #[.slice A n cA,.slice B m cB] 25)=w1 at B1 HB1 ⊢;refine(Jj A B C N fl n m p cA cB cC w1 HN.out HM.out HP.out hA hB hC (HNA.below HB1.out (Nat.le_refl _)) (HFA.below HB1.out (Nat.le_refl _))).mono ?_;rintro e w2 ⟨rfl,hb2⟩;have B2:=zh (B1.below hb2 B1.lt);have HB2:=zh (HB1.trans (hb2.mono HB1.size));clear hb2 B1 HB1;have cA0:=B2.cell 0 rfl;have cB0:=B2.cell 1 rfl;have E1:=zh (UM (N:=N) (fl:=fl) (ps:=ps));have E2:=zh (UN (N:=N) (fl:=fl) (ps:=ps));have E3:=zh (UO (N:=N) (fl:=fl) (ps:=ps));have E4:=zh (Qj (N:=N) (fl:=fl) (ps:=ps));have PC:=zh (Jk A B D N ps n m q cA cB cD w2 HN.out HM.out HQ.out hA hB hD (HNA.below HB2.out (Nat.le_refl _)) (HPA.below HB2.out (Nat.le_refl _)));generalize coE N fl=x at *;generalize prE N ps=y at *;generalize coV N fl=u at *;generalize prV N ps=v at *
 by_cases hx:x=0
 ·subst hx
  go_wp2_with fail
  refine PC.mono ?_;rintro e w3 ⟨rfl,hb3⟩
  by_cases hy:y=0
  ·subst hy
   by_cases hu:u=v
   ·have E:=zh (E4.out (by trivial) (by trivial) hu)
    subst hu
    go_wp2
    go_ret;exact⟨ah E.symm,HB2.trans (hb3.mono HB2.size)⟩
   ·have E:=zh (E3.out (by trivial) (by trivial) hu)
    have hne:(u==v)=false:=by simpa using hu
    go_wp2
    go_ret;exact⟨ah E.symm,HB2.trans (hb3.mono HB2.size)⟩
  ·have E:=zh (E2.out (by trivial) hy)
   have hne:(y==0)=false:=by simpa using hy
   go_wp2
   go_ret;exact⟨ah E.symm,HB2.trans (hb3.mono HB2.size)⟩
 ·have E:=zh (E1.out hx)
  have hne:(x==0)=false:=by simpa using hx
  go_wp2
  go_ret;exact⟨ah E.symm,HB2.out⟩
def knN:Net:=⟨[3,0,-3],[⟨0,1,2,1⟩,⟨1,2,2,1⟩,⟨0,2,2,5⟩]⟩
theorem pO:chE knN=0:=by decide
theorem CF:ak knN [2,2,1]=true:=by decide
theorem Mh:aV knN [2,2,1] 3=9:=by decide
theorem Ru:prA knN [0,1,5] 3=9:=by decide
theorem Pt {p:List Int} (h: ∀v,v<p.length->dX (p.getD v 0)=true):p.all dX=true:=by
 rw[List.all_eq_true];intro x hx;obtain⟨i,hi,rfl⟩:=List.getElem_of_mem hx;have:=h i hi
 rwa [zg,List.getElem?_eq_getElem hi]at this
theorem Mi {w w':World} {e:Ending} (h:Dj knN w e w'): ∃gf gp fl p,e=.returned (.tuple #[.slice (some ⟨gf,0,none⟩) 3 3,.slice (some ⟨gp,0,none⟩) 3 3,.int .i64 0])/\
 aH w' (some ⟨gf,0,none⟩) fl/\aH w' (some ⟨gp,0,none⟩) p/\fl.length=3/\p.length=3/\coE knN fl=0/\coV knN fl=9/\clE knN fl p=0:=by
 rcases h with ⟨h,_⟩|⟨_,gf,gp,fl,p,rfl,hf,hp,_,hg,hlf,hfl,hl,hb,he⟩|⟨_,_,_,_,_,h⟩
 ·exact absurd pO h
 ·have h1:=weak (N:=knN) (fl:=[2,2,1]) (ps:=p) pO CF
  have h2:=weak (N:=knN) (fl:=fl) (ps:=[0,1,5]) pO hfl;have h3:knN.arcs.length=3:=rfl;rw[h3]at h1 h2 he;rw[Mh]at h1;rw[Ru]at h2;have h9:aV knN fl 3=9:=by omega
  have c1:coE knN fl=0:=by simp[coE,pO,hlf,hfl]
  have c2:coV knN fl=9:=by simp[coV,pO,hfl,h3,h9]
  have c3:prE knN p=0:=by simp only[prE,pO,hl,Pt hb,if_true]
  have c4:prV knN p=9:=by simp only[prV,c3,if_true];rw[h3];omega
  exact⟨gf,gp,fl,p,rfl,hf.ints,hp.ints,hlf,hl,c1,c2,Qj c1 c3 (by rw[c2,c4])⟩
 ·have:=h [2,2,1]
  rw[CF]at this
  cases this
structure KnJ (w:World) (g1 g2 g3:Nat) (W:World):Prop where
 s:Fl 2 W g1 [3,0,-3]
 a:Blk W g2 46 (flat bD knN.arcs)
 n:Blk W g3 25 [.slice (some ⟨g1,0,none⟩) 3 3,.slice (some ⟨g2,0,none⟩) 3 3]
 bel:Below w.heap.size w W
theorem KnJ.below {w W V:World} {g1 g2 g3:Nat} (h:KnJ w g1 g2 g3 W) (hb:Below W.heap.size W V):KnJ w g1 g2 g3 V:=
 ⟨h.s.below hb,h.a.below hb h.a.lt,h.n.below hb h.n.lt,h.bel.trans (hb.mono h.bel.size)⟩
theorem KnJ.net {w W:World} {g1 g2 g3:Nat} (h:KnJ w g1 g2 g3 W):dm W (some ⟨g1,0,none⟩) (some ⟨g2,0,none⟩) knN:=by
 refine⟨h.s.ints,fun i hi=>?_⟩;have hc: ∀j,j<4->W.cell? ⟨g2,i*4+j,none⟩=(bD (knN.arcs.getD i default))[j]?:=fun j hj=>by
  have e:=fD (f:=bD) (s:=4) (fun _=>rfl) _ _ _ _ (bL knN.arcs i default hi) hj;rw[<-e];obtain⟨v,hv⟩: ∃v,(flat bD knN.arcs)[i*4+j]?=some v:=by
   rw[e]
   match j,hj with
   |0,_=>exact⟨_,rfl⟩
   |1,_=>exact⟨_,rfl⟩
   |2,_=>exact⟨_,rfl⟩
   |3,_=>exact⟨_,rfl⟩
  rw[hv];exact h.a.cell _ hv
 have had:(⟨g2,0,none⟩:Addr).add (i*4)=⟨g2,i*4,none⟩:=by unfold Addr.add;split<;>simp_all
 exact⟨⟨g2,0,none⟩,rfl,h.a.lt,by rw[had];exact hc 0 (by omega),by rw[had];exact hc 1 (by omega),by rw[had];exact hc 2 (by omega),by rw[had];exact hc 3 (by omega)⟩
theorem KnJ.start (w:World):KnJ w w.heap.size (w.heap.size+1) (w.heap.size+1+1) (((w.alloc (.cells #[.int .i64 3,.int .i64 0,.int .i64 (-3)] 2)).alloc (.cells #[.int .i64 0,.int .i64 1,.int .i64 2,.int .i64 1,.int .i64 1,.int .i64 2,.int .i64 2,.int .i64 1,.int .i64 0,.int .i64 2,.int .i64 2,.int .i64 5] 46)).alloc (.cells #[.slice (some ⟨w.heap.size,0,none⟩) 3 3,.slice (some ⟨w.heap.size+1,0,none⟩) 3 3] 25)):=by
 have b1:=(Below.refl w.heap.size w).alloc (Nat.le_refl _) (.cells #[.int .i64 3,.int .i64 0,.int .i64 (-3)] 2);have b2:=b1.alloc b1.size (.cells #[.int .i64 0,.int .i64 1,.int .i64 2,.int .i64 1,.int .i64 1,.int .i64 2,.int .i64 2,.int .i64 1,.int .i64 0,.int .i64 2,.int .i64 2,.int .i64 5] 46);have b3:=b2.alloc b2.size (.cells #[.slice (some ⟨w.heap.size,0,none⟩) 3 3,.slice (some ⟨w.heap.size+1,0,none⟩) 3 3] 25);have x1:=Blk.new' w #[.int .i64 3,.int .i64 0,.int .i64 (-3)] 2;have x2:=Blk.new' (w.alloc (.cells #[.int .i64 3,.int .i64 0,.int .i64 (-3)] 2)) #[.int .i64 0,.int .i64 1,.int .i64 2,.int .i64 1,.int .i64 1,.int .i64 2,.int .i64 2,.int .i64 1,.int .i64 0,.int .i64 2,.int .i64 2,.int .i64 5] 46;have x3:=Blk.new' ((w.alloc (.cells #[.int .i64 3,.int .i64 0,.int .i64 (-3)] 2)).alloc (.cells #[.int .i64 0,.int .i64 1,.int .i64 2,.int .i64 1,.int .i64 1,.int .i64 2,.int .i64 2,.int .i64 1,.int .i64 0,.int .i64 2,.int .i64 2,.int .i64 5] 46)) #[.slice (some ⟨w.heap.size,0,none⟩) 3 3,.slice (some ⟨w.heap.size+1,0,none⟩) 3 3] 25;refine⟨(x1.alloc _).alloc _,?_,?_,b3⟩
 ·have:=x2.alloc (.cells #[.slice (some ⟨w.heap.size,0,none⟩) 3 3,.slice (some ⟨w.heap.size+1,0,none⟩) 3 3] 25)
  simpa [flat,bD,knN]using this
 ·simpa using x3
theorem CO.start (V:World):CO (((V.alloc (.cells #[.int .i64 4,.int .i64 1] 2)).alloc (.cells #[.int .i64 2,.int .i64 3] 2)).alloc (.cells #[.slice (some ⟨V.heap.size,0,none⟩) 2 2,.slice (some ⟨V.heap.size+1,0,none⟩) 2 2] 22)) (V.heap.size+1+1) V.heap.size (V.heap.size+1):=by
 have x1:=Blk.new' V #[.int .i64 4,.int .i64 1] 2;have x2:=Blk.new' (V.alloc (.cells #[.int .i64 4,.int .i64 1] 2)) #[.int .i64 2,.int .i64 3] 2;have x3:=Blk.new' ((V.alloc (.cells #[.int .i64 4,.int .i64 1] 2)).alloc (.cells #[.int .i64 2,.int .i64 3] 2)) #[.slice (some ⟨V.heap.size,0,none⟩) 2 2,.slice (some ⟨V.heap.size+1,0,none⟩) 2 2] 22;refine⟨?_,(x1.alloc _).alloc _,?_⟩
 ·simpa using x3
 ·simpa using x2.alloc (.cells #[.slice (some ⟨V.heap.size,0,none⟩) 2 2,.slice (some ⟨V.heap.size+1,0,none⟩) 2 2] 22)
theorem nu (w:World):Calls Try.prog 13 #[] w fun e w'=>e=.returned (.bool true)/\Below w.heap.size w w':=by
 have K0:=zh (KnJ.start w);go_enter Try.func13,Try.ntmps13;go_upto_region 2 with fail
 generalize hW:((w.alloc (.cells #[.int .i64 3,.int .i64 0,.int .i64 (-3)] 2)).alloc (.cells #[.int .i64 0,.int .i64 1,.int .i64 2,.int .i64 1,.int .i64 1,.int .i64 2,.int .i64 2,.int .i64 1,.int .i64 0,.int .i64 2,.int .i64 2,.int .i64 5] 46)).alloc (.cells #[.slice (some ⟨w.heap.size,0,none⟩) 3 3,.slice (some ⟨w.heap.size+1,0,none⟩) 3 3] 25)=w1 at K0 ⊢;clear hW;obtain⟨g1,hg1⟩: ∃g,g=w.heap.size:=⟨_,rfl⟩;rw[<-hg1]at K0 ⊢;clear hg1;obtain⟨g2,hg2⟩: ∃g,g=g1+1:=⟨_,rfl⟩;rw[<-hg2]at K0 ⊢;clear hg2;obtain⟨g3,hg3⟩: ∃g,g=g2+1:=⟨_,rfl⟩;rw[<-hg3]at K0 ⊢;clear hg3;have n0:=K0.n.cell 0 rfl;have n1:=K0.n.cell 1 rfl;go_wp2_with fail
 refine(wU _ _ knN 3 3 3 3 _ rfl rfl (by omega) (by omega) K0.net).mono ?_;rintro e w2 ⟨hL,hb⟩;obtain⟨gf,gp,fl,p,rfl,hf,hp,lf,lp,c1,c2,c3⟩:=Mi hL;have K2:=zh (K0.below hb);have F2:=zh hf;have P2:=zh hp;have LF:=zh lf;have LP:=zh lp;have C1:=zh c1;have C2:=zh c2;have C3:=zh c3;clear hL hb hf hp lf lp c1 c2 c3 K0 n0 n1;have n0:=K2.n.cell 0 rfl;have n1:=K2.n.cell 1 rfl;go_wp2_with fail
 refine(Jj _ _ _ knN fl 3 3 3 3 3 3 _ rfl rfl LF.symm (by omega) (by omega) (by omega) K2.net F2.out).mono ?_;rintro e w3 ⟨rfl,hb⟩;rw[C1.out,C2.out];have K3:=zh (K2.below hb);have F3:=zh (F2.below hb (Nat.le_refl _));have P3:=zh (P2.below hb (Nat.le_refl _));clear hb K2 F2 P2 n0 n1;have CC:=zh (CO.start w3);have B4:=zh ((((Below.refl w3.heap.size w3).alloc (Nat.le_refl _) (.cells #[.int .i64 4,.int .i64 1] 2)).alloc (by simp) (.cells #[.int .i64 2,.int .i64 3] 2)).alloc (by simp;omega) (.cells #[.slice (some ⟨w3.heap.size,0,none⟩) 2 2,.slice (some ⟨w3.heap.size+1,0,none⟩) 2 2] 22));go_wp2_with fail
 generalize ((w3.alloc (.cells #[.int .i64 4,.int .i64 1] 2)).alloc (.cells #[.int .i64 2,.int .i64 3] 2)).alloc (.cells #[.slice (some ⟨w3.heap.size,0,none⟩) 2 2,.slice (some ⟨w3.heap.size+1,0,none⟩) 2 2] 22)=w4 at CC B4 ⊢;refine(Me Ps _ _ _ _ CC.out).mono ?_;rintro e w5 ⟨A,c,R,rn,rc,Q,qn,qc,rfl,ho,hb⟩;obtain⟨g,cg,hv,hbg,hlt⟩:=ho.form (by omega)
 cases hv
 have B5:=zh ((Below.refl w5.heap.size w5).alloc (Nat.le_refl _) (.cells #[.slice (some ⟨g,0,none⟩) 2 c,.int .i64 3,.slice R rn rc,.slice Q qn qc] 87));have X:=zh (Blk.new' w5 #[.slice (some ⟨g,0,none⟩) 2 c,.int .i64 3,.slice R rn rc,.slice Q qn qc] 87);have OW:=zh (bF ho B5.out);have K5:=zh (((K3.below B4.out).below hb).below B5.out);have F5:=zh (((F3.below B4.out (Nat.le_refl _)).below hb (Nat.le_refl _)).below B5.out (Nat.le_refl _));have P5:=zh (((P3.below B4.out (Nat.le_refl _)).below hb (Nat.le_refl _)).below B5.out (Nat.le_refl _));clear ho hb hbg hlt K3 F3 P3 CC B4 B5;go_upto_region 5 with fail
 generalize w5.alloc (.cells #[.slice (some ⟨g,0,none⟩) 2 c,.int .i64 3,.slice R rn rc,.slice Q qn qc] 87)=w6 at X OW K5 F5 P5 ⊢;generalize w5.heap.size=gm at *;have n0:=K5.n.cell 0 rfl;have n1:=K5.n.cell 1 rfl;go_wp2_with fail
 refine(AJ _ _ _ _ knN fl p 3 3 3 3 3 3 3 3 _ rfl rfl LF.symm LP.symm (by omega) (by omega) (by omega) (by omega) K5.net F5.out P5.out).mono ?_;rintro e w7 ⟨rfl,hb⟩;rw[C3.out];have X7:=zh (X.below hb X.lt);have O7:=zh (bF OW.out hb);have BW:=zh ((K5.below hb).bel);clear hb n0 n1 X OW K5 F5 P5;have x0:=X7.cell 0 rfl;have x1:=X7.cell 1 rfl;have y0:w7.cell? ⟨g,0,none⟩=some (.int .i64 1):=World.ownsRow.cellAt O7.out 0 (by omega);go_wp2_with fail
 exact bodyPost_ret (v:=.bool true) (by simp[results,Try.results13,go_sem]) rfl ⟨rfl,BW.out⟩
def jO (w:World) (e:Ending) (w':World):Prop:=(∃b,e=.returned (.bool b))/\Below w.heap.size w w'
theorem Rv (A B C D E P Q:Option Addr) (cs:List Car) (T:Tab) (n nB nC nD m p q cA cB cC cD cE cP cQ:Nat) (w:World) (hm:m=cs.length) (hp:p=T.inn.length) (hq:q=T.out.length)
 (hE:m<=cE/\cE<=9223372036854775807) (hP:p<=cP/\cP<=9223372036854775807) (hQ:q<=cQ/\cQ<=9223372036854775807) (hcs:df w E cs) (hT:eu w P Q T):
 Calls Try.prog 30 #[.agg #[.slice A n cA,.slice B nB cB,.slice C nC cC,.slice D nD cD],.slice E m cE,.agg #[.slice P p cP,.slice Q q cQ]] w fun e w'=>jO w e w':=by
 have HM:=zh hm;have HP:=zh hp;have HQ:=zh hq;have HCS:=zh hcs;have HT:=zh hT;clear hm hp hq hcs hT;have HB:=zh (((Below.refl w.heap.size w).alloc (Nat.le_refl _) (.cells #[.slice A n cA,.slice B nB cB,.slice C nC cC,.slice D nD cD] 51)).alloc (by simp) (.cells #[.slice P p cP,.slice Q q cQ] 55));have XS:=zh ((Blk.new' w #[.slice A n cA,.slice B nB cB,.slice C nC cC,.slice D nD cD] 51).alloc (.cells #[.slice P p cP,.slice Q q cQ] 55));have XT:=zh (show Blk ((w.alloc (.cells #[.slice A n cA,.slice B nB cB,.slice C nC cC,.slice D nD cD] 51)).alloc (.cells #[.slice P p cP,.slice Q q cQ] 55)) (w.heap.size+1) 55 [.slice P p cP,.slice Q q cQ]from by simpa using Blk.new' (w.alloc (.cells #[.slice A n cA,.slice B nB cB,.slice C nC cC,.slice D nD cD] 51)) #[.slice P p cP,.slice Q q cQ] 55);go_enter Try.func30,Try.ntmps30;go_upto_region 1 with fail
 generalize (w.alloc (.cells #[.slice A n cA,.slice B nB cB,.slice C nC cC,.slice D nD cD] 51)).alloc (.cells #[.slice P p cP,.slice Q q cQ] 55)=w1 at HB XS XT ⊢;have s0:=XS.cell 0 rfl;have s1:=XS.cell 1 rfl;have s2:=XS.cell 2 rfl;have s3:=XS.cell 3 rfl;have t0:=XT.cell 0 rfl;have t1:=XT.cell 1 rfl;have HC1:=zh (HCS.below HB.out (Nat.le_refl _));have HT1:=zh (HT.below HB.out (Nat.le_refl _))
 by_cases a0:60<n
 ·have a0i:(60:Int)<(n:Int):=by omega
  go_wp2_with fail
  exact bodyPost_ret (v:=.bool true) (by simp[results,Try.results30,go_sem]) rfl (show jO w _ _ from⟨⟨_,rfl⟩,HB.out⟩)
 have a0i: ¬(60:Int)<(n:Int):=by omega
 by_cases a1:60<nB
 ·have a1i:(60:Int)<(nB:Int):=by omega
  go_wp2_with fail
  exact bodyPost_ret (v:=.bool true) (by simp[results,Try.results30,go_sem]) rfl (show jO w _ _ from⟨⟨_,rfl⟩,HB.out⟩)
 have a1i: ¬(60:Int)<(nB:Int):=by omega
 by_cases a2:60<nC
 ·have a2i:(60:Int)<(nC:Int):=by omega
  go_wp2_with fail
  exact bodyPost_ret (v:=.bool true) (by simp[results,Try.results30,go_sem]) rfl (show jO w _ _ from⟨⟨_,rfl⟩,HB.out⟩)
 have a2i: ¬(60:Int)<(nC:Int):=by omega
 by_cases a3:60<nD
 ·have a3i:(60:Int)<(nD:Int):=by omega
  go_wp2_with fail
  exact bodyPost_ret (v:=.bool true) (by simp[results,Try.results30,go_sem]) rfl (show jO w _ _ from⟨⟨_,rfl⟩,HB.out⟩)
 have a3i: ¬(60:Int)<(nD:Int):=by omega
 by_cases a4:12<m
 ·have a4i:(12:Int)<(m:Int):=by omega
  go_wp2_with fail
  exact bodyPost_ret (v:=.bool true) (by simp[results,Try.results30,go_sem]) rfl (show jO w _ _ from⟨⟨_,rfl⟩,HB.out⟩)
 have a4i: ¬(12:Int)<(m:Int):=by omega
 by_cases a5:12<p
 ·have a5i:(12:Int)<(p:Int):=by omega
  go_wp2_with fail
  exact bodyPost_ret (v:=.bool true) (by simp[results,Try.results30,go_sem]) rfl (show jO w _ _ from⟨⟨_,rfl⟩,HB.out⟩)
 have a5i: ¬(12:Int)<(p:Int):=by omega
 by_cases a6:12<q
 ·have a6i:(12:Int)<(q:Int):=by omega
  go_wp2_with fail
  exact bodyPost_ret (v:=.bool true) (by simp[results,Try.results30,go_sem]) rfl (show jO w _ _ from⟨⟨_,rfl⟩,HB.out⟩)
 have a6i: ¬(12:Int)<(q:Int):=by omega
 go_upto_region 3 with fail
 clear s0 s1 s2 s3 a0i a1i a2i a3i a4i a5i a6i;go_wp2_with fail
 go_loop [7] (fun iv=> ∃k:Nat,k<=m/\iv=.int .i64 k) (fun iv=>m-(intOf iv).toNat)
 case atStart=>exact⟨0,Nat.zero_le _,rfl⟩
 case round=>
  obtain⟨k,hk,rfl⟩:=hrel
  by_cases hlt:k<m
  ·have hki:(k:Int)<(m:Int):=by omega
   obtain⟨ad,rfl,abl,c0,c1,c2,c3,c4,TT,cT,c5,hcT,HTT⟩:=HC1.out k (by rw[<-HM.out];exact hlt);clear c0 c1 c2 c3 c4 HTT;generalize (cs.getD k default).trips.length=tl at *
   by_cases h8:8<tl
   ·have h8i:(8:Int)<(tl:Int):=by omega
    go_wp2_with fail
    exact bodyPost_ret (v:=.bool true) (by simp[results,Try.results30,go_sem]) rfl (show jO w _ _ from⟨⟨_,rfl⟩,HB.out⟩)
   ·have h8i: ¬(8:Int)<(tl:Int):=by omega
    go_wp2_with fail
    go_round
    case rel=>exact⟨k+1,by omega,by go_num⟩
    case measure=>simp[intOf];omega
  ·obtain rfl:m=k:=by omega
   go_wp2_with fail
   go_loop [8] (fun iv=> ∃k:Nat,k<=p/\iv=.int .i64 k) (fun iv=>p-(intOf iv).toNat)
   case atStart=>exact⟨0,Nat.zero_le _,rfl⟩
   case round=>
    obtain⟨k,hk,rfl⟩:=hrel
    by_cases hlt:k<p
    ·have hki:(k:Int)<(p:Int):=by omega
     obtain⟨ad,rfl,abl,TT,cT,c5,hcT,HTT⟩:=HT1.1 k (by rw[<-HP.out];exact hlt);clear HTT;generalize (T.inn.getD k []).length=tl at *
     by_cases h8:60<tl
     ·have h8i:(60:Int)<(tl:Int):=by omega
      go_wp2_with fail
      exact bodyPost_ret (v:=.bool true) (by simp[results,Try.results30,go_sem]) rfl (show jO w _ _ from⟨⟨_,rfl⟩,HB.out⟩)
     ·have h8i: ¬(60:Int)<(tl:Int):=by omega
      go_wp2_with fail
      go_round
      case rel=>exact⟨k+1,by omega,by go_num⟩
      case measure=>simp[intOf];omega
    ·obtain rfl:p=k:=by omega
     go_wp2_with fail
     go_loop [9] (fun iv=> ∃k:Nat,k<=q/\iv=.int .i64 k) (fun iv=>q-(intOf iv).toNat)
     case atStart=>exact⟨0,Nat.zero_le _,rfl⟩
     case round=>
      obtain⟨k,hk,rfl⟩:=hrel
      by_cases hlt:k<q
      ·have hki:(k:Int)<(q:Int):=by omega
       obtain⟨ad,rfl,abl,TT,cT,c5,hcT,HTT⟩:=HT1.2 k (by rw[<-HQ.out];exact hlt);clear HTT;generalize (T.out.getD k []).length=tl at *
       by_cases h8:60<tl
       ·have h8i:(60:Int)<(tl:Int):=by omega
        go_wp2_with fail
        exact bodyPost_ret (v:=.bool true) (by simp[results,Try.results30,go_sem]) rfl (show jO w _ _ from⟨⟨_,rfl⟩,HB.out⟩)
       ·have h8i: ¬(60:Int)<(tl:Int):=by omega
        go_wp2_with fail
        go_round
        case rel=>exact⟨k+1,by omega,by go_num⟩
        case measure=>simp[intOf];omega
      ·obtain rfl:q=k:=by omega
       go_wp2_with fail
       exact bodyPost_ret (v:=.bool false) (by simp[results,Try.results30,go_sem]) rfl (show jO w _ _ from⟨⟨_,rfl⟩,HB.out⟩)
theorem UQ (A B C D E:Option Addr) (S:Site) (cs:List Car) (n nB nC nD m cA cB cC cD cE:Nat) (w:World) (hn:n=S.lim.length) (hnB:nB=S.exp.length) (hnC:nC=S.buy.length) (hnD:nD=S.sell.length) (hm:m=cs.length)
 (hA:n<=cA/\cA<=9223372036854775807) (hB:nB<=cB/\cB<=9223372036854775807) (hC:nC<=cC/\cC<=9223372036854775807) (hD:nD<=cD/\cD<=9223372036854775807) (hE:m<=cE/\cE<=9223372036854775807)
 (hS:bH w A B C D S) (hcs:df w E cs):
 Calls Try.prog 49 #[.agg #[.slice A n cA,.slice B nB cB,.slice C nC cC,.slice D nD cD],.slice E m cE] w fun e w'=>jO w e w':=by
 obtain⟨u,hu⟩: ∃u,u=stE S cs:=⟨_,rfl⟩;have F31:Hid (∀V,Below w.heap.size w V->Calls Try.prog 31 #[.agg #[.slice A n cA,.slice B nB cB,.slice C nC cC,.slice D nD cD],.slice E m cE] V (fun e w'=>e=.returned (.int .i64 u)/\Below V.heap.size V w')):=zh (fun V hV=>by rw[hu];exact jC A B C D E S cs n nB nC nD m cA cB cC cD cE V hn hnB hnC hnD hm hA hB hC hD hE (hS.below hV (Nat.le_refl _)) (hcs.below hV (Nat.le_refl _)));have HKB:Hid (u=0->nB=n/\n<=48/\m<=8):=zh (fun h=>by have h0:=hu.symm.trans h;have h1:=aj.1 (aW h0).2.1;have h2:=(aW h0).1;omega);have HN:=zh hn;have HNB:=zh hnB;have HM:=zh hm;have HS:=zh hS;have HCS:=zh hcs;clear hn hnB hnC hnD hm hS hcs hu;have HB:=zh ((Below.refl w.heap.size w).alloc (Nat.le_refl _) (.cells #[.slice A n cA,.slice B nB cB,.slice C nC cC,.slice D nD cD] 51));have XS:=zh (Blk.new' w #[.slice A n cA,.slice B nB cB,.slice C nC cC,.slice D nD cD] 51);go_enter Try.func49,Try.ntmps49;go_upto_region 1 with fail
 generalize w.alloc (.cells #[.slice A n cA,.slice B nB cB,.slice C nC cC,.slice D nD cD] 51)=w1 at HB XS ⊢;have s0:=XS.cell 0 rfl;have s1:=XS.cell 1 rfl;have s2:=XS.cell 2 rfl;have s3:=XS.cell 3 rfl;have sl:=XS.lt;go_wp2_with fail
 refine(F31.out w1 HB.out).mono ?_;rintro e w2 ⟨rfl,hb⟩;clear s0 s1 s2 s3 sl;have XS:=zh (XS.below hb XS.lt);have HB:=zh (HB.trans (hb.mono HB.size));clear hb
 by_cases h0:u=0
 rotate_left
 ·have hb0:(u==0)=false:=by simpa using h0
  go_wp2_with fail
  go_ret;exact⟨⟨_,rfl⟩,HB.out⟩
 have hk:=HKB.out h0;have HX:Hid (nB=n):=zh hk.1;have hk1:=hk.2;clear hk HKB;subst h0;have s0:=XS.cell 0 rfl;have s1:=XS.cell 1 rfl;have s2:=XS.cell 2 rfl;have s3:=XS.cell 3 rfl;have sl:=XS.lt
 by_cases h6:6<n
 ·have d1:decide ((6:Int)<(n:Int))=true:=decide_eq_true (by omega)
  go_wp2_with fail
  go_ret;exact⟨⟨_,rfl⟩,HB.out⟩
 have d1:decide ((6:Int)<(n:Int))=false:=decide_eq_false (by omega)
 by_cases h3:3<m
 ·have d2:decide ((3:Int)<(m:Int))=true:=decide_eq_true (by omega)
  go_wp2_with fail
  go_ret;exact⟨⟨_,rfl⟩,HB.out⟩
 have d2:decide ((3:Int)<(m:Int))=false:=decide_eq_false (by omega);go_upto_region 5 with fail
 go_wp2_with fail
 clear s0 s1 s2 s3 sl d1 d2
 go_loopw [5] (fun iv wr=> ∃i:Nat,i<=m/\iv=.int .i64 i/\Hid (Below w2.heap.size w2 wr)) (fun iv _=>m-(intOf iv).toNat)
 case atStart=>exact⟨0,Nat.zero_le _,rfl,zh (Below.refl _ _)⟩
 case round=>
  obtain⟨i,hi,rfl,HW⟩:=hrel;have HBR:=zh (HB.trans (HW.mono HB.size));have XR:=zh (XS.below HW.out XS.lt)
  by_cases hlt:i<m
  ·have hii:(i:Int)<(m:Int):=by omega
   obtain⟨pa,rfl,pal,p0,p1,p2,p3,p4,Tr,cTr,p5,_,_⟩:=(HCS.below HBR.out (Nat.le_refl _)) i (by rw[<-HM.out];exact hlt);have ab2:(pa.add (i*6)).block<wr.heap.size:=by rw[block_add];exact pal
   generalize (cs.getD i default).cap=x0 at *;generalize (cs.getD i default).inn=x1 at *;generalize (cs.getD i default).out=x2 at *;generalize (cs.getD i default).start=x3 at *;generalize (cs.getD i default).fin=x4 at *;generalize (cs.getD i default).trips.length=x5 at *
   by_cases e0:60<x0
   ·have d0:decide (60<x0)=true:=decide_eq_true e0
    go_wp2_with fail
    go_ret;exact⟨⟨_,rfl⟩,HBR.out⟩
   have d0:decide (60<x0)=false:=decide_eq_false e0
   by_cases e1:60<x1
   ·have d1:decide (60<x1)=true:=decide_eq_true e1
    go_wp2_with fail
    go_ret;exact⟨⟨_,rfl⟩,HBR.out⟩
   have d1:decide (60<x1)=false:=decide_eq_false e1
   by_cases e2:60<x2
   ·have d2:decide (60<x2)=true:=decide_eq_true e2
    go_wp2_with fail
    go_ret;exact⟨⟨_,rfl⟩,HBR.out⟩
   have d2:decide (60<x2)=false:=decide_eq_false e2;go_wp2_with fail
   exact⟨⟨i+1,by omega,by go_num,HW⟩,by simp[intOf];omega⟩
  ·obtain rfl:m=i:=by omega
   go_upto_region 10 with fail
   have s0:=XR.cell 0 rfl;have s1:=XR.cell 1 rfl;have s2:=XR.cell 2 rfl;have s3:=XR.cell 3 rfl;have sl:=XR.lt;go_wp2_with fail
   clear s0 s1 s2 s3 sl
   go_loopw [6] (fun iv wq=> ∃k:Nat,k<=n/\iv=.int .i64 k/\Hid (Below wr.heap.size wr wq)) (fun iv _=>n-(intOf iv).toNat)
   case atStart=>exact⟨0,Nat.zero_le _,rfl,zh (Below.refl _ _)⟩
   case round=>
    obtain⟨k,hk,rfl,HV⟩:=hrel;have HBQ:=zh (HBR.trans (HV.mono HBR.size));have XQ:=zh (XR.below HV.out XR.lt);have s0:=XQ.cell 0 rfl;have s1:=XQ.cell 1 rfl;have s2:=XQ.cell 2 rfl;have s3:=XQ.cell 3 rfl;have sl:=XQ.lt
    by_cases hkt:k<n
    ·have hki:(k:Int)<(n:Int):=by omega
     have hSV:=HS.below HBQ.out (Nat.le_refl _);obtain⟨pa,hpa,pal,px⟩:=hSV.1 k (by rw[<-HN.out];exact hkt);obtain⟨pb,hpb,pbl,py⟩:=hSV.2.1 k (by rw[<-HNB.out,HX.out];exact hkt);rw[hpa]at s0;rw[hpb]at s1;have hkb:(k:Int)<(nB:Int):=by have:=HX.out;omega
     clear hSV hpa hpb;have ab2:(pa.add k).block<wr.heap.size:=by rw[block_add];exact pal
     have bb2:(pb.add k).block<wr.heap.size:=by rw[block_add];exact pbl
     generalize S.lim.getD k 0=y0 at *;generalize S.exp.getD k 0=y1 at *
     by_cases e0:60<y0
     ·have d0:decide (60<y0)=true:=decide_eq_true e0
      go_wp2_with fail
      go_ret;exact⟨⟨_,rfl⟩,HBQ.out⟩
     have d0:decide (60<y0)=false:=decide_eq_false e0
     by_cases e1:60<y1
     ·have d1:decide (60<y1)=true:=decide_eq_true e1
      go_wp2_with fail
      go_ret;exact⟨⟨_,rfl⟩,HBQ.out⟩
     have d1:decide (60<y1)=false:=decide_eq_false e1;go_wp2_with fail
     exact⟨⟨k+1,by omega,by go_num,HV⟩,by simp[intOf];omega⟩
    ·obtain rfl:n=k:=by omega
     go_wp2_with fail
     go_ret;exact⟨⟨_,rfl⟩,HBQ.out⟩
end Go.Proofs.Ytmebpglkeedaoaa
