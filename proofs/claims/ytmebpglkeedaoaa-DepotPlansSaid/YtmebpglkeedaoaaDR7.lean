/- Contracts that the claim leans on. -/
import Derived.Test.YtmebpglkeedaoaaDR6
import Derived.Deep.Cut
import Derived.Laws.StructEq
set_option maxHeartbeats 16000000
set_option maxRecDepth 100000
set_option linter.unusedVariables false
set_option linter.unusedSimpArgs false
set_option linter.unnecessarySimpa false
namespace Go.Proofs.Ytmebpglkeedaoaa
open Go.RowKit Dp
noncomputable def Lr:Code:=((Try.f77.body.bind (gq 4)).getD .skip)
noncomputable def Ux:Code:=((Try.f77.body.bind (behind 4)).getD .skip)
def NuJ (S:Site) (cs:List Car) (w:World) (gs gx gr:Nat) (cv:List Value) (M i:Nat) (W:World):Prop:= ∃A cap,NtJ w gs gx gr cv A cap (jB S cs M i) (aQ S cs i) W
def CoN (K:Act->World->Prop) (gx gr:Nat) (P:World->Prop):Prop:= ∀(y0 y1 y2 y3 y5 y7 y8 y9 y10 y11 y12 y13 y14 y15 y16 y17 y18 y19 y20 y21 y22 y23 y24 y25 y26 y27 y28 y29 y30 y31 y32 y33 y34 y35 y36 y37 y38 y39 y40 y41 y42 y43 y44 y45 y46 y47 y48 y49 y50 y51 y52 y53 y54 y55 y56 y57 y58 y59 y60 y61 y62 y63 y64 y65 y66 y67 y68 y69 y70 y71 y72 y73 y74 y75 y76 y77 y78 y79 y80 y81 y82 y83 y84 y85 y86 y87 y88 y89 y90 y91 y92 y93 y94 y95 y96 y97 y98 y99 xZ y101 y102 yc y104 yf yg yh yj ym yn yo y112 y113 y114 y115 yt yu yw yx yz yA yB yC yD yE yF yG yH yI yJ yK yL yM yN yO yP yQ yR yS yT yU yV yX yY yZ za zb ze zi y150 y151 y152 y153 zk zm zn y157 y158 y159 y160 zo zq zt zu zw zx y167 y168 zy zA zB zC zD zF zG zH zI zJ zK zL zN zO zP zQ zR zS zT zU zV zW zX zY zZ z8 Aa Ab Ad Ae Ag Ah Ai Aj Ak Al Am Ap Ar Au Av:Value) w',P w'->K {tmps:=List.toArray (y0::y1::y2::y3::(.pointer (some ⟨gr,0,none⟩):Value)::y5::(.pointer (some ⟨gx,0,none⟩):Value)::y7::y8::y9::y10::y11::y12::y13::y14::y15::y16::y17::y18::y19::y20::y21::y22::y23::y24::y25::y26::y27::y28::y29::y30::y31::y32::y33::y34::y35::y36::y37::y38::y39::y40::y41::y42::y43::y44::y45::y46::y47::y48::y49::y50::y51::y52::y53::y54::y55::y56::y57::y58::y59::y60::y61::y62::y63::y64::y65::y66::y67::y68::y69::y70::y71::y72::y73::y74::y75::y76::y77::y78::y79::y80::y81::y82::y83::y84::y85::y86::y87::y88::y89::y90::y91::y92::y93::y94::y95::y96::y97::y98::y99::xZ::y101::y102::yc::y104::yf::yg::yh::yj::ym::yn::yo::y112::y113::y114::y115::yt::yu::yw::yx::yz::yA::yB::yC::yD::yE::yF::yG::yH::yI::yJ::yK::yL::yM::yN::yO::yP::yQ::yR::yS::yT::yU::yV::yX::yY::yZ::za::zb::ze::zi::y150::y151::y152::y153::zk::zm::zn::y157::y158::y159::y160::zo::zq::zt::zu::zw::zx::y167::y168::zy::zA::zB::zC::zD::zF::zG::zH::zI::zJ::zK::zL::zN::zO::zP::zQ::zR::zS::zT::zU::zV::zW::zX::zY::zZ::z8::Aa::Ab::Ad::Ae::Ag::Ah::Ai::Aj::Ak::Al::Am::Ap::Ar::Au::Av::[]),defers:=[]} w'
theorem Ib (cap inn out start fin:Int) (trips:List ja) (k:Nat):dB ⟨cap,inn,out,start,fin,trips⟩ k=fO trips k trips.length:=rfl
theorem Ls (cap inn out start fin:Int) (trips:List ja) (k:Nat):dz ⟨cap,inn,out,start,fin,trips⟩ k=iM trips k trips.length:=rfl
theorem nt4 (S:Site) (cs:List Car) (E:Option Addr) (n m cE gs gx gr M:Nat) (cv:List Value) (w W0:World) (h0:stE S cs=0) (hn:n=S.lim.length) (hm:m=cs.length) (hM:M=bK S cs) (hE:m<=cE/\cE<=9223372036854775807) (hcs:df w E cs) (hJ:NuJ S cs w gs gx gr cv M 0 W0)
 {K:Act->World->Prop} {R:Ending->World->Prop} (hR:CoN K gx gr (NuJ S cs w gs gx gr cv M m)) {x0 x2 x3 x7 x8 x10 x11 x12 x13 x14 x15 x16 x17 x18 x19 x20 x21 x22 x23 x24 x25 x26 x27 x28 x29 x30 x31 x32 x33 x34 x35 x36 x37 x38 x39 x40 x41 x42 x43 x44 x45 x46 x47 x48 x49 x50 x51 x52 x53 x54 x55 x56 x57 x58 x59 x60 x61 x62 x63 x64 x65 x66 x67 x68 x69 x70 x71 x72 x73 x74 x75 x76 x77 x78 x79 x80 x81 x82 x83 x84 x85 x86 x87 x88 x89 x90 x91 x92 x93 x94 x95 x96 x97 x98 x99 x100 x101 x102 x103 x104 x105 qy x107 qz qA qB qC x112 x113 x114 x115 qD qE qG qH qI qJ qK qL qM qO qQ qR qU qV qW qX qY wZ xc xe tQ tT tV tX tY tZ uf ug uh ui uj uk uo uq x150 x151 x152 x153 uu uw uy x157 x158 x159 x160 uA uB uC uD uE uF x167 x168 xh xk xm xn xq xu xw xy xA xB xC xD xE xG xH xI xJ xK xL xM xN DV DW DX DY DZ Ea Eb Ec Ee Eg x200 Eh Ei Ej El Em En Eo Ep Er:Value}:
 Code.wp Try.prog Lr (Exit.inBlock 4 (Exit.then K (bodyPost Try.prog Try.f77 R))) {tmps:=List.toArray (x0::(.slice E m cE:Value)::x2::x3::(.pointer (some ⟨gr,0,none⟩):Value)::(.int .i64 n:Value)::(.pointer (some ⟨gx,0,none⟩):Value)::x7::x8::(.int .i64 0:Value)::x10::x11::x12::x13::x14::x15::x16::x17::x18::x19::x20::x21::x22::x23::x24::x25::x26::x27::x28::x29::x30::x31::x32::x33::x34::x35::x36::x37::x38::x39::x40::x41::x42::x43::x44::x45::x46::x47::x48::x49::x50::x51::x52::x53::x54::x55::x56::x57::x58::x59::x60::x61::x62::x63::x64::x65::x66::x67::x68::x69::x70::x71::x72::x73::x74::x75::x76::x77::x78::x79::x80::x81::x82::x83::x84::x85::x86::x87::x88::x89::x90::x91::x92::x93::x94::x95::x96::x97::x98::x99::x100::x101::x102::x103::x104::x105::qy::x107::qz::qA::qB::qC::x112::x113::x114::x115::qD::qE::qG::qH::qI::qJ::qK::qL::qM::qO::qQ::qR::qU::qV::qW::qX::qY::wZ::xc::xe::tQ::tT::tV::tX::tY::tZ::uf::ug::uh::ui::uj::uk::uo::uq::x150::x151::x152::x153::uu::uw::uy::x157::x158::x159::x160::uA::uB::uC::uD::uE::uF::x167::x168::xh::xk::xm::xn::xq::xu::xw::xy::xA::xB::xC::xD::xE::xG::xH::xI::xJ::xK::xL::xM::xN::DV::DW::DX::DY::DZ::Ea::Eb::Ec::Ee::Eg::x200::Eh::Ei::Ej::El::Em::En::Eo::Ep::Er::[]),defers:=[]} W0:=by
 have H0:=zh h0;have HN:=zh hn;have HM:=zh hm;have HMM:=zh hM;have HCS:=zh hcs;have HJ0:=zh hJ;have HR:=zh hR;have h48:n<=48:=by have h3:=(aj.1 (aW h0).2.1).1;omega
 have h1n:1<=n:=by have h3:=(aj.1 (aW h0).2.1).1;omega
 have h8:m<=8:=by have:=(aW h0).1;omega
 have hM2:M<=833:=by have:=(dM h0).1;omega
 have HND:Hid (∀i k V,i<=8->k<=48->Calls Try.prog 109 #[.int .i64 n,.int .i64 ((i:Nat):Int),.int .i64 ((k:Nat):Int)] V fun e w'=>e=.returned (.int .i64 ((ag n i k:Nat):Int))/\V=w'):=zh (fun i k V hi hk=>uN n i k h48 hi hk V);have WH:Hid (∀i V,i<=8->Calls Try.prog 109 #[.int .i64 n,.int .i64 ((i:Nat):Int),.int .i64 0] V fun e w'=>e=.returned (.int .i64 ((ag n i 0:Nat):Int))/\V=w'):=zh (fun i V hi=>uN n i 0 h48 hi (by omega) V);clear h0 hn hm hM hcs hJ hR;obtain⟨i3,h3i,h3z,h3s,h3b⟩:=info_parts tu
 conv=>arg 2;whnf
 go_loopw [9] (fun iv wr=> ∃i:Nat,i<=m/\iv=.int .i64 i/\Hid (NuJ S cs w gs gx gr cv M i wr)) (fun iv _=>m-(intOf iv).toNat)
 case atStart=>exact⟨0,Nat.zero_le _,rfl,HJ0⟩
 case round=>
  clear HJ0;obtain⟨i,hi,rfl,HJ⟩:=hrel
  by_cases hlt:i<m
  ·have hii:(i:Int)<(m:Int):=by omega
   have il:i<cs.length:=by rw[<-HM.out];exact hlt
   have i8:i<=8:=by omega
   obtain⟨A,cap0,hj1⟩:=HJ.out;have HBD:=zh hj1;clear hj1 HJ;have HOK:=zh (eG H0.out il);have jD:=zh (fun k (hk:k<=S.lim.length)=>(And.intro (vO H0.out il hk) (xO (k:=k) il hk)));rw[<-HN.out]at jD HOK;rw[<-HMM.out]at jD;have PS0:=zh (Hm S cs M i);have PSK:=zh (fun k (hk:k<=n)=>And.intro (JF S cs (M:=M) (i:=i) (k:=k) (by have:=(jD.out k hk).2;rw[<-HN.out];omega)) (And.intro (JG S cs (M:=M) (i:=i) (k:=k) (by have:=(jD.out k hk).2;rw[<-HN.out];omega)) (JH S cs (M:=M) (i:=i) (k:=k) (by have:=(jD.out k hk).2;rw[<-HN.out];omega))));have PST:=zh (DD S cs (M:=M) (i:=i) (by rw[<-HN.out];omega));have PSL:=zh (Ho S cs (M:=M) (i:=i) (by have:=(jD.out n (Nat.le_refl _)).2;rw[<-HN.out];omega));have PA0:=zh (mF S cs i);have PAK:=zh (fun k=>p9 S cs i k);have PAL:=zh (kr S cs i);have PNX:=zh (And.intro (jL n i) (fun k=>ig n i k));rw[<-HN.out]at PSL PAL PST;simp only[<-HN.out]at PSK PAK;have PU:=zh (fun k=>iN HOK.out k);obtain⟨ad,hE2,abl,c0,c1,c2,c3,c4,TT,cT,c5,hcT,HTT⟩:=HCS.out i il;have hbl:(ad.add (i*6)).block<w.heap.size:=by rw[block_add];exact abl
   replace c0:=(HBD.bel.cell hbl).trans c0
   replace c1:=(HBD.bel.cell (p:=⟨_,_,none⟩) hbl).trans c1
   replace c2:=(HBD.bel.cell (p:=⟨_,_,none⟩) hbl).trans c2
   replace c3:=(HBD.bel.cell (p:=⟨_,_,none⟩) hbl).trans c3
   replace c4:=(HBD.bel.cell (p:=⟨_,_,none⟩) hbl).trans c4
   replace c5:=(HBD.bel.cell (p:=⟨_,_,none⟩) hbl).trans c5
   clear hbl;subst hE2;have HTR:=zh HTT;clear HTT;have HCO:=zh (aT.1 HOK.out).1;generalize hcc:cs.getD i default=c at *;clear hcc;obtain⟨cap,inn,out,start,fin,trips⟩:=c;simp only at c0 c1 c2 c3 c4 c5 hcT HTR HCO PST PSL;obtain⟨qn,hqn⟩: ∃qn,qn=trips.length:=⟨_,rfl⟩;rw[<-hqn]at c5 hcT;have HQN:=zh hqn;clear hqn;go_upto_region 15 with fail
   have Cr:=zh (HBD.alloc (.cells #[.int .i64 cap,.int .i64 inn,.int .i64 out,.int .i64 start,.int .i64 fin,.slice TT qn cT] 63));have XC:=zh (Blk.new' wr #[.int .i64 cap,.int .i64 inn,.int .i64 out,.int .i64 start,.int .i64 fin,.slice TT qn cT] 63);clear c0 c1 c2 c3 c4 c5 abl HBD;generalize wr.alloc (.cells #[.int .i64 cap,.int .i64 inn,.int .i64 out,.int .i64 start,.int .i64 fin,.slice TT qn cT] 63)=wx at Cr XC ⊢;obtain⟨gc,hgc⟩: ∃gc,gc=wr.heap.size:=⟨_,rfl⟩;rw[<-hgc]at XC ⊢;clear hgc;have HK0:Hid (NkJ w gs gx gr gc cv [.int .i64 cap,.int .i64 inn,.int .i64 out,.int .i64 start,.int .i64 fin,.slice TT qn cT] A cap0 (jo S cs M i 0) (bG S cs i 0) wx):=zh ⟨by rw[PS0.out,PA0.out];exact Cr.out,XC.out⟩;clear Cr XC;go_wp2_with fail
   go_loopw [11] (fun kv wr=> ∃k:Nat,k<=n+1/\kv=.int .i64 k/\Hid (∃A cp,(k<=n/\NkJ w gs gx gr gc cv [.int .i64 cap,.int .i64 inn,.int .i64 out,.int .i64 start,.int .i64 fin,.slice TT qn cT] A cp (jo S cs M i k) (bG S cs i k) wr)∨(k=n+1/\NkJ w gs gx gr gc cv [.int .i64 cap,.int .i64 inn,.int .i64 out,.int .i64 start,.int .i64 fin,.slice TT qn cT] A cp (jo S cs M i n) (bG S cs i n++[Dp.Arc.mk ((ag n i n:Nat):Int) (((ag n i n:Nat):Int)+1) cap 0]) wr))) (fun kv _=>n+1-(intOf kv).toNat)
   case atStart=>exact⟨0,Nat.zero_le _,rfl,zh ⟨_,_,.inl ⟨Nat.zero_le _,HK0.out⟩⟩⟩
   case round=>
    clear HK0;obtain⟨k,hk,rfl,HJ⟩:=hrel;obtain⟨A1,Es,hj⟩:=HJ.out;have HJJ:=zh hj;clear hj HJ
    by_cases hkn:k<=n
    ·have hki:(k:Int)<=(n:Int):=by omega
     have HK:Hid (NkJ w gs gx gr gc cv [.int .i64 cap,.int .i64 inn,.int .i64 out,.int .i64 start,.int .i64 fin,.slice TT qn cT] A1 Es (jo S cs M i k) (bG S cs i k) wr):=zh (HJJ.resolve_right (fun h=>by omega)).2;clear HJJ;have aM:ag n i k+1<M:=(jD.out k hkn).2;have al0:=(jD.out k hkn).1;have k48:k<=48:=by omega
     have HSL:=zh (PSK.out k hkn).1;have HSG:=zh (PSK.out k hkn).2.1;obtain⟨u,hu⟩: ∃u,u=dz ⟨cap,inn,out,start,fin,trips⟩ k:=⟨_,rfl⟩;obtain⟨aw,haw⟩: ∃aw,aw=dB ⟨cap,inn,out,start,fin,trips⟩ k:=⟨_,rfl⟩;have HUC:Hid (∀V,Below w.heap.size w V->Calls Try.prog 86 #[.agg #[.int .i64 cap,.int .i64 inn,.int .i64 out,.int .i64 start,.int .i64 fin,.slice TT qn cT],.int .i64 ((k:Nat):Int)] V fun e w'=>e=.returned (.int .i64 u)/\Below V.heap.size V w'):=zh (fun V hV=>by
      have:=JO (.int .i64 cap) (.int .i64 inn) (.int .i64 out) (.int .i64 start) (.int .i64 fin) k _ n TT trips qn cT V HQN.out hcT (HTR.below hV (Nat.le_refl _)) (aT.1 HOK.out).2;rw[hu,Ls,<-HQN.out];exact this)
     have HAC:Hid (∀V,Below w.heap.size w V->Calls Try.prog 84 #[.agg #[.int .i64 cap,.int .i64 inn,.int .i64 out,.int .i64 start,.int .i64 fin,.slice TT qn cT],.int .i64 ((k:Nat):Int)] V fun e w'=>e=.returned (.bool aw)/\Below V.heap.size V w'):=zh (fun V hV=>by
      have:=JN (.int .i64 cap) (.int .i64 inn) (.int .i64 out) (.int .i64 start) (.int .i64 fin) k TT trips qn cT V HQN.out hcT (HTR.below hV (Nat.le_refl _));rw[haw,Ib,<-HQN.out];exact this)
     have ub:=PU.out k;rw[<-hu]at ub;have HSS:=zh (PSK.out k hkn).2.2;rw[<-hu]at HSS;have HAK:=zh (PAK.out k);unfold slA at HAK;rw[<-haw]at HAK;simp only at HAK;have HEQ:Hid (k=n->ag n i n=ag n i k/\bG S cs i n=bG S cs i k/\jo S cs M i n=jo S cs M i k):=zh (fun e=>by subst e;exact⟨rfl,rfl,rfl⟩);have HNC:=zh (fun V=>HND.out i k V i8 k48);clear hu haw;generalize ag n i k=a at *;generalize bG S cs i k=ar at *;generalize jo S cs M i k=su at *;have a1e:IntKind.i64.wrap ((a:Int)+1)=(a:Int)+1:=IntWalk.i64_in _ (by omega);have a2e:IntKind.i64.wrap ((a:Int)+2)=(a:Int)+2:=IntWalk.i64_in _ (by omega);have k1e:IntKind.i64.wrap (1+(k:Int))=1+(k:Int):=IntWalk.i64_in _ (by omega);go_upto_region 19 with (go_at_call 109;refine(HNC.out _).mono ?_;rintro e wq ⟨rfl,rfl⟩)
     have e0:=HK.car.cell 0 rfl;have el:=HK.car.lt;have b1:=HK.d.b.cell 1 rfl;have bl:=HK.d.b.lt;have JA:=zh (HK.alloc (.cells #[.int .i64 a,.int .i64 ((a:Int)+1),.int .i64 cap,.int .i64 0] 46));have XA:Hid (Blk (wr.alloc (.cells #[.int .i64 a,.int .i64 ((a:Int)+1),.int .i64 cap,.int .i64 0] 46)) wr.heap.size 46 (flat bD [Dp.Arc.mk (a:Int) ((a:Int)+1) cap 0])):=zh (Blk.new' wr #[.int .i64 a,.int .i64 ((a:Int)+1),.int .i64 cap,.int .i64 0] 46);have HLE:Hid ((ar).length+1<=4096):=zh (by omega);obtain⟨ln,hln⟩: ∃ln,ln=(ar).length:=⟨_,rfl⟩;have HLN:=zh hln;rw[<-hln]at b1;clear hln
     go_upto_region 20 with (at_builtin;refine ax (.tmp 91) (.tmp 98) 23 rfl rfl w.heap.size 46 i3 (.agg #[.int .i64 0,.int .i64 0,.int .i64 0,.int .i64 0]) 4 32 Try.underlying23 h3i h3z h3s h3b rfl (by decide) A1 ln Es (flat bD (ar)) (by rfl) (by rw[HLN.out];exact JA.d.own) (some ⟨wr.heap.size,0,none⟩) 1 1 (flat bD [Dp.Arc.mk (a:Int) ((a:Int)+1) cap 0]) (by rfl) (by rfl) (.inr ⟨_,rfl,fun j u hj=>by rw[dN];exact XA.cell j hj⟩) (by simp[flat,bD,Value.oneCell']) (by have:=HLE.out;have:=HLN.out;unfold maxLen;omega) (by have:=HLE.out;have:=HLN.out;omega) JA.d.bel.size ?_;intro A2 cap2 va hown hgrow hat;have JM:=JA.d.mid (by rw[<-HLN.out];exact hgrow);clear b1 bl;have b1:=JM.cell 1 rfl;have bz:=JM.free 1;have bl:=JM.lt;have HK5:Hid (NkJ w gs gx gr gc cv [.int .i64 cap,.int .i64 inn,.int .i64 out,.int .i64 start,.int .i64 fin,.slice TT qn cT] A2 cap2 (su) (ar++[Dp.Arc.mk (a:Int) ((a:Int)+1) cap 0]) (va.setCell ⟨gx,1,none⟩ (.slice A2 (ln+1) cap2))):=zh (JA.push (m:=1) (news:=[Dp.Arc.mk (a:Int) ((a:Int)+1) cap 0]) HLN.out rfl hgrow hown);clear JM hown hgrow hat JA XA)
     clear b1 bz bl el e0 HK HLN HLE;generalize va.setCell ⟨gx,1,none⟩ (.slice A2 (ln+1) cap2)=w5 at HK5 ⊢
     by_cases hke:k=n
     ·have hkb:((k:Int)==(n:Int))=true:=by rw[hke];exact beq_self_eq_true _
      have HE:Hid (k+1=n+1/\NkJ w gs gx gr gc cv [.int .i64 cap,.int .i64 inn,.int .i64 out,.int .i64 start,.int .i64 fin,.slice TT qn cT] A2 cap2 (jo S cs M i n) (bG S cs i n++[Dp.Arc.mk ((ag n i n:Nat):Int) (((ag n i n:Nat):Int)+1) cap 0]) w5):=zh ⟨by omega,by rw[(HEQ.out hke).1,(HEQ.out hke).2.1,(HEQ.out hke).2.2];exact HK5.out⟩;clear hke;go_wp2_with fail
      exact⟨⟨k+1,by omega,by go_num,zh ⟨_,_,.inr HE.out⟩⟩,by simp[intOf];omega⟩
     ·have hkb:((k:Int)==(n:Int))=false:=by simp;omega
      have Uy:k+1<=n:=by omega
      go_upto_region 21 with fail
      have e0:=HK5.car.cell 0 rfl;have el:=HK5.car.lt;have b1:=HK5.d.b.cell 1 rfl;have bl:=HK5.d.b.lt;have JA:=zh (HK5.alloc (.cells #[.int .i64 ((a:Int)+1),.int .i64 ((a:Int)+2),.int .i64 cap,.int .i64 0] 46));have XA:Hid (Blk (w5.alloc (.cells #[.int .i64 ((a:Int)+1),.int .i64 ((a:Int)+2),.int .i64 cap,.int .i64 0] 46)) w5.heap.size 46 (flat bD [Dp.Arc.mk ((a:Int)+1) ((a:Int)+2) cap 0])):=zh (Blk.new' w5 #[.int .i64 ((a:Int)+1),.int .i64 ((a:Int)+2),.int .i64 cap,.int .i64 0] 46);have HLE:Hid ((ar++[Dp.Arc.mk (a:Int) ((a:Int)+1) cap 0]).length+1<=4096):=zh (by first|(simp;done)|(simp;omega));obtain⟨ln,hln⟩: ∃ln,ln=(ar++[Dp.Arc.mk (a:Int) ((a:Int)+1) cap 0]).length:=⟨_,rfl⟩;have HLN:=zh hln;rw[<-hln]at b1;clear hln
      go_upto_region 22 with (at_builtin;refine ax (.tmp 105) (.tmp 113) 23 rfl rfl w.heap.size 46 i3 (.agg #[.int .i64 0,.int .i64 0,.int .i64 0,.int .i64 0]) 4 32 Try.underlying23 h3i h3z h3s h3b rfl (by decide) A2 ln cap2 (flat bD (ar++[Dp.Arc.mk (a:Int) ((a:Int)+1) cap 0])) (by rfl) (by rw[HLN.out];exact JA.d.own) (some ⟨w5.heap.size,0,none⟩) 1 1 (flat bD [Dp.Arc.mk ((a:Int)+1) ((a:Int)+2) cap 0]) (by rfl) (by rfl) (.inr ⟨_,rfl,fun j u hj=>by rw[dN];exact XA.cell j hj⟩) (by simp[flat,bD,Value.oneCell']) (by have:=HLE.out;have:=HLN.out;unfold maxLen;omega) (by have:=HLE.out;have:=HLN.out;omega) JA.d.bel.size ?_;intro A3 Cs va hown hgrow hat;have JM:=JA.d.mid (by rw[<-HLN.out];exact hgrow);clear b1 bl;have b1:=JM.cell 1 rfl;have bz:=JM.free 1;have bl:=JM.lt;have HK6:Hid (NkJ w gs gx gr gc cv [.int .i64 cap,.int .i64 inn,.int .i64 out,.int .i64 start,.int .i64 fin,.slice TT qn cT] A3 Cs (su) (ar++[Dp.Arc.mk (a:Int) ((a:Int)+1) cap 0]++[Dp.Arc.mk ((a:Int)+1) ((a:Int)+2) cap 0]) (va.setCell ⟨gx,1,none⟩ (.slice A3 (ln+1) Cs))):=zh (JA.push (m:=1) (news:=[Dp.Arc.mk ((a:Int)+1) ((a:Int)+2) cap 0]) HLN.out rfl hgrow hown);clear JM hown hgrow hat JA XA)
      clear b1 bz bl el e0 HK5 HLN HLE;generalize va.setCell ⟨gx,1,none⟩ (.slice A3 (ln+1) Cs)=w6 at HK6 ⊢;have e0:=HK6.car.cell 0 rfl;have e1:=HK6.car.cell 1 rfl;have e2:=HK6.car.cell 2 rfl;have e3:=HK6.car.cell 3 rfl;have e4:=HK6.car.cell 4 rfl;have e5:=HK6.car.cell 5 rfl;have el:=HK6.car.lt;go_wp2_with fail
      refine(HAC.out w6 HK6.d.bel).mono ?_;rintro e w7 ⟨rfl,hb⟩;have HK7:=zh (HK6.below hb);clear hb HK6 e0 e1 e2 e3 e4 e5 el
      cases aw
      ·go_upto_region 23 with fail
       have e1:=HK7.car.cell 1 rfl;have e2:=HK7.car.cell 2 rfl;have el:=HK7.car.lt;have b1:=HK7.d.b.cell 1 rfl;have bl:=HK7.d.b.lt;have JA:=zh (HK7.alloc (.cells #[.int .i64 (1+(k:Int)),.int .i64 ((a:Int)+2),.int .i64 inn,.int .i64 0,.int .i64 ((a:Int)+1),.int .i64 (1+(k:Int)),.int .i64 out,.int .i64 0] 46));have XA:Hid (Blk (w7.alloc (.cells #[.int .i64 (1+(k:Int)),.int .i64 ((a:Int)+2),.int .i64 inn,.int .i64 0,.int .i64 ((a:Int)+1),.int .i64 (1+(k:Int)),.int .i64 out,.int .i64 0] 46)) w7.heap.size 46 (flat bD [Dp.Arc.mk (1+(k:Int)) ((a:Int)+2) inn 0,Dp.Arc.mk ((a:Int)+1) (1+(k:Int)) out 0])):=zh (Blk.new' w7 #[.int .i64 (1+(k:Int)),.int .i64 ((a:Int)+2),.int .i64 inn,.int .i64 0,.int .i64 ((a:Int)+1),.int .i64 (1+(k:Int)),.int .i64 out,.int .i64 0] 46);have HLE:Hid ((ar++[Dp.Arc.mk (a:Int) ((a:Int)+1) cap 0]++[Dp.Arc.mk ((a:Int)+1) ((a:Int)+2) cap 0]).length+2<=4096):=zh (by first|(simp;done)|(simp;omega));obtain⟨ln,hln⟩: ∃ln,ln=(ar++[Dp.Arc.mk (a:Int) ((a:Int)+1) cap 0]++[Dp.Arc.mk ((a:Int)+1) ((a:Int)+2) cap 0]).length:=⟨_,rfl⟩;have HLN:=zh hln;rw[<-hln]at b1;clear hln
       go_upto_region 24 with (at_builtin;refine ax (.tmp 121) (.tmp 136) 23 rfl rfl w.heap.size 46 i3 (.agg #[.int .i64 0,.int .i64 0,.int .i64 0,.int .i64 0]) 4 32 Try.underlying23 h3i h3z h3s h3b rfl (by decide) A3 ln Cs (flat bD (ar++[Dp.Arc.mk (a:Int) ((a:Int)+1) cap 0]++[Dp.Arc.mk ((a:Int)+1) ((a:Int)+2) cap 0])) (by rfl) (by rw[HLN.out];exact JA.d.own) (some ⟨w7.heap.size,0,none⟩) 2 2 (flat bD [Dp.Arc.mk (1+(k:Int)) ((a:Int)+2) inn 0,Dp.Arc.mk ((a:Int)+1) (1+(k:Int)) out 0]) (by rfl) (by rfl) (.inr ⟨_,rfl,fun j u hj=>by rw[dN];exact XA.cell j hj⟩) (by simp[flat,bD,Value.oneCell']) (by have:=HLE.out;have:=HLN.out;unfold maxLen;omega) (by have:=HLE.out;have:=HLN.out;omega) JA.d.bel.size ?_;intro A4 cap4 va hown hgrow hat;have JM:=JA.d.mid (by rw[<-HLN.out];exact hgrow);clear b1 bl;have b1:=JM.cell 1 rfl;have bz:=JM.free 1;have bl:=JM.lt;have HK8:Hid (NkJ w gs gx gr gc cv [.int .i64 cap,.int .i64 inn,.int .i64 out,.int .i64 start,.int .i64 fin,.slice TT qn cT] A4 cap4 (su) (ar++[Dp.Arc.mk (a:Int) ((a:Int)+1) cap 0]++[Dp.Arc.mk ((a:Int)+1) ((a:Int)+2) cap 0]++[Dp.Arc.mk (1+(k:Int)) ((a:Int)+2) inn 0,Dp.Arc.mk ((a:Int)+1) (1+(k:Int)) out 0]) (va.setCell ⟨gx,1,none⟩ (.slice A4 (ln+2) cap4))):=zh (JA.push (m:=2) (news:=[Dp.Arc.mk (1+(k:Int)) ((a:Int)+2) inn 0,Dp.Arc.mk ((a:Int)+1) (1+(k:Int)) out 0]) HLN.out rfl hgrow hown);clear JM hown hgrow hat JA XA)
       clear b1 bz bl el e1 e2 HK7 HLN HLE;generalize va.setCell ⟨gx,1,none⟩ (.slice A4 (ln+2) cap4)=w8 at HK8 ⊢;have b0:=HK8.d.b.cell 0 rfl;rw[HSL.out]at b0;have bl:=HK8.d.b.lt;have s0:=HK8.d.s.cell (a+1) (by rw[HSL.out];exact aM);rw[HSG.out]at s0;have sl:=HK8.d.s.lt;have e0:=HK8.car.cell 0 rfl;have e1:=HK8.car.cell 1 rfl;have e2:=HK8.car.cell 2 rfl;have e3:=HK8.car.cell 3 rfl;have e4:=HK8.car.cell 4 rfl;have e5:=HK8.car.cell 5 rfl;have el:=HK8.car.lt;have um:IntKind.i64.wrap (0-u)= -u:=by rw[show(0:Int)-u= -u by omega];exact IntWalk.i64_in _ (by omega)
       have um2:IntKind.i64.wrap (-u)= -u:=IntWalk.i64_in _ (by omega);have aMi:(a:Int)+1<(M:Int):=by omega
       have at1:((a:Int)+1).toNat=a+1:=by omega
       have ap1:(0:Int)<=(a:Int)+1:=by omega
       refine dC 10 ?af24a (by kernel_rfl) (by kernel_rfl) ?UZ ?U0
       case UZ=>
        intro V hV;have b0:=(hV.cell (p:=⟨gx,0,none⟩) bl).trans b0;have s0:=(hV.cell (p:=⟨gs,a+1,none⟩) sl).trans s0;have e0:=(hV.cell (p:=⟨gc,0,none⟩) el).trans e0;have e1:=(hV.cell (p:=⟨gc,1,none⟩) el).trans e1;have e2:=(hV.cell (p:=⟨gc,2,none⟩) el).trans e2;have e3:=(hV.cell (p:=⟨gc,3,none⟩) el).trans e3;have e4:=(hV.cell (p:=⟨gc,4,none⟩) el).trans e4;have e5:=(hV.cell (p:=⟨gc,5,none⟩) el).trans e5;have bl:=Nat.lt_of_lt_of_le bl hV.size;have sl:=Nat.lt_of_lt_of_le sl hV.size;have el:=Nat.lt_of_lt_of_le el hV.size;have HVW:=zh (HK8.d.bel.trans (hV.mono HK8.d.bel.size));clear hV;simp only[List.take_succ_cons,List.take_zero]
        repeat(go_big_quiet_step ((go_at_call 86;exact aZ (HUC.out _ (HVW.trans ((bN.far _).mono HVW.size))))))
        refine wpQuiet_nil ?_;rfl
       case U0=>
        intro wv hb8;have HKv:=zh (HK8.below hb8);clear hb8 b0 s0 sl e0 e1 e2 e3 e4 e5 el bl HK8;have s0:=HKv.d.s.cell (a+1) (by rw[HSL.out];exact aM);have sz:=HKv.d.s.free (a+1);have sl:=HKv.d.s.lt;have HK9:=zh (HKv.set (a+1) (-u));rw[HSS.out]at HK9;clear HKv;simp only[List.drop_succ_cons,List.drop_zero];go_upto_region 17 with fail
        clear s0 sz sl um um2 aMi at1 ap1;generalize wv.setCell ⟨gs,a+1,none⟩ (.int .i64 (-u))=w9 at HK9 ⊢;have HE:Hid (k+1<=n/\NkJ w gs gx gr gc cv [.int .i64 cap,.int .i64 inn,.int .i64 out,.int .i64 start,.int .i64 fin,.slice TT qn cT] A4 cap4 (jo S cs M i (k+1)) (bG S cs i (k+1)) w9):=zh ⟨Uy,by rw[HAK.out];simpa using HK9.out⟩;clear HK9;go_wp2_with fail
        exact⟨⟨k+1,by omega,by go_num,zh ⟨_,_,.inl HE.out⟩⟩,by simp[intOf];omega⟩
      ·go_upto_region 24 with fail
       have b0:=HK7.d.b.cell 0 rfl;rw[HSL.out]at b0;have bl:=HK7.d.b.lt;have s0:=HK7.d.s.cell (a+1) (by rw[HSL.out];exact aM);rw[HSG.out]at s0;have sl:=HK7.d.s.lt;have e0:=HK7.car.cell 0 rfl;have e1:=HK7.car.cell 1 rfl;have e2:=HK7.car.cell 2 rfl;have e3:=HK7.car.cell 3 rfl;have e4:=HK7.car.cell 4 rfl;have e5:=HK7.car.cell 5 rfl;have el:=HK7.car.lt;have um:IntKind.i64.wrap (0-u)= -u:=by rw[show(0:Int)-u= -u by omega];exact IntWalk.i64_in _ (by omega)
       have um2:IntKind.i64.wrap (-u)= -u:=IntWalk.i64_in _ (by omega);have aMi:(a:Int)+1<(M:Int):=by omega
       have at1:((a:Int)+1).toNat=a+1:=by omega
       have ap1:(0:Int)<=(a:Int)+1:=by omega
       refine dC 10 ?af24b (by kernel_rfl) (by kernel_rfl) ?U4 ?U5
       case U4=>
        intro V hV;have b0:=(hV.cell (p:=⟨gx,0,none⟩) bl).trans b0;have s0:=(hV.cell (p:=⟨gs,a+1,none⟩) sl).trans s0;have e0:=(hV.cell (p:=⟨gc,0,none⟩) el).trans e0;have e1:=(hV.cell (p:=⟨gc,1,none⟩) el).trans e1;have e2:=(hV.cell (p:=⟨gc,2,none⟩) el).trans e2;have e3:=(hV.cell (p:=⟨gc,3,none⟩) el).trans e3;have e4:=(hV.cell (p:=⟨gc,4,none⟩) el).trans e4;have e5:=(hV.cell (p:=⟨gc,5,none⟩) el).trans e5;have bl:=Nat.lt_of_lt_of_le bl hV.size;have sl:=Nat.lt_of_lt_of_le sl hV.size;have el:=Nat.lt_of_lt_of_le el hV.size;have HVW:=zh (HK7.d.bel.trans (hV.mono HK7.d.bel.size));clear hV;simp only[List.take_succ_cons,List.take_zero]
        repeat(go_big_quiet_step ((go_at_call 86;exact aZ (HUC.out _ (HVW.trans ((bN.far _).mono HVW.size))))))
        refine wpQuiet_nil ?_;rfl
       case U5=>
        intro wv hb8;have HKv:=zh (HK7.below hb8);clear hb8 b0 s0 sl e0 e1 e2 e3 e4 e5 el bl HK7;have s0:=HKv.d.s.cell (a+1) (by rw[HSL.out];exact aM);have sz:=HKv.d.s.free (a+1);have sl:=HKv.d.s.lt;have HK9:=zh (HKv.set (a+1) (-u));rw[HSS.out]at HK9;clear HKv;simp only[List.drop_succ_cons,List.drop_zero];go_upto_region 17 with fail
        clear s0 sz sl um um2 aMi at1 ap1;generalize wv.setCell ⟨gs,a+1,none⟩ (.int .i64 (-u))=w9 at HK9 ⊢;have HE:Hid (k+1<=n/\NkJ w gs gx gr gc cv [.int .i64 cap,.int .i64 inn,.int .i64 out,.int .i64 start,.int .i64 fin,.slice TT qn cT] A3 Cs (jo S cs M i (k+1)) (bG S cs i (k+1)) w9):=zh ⟨Uy,by rw[HAK.out];simpa using HK9.out⟩;clear HK9;go_wp2_with fail
        exact⟨⟨k+1,by omega,by go_num,zh ⟨_,_,.inl HE.out⟩⟩,by simp[intOf];omega⟩
    ·obtain rfl:k=n+1:=by omega
     have hki: ¬((n+1:Nat):Int)<=(n:Int):=by omega
     have HK:Hid (NkJ w gs gx gr gc cv [.int .i64 cap,.int .i64 inn,.int .i64 out,.int .i64 start,.int .i64 fin,.slice TT qn cT] A1 Es (jo S cs M i n) (bG S cs i n++[Dp.Arc.mk ((ag n i n:Nat):Int) (((ag n i n:Nat):Int)+1) cap 0]) wr):=zh (HJJ.resolve_left (fun h=>by omega)).2;clear HJJ;have aM:ag n i n+1<M:=(jD.out n (Nat.le_refl _)).2;have zM:ag n i 0<M:=by have:=(jD.out 0 (by omega)).2;omega
     have al0:=(jD.out n (Nat.le_refl _)).1;have HNC:=zh (fun V=>HND.out i n V i8 h48);have HNZ:=zh (fun V=>WH.out i V i8);have HSL:=zh (PSK.out n (Nat.le_refl _)).1;have HAL:=zh PAL.out;unfold nN at HAL;simp only at HAL;have HT1:=zh PST.1;have HT2:=zh PST.2;have HU1:=zh PSL.1;have HU2:=zh PSL.2;rw[<-HT2.out]at HU1 HU2;generalize ag n i n=a at *;generalize ag n i 0=z at *;generalize bG S cs i n=ar at *;generalize jo S cs M i n=su at *;have a1e:IntKind.i64.wrap ((a:Int)+1)=(a:Int)+1:=IntWalk.i64_in _ (by omega);have cfe:IntKind.i64.wrap (cap-fin)=cap-fin:=IntWalk.i64_in _ (by have:=HCO.out;omega);have ste:IntKind.i64.wrap (0+start)=start:=by rw[Int.zero_add];exact IntWalk.i64_in _ (by have:=HCO.out;omega)
     have YA:IntKind.i64.wrap start=start:=IntWalk.i64_in _ (by have:=HCO.out;omega);have um:IntKind.i64.wrap (0-fin)= -fin:=by rw[show(0:Int)-fin= -fin by omega];exact IntWalk.i64_in _ (by have:=HCO.out;omega)
     have um2:IntKind.i64.wrap (-fin)= -fin:=IntWalk.i64_in _ (by have:=HCO.out;omega);have aMi:(a:Int)+1<(M:Int):=by omega
     have at1:((a:Int)+1).toNat=a+1:=by omega
     have ap1:(0:Int)<=(a:Int)+1:=by omega
     have zMi:(z:Int)<(M:Int):=by omega
     go_upto_region 25 with fail
     have e0:=HK.car.cell 0 rfl;have e4:=HK.car.cell 4 rfl;have el:=HK.car.lt;have b1:=HK.d.b.cell 1 rfl;have bl:=HK.d.b.lt;obtain⟨ln,hln⟩: ∃ln,ln=(ar++[Dp.Arc.mk (a:Int) ((a:Int)+1) cap 0]).length:=⟨_,rfl⟩;have HLE:Hid (ln+1<=4096):=zh (by rw[hln];first|(simp;done)|(simp;omega));have HLN:=zh hln;rw[<-hln]at b1;clear hln;refine bQ 14 [.q,.q,.q,.q,.q,.q,.q,.q,.q,.q,.q,.q,.q,.p] (fun _=>(.cells #[.int .i64 ((a:Int)+1),.int .i64 0,.int .i64 (cap-fin),.int .i64 0] 46,fun b=>.slice (some ⟨b,0,none⟩) 1 1)) ?af25 (by kernel_rfl) (by kernel_rfl) ?WI ?WJ
     case WI=>
      intro V hV;have b1:=(hV.cell (p:=⟨gx,1,none⟩) bl).trans b1;have e0:=(hV.cell (p:=⟨gc,0,none⟩) el).trans e0;have e4:=(hV.cell (p:=⟨gc,4,none⟩) el).trans e4;have bl:=Nat.lt_of_lt_of_le bl hV.size;have el:=Nat.lt_of_lt_of_le el hV.size;clear hV;simp only[List.take_succ_cons,List.take_zero]
      repeat(with_reducible refine iD ?_;go_big_quiet_step ((go_at_call 109;exact aN (HNC.out _)));with_reducible refine wpQuiet_nil ?_)
      refine jr (by kernel_rfl) (fun _=>by kernel_rfl) ?_
      (try simp only[zp])
      with_reducible refine iI ?_
      rfl
     case WJ=>
      intro gs1 w3 hb3 hgs _;have HK3:=zh (HK.below hb3);obtain⟨_,hgb⟩:=hgs 13 rfl;have GB:Hid (Blk w3 (gs1 13) 46 (flat bD [Dp.Arc.mk ((a:Int)+1) 0 (cap-fin) 0])):=zh hgb;clear hb3 hgs hgb HK e0 e4 el b1 bl;simp only[List.drop_succ_cons,List.drop_zero,List.take_succ_cons,List.take_zero,fillP]
      (try simp only[zp])
      generalize gs1 13=ga at *;go_upto_region 26 with (at_builtin;refine ax (.tmp 151) (.tmp 163) 23 rfl rfl w.heap.size 46 i3 (.agg #[.int .i64 0,.int .i64 0,.int .i64 0,.int .i64 0]) 4 32 Try.underlying23 h3i h3z h3s h3b rfl (by decide) A1 ln Es (flat bD (ar++[Dp.Arc.mk (a:Int) ((a:Int)+1) cap 0])) (by rfl) (by rw[HLN.out];exact HK3.d.own) (some ⟨ga,0,none⟩) 1 1 (flat bD [Dp.Arc.mk ((a:Int)+1) 0 (cap-fin) 0]) (by rfl) (by rfl) (.inr ⟨_,rfl,fun j u hj=>by rw[dN];exact GB.cell j hj⟩) (by simp[flat,bD,Value.oneCell']) (by have:=HLE.out;unfold maxLen;omega) (by have:=HLE.out;omega) HK3.d.bel.size ?_;intro A2 cap2 va hown hgrow hat;have JM:=HK3.d.mid (by rw[<-HLN.out];exact hgrow);have b1:=JM.cell 1 rfl;have bz:=JM.free 1;have bl:=JM.lt;have HK4:Hid (NkJ w gs gx gr gc cv [.int .i64 cap,.int .i64 inn,.int .i64 out,.int .i64 start,.int .i64 fin,.slice TT qn cT] A2 cap2 (su) (ar++[Dp.Arc.mk (a:Int) ((a:Int)+1) cap 0]++[Dp.Arc.mk ((a:Int)+1) 0 (cap-fin) 0]) (va.setCell ⟨gx,1,none⟩ (.slice A2 (ln+1) cap2))):=zh (HK3.push (m:=1) (news:=[Dp.Arc.mk ((a:Int)+1) 0 (cap-fin) 0]) HLN.out rfl hgrow hown);clear JM hown hgrow hat)
      clear b1 bz bl HLN HLE HK3 GB;generalize va.setCell ⟨gx,1,none⟩ (.slice A2 (ln+1) cap2)=w4 at HK4 ⊢;rw[List.append_assoc,show[Dp.Arc.mk (a:Int) ((a:Int)+1) cap 0]++[Dp.Arc.mk ((a:Int)+1) 0 (cap-fin) 0]=[Dp.Arc.mk (a:Int) ((a:Int)+1) cap 0,Dp.Arc.mk ((a:Int)+1) 0 (cap-fin) 0]from rfl,<-HAL.out]at HK4;have b0:=HK4.d.b.cell 0 rfl;rw[HSL.out]at b0;have bl:=HK4.d.b.lt;have s0:=HK4.d.s.cell (z) (by rw[HSL.out];omega);rw[HT1.out]at s0;have sl:=HK4.d.s.lt;have e3:=HK4.car.cell 3 rfl;have el:=HK4.car.lt;refine dC 10 ?af26 (by kernel_rfl) (by kernel_rfl) ?WK ?WL
      case WK=>
       intro V hV;have b0:=(hV.cell (p:=⟨gx,0,none⟩) bl).trans b0;have s0:=(hV.cell (p:=⟨gs,z,none⟩) sl).trans s0;have e3:=(hV.cell (p:=⟨gc,3,none⟩) el).trans e3;have bl:=Nat.lt_of_lt_of_le bl hV.size;have sl:=Nat.lt_of_lt_of_le sl hV.size;have el:=Nat.lt_of_lt_of_le el hV.size;clear hV;simp only[List.take_succ_cons,List.take_zero]
       repeat(go_big_quiet_step ((go_at_call 109;exact aN (HNZ.out _))))
       refine wpQuiet_nil ?_;rfl
      case WL=>
       intro w5 hb8;have HKq:=zh (HK4.below hb8);clear hb8 b0 s0 sl e3 el bl HK4;have s0:=HKq.d.s.cell (z) (by rw[HSL.out];omega);have sz:=HKq.d.s.free (z);have sl:=HKq.d.s.lt;have HK5:=zh (HKq.set (z) (start));clear HKq;simp only[List.drop_succ_cons,List.drop_zero];go_upto_region 27 with fail
       clear s0 sz sl;generalize w5.setCell ⟨gs,z,none⟩ (.int .i64 (start))=w6 at HK5 ⊢;have b0:=HK5.d.b.cell 0 rfl;rw[List.length_set,HSL.out]at b0;have bl:=HK5.d.b.lt;have s0:=HK5.d.s.cell (a+1) (by rw[List.length_set,HSL.out];omega);rw[HU1.out]at s0;have sl:=HK5.d.s.lt;have e4:=HK5.car.cell 4 rfl;have el:=HK5.car.lt;refine dC 12 ?af27 (by kernel_rfl) (by kernel_rfl) ?WM ?WN
       case WM=>
        intro V hV;have b0:=(hV.cell (p:=⟨gx,0,none⟩) bl).trans b0;have s0:=(hV.cell (p:=⟨gs,a+1,none⟩) sl).trans s0;have e4:=(hV.cell (p:=⟨gc,4,none⟩) el).trans e4;have bl:=Nat.lt_of_lt_of_le bl hV.size;have sl:=Nat.lt_of_lt_of_le sl hV.size;have el:=Nat.lt_of_lt_of_le el hV.size;clear hV;simp only[List.take_succ_cons,List.take_zero]
        repeat(go_big_quiet_step ((go_at_call 109;exact aN (HNC.out _))))
        refine wpQuiet_nil ?_;rfl
       case WN=>
        intro w7 hb8;have HKq:=zh (HK5.below hb8);clear hb8 b0 s0 sl e4 el bl HK5;have s0:=HKq.d.s.cell (a+1) (by rw[List.length_set,HSL.out];omega);have sz:=HKq.d.s.free (a+1);have sl:=HKq.d.s.lt;have HK6:=zh (HKq.set (a+1) (-fin));rw[HU2.out]at HK6;clear HKq;simp only[List.drop_succ_cons,List.drop_zero];go_upto_region 13 with fail
        clear s0 sz sl;generalize w7.setCell ⟨gs,a+1,none⟩ (.int .i64 (-fin))=w8 at HK6 ⊢;have HE:Hid (NuJ S cs w gs gx gr cv M (i+1) w8):=zh ⟨_,_,HK6.d⟩;clear HK6;go_wp2_with fail
        go_roundw
        case measure=>simp[intOf];omega
        case rel=>exact⟨i+1,by omega,by go_num,HE⟩
  ·obtain rfl:m=i:=by omega
   go_wp2_with fail
   have hfin:=HR.out;unfold CoN at hfin;exact hfin _ _ _ _ _ _ _ _ _ _ _ _ _ _ _ _ _ _ _ _ _ _ _ _ _ _ _ _ _ _ _ _ _ _ _ _ _ _ _ _ _ _ _ _ _ _ _ _ _ _ _ _ _ _ _ _ _ _ _ _ _ _ _ _ _ _ _ _ _ _ _ _ _ _ _ _ _ _ _ _ _ _ _ _ _ _ _ _ _ _ _ _ _ _ _ _ _ _ _ _ _ _ _ _ _ _ _ _ _ _ _ _ _ _ _ _ _ _ _ _ _ _ _ _ _ _ _ _ _ _ _ _ _ _ _ _ _ _ _ _ _ _ _ _ _ _ _ _ _ _ _ _ _ _ _ _ _ _ _ _ _ _ _ _ _ _ _ _ _ _ _ _ _ _ _ _ _ _ _ _ _ _ _ _ _ _ _ _ _ _ _ _ _ _ _ _ _ _ _ _ _ _ _ _ _ _ _ _ _ HJ.out
def R77 (S:Site) (cs:List Car) (w:World):Ending->World->Prop:=fun e w'=> ∃gs A cap,e=.returned (.agg #[.slice (some ⟨gs,0,none⟩) (bK S cs) (bK S cs),.slice A (aQ S cs cs.length).length cap])/\Fl 2 w' gs (kU S cs)/\w'.ownsRow w.heap.size 46 4 (.slice A (aQ S cs cs.length).length cap) (aQ S cs cs.length).length (flat bD (aQ S cs cs.length))/\w.heap.size<=gs/\Below w.heap.size w w'
theorem nt8 (S:Site) (cs:List Car) (gs gx gr M:Nat) (cv:List Value) (w W0:World) (h0:stE S cs=0) (hM:M=bK S cs) (hJ:NuJ S cs w gs gx gr cv M cs.length W0) {y0 y1 y2 y3 y5 y7 y8 y9 y10 y11 y12 y13 y14 y15 y16 y17 y18 y19 y20 y21 y22 y23 y24 y25 y26 y27 y28 y29 y30 y31 y32 y33 y34 y35 y36 y37 y38 y39 y40 y41 y42 y43 y44 y45 y46 y47 y48 y49 y50 y51 y52 y53 y54 y55 y56 y57 y58 y59 y60 y61 y62 y63 y64 y65 y66 y67 y68 y69 y70 y71 y72 y73 y74 y75 y76 y77 y78 y79 y80 y81 y82 y83 y84 y85 y86 y87 y88 y89 y90 y91 y92 y93 y94 y95 y96 y97 y98 y99 xZ y101 y102 yc y104 yf yg yh yj ym yn yo y112 y113 y114 y115 yt yu yw yx yz yA yB yC yD yE yF yG yH yI yJ yK yL yM yN yO yP yQ yR yS yT yU yV yX yY yZ za zb ze zi y150 y151 y152 y153 zk zm zn y157 y158 y159 y160 zo zq zt zu zw zx y167 y168 zy zA zB zC zD zF zG zH zI zJ zK zL zN zO zP zQ zR zS zT zU zV zW zX zY zZ z8 Aa Ab Ad Ae Ag Ah Ai Aj Ak Al Am Ap Ar Au Av:Value}:
 Code.wp Try.prog Ux (bodyPost Try.prog Try.f77 (R77 S cs w)) {tmps:=List.toArray (y0::y1::y2::y3::(.pointer (some ⟨gr,0,none⟩):Value)::y5::(.pointer (some ⟨gx,0,none⟩):Value)::y7::y8::y9::y10::y11::y12::y13::y14::y15::y16::y17::y18::y19::y20::y21::y22::y23::y24::y25::y26::y27::y28::y29::y30::y31::y32::y33::y34::y35::y36::y37::y38::y39::y40::y41::y42::y43::y44::y45::y46::y47::y48::y49::y50::y51::y52::y53::y54::y55::y56::y57::y58::y59::y60::y61::y62::y63::y64::y65::y66::y67::y68::y69::y70::y71::y72::y73::y74::y75::y76::y77::y78::y79::y80::y81::y82::y83::y84::y85::y86::y87::y88::y89::y90::y91::y92::y93::y94::y95::y96::y97::y98::y99::xZ::y101::y102::yc::y104::yf::yg::yh::yj::ym::yn::yo::y112::y113::y114::y115::yt::yu::yw::yx::yz::yA::yB::yC::yD::yE::yF::yG::yH::yI::yJ::yK::yL::yM::yN::yO::yP::yQ::yR::yS::yT::yU::yV::yX::yY::yZ::za::zb::ze::zi::y150::y151::y152::y153::zk::zm::zn::y157::y158::y159::y160::zo::zq::zt::zu::zw::zx::y167::y168::zy::zA::zB::zC::zD::zF::zG::zH::zI::zJ::zK::zL::zN::zO::zP::zQ::zR::zS::zT::zU::zV::zW::zX::zY::zZ::z8::Aa::Ab::Ad::Ae::Ag::Ah::Ai::Aj::Ak::Al::Am::Ap::Ar::Au::Av::[]),defers:=[]} W0:=by
 obtain⟨A,cap,hj⟩:=hJ;obtain⟨l,hl⟩: ∃l,l=aY S cs cs.length:=⟨_,rfl⟩;have hlen:l.length=M:=by rw[hl,dG,hM];rfl
 have hM1:2<=M/\M<=833:=by have:=dM h0;have:=(aj.1 (aW h0).2.1).1;omega
 rw[show jB S cs M cs.length=l from by rw[hM,BP,hl]]at hj;have HJ:=zh hj;have HBD:=zh (fun j (hj:j<=1024)=>Fs (l:=l) (by rw[hl];exact kV h0 _ (Nat.le_refl _)) j hj);have HEB:=zh (fun j (hj:j<M)=>(show -1048576<=l.getD j 0/\l.getD j 0<=1048576 from by
  have:l.getD j 0∈l:=by rw[zg,List.getElem?_eq_getElem (by omega)];exact List.getElem_mem _
  rw[hl]at this;exact kV h0 _ (Nat.le_refl _) _ (by rw[<-hl]at this ⊢;exact this)))
 have HSU:=zh (fun j (hj:j+1<M)=>vT l j (by omega));have h00:l.getD 0 0=0:=by rw[hl];exact jM _ _ _
 have u7:=zh (BQ l h00 (by omega));have HSN:Hid (l.set 0 (-(sum l))=kU S cs):=zh (by rw[hl];rfl);have HLEN:=zh hlen;have H00:=zh h00;have HMN:=zh hM;have HS0:=zh (vS l);clear hj h00 hl hlen h0 hM;obtain⟨p,hp⟩: ∃p,M=p+1:=⟨M-1,by omega⟩;subst hp;have pz:(0:Int)<(p:Int)+1:=by omega
 conv=>arg 2;whnf
 have b0:=HJ.b.cell 0 rfl;rw[HLEN.out]at b0;have bl:=HJ.b.lt;go_wp2_with fail
 go_loop [13,14] (fun sv iv=> ∃j:Nat,j<=p/\iv=.int .i64 ((j:Int)+1)/\sv=.int .i64 (lS l j)) (fun _ iv=>p+1-(intOf iv).toNat)
 case atStart=>exact⟨0,Nat.zero_le _,rfl,by rw[HS0.out]⟩
 case round=>
  obtain⟨j,hj,rfl,rfl⟩:=hrel
  by_cases hlt:j<p
  ·have hji:(j:Int)+1<(p:Int)+1:=by omega
   have jt:((j:Int)+1).toNat=j+1:=by omega
   have jz:(0:Int)<=(j:Int)+1:=by omega
   have sx:=HJ.s.cell (j+1) (by rw[HLEN.out];omega);have sl:=HJ.s.lt;have x1:=HBD.out j (by omega);have x2:=HEB.out (j+1) (by omega);have HN:=zh (HSU.out j (by omega));generalize l.getD (j+1) 0=x at *;generalize lS l j=sj at *;have we:IntKind.i64.wrap (sj+x)=sj+x:=IntWalk.i64_in _ (by omega);have we2:IntKind.i64.wrap ((j:Int)+1+1)=(j:Int)+1+1:=IntWalk.i64_in _ (by omega);go_wp2_with fail
   exact⟨⟨j+1,by omega,by simp,by rw[HN.out]⟩,by simp[intOf];omega⟩
  ·obtain rfl:p=j:=by omega
   have hji: ¬(p:Int)+1<(p:Int)+1:=by omega
   have HE:=zh (show lS l p=sum l from by have:=u7.out;rw[HLEN.out]at this;exact this);have x1:=HBD.out p (by omega);rw[HE.out]at x1 ⊢;have we:IntKind.i64.wrap (-(sum l))= -(sum l):=IntWalk.i64_in _ (by omega);have s0:=HJ.s.cell 0 (by rw[HLEN.out];omega);have sz:=HJ.s.free 0;have sl:=HJ.s.lt;have HJ2:=zh (HJ.set 0 (-(sum l)));rw[HSN.out]at HJ2;go_upto_region 34 with fail
   clear b0 bl s0 sz sl HJ;generalize W0.setCell ⟨gs,0,none⟩ (.int .i64 (-(sum l)))=w1 at HJ2 ⊢;have b0:=HJ2.b.cell 0 rfl;have b1:=HJ2.b.cell 1 rfl;rw[eF,<-HMN.out]at b0;have bl:=HJ2.b.lt;have r0:=HJ2.r.cell 0 rfl;have r1:=HJ2.r.cell 1 rfl;have rz:=HJ2.r.free 0;have rz1:=HJ2.r.free 1;have rl:=HJ2.r.lt;have rne:=HJ2.ne;obtain⟨na,hna⟩: ∃na,na=(aQ S cs cs.length).length:=⟨_,rfl⟩;have HNA:=zh hna;rw[<-hna]at b1;clear hna;have HF:Hid (Fl 2 ((w1.setCell ⟨gr,0,none⟩ (.slice (some ⟨gs,0,none⟩) (p+1) (p+1))).setCell ⟨gr,1,none⟩ (.slice A na cap)) gs (kU S cs)/\((w1.setCell ⟨gr,0,none⟩ (.slice (some ⟨gs,0,none⟩) (p+1) (p+1))).setCell ⟨gr,1,none⟩ (.slice A na cap)).ownsRow w.heap.size 46 4 (.slice A na cap) na (flat bD (aQ S cs cs.length))/\w.heap.size<=gs/\Below w.heap.size w ((w1.setCell ⟨gr,0,none⟩ (.slice (some ⟨gs,0,none⟩) (p+1) (p+1))).setCell ⟨gr,1,none⟩ (.slice A na cap))/\Blk ((w1.setCell ⟨gr,0,none⟩ (.slice (some ⟨gs,0,none⟩) (p+1) (p+1))).setCell ⟨gr,1,none⟩ (.slice A na cap)) gr 25 [.slice (some ⟨gs,0,none⟩) (p+1) (p+1),.slice A na cap]):=zh (by
    have h:=HJ2.out;have t1:gs≠gr:=fun e=>ae h.r h.s (by decide) (by rw[e])
    have o1:=h.own;rw[<-HNA.out]at o1;refine⟨(h.s.set_ne (p:=⟨gr,0,none⟩) t1 _).set_ne (p:=⟨gr,1,none⟩) t1 _,bI (bI o1 (aF (g:=gr) h.r o1 (by decide)) _) (aF (g:=gr) h.r o1 (by decide)) _,h.lt.1,(h.bel.setCell (by simp;exact h.lt.2.2) _).setCell (by simp;exact h.lt.2.2) _,(h.r.setCell 0 _).setCell 1 _⟩)
   clear HJ2;go_wp2_with fail
   generalize (w1.setCell ⟨gr,0,none⟩ (.slice (some ⟨gs,0,none⟩) (p+1) (p+1))).setCell ⟨gr,1,none⟩ (.slice A na cap)=w2 at HF ⊢;have c0:=HF.2.2.2.2.cell 0 rfl;have c1:=HF.2.2.2.2.cell 1 rfl;exact bodyPost_ret (v:=.agg #[.slice (some ⟨gs,0,none⟩) (p+1) (p+1),.slice A na cap]) (by simp[results,Try.results77,go_sem,c0,c1]) rfl ⟨gs,A,cap,by rw[<-HMN.out,<-HNA.out],HF.1,by rw[<-HNA.out];exact HF.2.1,HF.2.2.1,HF.2.2.2.1⟩
theorem Cv (X1 X2 X3 X4 E:Option Addr) (S:Site) (cs:List Car) (n m cA cB cC cD cE:Nat) (w:World) (h0:stE S cs=0) (hn:n=S.lim.length) (hm:m=cs.length)
 (hA:n<=cA/\cA<=9223372036854775807) (hB:n<=cB/\cB<=9223372036854775807) (hC:n<=cC/\cC<=9223372036854775807) (hD:n<=cD/\cD<=9223372036854775807) (hE:m<=cE/\cE<=9223372036854775807)
 (hS:bH w X1 X2 X3 X4 S) (hcs:df w E cs):
 Calls Try.prog 77 #[.agg #[.slice X1 n cA,.slice X2 n cB,.slice X3 n cC,.slice X4 n cD],.slice E m cE] w (R77 S cs w):=by
 have H0:=zh h0;have HN:=zh hn;have HM:=zh hm;have HCS:=zh hcs;have hsh:=(aj.1 (aW h0).2.1);have h48:n<=48:=by omega
 have h1n:1<=n:=by omega
 have h8:m<=8:=by have:=(aW h0).1;omega
 obtain⟨M,hM⟩: ∃M,M=bK S cs:=⟨_,rfl⟩;have HMM:=zh hM;have hM2:M<=833/\n+1<=M:=by have:=dM h0;omega
 have HSB:=zh (fun t (ht:t<n)=>cu.1 ((aW h0).2.2.1 t (by omega)));have HSV:Hid (∀t,t<n-> ∀V,Below w.heap.size w V->(∃a,X1=some a/\V.cell? (a.add t)=some (.int .i64 (S.lim.getD t 0))/\(a.add t).block<V.heap.size)/\(∃a,X2=some a/\V.cell? (a.add t)=some (.int .i64 (S.exp.getD t 0))/\(a.add t).block<V.heap.size)/\(∃a,X3=some a/\V.cell? (a.add t)=some (.int .i64 (S.buy.getD t 0))/\(a.add t).block<V.heap.size)/\(∃a,X4=some a/\V.cell? (a.add t)=some (.int .i64 (S.sell.getD t 0))/\(a.add t).block<V.heap.size)):=zh (fun t ht V hV=>by
  have h:=hS.below hV (Nat.le_refl _);obtain⟨a1,e1,l1,c1⟩:=h.1 t (by omega);obtain⟨a2,e2,l2,c2⟩:=h.2.1 t (by omega);obtain⟨a3,e3,l3,c3⟩:=h.2.2.1 t (by omega);obtain⟨a4,e4,l4,c4⟩:=h.2.2.2 t (by omega);exact⟨⟨a1,e1,c1,by rw[block_add];exact l1⟩,⟨a2,e2,c2,by rw[block_add];exact l2⟩,⟨a3,e3,c3,by rw[block_add];exact l3⟩,⟨a4,e4,c4,by rw[block_add];exact l4⟩⟩)
 have hmk:=gZ M (by omega);have HSC:Hid (jB S cs M 0=List.replicate M 0):=zh (by rw[hM];exact vR S cs (dM h0).2);have HMV:Hid (ag n m 0=M):=zh (by rw[hM,hn,hm];rfl);have HNC:=zh (fun V=>uN n m 0 h48 h8 (by omega) V);rw[HMV.out]at HNC;have HAR:Hid (dP S n++gQ S n=aQ S cs 0):=zh (by rw[hn];rfl);have HNF:Hid (ag n 0 0=1+n):=zh (by unfold ag;omega);have HLL:=zh (fun t=>And.intro (fF S t) (iO S t));clear h0 hn hm hcs hsh hM hS;obtain⟨i3,h3i,h3z,h3s,h3b⟩:=info_parts tu;have HJ0:Hid (∃A cap,NtJ w (w.heap.size+2) (w.heap.size+3) (w.heap.size+1) [.slice X1 n cA,.slice X2 n cB,.slice X3 n cC,.slice X4 n cD] A cap (List.replicate M 0) (dP S 0) ((((w.alloc (.cells #[.slice X1 n cA,.slice X2 n cB,.slice X3 n cC,.slice X4 n cD] 51)).alloc (.cells #[.slice none 0 0,.slice none 0 0] 25)).alloc (.cells (Array.replicate M (.int .i64 0)) 2)).alloc (.cells #[.slice (some ⟨w.heap.size+2,0,none⟩) M M,.slice none 0 0] 25))):=zh ⟨none,0,⟨by
  have:=Blk.new' (((w.alloc (.cells #[.slice X1 n cA,.slice X2 n cB,.slice X3 n cC,.slice X4 n cD] 51)).alloc (.cells #[.slice none 0 0,.slice none 0 0] 25)).alloc (.cells (Array.replicate M (.int .i64 0)) 2)) #[.slice (some ⟨w.heap.size+2,0,none⟩) M M,.slice none 0 0] 25;rw[List.length_replicate];simpa [Nat.add_assoc,dP]using this,by
  have:=((Blk.new' (w.alloc (.cells #[.slice X1 n cA,.slice X2 n cB,.slice X3 n cC,.slice X4 n cD] 51)) #[.slice none 0 0,.slice none 0 0] 25).alloc (.cells (Array.replicate M (.int .i64 0)) 2)).alloc (.cells #[.slice (some ⟨w.heap.size+2,0,none⟩) M M,.slice none 0 0] 25);simpa using this,by
  have:=Blk.alloc (kE 2 M ((w.alloc (.cells #[.slice X1 n cA,.slice X2 n cB,.slice X3 n cC,.slice X4 n cD] 51)).alloc (.cells #[.slice none 0 0,.slice none 0 0] 25))) (.cells #[.slice (some ⟨w.heap.size+2,0,none⟩) M M,.slice none 0 0] 25);unfold Fl;simpa [Nat.add_assoc]using this,World.ownsRow_nil _ _ _ _,by
  have:=(((Blk.new' w #[.slice X1 n cA,.slice X2 n cB,.slice X3 n cC,.slice X4 n cD] 51).alloc (.cells #[.slice none 0 0,.slice none 0 0] 25)).alloc (.cells (Array.replicate M (.int .i64 0)) 2)).alloc (.cells #[.slice (some ⟨w.heap.size+2,0,none⟩) M M,.slice none 0 0] 25);simpa using this,by omega,⟨by omega,by omega,by omega⟩,((((Below.refl w.heap.size w).alloc (Nat.le_refl _) _).alloc (by simp) _).alloc (by simp;omega) _).alloc (by simp;omega) _⟩⟩
 go_enter Try.func77,Try.ntmps77;go_upto_region 3 with (go_at_call 109;refine(HNC.out _).mono ?_;rintro e wq ⟨rfl,rfl⟩)
 (try simp only[World.size_alloc,Nat.add_assoc,Nat.reduceAdd])
 generalize ((((w.alloc (.cells #[.slice X1 n cA,.slice X2 n cB,.slice X3 n cC,.slice X4 n cD] 51)).alloc (.cells #[.slice none 0 0,.slice none 0 0] 25)).alloc (.cells (Array.replicate M (.int .i64 0)) 2)).alloc (.cells #[.slice (some ⟨w.heap.size+2,0,none⟩) M M,.slice none 0 0] 25))=w1 at HJ0 ⊢;generalize w.heap.size+3=gx at *;generalize w.heap.size+2=gs at *;generalize w.heap.size+1=gr at *;go_wp2_with fail
 go_loopw [7] (fun iv wr=> ∃t:Nat,t<=n/\iv=.int .i64 t/\Hid (∃A cap,NtJ w gs gx gr [.slice X1 n cA,.slice X2 n cB,.slice X3 n cC,.slice X4 n cD] A cap (List.replicate M 0) (dP S t) wr)) (fun iv _=>n-(intOf iv).toNat)
 case atStart=>exact⟨0,Nat.zero_le _,rfl,HJ0⟩
 case round=>
  clear HJ0;obtain⟨t,ht,rfl,HJ⟩:=hrel
  by_cases hlt:t<n
  ·have hti:(t:Int)<(n:Int):=by omega
   obtain⟨A,cap,hj⟩:=HJ.out;have HBD:=zh hj;clear hj HJ;obtain⟨⟨a1,e1,l1,q1⟩,⟨a2,e2,l2,q2⟩,⟨a3,e3,l3,q3⟩,⟨a4,e4,l4,q4⟩⟩:=HSV.out t hlt wr HBD.bel;have hb:=HSB.out t hlt;have Ia:=zh (HLL.out t);have Uz:=zh (HLL.out n);have HNX:Hid ((dP S (t+1))=(dP S t)++[Dp.Arc.mk 0 (1+(t:Int)) (S.lim.getD t 0) (S.buy.getD t 0)]):=zh (by rfl);generalize S.lim.getD t 0=lm at *;generalize S.exp.getD t 0=ex at *;generalize S.buy.getD t 0=bu at *;generalize S.sell.getD t 0=se at *;obtain⟨ln,hln⟩: ∃ln,ln=((dP S t)).length:=⟨_,rfl⟩;have hlb:ln<=96:=by rw[hln,Ia.1];omega
   have HLN:=zh hln;have t1e:IntKind.i64.wrap (1+(t:Int))=1+(t:Int):=IntWalk.i64_in _ (by omega);have sne:IntKind.i64.wrap (-se)= -se:=IntWalk.i64_in _ (by omega);have s0:=HBD.st.cell 0 rfl;rw[e1]at s0;have s1:=HBD.st.cell 1 rfl;rw[e2]at s1;have s2:=HBD.st.cell 2 rfl;rw[e3]at s2;have s3:=HBD.st.cell 3 rfl;rw[e4]at s3;clear e1 e2 e3 e4;have sl:=HBD.st.lt;have b1:=HBD.b.cell 1 rfl;have bl:=HBD.b.lt;rw[<-hln]at b1;clear hln;go_upto_region 6 with fail
   refine bQ 16 [.q,.q,.q,.q,.q,.q,.q,.q,.q,.q,.q,.q,.q,.q,.q,.p] (fun _=>(.cells #[.int .i64 0,.int .i64 (1+(t:Int)),.int .i64 lm,.int .i64 bu] 46,fun b=>.slice (some ⟨b,0,none⟩) 1 1)) ?af6 (by kernel_rfl) (by kernel_rfl) ?Bl ?Uv
   case Bl=>
    intro V hV;have s0:=(hV.cell (p:=⟨w.heap.size,0,none⟩) sl).trans s0;have s1:=(hV.cell (p:=⟨w.heap.size,1,none⟩) sl).trans s1;have s2:=(hV.cell (p:=⟨w.heap.size,2,none⟩) sl).trans s2;have s3:=(hV.cell (p:=⟨w.heap.size,3,none⟩) sl).trans s3;have b1:=(hV.cell (p:=⟨gx,1,none⟩) bl).trans b1;have sl:=Nat.lt_of_lt_of_le sl hV.size;have bl:=Nat.lt_of_lt_of_le bl hV.size;have l1:=(hV.cell q1).trans l1;have q1:=Nat.lt_of_lt_of_le q1 hV.size;have l2:=(hV.cell q2).trans l2;have q2:=Nat.lt_of_lt_of_le q2 hV.size;have l3:=(hV.cell q3).trans l3;have q3:=Nat.lt_of_lt_of_le q3 hV.size;have l4:=(hV.cell q4).trans l4;have q4:=Nat.lt_of_lt_of_le q4 hV.size;clear hV;simp only[List.take_succ_cons,List.take_zero]
    repeat(with_reducible refine iD ?_;go_big_quiet_step (fail);with_reducible refine wpQuiet_nil ?_)
    refine jr (by kernel_rfl) (fun _=>by kernel_rfl) ?_
    (try simp only[zp])
    with_reducible refine iI ?_
    rfl
   case Uv=>
    intro gs1 w3 hb3 hgs _;have jN:=zh (HBD.below hb3);obtain⟨_,hgb⟩:=hgs 15 rfl;have GB:Hid (Blk w3 (gs1 15) 46 (flat bD [Dp.Arc.mk 0 (1+(t:Int)) lm bu])):=zh hgb;clear hb3 hgs hgb HBD s0 s1 s2 s3 sl l1 l2 l3 l4 q1 q2 q3 q4 b1 bl;simp only[List.drop_succ_cons,List.drop_zero,List.take_succ_cons,List.take_zero,fillP]
    (try simp only[zp])
    generalize gs1 15=ga at *;go_upto_region 5 with (at_builtin;refine ax (.tmp 30) (.tmp 44) 23 rfl rfl w.heap.size 46 i3 (.agg #[.int .i64 0,.int .i64 0,.int .i64 0,.int .i64 0]) 4 32 Try.underlying23 h3i h3z h3s h3b rfl (by decide) A ln cap (flat bD (dP S t)) (by rfl) (by rw[HLN.out];exact jN.own) (some ⟨ga,0,none⟩) 1 1 (flat bD [Dp.Arc.mk 0 (1+(t:Int)) lm bu]) (by rfl) (by rfl) (.inr ⟨_,rfl,fun j u hj=>by rw[dN];exact GB.cell j hj⟩) (by simp[flat,bD,Value.oneCell']) (by unfold maxLen;omega) (by omega) jN.bel.size ?_;intro A2 cap2 va hown hgrow hat;have JM:=jN.mid (by rw[<-HLN.out];exact hgrow);have b1:=JM.cell 1 rfl;have bz:=JM.free 1;have bl:=JM.lt;have HK4:Hid (NtJ w gs gx gr [.slice X1 n cA,.slice X2 n cB,.slice X3 n cC,.slice X4 n cD] A2 cap2 (List.replicate M 0) ((dP S t)++[Dp.Arc.mk 0 (1+(t:Int)) lm bu]) (va.setCell ⟨gx,1,none⟩ (.slice A2 (ln+1) cap2))):=zh (jN.push (m:=1) (news:=[Dp.Arc.mk 0 (1+(t:Int)) lm bu]) HLN.out rfl hgrow hown);clear JM hown hgrow hat)
    clear b1 bz bl HLN jN GB;generalize va.setCell ⟨gx,1,none⟩ (.slice A2 (ln+1) cap2)=w4 at HK4 ⊢;rw[<-HNX.out]at HK4;go_wp2_with fail
    exact⟨⟨t+1,by omega,by go_num,zh ⟨_,_,HK4.out⟩⟩,by simp[intOf];omega⟩
  ·obtain rfl:n=t:=by omega
   have HJ0:Hid (∃A cap,NtJ w gs gx gr [.slice X1 n cA,.slice X2 n cB,.slice X3 n cC,.slice X4 n cD] A cap (List.replicate M 0) (dP S n++gQ S 0) wr):=zh (by simpa [gQ]using HJ.out);clear HJ;go_wp2_with fail
   go_loopw [8] (fun iv wr=> ∃t:Nat,t<=n/\iv=.int .i64 t/\Hid (∃A cap,NtJ w gs gx gr [.slice X1 n cA,.slice X2 n cB,.slice X3 n cC,.slice X4 n cD] A cap (List.replicate M 0) (dP S n++gQ S t) wr)) (fun iv _=>n-(intOf iv).toNat)
   case atStart=>exact⟨0,Nat.zero_le _,rfl,HJ0⟩
   case round=>
    clear HJ0;obtain⟨t,ht,rfl,HJ⟩:=hrel
    by_cases hlt:t<n
    ·have hti:(t:Int)<(n:Int):=by omega
     obtain⟨A,cap,hj⟩:=HJ.out;have HBD:=zh hj;clear hj HJ;obtain⟨⟨a1,e1,l1,q1⟩,⟨a2,e2,l2,q2⟩,⟨a3,e3,l3,q3⟩,⟨a4,e4,l4,q4⟩⟩:=HSV.out t hlt wr HBD.bel;have hb:=HSB.out t hlt;have Ia:=zh (HLL.out t);have Uz:=zh (HLL.out n);have HNX:Hid ((dP S n++gQ S (t+1))=(dP S n++gQ S t)++[Dp.Arc.mk (1+(t:Int)) 0 (S.exp.getD t 0) (-(S.sell.getD t 0))]):=zh (by rw[List.append_assoc];rfl);generalize S.lim.getD t 0=lm at *;generalize S.exp.getD t 0=ex at *;generalize S.buy.getD t 0=bu at *;generalize S.sell.getD t 0=se at *;obtain⟨ln,hln⟩: ∃ln,ln=((dP S n++gQ S t)).length:=⟨_,rfl⟩;have hlb:ln<=96:=by rw[hln,List.length_append,Uz.1,Ia.2];omega
     have HLN:=zh hln;have t1e:IntKind.i64.wrap (1+(t:Int))=1+(t:Int):=IntWalk.i64_in _ (by omega);have sne:IntKind.i64.wrap (-se)= -se:=IntWalk.i64_in _ (by omega);have s0:=HBD.st.cell 0 rfl;rw[e1]at s0;have s1:=HBD.st.cell 1 rfl;rw[e2]at s1;have s2:=HBD.st.cell 2 rfl;rw[e3]at s2;have s3:=HBD.st.cell 3 rfl;rw[e4]at s3;clear e1 e2 e3 e4;have sl:=HBD.st.lt;have b1:=HBD.b.cell 1 rfl;have bl:=HBD.b.lt;rw[<-hln]at b1;clear hln;go_upto_region 10 with fail
     refine bQ 17 [.q,.q,.q,.q,.q,.q,.q,.q,.q,.q,.q,.q,.q,.q,.q,.q,.p] (fun _=>(.cells #[.int .i64 (1+(t:Int)),.int .i64 0,.int .i64 ex,.int .i64 (-se)] 46,fun b=>.slice (some ⟨b,0,none⟩) 1 1)) ?af10 (by kernel_rfl) (by kernel_rfl) ?Rh ?WO
     case Rh=>
      intro V hV;have s0:=(hV.cell (p:=⟨w.heap.size,0,none⟩) sl).trans s0;have s1:=(hV.cell (p:=⟨w.heap.size,1,none⟩) sl).trans s1;have s2:=(hV.cell (p:=⟨w.heap.size,2,none⟩) sl).trans s2;have s3:=(hV.cell (p:=⟨w.heap.size,3,none⟩) sl).trans s3;have b1:=(hV.cell (p:=⟨gx,1,none⟩) bl).trans b1;have sl:=Nat.lt_of_lt_of_le sl hV.size;have bl:=Nat.lt_of_lt_of_le bl hV.size;have l1:=(hV.cell q1).trans l1;have q1:=Nat.lt_of_lt_of_le q1 hV.size;have l2:=(hV.cell q2).trans l2;have q2:=Nat.lt_of_lt_of_le q2 hV.size;have l3:=(hV.cell q3).trans l3;have q3:=Nat.lt_of_lt_of_le q3 hV.size;have l4:=(hV.cell q4).trans l4;have q4:=Nat.lt_of_lt_of_le q4 hV.size;clear hV;simp only[List.take_succ_cons,List.take_zero]
      repeat(with_reducible refine iD ?_;go_big_quiet_step (fail);with_reducible refine wpQuiet_nil ?_)
      refine jr (by kernel_rfl) (fun _=>by kernel_rfl) ?_
      (try simp only[zp])
      with_reducible refine iI ?_
      rfl
     case WO=>
      intro gs1 w3 hb3 hgs _;have jN:=zh (HBD.below hb3);obtain⟨_,hgb⟩:=hgs 16 rfl;have GB:Hid (Blk w3 (gs1 16) 46 (flat bD [Dp.Arc.mk (1+(t:Int)) 0 ex (-se)])):=zh hgb;clear hb3 hgs hgb HBD s0 s1 s2 s3 sl l1 l2 l3 l4 q1 q2 q3 q4 b1 bl;simp only[List.drop_succ_cons,List.drop_zero,List.take_succ_cons,List.take_zero,fillP]
      (try simp only[zp])
      generalize gs1 16=ga at *;go_upto_region 9 with (at_builtin;refine ax (.tmp 53) (.tmp 68) 23 rfl rfl w.heap.size 46 i3 (.agg #[.int .i64 0,.int .i64 0,.int .i64 0,.int .i64 0]) 4 32 Try.underlying23 h3i h3z h3s h3b rfl (by decide) A ln cap (flat bD (dP S n++gQ S t)) (by rfl) (by rw[HLN.out];exact jN.own) (some ⟨ga,0,none⟩) 1 1 (flat bD [Dp.Arc.mk (1+(t:Int)) 0 ex (-se)]) (by rfl) (by rfl) (.inr ⟨_,rfl,fun j u hj=>by rw[dN];exact GB.cell j hj⟩) (by simp[flat,bD,Value.oneCell']) (by unfold maxLen;omega) (by omega) jN.bel.size ?_;intro A2 cap2 va hown hgrow hat;have JM:=jN.mid (by rw[<-HLN.out];exact hgrow);have b1:=JM.cell 1 rfl;have bz:=JM.free 1;have bl:=JM.lt;have HK4:Hid (NtJ w gs gx gr [.slice X1 n cA,.slice X2 n cB,.slice X3 n cC,.slice X4 n cD] A2 cap2 (List.replicate M 0) ((dP S n++gQ S t)++[Dp.Arc.mk (1+(t:Int)) 0 ex (-se)]) (va.setCell ⟨gx,1,none⟩ (.slice A2 (ln+1) cap2))):=zh (jN.push (m:=1) (news:=[Dp.Arc.mk (1+(t:Int)) 0 ex (-se)]) HLN.out rfl hgrow hown);clear JM hown hgrow hat)
      clear b1 bz bl HLN jN GB;generalize va.setCell ⟨gx,1,none⟩ (.slice A2 (ln+1) cap2)=w4 at HK4 ⊢;rw[<-HNX.out]at HK4;go_wp2_with fail
      exact⟨⟨t+1,by omega,by go_num,zh ⟨_,_,HK4.out⟩⟩,by simp[intOf];omega⟩
    ·obtain rfl:n=t:=by omega
     obtain⟨A,cap,hj⟩:=HJ.out;have HE:Hid (NuJ S cs w gs gx gr [.slice X1 n cA,.slice X2 n cB,.slice X3 n cC,.slice X4 n cD] M 0 wr):=zh ⟨A,cap,by rw[HSC.out,<-HAR.out];exact hj⟩;clear HJ hj;go_wp2_with fail
     rename_i KK hKK;refine gT (c':=Lr) (by kernel_rfl) ?_;refine nt4 S cs E n m cE gs gx gr M [.slice X1 n cA,.slice X2 n cB,.slice X3 n cC,.slice X4 n cD] w wr H0.out HN.out HM.out HMM.out hE HCS.out HE.out ?_;intro y0 y1 y2 y3 y5 y7 y8 y9 y10 y11 y12 y13 y14 y15 y16 y17 y18 y19 y20 y21 y22 y23 y24 y25 y26 y27 y28 y29 y30 y31 y32 y33 y34 y35 y36 y37 y38 y39 y40 y41 y42 y43 y44 y45 y46 y47 y48 y49 y50 y51 y52 y53 y54 y55 y56 y57 y58 y59 y60 y61 y62 y63 y64 y65 y66 y67 y68 y69 y70 y71 y72 y73 y74 y75 y76 y77 y78 y79 y80 y81 y82 y83 y84 y85 y86 y87 y88 y89 y90 y91 y92 y93 y94 y95 y96 y97 y98 y99 xZ y101 y102 yc y104 yf yg yh yj ym yn yo y112 y113 y114 y115 yt yu yw yx yz yA yB yC yD yE yF yG yH yI yJ yK yL yM yN yO yP yQ yR yS yT yU yV yX yY yZ za zb ze zi y150 y151 y152 y153 zk zm zn y157 y158 y159 y160 zo zq zt zu zw zx y167 y168 zy zA zB zC zD zF zG zH zI zJ zK zL zN zO zP zQ zR zS zT zU zV zW zX zY zZ z8 Aa Ab Ad Ae Ag Ah Ai Aj Ak Al Am Ap Ar Au Av w' h;exact hKK _ _ (gT (by kernel_rfl) (nt8 S cs gs gx gr M [.slice X1 n cA,.slice X2 n cB,.slice X3 n cC,.slice X4 n cD] w w' H0.out HMM.out (by rw[<-HM.out];exact h)))
def Lt (S:Site) (cs:List Car) (w:World) (gs:Nat) (A:Option Addr) (cap:Nat) (W:World):Prop:=Fl 2 W gs (kU S cs)/\W.ownsRow w.heap.size 46 4 (.slice A (aQ S cs cs.length).length cap) (aQ S cs cs.length).length (flat bD (aQ S cs cs.length))/\w.heap.size<=gs/\Below w.heap.size w W
theorem Lt.of_bld {S:Site} {cs:List Car} {w W w0:World} {b:Nat} (h:Uu S cs W b w0) (hb:Below w.heap.size w W): ∃gs A cap v2 v3,Lt S cs w gs A cap w0/\Blk w0 b 125 [.slice (some ⟨gs,0,none⟩) (bK S cs) (bK S cs),.slice A (aQ S cs cs.length).length cap,v2,v3]/\Below W.heap.size W w0:=by
 obtain⟨gs,A,cap,AI,AO,ci,co,vi,vo,h1,_,_⟩:=h;have hz:=hb.size;refine⟨gs,A,cap,.slice AI cs.length ci,.slice AO cs.length co,⟨h1.s,pJ h1.own hz,Nat.le_trans hz h1.lt.1,hb.trans (h1.bel.mono hz)⟩,?_,h1.bel⟩;have:=h1.b;rw[eF]at this;exact this
structure RwJ (n m g:Nat) (gI:Nat->Nat) (R:Nat->List Int) (W:World):Prop where
 b: ∃cs,Blk W g 22 cs/\ ∀i,i<m->cs[i]?=some (.slice (some ⟨gI i,0,none⟩) n n)
 f: ∀i,i<m->Fl 2 W (gI i) (R i)/\(R i).length=n
 inj: ∀i j,i<m->j<m->gI i=gI j->i=j
section
variable {W V:World} {n m g gl:Nat} {gI gO:Nat->Nat} {R RO:Nat->List Int}
theorem RwJ.below (h:RwJ n m g gI R W) (hb:Below W.heap.size W V):RwJ n m g gI R V:=by
 obtain⟨cs,h1,h2⟩:=h.b;exact⟨⟨cs,h1.below hb h1.lt,h2⟩,fun i hi=>⟨(h.f i hi).1.below hb,(h.f i hi).2⟩,h.inj⟩
theorem RwJ.lt (h:RwJ n m g gI R W):g<W.heap.size:=by
 obtain⟨cs,h1,_⟩:=h.b;exact h1.lt
theorem RwJ.cell (h:RwJ n m g gI R W) (i:Nat) (hi:i<m):W.cell? ⟨g,i,none⟩=some (.slice (some ⟨gI i,0,none⟩) n n):=by
 obtain⟨cs,h1,h2⟩:=h.b;exact h1.cell i (h2 i hi)
theorem RwJ.other (h:RwJ n m g gI R W) {p:Addr} (h1:g≠p.block) (h2: ∀i,i<m->gI i≠p.block) (u:Value):RwJ n m g gI R (W.setCell p u):=by
 obtain⟨cs,b1,b2⟩:=h.b;exact⟨⟨cs,b1.setCell_ne h1 u,b2⟩,fun i hi=>⟨(h.f i hi).1.set_ne (h2 i hi) u,(h.f i hi).2⟩,h.inj⟩
theorem RwJ.set (h:RwJ n m g gI R W) (i:Nat) (hi:i<m) (k:Nat) (v:Int):RwJ n m g gI (upd R i ((R i).set k v)) (W.setCell ⟨gI i,k,none⟩ (.int .i64 v)):=by
 obtain⟨cs,b1,b2⟩:=h.b;refine⟨⟨cs,b1.setCell_ne (fun e=>ae b1 (h.f i hi).1 (by decide) e.symm) _,b2⟩,fun j hj=>?_,h.inj⟩
 by_cases e:j=i
 ·subst e
  unfold upd;rw[if_pos rfl];exact⟨(h.f j hj).1.put k v,by rw[List.length_set];exact(h.f j hj).2⟩
 ·unfold upd
  rw[if_neg e];exact⟨(h.f j hj).1.set_ne (fun q=>e (h.inj j i hj hi q)) _,(h.f j hj).2⟩
theorem RwJ.of (h:RwJ n m g gI R W) {R':Nat->List Int} (he: ∀i,i<m->R' i=R i):RwJ n m g gI R' W:=
 ⟨h.b,fun i hi=>by rw[he i hi];exact h.f i hi,h.inj⟩
theorem RwJ.rows (h:RwJ n m g gI R W) (hn:n<=9223372036854775807):iA W (some ⟨g,0,none⟩) ((List.range m).map R):=fun i hi=>by
 have hi':i<m:=by simpa using hi
 have e:((List.range m).map R).getD i []=R i:=by simp[zg,hi']
 refine⟨_,rfl,h.lt,some ⟨gI i,0,none⟩,n,?_,?_,?_⟩
 ·rw[dN,e,(h.f i hi').2];exact h.cell i hi'
 ·rw[e,(h.f i hi').2];exact⟨Nat.le_refl _,hn⟩
 ·rw[e];exact(h.f i hi').1.ints
end
structure TbJ (w:World) (n m gt g1 g2 c1 c2:Nat) (gI gO:Nat->Nat) (RI RO:Nat->List Int) (W:World):Prop where
 b:Blk W gt 55 [.slice (some ⟨g1,0,none⟩) m c1,.slice (some ⟨g2,0,none⟩) m c2]
 i:RwJ n m g1 gI RI W
 o:RwJ n m g2 gO RO W
 ne:g1≠g2
 dis: ∀x y,x<m->y<m->gI x≠gO y
 bel:Below w.heap.size w W
 ge: ∀x,x<m->w.heap.size<=gI x/\w.heap.size<=gO x
section
variable {w W V:World} {n m gt g1 g2 c1 c2 gl:Nat} {gI gO:Nat->Nat} {RI RO:Nat->List Int}
theorem TbJ.below (h:TbJ w n m gt g1 g2 c1 c2 gI gO RI RO W) (hb:Below W.heap.size W V):TbJ w n m gt g1 g2 c1 c2 gI gO RI RO V:=
 ⟨h.b.below hb h.b.lt,h.i.below hb,h.o.below hb,h.ne,h.dis,h.bel.trans (hb.mono h.bel.size),h.ge⟩
theorem TbJ.set (h:TbJ w n m gt g1 g2 c1 c2 gI gO RI RO W) (x:Nat) (hx:x<m) (k:Nat) (v:Int):TbJ w n m gt g1 g2 c1 c2 gI gO (upd RI x ((RI x).set k v)) RO (W.setCell ⟨gI x,k,none⟩ (.int .i64 v)):=by
 obtain⟨cs,b1,b2⟩:=h.o.b;exact⟨h.b.setCell_ne (fun e=>ae h.b (h.i.f x hx).1 (by decide) e.symm) _,h.i.set x hx k v,h.o.other (fun e=>ae b1 (h.i.f x hx).1 (by decide) e.symm) (fun y hy e=>h.dis x y hx hy e.symm) _,h.ne,h.dis,h.bel.setCell (by simp;exact(h.ge x hx).1) _,h.ge⟩
theorem TbJ.other (h:TbJ w n m gt g1 g2 c1 c2 gI gO RI RO W) {p:Addr} {xs:List Int} (hf:Fl 2 W p.block xs) (h1: ∀x,x<m->gI x≠p.block/\gO x≠p.block) (hp:w.heap.size<=p.block) (u:Value):TbJ w n m gt g1 g2 c1 c2 gI gO RI RO (W.setCell p u):=by
 obtain⟨cs,b1,b2⟩:=h.o.b;obtain⟨cs',b1',b2'⟩:=h.i.b;exact⟨h.b.setCell_ne (fun e=>ae h.b hf (by decide) e.symm) _,h.i.other (fun e=>ae b1' hf (by decide) e.symm) (fun y hy=>(h1 y hy).1) _,h.o.other (fun e=>ae b1 hf (by decide) e.symm) (fun y hy=>(h1 y hy).2) _,h.ne,h.dis,h.bel.setCell hp _,h.ge⟩
theorem TbJ.tab (h:TbJ w n m gt g1 g2 c1 c2 gI gO RI RO W) (hn:n<=9223372036854775807):eu W (some ⟨g1,0,none⟩) (some ⟨g2,0,none⟩) ⟨(List.range m).map RI,(List.range m).map RO⟩:=⟨h.i.rows hn,h.o.rows hn⟩
end
theorem RwJ.add {n i g gn:Nat} {gI:Nat->Nat} {R:Nat->List Int} {W:World} (h:RwJ n i g gI R W) {cs:List Value} (hl:Blk W g 22 cs) (hi:i<cs.length) (hf:Fl 2 W gn (R i)) (hR:(R i).length=n) (hne: ∀x,x<i->gI x≠gn):RwJ n (i+1) g (upd gI i gn) R (W.setCell ⟨g,i,none⟩ (.slice (some ⟨gn,0,none⟩) n n)):=by
 obtain⟨cs',b1,b2⟩:=h.b;have e:cs'=cs:=by
  unfold Blk at b1 hl;rw[b1]at hl;simpa using hl
 subst e;refine⟨⟨cs'.set i (.slice (some ⟨gn,0,none⟩) n n),hl.setCell i _,fun x hx=>?_⟩,fun x hx=>?_,fun x y hx hy e=>?_⟩
 ·unfold upd
  by_cases e:x=i
  ·subst e;rw[if_pos rfl,List.getElem?_set_self hi]
  ·rw[if_neg e,List.getElem?_set_ne (fun q=>e q.symm)];exact b2 x (by omega)
 ·unfold upd
  by_cases e:x=i
  ·subst e;rw[if_pos rfl];exact⟨hf.set_ne (p:=⟨g,x,none⟩) (fun q=>ae hl hf (by decide) q) _,hR⟩
  ·rw[if_neg e];exact⟨(h.f x (by omega)).1.set_ne (p:=⟨g,i,none⟩) (fun q=>ae hl (h.f x (by omega)).1 (by decide) q) _,(h.f x (by omega)).2⟩
 ·unfold upd at e
  by_cases e1:x=i<;>by_cases e2:y=i
  ·omega
  ·rw[if_pos e1,if_neg e2]at e;exact absurd e.symm (hne y (by omega))
  ·rw[if_neg e1,if_pos e2]at e;exact absurd e (hne x (by omega))
  ·rw[if_neg e1,if_neg e2]at e;exact h.inj x y (by omega) (by omega) e
structure TaJ (w:World) (n m ni no gt g1 g2 gl:Nat) (gI gO:Nat->Nat) (lv:List Int) (W:World):Prop where
 b:Blk W gt 55 [.slice (some ⟨g1,0,none⟩) m m,.slice (some ⟨g2,0,none⟩) m m]
 li: ∃cs,Blk W g1 22 cs/\cs.length=m
 lo: ∃cs,Blk W g2 22 cs/\cs.length=m
 ri:RwJ n ni g1 gI (fun _=>List.replicate n 0) W
 ro:RwJ n no g2 gO (fun _=>List.replicate n 0) W
 lev:Fl 2 W gl lv
 ne:g1≠g2
 dis: ∀x y,x<ni->y<no->gI x≠gO y
 al:(∀x,x<ni->gI x≠gl/\w.heap.size<=gI x)/\(∀y,y<no->gO y≠gl/\w.heap.size<=gO y)
 bel:Below w.heap.size w W
 ge:w.heap.size<=g1/\w.heap.size<=g2/\w.heap.size<=gl
section
variable {w W V:World} {n m ni no gt g1 g2 gl a:Nat} {gI gO:Nat->Nat} {lv:List Int}
theorem TaJ.below (h:TaJ w n m ni no gt g1 g2 gl gI gO lv W) (hb:Below W.heap.size W V):TaJ w n m ni no gt g1 g2 gl gI gO lv V:=by
 obtain⟨c1,x1,x2⟩:=h.li;obtain⟨c2,y1,y2⟩:=h.lo;exact⟨h.b.below hb h.b.lt,⟨c1,x1.below hb x1.lt,x2⟩,⟨c2,y1.below hb y1.lt,y2⟩,h.ri.below hb,h.ro.below hb,h.lev.below hb,h.ne,h.dis,h.al,h.bel.trans (hb.mono h.bel.size),h.ge⟩
theorem TaJ.fresh (h:TaJ w n m ni no gt g1 g2 gl gI gO lv W) (ha:W.heap.size<=a):(∀x,x<ni->gI x≠a)/\(∀y,y<no->gO y≠a)/\a≠gl/\w.heap.size<=a:=
 ⟨fun x hx e=>by have:=(h.ri.f x hx).1.lt;omega,fun y hy e=>by have:=(h.ro.f y hy).1.lt;omega,fun e=>by have:=h.lev.lt;omega,by have:=h.bel.size;omega⟩
theorem TaJ.inn (h:TaJ w n m ni no gt g1 g2 gl gI gO lv W) (hi:ni<m) (hf:Fl 2 W a (List.replicate n 0)) (hx:(∀x,x<ni->gI x≠a)/\(∀y,y<no->gO y≠a)/\a≠gl/\w.heap.size<=a):
 TaJ w n m (ni+1) no gt g1 g2 gl (upd gI ni a) gO lv (W.setCell ⟨g1,ni,none⟩ (.slice (some ⟨a,0,none⟩) n n)):=by
 obtain⟨c1,x1,x2⟩:=h.li;obtain⟨c2,y1,y2⟩:=h.lo;refine⟨h.b.setCell_ne (fun e=>ae h.b x1 (by decide) e.symm) _,⟨_,x1.setCell ni _,by simp[x2]⟩,⟨c2,y1.setCell_ne (fun e=>h.ne e.symm) _,y2⟩,h.ri.add x1 (by omega) hf (by simp) hx.1,
  h.ro.other (fun e=>h.ne e.symm) (fun y hy e=>ae x1 (h.ro.f y hy).1 (by decide) e) _,h.lev.set_ne (fun e=>ae x1 h.lev (by decide) e) _,h.ne,fun x y hx' hy=>?_,⟨fun x hx'=>?_,h.al.2⟩,h.bel.setCell h.ge.1 _,h.ge⟩
 ·unfold upd
  by_cases e:x=ni
  ·rw[if_pos e];exact fun q=>hx.2.1 y hy q.symm
  ·rw[if_neg e];exact h.dis x y (by omega) hy
 ·unfold upd
  by_cases e:x=ni
  ·rw[if_pos e];exact⟨hx.2.2.1,hx.2.2.2⟩
  ·rw[if_neg e];exact h.al.1 x (by omega)
theorem TaJ.outt (h:TaJ w n m ni no gt g1 g2 gl gI gO lv W) (hi:no<m) (hf:Fl 2 W a (List.replicate n 0)) (hx:(∀x,x<ni->gI x≠a)/\(∀y,y<no->gO y≠a)/\a≠gl/\w.heap.size<=a):
 TaJ w n m ni (no+1) gt g1 g2 gl gI (upd gO no a) lv (W.setCell ⟨g2,no,none⟩ (.slice (some ⟨a,0,none⟩) n n)):=by
 obtain⟨c1,x1,x2⟩:=h.li;obtain⟨c2,y1,y2⟩:=h.lo;refine⟨h.b.setCell_ne (fun e=>ae h.b y1 (by decide) e.symm) _,⟨c1,x1.setCell_ne (fun e=>h.ne e) _,x2⟩,⟨_,y1.setCell no _,by simp[y2]⟩,h.ri.other (fun e=>h.ne e) (fun x hx' e=>ae y1 (h.ri.f x hx').1 (by decide) e) _,
  h.ro.add y1 (by omega) hf (by simp) hx.2.1,h.lev.set_ne (fun e=>ae y1 h.lev (by decide) e) _,h.ne,fun x y hx' hy=>?_,⟨h.al.1,fun y hy=>?_⟩,h.bel.setCell h.ge.2.1 _,h.ge⟩
 ·unfold upd
  by_cases e:y=no
  ·rw[if_pos e];exact hx.1 x hx'
  ·rw[if_neg e];exact h.dis x y hx' (by omega)
 ·unfold upd
  by_cases e:y=no
  ·rw[if_pos e];exact⟨hx.2.2.1,hx.2.2.2⟩
  ·rw[if_neg e];exact h.al.2 y (by omega)
theorem TaJ.set (h:TaJ w n m ni no gt g1 g2 gl gI gO lv W) (k:Nat) (v:Int):TaJ w n m ni no gt g1 g2 gl gI gO (lv.set k v) (W.setCell ⟨gl,k,none⟩ (.int .i64 v)):=by
 obtain⟨c1,x1,x2⟩:=h.li;obtain⟨c2,y1,y2⟩:=h.lo;exact⟨h.b.setCell_ne (fun e=>ae h.b h.lev (by decide) e.symm) _,⟨c1,x1.setCell_ne (fun e=>ae x1 h.lev (by decide) e.symm) _,x2⟩,⟨c2,y1.setCell_ne (fun e=>ae y1 h.lev (by decide) e.symm) _,y2⟩,h.ri.other (fun e=>ae x1 h.lev (by decide) e.symm) (fun x hx=>(h.al.1 x hx).1) _,
  h.ro.other (fun e=>ae y1 h.lev (by decide) e.symm) (fun y hy=>(h.al.2 y hy).1) _,h.lev.put k v,h.ne,h.dis,h.al,h.bel.setCell h.ge.2.2 _,h.ge⟩
theorem TaJ.cellI (h:TaJ w n m ni no gt g1 g2 gl gI gO lv W) (k:Nat) (hk:k<m):(∃v,W.cell? ⟨g1,k,none⟩=some v)/\W.frozen? ⟨g1,k,none⟩=false/\g1<W.heap.size:=by
 obtain⟨c1,x1,x2⟩:=h.li;exact⟨⟨_,x1.cell k (List.getElem?_eq_getElem (by omega))⟩,x1.free k,x1.lt⟩
theorem TaJ.cellO (h:TaJ w n m ni no gt g1 g2 gl gI gO lv W) (k:Nat) (hk:k<m):(∃v,W.cell? ⟨g2,k,none⟩=some v)/\W.frozen? ⟨g2,k,none⟩=false/\g2<W.heap.size:=by
 obtain⟨c1,x1,x2⟩:=h.lo;exact⟨⟨_,x1.cell k (List.getElem?_eq_getElem (by omega))⟩,x1.free k,x1.lt⟩
theorem TaJ.full (h:TaJ w n m m m gt g1 g2 gl gI gO lv W):TbJ w n m gt g1 g2 m m gI gO (fun _=>List.replicate n 0) (fun _=>List.replicate n 0) W:=
 ⟨h.b,h.ri,h.ro,h.ne,h.dis,h.bel,fun x hx=>⟨(h.al.1 x hx).2,(h.al.2 x hx).2⟩⟩
end
namespace Dp
def jQ (m:Nat) (f:Nat->Int):List Int:=(List.range m).map f
theorem iR (m:Nat) (f:Nat->Int):(jQ m f).length=m:=by simp[jQ]
theorem Lu {m i:Nat} {f:Nat->Int} (h:i<m):(jQ m f).getD i 0=f i:=by simp[jQ,zg,h]
theorem nQ {m:Nat} {f g:Nat->Int} (h: ∀x,x<m->f x=g x):jQ m f=jQ m g:=by
 unfold jQ;exact List.map_congr_left fun x hx=>h x (by simpa using hx)
theorem Lv {m i:Nat} {f:Nat->Int} (v:Int):(jQ m f).set i v=jQ m (fun x=>if x=i then v else f x):=by
 apply List.ext_getElem
 ·simp[jQ]
 ·intro j h1 h2
  simp only[jQ,List.getElem_set,List.getElem_map,List.getElem_range]
  by_cases e:i=j
  ·subst e;simp
  ·rw[if_neg e,if_neg (fun q=>e q.symm)]
def lvC (S:Site) (cs:List Car) (m k i:Nat):List Int:=jQ m (fun x=>if x<i then egL S cs (k+1) x else egL S cs k x)
def rwC (S:Site) (cs:List Car) (n k i:Nat) (x:Nat):List Int:=bT (egX S cs x) n (if x<i then k+1 else k)
theorem Lx (S:Site) (cs:List Car) (m k:Nat):lvC S cs m k 0=jQ m (egL S cs k):=nQ fun x _=>by rw[if_neg (by omega)]
theorem OT (S:Site) (cs:List Car) (m k:Nat):lvC S cs m k m=jQ m (egL S cs (k+1)):=nQ fun x hx=>by rw[if_pos hx]
theorem LA (S:Site) (cs:List Car) (n k x:Nat):rwC S cs n k 0 x=bT (egX S cs x) n k:=by unfold rwC;rw[if_neg (by omega)]
theorem OU (S:Site) (cs:List Car) {n k m x:Nat} (h:x<m):rwC S cs n k m x=bT (egX S cs x) n (k+1):=by unfold rwC;rw[if_pos h]
theorem OV (S:Site) (cs:List Car) {m k i:Nat} (h:i<m):(lvC S cs m k i).getD i 0=egL S cs k i:=by unfold lvC;rw[Lu h,if_neg (by omega)]
theorem OY (S:Site) (cs:List Car) {m k i:Nat} (h:i<m) (u v:Int) (hv:v=egL S cs (k+1) i):((lvC S cs m k i).set i u).set i v=lvC S cs m k (i+1)/\(lvC S cs m k i).set i v=lvC S cs m k (i+1):=by
 rw[List.set_set];unfold lvC;rw[Lv];have:jQ m (fun x=>if x=i then v else if x<i then egL S cs (k+1) x else egL S cs k x)=jQ m (fun x=>if x<i+1 then egL S cs (k+1) x else egL S cs k x):=nQ fun x hx=>by
  by_cases e:x=i
  ·subst e;rw[if_pos rfl,if_pos (by omega),hv]
  ·rw[if_neg e]
   by_cases h2:x<i
   ·rw[if_pos h2,if_pos (by omega)]
   ·rw[if_neg h2,if_neg (by omega)]
 exact⟨this,this⟩
theorem OZ (S:Site) (cs:List Car) {n k i:Nat} (hk:k<n) (x:Nat):(if x=i then (rwC S cs n k i i).set k (egX S cs i k)else rwC S cs n k i x)=rwC S cs n k (i+1) x:=by
 by_cases e:x=i
 ·subst e
  rw[if_pos rfl];unfold rwC;rw[if_neg (by omega),if_pos (by omega),mG _ _ _ hk]
 ·rw[if_neg e]
  unfold rwC
  by_cases h2:x<i
  ·rw[if_pos h2,if_pos (by omega)]
  ·rw[if_neg h2,if_neg (by omega)]
theorem LB (S:Site) (cs:List Car) {n k i:Nat} (hk:k<n) (h0:egX S cs i k=0) (x:Nat):rwC S cs n k i x=rwC S cs n k (i+1) x:=by
 unfold rwC
 by_cases e:x=i
 ·subst e
  rw[if_neg (by omega),if_pos (by omega),vQ _ _ _ h0 hk]
 ·by_cases h2:x<i
  ·rw[if_pos h2,if_pos (by omega)]
  ·rw[if_neg h2,if_neg (by omega)]
end Dp
theorem Gt (n:Nat) (hn:n<=4096) (W:World):(Instr.makeSlice 53 (.int .i64 n) (.int .i64 n)).run Try.prog W=.ok (.slice (some ⟨W.heap.size,0,none⟩) n n) (W.alloc (.cells (Array.replicate n (.slice none 0 0)) 22)):=by
 obtain⟨i,hi,hz0,hz1,hz2⟩:=info_parts QQ;have hr:=run_make (P:=Try.prog) W 53 22 i _ Try.underlying53 hi hz0 .i64 .i64 n n (by omega) (by omega) (by rw[hz2];omega) (by omega);simp only[Int.toNat_natCast,hz1,Nat.mul_one]at hr;rw[hr];have e1:madeCells (Value.slice none 0 0).cells n=Array.replicate n (.slice none 0 0):=by
  unfold madeCells;apply Array.ext
  ·simp
  ·intro j h1 h2
   simp[Value.cells,Nat.mod_one]
 rw[e1]
theorem LD (x y z:Int) (ts:Array TypeId) (t:TypeId) (w:World):(Builtin.min_ ts t #[.int .i64 x,.int .i64 y,.int .i64 z]).run Try.prog w=.ok (.int .i64 (min (min x y) z)) w:=by
 have h:(Builtin.min_ ts t #[.int .i64 x,.int .i64 y,.int .i64 z]).run Try.prog w=.ok (.int .i64 (if z<(if y<x then y else x)then z else (if y<x then y else x))) w:=by
  have e: ∀a b w,Sem.run Try.prog (Builtin.min2 (.int .i64 a) (.int .i64 b)) w=.ok (.int .i64 (if b<a then b else a)) w:=fun a b w=>rfl
  simp[Builtin.min_,e]
 rw[h,nS,nS]
structure EgJ (w:World) (n m gt g1 g2 c1 c2 gl gr:Nat) (gI gO:Nat->Nat) (cv:List Value) (RI:Nat->List Int) (lv:List Int) (W:World):Prop where
 t:TbJ w n m gt g1 g2 c1 c2 gI gO RI (fun _=>List.replicate n 0) W
 l:Fl 2 W gl lv
 ap: ∀x,x<m->gI x≠gl/\gO x≠gl
 lg:w.heap.size<=gl
 s:Blk W w.heap.size 51 cv
 r:Blk W gr 55 [.slice none 0 0,.slice none 0 0]
 rg:gr≠gt/\w.heap.size<=gr
section
variable {w W V:World} {n m gt g1 g2 c1 c2 gl gr:Nat} {gI gO:Nat->Nat} {cv:List Value} {RI:Nat->List Int} {lv:List Int}
theorem EgJ.below (h:EgJ w n m gt g1 g2 c1 c2 gl gr gI gO cv RI lv W) (hb:Below W.heap.size W V):EgJ w n m gt g1 g2 c1 c2 gl gr gI gO cv RI lv V:=
 ⟨h.t.below hb,h.l.below hb,h.ap,h.lg,h.s.below hb h.s.lt,h.r.below hb h.r.lt,h.rg⟩
theorem EgJ.setI (h:EgJ w n m gt g1 g2 c1 c2 gl gr gI gO cv RI lv W) (x:Nat) (hx:x<m) (k:Nat) (v:Int):EgJ w n m gt g1 g2 c1 c2 gl gr gI gO cv (fun y=>if y=x then (RI x).set k v else RI y) lv (W.setCell ⟨gI x,k,none⟩ (.int .i64 v)):=
 ⟨h.t.set x hx k v,h.l.set_ne (p:=⟨gI x,k,none⟩) (fun e=>(h.ap x hx).1 e.symm) _,h.ap,h.lg,h.s.setCell_ne (fun e=>ae h.s (h.t.i.f x hx).1 (by decide) e.symm) _,h.r.setCell_ne (fun e=>ae h.r (h.t.i.f x hx).1 (by decide) e.symm) _,h.rg⟩
theorem EgJ.setL (h:EgJ w n m gt g1 g2 c1 c2 gl gr gI gO cv RI lv W) (k:Nat) (v:Int):EgJ w n m gt g1 g2 c1 c2 gl gr gI gO cv RI (lv.set k v) (W.setCell ⟨gl,k,none⟩ (.int .i64 v)):=
 ⟨h.t.other (p:=⟨gl,k,none⟩) h.l (fun x hx=>h.ap x hx) h.lg _,h.l.put k v,h.ap,h.lg,h.s.setCell_ne (fun e=>ae h.s h.l (by decide) e.symm) _,h.r.setCell_ne (fun e=>ae h.r h.l (by decide) e.symm) _,h.rg⟩
theorem EgJ.rows (h:EgJ w n m gt g1 g2 c1 c2 gl gr gI gO cv RI lv W) {R':Nat->List Int} (he: ∀i,i<m->R' i=RI i):EgJ w n m gt g1 g2 c1 c2 gl gr gI gO cv R' lv W:=
 ⟨⟨h.t.b,h.t.i.of he,h.t.o,h.t.ne,h.t.dis,h.t.bel,h.t.ge⟩,h.l,h.ap,h.lg,h.s,h.r,h.rg⟩
end
def EgP (S:Site) (cs:List Car) (w:World):Ending->World->Prop:=fun e w'=>
 (egE S cs=0/\ ∃A1 A2 c1 c2,e=.returned (.tuple #[.agg #[.slice A1 cs.length c1,.slice A2 cs.length c2],.int .i64 0])/\eu w' A1 A2 (egT S cs)/\(cs.length<=c1/\c1<=9223372036854775807)/\(cs.length<=c2/\c2<=9223372036854775807)/\Below w.heap.size w w')∨
 (egE S cs≠0/\e=.returned (.tuple #[.agg #[.slice none 0 0,.slice none 0 0],.int .i64 (egE S cs)])/\Below w.heap.size w w')
theorem O8 {f:Nat->Int} {m:Nat}:bT f m m=jQ m f:=by
 unfold bT jQ;exact List.map_congr_left fun x hx=>by rw[if_pos (by simpa using hx)]
def lvA (cs:List Car) (m i:Nat):List Int:=bT (fun x=>(cs.getD x default).start) m i
theorem O9 (A B C D E:Option Addr) (S:Site) (cs:List Car) (n nB nC nD m cA cB cC cD cE:Nat) (w:World) (hn:n=S.lim.length) (hnB:nB=S.exp.length) (hnC:nC=S.buy.length) (hnD:nD=S.sell.length) (hm:m=cs.length)
 (hA:n<=cA/\cA<=9223372036854775807) (hB:nB<=cB/\cB<=9223372036854775807) (hC:nC<=cC/\cC<=9223372036854775807) (hD:nD<=cD/\cD<=9223372036854775807) (hE:m<=cE/\cE<=9223372036854775807)
 (hS:bH w A B C D S) (hcs:df w E cs):
 Calls Try.prog 43 #[.agg #[.slice A n cA,.slice B nB cB,.slice C nC cC,.slice D nD cD],.slice E m cE] w (EgP S cs w):=by
 have HN:=zh hn;have HM:=zh hm;have HS:=zh hS;have HCS:=zh hcs;have F36:Hid (∀V,Below w.heap.size w V->Calls Try.prog 36 #[.agg #[.slice A n cA,.slice B nB cB,.slice C nC cC,.slice D nD cD],.slice E m cE] V fun e w'=>e=.returned (.int .i64 (stE S cs))/\Below V.heap.size V w'):=zh (fun V hV=>j3 A B C D E S cs n nB nC nD m cA cB cC cD cE V hn hnB hnC hnD hm hA hB hC hD hE (hS.below hV (Nat.le_refl _)) (hcs.below hV (Nat.le_refl _)));have F32:Hid (∀V g1 g2,Below w.heap.size w V->eu V (some ⟨g1,0,none⟩) (some ⟨g2,0,none⟩) (egT S cs)->Calls Try.prog 32 #[.agg #[.slice A n cA,.slice B nB cB,.slice C nC cC,.slice D nD cD],.slice E m cE,.agg #[.slice (some ⟨g1,0,none⟩) m m,.slice (some ⟨g2,0,none⟩) m m]] V fun e w'=>e=.returned (.int .i64 (plE S cs (egT S cs)))/\Below V.heap.size V w'):=zh (fun V g1 g2 hV hT=>p8 A B C D E _ _ S cs (egT S cs) n nB nC nD m m m cA cB cC cD cE m m V hn hnB hnC hnD hm (by rw[hm];simp[egT]) (by rw[hm];simp[egT]) hA hB hC hD hE ⟨Nat.le_refl _,by omega⟩ ⟨Nat.le_refl _,by omega⟩ (hS.below hV (Nat.le_refl _)) (hcs.below hV (Nat.le_refl _)) hT);have HP1:Hid (stE S cs=0->plE S cs (egT S cs)=0-> ∀g1 g2 w',eu w' (some ⟨g1,0,none⟩) (some ⟨g2,0,none⟩) (egT S cs)->Below w.heap.size w w'->EgP S cs w (.returned (.tuple #[.agg #[.slice (some ⟨g1,0,none⟩) m m,.slice (some ⟨g2,0,none⟩) m m],.int .i64 0])) w'):=zh (fun h h2 g1 g2 w' ht hb=>.inl ⟨by unfold egE;rw[if_pos h,if_pos h2],_,_,m,m,by rw[hm],ht,by omega,by omega,hb⟩)
 have HP2:Hid (stE S cs≠0-> ∀w',Below w.heap.size w w'->EgP S cs w (.returned (.tuple #[.agg #[.slice none 0 0,.slice none 0 0],.int .i64 (stE S cs)])) w'):=zh (fun h w' hb=>.inr ⟨by unfold egE;rw[if_neg h];exact h,by unfold egE;rw[if_neg h],hb⟩);have HP3:Hid (stE S cs=0->plE S cs (egT S cs)≠0-> ∀w',Below w.heap.size w w'->EgP S cs w (.returned (.tuple #[.agg #[.slice none 0 0,.slice none 0 0],.int .i64 18])) w'):=zh (fun h h2 w' hb=>.inr ⟨by unfold egE;rw[if_pos h,if_neg h2];decide,by unfold egE;rw[if_pos h,if_neg h2],hb⟩);obtain⟨v,hv⟩: ∃v,v=stE S cs:=⟨_,rfl⟩;rw[<-hv]at F36 HP1 HP2 HP3;have HV:=zh hv;clear hv hn hnB hnC hnD hm hS hcs;generalize EgP S cs w=YB at *;have HB:=zh (((Below.refl w.heap.size w).alloc (Nat.le_refl _) (.cells #[.slice A n cA,.slice B nB cB,.slice C nC cC,.slice D nD cD] 51)).alloc (by simp) (.cells #[.slice none 0 0,.slice none 0 0] 55));have XS:=zh ((Blk.new' w #[.slice A n cA,.slice B nB cB,.slice C nC cC,.slice D nD cD] 51).alloc (.cells #[.slice none 0 0,.slice none 0 0] 55));have XR:=zh (show Blk ((w.alloc (.cells #[.slice A n cA,.slice B nB cB,.slice C nC cC,.slice D nD cD] 51)).alloc (.cells #[.slice none 0 0,.slice none 0 0] 55)) (w.heap.size+1) 55 [.slice none 0 0,.slice none 0 0]from by simpa using Blk.new' (w.alloc (.cells #[.slice A n cA,.slice B nB cB,.slice C nC cC,.slice D nD cD] 51)) #[.slice none 0 0,.slice none 0 0] 55);go_enter Try.func43,Try.ntmps43;go_upto_region 1 with fail
 (try simp only[World.size_alloc])
 generalize (w.alloc (.cells #[.slice A n cA,.slice B nB cB,.slice C nC cC,.slice D nD cD] 51)).alloc (.cells #[.slice none 0 0,.slice none 0 0] 55)=w1 at HB XS XR ⊢;have s0:=XS.cell 0 rfl;have s1:=XS.cell 1 rfl;have s2:=XS.cell 2 rfl;have s3:=XS.cell 3 rfl;have sl:=XS.lt;go_wp2_with fail
 refine(F36.out w1 HB.out).mono ?_;rintro e w2 ⟨rfl,hb⟩;clear s0 s1 s2 s3 sl;have HB2:=zh (HB.trans (hb.mono HB.size));have XS2:=zh (XS.below hb XS.lt);have XR2:=zh (XR.below hb XR.lt);clear hb HB XS XR F36;have HGR:Hid (w.heap.size<=w.heap.size+1):=zh (by omega);generalize w.heap.size+1=gr at *
 by_cases h0:v=0
 rotate_left
 ·have hb0:(v==0)=false:=by simpa using h0
  have EE:=zh (HP2.out h0);have r0:=XR2.cell 0 rfl;have r1:=XR2.cell 1 rfl;have rz:=XR2.free 0;have rz1:=XR2.free 1;have rl:=XR2.lt;have HF:=zh (And.intro ((XR2.setCell 0 (.slice none 0 0)).setCell 1 (.slice none 0 0)) (((HB2.setCell (p:=⟨gr,0,none⟩) HGR.out (.slice none 0 0)).setCell (p:=⟨gr,1,none⟩) HGR.out (.slice none 0 0))));go_wp2_with fail
  have q0:=HF.1.cell 0 rfl;have q1:=HF.1.cell 1 rfl;exact bodyPost_ret (v:=.tuple #[.agg #[.slice none 0 0,.slice none 0 0],.int .i64 v]) (by simp[results,Try.results43,go_sem,q0,q1]) rfl (EE.out _ HF.2)
 subst h0;have HZ:Hid (stE S cs=0):=zh HV.symm;clear HV HP2;have h48:n<=48:=by have h3:=(aj.1 (aW HZ.out).2.1).1;have:=HN.out;omega
 have h8:m<=8:=by have:=(aW HZ.out).1;have:=HM.out;omega
 have nI:=Gt m (by omega);have Cw:=gZ n (by omega);have XL:=gZ m (by omega);have s0:=XS2.cell 0 rfl;have s1:=XS2.cell 1 rfl;have s2:=XS2.cell 2 rfl;have s3:=XS2.cell 3 rfl;have sl:=XS2.lt;go_upto_region 5 with fail
 clear s0 s1 s2 s3 sl;have HT:=zh (Below.refl w2.heap.size w2).drew
 go_cut [8]from 29 to 35 (fun tv wc=> ∃gt g1 g2:Nat,tv=.pointer (some ⟨gt,0,none⟩)/\Hid ((Blk wc gt 55 [.slice (some ⟨g1,0,none⟩) m m,.slice (some ⟨g2,0,none⟩) m m]/\Blk wc g1 22 (List.replicate m (.slice none 0 0))/\Blk wc g2 22 (List.replicate m (.slice none 0 0))/\g1≠g2)/\(w2.heap.size<=gt/\w2.heap.size<=g1/\w2.heap.size<=g2)/\Below w2.heap.size w2 wc))
 case first=>
  refine kF (S:=fun _ W=>(True)) (by kernel_rfl) ?_ (fun hHeld=>?_)
  ·trivial
  refine lTk 0 ?_ ?_ (fun aa=>?_);rotate_left 1
  ·(intro _ _ _ _ _;first|(go_simp;done)|(go_simp;with_reducible rfl))
  clear hHeld;have hHeld:=aa;clear aa
  (try simp only[zp])
  refine lTk 1 ?_ ?_ (fun aa=>?_);rotate_left 1
  ·(intro _ _ _ _ _;first|(go_simp;done)|(go_simp;with_reducible rfl))
  clear hHeld;have hHeld:=aa;clear aa
  (try simp only[zp])
  refine lTk 3 ?_ ?_ (fun aa=>?_);rotate_left 1
  ·(intro _ _ _ _ _;first|(go_simp;done)|(go_simp;with_reducible rfl))
  clear hHeld;have hHeld:=aa;clear aa
  (try simp only[zp])
  refine lTk 4 ?_ ?_ (fun aa=>?_);rotate_left 1
  ·(intro _ _ _ _ _;first|(go_simp;done)|(go_simp;with_reducible rfl))
  clear hHeld;have hHeld:=aa;clear aa
  (try simp only[zp])
  refine ay (rs:=[2,5,7]) (by kernel_rfl) (by simp) ?_;refine au.cons (i:=2) rfl (fun K hK=>?_) ?_
  ·refine aG (.cells (Array.replicate m (.slice none 0 0)) 22) (fun g=>.slice (some ⟨g,0,none⟩) m m) rfl (by unfold execOp;simp[nI,go_sem]) ?_;intro g1 wv z6 hc6 hb6;(try have HNE:=zh (show g1≠g2 from by have:=dh.lt;omega));(try have dh:=zh (dh.below hb6 dh.lt));(try have HF7:=zh (HF7.below hb6 HF7.lt));have di:=zh (show Blk wv g1 22 (List.replicate m (.slice none 0 0))from by unfold Blk;rw[hc6];simp);have vk:=zh (show w2.heap.size<=g1 from Nat.le_trans HT.size z6);have HT:=zh (HT.trans (hb6.mono HT.size));clear hb6 hc6 z6
   (try go_wp2_with fail)
   refine hK.out _ _ ?_ (fun aa=>?_)
   ·trivial
   clear hK K;clear hHeld;have hHeld:=aa;clear aa
   (try simp only[zp])
   refine ay (rs:=[5,7]) (by kernel_rfl) (by simp) ?_;refine au.cons (i:=5) rfl (fun K hK=>?_) ?_
   ·refine aG (.cells (Array.replicate m (.slice none 0 0)) 22) (fun g=>.slice (some ⟨g,0,none⟩) m m) rfl (by unfold execOp;simp[nI,go_sem]) ?_;intro g2 wv z6 hc6 hb6;(try have HNE:=zh (show g1≠g2 from by have:=di.lt;omega));(try have di:=zh (di.below hb6 di.lt));(try have HF7:=zh (HF7.below hb6 HF7.lt));have dh:=zh (show Blk wv g2 22 (List.replicate m (.slice none 0 0))from by unfold Blk;rw[hc6];simp);have vv:=zh (show w2.heap.size<=g2 from Nat.le_trans HT.size z6);have HT:=zh (HT.trans (hb6.mono HT.size));clear hb6 hc6 z6
    (try go_wp2_with fail)
    refine hK.out _ _ ?_ (fun aa=>?_)
    ·trivial
    clear hK K;clear hHeld;have hHeld:=aa;clear aa
    (try simp only[zp])
    refine lTk 6 ?_ ?_ (fun aa=>?_);rotate_left 1
    ·(intro _ _ _ _ _;first|(go_simp;done)|(go_simp;with_reducible rfl))
    clear hHeld;have hHeld:=aa;clear aa
    (try simp only[zp])
    refine ay (rs:=[7]) (by kernel_rfl) (by simp) ?_;refine au.cons (i:=7) rfl (fun K hK=>?_) ?_
    ·refine aG (.cells #[.slice none 0 0,.slice none 0 0] 55) (fun g=>.pointer (some ⟨g,0,none⟩)) rfl (by kernel_rfl) ?_;intro gt wv z6 hc6 hb6;(try have di:=zh (di.below hb6 di.lt));(try have dh:=zh (dh.below hb6 dh.lt));have HF7:=zh (show Blk wv gt 55 [.slice none 0 0,.slice none 0 0]from hc6);have HZ7:=zh (show w2.heap.size<=gt from Nat.le_trans HT.size z6);have HT:=zh (HT.trans (hb6.mono HT.size));clear hb6 hc6 z6
     (try go_wp2_with fail)
     refine hK.out _ _ ?_ (fun aa=>?_)
     ·trivial
     clear hK K;clear hHeld;have hHeld:=aa;clear aa
     (try simp only[zp])
     refine ay (rs:=[8]) (by kernel_rfl) (by simp) ?_;refine au.cons (i:=8) rfl (fun K hK=>?_) ?_
     ·have q0:=HF7.cell 0 rfl;have q1:=HF7.cell 1 rfl;have z0:=HF7.free 0;have z1:=HF7.free 1;have ql:=HF7.lt;have oU:=zh (And.intro (And.intro ((HF7.setCell 0 (.slice (some ⟨g1,0,none⟩) m m)).setCell 1 (.slice (some ⟨g2,0,none⟩) m m)) (And.intro ((di.setCell_ne (p:=⟨gt,0,none⟩) (fun e=>ae HF7.out di.out (by decide) e) (.slice (some ⟨g1,0,none⟩) m m)).setCell_ne (p:=⟨gt,1,none⟩) (fun e=>ae HF7.out di.out (by decide) e) (.slice (some ⟨g2,0,none⟩) m m)) (And.intro ((dh.setCell_ne (p:=⟨gt,0,none⟩) (fun e=>ae HF7.out dh.out (by decide) e) (.slice (some ⟨g1,0,none⟩) m m)).setCell_ne (p:=⟨gt,1,none⟩) (fun e=>ae HF7.out dh.out (by decide) e) (.slice (some ⟨g2,0,none⟩) m m)) HNE.out))) (And.intro (And.intro HZ7.out (And.intro vk.out vv.out)) ((HT.setCell (p:=⟨gt,0,none⟩) HZ7.out (.slice (some ⟨g1,0,none⟩) m m)).setCell (p:=⟨gt,1,none⟩) HZ7.out (.slice (some ⟨g2,0,none⟩) m m))));go_simp
      (try go_wp2_with fail)
      refine hK.out _ _ ?_ (fun aa=>?_)
      ·trivial
      clear hK K;clear hHeld;have hHeld:=aa;clear aa
      (try simp only[zp])
      refine fM (by kernel_rfl) ?_ _;go_wp2_with fail
      go_meet
      case rel=>exact⟨gt,g1,g2,rfl,oU⟩
     exact au.nil
    exact au.nil
   refine au.cons (i:=7) rfl (fun K hK=>?_) ?_
   ·refine aG (.cells #[.slice none 0 0,.slice none 0 0] 55) (fun g=>.pointer (some ⟨g,0,none⟩)) rfl (by kernel_rfl) ?_;intro gt wv z6 hc6 hb6;(try have di:=zh (di.below hb6 di.lt));(try have dh:=zh (dh.below hb6 dh.lt));have HF7:=zh (show Blk wv gt 55 [.slice none 0 0,.slice none 0 0]from hc6);have HZ7:=zh (show w2.heap.size<=gt from Nat.le_trans HT.size z6);have HT:=zh (HT.trans (hb6.mono HT.size));clear hb6 hc6 z6
    (try go_wp2_with fail)
    refine hK.out _ _ ?_ (fun aa=>?_)
    ·trivial
    clear hK K;clear hHeld;have hHeld:=aa;clear aa
    (try simp only[zp])
    refine ay (rs:=[5]) (by kernel_rfl) (by simp) ?_;refine au.cons (i:=5) rfl (fun K hK=>?_) ?_
    ·refine aG (.cells (Array.replicate m (.slice none 0 0)) 22) (fun g=>.slice (some ⟨g,0,none⟩) m m) rfl (by unfold execOp;simp[nI,go_sem]) ?_;intro g2 wv z6 hc6 hb6;(try have HNE:=zh (show g1≠g2 from by have:=di.lt;omega));(try have di:=zh (di.below hb6 di.lt));(try have HF7:=zh (HF7.below hb6 HF7.lt));have dh:=zh (show Blk wv g2 22 (List.replicate m (.slice none 0 0))from by unfold Blk;rw[hc6];simp);have vv:=zh (show w2.heap.size<=g2 from Nat.le_trans HT.size z6);have HT:=zh (HT.trans (hb6.mono HT.size));clear hb6 hc6 z6
     (try go_wp2_with fail)
     refine hK.out _ _ ?_ (fun aa=>?_)
     ·trivial
     clear hK K;clear hHeld;have hHeld:=aa;clear aa
     (try simp only[zp])
     refine lTk 6 ?_ ?_ (fun aa=>?_);rotate_left 1
     ·(intro _ _ _ _ _;first|(go_simp;done)|(go_simp;with_reducible rfl))
     clear hHeld;have hHeld:=aa;clear aa
     (try simp only[zp])
     refine ay (rs:=[8]) (by kernel_rfl) (by simp) ?_;refine au.cons (i:=8) rfl (fun K hK=>?_) ?_
     ·have q0:=HF7.cell 0 rfl;have q1:=HF7.cell 1 rfl;have z0:=HF7.free 0;have z1:=HF7.free 1;have ql:=HF7.lt;have oU:=zh (And.intro (And.intro ((HF7.setCell 0 (.slice (some ⟨g1,0,none⟩) m m)).setCell 1 (.slice (some ⟨g2,0,none⟩) m m)) (And.intro ((di.setCell_ne (p:=⟨gt,0,none⟩) (fun e=>ae HF7.out di.out (by decide) e) (.slice (some ⟨g1,0,none⟩) m m)).setCell_ne (p:=⟨gt,1,none⟩) (fun e=>ae HF7.out di.out (by decide) e) (.slice (some ⟨g2,0,none⟩) m m)) (And.intro ((dh.setCell_ne (p:=⟨gt,0,none⟩) (fun e=>ae HF7.out dh.out (by decide) e) (.slice (some ⟨g1,0,none⟩) m m)).setCell_ne (p:=⟨gt,1,none⟩) (fun e=>ae HF7.out dh.out (by decide) e) (.slice (some ⟨g2,0,none⟩) m m)) HNE.out))) (And.intro (And.intro HZ7.out (And.intro vk.out vv.out)) ((HT.setCell (p:=⟨gt,0,none⟩) HZ7.out (.slice (some ⟨g1,0,none⟩) m m)).setCell (p:=⟨gt,1,none⟩) HZ7.out (.slice (some ⟨g2,0,none⟩) m m))));go_simp
      (try go_wp2_with fail)
      refine hK.out _ _ ?_ (fun aa=>?_)
      ·trivial
      clear hK K;clear hHeld;have hHeld:=aa;clear aa
      (try simp only[zp])
      refine fM (by kernel_rfl) ?_ _;go_wp2_with fail
      go_meet
      case rel=>exact⟨gt,g1,g2,rfl,oU⟩
     exact au.nil
    exact au.nil
   exact au.nil
  refine au.cons (i:=5) rfl (fun K hK=>?_) ?_
  ·refine aG (.cells (Array.replicate m (.slice none 0 0)) 22) (fun g=>.slice (some ⟨g,0,none⟩) m m) rfl (by unfold execOp;simp[nI,go_sem]) ?_;intro g2 wv z6 hc6 hb6;(try have HNE:=zh (show g1≠g2 from by have:=di.lt;omega));(try have di:=zh (di.below hb6 di.lt));(try have HF7:=zh (HF7.below hb6 HF7.lt));have dh:=zh (show Blk wv g2 22 (List.replicate m (.slice none 0 0))from by unfold Blk;rw[hc6];simp);have vv:=zh (show w2.heap.size<=g2 from Nat.le_trans HT.size z6);have HT:=zh (HT.trans (hb6.mono HT.size));clear hb6 hc6 z6
   (try go_wp2_with fail)
   refine hK.out _ _ ?_ (fun aa=>?_)
   ·trivial
   clear hK K;clear hHeld;have hHeld:=aa;clear aa
   (try simp only[zp])
   refine ay (rs:=[2,7]) (by kernel_rfl) (by simp) ?_;refine au.cons (i:=2) rfl (fun K hK=>?_) ?_
   ·refine aG (.cells (Array.replicate m (.slice none 0 0)) 22) (fun g=>.slice (some ⟨g,0,none⟩) m m) rfl (by unfold execOp;simp[nI,go_sem]) ?_;intro g1 wv z6 hc6 hb6;(try have HNE:=zh (show g1≠g2 from by have:=dh.lt;omega));(try have dh:=zh (dh.below hb6 dh.lt));(try have HF7:=zh (HF7.below hb6 HF7.lt));have di:=zh (show Blk wv g1 22 (List.replicate m (.slice none 0 0))from by unfold Blk;rw[hc6];simp);have vk:=zh (show w2.heap.size<=g1 from Nat.le_trans HT.size z6);have HT:=zh (HT.trans (hb6.mono HT.size));clear hb6 hc6 z6
    (try go_wp2_with fail)
    refine hK.out _ _ ?_ (fun aa=>?_)
    ·trivial
    clear hK K;clear hHeld;have hHeld:=aa;clear aa
    (try simp only[zp])
    refine lTk 6 ?_ ?_ (fun aa=>?_);rotate_left 1
    ·(intro _ _ _ _ _;first|(go_simp;done)|(go_simp;with_reducible rfl))
    clear hHeld;have hHeld:=aa;clear aa
    (try simp only[zp])
    refine ay (rs:=[7]) (by kernel_rfl) (by simp) ?_;refine au.cons (i:=7) rfl (fun K hK=>?_) ?_
    ·refine aG (.cells #[.slice none 0 0,.slice none 0 0] 55) (fun g=>.pointer (some ⟨g,0,none⟩)) rfl (by kernel_rfl) ?_;intro gt wv z6 hc6 hb6;(try have di:=zh (di.below hb6 di.lt));(try have dh:=zh (dh.below hb6 dh.lt));have HF7:=zh (show Blk wv gt 55 [.slice none 0 0,.slice none 0 0]from hc6);have HZ7:=zh (show w2.heap.size<=gt from Nat.le_trans HT.size z6);have HT:=zh (HT.trans (hb6.mono HT.size));clear hb6 hc6 z6
     (try go_wp2_with fail)
     refine hK.out _ _ ?_ (fun aa=>?_)
     ·trivial
     clear hK K;clear hHeld;have hHeld:=aa;clear aa
     (try simp only[zp])
     refine ay (rs:=[8]) (by kernel_rfl) (by simp) ?_;refine au.cons (i:=8) rfl (fun K hK=>?_) ?_
     ·have q0:=HF7.cell 0 rfl;have q1:=HF7.cell 1 rfl;have z0:=HF7.free 0;have z1:=HF7.free 1;have ql:=HF7.lt;have oU:=zh (And.intro (And.intro ((HF7.setCell 0 (.slice (some ⟨g1,0,none⟩) m m)).setCell 1 (.slice (some ⟨g2,0,none⟩) m m)) (And.intro ((di.setCell_ne (p:=⟨gt,0,none⟩) (fun e=>ae HF7.out di.out (by decide) e) (.slice (some ⟨g1,0,none⟩) m m)).setCell_ne (p:=⟨gt,1,none⟩) (fun e=>ae HF7.out di.out (by decide) e) (.slice (some ⟨g2,0,none⟩) m m)) (And.intro ((dh.setCell_ne (p:=⟨gt,0,none⟩) (fun e=>ae HF7.out dh.out (by decide) e) (.slice (some ⟨g1,0,none⟩) m m)).setCell_ne (p:=⟨gt,1,none⟩) (fun e=>ae HF7.out dh.out (by decide) e) (.slice (some ⟨g2,0,none⟩) m m)) HNE.out))) (And.intro (And.intro HZ7.out (And.intro vk.out vv.out)) ((HT.setCell (p:=⟨gt,0,none⟩) HZ7.out (.slice (some ⟨g1,0,none⟩) m m)).setCell (p:=⟨gt,1,none⟩) HZ7.out (.slice (some ⟨g2,0,none⟩) m m))));go_simp
      (try go_wp2_with fail)
      refine hK.out _ _ ?_ (fun aa=>?_)
      ·trivial
      clear hK K;clear hHeld;have hHeld:=aa;clear aa
      (try simp only[zp])
      refine fM (by kernel_rfl) ?_ _;go_wp2_with fail
      go_meet
      case rel=>exact⟨gt,g1,g2,rfl,oU⟩
     exact au.nil
    exact au.nil
   refine au.cons (i:=7) rfl (fun K hK=>?_) ?_
   ·refine aG (.cells #[.slice none 0 0,.slice none 0 0] 55) (fun g=>.pointer (some ⟨g,0,none⟩)) rfl (by kernel_rfl) ?_;intro gt wv z6 hc6 hb6;(try have di:=zh (di.below hb6 di.lt));(try have dh:=zh (dh.below hb6 dh.lt));have HF7:=zh (show Blk wv gt 55 [.slice none 0 0,.slice none 0 0]from hc6);have HZ7:=zh (show w2.heap.size<=gt from Nat.le_trans HT.size z6);have HT:=zh (HT.trans (hb6.mono HT.size));clear hb6 hc6 z6
    (try go_wp2_with fail)
    refine hK.out _ _ ?_ (fun aa=>?_)
    ·trivial
    clear hK K;clear hHeld;have hHeld:=aa;clear aa
    (try simp only[zp])
    refine ay (rs:=[2]) (by kernel_rfl) (by simp) ?_;refine au.cons (i:=2) rfl (fun K hK=>?_) ?_
    ·refine aG (.cells (Array.replicate m (.slice none 0 0)) 22) (fun g=>.slice (some ⟨g,0,none⟩) m m) rfl (by unfold execOp;simp[nI,go_sem]) ?_;intro g1 wv z6 hc6 hb6;(try have HNE:=zh (show g1≠g2 from by have:=dh.lt;omega));(try have dh:=zh (dh.below hb6 dh.lt));(try have HF7:=zh (HF7.below hb6 HF7.lt));have di:=zh (show Blk wv g1 22 (List.replicate m (.slice none 0 0))from by unfold Blk;rw[hc6];simp);have vk:=zh (show w2.heap.size<=g1 from Nat.le_trans HT.size z6);have HT:=zh (HT.trans (hb6.mono HT.size));clear hb6 hc6 z6
     (try go_wp2_with fail)
     refine hK.out _ _ ?_ (fun aa=>?_)
     ·trivial
     clear hK K;clear hHeld;have hHeld:=aa;clear aa
     (try simp only[zp])
     refine lTk 6 ?_ ?_ (fun aa=>?_);rotate_left 1
     ·(intro _ _ _ _ _;first|(go_simp;done)|(go_simp;with_reducible rfl))
     clear hHeld;have hHeld:=aa;clear aa
     (try simp only[zp])
     refine ay (rs:=[8]) (by kernel_rfl) (by simp) ?_;refine au.cons (i:=8) rfl (fun K hK=>?_) ?_
     ·have q0:=HF7.cell 0 rfl;have q1:=HF7.cell 1 rfl;have z0:=HF7.free 0;have z1:=HF7.free 1;have ql:=HF7.lt;have oU:=zh (And.intro (And.intro ((HF7.setCell 0 (.slice (some ⟨g1,0,none⟩) m m)).setCell 1 (.slice (some ⟨g2,0,none⟩) m m)) (And.intro ((di.setCell_ne (p:=⟨gt,0,none⟩) (fun e=>ae HF7.out di.out (by decide) e) (.slice (some ⟨g1,0,none⟩) m m)).setCell_ne (p:=⟨gt,1,none⟩) (fun e=>ae HF7.out di.out (by decide) e) (.slice (some ⟨g2,0,none⟩) m m)) (And.intro ((dh.setCell_ne (p:=⟨gt,0,none⟩) (fun e=>ae HF7.out dh.out (by decide) e) (.slice (some ⟨g1,0,none⟩) m m)).setCell_ne (p:=⟨gt,1,none⟩) (fun e=>ae HF7.out dh.out (by decide) e) (.slice (some ⟨g2,0,none⟩) m m)) HNE.out))) (And.intro (And.intro HZ7.out (And.intro vk.out vv.out)) ((HT.setCell (p:=⟨gt,0,none⟩) HZ7.out (.slice (some ⟨g1,0,none⟩) m m)).setCell (p:=⟨gt,1,none⟩) HZ7.out (.slice (some ⟨g2,0,none⟩) m m))));go_simp
      (try go_wp2_with fail)
      refine hK.out _ _ ?_ (fun aa=>?_)
      ·trivial
      clear hK K;clear hHeld;have hHeld:=aa;clear aa
      (try simp only[zp])
      refine fM (by kernel_rfl) ?_ _;go_wp2_with fail
      go_meet
      case rel=>exact⟨gt,g1,g2,rfl,oU⟩
     exact au.nil
    exact au.nil
   exact au.nil
  refine au.cons (i:=7) rfl (fun K hK=>?_) ?_
  ·refine aG (.cells #[.slice none 0 0,.slice none 0 0] 55) (fun g=>.pointer (some ⟨g,0,none⟩)) rfl (by kernel_rfl) ?_;intro gt wv z6 hc6 hb6;(try have di:=zh (di.below hb6 di.lt));(try have dh:=zh (dh.below hb6 dh.lt));have HF7:=zh (show Blk wv gt 55 [.slice none 0 0,.slice none 0 0]from hc6);have HZ7:=zh (show w2.heap.size<=gt from Nat.le_trans HT.size z6);have HT:=zh (HT.trans (hb6.mono HT.size));clear hb6 hc6 z6
   (try go_wp2_with fail)
   refine hK.out _ _ ?_ (fun aa=>?_)
   ·trivial
   clear hK K;clear hHeld;have hHeld:=aa;clear aa
   (try simp only[zp])
   refine ay (rs:=[2,5]) (by kernel_rfl) (by simp) ?_;refine au.cons (i:=2) rfl (fun K hK=>?_) ?_
   ·refine aG (.cells (Array.replicate m (.slice none 0 0)) 22) (fun g=>.slice (some ⟨g,0,none⟩) m m) rfl (by unfold execOp;simp[nI,go_sem]) ?_;intro g1 wv z6 hc6 hb6;(try have HNE:=zh (show g1≠g2 from by have:=dh.lt;omega));(try have dh:=zh (dh.below hb6 dh.lt));(try have HF7:=zh (HF7.below hb6 HF7.lt));have di:=zh (show Blk wv g1 22 (List.replicate m (.slice none 0 0))from by unfold Blk;rw[hc6];simp);have vk:=zh (show w2.heap.size<=g1 from Nat.le_trans HT.size z6);have HT:=zh (HT.trans (hb6.mono HT.size));clear hb6 hc6 z6
    (try go_wp2_with fail)
    refine hK.out _ _ ?_ (fun aa=>?_)
    ·trivial
    clear hK K;clear hHeld;have hHeld:=aa;clear aa
    (try simp only[zp])
    refine ay (rs:=[5]) (by kernel_rfl) (by simp) ?_;refine au.cons (i:=5) rfl (fun K hK=>?_) ?_
    ·refine aG (.cells (Array.replicate m (.slice none 0 0)) 22) (fun g=>.slice (some ⟨g,0,none⟩) m m) rfl (by unfold execOp;simp[nI,go_sem]) ?_;intro g2 wv z6 hc6 hb6;(try have HNE:=zh (show g1≠g2 from by have:=di.lt;omega));(try have di:=zh (di.below hb6 di.lt));(try have HF7:=zh (HF7.below hb6 HF7.lt));have dh:=zh (show Blk wv g2 22 (List.replicate m (.slice none 0 0))from by unfold Blk;rw[hc6];simp);have vv:=zh (show w2.heap.size<=g2 from Nat.le_trans HT.size z6);have HT:=zh (HT.trans (hb6.mono HT.size));clear hb6 hc6 z6
     (try go_wp2_with fail)
     refine hK.out _ _ ?_ (fun aa=>?_)
     ·trivial
     clear hK K;clear hHeld;have hHeld:=aa;clear aa
     (try simp only[zp])
     refine lTk 6 ?_ ?_ (fun aa=>?_);rotate_left 1
     ·(intro _ _ _ _ _;first|(go_simp;done)|(go_simp;with_reducible rfl))
     clear hHeld;have hHeld:=aa;clear aa
     (try simp only[zp])
     refine ay (rs:=[8]) (by kernel_rfl) (by simp) ?_;refine au.cons (i:=8) rfl (fun K hK=>?_) ?_
     ·have q0:=HF7.cell 0 rfl;have q1:=HF7.cell 1 rfl;have z0:=HF7.free 0;have z1:=HF7.free 1;have ql:=HF7.lt;have oU:=zh (And.intro (And.intro ((HF7.setCell 0 (.slice (some ⟨g1,0,none⟩) m m)).setCell 1 (.slice (some ⟨g2,0,none⟩) m m)) (And.intro ((di.setCell_ne (p:=⟨gt,0,none⟩) (fun e=>ae HF7.out di.out (by decide) e) (.slice (some ⟨g1,0,none⟩) m m)).setCell_ne (p:=⟨gt,1,none⟩) (fun e=>ae HF7.out di.out (by decide) e) (.slice (some ⟨g2,0,none⟩) m m)) (And.intro ((dh.setCell_ne (p:=⟨gt,0,none⟩) (fun e=>ae HF7.out dh.out (by decide) e) (.slice (some ⟨g1,0,none⟩) m m)).setCell_ne (p:=⟨gt,1,none⟩) (fun e=>ae HF7.out dh.out (by decide) e) (.slice (some ⟨g2,0,none⟩) m m)) HNE.out))) (And.intro (And.intro HZ7.out (And.intro vk.out vv.out)) ((HT.setCell (p:=⟨gt,0,none⟩) HZ7.out (.slice (some ⟨g1,0,none⟩) m m)).setCell (p:=⟨gt,1,none⟩) HZ7.out (.slice (some ⟨g2,0,none⟩) m m))));go_simp
      (try go_wp2_with fail)
      refine hK.out _ _ ?_ (fun aa=>?_)
      ·trivial
      clear hK K;clear hHeld;have hHeld:=aa;clear aa
      (try simp only[zp])
      refine fM (by kernel_rfl) ?_ _;go_wp2_with fail
      go_meet
      case rel=>exact⟨gt,g1,g2,rfl,oU⟩
     exact au.nil
    exact au.nil
   refine au.cons (i:=5) rfl (fun K hK=>?_) ?_
   ·refine aG (.cells (Array.replicate m (.slice none 0 0)) 22) (fun g=>.slice (some ⟨g,0,none⟩) m m) rfl (by unfold execOp;simp[nI,go_sem]) ?_;intro g2 wv z6 hc6 hb6;(try have HNE:=zh (show g1≠g2 from by have:=di.lt;omega));(try have di:=zh (di.below hb6 di.lt));(try have HF7:=zh (HF7.below hb6 HF7.lt));have dh:=zh (show Blk wv g2 22 (List.replicate m (.slice none 0 0))from by unfold Blk;rw[hc6];simp);have vv:=zh (show w2.heap.size<=g2 from Nat.le_trans HT.size z6);have HT:=zh (HT.trans (hb6.mono HT.size));clear hb6 hc6 z6
    (try go_wp2_with fail)
    refine hK.out _ _ ?_ (fun aa=>?_)
    ·trivial
    clear hK K;clear hHeld;have hHeld:=aa;clear aa
    (try simp only[zp])
    refine ay (rs:=[2]) (by kernel_rfl) (by simp) ?_;refine au.cons (i:=2) rfl (fun K hK=>?_) ?_
    ·refine aG (.cells (Array.replicate m (.slice none 0 0)) 22) (fun g=>.slice (some ⟨g,0,none⟩) m m) rfl (by unfold execOp;simp[nI,go_sem]) ?_;intro g1 wv z6 hc6 hb6;(try have HNE:=zh (show g1≠g2 from by have:=dh.lt;omega));(try have dh:=zh (dh.below hb6 dh.lt));(try have HF7:=zh (HF7.below hb6 HF7.lt));have di:=zh (show Blk wv g1 22 (List.replicate m (.slice none 0 0))from by unfold Blk;rw[hc6];simp);have vk:=zh (show w2.heap.size<=g1 from Nat.le_trans HT.size z6);have HT:=zh (HT.trans (hb6.mono HT.size));clear hb6 hc6 z6
     (try go_wp2_with fail)
     refine hK.out _ _ ?_ (fun aa=>?_)
     ·trivial
     clear hK K;clear hHeld;have hHeld:=aa;clear aa
     (try simp only[zp])
     refine lTk 6 ?_ ?_ (fun aa=>?_);rotate_left 1
     ·(intro _ _ _ _ _;first|(go_simp;done)|(go_simp;with_reducible rfl))
     clear hHeld;have hHeld:=aa;clear aa
     (try simp only[zp])
     refine ay (rs:=[8]) (by kernel_rfl) (by simp) ?_;refine au.cons (i:=8) rfl (fun K hK=>?_) ?_
     ·have q0:=HF7.cell 0 rfl;have q1:=HF7.cell 1 rfl;have z0:=HF7.free 0;have z1:=HF7.free 1;have ql:=HF7.lt;have oU:=zh (And.intro (And.intro ((HF7.setCell 0 (.slice (some ⟨g1,0,none⟩) m m)).setCell 1 (.slice (some ⟨g2,0,none⟩) m m)) (And.intro ((di.setCell_ne (p:=⟨gt,0,none⟩) (fun e=>ae HF7.out di.out (by decide) e) (.slice (some ⟨g1,0,none⟩) m m)).setCell_ne (p:=⟨gt,1,none⟩) (fun e=>ae HF7.out di.out (by decide) e) (.slice (some ⟨g2,0,none⟩) m m)) (And.intro ((dh.setCell_ne (p:=⟨gt,0,none⟩) (fun e=>ae HF7.out dh.out (by decide) e) (.slice (some ⟨g1,0,none⟩) m m)).setCell_ne (p:=⟨gt,1,none⟩) (fun e=>ae HF7.out dh.out (by decide) e) (.slice (some ⟨g2,0,none⟩) m m)) HNE.out))) (And.intro (And.intro HZ7.out (And.intro vk.out vv.out)) ((HT.setCell (p:=⟨gt,0,none⟩) HZ7.out (.slice (some ⟨g1,0,none⟩) m m)).setCell (p:=⟨gt,1,none⟩) HZ7.out (.slice (some ⟨g2,0,none⟩) m m))));go_simp
      (try go_wp2_with fail)
      refine hK.out _ _ ?_ (fun aa=>?_)
      ·trivial
      clear hK K;clear hHeld;have hHeld:=aa;clear aa
      (try simp only[zp])
      refine fM (by kernel_rfl) ?_ _;go_wp2_with fail
      go_meet
      case rel=>exact⟨gt,g1,g2,rfl,oU⟩
     exact au.nil
    exact au.nil
   exact au.nil
  exact au.nil
 case rest=>
  clear HT;obtain⟨gt,g1,g2,rfl,HJ⟩:=hcut;go_upto_region 7 with fail
  have al:=(Below.refl wc.heap.size wc).alloc (Nat.le_refl _) (.cells (Array.replicate m (.int .i64 0)) 2);have HGG:Hid ((gr≠gt/\w.heap.size<=wc.heap.size)/\Below w.heap.size w wc):=zh ⟨⟨by have:=XR2.lt;have:=HJ.2.1.1;omega,by have:=HB2.size;have:=HJ.2.2.size;omega⟩,HB2.trans (HJ.2.2.mono HB2.size)⟩;have HT0:Hid (TaJ w n m 0 0 gt g1 g2 wc.heap.size (fun _=>0) (fun _=>0) (lvA cs m 0) (wc.alloc (.cells (Array.replicate m (.int .i64 0)) 2))):=zh (by
   obtain⟨⟨h1,h2,h3,h4⟩,⟨h5,h6,h7⟩,h8⟩:=HJ.out;have hz:=HB2.size;refine⟨h1.alloc _,⟨_,h2.alloc _,by simp⟩,⟨_,h3.alloc _,by simp⟩,⟨⟨_,h2.alloc _,fun x hx=>absurd hx (Nat.not_lt_zero _)⟩,fun x hx=>absurd hx (Nat.not_lt_zero _),fun x y hx=>absurd hx (Nat.not_lt_zero _)⟩,⟨⟨_,h3.alloc _,fun x hx=>absurd hx (Nat.not_lt_zero _)⟩,fun x hx=>absurd hx (Nat.not_lt_zero _),fun x y hx=>absurd hx (Nat.not_lt_zero _)⟩,by unfold lvA;rw[kT];exact kE 2 m wc,h4,fun x y hx=>absurd hx (Nat.not_lt_zero _),⟨fun x hx=>absurd hx (Nat.not_lt_zero _),fun x hx=>absurd hx (Nat.not_lt_zero _)⟩,HGG.2.trans (al.mono HGG.1.2),⟨by omega,by omega,HGG.1.2⟩⟩)
  have XS3:=zh (XS2.below (HJ.2.2.trans (al.mono HJ.2.2.size)) XS2.lt);have XR3:=zh (XR2.below (HJ.2.2.trans (al.mono HJ.2.2.size)) XR2.lt);have HG1:=zh HGG.1;clear al HJ HGG XS2 XR2 HB2;generalize wc.alloc (.cells (Array.replicate m (.int .i64 0)) 2)=w3 at HT0 XS3 XR3 ⊢;obtain⟨gl,hgl⟩: ∃gl,gl=wc.heap.size:=⟨_,rfl⟩;rw[<-hgl]at HT0 ⊢;clear hgl;go_wp2_with fail
  go_loopw [10,11,41] (fun _ _ iv wr=> ∃i:Nat,i<=m/\iv=.int .i64 i/\Hid (∃gI gO,TaJ w n m i i gt g1 g2 gl gI gO (lvA cs m i) wr/\Blk wr w.heap.size 51 [.slice A n cA,.slice B nB cB,.slice C nC cC,.slice D nD cD]/\Blk wr gr 55 [.slice none 0 0,.slice none 0 0])) (fun _ _ iv _=>m-(intOf iv).toNat)
  case atStart=>exact⟨0,Nat.zero_le _,rfl,zh ⟨_,_,HT0.out,XS3.out,XR3.out⟩⟩
  case round=>
   clear HT0 XS3 XR3;obtain⟨i,hi,rfl,HJ⟩:=hrel;obtain⟨gI,gO,hj1,hj2,hj3⟩:=HJ.out;have HT:=zh hj1;have XS:=zh hj2;have XR:=zh hj3;clear hj1 hj2 hj3 HJ
   by_cases hlt:i<m
   ·have hii:(i:Int)<(m:Int):=by omega
    have il:i<cs.length:=by rw[<-HM.out];exact hlt
    obtain⟨ad,hE2,abl,c0,c1,c2,c3,c4,TT,cT,c5,hcT,HTT⟩:=(HCS.below HT.bel (Nat.le_refl _)) i il;subst hE2;clear HTT;have HLV:Hid ((bT (fun x=>(cs.getD x default).start) m i).set i (cs.getD i default).start=bT (fun x=>(cs.getD x default).start) m (i+1)):=zh (mG _ m i hlt);generalize hcc:cs.getD i default=c at *;clear hcc;obtain⟨cap,inn,out,start,fin,trips⟩:=c;simp only at c0 c1 c2 c3 c4 c5 hcT HLV;obtain⟨qn,hqn⟩: ∃qn,qn=trips.length:=⟨_,rfl⟩;rw[<-hqn]at c5 hcT;clear hqn;go_upto_region 10 with fail
    have al:=(Below.refl wr.heap.size wr).alloc (Nat.le_refl _) (.cells #[.int .i64 cap,.int .i64 inn,.int .i64 out,.int .i64 start,.int .i64 fin,.slice TT qn cT] 63);have HT:=zh (HT.below al);have XS:=zh (XS.below al XS.lt);have XR:=zh (XR.below al XR.lt);have HC:=zh (Blk.new' wr #[.int .i64 cap,.int .i64 inn,.int .i64 out,.int .i64 start,.int .i64 fin,.slice TT qn cT] 63);clear c0 c1 c2 c3 c4 c5 abl al;generalize wr.alloc (.cells #[.int .i64 cap,.int .i64 inn,.int .i64 out,.int .i64 start,.int .i64 fin,.slice TT qn cT] 63)=wx at HT XS XR HC ⊢;obtain⟨gc,hgc⟩: ∃gc,gc=wr.heap.size:=⟨_,rfl⟩;rw[<-hgc]at HC ⊢;clear hgc;have HT:=zh (HT.below (Below.refl _ _).drew);have XS:=zh XS.drew;have XR:=zh XR.drew;have HC:=zh HC.drew;refine kF (S:=fun _ W=>((W.cell? ⟨gt,0,none⟩=some (.slice (some ⟨g1,0,none⟩) m m)/\W.cell? ⟨gt,1,none⟩=some (.slice (some ⟨g2,0,none⟩) m m)/\W.cell? ⟨gc,3,none⟩=some (.int .i64 start)))) (by kernel_rfl) ?_ (fun hHeld=>?_)
    ·(try dsimp only);(with_reducible exact⟨HT.out.b.cell 0 rfl,HT.out.b.cell 1 rfl,HC.out.cell 3 rfl⟩)
    refine lTk 0 ?_ ?_ (fun aa=>?_);rotate_left 1
    ·(intro _ _ _ _ _;first|(go_simp;done)|(go_simp;with_reducible rfl))
    clear hHeld;have hHeld:=aa;clear aa
    (try simp only[zp])
    refine lTk 1 ?_ ?_ (fun aa=>?_);rotate_left 1
    ·(intro L W _ _ hSw;(try dsimp only at hSw);first|(go_simp;done)|(go_simp;with_reducible rfl))
    clear hHeld;have hHeld:=aa;clear aa
    (try simp only[zp])
    refine lTk 2 ?_ ?_ (fun aa=>?_);rotate_left 1
    ·(intro _ _ _ _ _;first|(go_simp;done)|(go_simp;with_reducible rfl))
    clear hHeld;have hHeld:=aa;clear aa
    (try simp only[zp])
    refine lTk 3 ?_ ?_ (fun aa=>?_);rotate_left 1
    ·(intro _ _ _ _ _;first|(go_simp;done)|(go_simp;with_reducible rfl))
    clear hHeld;have hHeld:=aa;clear aa
    (try simp only[zp])
    refine lTk 4 ?_ ?_ (fun aa=>?_);rotate_left 1
    ·(intro L W _ _ hSw;(try dsimp only at hSw);first|(go_simp;done)|(go_simp;with_reducible rfl))
    clear hHeld;have hHeld:=aa;clear aa
    (try simp only[zp])
    refine lTk 5 ?_ ?_ (fun aa=>?_);rotate_left 1
    ·(intro _ _ _ _ _;first|(go_simp;done)|(go_simp;with_reducible rfl))
    clear hHeld;have hHeld:=aa;clear aa
    (try simp only[zp])
    refine lTk 6 ?_ ?_ (fun aa=>?_);rotate_left 1
    ·(intro _ _ _ _ _;first|(go_simp;done)|(go_simp;with_reducible rfl))
    clear hHeld;have hHeld:=aa;clear aa
    (try simp only[zp])
    refine lTk 7 ?_ ?_ (fun aa=>?_);rotate_left 1
    ·(intro _ _ _ _ _;first|(go_simp;done)|(go_simp;with_reducible rfl))
    clear hHeld;have hHeld:=aa;clear aa
    (try simp only[zp])
    refine lTk 8 ?_ ?_ (fun aa=>?_);rotate_left 1
    ·(intro _ _ _ _ _;first|(go_simp;done)|(go_simp;with_reducible rfl))
    clear hHeld;have hHeld:=aa;clear aa
    (try simp only[zp])
    refine lTk 10 ?_ ?_ (fun aa=>?_);rotate_left 1
    ·(intro _ _ _ _ _;first|(go_simp;done)|(go_simp;with_reducible rfl))
    clear hHeld;have hHeld:=aa;clear aa
    (try simp only[zp])
    refine lTk 12 ?_ ?_ (fun aa=>?_);rotate_left 1
    ·(intro _ _ _ _ _;first|(go_simp;done)|(go_simp;with_reducible rfl))
    clear hHeld;have hHeld:=aa;clear aa
    (try simp only[zp])
    refine lTk 13 ?_ ?_ (fun aa=>?_);rotate_left 1
    ·(intro L W _ _ hSw;(try dsimp only at hSw);first|(go_simp;done)|(go_simp;with_reducible rfl))
    clear hHeld;have hHeld:=aa;clear aa
    (try simp only[zp])
    refine ay (rs:=[9,11]) (by kernel_rfl) (by simp) ?_;refine au.cons (i:=9) rfl (fun K hK=>?_) ?_
    ·refine aG (.cells (Array.replicate n (.int .i64 0)) 2) (fun g=>.slice (some ⟨g,0,none⟩) n n) rfl (by unfold execOp;simp[Cw,go_sem]) ?_;intro ga wv z6 hc6 hb6;(try have HAB:=zh (show ga≠gb from by have:=HB.lt;omega));(try have HB:=zh (Fl.below HB.out hb6));have HAF:=zh (HT.fresh z6);have HA:=zh (show Fl 2 wv ga (List.replicate n 0)from by unfold Fl Blk;rw[hc6];simp);have HT:=zh (HT.below hb6);have XS:=zh (XS.below hb6 XS.lt);have XR:=zh (XR.below hb6 XR.lt);have HC:=zh (HC.below hb6 HC.lt);clear hb6 hc6 z6
     (try go_wp2_with fail)
     refine hK.out _ _ ?_ (fun aa=>?_)
     ·(try dsimp only);(with_reducible exact⟨HT.out.b.cell 0 rfl,HT.out.b.cell 1 rfl,HC.out.cell 3 rfl⟩)
     clear hK K;clear hHeld;have hHeld:=aa;clear aa
     (try simp only[zp])
     refine lTk 14 ?_ ?_ (fun aa=>?_);rotate_left 1
     ·(intro _ _ _ _ _;first|(go_simp;done)|(go_simp;with_reducible rfl))
     clear hHeld;have hHeld:=aa;clear aa
     (try simp only[zp])
     refine ay (rs:=[11,15]) (by kernel_rfl) (by simp) ?_;refine au.cons (i:=11) rfl (fun K hK=>?_) ?_
     ·refine aG (.cells (Array.replicate n (.int .i64 0)) 2) (fun g=>.slice (some ⟨g,0,none⟩) n n) rfl (by unfold execOp;simp[Cw,go_sem]) ?_;intro gb wv z6 hc6 hb6;(try have HAB:=zh (show ga≠gb from by have:=HA.lt;omega));(try have HA:=zh (Fl.below HA.out hb6));have HBF:=zh (HT.fresh z6);have HB:=zh (show Fl 2 wv gb (List.replicate n 0)from by unfold Fl Blk;rw[hc6];simp);have HT:=zh (HT.below hb6);have XS:=zh (XS.below hb6 XS.lt);have XR:=zh (XR.below hb6 XR.lt);have HC:=zh (HC.below hb6 HC.lt);clear hb6 hc6 z6
      (try go_wp2_with fail)
      refine hK.out _ _ ?_ (fun aa=>?_)
      ·(try dsimp only);(with_reducible exact⟨HT.out.b.cell 0 rfl,HT.out.b.cell 1 rfl,HC.out.cell 3 rfl⟩)
      clear hK K;clear hHeld;have hHeld:=aa;clear aa
      (try simp only[zp])
      refine ay (rs:=[15]) (by kernel_rfl) (by simp) ?_;refine au.cons (i:=15) rfl (fun K hK=>?_) ?_
      ·obtain⟨⟨v1,q1⟩,q2,q3⟩:=HT.cellI i hlt;go_simp;obtain⟨cq,bq⟩:=HT.li;(try have HB:=zh (HB.set_ne (p:=⟨g1,i,none⟩) (fun e=>ae bq.1 HB.out (by decide) e) (.slice (some ⟨ga,0,none⟩) n n)));have XS:=zh (XS.setCell_ne (p:=⟨g1,i,none⟩) (fun e=>ae XS.out bq.1 (by decide) e.symm) (.slice (some ⟨ga,0,none⟩) n n));have XR:=zh (XR.setCell_ne (p:=⟨g1,i,none⟩) (fun e=>ae XR.out bq.1 (by decide) e.symm) (.slice (some ⟨ga,0,none⟩) n n));have HC:=zh (HC.setCell_ne (p:=⟨g1,i,none⟩) (fun e=>ae HC.out bq.1 (by decide) e.symm) (.slice (some ⟨ga,0,none⟩) n n));have HT:=zh (HT.inn hlt HA.out HAF.out);clear bq q1 q2 q3
       (try go_wp2_with fail)
       refine hK.out _ _ ?_ (fun aa=>?_)
       ·(try dsimp only);(with_reducible exact⟨HT.out.b.cell 0 rfl,HT.out.b.cell 1 rfl,HC.out.cell 3 rfl⟩)
       clear hK K;clear hHeld;have hHeld:=aa;clear aa
       (try simp only[zp])
       refine lTk 16 ?_ ?_ (fun aa=>?_);rotate_left 1
       ·(intro _ _ _ _ _;first|(go_simp;done)|(go_simp;with_reducible rfl))
       clear hHeld;have hHeld:=aa;clear aa
       (try simp only[zp])
       refine ay (rs:=[17]) (by kernel_rfl) (by simp) ?_;refine au.cons (i:=17) rfl (fun K hK=>?_) ?_
       ·obtain⟨⟨v1,q1⟩,q2,q3⟩:=HT.cellO i hlt;go_simp;obtain⟨cq,bq⟩:=HT.lo;have XS:=zh (XS.setCell_ne (p:=⟨g2,i,none⟩) (fun e=>ae XS.out bq.1 (by decide) e.symm) (.slice (some ⟨gb,0,none⟩) n n));have XR:=zh (XR.setCell_ne (p:=⟨g2,i,none⟩) (fun e=>ae XR.out bq.1 (by decide) e.symm) (.slice (some ⟨gb,0,none⟩) n n));have HC:=zh (HC.setCell_ne (p:=⟨g2,i,none⟩) (fun e=>ae HC.out bq.1 (by decide) e.symm) (.slice (some ⟨gb,0,none⟩) n n));have HT:=zh (HT.outt hlt HB.out ⟨(by first|exact HBF.1|(intro x hx;unfold upd;split;exact HAB.out;exact HBF.1 x (by omega))),HBF.2⟩);clear bq q1 q2 q3
        (try go_wp2_with fail)
        refine hK.out _ _ ?_ (fun aa=>?_)
        ·(try dsimp only);(with_reducible exact⟨HT.out.b.cell 0 rfl,HT.out.b.cell 1 rfl,HC.out.cell 3 rfl⟩)
        clear hK K;clear hHeld;have hHeld:=aa;clear aa
        (try simp only[zp])
        refine lTk 18 ?_ ?_ (fun aa=>?_);rotate_left 1
        ·(intro _ _ _ _ _;first|(go_simp;done)|(go_simp;with_reducible rfl))
        clear hHeld;have hHeld:=aa;clear aa
        (try simp only[zp])
        refine ay (rs:=[19]) (by kernel_rfl) (by simp) ?_;refine au.cons (i:=19) rfl (fun K hK=>?_) ?_
        ·have q1:=HT.lev.cell i (by unfold lvA;rw[fV];exact hlt);have q2:=HT.lev.free i;have q3:=HT.lev.lt;go_simp;have bq:=And.intro (show Blk _ gl 2 _ from HT.lev) True.intro;have XS:=zh (XS.setCell_ne (p:=⟨gl,i,none⟩) (fun e=>ae XS.out bq.1 (by decide) e.symm) (.int .i64 start));have XR:=zh (XR.setCell_ne (p:=⟨gl,i,none⟩) (fun e=>ae XR.out bq.1 (by decide) e.symm) (.int .i64 start));have HC:=zh (HC.setCell_ne (p:=⟨gl,i,none⟩) (fun e=>ae HC.out bq.1 (by decide) e.symm) (.int .i64 start));have HT:=zh (HT.set i start);clear bq q1 q2 q3
         (try go_wp2_with fail)
         refine hK.out _ _ ?_ (fun aa=>?_)
         ·(try dsimp only);(with_reducible exact⟨HT.out.b.cell 0 rfl,HT.out.b.cell 1 rfl,HC.out.cell 3 rfl⟩)
         clear hK K;clear hHeld;have hHeld:=aa;clear aa
         (try simp only[zp])
         refine fM (by kernel_rfl) ?_ _;unfold lvA at HT;rw[HLV.out]at HT;go_wp2_with fail
         exact⟨⟨i+1,by omega,by go_num,zh ⟨_,_,HT.out,XS.out,XR.out⟩⟩,by simp[intOf];omega⟩
        exact au.nil
       exact au.nil
      exact au.nil
     refine au.cons (i:=15) rfl (fun K hK=>?_) ?_
     ·obtain⟨⟨v1,q1⟩,q2,q3⟩:=HT.cellI i hlt;go_simp;obtain⟨cq,bq⟩:=HT.li;(try have HB:=zh (HB.set_ne (p:=⟨g1,i,none⟩) (fun e=>ae bq.1 HB.out (by decide) e) (.slice (some ⟨ga,0,none⟩) n n)));have XS:=zh (XS.setCell_ne (p:=⟨g1,i,none⟩) (fun e=>ae XS.out bq.1 (by decide) e.symm) (.slice (some ⟨ga,0,none⟩) n n));have XR:=zh (XR.setCell_ne (p:=⟨g1,i,none⟩) (fun e=>ae XR.out bq.1 (by decide) e.symm) (.slice (some ⟨ga,0,none⟩) n n));have HC:=zh (HC.setCell_ne (p:=⟨g1,i,none⟩) (fun e=>ae HC.out bq.1 (by decide) e.symm) (.slice (some ⟨ga,0,none⟩) n n));have HT:=zh (HT.inn hlt HA.out HAF.out);clear bq q1 q2 q3
      (try go_wp2_with fail)
      refine hK.out _ _ ?_ (fun aa=>?_)
      ·(try dsimp only);(with_reducible exact⟨HT.out.b.cell 0 rfl,HT.out.b.cell 1 rfl,HC.out.cell 3 rfl⟩)
      clear hK K;clear hHeld;have hHeld:=aa;clear aa
      (try simp only[zp])
      refine ay (rs:=[11]) (by kernel_rfl) (by simp) ?_;refine au.cons (i:=11) rfl (fun K hK=>?_) ?_
      ·refine aG (.cells (Array.replicate n (.int .i64 0)) 2) (fun g=>.slice (some ⟨g,0,none⟩) n n) rfl (by unfold execOp;simp[Cw,go_sem]) ?_;intro gb wv z6 hc6 hb6;(try have HAB:=zh (show ga≠gb from by have:=HA.lt;omega));(try have HA:=zh (Fl.below HA.out hb6));have HBF:=zh (HT.fresh z6);have HB:=zh (show Fl 2 wv gb (List.replicate n 0)from by unfold Fl Blk;rw[hc6];simp);have HT:=zh (HT.below hb6);have XS:=zh (XS.below hb6 XS.lt);have XR:=zh (XR.below hb6 XR.lt);have HC:=zh (HC.below hb6 HC.lt);clear hb6 hc6 z6
       (try go_wp2_with fail)
       refine hK.out _ _ ?_ (fun aa=>?_)
       ·(try dsimp only);(with_reducible exact⟨HT.out.b.cell 0 rfl,HT.out.b.cell 1 rfl,HC.out.cell 3 rfl⟩)
       clear hK K;clear hHeld;have hHeld:=aa;clear aa
       (try simp only[zp])
       refine lTk 16 ?_ ?_ (fun aa=>?_);rotate_left 1
       ·(intro _ _ _ _ _;first|(go_simp;done)|(go_simp;with_reducible rfl))
       clear hHeld;have hHeld:=aa;clear aa
       (try simp only[zp])
       refine ay (rs:=[17]) (by kernel_rfl) (by simp) ?_;refine au.cons (i:=17) rfl (fun K hK=>?_) ?_
       ·obtain⟨⟨v1,q1⟩,q2,q3⟩:=HT.cellO i hlt;go_simp;obtain⟨cq,bq⟩:=HT.lo;have XS:=zh (XS.setCell_ne (p:=⟨g2,i,none⟩) (fun e=>ae XS.out bq.1 (by decide) e.symm) (.slice (some ⟨gb,0,none⟩) n n));have XR:=zh (XR.setCell_ne (p:=⟨g2,i,none⟩) (fun e=>ae XR.out bq.1 (by decide) e.symm) (.slice (some ⟨gb,0,none⟩) n n));have HC:=zh (HC.setCell_ne (p:=⟨g2,i,none⟩) (fun e=>ae HC.out bq.1 (by decide) e.symm) (.slice (some ⟨gb,0,none⟩) n n));have HT:=zh (HT.outt hlt HB.out ⟨(by first|exact HBF.1|(intro x hx;unfold upd;split;exact HAB.out;exact HBF.1 x (by omega))),HBF.2⟩);clear bq q1 q2 q3
        (try go_wp2_with fail)
        refine hK.out _ _ ?_ (fun aa=>?_)
        ·(try dsimp only);(with_reducible exact⟨HT.out.b.cell 0 rfl,HT.out.b.cell 1 rfl,HC.out.cell 3 rfl⟩)
        clear hK K;clear hHeld;have hHeld:=aa;clear aa
        (try simp only[zp])
        refine lTk 18 ?_ ?_ (fun aa=>?_);rotate_left 1
        ·(intro _ _ _ _ _;first|(go_simp;done)|(go_simp;with_reducible rfl))
        clear hHeld;have hHeld:=aa;clear aa
        (try simp only[zp])
        refine ay (rs:=[19]) (by kernel_rfl) (by simp) ?_;refine au.cons (i:=19) rfl (fun K hK=>?_) ?_
        ·have q1:=HT.lev.cell i (by unfold lvA;rw[fV];exact hlt);have q2:=HT.lev.free i;have q3:=HT.lev.lt;go_simp;have bq:=And.intro (show Blk _ gl 2 _ from HT.lev) True.intro;have XS:=zh (XS.setCell_ne (p:=⟨gl,i,none⟩) (fun e=>ae XS.out bq.1 (by decide) e.symm) (.int .i64 start));have XR:=zh (XR.setCell_ne (p:=⟨gl,i,none⟩) (fun e=>ae XR.out bq.1 (by decide) e.symm) (.int .i64 start));have HC:=zh (HC.setCell_ne (p:=⟨gl,i,none⟩) (fun e=>ae HC.out bq.1 (by decide) e.symm) (.int .i64 start));have HT:=zh (HT.set i start);clear bq q1 q2 q3
         (try go_wp2_with fail)
         refine hK.out _ _ ?_ (fun aa=>?_)
         ·(try dsimp only);(with_reducible exact⟨HT.out.b.cell 0 rfl,HT.out.b.cell 1 rfl,HC.out.cell 3 rfl⟩)
         clear hK K;clear hHeld;have hHeld:=aa;clear aa
         (try simp only[zp])
         refine fM (by kernel_rfl) ?_ _;unfold lvA at HT;rw[HLV.out]at HT;go_wp2_with fail
         exact⟨⟨i+1,by omega,by go_num,zh ⟨_,_,HT.out,XS.out,XR.out⟩⟩,by simp[intOf];omega⟩
        exact au.nil
       exact au.nil
      exact au.nil
     exact au.nil
    refine au.cons (i:=11) rfl (fun K hK=>?_) ?_
    ·refine aG (.cells (Array.replicate n (.int .i64 0)) 2) (fun g=>.slice (some ⟨g,0,none⟩) n n) rfl (by unfold execOp;simp[Cw,go_sem]) ?_;intro gb wv z6 hc6 hb6;(try have HAB:=zh (show ga≠gb from by have:=HA.lt;omega));(try have HA:=zh (Fl.below HA.out hb6));have HBF:=zh (HT.fresh z6);have HB:=zh (show Fl 2 wv gb (List.replicate n 0)from by unfold Fl Blk;rw[hc6];simp);have HT:=zh (HT.below hb6);have XS:=zh (XS.below hb6 XS.lt);have XR:=zh (XR.below hb6 XR.lt);have HC:=zh (HC.below hb6 HC.lt);clear hb6 hc6 z6
     (try go_wp2_with fail)
     refine hK.out _ _ ?_ (fun aa=>?_)
     ·(try dsimp only);(with_reducible exact⟨HT.out.b.cell 0 rfl,HT.out.b.cell 1 rfl,HC.out.cell 3 rfl⟩)
     clear hK K;clear hHeld;have hHeld:=aa;clear aa
     (try simp only[zp])
     refine ay (rs:=[9]) (by kernel_rfl) (by simp) ?_;refine au.cons (i:=9) rfl (fun K hK=>?_) ?_
     ·refine aG (.cells (Array.replicate n (.int .i64 0)) 2) (fun g=>.slice (some ⟨g,0,none⟩) n n) rfl (by unfold execOp;simp[Cw,go_sem]) ?_;intro ga wv z6 hc6 hb6;(try have HAB:=zh (show ga≠gb from by have:=HB.lt;omega));(try have HB:=zh (Fl.below HB.out hb6));have HAF:=zh (HT.fresh z6);have HA:=zh (show Fl 2 wv ga (List.replicate n 0)from by unfold Fl Blk;rw[hc6];simp);have HT:=zh (HT.below hb6);have XS:=zh (XS.below hb6 XS.lt);have XR:=zh (XR.below hb6 XR.lt);have HC:=zh (HC.below hb6 HC.lt);clear hb6 hc6 z6
      (try go_wp2_with fail)
      refine hK.out _ _ ?_ (fun aa=>?_)
      ·(try dsimp only);(with_reducible exact⟨HT.out.b.cell 0 rfl,HT.out.b.cell 1 rfl,HC.out.cell 3 rfl⟩)
      clear hK K;clear hHeld;have hHeld:=aa;clear aa
      (try simp only[zp])
      refine lTk 14 ?_ ?_ (fun aa=>?_);rotate_left 1
      ·(intro _ _ _ _ _;first|(go_simp;done)|(go_simp;with_reducible rfl))
      clear hHeld;have hHeld:=aa;clear aa
      (try simp only[zp])
      refine ay (rs:=[15]) (by kernel_rfl) (by simp) ?_;refine au.cons (i:=15) rfl (fun K hK=>?_) ?_
      ·obtain⟨⟨v1,q1⟩,q2,q3⟩:=HT.cellI i hlt;go_simp;obtain⟨cq,bq⟩:=HT.li;(try have HB:=zh (HB.set_ne (p:=⟨g1,i,none⟩) (fun e=>ae bq.1 HB.out (by decide) e) (.slice (some ⟨ga,0,none⟩) n n)));have XS:=zh (XS.setCell_ne (p:=⟨g1,i,none⟩) (fun e=>ae XS.out bq.1 (by decide) e.symm) (.slice (some ⟨ga,0,none⟩) n n));have XR:=zh (XR.setCell_ne (p:=⟨g1,i,none⟩) (fun e=>ae XR.out bq.1 (by decide) e.symm) (.slice (some ⟨ga,0,none⟩) n n));have HC:=zh (HC.setCell_ne (p:=⟨g1,i,none⟩) (fun e=>ae HC.out bq.1 (by decide) e.symm) (.slice (some ⟨ga,0,none⟩) n n));have HT:=zh (HT.inn hlt HA.out HAF.out);clear bq q1 q2 q3
       (try go_wp2_with fail)
       refine hK.out _ _ ?_ (fun aa=>?_)
       ·(try dsimp only);(with_reducible exact⟨HT.out.b.cell 0 rfl,HT.out.b.cell 1 rfl,HC.out.cell 3 rfl⟩)
       clear hK K;clear hHeld;have hHeld:=aa;clear aa
       (try simp only[zp])
       refine lTk 16 ?_ ?_ (fun aa=>?_);rotate_left 1
       ·(intro _ _ _ _ _;first|(go_simp;done)|(go_simp;with_reducible rfl))
       clear hHeld;have hHeld:=aa;clear aa
       (try simp only[zp])
       refine ay (rs:=[17]) (by kernel_rfl) (by simp) ?_;refine au.cons (i:=17) rfl (fun K hK=>?_) ?_
       ·obtain⟨⟨v1,q1⟩,q2,q3⟩:=HT.cellO i hlt;go_simp;obtain⟨cq,bq⟩:=HT.lo;have XS:=zh (XS.setCell_ne (p:=⟨g2,i,none⟩) (fun e=>ae XS.out bq.1 (by decide) e.symm) (.slice (some ⟨gb,0,none⟩) n n));have XR:=zh (XR.setCell_ne (p:=⟨g2,i,none⟩) (fun e=>ae XR.out bq.1 (by decide) e.symm) (.slice (some ⟨gb,0,none⟩) n n));have HC:=zh (HC.setCell_ne (p:=⟨g2,i,none⟩) (fun e=>ae HC.out bq.1 (by decide) e.symm) (.slice (some ⟨gb,0,none⟩) n n));have HT:=zh (HT.outt hlt HB.out ⟨(by first|exact HBF.1|(intro x hx;unfold upd;split;exact HAB.out;exact HBF.1 x (by omega))),HBF.2⟩);clear bq q1 q2 q3
        (try go_wp2_with fail)
        refine hK.out _ _ ?_ (fun aa=>?_)
        ·(try dsimp only);(with_reducible exact⟨HT.out.b.cell 0 rfl,HT.out.b.cell 1 rfl,HC.out.cell 3 rfl⟩)
        clear hK K;clear hHeld;have hHeld:=aa;clear aa
        (try simp only[zp])
        refine lTk 18 ?_ ?_ (fun aa=>?_);rotate_left 1
        ·(intro _ _ _ _ _;first|(go_simp;done)|(go_simp;with_reducible rfl))
        clear hHeld;have hHeld:=aa;clear aa
        (try simp only[zp])
        refine ay (rs:=[19]) (by kernel_rfl) (by simp) ?_;refine au.cons (i:=19) rfl (fun K hK=>?_) ?_
        ·have q1:=HT.lev.cell i (by unfold lvA;rw[fV];exact hlt);have q2:=HT.lev.free i;have q3:=HT.lev.lt;go_simp;have bq:=And.intro (show Blk _ gl 2 _ from HT.lev) True.intro;have XS:=zh (XS.setCell_ne (p:=⟨gl,i,none⟩) (fun e=>ae XS.out bq.1 (by decide) e.symm) (.int .i64 start));have XR:=zh (XR.setCell_ne (p:=⟨gl,i,none⟩) (fun e=>ae XR.out bq.1 (by decide) e.symm) (.int .i64 start));have HC:=zh (HC.setCell_ne (p:=⟨gl,i,none⟩) (fun e=>ae HC.out bq.1 (by decide) e.symm) (.int .i64 start));have HT:=zh (HT.set i start);clear bq q1 q2 q3
         (try go_wp2_with fail)
         refine hK.out _ _ ?_ (fun aa=>?_)
         ·(try dsimp only);(with_reducible exact⟨HT.out.b.cell 0 rfl,HT.out.b.cell 1 rfl,HC.out.cell 3 rfl⟩)
         clear hK K;clear hHeld;have hHeld:=aa;clear aa
         (try simp only[zp])
         refine fM (by kernel_rfl) ?_ _;unfold lvA at HT;rw[HLV.out]at HT;go_wp2_with fail
         exact⟨⟨i+1,by omega,by go_num,zh ⟨_,_,HT.out,XS.out,XR.out⟩⟩,by simp[intOf];omega⟩
        exact au.nil
       exact au.nil
      exact au.nil
     exact au.nil
    exact au.nil
   ·obtain rfl:m=i:=by omega
    have HJ:Hid (EgJ w n m gt g1 g2 m m gl gr gI gO [.slice A n cA,.slice B nB cB,.slice C nC cC,.slice D nD cD] (fun x=>bT (egX S cs x) n 0) (jQ m (egL S cs 0)) wr):=zh ((EgJ.mk HT.full (by have:=HT.lev;unfold lvA at this;rw[O8]at this;exact this) (fun x hx=>⟨(HT.al.1 x hx).1,(HT.al.2 x hx).1⟩) HT.ge.2.2 XS.out XR.out ⟨HG1.1,HGR.out⟩).rows (fun x _=>kT _ _));clear HT XS XR;go_wp2_with fail
    go_loopw [65] (fun iv wr=> ∃k:Nat,k<=n/\iv=.int .i64 k/\Hid (EgJ w n m gt g1 g2 m m gl gr gI gO [.slice A n cA,.slice B nB cB,.slice C nC cC,.slice D nD cD] (fun x=>bT (egX S cs x) n k) (jQ m (egL S cs k)) wr)) (fun iv _=>n-(intOf iv).toNat)
    case atStart=>exact⟨0,Nat.zero_le _,rfl,HJ⟩
    case round=>
     clear HJ;obtain⟨k,hk,rfl,HJ⟩:=hrel
     by_cases hlt:k<n
     ·have hki:(k:Int)<(n:Int):=by omega
      have kS:k<S.lim.length:=by rw[<-HN.out];exact hlt
      have s0:=HJ.s.cell 0 rfl;have sl:=HJ.s.lt;obtain⟨la,hla,lal,lx⟩:=(HS.below HJ.t.bel (Nat.le_refl _)).1 k kS;rw[hla]at s0;have la2:(la.add k).block<wr.heap.size:=by rw[block_add];exact lal
      rw[show S.lim.getD k 0=egV S cs k 0 from rfl]at lx;have HJ0:Hid (EgJ w n m gt g1 g2 m m gl gr gI gO [.slice A n cA,.slice B nB cB,.slice C nC cC,.slice D nD cD] (rwC S cs n k 0) (lvC S cs m k 0) wr):=zh (by rw[Lx];exact HJ.rows (fun x _=>LA S cs n k x));clear HJ;generalize hv0:egV S cs k 0=lf0 at lx;have HV0:=zh hv0;clear hv0 hla;go_wp2_with fail
      clear s0 sl lx la2 lal
      go_loopw [13,75] (fun lv iv wr=> ∃i:Nat,i<=m/\iv=.int .i64 i/\lv=.int .i64 (egV S cs k i)/\Hid (EgJ w n m gt g1 g2 m m gl gr gI gO [.slice A n cA,.slice B nB cB,.slice C nC cC,.slice D nD cD] (rwC S cs n k i) (lvC S cs m k i) wr)) (fun _ iv _=>m-(intOf iv).toNat)
      case atStart=>exact⟨0,Nat.zero_le _,rfl,by rw[HV0.out],HJ0⟩
      case round=>
       clear HJ0;obtain⟨i,hi,rfl,rfl,HJ⟩:=hrel
       by_cases hlt2:i<m
       ·have hii:(i:Int)<(m:Int):=by omega
        have il:i<cs.length:=by rw[<-HM.out];exact hlt2
        obtain⟨ad,hE2,abl,c0,c1,c2,c3,c4,TT,cT,c5,hcT,HTT⟩:=(HCS.below HJ.t.bel (Nat.le_refl _)) i il;subst hE2;have HTR:=zh HTT;clear HTT;have b1:=JJ HZ.out il k;have b2:=JL HZ.out kS i (by omega);have b3:=JK HZ.out il k;have b4:=iN (eG HZ.out il) k;have b5:=(aT.1 (eG HZ.out il)).1;have HXD:=zh (show egX S cs i k=if dB (cs.getD i default) k=true then 0 else max 0 (min (min (cs.getD i default).inn ((cs.getD i default).cap -egL S cs k i)) (egV S cs k i))from rfl);have HLN:=zh (BS S cs k i);have HVN:=zh (BR S cs k i);have HLG:=zh (OV S cs (k:=k) hlt2);have HLS:=zh (fun u v hv=>OY S cs (k:=k) hlt2 u v hv);have HRS:=zh (OZ S cs (n:=n) (k:=k) (i:=i) hlt);have HRK:=zh (LB S cs (n:=n) (k:=k) (i:=i) hlt);generalize hcc:cs.getD i default=c at *;clear hcc;obtain⟨cap,inn,out,start,fin,trips⟩:=c;simp only at c0 c1 c2 c3 c4 c5 hcT HTR b5 HXD;obtain⟨qn,hqn⟩: ∃qn,qn=trips.length:=⟨_,rfl⟩;rw[<-hqn]at c5 hcT;have HQN:=zh hqn;clear hqn;obtain⟨u,hu⟩: ∃u,u=dz ⟨cap,inn,out,start,fin,trips⟩ k:=⟨_,rfl⟩;obtain⟨aw,haw⟩: ∃aw,aw=dB ⟨cap,inn,out,start,fin,trips⟩ k:=⟨_,rfl⟩;have HTC:Hid (∀V,Below wr.heap.size wr V->Calls Try.prog 87 #[.agg #[.int .i64 cap,.int .i64 inn,.int .i64 out,.int .i64 start,.int .i64 fin,.slice TT qn cT],.int .i64 ((k:Nat):Int)] V fun e w'=>e=.returned (.tuple #[.int .i64 u,.bool aw])/\Below V.heap.size V w'):=zh (fun V hV=>by
         have:=uH (.int .i64 cap) (.int .i64 inn) (.int .i64 out) (.int .i64 start) (.int .i64 fin) k TT trips qn cT V HQN.out hcT (HTR.below hV (Nat.le_refl _));rw[hu,haw,show dz ⟨cap,inn,out,start,fin,trips⟩ k=iM trips k qn from by rw[HQN.out];rfl,show dB ⟨cap,inn,out,start,fin,trips⟩ k=fO trips k qn from by rw[HQN.out];rfl];exact this)
        rw[<-hu]at b4 HLN;rw[<-haw]at HXD;clear hu haw;generalize egL S cs (k+1) i=l2 at *;generalize egL S cs k i=l at *;generalize egX S cs i k=x at *;generalize egV S cs k i=lf at *;go_upto_region 19 with fail
        have al:=(Below.refl wr.heap.size wr).alloc (Nat.le_refl _) (.cells #[.int .i64 cap,.int .i64 inn,.int .i64 out,.int .i64 start,.int .i64 fin,.slice TT qn cT] 63);have HK:=zh (HJ.below al);have HC:=zh (Blk.new' wr #[.int .i64 cap,.int .i64 inn,.int .i64 out,.int .i64 start,.int .i64 fin,.slice TT qn cT] 63);have HWX:=zh al;clear c0 c1 c2 c3 c4 c5 abl al HJ;generalize wr.alloc (.cells #[.int .i64 cap,.int .i64 inn,.int .i64 out,.int .i64 start,.int .i64 fin,.slice TT qn cT] 63)=wx at HK HC HWX ⊢;obtain⟨gc,hgc⟩: ∃gc,gc=wr.heap.size:=⟨_,rfl⟩;rw[<-hgc]at HC ⊢;clear hgc;have e0:=HC.cell 0 rfl;have e1:=HC.cell 1 rfl;have e2:=HC.cell 2 rfl;have e3:=HC.cell 3 rfl;have e4:=HC.cell 4 rfl;have e5:=HC.cell 5 rfl;have el:=HC.lt;go_wp2_with fail
        refine(HTC.out wx HWX.out).mono ?_;rintro e w4 ⟨rfl,hb⟩;have HK4:=zh (HK.below hb);have HC4:=zh (HC.below hb HC.lt);clear hb HTC HK HC e0 e1 e2 e3 e4 e5 el HWX
        cases aw
        ·simp only[Bool.false_eq_true,if_false]at HXD
         have f0:=HC4.cell 0 rfl;have f1:=HC4.cell 1 rfl;have fl:=HC4.lt;have l0:=HK4.l.cell i (by first|(rw[lvC,iR];exact hlt2)|(rw[List.length_set,lvC,iR];exact hlt2));have lz:=HK4.l.free i;have ll:=HK4.l.lt;rw[HLG.out]at l0;have cle:IntKind.i64.wrap (cap-l)=cap-l:=IntWalk.i64_in _ (by omega);have hm1:=fun ts t W=>LD inn (cap-l) lf ts t W
         obtain⟨mn,hmn⟩: ∃mn,mn=min (min inn (cap-l)) lf:=⟨_,rfl⟩;rw[<-hmn]at HXD;simp only[<-hmn]at hm1;have hm2:=fun ts t W=>lY 0 mn ts t W
         simp only[<-HXD.out]at hm2;clear hmn;go_upto_region 21 with fail
         refine wrp ?_
         repeat(go_big_quiet_step (fail))
         refine wpQuiet_nil ?_;intro xx;have HK5:=zh (HK4.below xx.far);generalize xx.w=w5 at HK5 ⊢;clear f0 f1 fl l0 lz ll cle hm1 hm2 HK4 HC4;have t0:=HK5.t.b.cell 0 rfl;have tl:=HK5.t.b.lt;have g0:=HK5.t.i.cell i hlt2;have gz:=HK5.t.i.lt;have r0:=(HK5.t.i.f i hlt2).1.cell k (by rw[(HK5.t.i.f i hlt2).2];exact hlt);have rz:=(HK5.t.i.f i hlt2).1.free k;have rl:=(HK5.t.i.f i hlt2).1.lt;have HK6:=zh (HK5.setI i hlt2 k x);go_upto_region 23 with fail
         clear t0 tl g0 gz r0 rz rl HK5;generalize w5.setCell ⟨gI i,k,none⟩ (.int .i64 x)=w6 at HK6 ⊢;have HK7:Hid (EgJ w n m gt g1 g2 m m gl gr gI gO [.slice A n cA,.slice B nB cB,.slice C nC cC,.slice D nD cD] (rwC S cs n k (i+1)) (lvC S cs m k i) w6):=zh (HK6.rows (fun y _=>(HRS.out y).symm));clear HK6;have lfe:IntKind.i64.wrap (lf-x)=lf-x:=IntWalk.i64_in _ (by omega);have lxe:IntKind.i64.wrap (l+x)=l+x:=IntWalk.i64_in _ (by omega);have l0:=HK7.l.cell i (by first|(rw[lvC,iR];exact hlt2)|(rw[List.length_set,lvC,iR];exact hlt2));have lz:=HK7.l.free i;have ll:=HK7.l.lt;rw[HLG.out]at l0;have HK8:=zh (HK7.setL i (l+x));go_upto_region 25 with fail
         clear l0 lz ll HK7 lxe;generalize w6.setCell ⟨gl,i,none⟩ (.int .i64 (l+x))=w8 at HK8 ⊢;have l0:=HK8.l.cell i (by first|(rw[lvC,iR];exact hlt2)|(rw[List.length_set,lvC,iR];exact hlt2));have lz:=HK8.l.free i;have ll:=HK8.l.lt;rw[show((lvC S cs m k i).set i (l+x)).getD i 0=l+x from by rw[zg,List.getElem?_set_self (by rw[lvC,iR];exact hlt2)];rfl]at l0;have lue:IntKind.i64.wrap ((l+x)-u)=(l+x)-u:=IntWalk.i64_in _ (by omega);have HKf:=zh (HK8.setL i ((l+x)-u));go_upto_region 26 with fail
         clear l0 lz ll lue HK8;generalize w8.setCell ⟨gl,i,none⟩ (.int .i64 ((l+x)-u))=wf at HKf ⊢;rw[(HLS.out (l+x) ((l+x)-u) (by rw[HLN.out])).1]at HKf;go_wp2_with fail
         exact⟨⟨i+1,by omega,by go_num,by rw[HVN.out],HKf⟩,by simp[intOf];omega⟩
        ·simp only[if_true]at HXD
         have hx0:x=0:=HXD.out;subst hx0;clear HC4;have l0:=HK4.l.cell i (by first|(rw[lvC,iR];exact hlt2)|(rw[List.length_set,lvC,iR];exact hlt2));have lz:=HK4.l.free i;have ll:=HK4.l.lt;rw[HLG.out]at l0;have lue:IntKind.i64.wrap (l-u)=l-u:=IntWalk.i64_in _ (by omega);have HKf:=zh (HK4.setL i (l-u));go_upto_region 26 with fail
         clear l0 lz ll lue HK4;generalize w4.setCell ⟨gl,i,none⟩ (.int .i64 (l-u))=wf at HKf ⊢;rw[(HLS.out l (l-u) (by rw[HLN.out];omega)).2]at HKf;have HKg:Hid (EgJ w n m gt g1 g2 m m gl gr gI gO [.slice A n cA,.slice B nB cB,.slice C nC cC,.slice D nD cD] (rwC S cs n k (i+1)) (lvC S cs m k (i+1)) wf):=zh (HKf.rows (fun y _=>(HRK.out (by first|rfl|trivial) y).symm));clear HKf;have HVE:Hid (egV S cs k (i+1)=lf):=zh (by rw[HVN.out];omega);go_wp2_with fail
         exact⟨⟨i+1,by omega,by go_num,by rw[HVE.out],HKg⟩,by simp[intOf];omega⟩
       ·obtain rfl:m=i:=by omega
        have HE:Hid (EgJ w n m gt g1 g2 m m gl gr gI gO [.slice A n cA,.slice B nB cB,.slice C nC cC,.slice D nD cD] (fun x=>bT (egX S cs x) n (k+1)) (jQ m (egL S cs (k+1))) wr):=zh (by
         have h:=HJ.out;rw[OT]at h;exact h.rows (fun x hx=>(OU S cs hx).symm))
        clear HJ;go_wp2_with fail
        go_roundw
        case measure=>simp[intOf];omega
        case rel=>exact⟨k+1,by omega,by go_num,HE⟩
     ·obtain rfl:n=k:=by omega
      have HTB:Hid (∀V,EgJ w n m gt g1 g2 m m gl gr gI gO [.slice A n cA,.slice B nB cB,.slice C nC cC,.slice D nD cD] (fun x=>bT (egX S cs x) n n) (jQ m (egL S cs n)) V->eu V (some ⟨g1,0,none⟩) (some ⟨g2,0,none⟩) (egT S cs)):=zh (fun V h=>by
       have:=h.t.tab (by omega);unfold egT;rw[<-HN.out,<-HM.out];exact this)
      obtain⟨v2,hv2⟩: ∃v2,v2=plE S cs (egT S cs):=⟨_,rfl⟩;have HF:=zh (F32.out wr g1 g2 HJ.t.bel (HTB.out wr HJ.out));rw[<-hv2]at HF HP1 HP3;clear hv2 F32;have s0:=HJ.s.cell 0 rfl;have s1:=HJ.s.cell 1 rfl;have s2:=HJ.s.cell 2 rfl;have s3:=HJ.s.cell 3 rfl;have sl:=HJ.s.lt;have t0:=HJ.t.b.cell 0 rfl;have t1:=HJ.t.b.cell 1 rfl;have tl:=HJ.t.b.lt;go_wp2_with fail
      refine HF.mono ?_;rintro e w5 ⟨rfl,hb⟩;have HJ5:=zh (HJ.below hb);clear hb HF s0 s1 s2 s3 sl t0 t1 tl HJ;have HB5:=zh HJ5.t.bel;have XR5:=zh HJ5.r
      by_cases h2:v2=0
      rotate_left
      ·have hb2:(v2==0)=false:=by simpa using h2
       have EE:=zh (HP3.out (by first|rfl|trivial) h2);have r0:=XR5.cell 0 rfl;have r1:=XR5.cell 1 rfl;have rz:=XR5.free 0;have rz1:=XR5.free 1;have rl:=XR5.lt;have HF:=zh (And.intro ((XR5.setCell 0 (.slice none 0 0)).setCell 1 (.slice none 0 0)) (((HB5.setCell (p:=⟨gr,0,none⟩) HGR.out (.slice none 0 0)).setCell (p:=⟨gr,1,none⟩) HGR.out (.slice none 0 0))));go_wp2_with fail
       have q0:=HF.1.cell 0 rfl;have q1:=HF.1.cell 1 rfl;exact bodyPost_ret (v:=.tuple #[.agg #[.slice none 0 0,.slice none 0 0],.int .i64 18]) (by simp[results,Try.results43,go_sem,q0,q1]) rfl (EE.out _ HF.2)
      ·subst h2
       have EE:=zh (HP1.out (by first|rfl|trivial) (by first|rfl|trivial));have t0:=HJ5.t.b.cell 0 rfl;have t1:=HJ5.t.b.cell 1 rfl;have tl:=HJ5.t.b.lt;have r0:=XR5.cell 0 rfl;have r1:=XR5.cell 1 rfl;have rz:=XR5.free 0;have rz1:=XR5.free 1;have rl:=XR5.lt;have rg:=HJ5.rg.1;have HF2:=zh (And.intro ((XR5.setCell 0 (.slice (some ⟨g1,0,none⟩) m m)).setCell 1 (.slice (some ⟨g2,0,none⟩) m m)) (And.intro ((HB5.setCell (p:=⟨gr,0,none⟩) HGR.out (.slice (some ⟨g1,0,none⟩) m m)).setCell (p:=⟨gr,1,none⟩) HGR.out (.slice (some ⟨g2,0,none⟩) m m)) (show eu ((w5.setCell ⟨gr,0,none⟩ (.slice (some ⟨g1,0,none⟩) m m)).setCell ⟨gr,1,none⟩ (.slice (some ⟨g2,0,none⟩) m m)) (some ⟨g1,0,none⟩) (some ⟨g2,0,none⟩) (egT S cs)from by
        have h:=HJ5.out;obtain⟨ci,x1,x2⟩:=h.t.i.b;obtain⟨co,y1,y2⟩:=h.t.o.b;have e1:=(h.t.i.other (p:=⟨gr,0,none⟩) (fun e=>ae h.r x1 (by decide) e) (fun x hx e=>ae h.r (h.t.i.f x hx).1 (by decide) e) (.slice (some ⟨g1,0,none⟩) m m)).other (p:=⟨gr,1,none⟩) (fun e=>ae h.r x1 (by decide) e) (fun x hx e=>ae h.r (h.t.i.f x hx).1 (by decide) e) (.slice (some ⟨g2,0,none⟩) m m);have e2:=(h.t.o.other (p:=⟨gr,0,none⟩) (fun e=>ae h.r y1 (by decide) e) (fun x hx e=>ae h.r (h.t.o.f x hx).1 (by decide) e) (.slice (some ⟨g1,0,none⟩) m m)).other (p:=⟨gr,1,none⟩) (fun e=>ae h.r y1 (by decide) e) (fun x hx e=>ae h.r (h.t.o.f x hx).1 (by decide) e) (.slice (some ⟨g2,0,none⟩) m m);unfold egT;rw[<-HN.out,<-HM.out];exact⟨e1.rows (by omega),e2.rows (by omega)⟩)))
       clear HJ5 XR5 HB5;go_wp2_with fail
       have q0:=HF2.1.cell 0 rfl;have q1:=HF2.1.cell 1 rfl;exact bodyPost_ret (v:=.tuple #[.agg #[.slice (some ⟨g1,0,none⟩) m m,.slice (some ⟨g2,0,none⟩) m m],.int .i64 0]) (by simp[results,Try.results43,go_sem,q0,q1]) rfl (EE.out g1 g2 _ HF2.2.2 HF2.2.1)
theorem Cx {W:World} {D n cap:Nat} {A:Option Addr} {l:List Arc} (hA:W.ownsRow D 46 4 (.slice A n cap) n (flat bD l)) (hn:n=l.length):lX W A l/\n<=cap/\cap<=9223372036854775807:=by
 refine⟨fun i hi=>?_,?_⟩
 ·obtain⟨g,c,hv,hb,hlt⟩:=hA.form (by omega)
  cases hv
  have hc: ∀j,j<4->W.cell? ⟨g,i*4+j,none⟩=(bD (l.getD i default))[j]?:=fun j hj=>by
   rw[World.ownsRow.cellAt hA (i*4+j) (by omega)];exact fD (f:=bD) (s:=4) (fun _=>rfl) _ _ _ _ (bL _ _ _ hi) hj
  have had:(⟨g,0,none⟩:Addr).add (i*4)=⟨g,i*4,none⟩:=by unfold Addr.add;split<;>simp_all
  exact⟨⟨g,0,none⟩,rfl,hlt,by rw[had];exact hc 0 (by omega),by rw[had];exact hc 1 (by omega),by rw[had];exact hc 2 (by omega),by rw[had];exact hc 3 (by omega)⟩
 ·rcases hA.2 with ⟨h0,h1⟩|⟨g',c',cur,hv,_,_,hc1,hc2,_⟩
  ·cases h0
   simp
  ·cases hv
   unfold maxLen at hc2;omega
def egU (S:Site) (cs:List Car):Tab:=if egE S cs=0 then egT S cs else ⟨[],[]⟩
def EgU (S:Site) (cs:List Car) (w:World):Ending->World->Prop:=fun e w'=> ∃(A B:Option Addr) (c d:Nat),e=.returned (.tuple #[.agg #[.slice A (egU S cs).inn.length c,.slice B (egU S cs).out.length d],.int .i64 (egE S cs)])/\((egU S cs).inn.length<=c/\c<=9223372036854775807)/\((egU S cs).out.length<=d/\d<=9223372036854775807)/\eu w' A B (egU S cs)/\Below w.heap.size w w'
theorem EgP.u {S:Site} {cs:List Car} {w w':World} {e:Ending} (h:EgP S cs w e w'):EgU S cs w e w':=by
 rcases h with ⟨h0,A,B,c,d,rfl,h1,h2,h3,h4⟩|⟨h0,rfl,h3⟩
 ·have hN:egU S cs=egT S cs:=by unfold egU;rw[if_pos h0]
  have l1:(egT S cs).inn.length=cs.length:=by simp[egT]
  have l2:(egT S cs).out.length=cs.length:=by simp[egT]
  unfold EgU;rw[hN,h0,l1,l2];exact⟨A,B,c,d,rfl,h2,h3,h1,h4⟩
 ·have hN:egU S cs=⟨[],[]⟩:=by unfold egU;rw[if_neg h0]
  unfold EgU;rw[hN];exact⟨none,none,0,0,rfl,by simp,by simp,⟨fun i hi=>by simp at hi,fun i hi=>by simp at hi⟩,h3⟩
theorem el3 (d:Nat) (w:World) (a b:Int):(Op.equalIn (d+1) 3 (.int .i64 a) (.int .i64 b)).run Try.prog w=.ok (a==b) w:=run_equalIn_int w d 3 .i64 .i64 a b Try.underlying3
def cbE (S:Site) (cs:List Car) (T:Tab) (ps:List Int):Int:=if plE S cs T=0 then (if prE (az S cs) ps=0 then (if oM S cs T=prV (az S cs) ps then 0 else 19)else prE (az S cs) ps)else plE S cs T
def Ri (N:Net) (k l:Nat) (w:World):Ending->World->Prop:=fun e w'=> ∃(b gs:Nat) (A:Option Addr) (c:Nat) (v2 v3:Value),e=.returned (.pointer (some ⟨b,0,none⟩))/\Blk w' b 125 [.slice (some ⟨gs,0,none⟩) k k,.slice A l c,v2,v3]/\dm w' (some ⟨gs,0,none⟩) A N/\(l<=c/\c<=9223372036854775807)/\Below w.heap.size w w'
theorem R76.v {S:Site} {cs:List Car} {w w':World} {e:Ending} {N:Net} {k l:Nat} (hN:N=az S cs) (hk:k=N.sup.length) (hl:l=N.arcs.length) (h:R76 S cs w e w'):Ri N k l w e w':=by
 subst hk hl hN;obtain⟨b,rfl,hb⟩:=h;obtain⟨gs,A,c,v2,v3,h1,h2,h3⟩:=Lt.of_bld hb (Below.refl _ _);obtain⟨ha,hc⟩:=Cx h1.2.1 rfl;unfold Ri az;simp only[eF];exact⟨b,gs,A,c,v2,v3,rfl,h2,⟨h1.1.ints,ha⟩,hc,h3⟩
def NtV (N:Net) (k l:Nat) (w:World):Ending->World->Prop:=fun e w'=> ∃(gs:Nat) (A:Option Addr) (c:Nat),e=.returned (.agg #[.slice (some ⟨gs,0,none⟩) k k,.slice A l c])/\dm w' (some ⟨gs,0,none⟩) A N/\(l<=c/\c<=9223372036854775807)/\Below w.heap.size w w'
theorem R77.v {S:Site} {cs:List Car} {w w':World} {e:Ending} {N:Net} {k l:Nat} (hN:N=az S cs) (hk:k=N.sup.length) (hl:l=N.arcs.length) (h:R77 S cs w e w'):NtV N k l w e w':=by
 subst hk hl hN;obtain⟨gs,A,c,rfl,h1,h2,_,h3⟩:=h;obtain⟨ha,hc⟩:=Cx h2 rfl;unfold NtV az;simp only[eF];exact⟨gs,A,c,rfl,⟨h1.ints,ha⟩,hc,h3⟩
theorem Az (A B C D E P Q Y:Option Addr) (S:Site) (cs:List Car) (T:Tab) (ps:List Int) (n nB nC nD m p q y cA cB cC cD cE cP cQ cY:Nat) (w:World) (hn:n=S.lim.length) (hnB:nB=S.exp.length) (hnC:nC=S.buy.length) (hnD:nD=S.sell.length) (hm:m=cs.length) (hp:p=T.inn.length) (hq:q=T.out.length) (hy:y=ps.length)
 (hA:n<=cA/\cA<=9223372036854775807) (hB:nB<=cB/\cB<=9223372036854775807) (hC:nC<=cC/\cC<=9223372036854775807) (hD:nD<=cD/\cD<=9223372036854775807) (hE:m<=cE/\cE<=9223372036854775807) (hP:p<=cP/\cP<=9223372036854775807) (hQ:q<=cQ/\cQ<=9223372036854775807) (hY:y<=cY/\cY<=9223372036854775807)
 (hS:bH w A B C D S) (hcs:df w E cs) (hT:eu w P Q T) (hI:aH w Y ps):
 Calls Try.prog 46 #[.agg #[.slice A n cA,.slice B nB cB,.slice C nC cC,.slice D nD cD],.slice E m cE,.agg #[.slice P p cP,.slice Q q cQ],.slice Y y cY] w fun e w'=>e=.returned (.int .i64 (cbE S cs T ps))/\Below w.heap.size w w':=by
 obtain⟨z,hz⟩: ∃z,z=cbE S cs T ps:=⟨_,rfl⟩;obtain⟨N,hN⟩: ∃N,N=az S cs:=⟨_,rfl⟩;obtain⟨k,hk⟩: ∃k,k=N.sup.length:=⟨_,rfl⟩;obtain⟨l,hl⟩: ∃l,l=N.arcs.length:=⟨_,rfl⟩;obtain⟨x,hx⟩: ∃x,x=oM S cs T:=⟨_,rfl⟩;obtain⟨u,hu⟩: ∃u,u=plE S cs T:=⟨_,rfl⟩;obtain⟨pe,hpe⟩: ∃pe,pe=prE N ps:=⟨_,rfl⟩;obtain⟨pv,hpv⟩: ∃pv,pv=prV N ps:=⟨_,rfl⟩;have HKB:u=0->k<=833/\stE S cs=0/\nB=n/\nC=n/\nD=n:=fun h=>by
  have h0:=(lQ (hu.symm.trans h)).ok;have h1:=dM h0;have h2:=aj.1 (aW h0).2.1;refine⟨?_,h0,?_⟩
  ·rw[hk,hN];show(kU S cs).length<=833;rw[eF];exact h1.1
  ·omega
 have HZ:Hid (z=if u=0 then (if pe=0 then (if x=pv then 0 else 19)else pe)else u):=zh (by rw[hz,hu,hpe,hpv,hx,hN];rfl);have F41:Hid (∀V,Below w.heap.size w V->Calls Try.prog 41 #[.agg #[.slice A n cA,.slice B nB cB,.slice C nC cC,.slice D nD cD],.slice E m cE,.agg #[.slice P p cP,.slice Q q cQ]] V (fun e w'=>e=.returned (.int .i64 u)/\Below V.heap.size V w')):=zh (fun V hV=>by rw[hu];exact oV A B C D E P Q S cs T n nB nC nD m p q cA cB cC cD cE cP cQ V hn hnB hnC hnD hm hp hq hA hB hC hD hE hP hQ (hS.below hV (Nat.le_refl _)) (hcs.below hV (Nat.le_refl _)) (hT.below hV (Nat.le_refl _)));have F82:Hid (u=0-> ∀V,Below w.heap.size w V->Calls Try.prog 82 #[.agg #[.slice A n cA,.slice B nB cB,.slice C nC cC,.slice D nD cD],.agg #[.slice P p cP,.slice Q q cQ]] V (fun e w'=>e=.returned (.int .i64 x)/\Below V.heap.size V w')):=zh (fun h V hV=>by
  have h0:plE S cs T=0:=hu.symm.trans h;rw[hx,show oM S cs T=prc S T cs.length S.lim.length from if_pos h0];have HK:=lQ (hu.symm.trans h);have S0:=aW HK.ok;have SH:=aj.1 S0.2.1;have e1:p=m:=by rw[hp,hm,HK.li]
  have e2:q=m:=by rw[hq,hm,HK.lo]
  subst e1;subst e2;have e3:nC=nD:=by omega
  have e4:n=nD:=by omega
  subst e3;subst e4;rw[<-hm,<-hn];exact Lh A B C D P Q S T n nB n n q q cA cB cC cD cP cQ V hn (by omega) (by omega) hp hq (Nat.le_refl _) (by omega) (by omega) rfl rfl hP hQ (hS.below hV (Nat.le_refl _)) (hT.below hV (Nat.le_refl _)) (fun k hk=>⟨S0.2.2.1 k (by omega),by have:=HK.slot (k:=k) (by omega);rwa [<-hm]at this⟩))
 have F77:Hid (u=0-> ∀V,Below w.heap.size w V->Calls Try.prog 77 #[.agg #[.slice A n cA,.slice B nB cB,.slice C nC cC,.slice D nD cD],.slice E m cE] V (NtV N k l V)):=zh (fun h V hV=>by
  obtain⟨_,h0,rfl,rfl,rfl⟩:=HKB h;exact(Cv A B C D E S cs _ m cA cB cC cD cE V h0 hn hm hA hB hC hD hE (hS.below hV (Nat.le_refl _)) (hcs.below hV (Nat.le_refl _))).mono (fun _ _ h=>R77.v hN hk hl h))
 have F17:Hid (∀(G M:Option Addr) (c d:Nat) (V:World),Below w.heap.size w V->dm V G M N->(k<=c/\c<=9223372036854775807)->(l<=d/\d<=9223372036854775807)->Calls Try.prog 17 #[.agg #[.slice G k c,.slice M l d],.slice Y y cY] V (fun e w'=>e=.returned (.tuple #[.int .i64 pv,.int .i64 pe])/\Below V.heap.size V w')):=zh (fun G M c d V hV hN hc hd=>by rw[hpe,hpv];exact G9 G M Y N ps k l y c d cY V hk hl hy hc hd hY hN (hI.below hV (Nat.le_refl _)));have HKK:=zh (fun h=>(HKB h).1);rw[<-hz];clear HKB hz hn hnB hnC hnD hm hp hq hS hcs hT hI hN hx hu hpe hpv hk hl hy;have HB:=zh (((Below.refl w.heap.size w).alloc (Nat.le_refl _) (.cells #[.slice A n cA,.slice B nB cB,.slice C nC cC,.slice D nD cD] 51)).alloc (by simp) (.cells #[.slice P p cP,.slice Q q cQ] 55));have XS:=zh ((Blk.new' w #[.slice A n cA,.slice B nB cB,.slice C nC cC,.slice D nD cD] 51).alloc (.cells #[.slice P p cP,.slice Q q cQ] 55));have XT:=zh (show Blk ((w.alloc (.cells #[.slice A n cA,.slice B nB cB,.slice C nC cC,.slice D nD cD] 51)).alloc (.cells #[.slice P p cP,.slice Q q cQ] 55)) (w.heap.size+1) 55 [.slice P p cP,.slice Q q cQ]from by simpa using Blk.new' (w.alloc (.cells #[.slice A n cA,.slice B nB cB,.slice C nC cC,.slice D nD cD] 51)) #[.slice P p cP,.slice Q q cQ] 55);go_enter Try.func46,Try.ntmps46;go_upto_region 1 with fail
 generalize (w.alloc (.cells #[.slice A n cA,.slice B nB cB,.slice C nC cC,.slice D nD cD] 51)).alloc (.cells #[.slice P p cP,.slice Q q cQ] 55)=w1 at HB XS XT ⊢;have s0:=XS.cell 0 rfl;have s1:=XS.cell 1 rfl;have s2:=XS.cell 2 rfl;have s3:=XS.cell 3 rfl;have sl:=XS.lt;have t0:=XT.cell 0 rfl;have t1:=XT.cell 1 rfl;have tl:=XT.lt;go_wp2_with fail
 refine(F41.out w1 HB.out).mono ?_;rintro e w2 ⟨rfl,hb⟩;clear s0 s1 s2 s3 sl t0 t1 tl;have XS:=zh (XS.below hb XS.lt);have XT:=zh (XT.below hb XT.lt);have HB:=zh (HB.trans (hb.mono HB.size));clear hb;have s0:=XS.cell 0 rfl;have s1:=XS.cell 1 rfl;have s2:=XS.cell 2 rfl;have s3:=XS.cell 3 rfl;have sl:=XS.lt;have t0:=XT.cell 0 rfl;have t1:=XT.cell 1 rfl;have tl:=XT.lt
 by_cases h0:u=0
 rotate_left
 ·have hb0:(u==0)=false:=by simpa using h0
  have EE:z=u:=by rw[HZ.out,if_neg h0]
  clear h0;go_wp2_with fail
  refine(F41.out w2 HB.out).mono ?_;rintro e w3 ⟨rfl,hb⟩;have HE:=zh (HB.trans (hb.mono HB.size));clear s0 s1 s2 s3 sl t0 t1 tl hb;go_wp2_with fail
  go_ret;exact⟨ah EE.symm,HE.out⟩
 have LG:=zh (F77.out h0);have WQ:=zh (F82.out h0);have HKB:=zh (HKK.out h0);have HZ1:=zh (HZ.trans (if_pos h0));clear HZ F77 F82 HKK;subst h0;go_wp2_with fail
 refine(LG.out w2 HB.out).mono ?_;rintro e w3 ⟨gs,M,c,rfl,hNA,hc,hb⟩;clear s0 s1 s2 s3 sl t0 t1 tl;have XS:=zh (XS.below hb XS.lt);have XT:=zh (XT.below hb XT.lt);have HB:=zh (HB.trans (hb.mono HB.size));clear hb;have HC:=zh hc;have HNA:=zh hNA;clear hNA hc;go_wp2_with fail
 refine(F17.out _ _ _ _ w3 HB.out HNA.out ⟨Nat.le_refl _,by have:=HKB.out;omega⟩ HC.out).mono ?_;rintro e w4 ⟨rfl,hb⟩;have XS:=zh (XS.below hb XS.lt);have XT:=zh (XT.below hb XT.lt);have HB:=zh (HB.trans (hb.mono HB.size));clear hb;clear HNA;have s0:=XS.cell 0 rfl;have s1:=XS.cell 1 rfl;have s2:=XS.cell 2 rfl;have s3:=XS.cell 3 rfl;have sl:=XS.lt;have t0:=XT.cell 0 rfl;have t1:=XT.cell 1 rfl;have tl:=XT.lt
 by_cases h1:pe=0
 rotate_left
 ·have hb1:(pe==0)=false:=by simpa using h1
  have EE:z=pe:=by rw[HZ1.out,if_neg h1]
  clear h1;go_wp2_with fail
  go_ret;exact⟨ah EE.symm,HB.out⟩
 have HZ2:=zh (HZ1.trans (if_pos h1));clear HZ1;subst h1;go_wp2_with fail
 refine(WQ.out w4 HB.out).mono ?_;rintro e w5 ⟨rfl,hb⟩;clear s0 s1 s2 s3 sl t0 t1 tl;have XS:=zh (XS.below hb XS.lt);have XT:=zh (XT.below hb XT.lt);have HB:=zh (HB.trans (hb.mono HB.size));clear hb
 by_cases h2:x=pv
 ·have EE:z=0:=by rw[HZ2.out,if_pos h2]
  subst h2;go_wp2_with fail
  go_ret;exact⟨ah EE.symm,HB.out⟩
 have hb2:(pv==x)=false:=by simpa using fun h=>h2 h.symm
 have EE:z=19:=by rw[HZ2.out,if_neg h2]
 clear h2;go_wp2_with fail
 go_ret;exact⟨ah EE.symm,HB.out⟩
def cpL (S:Site) (most:Int) (k:Nat):List Int:=(List.range k).map fun i=>min (S.lim.getD i 0) most
theorem LH (S:Site) (most:Int) (k:Nat):cpL S most (k+1)=cpL S most k++[min (S.lim.getD k 0) most]:=by simp[cpL,List.range_succ]
theorem r9 (S:Site) (most:Int) (k:Nat):(cpL S most k).length=k:=by simp[cpL]
def cpS (S:Site) (most:Int):Site:={S with lim:=cpL S most S.lim.length}
theorem Cy (A B C D:Option Addr) (S:Site) (most:Int) (n nB nC nD cA cB cC cD:Nat) (w:World) (hn:n=S.lim.length) (h60:n<=1024)
 (hA:n<=cA/\cA<=9223372036854775807) (hS:aH w A S.lim):
 Calls Try.prog 53 #[.agg #[.slice A n cA,.slice B nB cB,.slice C nC cC,.slice D nD cD],.int .i64 most] w fun e w'=> ∃(G:Option Addr) (c:Nat),e=.returned (.agg #[.slice G n c,.slice B nB cB,.slice C nC cC,.slice D nD cD])/\(n<=c/\c<=9223372036854775807)/\w'.ownsRow w.heap.size 2 1 (.slice G n c) n ((cpL S most n).map (.int .i64))/\Below w.heap.size w w':=by
 have HN:=zh hn;have HS:=zh hS;clear hn hS;obtain⟨i2,h2i,h2z,h2s,h2b⟩:=info_parts pU;have HB:=zh (((Below.refl w.heap.size w).alloc (Nat.le_refl _) (.cells #[.slice A n cA,.slice B nB cB,.slice C nC cC,.slice D nD cD] 51)).alloc (by simp) (.cells #[.slice none 0 0,.slice none 0 0,.slice none 0 0,.slice none 0 0] 51));have XS:=zh ((Blk.new' w #[.slice A n cA,.slice B nB cB,.slice C nC cC,.slice D nD cD] 51).alloc (.cells #[.slice none 0 0,.slice none 0 0,.slice none 0 0,.slice none 0 0] 51));have XR:=zh (show Blk ((w.alloc (.cells #[.slice A n cA,.slice B nB cB,.slice C nC cC,.slice D nD cD] 51)).alloc (.cells #[.slice none 0 0,.slice none 0 0,.slice none 0 0,.slice none 0 0] 51)) (w.heap.size+1) 51 [.slice none 0 0,.slice none 0 0,.slice none 0 0,.slice none 0 0]from by simpa using Blk.new' (w.alloc (.cells #[.slice A n cA,.slice B nB cB,.slice C nC cC,.slice D nD cD] 51)) #[.slice none 0 0,.slice none 0 0,.slice none 0 0,.slice none 0 0] 51);go_enter Try.func53,Try.ntmps53;go_upto_region 1 with fail
 generalize (w.alloc (.cells #[.slice A n cA,.slice B nB cB,.slice C nC cC,.slice D nD cD] 51)).alloc (.cells #[.slice none 0 0,.slice none 0 0,.slice none 0 0,.slice none 0 0] 51)=w1 at HB XS XR ⊢;have HO:=zh (show w1.ownsRow w1.heap.size 2 1 (.slice none 0 0) 0 ((cpL S most 0).map (.int .i64))from World.ownsRow_nil _ _ _ _);go_upto_region 2 with fail
 go_wp2_with fail
 go_loopw [5,6] (fun sv iv wr=> ∃(k:Nat) (G:Option Addr) (c:Nat),k<=n/\iv=.int .i64 k/\sv=.slice G k c/\Hid (Below w1.heap.size w1 wr/\wr.ownsRow w1.heap.size 2 1 (.slice G k c) k ((cpL S most k).map (.int .i64)))) (fun _ iv _=>n-(intOf iv).toNat)
 case atStart=>exact⟨0,none,0,Nat.zero_le _,rfl,rfl,zh ⟨Below.refl _ _,HO.out⟩⟩
 case round=>
  clear HO;obtain⟨k,G,c,hk,rfl,rfl,HW⟩:=hrel;have HB2:=zh (HB.trans (HW.1.mono HB.size));have XS2:=zh (XS.below HW.1 XS.lt);have XR2:=zh (XR.below HW.1 XR.lt);have s0:=XS2.cell 0 rfl;have sl:=XS2.lt
  by_cases hlt:k<n
  ·have hki:(k:Int)<(n:Int):=by omega
   obtain⟨pa,hpa,pal,px⟩:=(HS.below HB2.out (Nat.le_refl _)) k (by rw[<-HN.out];exact hlt);rw[hpa]at s0;have HX:=zh (LH S most k);generalize S.lim.getD k 0=x at *;obtain⟨mv,hmv⟩: ∃mv,mv=min x most:=⟨_,rfl⟩;have gm:(if most<x then most else x)=mv:=by rw[nS,hmv]
   rw[<-hmv]at HX;clear hmv;have ab2:(pa.add k).block<wr.heap.size:=by rw[block_add];exact pal
   have hz1:=HW.1.size;have hb:=(Below.refl wr.heap.size wr).alloc (Nat.le_refl _) (.cells #[.int .i64 mv] 2);have HO:=zh (bF HW.2 hb);have HBA:=zh (HW.1.trans (hb.mono HW.1.size));have X:=zh (Blk.new' wr #[.int .i64 mv] 2);clear hb;go_wp2_with (at_builtin;refine ax (.tmp 14) (.tmp 22) 22 rfl rfl w1.heap.size 2 i2 (.int .i64 0) 1 8 Try.underlying22 h2i h2z h2s h2b rfl (by decide) G k c ((cpL S most k).map (.int .i64)) (by rfl) HO.out (some ⟨wr.heap.size,0,none⟩) 1 1 [.int .i64 mv] (by rfl) (by rfl) (.inr ⟨_,rfl,fun j u hj=>by rcases j with _|j<;>simp at hj;subst hj;exact X.cell 0 rfl⟩) (by simp[Value.oneCell']) (by unfold maxLen;omega) (by omega) (HBA.size) ?_;intro A3 c3 w4 hown hgrow hat;have HE:Hid (Below w1.heap.size w1 w4/\w4.ownsRow w1.heap.size 2 1 (.slice A3 (k+1) c3) (k+1) ((cpL S most (k+1)).map (.int .i64))):=zh ⟨HBA.grown hgrow HBA.size (fun j e=>(World.ownsRow.lt HO.out j e).1),by rw[HX.out,List.map_append];exact hown⟩;clear hown hgrow hat)
   exact⟨⟨k+1,by omega,by go_num,A3,c3,⟨rfl,rfl,rfl⟩,HE⟩,by simp[intOf];omega⟩
  ·obtain rfl:n=k:=by omega
   have s1:=XS2.cell 1 rfl;have s2:=XS2.cell 2 rfl;have s3:=XS2.cell 3 rfl;have sz:=XS2.free 0;have r0:=XR2.cell 0 rfl;have r1:=XR2.cell 1 rfl;have r2:=XR2.cell 2 rfl;have r3:=XR2.cell 3 rfl;have rz:=XR2.free 0;have rz1:=XR2.free 1;have rz2:=XR2.free 2;have rz3:=XR2.free 3;have rl:=XR2.lt;have hz1:=HB.size;have O0:=HW.2;have hc:n<=c/\c<=9223372036854775807:=by
    rcases O0.2 with ⟨h0,h1⟩|⟨g',c',cur,hv,_,_,hc1,hc2,_⟩
    ·cases h0
     exact⟨by omega,by omega⟩
    ·cases hv
     unfold maxLen at hc2;omega
   have O1:=bI (p:=⟨w.heap.size,0,none⟩) O0 (aF (g:=w.heap.size) XS2.out O0 (by decide)) (.slice G n c);have R0:=XR2.setCell_ne (p:=⟨w.heap.size,0,none⟩) (by simp) (.slice G n c);have O2:=bI (p:=⟨w.heap.size+1,0,none⟩) O1 (aF (g:=w.heap.size+1) R0 O1 (by decide)) (.slice G n c);have R1:=R0.setCell 0 (.slice G n c);have O3:=bI (p:=⟨w.heap.size+1,1,none⟩) O2 (aF (g:=w.heap.size+1) R1 O2 (by decide)) (.slice B nB cB);have R2:=R1.setCell 1 (.slice B nB cB);have O4:=bI (p:=⟨w.heap.size+1,2,none⟩) O3 (aF (g:=w.heap.size+1) R2 O3 (by decide)) (.slice C nC cC);have R3:=R2.setCell 2 (.slice C nC cC);have O5:=zh (pJ (bI (p:=⟨w.heap.size+1,3,none⟩) O4 (aF (g:=w.heap.size+1) R3 O4 (by decide)) (.slice D nD cD)) hz1);have R4:=zh (R3.setCell 3 (.slice D nD cD));have B5:=zh (((((HB2.setCell (p:=⟨w.heap.size,0,none⟩) (Nat.le_refl _) (.slice G n c)).setCell (p:=⟨w.heap.size+1,0,none⟩) (Nat.le_succ _) (.slice G n c)).setCell (p:=⟨w.heap.size+1,1,none⟩) (Nat.le_succ _) (.slice B nB cB)).setCell (p:=⟨w.heap.size+1,2,none⟩) (Nat.le_succ _) (.slice C nC cC)).setCell (p:=⟨w.heap.size+1,3,none⟩) (Nat.le_succ _) (.slice D nD cD));clear O0 O1 R0 O2 R1 O3 R2 O4 R3;go_wp2_with fail
   have q0:=R4.cell 0 rfl;have q1:=R4.cell 1 rfl;have q2:=R4.cell 2 rfl;have q3:=R4.cell 3 rfl;exact bodyPost_ret (v:=.agg #[.slice G n c,.slice B nB cB,.slice C nC cC,.slice D nD cD]) (by simp[results,Try.results53,go_sem,q0,q1,q2,q3]) rfl ⟨G,c,rfl,hc,O5.out,B5.out⟩
theorem kz (S:Site) (most:Int):(cpS S most).lim.length=S.lim.length:=by simp[cpS,r9]
theorem oZ {S:Site} {most:Int} {k i:Nat} (hi:i<k):(cpL S most k).getD i 0=min (S.lim.getD i 0) most:=by
 simp[cpL,zg,hi]
theorem mP {S:Site} {cs:List Car} {most:Int} (h:stE S cs=0) (h0:0<=most):stE (cpS S most) cs=0:=by
 obtain⟨a,b,c,d⟩:=aW h;have hl:=kz S most;refine Dr (by omega) (aj.2 ?_) ?_ ?_
 ·have:=aj.1 b
  rw[hl];exact this
 ·intro t ht
  rw[hl]at ht;have h1:=cu.1 (c t ht);refine cu.2 ?_
  show(0<=(cpL S most S.lim.length).getD t 0/\(cpL S most S.lim.length).getD t 0<=1048576)/\_
  rw[oZ ht];exact⟨by omega,h1.2⟩
 ·intro i hi
  rw[hl];exact d i hi
def pkG (T:Tab) (bU:Int) (k:Nat):Bool:=ji k (fun j=>decide (drP T j T.inn.length<=bU))
theorem Rj {T:Tab} {bU:Int} {n k:Nat} (hk:k<n) (h:bU<drP T k T.inn.length):pkG T bU n=false:=jZ k hk (by simpa using h)
theorem LJ {T:Tab} {bU:Int} {n:Nat} (h: ∀k,k<n->drP T k T.inn.length<=bU):pkG T bU n=true:=dD.2 fun j hj=>by simpa using h j hj
def pkE (S:Site) (cs:List Car) (bU:Int) (T:Tab) (c:List Int):Int:=
 if plE S cs T=0 then (if 0<=bU/\bU<=1048576 then (if pkG T bU S.lim.length=true then (if bU=0 then (if c.length=0 then 0 else 19)
  else (if lkE (az (cpS S (bU-1)) cs) c=0 then (if lkV (az (cpS S (bU-1)) cs) c=0 then 19 else 0)else lkE (az (cpS S (bU-1)) cs) c))else 17)else 3)else plE S cs T
theorem bH.capped {w:World} {A B C D G:Option Addr} {S:Site} {most:Int} {n c lo:Nat} (h:bH w A B C D S) (hn:n=S.lim.length) (hO:w.ownsRow lo 2 1 (.slice G n c) n ((cpL S most n).map (.int .i64))):bH w G B C D (cpS S most):=by
 refine⟨fun i hi=>?_,h.2.1,h.2.2.1,h.2.2.2⟩;have hl:i<n:=by have:(cpL S most S.lim.length).length=S.lim.length:=r9 _ _ _;have h2:i<(cpL S most S.lim.length).length:=hi;omega
 obtain⟨g,cap,hv,hb,hlt⟩:=hO.form (by omega)
 cases hv
 refine⟨⟨g,0,none⟩,rfl,hlt,?_⟩;rw[show(⟨g,0,none⟩:Addr).add i=⟨g,i,none⟩from(by unfold Addr.add;split<;>simp_all),World.ownsRow.cellAt hO i (by omega)];subst hn;have h2:i<(cpL S most S.lim.length).length:=hi
 show((cpL S most S.lim.length).map (Value.int .i64))[i]?=some (.int .i64 ((cpL S most S.lim.length).getD i 0))
 rw[List.getElem?_map,List.getElem?_eq_getElem h2,zg,List.getElem?_eq_getElem h2];rfl
end Go.Proofs.Ytmebpglkeedaoaa
namespace Go.Proofs.Ytmebpglkeedaoaa
namespace Dp
theorem LM {S:Site} {most:Int} (h: ∀t,t<S.lim.length->S.lim.getD t 0<=most):cpS S most=S:=by
 have e:cpL S most S.lim.length=S.lim:=by
  apply List.ext_getElem
  ·rw[r9]
  ·intro i h1 h2
   have:=h i h2;have e2:=oZ (S:=S) (most:=most) (k:=S.lim.length) h2;rw[zg,List.getElem?_eq_getElem h1]at e2;rw[zg,List.getElem?_eq_getElem h2]at e2 this;simp only[Option.getD_some]at e2 this;omega
 unfold cpS;rw[e]
theorem AA {S:Site} {cs:List Car} (h:stE S cs=0):cpS S 1048576=S:=LM fun t ht=>(cu.1 ((aW h).2.2.1 t ht)).1.2
theorem Qf (xs:List Int): ∀k t,t<k->xs.getD t 0<=mxP xs k
 |k+1,t,ht=>by
  unfold mxP
  by_cases e:t=k
  ·subst e;omega
  ·have:=Qf xs k t (by omega);omega
theorem Qg {xs:List Int} {a b:Int}: ∀k,(∀t,t<=k-1->a<=xs.getD t 0/\xs.getD t 0<=b)->a<=mxP xs k/\mxP xs k<=b
 |0,h=>h 0 (by omega)
 |k+1,h=>by
  have h1:=Qg (xs:=xs) k (fun t ht=>h t (by omega));have h2:=h k (by omega);unfold mxP;omega
theorem wu {S:Site} {cs:List Car} {T:Tab} {most:Int} (h:stE S cs=0) (hT:plE (cpS S most) cs T=0):plE S cs T=0/\ ∀k,k<S.lim.length->drP T k cs.length<=most:=by
 have hk:=lQ hT;have hl:=kz S most;have e: ∀k,k<S.lim.length->(cpS S most).lim.getD k 0=min (S.lim.getD k 0) most:=fun k hk=>oZ hk
 refine⟨mr h ?_ (fun k hk2=>mD (fun i hi=>hk.car k (by omega) i hi) ?_) (fun i hi k hk2=>?_),fun k hk2=>?_⟩
 ·rw[Bool.and_eq_true,bP,bP]
  have a:=hk.ri;have b:=hk.ro;rw[hl]at a b;exact⟨⟨hk.li,a⟩,⟨hk.lo,b⟩⟩
 ·have:=hk.dr k (by omega)
  rw[e k hk2]at this;exact⟨by omega,this.2⟩
 ·have:=hk.lv i hi k (by omega)
  rwa [hl]at this
 ·have:=hk.dr k (by omega)
  rw[e k hk2,hk.li]at this;omega
structure LQ (S:Site) (cs:List Car) (bU:Int) (T:Tab) (cut:List Int):Prop where
 bd:0<=bU/\bU<=1048576
 ok:plE (cpS S bU) cs T=0
 z:bU=0->cut=[]
 no:0<bU->(∀k,k<cut.length->cutAt (az (cpS S (bU-1)) cs).sup.length cut k=true)/\0<lkA (az (cpS S (bU-1)) cs) cut (az (cpS S (bU-1)) cs).arcs.length/\ ∀fl,ak (az (cpS S (bU-1)) cs) fl=false
theorem Eu {S:Site} {cs:List Car} {T:Tab} {x y:Int} (h:stE S cs=0) (h0:0<=x) (hxy:x<=y) (hT:plE (cpS S x) cs T=0):plE (cpS S y) cs T=0:=by
 have hk:=lQ hT;have hl:=kz S x;have hl2:=kz S y;have ex: ∀k,k<S.lim.length->(cpS S x).lim.getD k 0=min (S.lim.getD k 0) x:=fun k hk=>oZ hk
 have ey: ∀k,k<S.lim.length->(cpS S y).lim.getD k 0=min (S.lim.getD k 0) y:=fun k hk=>oZ hk
 refine mr (mP h (by omega)) ?_ (fun k hk2=>mD (fun i hi=>hk.car k (by omega) i hi) ?_) (fun i hi k hk2=>?_)
 ·rw[Bool.and_eq_true,bP,bP]
  have a:=hk.ri;have b:=hk.ro;rw[hl]at a b;rw[hl2];exact⟨⟨hk.li,a⟩,⟨hk.lo,b⟩⟩
 ·have:=hk.dr k (by omega)
  rw[ex k (by omega)]at this;rw[ey k (by omega)];exact⟨by omega,this.2⟩
 ·have:=hk.lv i hi k (by omega)
  rw[hl]at this;rw[hl2];exact this
theorem Pb {S:Site} {cs:List Car} {T:Tab} {p p2 fl:List Int} (h:stE S cs=0) (hB:KJ S cs T p) (hf:ak (az S cs) fl=true) (hc:aV (az S cs) fl (az S cs).arcs.length=prA (az S cs) p2 (az S cs).arcs.length):prc S T cs.length S.lim.length=aV (az S cs) fl (az S cs).arcs.length:=by
 have h1:=hB.le _ (jb h hf);have h2:=uU h hf;have h3:=lM (lQ hB.ok);have h4:=weak (ps:=p2) (jq h) h3.1;have h5:aV (az S cs) (flT S cs T) (az S cs).arcs.length=prc S T cs.length S.lim.length:=h3.2;have h6:prc S (tbF S cs fl) cs.length S.lim.length<=aV (az S cs) fl (az S cs).arcs.length:=h2;omega
def Ev (S:Site) (cs:List Car) (x:Int):Prop:=(0<=x/\x<=1048576)/\(∃fl,ak (az (cpS S x) cs) fl=true)/\(0<x-> ∀fl,ak (az (cpS S (x-1)) cs) fl=false)
theorem UA {S:Site} {cs:List Car} {x y:Int} (h:stE S cs=0) (hx:Ev S cs x) (hy:Ev S cs y):x=y:=by
 have key: ∀a b:Int,Ev S cs a->Ev S cs b-> ¬a<b:=fun a b ha hb hab=>by
  obtain⟨fl,hf⟩:=ha.2.1;have h1:=jb (mP h ha.1.1) hf;have h2:=Eu (y:=b-1) h ha.1.1 (by omega) h1;obtain⟨fl2,hf2⟩:=ng h2;rw[hb.2.2 (by have:=ha.1.1;omega) fl2]at hf2
  cases hf2
 have h1:=key x y hx hy;have h2:=key y x hy hx;omega
theorem LQ.hi {S:Site} {cs:List Car} {pk:Int} {T:Tab} {cut:List Int} (h:LQ S cs pk T cut):Ev S cs pk:=⟨h.bd,ng h.ok,fun h0=>(h.no h0).2.2⟩
end Dp
end Go.Proofs.Ytmebpglkeedaoaa
namespace Go.Proofs.Ytmebpglkeedaoaa
open Go.RowKit Dp
def LU (S:Site) (cs:List Car) (e:Ending):Prop:=
 (stE S cs≠0/\e=.returned (.tuple #[.int .i64 0,.int .i64 (stE S cs)]))∨
 (stE S cs=0/\e=.returned (.tuple #[.int .i64 0,.int .i64 18])/\ ∀fl,ak (az S cs) fl=false)∨
 (stE S cs=0/\ ∃fl p,e=.returned (.tuple #[.int .i64 (aV (az S cs) fl (az S cs).arcs.length),.int .i64 0])/\ak (az S cs) fl=true/\aV (az S cs) fl (az S cs).arcs.length=prA (az S cs) p (az S cs).arcs.length)
def LW (S:Site) (cs:List Car) (e:Ending):Prop:=
 (stE S cs≠0/\e=.returned (.tuple #[.int .i64 0,.int .i64 (stE S cs)]))∨
 (stE S cs=0/\e=.returned (.tuple #[.int .i64 0,.int .i64 18])/\ ∀fl,ak (az S cs) fl=false)∨
 (stE S cs=0/\(∃fl,ak (az S cs) fl=true)/\ ∃x,e=.returned (.tuple #[.int .i64 x,.int .i64 0])/\Ev S cs x)
theorem Pd (A B C D E:Option Addr) (S:Site) (cs:List Car) (n nB nC nD m cA cB cC cD cE:Nat) (w:World) (hn:n=S.lim.length) (hnB:nB=S.exp.length) (hnC:nC=S.buy.length) (hnD:nD=S.sell.length) (hm:m=cs.length)
 (hA:n<=cA/\cA<=9223372036854775807) (hB:nB<=cB/\cB<=9223372036854775807) (hC:nC<=cC/\cC<=9223372036854775807) (hD:nD<=cD/\cD<=9223372036854775807) (hE:m<=cE/\cE<=9223372036854775807)
 (hS:bH w A B C D S) (hcs:df w E cs):
 Calls Try.prog 54 #[.agg #[.slice A n cA,.slice B nB cB,.slice C nC cC,.slice D nD cD],.slice E m cE] w fun e w'=>LU S cs e/\Below w.heap.size w w':=by
 obtain⟨u,hu⟩: ∃u,u=stE S cs:=⟨_,rfl⟩;obtain⟨N,hN⟩: ∃N,N=az S cs:=⟨_,rfl⟩;obtain⟨k,hk⟩: ∃k,k=N.sup.length:=⟨_,rfl⟩;obtain⟨l,hl⟩: ∃l,l=N.arcs.length:=⟨_,rfl⟩;have HKB:u=0->stE S cs=0/\nB=n/\nC=n/\nD=n/\(1<=n/\n<=48):=fun h=>by
  have h0:=hu.symm.trans h;have h2:=aj.1 (aW h0).2.1;exact⟨h0,by omega,by omega,by omega,by omega,by omega⟩
 have HCH:Hid (u=0->chE N=0):=zh (fun h=>by rw[hN];exact jq (hu.symm.trans h));have F31:Hid (∀V,Below w.heap.size w V->Calls Try.prog 31 #[.agg #[.slice A n cA,.slice B nB cB,.slice C nC cC,.slice D nD cD],.slice E m cE] V (fun e w'=>e=.returned (.int .i64 u)/\Below V.heap.size V w')):=zh (fun V hV=>by rw[hu];exact jC A B C D E S cs n nB nC nD m cA cB cC cD cE V hn hnB hnC hnD hm hA hB hC hD hE (hS.below hV (Nat.le_refl _)) (hcs.below hV (Nat.le_refl _)));have F77:Hid (u=0-> ∀V,Below w.heap.size w V->Calls Try.prog 77 #[.agg #[.slice A n cA,.slice B nB cB,.slice C nC cC,.slice D nD cD],.slice E m cE] V (NtV N k l V)):=zh (fun h V hV=>by
  obtain⟨h0,rfl,rfl,rfl,_⟩:=HKB h;exact(Cv A B C D E S cs _ m cA cB cC cD cE V h0 hn hm hA hB hC hD hE (hS.below hV (Nat.le_refl _)) (hcs.below hV (Nat.le_refl _))).mono (fun _ _ h=>R77.v hN hk hl h))
 have HU:=zh hu;have HN:=zh hN;have HK:=zh hk;have HL:=zh hl;clear HKB hu hN hk hl hn hnB hnC hnD hm hS hcs;have HB:=zh ((Below.refl w.heap.size w).alloc (Nat.le_refl _) (.cells #[.slice A n cA,.slice B nB cB,.slice C nC cC,.slice D nD cD] 51));have XS:=zh (Blk.new' w #[.slice A n cA,.slice B nB cB,.slice C nC cC,.slice D nD cD] 51);go_enter Try.func54,Try.ntmps54;go_upto_region 1 with fail
 generalize w.alloc (.cells #[.slice A n cA,.slice B nB cB,.slice C nC cC,.slice D nD cD] 51)=w1 at HB XS ⊢;have s0:=XS.cell 0 rfl;have s1:=XS.cell 1 rfl;have s2:=XS.cell 2 rfl;have s3:=XS.cell 3 rfl;have sz:=XS.lt;go_wp2_with fail
 refine(F31.out w1 HB.out).mono ?_;rintro e w2 ⟨rfl,hb⟩;clear s0 s1 s2 s3 sz;have XS:=zh (XS.below hb XS.lt);have HB:=zh (HB.trans (hb.mono HB.size));clear hb
 by_cases h0:u=0
 rotate_left
 ·have hb0:(u != 0)=true:=by simpa using h0
  have HNE:Hid (stE S cs≠0):=zh (by rw[<-HU.out];exact h0);clear h0;have s0:=XS.cell 0 rfl;have s1:=XS.cell 1 rfl;have s2:=XS.cell 2 rfl;have s3:=XS.cell 3 rfl;have sz:=XS.lt;go_wp2_with fail
  refine(F31.out w2 HB.out).mono ?_;rintro e w3 ⟨rfl,hb⟩;clear s0 s1 s2 s3 sz;have XS:=zh (XS.below hb XS.lt);have HB:=zh (HB.trans (hb.mono HB.size));clear hb;go_wp2_with fail
  exact bodyPost_ret (v:=.tuple #[.int .i64 0,.int .i64 u]) (by simp[results,Try.results54,go_sem]) rfl ⟨.inl ⟨HNE.out,by rw[HU.out]⟩,HB.out⟩
 have HST:Hid (stE S cs=0):=zh (by rw[<-HU.out];exact h0);have LG:=zh (F77.out h0);have Ew:=zh (HCH.out h0);clear F77 HCH HU F31;subst h0;have hkl:1<=k/\k<=1024/\l<=2048:=by have h:=bV Ew.out;rw[<-HK.out,<-HL.out]at h;exact h
 have s0:=XS.cell 0 rfl;have s1:=XS.cell 1 rfl;have s2:=XS.cell 2 rfl;have s3:=XS.cell 3 rfl;have sz:=XS.lt;go_wp2_with fail
 refine(LG.out w2 HB.out).mono ?_;rintro e w3 ⟨gs,G,c,rfl,hNt,hc,hb⟩;clear s0 s1 s2 s3 sz;have XS:=zh (XS.below hb XS.lt);have HB:=zh (HB.trans (hb.mono HB.size));clear hb;have XN:=zh (Blk.new' w3 #[.slice (some ⟨gs,0,none⟩) k k,.slice G l c] 25);have hb4:=(Below.refl w3.heap.size w3).alloc (Nat.le_refl _) (.cells #[.slice (some ⟨gs,0,none⟩) k k,.slice G l c] 25);have XS:=zh (XS.below hb4 XS.lt);have HB:=zh (HB.trans (hb4.mono HB.size));have HNT:=zh (hNt.below hb4 (Nat.le_refl _));clear hb4 hNt;go_upto_region 4 with fail
 generalize w3.alloc (.cells #[.slice (some ⟨gs,0,none⟩) k k,.slice G l c] 25)=w4 at XN XS HB HNT ⊢;generalize w3.heap.size=gn at *;have LC:Hid (Calls Try.prog 27 #[.agg #[.slice (some ⟨gs,0,none⟩) k k,.slice G l c]] w4 fun e w'=>Fz N k l w4 e w'/\Below w4.heap.size w4 w'):=zh (Km (some ⟨gs,0,none⟩) G N k l k c w4 HK.out HL.out ⟨Nat.le_refl _,by omega⟩ hc HNT.out);have q0:=XN.cell 0 rfl;have q1:=XN.cell 1 rfl;have ql:=XN.lt;go_wp2_with fail
 refine LC.mono ?_;rintro e w5 ⟨hL,hb⟩;have XN:=zh (XN.below hb XN.lt);have HB:=zh (HB.trans (hb.mono HB.size));have HNT:=zh (HNT.below hb (Nat.le_refl _));clear hb q0 q1 ql LC XS
 rcases hL with ⟨hx,_⟩|⟨_,rfl,hno⟩|⟨_,gF,gP,fl,pp,rfl,hF,hfl,hco⟩
 ·exact absurd Ew.out hx
 ·have HNO:=zh hno
  clear hno;go_wp2_with fail
  exact bodyPost_ret (v:=.tuple #[.int .i64 0,.int .i64 18]) (by simp[results,Try.results54,go_sem]) rfl ⟨.inr (.inl ⟨HST.out,rfl,by rw[<-HN.out];exact HNO.out⟩),HB.out⟩
 ·have hlf:l=fl.length:=by rw[HL.out];by_cases e:fl.length=N.arcs.length;exact e.symm;rw[CQ e]at hfl;cases hfl
  have FC:Hid (Calls Try.prog 59 #[.agg #[.slice (some ⟨gs,0,none⟩) k k,.slice G l c],.slice (some ⟨gF,0,none⟩) l l] w5 fun e w'=>e=.returned (.int .i64 (aV N fl l))/\Below w5.heap.size w5 w'):=zh (MR (some ⟨gs,0,none⟩) G (some ⟨gF,0,none⟩) N fl k l l k c l w5 HL.out hlf rfl Ew.out hc ⟨Nat.le_refl _,by omega⟩ HNT.out hF.ints (fun x hx=>(iE Ew.out hfl).2 x (by rw[<-HL.out];exact hx)));obtain⟨K,hK⟩: ∃K,K=aV N fl l:=⟨_,rfl⟩;rw[<-hK]at FC;have HE:Hid (∃fl p,(.returned (.tuple #[.int .i64 K,.int .i64 0]):Ending)=.returned (.tuple #[.int .i64 (aV (az S cs) fl (az S cs).arcs.length),.int .i64 0])/\ak (az S cs) fl=true/\aV (az S cs) fl (az S cs).arcs.length=prA (az S cs) p (az S cs).arcs.length):=zh (by rw[<-HN.out];exact⟨fl,pp,by rw[hK,HL.out],hfl,hco⟩);clear hlf hF hfl hco hK;have q0:=XN.cell 0 rfl;have q1:=XN.cell 1 rfl;have ql:=XN.lt;go_wp2_with fail
  refine FC.mono ?_;rintro e w6 ⟨rfl,hb⟩;have HB:=zh (HB.trans (hb.mono HB.size));clear hb q0 q1 ql FC;go_wp2_with fail
  exact bodyPost_ret (v:=.tuple #[.int .i64 K,.int .i64 0]) (by simp[results,Try.results54,go_sem]) rfl ⟨.inr (.inr ⟨HST.out,HE.out⟩),HB.out⟩
theorem Pe (A B C D E:Option Addr) (S:Site) (cs:List Car) (n nB nC nD m cA cB cC cD cE:Nat) (w:World) (hn:n=S.lim.length) (hnB:nB=S.exp.length) (hnC:nC=S.buy.length) (hnD:nD=S.sell.length) (hm:m=cs.length)
 (hA:n<=cA/\cA<=9223372036854775807) (hB:nB<=cB/\cB<=9223372036854775807) (hC:nC<=cC/\cC<=9223372036854775807) (hD:nD<=cD/\cD<=9223372036854775807) (hE:m<=cE/\cE<=9223372036854775807)
 (hS:bH w A B C D S) (hcs:df w E cs):
 Calls Try.prog 55 #[.agg #[.slice A n cA,.slice B nB cB,.slice C nC cC,.slice D nD cD],.slice E m cE] w fun e w'=>LW S cs e/\Below w.heap.size w w':=by
 obtain⟨u,hu⟩: ∃u,u=stE S cs:=⟨_,rfl⟩;obtain⟨N,hN⟩: ∃N,N=az S cs:=⟨_,rfl⟩;obtain⟨k,hk⟩: ∃k,k=N.sup.length:=⟨_,rfl⟩;obtain⟨l,hl⟩: ∃l,l=N.arcs.length:=⟨_,rfl⟩;have HKB:u=0->stE S cs=0/\nB=n/\nC=n/\nD=n/\(1<=n/\n<=48):=fun h=>by
  have h0:=hu.symm.trans h;have h2:=aj.1 (aW h0).2.1;exact⟨h0,by omega,by omega,by omega,by omega,by omega⟩
 have HCH:Hid (u=0->chE N=0):=zh (fun h=>by rw[hN];exact jq (hu.symm.trans h));have F31:Hid (∀V,Below w.heap.size w V->Calls Try.prog 31 #[.agg #[.slice A n cA,.slice B nB cB,.slice C nC cC,.slice D nD cD],.slice E m cE] V (fun e w'=>e=.returned (.int .i64 u)/\Below V.heap.size V w')):=zh (fun V hV=>by rw[hu];exact jC A B C D E S cs n nB nC nD m cA cB cC cD cE V hn hnB hnC hnD hm hA hB hC hD hE (hS.below hV (Nat.le_refl _)) (hcs.below hV (Nat.le_refl _)));have F77:Hid (u=0-> ∀V,Below w.heap.size w V->Calls Try.prog 77 #[.agg #[.slice A n cA,.slice B nB cB,.slice C nC cC,.slice D nD cD],.slice E m cE] V (NtV N k l V)):=zh (fun h V hV=>by
  obtain⟨h0,rfl,rfl,rfl,_⟩:=HKB h;exact(Cv A B C D E S cs _ m cA cB cC cD cE V h0 hn hm hA hB hC hD hE (hS.below hV (Nat.le_refl _)) (hcs.below hV (Nat.le_refl _))).mono (fun _ _ h=>R77.v hN hk hl h))
 have FH:Hid (∀(M:Net) (a b:Nat) (G H:Option Addr) (c d:Nat) V,chE M=0->a=M.sup.length->b=M.arcs.length->dm V G H M->(a<=c/\c<=9223372036854775807)->(b<=d/\d<=9223372036854775807)->Calls Try.prog 93 #[.agg #[.slice G a c,.slice H b d]] V (fun e w'=>Uo M e/\Below V.heap.size V w')):=zh (fun M a b G H c d V h1 h2 h3 h4 h5 h6=>Uq G H M a b c d V h2 h3 h1 h5 h6 h4);have F53:Hid (u=0-> ∀(most:Int) V,Below w.heap.size w V->Calls Try.prog 53 #[.agg #[.slice A n cA,.slice B nB cB,.slice C nC cC,.slice D nD cD],.int .i64 most] V (fun e w'=> ∃(G:Option Addr) (c:Nat),e=.returned (.agg #[.slice G n c,.slice B nB cB,.slice C nC cC,.slice D nD cD])/\(n<=c/\c<=9223372036854775807)/\bH w' G B C D (cpS S most)/\Below V.heap.size V w')):=zh (fun h most V hV=>by
  obtain⟨_,_,_,_,h48⟩:=HKB h;refine(Cy A B C D S most n nB nC nD cA cB cC cD V hn (by omega) hA (hS.below hV (Nat.le_refl _)).1).mono ?_;rintro e w' ⟨G,c,rfl,hc,hO,hb⟩;exact⟨G,c,rfl,hc,((hS.below hV (Nat.le_refl _)).below hb (Nat.le_refl _)).capped hn hO,hb⟩)
 have UB:Hid (u=0-> ∀(most:Int),0<=most-> ∃(a b:Nat),(a=(az (cpS S most) cs).sup.length/\b=(az (cpS S most) cs).arcs.length/\chE (az (cpS S most) cs)=0)/\ ∀(G:Option Addr) (c:Nat) V,Below w.heap.size w V->(n<=c/\c<=9223372036854775807)->bH V G B C D (cpS S most)->Calls Try.prog 77 #[.agg #[.slice G n c,.slice B nB cB,.slice C nC cC,.slice D nD cD],.slice E m cE] V (NtV (az (cpS S most) cs) a b V)):=zh (fun h most h0=>by
  obtain⟨hst,rfl,rfl,rfl,_⟩:=HKB h;have hok:=mP (most:=most) hst h0;exact⟨_,_,⟨rfl,rfl,jq hok⟩,fun G c V hV hc hSV=>(Cv G B C D E (cpS S most) cs _ m c cB cC cD cE V hok (by rw[kz];exact hn) hm hc hB hC hD hE hSV (hcs.below hV (Nat.le_refl _))).mono (fun _ _ h=>R77.v rfl rfl rfl h)⟩)
 have HMX:Hid (u=0->cpS S 1048576=S):=zh (fun h=>AA (cs:=cs) (hu.symm.trans h));have HU:=zh hu;have HN:=zh hN;have HK:=zh hk;have HL:=zh hl;clear HKB hu hN hk hl hn hnB hnC hnD hm hS hcs;have HB:=zh ((Below.refl w.heap.size w).alloc (Nat.le_refl _) (.cells #[.slice A n cA,.slice B nB cB,.slice C nC cC,.slice D nD cD] 51));have XS:=zh (Blk.new' w #[.slice A n cA,.slice B nB cB,.slice C nC cC,.slice D nD cD] 51);go_enter Try.func55,Try.ntmps55;go_upto_region 1 with fail
 generalize w.alloc (.cells #[.slice A n cA,.slice B nB cB,.slice C nC cC,.slice D nD cD] 51)=w1 at HB XS ⊢;have s0:=XS.cell 0 rfl;have s1:=XS.cell 1 rfl;have s2:=XS.cell 2 rfl;have s3:=XS.cell 3 rfl;have sz:=XS.lt;go_wp2_with fail
 refine(F31.out w1 HB.out).mono ?_;rintro e w2 ⟨rfl,hb⟩;clear s0 s1 s2 s3 sz;have XS:=zh (XS.below hb XS.lt);have HB:=zh (HB.trans (hb.mono HB.size));clear hb
 by_cases h0:u=0
 rotate_left
 ·have hb0:(u != 0)=true:=by simpa using h0
  have HNE:Hid (stE S cs≠0):=zh (by rw[<-HU.out];exact h0);clear h0;have s0:=XS.cell 0 rfl;have s1:=XS.cell 1 rfl;have s2:=XS.cell 2 rfl;have s3:=XS.cell 3 rfl;have sz:=XS.lt;go_wp2_with fail
  refine(F31.out w2 HB.out).mono ?_;rintro e w3 ⟨rfl,hb⟩;clear s0 s1 s2 s3 sz;have XS:=zh (XS.below hb XS.lt);have HB:=zh (HB.trans (hb.mono HB.size));clear hb;go_wp2_with fail
  exact bodyPost_ret (v:=.tuple #[.int .i64 0,.int .i64 u]) (by simp[results,Try.results55,go_sem]) rfl ⟨.inl ⟨HNE.out,by rw[HU.out]⟩,HB.out⟩
 have HST:Hid (stE S cs=0):=zh (by rw[<-HU.out];exact h0);have LG:=zh (F77.out h0);have Ew:=zh (HCH.out h0);have WR:=zh (F53.out h0);have WS:=zh (UB.out h0);have WT:=zh (HMX.out h0);clear F77 HCH HU F31 F53 UB HMX;subst h0;have s0:=XS.cell 0 rfl;have s1:=XS.cell 1 rfl;have s2:=XS.cell 2 rfl;have s3:=XS.cell 3 rfl;have sz:=XS.lt;go_wp2_with fail
 refine(LG.out w2 HB.out).mono ?_;rintro e w3 ⟨gs,G,c,rfl,hNt,hc,hb⟩;clear s0 s1 s2 s3 sz;have XS:=zh (XS.below hb XS.lt);have HB:=zh (HB.trans (hb.mono HB.size));clear hb;have hkl:k<=k/\k<=9223372036854775807:=by have h:=bV Ew.out;rw[<-HK.out]at h;omega
 have FHN:=zh (FH.out N k l (some ⟨gs,0,none⟩) G k c w3 Ew.out HK.out HL.out hNt hkl hc);clear hNt;go_wp2_with fail
 refine FHN.mono ?_;rintro e w4 ⟨hv,hb⟩;have XS:=zh (XS.below hb XS.lt);have HB:=zh (HB.trans (hb.mono HB.size));clear hb FHN
 rcases hv with ⟨rfl,Ex⟩|⟨rfl,hno⟩
 rotate_left
 ·have HNO:=zh hno
  clear hno;go_wp2_with fail
  exact bodyPost_ret (v:=.tuple #[.int .i64 0,.int .i64 18]) (by simp[results,Try.results55,go_sem]) rfl ⟨.inr (.inl ⟨HST.out,rfl,by rw[<-HN.out];exact HNO.out⟩),HB.out⟩
 rw[HN.out]at Ex;have HYE:=zh Ex;have Q6:Hid (∃fl,ak N fl=true):=zh (by rw[HN.out];exact Ex);clear Ex;go_upto_region 6 with fail
 go_loopw [6,7,8] (fun lv hv mv wr=> ∃lo hi:Int,lv=.int .i64 lo/\hv=.int .i64 hi/\(-1<=lo/\lo<hi/\hi<=1048576)/\Hid ((∃fl,ak (az (cpS S hi) cs) fl=true)/\(0<=lo-> ∀fl,ak (az (cpS S lo) cs) fl=false)/\Blk wr w.heap.size 51 [.slice A n cA,.slice B nB cB,.slice C nC cC,.slice D nD cD]/\Below w.heap.size w wr)) (fun lv hv _ _=>(intOf hv-intOf lv).toNat)
 case atStart=>exact⟨-1,1048576,rfl,rfl,by omega,zh ⟨by rw[WT.out];exact HYE.out,fun h=>by omega,XS.out,HB.out⟩⟩
 case round=>
  clear XS HB;obtain⟨lo,hi,rfl,rfl,hlh,HJ⟩:=hrel;have XS:=zh HJ.2.2.1;have HB:=zh HJ.2.2.2;have HLO:=zh HJ.2.1;have HHI:=zh HJ.1;clear HJ
  by_cases hgo:1<hi-lo
  ·obtain⟨mid,hmid⟩: ∃x,x=(lo+hi)/2:=⟨_,rfl⟩
   have hm1:lo<mid/\mid<hi/\0<=mid:=by omega
   have htd:(lo+hi).tdiv 2=mid:=by rw[hmid,Int.tdiv_eq_ediv_of_nonneg (by omega)]
   clear hmid;obtain⟨a,b,⟨ha,hb2,hch⟩,UC⟩:=WS.out mid hm1.2.2;have HHA:=zh (And.intro ha (And.intro hb2 hch));have F7:=zh UC;clear ha hb2 hch UC;have s0:=XS.cell 0 rfl;have s1:=XS.cell 1 rfl;have s2:=XS.cell 2 rfl;have s3:=XS.cell 3 rfl;have sz:=XS.lt;go_wp2_with fail
   refine(WR.out mid wr HB.out).mono ?_;rintro e w5 ⟨G2,c2,rfl,hc2,hSA,hb⟩;clear s0 s1 s2 s3 sz;have XS:=zh (XS.below hb XS.lt);have HB:=zh (HB.trans (hb.mono HB.size));clear hb;have F7b:=zh (F7.out G2 c2 w5 HB.out hc2 hSA);clear hSA;go_wp2_with fail
   refine F7b.mono ?_;rintro e w6 ⟨gs2,G3,c3,rfl,hNt,hc3,hb⟩;have XS:=zh (XS.below hb XS.lt);have HB:=zh (HB.trans (hb.mono HB.size));clear hb F7b F7;have hab:a<=a/\a<=9223372036854775807:=by have h:=bV HHA.2.2;rw[<-HHA.1]at h;omega
   have FHN:=zh (FH.out (az (cpS S mid) cs) a b (some ⟨gs2,0,none⟩) G3 a c3 w6 HHA.2.2 HHA.1 HHA.2.1 hNt hab hc3);clear hNt;go_wp2_with fail
   refine FHN.mono ?_;rintro e w7 ⟨hv,hb⟩;have XS:=zh (XS.below hb XS.lt);have HB:=zh (HB.trans (hb.mono HB.size));clear hb FHN
   rcases hv with ⟨rfl,Ex⟩|⟨rfl,hno⟩
   ·have HY2:=zh Ex
    clear Ex;go_wp2_with fail
    exact⟨⟨lo,mid,rfl,rfl,by omega,zh ⟨HY2.out,HLO.out,XS.out,HB.out⟩⟩,by simp[intOf];omega⟩
   ·have HN2:=zh hno
    clear hno;go_wp2_with fail
    exact⟨⟨mid,hi,rfl,rfl,by omega,zh ⟨HHI.out,fun _=>HN2.out,XS.out,HB.out⟩⟩,by simp[intOf];omega⟩
  ·have YC:hi-lo<=1:=by omega
   have HHO:Hid (Ev S cs hi):=zh ⟨by omega,HHI.out,fun h=>(by rw[show hi-1=lo by omega];exact HLO.out (by omega))⟩;go_wp2_with fail
   exact bodyPost_ret (v:=.tuple #[.int .i64 hi,.int .i64 0]) (by simp[results,Try.results55,go_sem]) rfl ⟨.inr (.inr ⟨HST.out,by rw[<-HN.out];exact Q6.out,hi,rfl,HHO.out⟩),HB.out⟩
def rdC (f:Nat->Nat->Int) (n i k:Nat) (x:Nat):List Int:=if x<i then bT (f x) n n else bT (f x) n k
theorem nR (f:Nat->Nat->Int) (n i k:Nat):rdC f n i k i=bT (f i) n k:=by unfold rdC;rw[if_neg (Nat.lt_irrefl i)]
theorem Pf {f:Nat->Nat->Int} {n i x:Nat}:bT (f x) n n=rdC f n i n x:=by unfold rdC;split<;>rfl
theorem Rk {f:Nat->Nat->Int} {n i k x:Nat} (hx:x<i+1) (hk:k<n):rdC f n i (k+1) x=upd (rdC f n i k) i ((rdC f n i k i).set k (f i k)) x:=by
 unfold upd
 by_cases e:x=i
 ·subst e
  rw[if_pos rfl,nR,nR,mG _ _ _ hk]
 ·rw[if_neg e]
  unfold rdC;rw[if_pos (by omega),if_pos (by omega)]
theorem Rl {f:Nat->Nat->Int} {n i k x:Nat} (hx:x<i+1) (hk:k<n) (h:f i k=0):rdC f n i (k+1) x=rdC f n i k x:=by
 by_cases e:x=i
 ·subst e
  rw[nR,nR,vQ _ _ _ h hk]
 ·unfold rdC
  rw[if_pos (by omega),if_pos (by omega)]
theorem LX (A F:Option Addr) (L:List (List Int)) (fl:List Int) (m c n nf cf b:Nat) (w:World) (hm:m=L.length) (hm8:m<=64) (hn:n<=64) (hc:m<=c/\c<=9223372036854775807) (hL:iA w A L) (hr: ∀i,i<m->(L.getD i []).length=n)
 (hb:w.cell? ⟨b,0,none⟩=some (.slice F nf cf)) (hbl:b<w.heap.size) (hnf:nf=fl.length) (Rm:nf<=4096) (hcf:nf<=cf/\cf<=9223372036854775807) (hF:aH w F fl) (hx: ∀i k,i<m->k<n->(L.getD i []).getD k 0<fl.length):
 Calls Try.prog 110 #[.slice A m c,.pointer (some ⟨b,0,none⟩)] w fun e w'=> ∃g gI,e=.returned (.slice (some ⟨g,0,none⟩) m m)/\RwJ n m g gI (fun i=>bT (fun k=>rdF fl ((L.getD i []).getD k 0)) n n) w'/\Below w.heap.size w w'/\w.heap.size<=g/\ ∀i,i<m->w.heap.size<=gI i:=by
 obtain⟨f,hf⟩: ∃f:Nat->Nat->Int,f=fun i k=>rdF fl ((L.getD i []).getD k 0):=⟨_,rfl⟩
 have HF:Hid (∀i k,f i k=rdF fl ((L.getD i []).getD k 0)):=zh (fun i k=>by rw[hf]);have e0:(fun i=>bT (fun k=>rdF fl ((L.getD i []).getD k 0)) n n)=fun i=>bT (f i) n n:=by rw[hf]
 rw[e0];have HL:Hid (∀V,Below w.heap.size w V->iA V A L):=zh (fun V hV=>hL.below hV (Nat.le_refl _));have HFL:Hid (∀V,Below w.heap.size w V->aH V F fl/\V.cell? ⟨b,0,none⟩=some (.slice F nf cf)):=zh (fun V hV=>⟨hF.below hV (Nat.le_refl _),(hV.cell hbl).trans hb⟩);have HM:=zh hm;have HR:=zh hr;have HX:=zh hx;have HNF:=zh hnf;clear hf e0 hL hF hm hr hx hb hnf;have hmk:=Gt m (by omega);have Uh:=gZ n (by omega);have HB1:=zh ((Below.refl w.heap.size w).alloc (Nat.le_refl _) (.cells (Array.replicate m (.slice none 0 0)) 22));have X1:=zh (show Blk (w.alloc (.cells (Array.replicate m (.slice none 0 0)) 22)) w.heap.size 22 (List.replicate m (.slice none 0 0))from by simpa using Blk.new' w (Array.replicate m (.slice none 0 0)) 22);go_enter Try.func110,Try.ntmps110;go_upto_region 2 with fail
 generalize w.alloc (.cells (Array.replicate m (.slice none 0 0)) 22)=w1 at HB1 X1 ⊢;obtain⟨g,hg⟩: ∃g,g=w.heap.size:=⟨_,rfl⟩;have HG:Hid (w.heap.size<=g):=zh (by omega);rw[<-hg]at X1;rw[<-hg];clear hg;go_wp2_with fail
 go_loopw [14] (fun iv wr=> ∃i:Nat,i<=m/\iv=.int .i64 i/\Hid (∃gI cs,RwJ n i g gI (fun x=>bT (f x) n n) wr/\Blk wr g 22 cs/\cs.length=m/\Below w.heap.size w wr/\ ∀x,x<i->w.heap.size<=gI x)) (fun iv _=>m-(intOf iv).toNat)
 case atStart=>exact⟨0,Nat.zero_le _,rfl,zh ⟨fun _=>0,_,⟨⟨_,X1.out,fun i hi=>absurd hi (Nat.not_lt_zero _)⟩,fun i hi=>absurd hi (Nat.not_lt_zero _),fun i _ hi=>absurd hi (Nat.not_lt_zero _)⟩,X1.out,by simp,HB1.out,fun i hi=>absurd hi (Nat.not_lt_zero _)⟩⟩
 case round=>
  clear X1 HB1;obtain⟨i,hi,rfl,HJ⟩:=hrel;obtain⟨gI,cs,q1,q2,q3,q4,q5⟩:=HJ.out;have RW:=zh q1;have BK:=zh q2;have CL:=zh q3;have HB:=zh q4;have GE:=zh q5;clear HJ q1 q2 q3 q4 q5
  by_cases hlt:i<m
  ·have hii:(i:Int)<(m:Int):=by omega
   obtain⟨ad,rfl,adl,Tr,cTr,c0,hcT,hti⟩:=HL.out wr HB.out i (by rw[<-HM.out];exact hlt);rw[HR.out i hlt]at c0 hcT;have ab:=adl;rw[<-block_add ad i]at ab;have HTI:Hid (∀V,Below w.heap.size w V->n=(L.getD i []).length->aH V Tr (L.getD i [])):=zh (fun V hV _=>by
    obtain⟨ad',e1,_,Tr',YD,c0',_,ht'⟩:=HL.out V hV i (by rw[<-HM.out];exact hlt);obtain⟨ad0,e2,l2,Tr2,YE,c2,_,ht2⟩:=HL.out w (Below.refl _ _) i (by rw[<-HM.out];exact hlt)
    cases e1
    cases e2
    have k1:=(hV.cell (by rw[block_add];exact l2)).trans c2;have k2:=(HB.cell (by rw[block_add];exact l2)).trans c2;rw[k1]at c0';rw[k2]at c0
    cases c0'
    cases c0
    exact ht')
   clear hti adl;obtain⟨v0,hv0⟩: ∃v0,wr.cell? ⟨g,i,none⟩=some v0:=⟨_,BK.cell i (List.getElem?_eq_getElem (by rw[CL.out];exact hlt))⟩;have z0:=BK.free i;have gl:=BK.lt;have al:=(Below.refl wr.heap.size wr).alloc (Nat.le_refl _) (.cells (Array.replicate n (.int .i64 0)) 2);have R0:=RW.below al;have F0:=kE 2 n wr;have BK0:=BK.below al BK.lt;have hfresh: ∀x,x<i->gI x≠wr.heap.size:=fun x hx e=>by have:=(RW.f x hx).1.lt;omega
   have R1:RwJ n i g gI (rdC f n i 0) (wr.alloc (.cells (Array.replicate n (.int .i64 0)) 2)):=R0.of (fun x hx=>by unfold rdC;rw[if_pos hx]);have HE0:(RwJ n (i+1) g (upd gI i wr.heap.size) (rdC f n i 0) ((wr.alloc (.cells (Array.replicate n (.int .i64 0)) 2)).setCell ⟨g,i,none⟩ (.slice (some ⟨wr.heap.size,0,none⟩) n n))/\(∃cs,Blk ((wr.alloc (.cells (Array.replicate n (.int .i64 0)) 2)).setCell ⟨g,i,none⟩ (.slice (some ⟨wr.heap.size,0,none⟩) n n)) g 22 cs/\cs.length=m)/\Below w.heap.size w ((wr.alloc (.cells (Array.replicate n (.int .i64 0)) 2)).setCell ⟨g,i,none⟩ (.slice (some ⟨wr.heap.size,0,none⟩) n n))):=⟨R1.add BK0 (by rw[CL.out];exact hlt) (by rw[nR,kT];exact F0) (by rw[nR,fV]) hfresh,⟨_,BK0.setCell i _,by rw[List.length_set];exact CL.out⟩,(HB.trans (al.mono HB.size)).setCell (p:=⟨g,i,none⟩) HG.out _⟩;rw[World.setCell_alloc_past _ _ _ _ gl]at HE0;have HE:=zh HE0;clear HE0;have GE2:Hid (∀x,x<i+1->w.heap.size<=upd gI i wr.heap.size x):=zh (fun x hx=>by
    unfold upd
    by_cases e:x=i
    ·rw[if_pos e];exact HB.size
    ·rw[if_neg e];exact GE.out x (by omega))
   clear al R0 F0 BK0 hfresh R1;go_upto_region 6 with fail
   clear c0 ab hv0 z0 gl RW BK CL HB GE;generalize (wr.setCell ⟨g,i,none⟩ (.slice (some ⟨wr.heap.size,0,none⟩) n n)).alloc (.cells (Array.replicate n (.int .i64 0)) 2)=w3 at HE ⊢;generalize upd gI i wr.heap.size=gJ at *;go_wp2_with fail
   go_loopw [27] (fun iv wr=> ∃k:Nat,k<=n/\iv=.int .i64 k/\Hid (RwJ n (i+1) g gJ (rdC f n i k) wr/\(∃cs,Blk wr g 22 cs/\cs.length=m)/\Below w.heap.size w wr)) (fun iv _=>n-(intOf iv).toNat)
   case atStart=>exact⟨0,Nat.zero_le _,rfl,HE⟩
   case round=>
    clear HE;obtain⟨k,hk,rfl,HJ⟩:=hrel
    by_cases hkn:k<n
    ·have hki:(k:Int)<(n:Int):=by omega
     have hln:n=(L.getD i []).length:=(HR.out i hlt).symm;obtain⟨p,rfl,pl,px⟩:=HTI.out _ HJ.2.2 hln k (by omega);have pb:=pl;rw[<-block_add p k]at pb;have hxl:=HX.out i k hlt hkn;have hfk:=HF.out i k;have UP:=zh (fun x (hx:x<i+1)=>Rk (f:=f) (n:=n) (k:=k) hx hkn);have NO:=zh (fun h0 x (hx:x<i+1)=>Rl (f:=f) (n:=n) (k:=k) hx hkn h0);have HLN:=zh hln;clear hln pl;generalize (L.getD i []).getD k 0=x at *
     by_cases hx0:0<=x
     ·obtain⟨j,rfl⟩: ∃j:Nat,x=j:=⟨x.toNat,by omega⟩
      have hjl:j<fl.length:=by omega
      have hjn:j<nf:=by rw[HNF.out];exact hjl
      have hji:(j:Int)<(nf:Int):=by omega
      obtain⟨pf,hpf,_,_⟩:=(HFL.out wr HJ.2.2).1 j hjl;subst hpf;have hfv:f i k=fl.getD j 0:=by rw[hfk];unfold rdF;rw[if_pos (by omega),Int.toNat_natCast]
      have CW:Hid (∀V,(RwJ n (i+1) g gJ (rdC f n i k) V/\(∃cs,Blk V g 22 cs/\cs.length=m)/\Below w.heap.size w V)->(V.cell? ⟨g,i,none⟩=some (.slice (some ⟨gJ i,0,none⟩) n n)/\g<V.heap.size)/\V.cell? ⟨b,0,none⟩=some (.slice (some pf) nf cf)/\V.cell? (pf.add j)=some (.int .i64 (f i k))/\(pf.add j).block<V.heap.size/\V.cell? ⟨gJ i,k,none⟩=some (.int .i64 ((bT (f i) n k).getD k 0))/\gJ i<V.heap.size):=zh (fun V h=>by
       obtain⟨a1,a2⟩:=HFL.out V h.2.2;obtain⟨pf',e,l1,l2⟩:=a1 j hjl
       cases e
       have F1:=(h.1.f i (by omega)).1;rw[nR]at F1;exact⟨⟨h.1.cell i (by omega),h.1.lt⟩,a2,by rw[hfv];exact l2,by rw[block_add];exact l1,F1.cell k (by rw[fV];exact hkn),F1.lt⟩)
      have HFV:=zh hfv;clear hfv hfk hjl;generalize f i k=y at *;have d1:decide ((0:Int)<=(j:Int))=true:=decide_eq_true (by omega);have HJ1:=HJ;go_upto_region 10 with fail
      clear pb px;refine aD 10 [false] [] ?af10 (fun V=>RwJ n (i+1) g gJ (rdC f n i k) V/\(∃cs,Blk V g 22 cs/\cs.length=m)/\Below w.heap.size w V) (by kernel_rfl) (by kernel_rfl) ⟨HJ.1.below (Below.refl _ _).drew,by obtain⟨cs,c1,c2⟩:=HJ.2.1;exact⟨cs,Blk.drew c1,c2⟩,HJ.2.2.drew⟩ ?Rh ?U6
      case Rh=>
       rintro V hV;obtain⟨⟨q0,q0l⟩,q1,q2,q3,q4,q5⟩:=CW.out V hV;clear hV;simp only[List.take_succ_cons,List.take_zero]
       repeat(go_big_quiet_step (fail))
       refine wpQuiet_nil ?_;rfl
      case U6=>
       rintro V hV;obtain⟨⟨q0,q0l⟩,q1,q2,q3,q4,q5⟩:=CW.out V hV;have z4:V.frozen? ⟨gJ i,k,none⟩=false:=(hV.1.f i (by omega)).1.free k;have HK:=zh (show RwJ n (i+1) g gJ (rdC f n i (k+1)) (V.setCell ⟨gJ i,k,none⟩ (.int .i64 y))/\(∃cs,Blk (V.setCell ⟨gJ i,k,none⟩ (.int .i64 y)) g 22 cs/\cs.length=m)/\Below w.heap.size w (V.setCell ⟨gJ i,k,none⟩ (.int .i64 y))from by
        obtain⟨cs,c1,c2⟩:=hV.2.1;refine⟨(hV.1.set i (by omega) k y).of (fun x hx=>UP.out x hx),⟨cs,c1.setCell_ne (fun e=>ae c1 (hV.1.f i (by omega)).1 (by decide) e.symm) _,c2⟩,hV.2.2.setCell (p:=⟨gJ i,k,none⟩) (GE2.out i (by omega)) _⟩)
       clear hV;refine aI ?_;unfold eQ;go_simp;generalize V.setCell ⟨gJ i,k,none⟩ (.int .i64 y)=V1 at HK ⊢;clear q0 q0l q1 q2 q3 q4 q5 z4;refine bJ ?_;go_wp2_with fail
       go_roundw
       case rel=>exact⟨k+1,by omega,by go_num,HK⟩
       case measure=>simp[intOf];omega
     ·have d1:decide ((0:Int)<=x)=false:=decide_eq_false hx0
      have hfv:f i k=0:=by rw[hfk];unfold rdF;rw[if_neg hx0]
      have HK:=zh (show RwJ n (i+1) g gJ (rdC f n i (k+1)) wr/\(∃cs,Blk wr g 22 cs/\cs.length=m)/\Below w.heap.size w wr from⟨HJ.1.of (fun x hx=>NO.out hfv x hx),HJ.2⟩);clear hfv hfk;go_wp2_with fail
      go_roundw
      case rel=>exact⟨k+1,by omega,by go_num,HK⟩
      case measure=>simp[intOf];omega
    ·obtain rfl:n=k:=by omega
     have HK:=zh (show∃gI cs,RwJ n (i+1) g gI (fun x=>bT (f x) n n) wr/\Blk wr g 22 cs/\cs.length=m/\Below w.heap.size w wr/\ ∀x,x<i+1->w.heap.size<=gI x from by
      obtain⟨cs,c1,c2⟩:=HJ.2.1;exact⟨gJ,cs,HJ.1.of (fun x hx=>Pf),c1,c2,HJ.2.2,GE2.out⟩)
     go_wp2_with fail
     go_roundw
     case rel=>exact⟨i+1,by omega,by go_num,HK⟩
     case measure=>simp[intOf];omega
  ·obtain rfl:m=i:=by omega
   go_wp2_with fail
   go_ret;exact⟨g,gI,rfl,RW.out,HB.out,HG.out,GE.out⟩
end Go.Proofs.Ytmebpglkeedaoaa
