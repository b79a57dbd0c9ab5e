/- Contracts that the claim leans on. -/
import Derived.Test.YtmebpglkeedaoaaDR1
import Derived.WalkSmall
import Derived.Deep.LoopGhost
import Derived.Deep.CutRange
import Derived.Deep.RegionHeld3
import Derived.Deep.DrawnRows
import Derived.WalkKit
set_option maxHeartbeats 2000000
set_option maxRecDepth 100000
set_option linter.unusedVariables false
set_option linter.unusedSimpArgs false
set_option linter.unnecessarySimpa false
namespace Go.Proofs.Ytmebpglkeedaoaa
namespace Dp
def dF (es:List Ed) (k:Nat) (r:Int):List Ed:=es.set k {es.getD k default with room:=r}
theorem GI (l:List Ed) (i j:Nat) (v:Ed) (h:i<l.length):(l.set i v).getD j default=if j=i then v else l.getD j default:=by
 simp only[zg,List.getElem?_set]
 by_cases hj:i=j
 ·subst hj;simp[h]
 ·rw[if_neg hj,if_neg (fun e=>hj e.symm)]
def l6 (es:List Ed) (k:Nat) (x:Int):List Ed:=dF (dF es k ((es.getD k default).room -x)) (tw k) (((dF es k ((es.getD k default).room -x)).getD (tw k) default).room+x)
theorem jf (es:List Ed) (k:Nat) (r:Int):(dF es k r).length=es.length:=by simp[dF]
theorem GJ (es:List Ed) (k:Nat) (x:Int):(l6 es k x).length=es.length:=by simp[l6,dF]
theorem l7 (es:List Ed) (k:Nat) (r:Int) (hk:k<es.length) (j:Nat):((dF es k r).getD j default).to=(es.getD j default).to/\((dF es k r).getD j default).cost=(es.getD j default).cost/\((dF es k r).getD j default).room=if j=k then r else (es.getD j default).room:=by
 unfold dF;rw[GI _ _ _ _ hk]
 split
 ·rename_i e;subst e;exact⟨rfl,rfl,rfl⟩
 ·exact⟨rfl,rfl,rfl⟩
theorem pE (es:List Ed) (k:Nat) (x:Int) (hk:k<es.length) (ht:tw k<es.length) (j:Nat):((l6 es k x).getD j default).to=(es.getD j default).to/\((l6 es k x).getD j default).cost=(es.getD j default).cost/\((l6 es k x).getD j default).room=(es.getD j default).room -(if j=k then x else 0)+(if tw j=k then x else 0):=by
 have h1:=fun i=>l7 es k ((es.getD k default).room -x) hk i
 have h2:=l7 (dF es k ((es.getD k default).room -x)) (tw k) (((dF es k ((es.getD k default).room -x)).getD (tw k) default).room+x) (by rw[jf];exact ht) j;unfold l6;refine⟨h2.1.trans (h1 j).1,h2.2.1.trans (h1 j).2.1,?_⟩;rw[h2.2.2,(h1 (tw k)).2.2,(h1 j).2.2,if_neg (Bc k)]
 by_cases e:j=tw k
 ·subst e
  rw[if_pos rfl,if_neg (Bc k),lN,if_pos rfl];omega
 ·rw[if_neg e,if_neg (show¬tw j=k from fun h=>e (by rw[<-h,lN]))]
  split
  ·rename_i e2;rw[e2];omega
  ·omega
namespace Gr
def push1 (G:Gr) (k:Nat) (x:Int):Gr:={G with left:=mv (mv G.left (G.frA k) (-x)) (G.toA k) x,es:=l6 G.es k x}
def pushL (G:Gr) (ks:List Nat) (x:Int):Gr:=ks.foldl (fun G k=>G.push1 k x) G
theorem Ok.tl {G:Gr} {n:Nat} (h:G.Ok n) {k:Nat} (hk:k<G.es.length):tw k<G.es.length:=Pz h.ev hk
end Gr
structure Alike (G G':Gr):Prop where
 outs:G'.outs=G.outs
 ll:G'.left.length=G.left.length
 le:G'.es.length=G.es.length
 «to»: ∀j,(G'.es.getD j default).to=(G.es.getD j default).to
 co: ∀j,(G'.es.getD j default).cost=(G.es.getD j default).cost
theorem Alike.refl (G:Gr):Alike G G:=⟨rfl,rfl,rfl,fun _=>rfl,fun _=>rfl⟩
theorem Alike.trans {A B C:Gr} (h:Alike A B) (k:Alike B C):Alike A C:=⟨k.outs.trans h.outs,k.ll.trans h.ll,k.le.trans h.le,fun j=>(k.to j).trans (h.to j),fun j=>(k.co j).trans (h.co j)⟩
theorem Alike.toA {G G':Gr} (h:Alike G G') (k:Nat):G'.toA k=G.toA k:=by unfold Gr.toA;rw[h.to]
theorem Alike.frA {G G':Gr} (h:Alike G G') (k:Nat):G'.frA k=G.frA k:=h.toA (tw k)
theorem Alike.cost {G G':Gr} (h:Alike G G') (k:Nat):G'.cost k=G.cost k:=by unfold Gr.cost;rw[h.co]
theorem Alike.rc {G G':Gr} (h:Alike G G') (p:List Int) (k:Nat):G'.rc p k=G.rc p k:=by unfold Gr.rc;rw[h.cost,h.frA,h.toA]
theorem dY {G:Gr} {k:Nat} {x:Int} (hk:k<G.es.length) (ht:tw k<G.es.length):Alike G (G.push1 k x):=
 ⟨rfl,by simp[Gr.push1,gD],by simp[Gr.push1,GJ],fun j=>(pE G.es k x hk ht j).1,fun j=>(pE G.es k x hk ht j).2.1⟩
theorem lC {G:Gr} {k:Nat} {x:Int} (hk:k<G.es.length) (ht:tw k<G.es.length) (j:Nat):(G.push1 k x).room j=G.room j-(if j=k then x else 0)+(if tw j=k then x else 0):=(pE G.es k x hk ht j).2.2
theorem oq {G:Gr} {k:Nat} {x:Int} (h1:G.frA k<G.left.length) (h2:G.toA k<G.left.length) (v:Nat):(G.push1 k x).lf v=G.lf v-(if v=G.frA k then x else 0)+(if v=G.toA k then x else 0):=by
 show(mv (mv G.left (G.frA k) (-x)) (G.toA k) x).getD v 0=_
 rw[wK _ _ _ (by rw[gD];simpa using h2),wK _ _ _ (by simpa using h1)];simp only[Int.toNat_natCast];unfold Gr.lf
 split<;>split<;>omega
theorem cZ {x:Int}: ∀{ks:List Nat} {G:Gr},(∀k,k∈ks->k<G.es.length/\tw k<G.es.length)->Alike G (G.pushL ks x)
 |[],G,_=>Alike.refl G
 |k::ks,G,h=>by
  have h1:=dY (x:=x) (h k (by simp)).1 (h k (by simp)).2;exact h1.trans (cZ (ks:=ks) (fun j hj=>by rw[h1.le];exact h j (by simp[hj])))
theorem ik {x:Int}: ∀{ks:List Nat} {G:Gr},(∀k,k∈ks->k<G.es.length/\tw k<G.es.length)-> ∀j,(G.pushL ks x).room j=G.room j-(ks.count j:Int)*x+(ks.count (tw j):Int)*x
 |[],G,_,j=>by simp[Gr.pushL]
 |k::ks,G,h,j=>by
  have h1:=dY (x:=x) (h k (by simp)).1 (h k (by simp)).2;have ih:=ik (x:=x) (ks:=ks) (G:=G.push1 k x) (fun j hj=>by rw[h1.le];exact h j (by simp[hj])) j
  show((G.push1 k x).pushL ks x).room j=_
  rw[ih,lC (h k (by simp)).1 (h k (by simp)).2];simp only[List.count_cons,Int.natCast_add,Int.add_mul];have e1:(((if (k==j)=true then 1 else 0:Nat):Int))*x=if j=k then x else 0:=by
   by_cases e:j=k
   ·subst e;simp
   ·rw[if_neg e,if_neg (show¬(k==j)=true from fun h=>e (by simpa using (beq_iff_eq.1 h).symm))];simp
  have e2:(((if (k==tw j)=true then 1 else 0:Nat):Int))*x=if tw j=k then x else 0:=by
   by_cases e:tw j=k
   ·subst e;simp
   ·rw[if_neg e,if_neg (show¬(k==tw j)=true from fun h=>e (by simpa using (beq_iff_eq.1 h).symm))];simp
  rw[e1,e2];omega
def Way (G:Gr) (vi:List Int):Nat->List Nat->Nat->Prop
 |v,[],s=>vi.getD v 0= -1/\v=s
 |v,k::ks,s=>vi.getD v 0=(k:Int)/\k<G.es.length/\G.toA k=v/\Way G vi (G.frA k) ks s
theorem Way.lt {G:Gr} {vi:List Int} {s:Nat}: ∀{ks:List Nat} {v:Nat},Way G vi v ks s-> ∀k,k∈ks->k<G.es.length
 |[],_,_,k,hk=>by simp at hk
 |k0::ks,v,h,k,hk=>by
  rcases List.mem_cons.1 hk with rfl|hk
  ·exact h.2.1
  ·exact Way.lt h.2.2.2 k hk
theorem Way.alike {G G':Gr} {vi:List Int} {s:Nat} (ha:Alike G G'): ∀{ks:List Nat} {v:Nat},Way G vi v ks s->Way G' vi v ks s
 |[],_,h=>h
 |k::ks,v,h=>⟨h.1,by rw[ha.le];exact h.2.1,by rw[ha.toA];exact h.2.2.1,by rw[ha.frA];exact Way.alike ha h.2.2.2⟩
theorem Way.toIn {G:Gr} {vi:List Int} {s:Nat}: ∀{ks:List Nat} {v:Nat},Way G vi v ks s-> ∀k,k∈ks->G.toA k∈v::ks.map G.frA
 |[],_,_,k,hk=>by simp at hk
 |k0::ks,v,h,k,hk=>by
  rcases List.mem_cons.1 hk with rfl|hk
  ·rw[h.2.2.1];simp
  ·have:=Way.toIn h.2.2.2 k hk
   simp only[List.map_cons];exact List.mem_cons_of_mem _ this
theorem Way.last {G:Gr} {vi:List Int} {s:Nat}: ∀{ks:List Nat} {v:Nat},Way G vi v ks s->s∈v::ks.map G.frA
 |[],v,h=>by rw[h.2];simp
 |k0::ks,v,h=>by
  simp only[List.map_cons];exact List.mem_cons_of_mem _ (Way.last h.2.2.2)
theorem lD {G:Gr} {vi:List Int} {s:Nat}: ∀{ks:List Nat} {v:Nat},Way G vi v ks s->(v::ks.map G.frA).Nodup->ks.Nodup/\ ∀j,¬(j∈ks/\tw j∈ks)
 |[],_,_,_=>⟨List.nodup_nil,fun j h=>by simp at h⟩
 |k::ks,v,h,hn=>by
  simp only[List.map_cons]at hn;have hn2:=List.nodup_cons.1 hn;have ih:=lD h.2.2.2 hn2.2;have hk:k ∉ ks:=fun hm=>hn2.1 (by rw[<-h.2.2.1];exact Way.toIn h.2.2.2 k hm)
  have ht:tw k ∉ ks:=fun hm=>hn2.1 (by
   have e:G.frA (tw k)=v:=by unfold Gr.frA;rw[lN];exact h.2.2.1
   rw[<-e];exact List.mem_cons_of_mem _ (List.mem_map_of_mem hm))
  refine⟨List.nodup_cons.2 ⟨hk,ih.1⟩,fun j hj=>?_⟩
  rcases List.mem_cons.1 hj.1 with e1|e1
  ·subst e1
   rcases List.mem_cons.1 hj.2 with e2|e2
   ·exact Bc j e2
   ·exact ht e2
  ·rcases List.mem_cons.1 hj.2 with e2|e2
   ·rw[<-e2,lN]at ht;exact ht e1
   ·exact ih.2 j ⟨e1,e2⟩
def wM (G:Gr):Prop:= ∀k,k<G.es.length->G.toA k<G.left.length/\G.frA k<G.left.length/\tw k<G.es.length
theorem wM.alike {G G':Gr} (h:wM G) (ha:Alike G G'):wM G':=fun k hk=>by
 rw[ha.le]at hk;rw[ha.toA,ha.frA,ha.ll,ha.le];exact h k hk
theorem Gr.Ok.fine {G:Gr} {n:Nat} (h:G.Ok n):wM G:=fun k hk=>by rw[h.ll];exact⟨h.toL hk,h.frL hk,h.tl hk⟩
theorem kJ {x:Int} {vi:List Int} {s:Nat}: ∀{ks:List Nat} {G:Gr} {v:Nat},Way G vi v ks s->wM G-> ∀u,(G.pushL ks x).lf u=G.lf u-(if u=s then x else 0)+(if u=v then x else 0)
 |[],G,v,h,_,u=>by rw[h.2];show G.lf u=_;split<;>omega
 |k::ks,G,v,h,hb,u=>by
  have hbk:=hb k h.2.1;have ha:=dY (x:=x) h.2.1 hbk.2.2;have e0:=oq (x:=x) hbk.2.1 hbk.1 u;have e1:=kJ (x:=x) (ks:=ks) (G:=G.push1 k x) (v:=G.frA k) (h.2.2.2.alike ha) (hb.alike ha) u
  show((G.push1 k x).pushL ks x).lf u=_
  rw[e1,e0,h.2.2.1];omega
theorem ou {G:Gr} {p fa vi:List Int}: ∀{S:List Nat},S.Nodup->Chn G p fa vi S-> ∀v,v∈S-> ∃ks s,Way G vi v ks s/\0<G.lf s/\(∀k,k∈ks->0<G.room k/\fa.getD (G.toA k) 0=fa.getD (G.frA k) 0+G.rc p k)/\(v::ks.map G.frA).Nodup/\ ∀u,u∈v::ks.map G.frA->u∈S
 |[],_,_,v,hv=>by simp at hv
 |u::S,hn,h,v,hv=>by
  have hn2:=List.nodup_cons.1 hn
  rcases List.mem_cons.1 hv with rfl|hv
  ·rcases h.2 with ⟨a,b,c⟩|⟨k,a,b,c,d,e,f⟩
   ·exact⟨[],v,⟨c,rfl⟩,a,fun k hk=>by simp at hk,by simp,fun w hw=>by simp at hw;subst hw;simp⟩
   ·obtain⟨ks,s,h1,h2,h3,h4,h5⟩:=ou hn2.2 h.1 _ e
    refine⟨k::ks,s,⟨b,a,c,h1⟩,h2,fun j hj=>?_,?_,fun w hw=>?_⟩
    ·rcases List.mem_cons.1 hj with rfl|hj
     ·exact⟨d,by rw[c];exact f⟩
     ·exact h3 j hj
    ·simp only[List.map_cons]
     exact List.nodup_cons.2 ⟨fun hm=>hn2.1 (h5 _ hm),h4⟩
    ·simp only[List.map_cons]at hw
     rcases List.mem_cons.1 hw with rfl|hw
     ·simp
     ·exact List.mem_cons_of_mem _ (h5 _ hw)
  ·obtain⟨ks,s,h1,h2,h3,h4,h5⟩:=ou hn2.2 h.1 v hv
   exact⟨ks,s,h1,h2,h3,h4,fun w hw=>List.mem_cons_of_mem _ (h5 w hw)⟩
structure qo (G:Gr) (n:Nat) (vi:List Int) (ks:List Nat) (s t:Nat) (x:Int):Prop where
 way:Way G vi t ks s
 nod:(t::ks.map G.frA).Nodup
 sn:s<n
 tn:t<n
 x0:0<x
 xs:x<=G.lf s
 xt:x<= -G.lf t
 xr: ∀k,k∈ks->x<=G.room k
theorem qo.ok {G:Gr} {n:Nat} {vi:List Int} {ks:List Nat} {s t:Nat} {x:Int} (h:qo G n vi ks s t x) (hG:G.Ok n):(∀k,k∈ks->k<G.es.length/\tw k<G.es.length)/\(∀j,(G.pushL ks x).room j=G.room j-(if j∈ks then x else 0)+(if tw j∈ks then x else 0))/\(G.pushL ks x).Ok n:=by
 have hk: ∀k,k∈ks->k<G.es.length/\tw k<G.es.length:=fun k hk=>⟨h.way.lt k hk,hG.tl (h.way.lt k hk)⟩
 have hs:=lD h.way h.nod;have ha:=cZ (x:=x) hk;have hr: ∀j,(G.pushL ks x).room j=G.room j-(if j∈ks then x else 0)+(if tw j∈ks then x else 0):=fun j=>by
  rw[ik hk j,hs.1.count,hs.1.count]
  by_cases h1:j∈ks<;>by_cases h2:tw j∈ks<;>simp[h1,h2]
 have hlf:=kJ (x:=x) h.way hG.fine;refine⟨hk,hr,?_⟩;exact
 {n1:=hG.n1
  ll:=by rw[ha.ll];exact hG.ll
  lo:=by rw[ha.outs];exact hG.lo
  le:=by rw[ha.le];exact hG.le
  ev:=by rw[ha.le];exact hG.ev
  «to»:=fun k hk=>by rw[ha.to];rw[ha.le]at hk;exact hG.to k hk
  ne:=fun k hk=>by rw[ha.toA,ha.frA];rw[ha.le]at hk;exact hG.ne k hk
  co:=fun k hk=>by rw[ha.cost,ha.cost];rw[ha.le]at hk;exact hG.co k hk
  cb:=fun k hk=>by rw[ha.cost];rw[ha.le]at hk;exact hG.cb k hk
  rm:=fun k hk=>by
   rw[ha.le]at hk;have h1:=hG.rm k hk;have h2:=hs.2 k;have h3:=h.x0;rw[hr k,hr (tw k),lN]
   by_cases a:k∈ks
   ·have:=h.xr k a
    have:tw k ∉ ks:=fun hm=>h2 ⟨a,hm⟩
    rw[if_pos a,if_neg this];omega
   ·rw[if_neg a]
    split<;>omega
  lb:=fun v hv=>by
   rw[hlf v];have h1:=hG.lb v hv;have h3:=h.x0;have h4:=h.xs;have h5:=h.xt
   split
   ·rename_i e;subst e
    split<;>omega
   ·split
    ·rename_i e;subst e;omega
    ·omega
  o1:=fun v hv y hy=>by
   rw[ha.outs]at hy;rw[ha.le,ha.frA];exact hG.o1 v hv y hy
  o2:=fun k hk=>by
   rw[ha.le]at hk;rw[ha.outs,ha.frA];exact hG.o2 k hk
  o3:=fun v hv=>by rw[ha.outs];exact hG.o3 v hv}
structure Bi (G:Gr) (n:Nat) (p:List Int) (D:Int):Prop where
 len:p.length=n
 lo: ∀v,v<n->0<=p.getD v 0/\p.getD v 0<=D
 d:0<=D/\D<=1048576*(n-1:Int)
 need: ∀v,v<n->G.lf v<0->p.getD v 0=D
 rc: ∀k,k<G.es.length->0<G.room k->0<=G.rc p k
 src: ∀v,v<n->0<G.lf v->p.getD v 0=0
theorem Bi.pot {G:Gr} {n:Nat} {p:List Int} {D:Int} (h:Bi G n p D) (hn:n<=1024):G.Pot n p:=
 ⟨h.len,fun v hv=>by have:=h.lo v hv;have:=h.d;omega,h.rc,h.src⟩
def qp (n:Nat) (p fa:List Int) (d:Int):List Int:=(List.range n).map fun v=>p.getD v 0+min (fa.getD v 0) d
theorem kK {n:Nat} {p fa:List Int} {d:Int} {v:Nat} (hv:v<n):(qp n p fa d).getD v 0=p.getD v 0+min (fa.getD v 0) d:=by
 simp[qp,zg,hv]
theorem wN {G:Gr} {n:Nat} {p fa vi:List Int} {s:Nat} (hG:G.Ok n) (hp: ∀k,k<G.es.length->0<G.room k->0<=G.rc p k): ∀{ks:List Nat} {v:Nat},Way G vi v ks s->(∀k,k∈ks->0<G.room k/\fa.getD (G.toA k) 0=fa.getD (G.frA k) 0+G.rc p k)->
 ∀u,u∈v::ks.map G.frA->fa.getD u 0<=fa.getD v 0
 |[],v,_,_,u,hu=>by simp at hu;rw[hu];exact Int.le_refl _
 |k::ks,v,h,hk,u,hu=>by
  have h1:=hk k (by simp);have h2:=hp k h.2.1 h1.1;rw[h.2.2.1]at h1;simp only[List.map_cons]at hu
  rcases List.mem_cons.1 hu with rfl|hu
  ·exact Int.le_refl _
  ·have:=wN hG hp h.2.2.2 (fun j hj=>hk j (by simp[hj])) u hu
   omega
theorem GK {G:Gr} {n:Nat} {p fa vi:List Int} {D x:Int} {ks:List Nat} {s t:Nat} (hG:G.Ok n) (hp:Bi G n p D) (hr:NR G n p fa vi (t:Int)) (hs:qo G n vi ks s t x)
 (hk: ∀k,k∈ks->0<G.room k/\fa.getD (G.toA k) 0=fa.getD (G.frA k) 0+G.rc p k):Bi (G.pushL ks x) n (qp n p fa (fa.getD t 0)) (D+fa.getD t 0):=by
 obtain⟨h1,h2,h3⟩:=hs.ok hG;have ha:=cZ (x:=x) h1;have hlf:=kJ (x:=x) hs.way hG.fine;have hfin:G.lf t<0/\fa.getD t 0<never/\ ∀v,v<n->G.lf v<0->fa.getD t 0<=fa.getD v 0:=by
  rcases hr.fin with ⟨e,_⟩|⟨t',e,_,h4,h5,h6⟩
  ·omega
  ·obtain rfl:t'=t:=by omega
   exact⟨h4,h5,h6⟩
 have hneg: ∀v,v<n->(G.pushL ks x).lf v<0->G.lf v<0:=fun v hv hl=>by
  rw[hlf v]at hl;have:=hs.xs;have:=hs.x0
  by_cases e1:v=s
  ·subst e1
   by_cases e2:v=t
   ·subst e2;omega
   ·rw[if_pos rfl,if_neg e2]at hl;omega
  ·rw[if_neg e1]at hl
   split at hl<;>omega
 have hpos: ∀v,v<n->0<(G.pushL ks x).lf v->0<G.lf v:=fun v hv hl=>by
  rw[hlf v]at hl;have:=hs.xs;have:=hs.x0;have:=hs.xt
  by_cases e2:v=t
  ·subst e2
   rw[if_pos rfl]at hl
   split at hl<;>omega
  ·rw[if_neg e2]at hl
   split at hl<;>omega
 have ht0:=hr.top t hs.tn;have hup:=hr.up t hs.tn hfin.2.1;have hpt:=hp.need t hs.tn hfin.1;have hrc: ∀k,k<G.es.length->G.rc (qp n p fa (fa.getD t 0)) k=G.rc p k+min (fa.getD (G.frA k) 0) (fa.getD t 0)-min (fa.getD (G.toA k) 0) (fa.getD t 0):=fun k hk=>by
  unfold Gr.rc;rw[kK (hG.frL hk),kK (hG.toL hk)];omega
 have Vd: ∀k,k<G.es.length->0<G.room k->0<=G.rc (qp n p fa (fa.getD t 0)) k:=fun k hk hro=>by
  rw[hrc k hk];have h4:=hp.rc k hk hro
  by_cases h5:fa.getD (G.frA k) 0<never
  ·have:=(hr.bel k hk h5 hro).1
   omega
  ·omega
 have Qw: ∀k,k∈ks->G.rc (qp n p fa (fa.getD t 0)) k=0:=fun k hm=>by
  have hl:=(h1 k hm).1;have h4:=(hk k hm).2;have h5:=wN hG hp.rc hs.way hk (G.toA k) (hs.way.toIn k hm);have h6:=wN hG hp.rc hs.way hk (G.frA k) (List.mem_cons_of_mem _ (List.mem_map_of_mem hm));rw[hrc k hl];omega
 exact
 {len:=by simp[qp]
  lo:=fun v hv=>by
   rw[kK hv];have:=hp.lo v hv;have:=hr.top v hv;omega
  d:=by have:=hp.d;omega
  need:=fun v hv hl=>by
   rw[kK hv,hp.need v hv (hneg v hv hl)];have:=hfin.2.2 v hv (hneg v hv hl);omega
  rc:=fun k hkl hro=>by
   rw[ha.le]at hkl;rw[ha.rc];rw[h2 k]at hro
   by_cases h4:0<G.room k
   ·exact Vd k hkl h4
   ·have h5:tw k∈ks:=Decidable.byContradiction fun hn=>by
     rw[if_neg hn]at hro;have:=hs.x0
     split at hro<;>omega
    have h6:=Qw _ h5;have h7:G.rc (qp n p fa (fa.getD t 0)) (tw k)= -G.rc (qp n p fa (fa.getD t 0)) k:=by
     unfold Gr.rc;rw[hG.co k hkl];unfold Gr.frA;rw[lN];omega
    omega
  src:=fun v hv hl=>by
   have h4:=hpos v hv hl;rw[kK hv,hp.src v hv h4,hr.src v hv h4];omega}
structure Fits (N:Net) (G:Gr):Prop where
 es:G.es.length=2*N.arcs.length
 ll:G.left.length=N.sup.length
 t0: ∀i,i<N.arcs.length->G.toA (2*i)=toN N i/\G.toA (2*i+1)=frN N i
 c0: ∀i,i<N.arcs.length->G.cost (2*i)=(N.arcs.getD i default).cost/\G.cost (2*i+1)= -(N.arcs.getD i default).cost
 r0: ∀i,i<N.arcs.length->G.room (2*i)+G.room (2*i+1)=(N.arcs.getD i default).cap
 lf: ∀v,v<N.sup.length->G.lf v=lv N (fun j=>G.room (2*j+1)) N.arcs.length v
theorem lF (i:Nat):tw (2*i)=2*i+1:=by unfold tw;rw[if_pos (by omega)]
theorem jm (i:Nat):tw (2*i+1)=2*i:=by unfold tw;rw[if_neg (by omega)];omega
theorem Fits.fr {N:Net} {G:Gr} (h:Fits N G) (i:Nat) (hi:i<N.arcs.length):G.frA (2*i)=frN N i/\G.frA (2*i+1)=toN N i:=by
 unfold Gr.frA;rw[lF,jm];exact⟨(h.t0 i hi).2,(h.t0 i hi).1⟩
theorem Fits.push1 {N:Net} {G:Gr} (h:Fits N G) (hf:wM G) {k:Nat} (x:Int) (hk:k<G.es.length):Fits N (G.push1 k x):=by
 have hfk:=hf k hk;have ha:=dY (x:=x) hk hfk.2.2;have hr:=lC (x:=x) hk hfk.2.2;have hl:=oq (x:=x) hfk.2.1 hfk.1;refine⟨by rw[ha.le];exact h.es,by rw[ha.ll];exact h.ll,fun i hi=>by rw[ha.toA,ha.toA];exact h.t0 i hi,fun i hi=>by rw[ha.cost,ha.cost];exact h.c0 i hi,fun i hi=>?_,fun v hv=>?_⟩
 ·have:=h.r0 i hi
  rw[hr,hr,lF,jm]
  split<;>split<;>omega
 ·rw[hl v,h.lf v hv]
  have hes:=h.es;have hi:k/2<N.arcs.length:=by omega
  rcases (show k=2*(k/2)∨k=2*(k/2)+1 by omega)with e|e
  ·generalize k/2=i at *
   subst e;have hc:=pg (N:=N) (f:=fun j=>G.room (2*j+1)) (f':=fun j=>(G.push1 (2*i) x).room (2*j+1)) (i:=i) (d:=x)
    (by show(G.push1 (2*i) x).room (2*i+1)=G.room (2*i+1)+x;rw[hr,jm,if_neg (by omega),if_pos rfl];omega) (fun j hj=>by show(G.push1 (2*i) x).room (2*j+1)=G.room (2*j+1);rw[hr,jm,if_neg (by omega),if_neg (by omega)];omega) N.arcs.length v
   rw[hc,if_pos hi,(h.t0 i hi).1,(h.fr i hi).1];omega
  ·generalize k/2=i at *
   subst e;have hc:=pg (N:=N) (f:=fun j=>G.room (2*j+1)) (f':=fun j=>(G.push1 (2*i+1) x).room (2*j+1)) (i:=i) (d:= -x)
    (by show(G.push1 (2*i+1) x).room (2*i+1)=G.room (2*i+1)+ -x;rw[hr,jm,if_pos rfl,if_neg (by omega)];omega) (fun j hj=>by show(G.push1 (2*i+1) x).room (2*j+1)=G.room (2*j+1);rw[hr,jm,if_neg (by omega),if_neg (by omega)];omega) N.arcs.length v
   rw[hc,if_pos hi,(h.t0 i hi).2,(h.fr i hi).2]
   split<;>split<;>omega
theorem Fits.pushL {N:Net} {x:Int}: ∀{ks:List Nat} {G:Gr},Fits N G->wM G->(∀k,k∈ks->k<G.es.length)->Fits N (G.pushL ks x)
 |[],_,h,_,_=>h
 |k::ks,G,h,hf,hk=>by
  have hk0:=hk k (by simp);have ha:=dY (x:=x) hk0 (hf k hk0).2.2;exact Fits.pushL (ks:=ks) (h.push1 hf x hk0) (hf.alike ha) (fun j hj=>by rw[ha.le];exact hk j (by simp[hj]))
def aR (N:Net) (G:Gr):List Int:=(List.range N.arcs.length).map fun i=>G.room (2*i+1)
theorem fG {N:Net} {G:Gr} {i:Nat} (hi:i<N.arcs.length):(aR N G).getD i 0=G.room (2*i+1):=by
 simp[aR,zg,hi]
theorem gG (N:Net) (G:Gr):(aR N G).length=N.arcs.length:=by simp[aR]
theorem sP {N:Net} {f g:Nat->Int}: ∀(k:Nat) (v:Nat),(∀j,j<k->f j=g j)->lv N f k v=lv N g k v
 |0,_,_=>rfl
 |k+1,v,h=>by simp only[lv];rw[sP k v (fun j hj=>h j (by omega)),h k (by omega)]
def dA (l:List Int):Int:=sum (l.map (max 0))
theorem EP: ∀l:List Int,sum l=bZ (fun _=>1) (fun v=>l.getD v 0) l.length:=by
 intro l;have: ∀k,k<=l.length->sum (l.take k)=bZ (fun _=>1) (fun v=>l.getD v 0) k:=by
  intro k
  induction k with
  |zero=>intro _;simp[sum,bZ]
  |succ k ih=>
   intro hk;rw[jd l k (by omega),ih (by omega)];simp only[bZ];omega
 have h:=this l.length (Nat.le_refl _)
 rwa [List.take_length]at h
theorem sQ {g:Nat->Int}: ∀n:Nat,(∀v,v<n->0<=g v)->bZ (fun _=>1) g n=0-> ∀v,v<n->g v=0
 |0,_,_,v,hv=>absurd hv (Nat.not_lt_zero _)
 |n+1,h,e,v,hv=>by
  have h1:=CZ (q:=fun _=>1) (g:=g) n (fun v hv=>by have:=h v (by omega);omega);have h2:=h n (by omega);simp only[bZ]at e
  rcases (show v<n∨v=n by omega)with h3|rfl
  ·exact sQ n (fun v hv=>h v (by omega)) (by omega) v h3
  ·omega
theorem jJ (l:List Int):dA l=bZ (fun _=>1) (fun v=>max 0 (l.getD v 0)) l.length:=by
 unfold dA;rw[EP,List.length_map];exact jE _ (fun v hv=>by rw[getD_map (max 0) l v hv])
theorem lG (l:List Int):0<=dA l:=by
 rw[jJ];exact CZ _ (fun v _=>by omega)
theorem IM {N:Net} (h:chE N=0):sum N.sup=0:=by
 have h2:=(kI h).2;simp only[okB,Bool.and_eq_true,decide_eq_true_eq]at h2;exact h2.2.2.1
theorem GL {N:Net} {G:Gr} (h:chE N=0) (hf:Fits N G):bZ (fun _=>1) G.lf N.sup.length=0:=by
 rw[jE _ hf.lf,sN h _ _ _ (Nat.le_refl _),<-EP,IM h];have: ∀(f:Nat->Int) k,eH f (fun _=>(1:Int)-1) k=0:=fun f k=>by
  induction k with
  |zero=>rfl
  |succ k ih=>simp only[eH];rw[ih];simp
 rw[this];rfl
theorem l8 {N:Net} {G:Gr} {n:Nat} (hG:G.Ok n) (hf:Fits N G) (i:Nat) (hi:i<N.arcs.length):0<=G.room (2*i)/\0<=G.room (2*i+1):=by
 have h1:=hG.rm (2*i) (by rw[hf.es];omega);have h2:=hG.rm (2*i+1) (by rw[hf.es];omega);exact⟨h1.1,h2.1⟩
theorem mf {N:Net} {G:Gr} {p:List Int} (h:chE N=0) (hG:G.Ok N.sup.length) (hf:Fits N G) (hp: ∀k,k<G.es.length->0<G.room k->0<=G.rc p k) (h0:dA G.left=0):
 ak N (aR N G)=true/\aV N (aR N G) N.arcs.length=prA N p N.arcs.length:=by
 have hneg: ∀v,v<N.sup.length->G.lf v<=0:=fun v hv=>by
  rw[jJ,hf.ll]at h0;have:=sQ _ (fun v _=>by omega) h0 v hv;unfold Gr.lf;omega
 have hz: ∀v,v<N.sup.length->G.lf v=0:=fun v hv=>by
  have h1:=GL h hf;have h2:bZ (fun _=>1) (fun v=> -G.lf v) N.sup.length=0:=by
   have e:(fun v=> -G.lf v)=fun v=>(fun _=>(0:Int)) v-G.lf v:=by funext v;simp
   rw[e,rD,h1];generalize N.sup.length=n
   induction n with
   |zero=>rfl
   |succ n ih=>simp only[bZ];omega
  have:=sQ _ (fun v hv=>by have:=hneg v hv;omega) h2 v hv;omega
 have hfl:ak N (aR N G)=true:=nK (gG N G) (fun k hk=>by
  rw[fG hk];have:=l8 hG hf k hk;have:=hf.r0 k hk;omega) (fun v hv=>by
 rw[om h _ _ (Nat.le_refl _),sP (g:=fun j=>G.room (2*j+1)) _ _ (fun j hj=>fG hj),<-hf.lf v hv];exact hz v hv)
 refine⟨hfl,Qv h hfl (fun j hj=>?_)⟩;rw[fG hj];have h1:=hf.r0 j hj;have h2:=hf.c0 j hj;have h3:=hf.t0 j hj;have h4:=hf.fr j hj;have h5:=hf.es;constructor
 ·intro hl
  have:=hp (2*j) (by omega) (by omega);unfold Gr.rc at this;rw[h2.1,h3.1,h4.1]at this;exact this
 ·intro hl
  have:=hp (2*j+1) (by omega) hl;unfold Gr.rc at this;rw[h2.2,h3.2,h4.2]at this;unfold rcN;omega
def fq (n:Nat) (C:Nat->Bool):List Int:=((List.range n).filter C).map (fun (v:Nat)=>(v:Int))
theorem wO {n:Nat} {C:Nat->Bool} {v:Nat} (hv:v<n):inK (fq n C) (fq n C).length (v:Int)=C v:=by
 unfold inK fq;rw[List.take_length]
 by_cases h:C v=true
 ·rw[h,decide_eq_true_eq]
  exact List.mem_map.2 ⟨v,by simp[hv,h],rfl⟩
 ·have h':C v=false:=by simpa using h
  rw[h',decide_eq_false_iff_not];intro hm;obtain⟨u,hu,e⟩:=List.mem_map.1 hm;obtain rfl:u=v:=by omega
  simp[h']at hu
theorem mR {n:Nat} {C:Nat->Bool}: ∀k,k<(fq n C).length->cutAt n (fq n C) k=true:=by
 intro k hk;have hlen:(fq n C).length=((List.range n).filter C).length:=by simp[fq]
 have hget: ∀j,j<((List.range n).filter C).length->(fq n C).getD j 0=(((List.range n).filter C).getD j 0:Int):=fun j hj=>by
  simp[fq,zg,hj]
 have hs:((List.range n).filter C).Pairwise (· < ·):=List.Pairwise.filter _ List.pairwise_lt_range;rw[hlen]at hk;rw[dS];have hm:((List.range n).filter C).getD k 0<n:=by
  rw[zg,List.getElem?_eq_getElem hk];have:=List.getElem_mem hk;have:=(List.mem_filter.1 this).1;simpa using this
 refine⟨by rw[hget k hk];omega,by rw[hget k hk];omega,fun h0=>?_⟩;rw[hget k hk,hget (k-1) (by omega)];have:=List.pairwise_iff_getElem.1 hs (k-1) k (by omega) hk (by omega);rw[zg,List.getElem?_eq_getElem (show k-1<_ by omega),zg,List.getElem?_eq_getElem hk];simp only[Option.getD_some];omega
theorem rE (N:Net) (c:List Int) (k:Nat): ∀j,lkR N c k j=bZ (fun v=>if inK c k v=true then 1 else 0) (fun v=>N.sup.getD v 0) j
 |0=>rfl
 |j+1=>by
  simp only[lkR,bZ];rw[rE N c k j]
  split<;>simp
theorem rF (N:Net) (c:List Int): ∀k,lkA N c k=lkS N c c.length-eH (fun _=>1) (fun j=>if inK c c.length (N.arcs.getD j default).fr=true/\inK c c.length (N.arcs.getD j default).to=false then (N.arcs.getD j default).cap else 0) k
 |0=>by simp[lkA,eH]
 |k+1=>by simp only[lkA,eH];rw[rF N c k];omega
theorem dZ {N:Net} (h:chE N=0) (j:Nat) (hj:j<N.arcs.length):(N.arcs.getD j default).fr=(frN N j:Int)/\(N.arcs.getD j default).to=(toN N j:Int)/\frN N j<N.sup.length/\toN N j<N.sup.length:=by
 obtain⟨a1,a2,_⟩:=bX h j hj;unfold frN toN;omega
theorem oC {N:Net} {c:List Int} (h:chE N=0) (hc: ∀k,k<c.length->cutAt N.sup.length c k=true) (hl:0<lkA N c N.arcs.length) (fl:List Int):ak N fl=false:=by
 cases hb:ak N fl
 ·rfl
 ·exfalso
  have h1:=iE h hb;have h2:=sO (C:=fun v=>inK c c.length v) (f:=fun j=>fl.getD j 0) h;rw[jE (h:=fun _=>0) _ h1.1,<-rE,sK _ (Nat.le_refl _) hc]at h2;have h3:bZ (fun v=>if inK c c.length (v:Int)=true then (1:Int)else 0) (fun _=>0) N.sup.length=0:=by
   generalize N.sup.length=n
   induction n with
   |zero=>rfl
   |succ n ih=>simp only[bZ];rw[ih];simp
  rw[h3]at h2;rw[rF]at hl;have h4:=sM (f:=fun j=> -fl.getD j 0) (g:=fun j=>(if inK c c.length (toN N j:Int)=true then (1:Int)else 0)-(if inK c c.length (frN N j:Int)=true then 1 else 0))
   (h:=fun j=> -(if inK c c.length (N.arcs.getD j default).fr=true/\inK c c.length (N.arcs.getD j default).to=false then (N.arcs.getD j default).cap else 0)) N.arcs.length
  have XY: ∀(f g:Nat->Int) k,eH (fun j=> -f j) g k= -eH f g k:=fun f g k=>by
   induction k with
   |zero=>rfl
   |succ k ih=>simp only[eH];rw[ih,Int.neg_mul];omega
  have IP: ∀(g:Nat->Int) k,eH (fun _=>1) (fun j=> -g j) k= -eH (fun _=>1) g k:=fun g k=>by
   induction k with
   |zero=>rfl
   |succ k ih=>simp only[eH];rw[ih];omega
  have h5:eH (fun j=>fl.getD j 0) (fun j=>(if inK c c.length (toN N j:Int)=true then (1:Int)else 0)-(if inK c c.length (frN N j:Int)=true then 1 else 0)) N.arcs.length≥ -eH (fun _=>1) (fun j=>if inK c c.length (N.arcs.getD j default).fr=true/\inK c c.length (N.arcs.getD j default).to=false then (N.arcs.getD j default).cap else 0) N.arcs.length:=by
   have:=sM (f:=fun j=>fl.getD j 0) (g:=fun j=>(if inK c c.length (toN N j:Int)=true then (1:Int)else 0)-(if inK c c.length (frN N j:Int)=true then 1 else 0))
    (h:=fun j=> -(if inK c c.length (N.arcs.getD j default).fr=true/\inK c c.length (N.arcs.getD j default).to=false then (N.arcs.getD j default).cap else 0)) N.arcs.length (fun j hj=>by
      have e:=dZ h j hj;have b:=h1.2 j hj;rw[e.1,e.2.1];generalize fl.getD j 0=f at *;generalize (N.arcs.getD j default).cap=ca at *
      cases hA:inK c c.length (frN N j:Int)<;>cases hB:inK c c.length (toN N j:Int)<;>simp<;>omega)
   rw[IP]at this;exact this
  omega
theorem rG {N:Net} {G:Gr} {p fa vi:List Int} (h:chE N=0) (hG:G.Ok N.sup.length) (hf:Fits N G) (hr:NR G N.sup.length p fa vi (-1)):
 lkA N (fq N.sup.length (fun v=>decide (fa.getD v 0<never))) N.arcs.length=dA G.left:=by
 have hfin: ∀v,v<N.sup.length->fa.getD v 0<never->0<=G.lf v:=by
  rcases hr.fin with ⟨_,h1⟩|⟨t,e,_⟩
  ·exact h1
  ·omega
 generalize hC:(fun v=>decide (fa.getD v 0<never))=C;have hCv: ∀v,C v=decide (fa.getD v 0<never):=fun v=>by rw[<-hC]
 have h1:=sO (C:=C) (f:=fun j=>G.room (2*j+1)) h;have hc:=mR (n:=N.sup.length) (C:=C);have h2:bZ (fun v=>if C v=true then 1 else 0) (lv N (fun j=>G.room (2*j+1)) N.arcs.length) N.sup.length=dA G.left:=by
  rw[jJ,hf.ll];have: ∀k,k<=N.sup.length->bZ (fun v=>if C v=true then 1 else 0) (lv N (fun j=>G.room (2*j+1)) N.arcs.length) k=bZ (fun _=>1) (fun v=>max 0 (G.left.getD v 0)) k:=by
   intro k
   induction k with
   |zero=>intro _;rfl
   |succ k ih=>
    intro hk;simp only[bZ];rw[ih (by omega),<-hf.lf k (by omega)];have h3:=hfin k (by omega);have h4:=hr.src k (by omega);have e:G.left.getD k 0=G.lf k:=rfl;rw[e,hCv]
    by_cases h5:fa.getD k 0<never
    ·rw[if_pos (by simpa using h5)]
     have:=h3 h5;omega
    ·rw[if_neg (by simpa using h5)]
     have: ¬0<G.lf k:=fun hp=>by have:=h4 hp;unfold never at h5;omega
     omega
  exact this _ (Nat.le_refl _)
 rw[h2]at h1;rw[rF,<-sK _ (Nat.le_refl _) hc,rE];have e1:bZ (fun v=>if inK (fq N.sup.length C) (fq N.sup.length C).length (v:Int)=true then (1:Int)else 0) (fun v=>N.sup.getD v 0) N.sup.length=bZ (fun v=>if C v=true then 1 else 0) (fun v=>N.sup.getD v 0) N.sup.length:=by
  have: ∀k,k<=N.sup.length->bZ (fun v=>if inK (fq N.sup.length C) (fq N.sup.length C).length (v:Int)=true then (1:Int)else 0) (fun v=>N.sup.getD v 0) k=bZ (fun v=>if C v=true then 1 else 0) (fun v=>N.sup.getD v 0) k:=by
   intro k
   induction k with
   |zero=>intro _;rfl
   |succ k ih=>intro hk;simp only[bZ];rw[ih (by omega),wO (by omega)]
  exact this _ (Nat.le_refl _)
 rw[e1,h1];have IP: ∀(g:Nat->Int) k,eH (fun _=>1) (fun j=> -g j) k= -eH (fun _=>1) g k:=fun g k=>by
  induction k with
  |zero=>rfl
  |succ k ih=>simp only[eH];rw[ih];omega
 have h6:=o9 (f:=fun j=>G.room (2*j+1)) (g:=fun j=>(if C (toN N j)=true then (1:Int)else 0)-(if C (frN N j)=true then 1 else 0))
  (h:=fun j=> -(if inK (fq N.sup.length C) (fq N.sup.length C).length (N.arcs.getD j default).fr=true/\inK (fq N.sup.length C) (fq N.sup.length C).length (N.arcs.getD j default).to=false then (N.arcs.getD j default).cap else 0)) N.arcs.length (fun j hj=>by
    have e:=dZ h j hj;have b:=hf.r0 j hj;have rc:=l8 hG hf j hj;have t:=hf.t0 j hj;have f:=hf.fr j hj;have es:=hf.es;rw[e.1,e.2.1,wO e.2.2.1,wO e.2.2.2];have k1:=hr.bel (2*j) (by omega);have k2:=hr.bel (2*j+1) (by omega);rw[f.1,t.1]at k1;rw[f.2,t.2]at k2;generalize (N.arcs.getD j default).cap=ca at b ⊢;have c1:=hCv (frN N j);have c2:=hCv (toN N j)
    by_cases a1:fa.getD (frN N j) 0<never<;>by_cases a2:fa.getD (toN N j) 0<never<;>simp only[a1,a2,decide_true,decide_false]at c1 c2<;>rw[c1,c2]<;>simp
    ·have: ¬0<G.room (2*j):=fun hp=>a2 ((k1 a1 hp).2)
     omega
    ·have: ¬0<G.room (2*j+1):=fun hp=>a1 ((k2 a2 hp).2)
     omega)
 rw[IP]at h6;omega
def noC (a:Arc):Arc:=⟨a.fr,a.to,a.cap,0⟩
def zcN (N:Net):Net:=⟨N.sup,N.arcs.map noC⟩
theorem iK {N:Net} {j:Nat} (hj:j<N.arcs.length):(zcN N).arcs.getD j default=noC (N.arcs.getD j default):=by
 simp[zcN,zg,hj]
theorem fH (N:Net):(zcN N).arcs.length=N.arcs.length:=by simp[zcN]
theorem sU {N:Net} (h:chE N=0):chE (zcN N)=0:=by
 have h2:=kI h;have h3:fC (zcN N)=fC N:=by simp[fC,zcN]
 have h4:okB (zcN N)=true:=by
  have h5:=h2.2;simp only[okB,Bool.and_eq_true,List.all_eq_true,zcN,List.mem_map]at h5 ⊢;refine⟨h5.1,fun a ⟨b,hb,e⟩=>?_,h5.2.2⟩;have:=h5.2.1 b hb;subst e;have t:=of_decide_eq_true this;exact decide_eq_true ⟨t.1,t.2.1,t.2.2.1,t.2.2.2.1,by show(-1048576:Int)<=0/\(0:Int)<=1048576;omega⟩
 have h5:fC N=false:=h2.1;simp only[chE,h3,h5,h4,if_true];rfl
theorem sV {N:Net} {c:List Int}: ∀k,k<=N.arcs.length->lkA (zcN N) c k=lkA N c k
 |0,_=>by
  simp only[lkA];have: ∀k,lkS (zcN N) c k=lkS N c k:=fun k=>by
   induction k with
   |zero=>rfl
   |succ k ih=>simp only[lkS,ih];rfl
  exact this _
 |k+1,hk=>by
  simp only[lkA];rw[sV k (by omega),iK (by omega)];rfl
theorem ER {N:Net} {fl:List Int}: ∀k,k<=N.arcs.length->gU (zcN N) fl k=gU N fl k
 |0,_=>rfl
 |k+1,hk=>by
  simp only[gU];rw[ER k (by omega),iK (by omega)];rfl
theorem ES {N:Net} {fl:List Int}:ak (zcN N) fl=ak N fl:=by
 have h1:Gv (zcN N) fl=Gv N fl:=by
  unfold Gv;rw[fH];refine Bool.eq_iff_iff.2 ?_;simp only[List.all_eq_true,List.mem_range,decide_eq_true_eq];exact⟨fun h k hk=>by have:=h k hk;rw[iK hk]at this;exact this,fun h k hk=>by rw[iK hk];exact h k hk⟩
 simp only[ak,fH,h1];rw[ER _ (Nat.le_refl _)]
def exE (G:Gr) (u e k:Nat):Prop:=G.frA k=u/\e<=k
structure BfI (G:Gr) (n:Nat) (vi:List Int) (S P Q:List Nat) (ex:Nat->Prop):Prop where
 nd:S.Nodup
 lt: ∀v,v∈S->v<n
 vl:vi.length=n
 src: ∀v,v<n->0<G.lf v->v∈S
 chn:Chn G [] [] vi S
 dn: ∀v,v∈P->0<=G.lf v
 pq:(P++Q).Nodup
 mem: ∀v,v∈S↔v∈P∨v∈Q
 cl: ∀k,k<G.es.length->G.frA k∈P->0<G.room k-> ¬ex k->G.toA k∈S
structure BfS (G:Gr) (n:Nat) (vi:List Int) (S Q:List Nat) (i:Nat):Prop where
 nd:S.Nodup
 lt: ∀v,v∈S->v<i
 vl:vi.length=n
 src: ∀v,v<i->0<G.lf v->v∈S
 chn:Chn G [] [] vi S
 qn:Q.Nodup
 mem: ∀v,v∈S↔v∈Q
theorem iX (l:List Int) (i j:Nat) (x:Int) (hi:i<l.length):(l.set i x).getD j 0=if j=i then x else l.getD j 0:=by
 rw[zg,List.getElem?_set,zg]
 by_cases h:i=j
 ·subst h;simp[hi]
 ·rw[if_neg h,if_neg (fun e=>h e.symm)]
section
variable {G:Gr} {n:Nat} {vi:List Int} {S P Q:List Nat} {ex:Nat->Prop}
theorem BfS.start (G:Gr) (n:Nat):BfS G n (List.replicate n 0) [] [] 0:=
 ⟨List.nodup_nil,fun v h=>by simp at h,by simp,fun v h=>absurd h (Nat.not_lt_zero _),trivial,List.nodup_nil,fun v=>Iff.rfl⟩
theorem BfS.no {i:Nat} (h:BfS G n vi S Q i) (hl: ¬0<G.lf i):BfS G n vi S Q (i+1):=
 {h with
  lt:=fun v hv=>Nat.lt_succ_of_lt (h.lt v hv)
  src:=fun v hv h0=>by
   by_cases e:v=i
   ·subst e;exact absurd h0 hl
   ·exact h.src v (by omega) h0}
theorem BfS.yes {i:Nat} (h:BfS G n vi S Q i) (hi:i<n) (hl:0<G.lf i):BfS G n (vi.set i (-1)) (i::S) (Q++[i]) (i+1):=by
 have hS:i ∉ S:=fun hm=>absurd (h.lt i hm) (Nat.lt_irrefl i)
 have hne: ∀u,u∈S->u≠i:=fun u hu e=>hS (e▸hu)
 refine⟨List.nodup_cons.2 ⟨hS,h.nd⟩,fun v hv=>?_,by rw[List.length_set];exact h.vl,fun v hv h0=>?_,⟨?_,?_⟩,?_,fun v=>?_⟩
 ·rcases List.mem_cons.1 hv with rfl|hv
  ·omega
  ·have:=h.lt v hv;omega
 ·by_cases e:v=i
  ·subst e;simp
  ·exact List.mem_cons_of_mem _ (h.src v (by omega) h0)
 ·exact h.chn.keep (fun u hu=>⟨rfl,by rw[iX _ _ _ _ (by rw[h.vl];exact hi),if_neg (hne u hu)]⟩)
 ·exact .inl ⟨hl,rfl,by rw[iX _ _ _ _ (by rw[h.vl];exact hi),if_pos rfl]⟩
 ·rw[List.nodup_append]
  refine⟨h.qn,by simp,fun a ha b hb=>?_⟩;simp at hb;subst hb;exact hne a ((h.mem a).2 ha)
 ·rw[List.mem_cons,List.mem_append,List.mem_singleton,h.mem v]
  exact⟨fun h=>h.elim .inr .inl,fun h=>h.elim .inr .inl⟩
theorem BfS.bf (h:BfS G n vi S Q n):BfI G n vi S [] Q (fun _=>False):=
 ⟨h.nd,h.lt,h.vl,h.src,h.chn,fun v hv=>by simp at hv,by simpa using h.qn,fun v=>by simp[h.mem v],fun k _ hk=>by simp at hk⟩
theorem BfI.pop {u:Nat} (h:BfI G n vi S P (u::Q) (fun _=>False)) (hl:0<=G.lf u):BfI G n vi S (u::P) Q (exE G u 0):=by
 have hp:=h.pq;refine⟨h.nd,h.lt,h.vl,h.src,h.chn,fun v hv=>?_,?_,fun v=>?_,fun k hk hf hr hx=>?_⟩
 ·rcases List.mem_cons.1 hv with rfl|hv
  ·exact hl
  ·exact h.dn v hv
 ·have:(u::P++Q).Perm (P++u::Q):=by
   simpa using (List.perm_middle (a:=u) (l₁:=P) (l₂:=Q)).symm
  exact this.nodup_iff.2 hp
 ·rw[h.mem v,List.mem_cons,List.mem_cons]
  exact⟨fun h=>h.elim (fun a=>.inl (.inr a)) (fun h=>h.elim (fun a=>.inl (.inl a)) .inr),fun h=>h.elim (fun h=>h.elim (fun a=>.inr (.inl a)) .inl) (fun a=>.inr (.inr a))⟩
 ·rcases List.mem_cons.1 hf with e|hf
  ·exact absurd ⟨e,Nat.zero_le _⟩ hx
  ·exact h.cl k hk hf hr (fun h=>h)
theorem BfI.skip {u e:Nat} (h:BfI G n vi S P Q (exE G u e)) (hs:e<G.es.length->G.frA e=u->0<G.room e->G.toA e∈S):BfI G n vi S P Q (exE G u (e+1)):=
 {h with
  cl:=fun k hk hf hr hx=>by
   by_cases e2:k=e/\G.frA k=u
   ·obtain⟨e3,e4⟩:=e2
    subst e3;exact hs hk e4 hr
   ·exact h.cl k hk hf hr (fun hh=>hx ⟨hh.1,by
     have:=hh.2
     by_cases e3:k=e
     ·exact absurd ⟨e3,hh.1⟩ e2
     ·omega⟩)}
theorem BfI.visit {u e:Nat} (hG:G.Ok n) (hz: ∀k,k<G.es.length->G.cost k=0) (h:BfI G n vi S P Q (exE G u e)) (he:e<G.es.length) (hf:G.frA e=u) (hu:u∈S) (hr:0<G.room e) (ht:G.toA e ∉ S):BfI G n (vi.set (G.toA e) (e:Int)) (G.toA e::S) P (Q++[G.toA e]) (exE G u (e+1)):=by
 have hl:G.toA e<vi.length:=by rw[h.vl];exact hG.toL he
 have hne: ∀v,v∈S->v≠G.toA e:=fun v hv e2=>ht (e2▸hv)
 have hrc:G.rc [] e=0:=by unfold Gr.rc;rw[hz e he];rfl
 refine⟨List.nodup_cons.2 ⟨ht,h.nd⟩,fun v hv=>?_,by rw[List.length_set];exact h.vl,fun v hv h0=>List.mem_cons_of_mem _ (h.src v hv h0),⟨?_,?_⟩,h.dn,?_,fun v=>?_,fun k hk hfk hrk hx=>?_⟩
 ·rcases List.mem_cons.1 hv with rfl|hv
  ·exact hG.toL he
  ·exact h.lt v hv
 ·exact h.chn.keep (fun v hv=>⟨rfl,by rw[iX _ _ _ _ hl,if_neg (hne v hv)]⟩)
 ·exact .inr ⟨e,he,by rw[iX _ _ _ _ hl,if_pos rfl],rfl,hr,by rw[hf];exact hu,by rw[hrc];rfl⟩
 ·rw[<-List.append_assoc,List.nodup_append]
  refine⟨h.pq,by simp,fun a ha b hb=>?_⟩;simp at hb;subst hb;exact hne a ((h.mem a).2 (List.mem_append.1 ha))
 ·rw[List.mem_cons,List.mem_append,List.mem_singleton,h.mem v]
  exact⟨fun h=>h.elim (fun a=>.inr (.inr a)) (fun h=>h.elim .inl (fun a=>.inr (.inl a))),fun h=>h.elim (fun a=>.inr (.inl a)) (fun h=>h.elim (fun a=>.inr (.inr a)) .inl)⟩
 ·by_cases e3:k=e
  ·subst e3;simp
  ·exact List.mem_cons_of_mem _ (h.cl k hk hfk hrk (fun hh=>hx ⟨hh.1,by have:=hh.2;omega⟩))
theorem BfI.over {u:Nat} (h:BfI G n vi S P Q (exE G u G.es.length)):BfI G n vi S P Q (fun _=>False):=
 {h with cl:=fun k hk hf hr _=>h.cl k hk hf hr (fun hh=>by have:=hh.2;omega)}
theorem BfI.short (h:BfI G n vi S P Q ex):P.length+Q.length<=n:=by
 have h1:(P++Q).length<=n:=by
  have hsub:(P++Q) ⊆ List.range n:=fun v hv=>by simp;exact h.lt v ((h.mem v).2 (List.mem_append.1 hv))
  have:=h.pq.length_le_of_subset hsub;simpa using this
 simpa using h1
theorem BfI.cut {N:Net} (hG:G.Ok n) (hf:Fits (zcN N) G) (hn:n=(zcN N).sup.length) (hz: ∀k,k<G.es.length->G.cost k=0) (h:BfI G n vi S P [] (fun _=>False)): ∃fa wi,NR G n [] fa wi (-1):=by
 have hS: ∀v,v∈S↔v∈P:=fun v=>by rw[h.mem v];simp
 refine⟨(List.range n).map (fun v=>if v∈S then 0 else never),(List.range n).map (fun v=>if v∈S then vi.getD v 0 else -1),?_⟩;have hfa: ∀v,v<n->((List.range n).map (fun v=>if v∈S then (0:Int)else never)).getD v 0=if v∈S then 0 else never:=fun v hv=>by simp[zg,hv]
 have hwi: ∀v,v<n->((List.range n).map (fun v=>if v∈S then vi.getD v 0 else -1)).getD v 0=if v∈S then vi.getD v 0 else -1:=fun v hv=>by simp[zg,hv]
 have hnv:(0:Int)<never:=by decide
 have hlk: ∀v,v∈S-> -1<=vi.getD v 0/\vi.getD v 0<G.es.length:=by
  have key: ∀S,Chn G [] [] vi S-> ∀v,v∈S-> -1<=vi.getD v 0/\vi.getD v 0<G.es.length:=fun S=>by
   induction S with
   |nil=>intro _ v hv;simp at hv
   |cons u S ih=>
    intro hc v hv
    rcases List.mem_cons.1 hv with rfl|hv
    ·rcases hc.2 with ⟨_,_,e⟩|⟨k,hk,e,_⟩
     ·rw[e];omega
     ·rw[e];omega
    ·exact ih hc.1 v hv
  exact key S h.chn
 refine
 {l1:=by simp
  l2:=by simp
  top:=fun v hv=>by rw[hfa v hv];split<;>(unfold never;omega)
  src:=fun v hv h0=>by rw[hfa v hv,if_pos (h.src v hv h0)]
  via:=fun v hv=>by
   rw[hwi v hv]
   split
   ·rename_i hm;exact hlk v hm
   ·omega
  up:=fun v hv hl=>by
   rw[hfa v hv]at hl ⊢
   split at hl
   ·rename_i hm
    rw[if_pos hm];have h1:([]:List Int).getD v 0=0:=rfl;rw[h1];omega
   ·omega
  bel:=fun k hk hl hr=>by
   have hv:=hG.frL hk;have hw:=hG.toL hk;rw[hfa _ hv]at hl ⊢;rw[hfa _ hw];have hrc:G.rc [] k=0:=by unfold Gr.rc;rw[hz k hk];rfl
   split at hl
   ·rename_i hm
    have ht:=h.cl k hk ((hS _).1 hm) hr (fun h=>h);rw[if_pos ht,if_pos hm,hrc];omega
   ·omega
  ch:=⟨S,h.nd,fun v hv=>by
   rw[hfa v hv];constructor
   ·intro hm;rw[if_pos hm];exact hnv
   ·intro hl
    split at hl
    ·assumption
    ·omega,h.lt,by
   have h1:Chn G [] ((List.range n).map (fun v=>if v∈S then (0:Int)else never)) ((List.range n).map (fun v=>if v∈S then vi.getD v 0 else -1)) S:=h.chn.keep (fun u hu=>by
    have hlt:=h.lt u hu;exact⟨by rw[hfa u hlt,if_pos hu];rfl,by rw[hwi u hlt,if_pos hu]⟩)
   exact h1⟩
  fin:=.inl ⟨rfl,fun v hv hl=>by
   rw[hfa v hv]at hl
   split at hl
   ·rename_i hm;exact h.dn v ((hS v).1 hm)
   ·omega⟩}
end
theorem GM {N:Net} {G:Gr} (hf:Fits (zcN N) G): ∀k,k<G.es.length->G.cost k=0:=fun k hk=>by
 have hl:=hf.es;have hm:k/2<(zcN N).arcs.length:=by omega
 have h:=hf.c0 (k/2) hm;rw[iK (by rw[<-fH N];exact hm)]at h;have h0:(noC (N.arcs.getD (k/2) default)).cost=0:=rfl;rw[h0]at h
 rcases Nat.mod_two_eq_zero_or_one k with e|e
 ·have:k=2*(k/2):=by omega
  rw[this];exact h.1
 ·have:k=2*(k/2)+1:=by omega
  rw[this,h.2];rfl
end Dp
end Go.Proofs.Ytmebpglkeedaoaa
namespace Go.Proofs.Ytmebpglkeedaoaa
open Go.RowKit Dp
theorem dI.cell {B:Nat} {W:World} {g c:Nat} {xs:List Int} (h:dI B W g c xs) (j:Nat) (hj:j<xs.length):W.cell? ⟨g,j,none⟩=some (.int .i64 (xs.getD j 0)):=by
 rw[World.ownsRow.cellAt h j (by omega),List.getElem?_map,List.getElem?_eq_getElem hj,zg,List.getElem?_eq_getElem hj];rfl
theorem dI.free {B:Nat} {W:World} {g c:Nat} {xs:List Int} (h:dI B W g c xs) (j:Nat):W.frozen? ⟨g,j,none⟩=false:=World.ownsRow.frozenAt h j
theorem dI.put {B:Nat} {W:World} {g c:Nat} {xs:List Int} (h:dI B W g c xs) (j:Nat) (v:Int):dI B (W.setCell ⟨g,j,none⟩ (.int .i64 v)) g c (xs.set j v):=by
 have:=(World.ownsRow.stored h j (.int .i64 v)).1;unfold dI;rw[List.length_set,List.map_set];exact this
theorem dI.below {B:Nat} {W W':World} {g c:Nat} {xs:List Int} (h:dI B W g c xs) (hb:Below W.heap.size W W'):dI B W' g c xs:=bF h hb
theorem dI.lt {B:Nat} {W:World} {g c:Nat} {xs:List Int} (h:dI B W g c xs):B<=g/\g<W.heap.size:=World.ownsRow.lt h g rfl
theorem dI.mono {B B':Nat} {W:World} {g c:Nat} {xs:List Int} (h:dI B W g c xs) (hb:B'<=B):dI B' W g c xs:=⟨h.1,h.2.imp id (fun ⟨k,c,cur,hv,hb',r⟩=>⟨k,c,cur,hv,Nat.le_trans hb hb',r⟩)⟩
def flat {α:Type} (f:α->List Value) (l:List α):List Value:=l.flatMap f
theorem iF {α:Type} {f:α->List Value} {s:Nat} (hf: ∀x,(f x).length=s): ∀l:List α,(flat f l).length=l.length*s
 |[]=>by simp[flat]
 |x::l=>by
  have:=iF hf l;unfold flat at *;simp only[List.flatMap_cons,List.length_append,List.length_cons,hf,this,Nat.add_mul];omega
theorem fD {α:Type} {f:α->List Value} {s:Nat} (hf: ∀x,(f x).length=s): ∀(l:List α) (i j:Nat) (x:α),l[i]?=some x->j<s->(flat f l)[i*s+j]?=(f x)[j]?
 |[],i,j,x,h,_=>by simp at h
 |y::l,0,j,x,h,hj=>by
  simp only[List.getElem?_cons_zero,Option.some.injEq]at h;subst h;unfold flat;rw[List.flatMap_cons,Nat.zero_mul,Nat.zero_add,List.getElem?_append_left (by rw[hf];exact hj)]
 |y::l,i+1,j,x,h,hj=>by
  simp only[List.getElem?_cons_succ]at h;have ih:=fD hf l i j x h hj;unfold flat at *;rw[List.flatMap_cons,List.getElem?_append_right (by rw[hf,Nat.add_mul];omega),hf];rw[<-ih]
  congr 1
  rw[Nat.add_mul];omega
theorem kL {α:Type} {f:α->List Value} {s:Nat} (hf: ∀x,(f x).length=s) (j:Nat) (v:Value) (hj:j<s): ∀(l:List α) (i:Nat) (x y:α),l[i]?=some y->f x=(f y).set j v->(flat f l).set (i*s+j) v=flat f (l.set i x)
 |[],i,x,y,h,_=>by simp at h
 |z::l,0,x,y,h,he=>by
  simp only[List.getElem?_cons_zero,Option.some.injEq]at h;subst h;unfold flat;rw[List.flatMap_cons,Nat.zero_mul,Nat.zero_add,List.set_append_left _ _ (by rw[hf];exact hj),List.set_cons_zero,List.flatMap_cons,he]
 |z::l,i+1,x,y,h,he=>by
  simp only[List.getElem?_cons_succ]at h;have ih:=kL hf j v hj l i x y h he;unfold flat at *;rw[List.flatMap_cons,List.set_cons_succ,List.flatMap_cons,List.set_append_right _ _ (by rw[hf,Nat.add_mul];omega),hf,<-ih]
  congr 2
  rw[Nat.add_mul];omega
theorem eY {α:Type} (f:α->List Value) (a b:List α):flat f (a++b)=flat f a++flat f b:=by simp[flat]
theorem bL {α:Type} (l:List α) (i:Nat) (d:α) (h:i<l.length):l[i]?=some (l.getD i d):=by
 rw[zg,List.getElem?_eq_getElem h];rfl
def bB {α:Type} (f:α->List Value) (e:TypeId) (s:Nat) (B:Nat) (W:World) (A:Option Addr) (c:Nat) (l:List α):Prop:=W.ownsRow B e s (.slice A l.length c) l.length (flat f l)
section
variable {α:Type} {f:α->List Value} {e:TypeId} {s B:Nat} {W W':World} {g c:Nat} {l:List α} {A:Option Addr}
theorem bB.cell (hf: ∀x,(f x).length=s) (h:bB f e s B W (some ⟨g,0,none⟩) c l) (i j:Nat) (x:α) (hx:l[i]?=some x) (hj:j<s):W.cell? ⟨g,i*s+j,none⟩=(f x)[j]?:=by
 have hi:i<l.length:=(List.getElem?_eq_some_iff.1 hx).1;have:i*s+j<l.length*s:=by
  have:=Nat.mul_le_mul_right s (show i+1<=l.length from hi);rw[Nat.add_mul]at this;omega
 rw[World.ownsRow.cellAt h _ this,fD hf l i j x hx hj]
theorem bB.free (h:bB f e s B W (some ⟨g,0,none⟩) c l) (j:Nat):W.frozen? ⟨g,j,none⟩=false:=World.ownsRow.frozenAt h j
theorem bB.put (hf: ∀x,(f x).length=s) (h:bB f e s B W (some ⟨g,0,none⟩) c l) (i j:Nat) (x y:α) (v:Value) (hy:l[i]?=some y) (hj:j<s) (he:f x=(f y).set j v):bB f e s B (W.setCell ⟨g,i*s+j,none⟩ v) (some ⟨g,0,none⟩) c (l.set i x):=by
 have:=(World.ownsRow.stored h (i*s+j) v).1;unfold bB;rw[List.length_set,<-kL hf j v hj l i x y hy he];exact this
theorem bB.below (h:bB f e s B W A c l) (hb:Below W.heap.size W W'):bB f e s B W' A c l:=bF h hb
theorem bB.touch {S:Nat->Prop} (h:bB f e s B W A c l) (k:Touch S W W') (hn: ∀b,aK A b-> ¬S b):bB f e s B W' A c l:=AZ h k hn
theorem bB.lt (h:bB f e s B W (some ⟨g,0,none⟩) c l):B<=g/\g<W.heap.size:=World.ownsRow.lt h g rfl
theorem bB.mono {B':Nat} (h:bB f e s B W A c l) (hb:B'<=B):bB f e s B' W A c l:=⟨h.1,h.2.imp id (fun ⟨k,c,cur,hv,hb',r⟩=>⟨k,c,cur,hv,Nat.le_trans hb hb',r⟩)⟩
theorem bB.form (h:bB f e s B W A c l) (hn:0<l.length): ∃g,A=some ⟨g,0,none⟩/\B<=g/\g<W.heap.size/\l.length<=c/\c<=9223372036854775807:=by
 rcases h.2 with ⟨h0,h1⟩|⟨g,cap',cur,hv,hb,hg,hn',hcm,_⟩
 ·omega
 ·cases hv
  exact⟨g,rfl,hb,(Array.getElem?_eq_some_iff.1 hg).1,hn',by unfold maxLen at hcm;omega⟩
theorem bB.set_ne (h:bB f e s B W A c l) {p:Addr} (hp: ¬aK A p.block) (u:Value):bB f e s B (W.setCell p u) A c l:=bI h hp u
theorem bB.pop (hf: ∀x,(f x).length=s) (h:bB f e s B W (some ⟨g,0,none⟩) c l) (k:Nat) (hk:k+1=l.length):bB f e s B W (some ⟨g,0,none⟩) c (l.take k):=by
 unfold bB at h ⊢;rw[<-hk]at h;have hl:(l.take k).length=k:=by simp;omega
 rw[hl];have e1:flat f l=flat f (l.take k)++flat f (l.drop k):=by rw[<-eY,List.take_append_drop]
 rw[e1]at h;exact ownsRow_pop (by rw[iF hf,hl]) h
end
end Go.Proofs.Ytmebpglkeedaoaa
namespace Go.Proofs.Ytmebpglkeedaoaa
open Go Go.RowKit
structure wP (W:World) where
 w:World
 is:w=W
instance (W:World):Nonempty (wP W):=⟨⟨W,rfl⟩⟩
@[simp,go_sem] theorem wP.eq {W:World} (x:wP W):x.w=W:=x.is
def isMove (o:Oper):Bool:=(match o.op with|.move _=>true|_=>false)&&o.guard.isNone
def eQ (P:Program) (o:Oper) (a:Act) (w:World) (N:Value->World->Prop):Prop:=
 match (execOp a.eval o).run P w with
 |.ok (.value v) w'=>N v w'
 |.ok .skip w'=>N undef w'
 |.ok (.enter f args) w'=>Calls P f args w' fun e w''=> ∃v,e=.returned v/\N v w''
 |_=>False
def pF (P:Program) (C:World->Prop) (T:Act->World->Prop):List (Oper×Bool)->Act->World->Prop
 |[],a,w=>T a w
 |(o,f)::r,a,w=>eQ P o a w fun v w'=>(f=true->C w')/\pF P C T r (a.put o.dst v) w'
def spineB (ops:Array Oper) (k:Nat) (fl:List Bool) (lz:List Nat) (n:Nat):Bool:=
 Region.noSelect ops&&decide (k+fl.length<=ops.size)&&dstsOk n (ops.toList.take k)&&
 (List.range ops.size).all (fun i=>match ops[i]? with|some o=>o.after.all (fun e=> !Region.binds .any e||decide (e.on<i))|none=>false)&&
 (List.range k).all (fun i=>(List.range k).all fun j=>match ops[i]?,ops[j]? with
   |some oi,some oj=>(match oj.dst with|some d=> !(oi.looksAt ops).contains d||(decide (j<i)&&waitsB1 .any ops i j)|none=>false)
   |_,_=>false)&&
 (List.range k).all (fun i=>(List.range fl.length).all fun j=>match ops[i]?,ops[k+j]? with
   |some oi,some oj=>(match oj.dst with|some d=> !(oi.looksAt ops).contains d&&oi.dst != some d|none=>true)
   |_,_=>false)&&
 (List.range fl.length).all (fun s=>match ops[k+s]? with
   |some o=>o.guard.isNone&&(decide (s=0)||waitsB1 .any ops (k+s) (k+s-1))&&(List.range k).all (fun j=>match ops[j]? with
    |some oj=>(match oj.dst with|some d=> !(o.looksAt ops).contains d||waitsB1 .any ops (k+s) j|none=>false)
    |none=>false)&&(fl.getD s true||(List.range k).all (fun i=>lz.contains i||(coverB ops ops.size (fw ops (k+s) (List.replicate ops.size false))).getD i false))
   |none=>false)&&
 lz.all (fun i=>match ops[i]? with|some o=>isMove o|none=>false)&&
 (List.range ops.size).all (fun t=>decide (t<k+fl.length)||((coverB ops ops.size (fw ops t (List.replicate ops.size false))).take (k+fl.length)).all (fun b=>b))&&
 Region.seqB .any ops (ops.size-(k+fl.length)) (k+fl.length) (Array.replicate (k+fl.length) true++Array.replicate (ops.size-(k+fl.length)) false)
theorem mg {a b:Act} {t:Tmp} (hs:a.tmps.size=b.tmps.size) (h:ai a t=ai b t) (x:Option Tmp) (v:Value):ai (a.put x v) t=ai (b.put x v) t:=by
 by_cases hx:x=some t
 ·subst hx
  by_cases hl:t<a.tmps.size
  ·have hl':t<b.tmps.size:=hs▸hl
   rw[aX v hl,aX v hl']
  ·have hl': ¬t<b.tmps.size:=hs▸hl
   simp[ai,Act.put,hl,hl']
 ·rw[aO v hx,aO v hx,h]
theorem Bj {P:Program} {ops:Array Oper} {o:Oper} {v:Value} {a:Act} {W:World} (he:isMove o=true) (h:YieldsIn P ops (fun w'=> ∃x:wP W,w'=x.w) o v a) (V:World):YieldsIn P ops (fun w'=> ∃x:wP V,w'=x.w) o v a:=by
 unfold isMove at he;simp only[Bool.and_eq_true]at he;have hw:Region.wanted o (yielded ops a.tmps)=true:=by
  unfold Region.wanted;rw[Option.isNone_iff_eq_none.1 he.2]
 rcases h with ⟨_,h1⟩|⟨h1,_⟩
 ·refine .inl ⟨hw,fun w hx=>?_⟩
  have h2:=h1 W ⟨⟨W,rfl⟩,rfl⟩;have h3:=he.1;unfold Oper.quietAt at h2 ⊢
  cases ho:o.op<;>rw[ho]at h3<;>simp at h3
  rename_i x;have e: ∀w,(execOp a.eval o).run P w=.ok (.value (a.eval x)) w:=fun w=>by
   unfold execOp;simp only[ho];rfl
  rw[e]at h2 ⊢;simp only[Oper.quietUpon]at h2 ⊢;exact⟨trivial,h2.2⟩
 ·rw[hw]at h1;cases h1
theorem eQ.wp {P:Program} {o:Oper} {a b:Act} {w:World} {N:Value->World->Prop} {K:Act->World->Prop} {Q:Exit->Act->World->Prop} (h:eQ P o b w N) (he:execOp a.eval o=execOp b.eval o) (hK: ∀v w',N v w'->K (a.put o.dst v) w'):o.wp P a w K Q:=by
 unfold eQ at h;unfold Oper.wp;rw[he];generalize (execOp b.eval o).run P w=r at *
 cases r with
 |ok n w'=>
  cases n<;>simp only[Oper.upon]at h ⊢
  case value u=>exact hK _ _ h
  case skip=>exact hK _ _ h
  case enter f args=>exact h.mono fun e w'' ⟨v,hv,hn⟩=>by subst hv;exact hK _ _ hn
  all_goals exact h.elim
 |halt x w'=>exact h.elim
structure RL (P:Program) (ops:Array Oper) (k m:Nat) (lz:List Nat) (C:World->Prop) (T:Act->World->Prop) (sp:List (Oper×Bool)) (a0 af:Act) (s:Nat) (b:Act) (listed:Array Bool) (a:Act) (w:World):Prop where
 size:listed.size=ops.size
 closed: ∀j oj,ops[j]?=some oj->listed.getD j false=true-> ∀e∈oj.after,Region.binds .any e=true->listed.getD e.on false=true
 le:s<=m
 sdone: ∀j,j<s->listed.getD (k+j) false=true
 sleft: ∀t,k+s<=t->t<ops.size->listed.getD t true=false
 adef:a.defers=b.defers
 asize:a.tmps.size=a0.tmps.size
 bsize:b.tmps.size=a0.tmps.size
 put: ∀j o t,j<k->ops[j]?=some o->o.dst=some t->listed.getD j false=true->ai a t=ai b t
 same: ∀t,(∀j o,j<k->ops[j]?=some o->o.dst≠some t)->ai a t=ai b t
 keep: ∀j o t,j<k->ops[j]?=some o->o.dst=some t->ai b t=ai af t
 other: ∀t,(∀j o,j<k->ops[j]?=some o->o.dst≠some t)->(∀j o,j<m->ops[k+j]?=some o->o.dst≠some t)->ai b t=ai a0 t
 stage:pF P C T (sp.drop s) b w
 cw:C w∨ ∀i,i<k->i ∉ lz->listed.getD i false=true
section
variable {P:Program} {Q:Exit->Act->World->Prop} {W:World} {a0 af:Act} {l:List Oper}
theorem aD {id:Nat} (k:Nat) (fl:List Bool) (lz:List Nat) (af:Act) (C:World->Prop) (hm:P.follows .mixedOrders=true)
 (hB:spineB l.toArray k fl lz a0.tmps.size=true) (hC:C W.drew)
 (sw: ∀V:World,C V->wpQuiet P l.toArray (fun w'=> ∃x:wP V,w'=x.w) (fun a'=>a'=af) (l.take k) a0)
 (hS: ∀V:World,C V->pF P C (fun a w=>wpList P l.toArray Q (l.drop (k+fl.length)) a w) (((l.drop k).take fl.length).zip fl) af V):
 (Code.region id l.toArray true).wp P Q a0 W:=by
 unfold spineB at hB;rw[Bool.and_eq_true,Bool.and_eq_true,Bool.and_eq_true,Bool.and_eq_true,Bool.and_eq_true,Bool.and_eq_true,Bool.and_eq_true,Bool.and_eq_true,Bool.and_eq_true]at hB;obtain⟨⟨⟨⟨⟨⟨⟨⟨⟨hsel,hks⟩,hdst⟩,hback⟩,wB⟩,hap⟩,hsp⟩,hlz⟩,htl⟩,hseq⟩:=hB;simp only[decide_eq_true_eq,List.all_eq_true,List.mem_range,Bool.or_eq_true]at hks hback wB hap htl hlz hsp;have hsz:l.toArray.size=l.length:=by simp
 generalize hfm:fl.length=m at *;have hkl:k+m<=l.length:=by rw[<-hsz];exact hks
 have hdk:dstsOk a0.tmps.size (l.take k)=true:=hdst;have hall: ∀V:World,C V->lT P l.toArray (fun w'=> ∃x:wP V,w'=x.w) af (l.take k) a0:=fun V hV=>nT hdk (sw V hV)
 have hA0:=hall _ hC;have hget: ∀i,i<k->(l.take k)[i]?=l[i]?:=fun i hi=>by rw[List.getElem?_take];simp[hi]
 have AU: ∀t,(∀j o,j<k->l[j]?=some o->o.dst≠some t)->ai af t=ai a0 t:=fun t ht=>hA0.keep.2.2 t (fun o ho=>by
  obtain⟨j,hj⟩:=List.getElem?_of_mem ho;rw[List.getElem?_take]at hj
  split at hj
  ·exact ht j o (by assumption) hj
  ·cases hj)
 have nJ: ∀i o,l[i]?=some o-> ∀e∈o.after,Region.binds .any e=true->e.on<i:=by
  intro i o hi e he hb;have hil:i<l.length:=(List.getElem?_eq_some_iff.1 hi).1;have h1:=hback i (by rw[hsz];exact hil);have hi':l.toArray[i]?=some o:=by simpa using hi
  rw[hi']at h1;have h2:=Array.all_eq_true_iff_forall_mem.1 h1 e he;simpa [hb]using h2
 have pQ: ∀i o j oj d,i<k->l[i]?=some o->j<k->l[j]?=some oj->oj.dst=some d->d∈o.looksAt l.toArray->j<i/\waitsB1 .any l.toArray i j=true:=by
  intro i o j oj d hi ho hj hoj hd hmem;have h1:=wB i hi j hj;have ho':l.toArray[i]?=some o:=by simpa using ho
  have lU:l.toArray[j]?=some oj:=by simpa using hoj
  rw[ho',lU]at h1;simp only[hd]at h1;have hc:(o.looksAt l.toArray).contains d=true:=by simpa using hmem
  rw[hc]at h1;simpa using h1
 have RQ: ∀i o j oj d,i<k->l[i]?=some o->j<m->l[k+j]?=some oj->oj.dst=some d->d ∉ o.looksAt l.toArray/\o.dst≠some d:=by
  intro i o j oj d hi ho hj hoj hd;have h1:=hap i hi j hj;have ho':l.toArray[i]?=some o:=by simpa using ho
  have lU:l.toArray[k+j]?=some oj:=by simpa using hoj
  rw[ho',lU]at h1;simpa [hd]using h1
 have RS: ∀s o,s<m->l[k+s]?=some o->o.guard=none/\(s=0∨waitsB1 .any l.toArray (k+s) (k+s-1)=true)/\(∀j oj d,j<k->l[j]?=some oj->oj.dst=some d->d∈o.looksAt l.toArray->waitsB1 .any l.toArray (k+s) j=true)/\(fl.getD s true=true∨ ∀i,i<k->i ∉ lz->(coverB l.toArray l.toArray.size (fw l.toArray (k+s) (List.replicate l.toArray.size false))).getD i false=true):=by
  intro s o hs ho;have h1:=hsp s hs;have ho':l.toArray[k+s]?=some o:=by simpa using ho
  rw[ho']at h1;simp only[Bool.and_eq_true,Bool.or_eq_true,decide_eq_true_eq,List.all_eq_true,List.mem_range]at h1;obtain⟨⟨⟨g1,g2⟩,g3⟩,g4⟩:=h1;refine⟨Option.isNone_iff_eq_none.1 g1,g2,fun j oj d hj hoj hd hmem=>?_,g4.imp (fun x=>x) (fun h i hi hn=>(h i hi).resolve_left (by simpa using hn))⟩;have h2:=g3 j hj;have lU:l.toArray[j]?=some oj:=by simpa using hoj
  rw[lU]at h2;simp only[hd]at h2;have hc:(o.looksAt l.toArray).contains d=true:=by simpa using hmem
  rw[hc]at h2;simpa using h2
 have dlt: ∀i o,i<k->l[i]?=some o-> ∃d,o.dst=some d/\d<a0.tmps.size:=fun i o hi ho=>nV _ _ i o hdk (by rw[hget i (by omega)];exact ho)
 have dne: ∀i j o oj t,i<k->j<k->l[i]?=some o->l[j]?=some oj->i≠j->oj.dst=some t->o.dst≠some t:=fun i j o oj t hi hj ho hoj hne hd=>nW _ _ j i oj o t hdk (by rw[hget j (by omega)];exact hoj) (by rw[hget i (by omega)];exact ho) (Ne.symm hne) hd
 have fin: ∀(b:Act) (listed:Array Bool) (a:Act) (w:World),RL P l.toArray k m lz C (fun a w=>wpList P l.toArray Q (l.drop (k+m)) a w) (((l.drop k).take m).zip fl) a0 af m b listed a w->(∀i,i<k->listed.getD i false=true)-> ∀fuel,unl listed=fuel->wpAny P .any l.toArray Q fuel listed a w:=by
  intro b listed a w mm hdone fuel hu;have hLH:listed=Array.replicate (k+m) true++Array.replicate (l.toArray.size-(k+m)) false:=by
   apply Array.ext
   ·simp[mm.size];omega
   ·intro i h1 h2
    rcases Nat.lt_or_ge i (k+m)with h'|h
    rotate_left 1
    ·have:=mm.sleft i h (by rw[<-mm.size];exact h1)
     rw[Array.getElem_append_right (by simp;omega)];simpa [h1]using this
    ·have:listed.getD i false=true:=by
      rcases Nat.lt_or_ge i k with h3|h3
      ·exact hdone i h3
      ·have:=mm.sdone (i-k) (by omega)
       rwa [show k+(i-k)=i by omega]at this
     rw[Array.getElem_append_left (by simp;omega)];simpa [h1]using this
  have hab:a=b:=by
   refine qZ (by rw[mm.asize,mm.bsize]) mm.adef (fun t=>?_)
   by_cases hex: ∃j o,j<k/\l[j]?=some o/\o.dst=some t
   ·obtain⟨j,o,hj,ho,hd⟩:=hex
    exact mm.put j o t hj (by simpa using ho) hd (hdone j hj)
   ·exact mm.same t (fun j o hj ho hd=>hex ⟨j,o,hj,by simpa using ho,hd⟩)
  have hst:=mm.stage;have hnil:(((l.drop k).take m).zip fl).drop m=[]:=List.drop_eq_nil_of_le (by simp;omega);rw[hnil]at hst;have hfu:fuel=(l.drop (k+m)).length:=by
   rw[<-hu,hLH,nU];simp
  rw[hfu,hab,hLH];refine wpAny_of_seq (l.drop (k+m)) (k+m) _ b w (fun j=>by simp[List.getElem?_drop]) ?_ hst;have:(l.drop (k+m)).length=l.toArray.size-(k+m):=by simp
  rw[this];exact hseq
 have main: ∀(fuel s:Nat) (b:Act) (listed:Array Bool) (a:Act) (w:World),RL P l.toArray k m lz C (fun a w=>wpList P l.toArray Q (l.drop (k+m)) a w) (((l.drop k).take m).zip fl) a0 af s b listed a w->unl listed=fuel->wpAny P .any l.toArray Q fuel listed a w:=by
  intro fuel
  induction fuel with
  |zero=>
   intro s b listed a w mm hu;have hlist: ∀i,i<listed.size->listed.getD i false=true:=by
    intro i hi
    cases hc:listed.getD i false
    ·have:=jR (listed:=listed) (i:=i) hi (by rw[fJ hi];exact hc)
     omega
    ·rfl
   have hsm:s=m:=by
    rcases Nat.lt_or_ge s m with h|h
    ·have h1:=mm.sleft (k+s) (Nat.le_refl _) (by omega)
     have h2:=hlist (k+s) (by rw[mm.size];omega);rw[fJ (by rw[mm.size];omega),h2]at h1
     cases h1
    ·have:=mm.le;omega
   subst hsm;exact fin b listed a w mm (fun i hi=>hlist i (by rw[mm.size];omega)) _ hu
  |succ fuel ih=>
   intro s b listed a w mm hu
   by_cases hdone:(∀i,i<k->listed.getD i false=true)/\s=m
   ·obtain⟨h1,rfl⟩:=hdone
    exact fin b listed a w mm h1 _ hu
   ·have hex: ¬ ∀i,i<k+m->listed.getD i false=true:=by
     intro hh;refine hdone ⟨fun i hi=>hh i (by omega),?_⟩
     rcases Nat.lt_or_ge s m with h|h
     ·have h1:=mm.sleft (k+s) (Nat.le_refl _) (by omega)
      have h2:=hh (k+s) (by omega);rw[fJ (by rw[mm.size];omega),h2]at h1
      cases h1
     ·have:=mm.le;omega
    obtain⟨i0,hi0,hpre,sF⟩:=iW listed (k+m) hex;refine⟨fun h0=>?_,fun i hi=>?_⟩
    ·have hr:i0∈Region.ready .any l.toArray listed:=by
      rw[mem_ready];refine⟨by rw[fJ (by rw[mm.size];omega)];exact sF,l[i0]'(by omega),by simp,fun e he hb=>hpre _ ?_⟩;exact nJ i0 _ (by simp) e he hb
     rw[h0]at hr
     cases hr
    ·obtain⟨hun,o,ho,hw⟩:=mem_ready.1 hi
     have hil:i<l.length:=by
      have:=(Array.getElem?_eq_some_iff.1 ho).1;simpa using this
     have hol:l[i]?=some o:=by simpa using ho
     have hun':unl (listed.setIfInBounds i true)=fuel:=by
      have:=jR (listed:=listed) (i:=i) (by rw[mm.size];omega) hun;omega
     have RU: ∀q,(coverB l.toArray l.toArray.size (fw l.toArray i (List.replicate l.toArray.size false))).getD q false=true->listed.getD q false=true:=by
      intro q h2;refine jw (ops:=l.toArray) mm.closed l.toArray.size _ (fun j hj=>?_) q h2;unfold fw at hj;rw[ho]at hj;refine jT _ _ (fun e he hb=>hw e (by simpa using he) hb) (fun q hq=>?_) j hj;rw[zg,List.getElem?_replicate]at hq
      split at hq<;>cases hq
     have hik:i<k+m:=by
      rcases Nat.lt_or_ge i (k+m)with h|h
      rotate_left 1
      ·have h1:=(htl i (by omega)).resolve_left (by omega)
       have h2:(coverB l.toArray l.toArray.size (fw l.toArray i (List.replicate l.toArray.size false))).getD i0 false=true:=by
        have hlen:=jy (ops:=l.toArray) l.toArray.size (fw l.toArray i (List.replicate l.toArray.size false));rw[jU,List.length_replicate]at hlen;have hm:(coverB l.toArray l.toArray.size (fw l.toArray i (List.replicate l.toArray.size false)))[i0]'(by rw[hlen,hsz];omega)∈(coverB l.toArray l.toArray.size (fw l.toArray i (List.replicate l.toArray.size false))).take (k+m):=
         List.mem_take_iff_getElem.2 ⟨i0,by rw[hlen,hsz];omega,rfl⟩
        have:=h1 _ hm;rw[zg,List.getElem?_eq_getElem (by rw[hlen,hsz];omega)];exact this
       have h3:=RU i0 h2;rw[sF]at h3
       cases h3
      ·exact h
     have hclosed: ∀j oj,l.toArray[j]?=some oj->(listed.setIfInBounds i true).getD j false=true-> ∀e∈oj.after,Region.binds .any e=true->(listed.setIfInBounds i true).getD e.on false=true:=by
      intro j oj hj hl e he hb
      by_cases hji:i=j
      ·subst hji
       rw[ho]at hj
       cases hj
       exact getD_set_true (hw e he hb)
      ·rw[getD_set_ne false hji]at hl
       exact getD_set_true (mm.closed j oj hj hl e he hb)
     have Ve:(listed.setIfInBounds i true).getD i false=true:=by
      have:i<listed.size:=by rw[mm.size];omega
      simp[this]
     rcases Nat.lt_or_ge i k with uZ|uZ
     ·
      obtain⟨d,hod,AV⟩:=dlt i o uZ hol;have jS: ∀t∈o.looksAt l.toArray,ai a t=ai (fI af ((l.take k).take i) a0) t:=by
       intro t ht;rw[jG _ _ _ (jc _ _ _ hdk)]
       by_cases hex: ∃j oj,j<k/\l[j]?=some oj/\oj.dst=some t
       ·obtain⟨j,oj,hj,hoj,hdt⟩:=hex
        obtain⟨hji,hwt⟩:=pQ i o j oj t uZ hol hj hoj hdt ht;obtain⟨e,he,hb,heo⟩:=dV ho hwt;have hlj:=hw e he hb;rw[heo]at hlj;rw[mm.put j oj t hj (by simpa using hoj) hdt hlj,mm.keep j oj t hj (by simpa using hoj) hdt,if_pos];rw[List.any_eq_true];refine⟨oj,?_,by simp[hdt]⟩;refine List.mem_of_getElem? (i:=j) ?_;rw[List.getElem?_take,List.getElem?_take];simp only[hji,show j<k by omega,if_true,hoj]
       ·rw[mm.same t (fun j oj hj hoj hdt=>hex ⟨j,oj,hj,by simpa using hoj,hdt⟩),mm.other t (fun j oj hj hoj hdt=>hex ⟨j,oj,hj,by simpa using hoj,hdt⟩) (fun j oj hj hoj hdt=>(RQ i o j oj t uZ hol hj (by simpa using hoj) hdt).1 ht),if_neg]
        intro hany;rw[List.any_eq_true]at hany;obtain⟨oj,hmem,hdt⟩:=hany;obtain⟨j,hj⟩:=List.getElem?_of_mem (List.mem_of_mem_take hmem);rw[List.getElem?_take]at hj
        split at hj
        ·exact hex ⟨j,oj,by omega,hj,by simpa using hdt⟩
        ·cases hj
      have hy:YieldsIn P l.toArray (fun w'=> ∃x:wP w,w'=x.w) o (leftBy af o) (fI af ((l.take k).take i) a0):=by
       by_cases hz:i∈lz
       ·refine Bj ?_ (hA0.get (i:=i) (o:=o) (by rw[List.getElem?_take];simp[uZ,hol])) w
        have:=hlz i hz;rw[ho]at this;exact this
       ·have hcw:C w:=mm.cw.resolve_right (fun h=>by
         have h1:=h i uZ hz;rw[fJ (by rw[mm.size];omega),h1]at hun
         cases hun)
        exact(hall w hcw).get (i:=i) (o:=o) (by rw[List.getElem?_take];simp[uZ,hol])
      have he:execOp a.eval o=execOp (fI af ((l.take k).take i) a0).eval o:=execOp_congr o (fun cs b=>Region.noSelect_spec hsel i o cs b ho) (fun x hx=>by
       cases x with
       |tmp t=>exact jS t (List.mem_append_left _ (List.mem_filterMap.2 ⟨.tmp t,by simpa using hx,rfl⟩))
       |_=>rfl)
      have hy':=hy.of_same he (gy jS);refine wpOp_of_qOp (C:=fun w'=> ∃x:wP w,w'=x.w) ⟨⟨w,rfl⟩,rfl⟩ (fun a' w' hx ha=>?_) (hy'.qOp ho (K:=fun a'=>a'=a.put o.dst (leftBy af o)) rfl);obtain⟨⟨x,hxw⟩,rfl⟩:=hx;subst hxw;subst ha;have hvb:leftBy af o=ai b d:=by
       rw[mm.keep i o d uZ ho hod];simp[leftBy,hod]
      refine ih s b _ _ _ ⟨by simp[mm.size],hclosed,mm.le,fun j hj=>getD_set_true (mm.sdone j hj),fun t ht ht'=>by rw[getD_set_ne true (by omega)];exact mm.sleft t ht ht',by rw[dH];exact mm.adef,by rw[size_put];exact mm.asize,mm.bsize,?_,?_,mm.keep,mm.other,mm.stage,mm.cw.imp (fun x=>x) (fun h q hq hz=>getD_set_true (h q hq hz))⟩ hun'
      ·intro j oj t hj hoj hdt hl
       by_cases hji:i=j
       ·subst hji
        rw[ho]at hoj
        cases hoj
        rw[hod]at hdt
        cases hdt
        rw[hod,aX _ (by rw[mm.asize];exact AV),hvb]
       ·rw[getD_set_ne false hji]at hl
        rw[aO _ (dne i j o oj t uZ hj hol (by simpa using hoj) hji hdt)];exact mm.put j oj t hj hoj hdt hl
      ·intro t hno
       rw[aO _ (hno i o uZ ho)];exact mm.same t hno
     ·
      have his:i=k+s:=by
       rcases Nat.lt_or_ge i (k+s)with h|h
       ·have:=mm.sdone (i-k) (by omega)
        rw[show k+(i-k)=i by omega]at this;rw[fJ (by rw[mm.size];omega),this]at hun
        cases hun
       ·rcases Nat.lt_or_ge (k+s) i with h2|h2
        ·obtain⟨_,g2,_,_⟩:=RS (i-k) o (by omega) (by rw[show k+(i-k)=i by omega];exact hol)
         have g3:=g2.resolve_left (by omega);rw[show k+(i-k)=i by omega]at g3;obtain⟨e,he,hb,heo⟩:=dV ho g3;have hlj:=hw e he hb;rw[heo]at hlj;have:=mm.sleft (i-1) (by omega) (by omega);rw[fJ (by rw[mm.size];omega),hlj]at this
         cases this
        ·omega
      subst his;have hs:s<m:=by omega
      obtain⟨g1,g2,g3,g4⟩:=RS s o hs hol;have Vf:(((l.drop k).take m).zip fl).drop s=(o,fl[s]'(by omega))::(((l.drop k).take m).zip fl).drop (s+1):=by
       rw[List.drop_eq_getElem_cons (by simp;omega)]
       congr 1
       simp only[List.getElem_zip,List.getElem_take,List.getElem_drop];rw[List.getElem?_eq_getElem hil]at hol;simp only[Option.some.injEq]at hol;rw[hol]
      have hst:=mm.stage;rw[Vf]at hst;have jS: ∀t∈o.looksAt l.toArray,ai a t=ai b t:=by
       intro t ht
       by_cases hex: ∃j oj,j<k/\l[j]?=some oj/\oj.dst=some t
       ·obtain⟨j,oj,hj,hoj,hdt⟩:=hex
        obtain⟨e,he,hb,heo⟩:=dV ho (g3 j oj t hj hoj hdt ht);have hlj:=hw e he hb;rw[heo]at hlj;exact mm.put j oj t hj (by simpa using hoj) hdt hlj
       ·exact mm.same t (fun j oj hj hoj hdt=>hex ⟨j,oj,hj,by simpa using hoj,hdt⟩)
      have he:execOp a.eval o=execOp b.eval o:=execOp_congr o (fun cs b=>Region.noSelect_spec hsel _ o cs b ho) (fun x hx=>by
       cases x with
       |tmp t=>exact jS t (List.mem_append_left _ (List.mem_filterMap.2 ⟨.tmp t,by simpa using hx,rfl⟩))
       |_=>rfl)
      unfold wpOp;rw[ho];simp only;rw[if_pos (by unfold Region.wanted;rw[g1])];refine .inl (eQ.wp hst he (fun v w' hN=>?_));refine ih (s+1) (b.put o.dst v) _ _ _ ⟨by simp[mm.size],hclosed,hs,fun j hj=>?_,fun t ht ht'=>by rw[getD_set_ne true (by omega)];exact mm.sleft t (by omega) ht',by rw[dH,dH];exact mm.adef,by rw[size_put];exact mm.asize,by rw[size_put];exact mm.bsize,?_,?_,?_,?_,hN.2,?_⟩ hun'
      ·by_cases hjs:j=s
       ·subst hjs;exact Ve
       ·exact getD_set_true (mm.sdone j (by omega))
      ·intro j oj t hj hoj hdt hl
       rw[getD_set_ne false (by omega)]at hl;exact mg (by rw[mm.asize,mm.bsize]) (mm.put j oj t hj hoj hdt hl) _ _
      ·intro t hno
       exact mg (by rw[mm.asize,mm.bsize]) (mm.same t hno) _ _
      ·intro j oj t hj hoj hdt
       rw[aO _ (fun e=>(RQ j oj s o t hj (by simpa using hoj) hs hol e).2 hdt)];exact mm.keep j oj t hj hoj hdt
      ·intro t h1 h2
       rw[aO _ (h2 s o hs ho)];exact mm.other t h1 h2
      ·rcases g4 with g4|g4
       ·refine .inl (hN.1 ?_)
        rw[zg,List.getElem?_eq_getElem (by omega)]at g4;exact g4
       ·exact .inr (fun q hq hz=>getD_set_true (RU q (g4 q hq hz)))
 have hrep: ∀i d,i<l.toArray.size->(Array.replicate l.toArray.size false).getD i d=false:=fun i d hi=>by simp at hi;simp[hi]
 refine wp_region_any hm (main _ 0 af _ a0 _ ?_ (by rw[rq]));refine⟨by simp,?_,Nat.zero_le _,fun j hj=>absurd hj (Nat.not_lt_zero _),fun t _ ht=>hrep t _ ht,hA0.keep.2.1.symm,rfl,hA0.keep.1,?_,?_,fun _ _ _ _ _ _=>rfl,?_,?_,.inl hC⟩
 ·intro j oj hj h
  rw[hrep j _ (Array.getElem?_eq_some_iff.1 hj).1]at h
  cases h
 ·intro j o t _ ho _ h
  rw[hrep j _ (Array.getElem?_eq_some_iff.1 ho).1]at h
  cases h
 ·intro t hno
  exact(AU t (fun j o hj ho=>hno j o hj (by simpa using ho))).symm
 ·intro t h1 _
  exact AU t (fun j o hj ho=>h1 j o hj (by simpa using ho))
 ·exact hS _ hC
end
end Go.Proofs.Ytmebpglkeedaoaa
namespace Go.Proofs.Ytmebpglkeedaoaa
open Go.RowKit Dp
theorem lH {P:Program} {o:Oper} {a:Act} {w:World} {N:Value->World->Prop} (s x:Operand) (t:TypeId)
 (ho:o.op=.call {callee:=.builtin .append,args:= #[s,x],argTypes:= #[t,t]})
 (base:Nat) (e:TypeId) (i:TypeInfo) (z:Value) (size bytes:Nat) (ht:P.underlying t=some (.slice e)) (hi:P.info? e=some i) (hz:i.zero=some z)
 (hsize:i.size=size) (hby:i.bytes=bytes) (hzs:z.cells.size=size) (hsz:0<size)
 (A:Option Addr) (n cap:Nat) (xs:List Value) (hs:a.eval s=.slice A n cap) (hown:w.ownsRow base e size (.slice A n cap) n xs)
 (Bo:Option Addr) (m c:Nat) (news:List Value) (hx:a.eval x=.slice Bo m c) (hl:news.length=m*size) (hnews:kC w Bo m news) (h1: ∀u∈news,u.oneCell'=true)
 (h63:n+m<=maxLen) (hbytes:(n+m)*bytes<=140737488355328) (hbase:base<=w.heap.size)
 (h: ∀A' cap' w',w'.ownsRow base e size (.slice A' (n+m) cap') (n+m) (xs++news)->w.grownBy w' (Value.slice A n cap).ownBlock->(∀k,aK A' k->aK A k∨k=w.heap.size)->N (.slice A' (n+m) cap') w'):eQ P o a w N:=by
 obtain⟨A',cap',w',hr,h2,h3,h4⟩:=jH (P:=P) t o.type base e i z size bytes ht hi hz hsize hby hzs hsz A n cap xs hown Bo m c news hl hnews h1 h63 hbytes hbase;unfold eQ execOp;simp only[ho,resolve,invoke,builtin,Sem.run_bind,Sem.run_pure,Result.andThen_ok,List.map_toArray,List.map_cons,List.map_nil,hs,hx,hr];exact h A' cap' w' h2 h3 h4
theorem aI {P:Program} {C:World->Prop} {T:Act->World->Prop} {o:Oper} {f:Bool} {r:List (Oper×Bool)} {a:Act} {w:World} (h:eQ P o a w fun v w'=>(f=true->C w')/\pF P C T r (a.put o.dst v) w'):pF P C T ((o,f)::r) a w:=h
theorem bJ {P:Program} {C:World->Prop} {T:Act->World->Prop} {a:Act} {w:World} (h:T a w):pF P C T [] a w:=h
theorem Da (a b c d:Int) (w:World):Calls Try.prog 101 #[.agg #[.int .i64 a,.int .i64 b],.agg #[.int .i64 c,.int .i64 d]] w fun e w'=>e=.returned (.bool (decide (b<d)))/\Below w.heap.size w w':=by
 go_enter Try.func101,Try.ntmps101
 go_wp2
 go_ret;refine⟨rfl,?_⟩;exact((Below.refl w.heap.size w).alloc (Nat.le_refl _) _).alloc (by simp) _
def IQ (e:Vs):List Value:=[.int .i64 e.1,.int .i64 e.2]
theorem mh (e:Vs):(IQ e).length=2:=rfl
theorem Mx:(Try.prog.info? 154).map (fun i=>(i.zero,i.size,i.bytes))=some (some (.agg #[.int .i64 0,.int .i64 0]),2,16):=by kernel_rfl
def jg (w:World) (B b:Nat) (A:Option Addr) (c:Nat) (l:List Vs):Prop:=Blk w b 158 [.slice A l.length c,.func (.func 101) #[] #[]]/\bB IQ 154 2 B w A c l/\ ¬aK A b
theorem jg.below {w w':World} {B b:Nat} {A:Option Addr} {c:Nat} {l:List Vs} (h:jg w B b A c l) (k:Below w.heap.size w w'):jg w' B b A c l:=⟨h.1.below k h.1.lt,h.2.1.below k,h.2.2⟩
def wQ (w:World) (B b:Nat) (A:Option Addr) (c:Nat) (l:List Vs) (x y:Int) (V:World):Prop:=jg V B b A c l/\Below w.heap.size w V/\Blk V w.heap.size 154 [.int .i64 x,.int .i64 y]
theorem wQ.alloc {w:World} {B b:Nat} {A:Option Addr} {c:Nat} {l:List Vs} {x y:Int} {V:World} (h:wQ w B b A c l x y V) (o:Obj):wQ w B b A c l x y (V.alloc o):=
 ⟨h.1.below ((Below.refl _ _).alloc (Nat.le_refl _) _),h.2.1.alloc h.2.1.size _,h.2.2.alloc _⟩
theorem wQ.drew {w:World} {B b:Nat} {A:Option Addr} {c:Nat} {l:List Vs} {x y:Int} {V:World} (h:wQ w B b A c l x y V):wQ w B b A c l x y V.drew:=⟨⟨h.1.1.drew,h.1.2.1.drew,h.1.2.2⟩,h.2.1.drew,h.2.2.drew⟩
def oD (w:World) (B b:Nat) (A:Option Addr) (l:List Vs) (x y:Int) (g c':Nat) (l':List Vs) (W:World):Prop:=
 jg W B b (some ⟨g,0,none⟩) c' l'/\l'.Perm ((x,y)::l)/\Touch (fun k=>k=b∨aK A k) w W/\(aK A g∨w.heap.size<=g)
theorem aA {g k:Nat}:aK (some ⟨g,0,none⟩) k↔k=g:=⟨fun ⟨a,h,e⟩=>by cases h;exact e.symm,fun h=>⟨_,rfl,h.symm⟩⟩
theorem IU {w V W:World} {B b:Nat} {A:Option Addr} {c:Nat} {l:List Vs} {x y:Int} {g c':Nat} (hV:wQ w B b A c l x y V) (ho:W.ownsRow B 154 2 (.slice (some ⟨g,0,none⟩) (l.length+1) c') (l.length+1) (flat IQ l++[.int .i64 x,.int .i64 y]))
 (hg:V.grownBy W (Value.slice A l.length c).ownBlock) (hk:aK A g∨g=V.heap.size) (hb:b<w.heap.size):
 oD w B b A l x y g c' (l++[(x,y)]) (W.setCell ⟨b,0,none⟩ (.slice (some ⟨g,0,none⟩) (l.length+1) c')):=by
 have hbV:b<V.heap.size:=Nat.lt_of_lt_of_le hb hV.2.1.size;have hbg:b≠g:=by
  intro e;subst e
  rcases hk with hk|hk
  ·exact hV.1.2.2 hk
  ·omega
 have h1:Blk W b 158 [.slice A l.length c,.func (.func 101) #[] #[]]:=hV.1.1.grown hg (fun e=>hV.1.2.2 (bE.2 e.symm));have h2:=h1.setCell 0 (.slice (some ⟨g,0,none⟩) (l.length+1) c');have hl:(l++[(x,y)]).length=l.length+1:=by simp
 refine⟨⟨by rw[hl];exact h2,?_,fun h=>hbg (aA.1 h)⟩,?_,?_,?_⟩
 ·have h3:bB IQ 154 2 B W (some ⟨g,0,none⟩) c' (l++[(x,y)]):=by
   unfold bB;rw[hl,eY];exact ho
  exact h3.set_ne (fun h=>hbg (aA.1 h)) _
 ·exact List.perm_append_singleton _ _
 ·refine Touch.setCell ?_ (.inl (.inl rfl)) _
  exact(Touch.of_below hV.2.1).grown hg (fun k e=>.inl (.inr (bE.2 e)))
 ·rcases hk with hk|hk
  ·exact .inl hk
  ·right;have:=hV.2.1.size;omega
theorem oD.below {w W W':World} {B b:Nat} {A:Option Addr} {l:List Vs} {x y:Int} {g c':Nat} {l':List Vs} (h:oD w B b A l x y g c' l' W) (hb:Below W.heap.size W W'):oD w B b A l x y g c' l' W':=
 ⟨h.1.below hb,h.2.1,h.2.2.1.below hb,h.2.2.2⟩
theorem oD.drew {w W:World} {B b:Nat} {A:Option Addr} {l:List Vs} {x y:Int} {g c':Nat} {l':List Vs} (h:oD w B b A l x y g c' l' W):oD w B b A l x y g c' l' W.drew:=h.below (Below.refl _ _).drew
theorem jg.put {w:World} {B b g c:Nat} {l:List Vs} (h:jg w B b (some ⟨g,0,none⟩) c l) (i:Nat) (e:Vs) (hi:i<l.length):jg ((w.setCell ⟨g,i*2,none⟩ (.int .i64 e.1)).setCell ⟨g,i*2+1,none⟩ (.int .i64 e.2)) B b (some ⟨g,0,none⟩) c (l.set i e):=by
 have hbg:b≠g:=fun e=>h.2.2 (aA.2 e)
 refine⟨by rw[List.length_set];exact(h.1.setCell_ne (p:=⟨g,i*2,none⟩) hbg _).setCell_ne (p:=⟨g,i*2+1,none⟩) hbg _,?_,h.2.2⟩;have h1:=h.2.1.put mh i 0 (e.1,(l.getD i (0,0)).2) (l.getD i (0,0)) (.int .i64 e.1) (bL l i (0,0) hi) (by omega) rfl;have h2:=h1.put mh i 1 e (e.1,(l.getD i (0,0)).2) (.int .i64 e.2) (by rw[List.getElem?_set_self hi]) (by omega) rfl;rw[List.set_set]at h2;exact h2
theorem jg.cells {w:World} {B b g c:Nat} {l:List Vs} (h:jg w B b (some ⟨g,0,none⟩) c l) (i:Nat) (hi:i<l.length):w.cell? ⟨g,i*2,none⟩=some (.int .i64 (l.getD i (0,0)).1)/\w.cell? ⟨g,i*2+1,none⟩=some (.int .i64 (l.getD i (0,0)).2):=
 ⟨h.2.1.cell mh i 0 _ (bL l i (0,0) hi) (by omega),h.2.1.cell mh i 1 _ (bL l i (0,0) hi) (by omega)⟩
theorem jg.swap {w:World} {B b g c:Nat} {l:List Vs} (h:jg w B b (some ⟨g,0,none⟩) c l) (i j:Nat) (hi:i<l.length) (hj:j<l.length):
 jg ((((w.setCell ⟨g,i*2,none⟩ (.int .i64 (l.getD j (0,0)).1)).setCell ⟨g,i*2+1,none⟩ (.int .i64 (l.getD j (0,0)).2)).setCell ⟨g,j*2,none⟩ (.int .i64 (l.getD i (0,0)).1)).setCell ⟨g,j*2+1,none⟩ (.int .i64 (l.getD i (0,0)).2)) B b (some ⟨g,0,none⟩) c (swp l i j):=
 (h.put i _ hi).put j _ (by simpa using hj)
theorem oD.swap {w W:World} {B b:Nat} {A:Option Addr} {l:List Vs} {x y:Int} {g c':Nat} {l':List Vs} (h:oD w B b A l x y g c' l' W) (i j:Nat) (hi:i<l'.length) (hj:j<l'.length):
 oD w B b A l x y g c' (swp l' i j) ((((W.setCell ⟨g,i*2,none⟩ (.int .i64 (l'.getD j (0,0)).1)).setCell ⟨g,i*2+1,none⟩ (.int .i64 (l'.getD j (0,0)).2)).setCell ⟨g,j*2,none⟩ (.int .i64 (l'.getD i (0,0)).1)).setCell ⟨g,j*2+1,none⟩ (.int .i64 (l'.getD i (0,0)).2)):=by
 have hS:(g=b∨aK A g)∨w.heap.size<=g:=h.2.2.2.elim (fun h=>.inl (.inr h)) .inr;exact⟨h.1.swap i j hi hj,(Ba hi hj).trans h.2.1,(((h.2.2.1.setCell (p:=⟨g,i*2,none⟩) hS _).setCell (p:=⟨g,i*2+1,none⟩) hS _).setCell (p:=⟨g,j*2,none⟩) hS _).setCell (p:=⟨g,j*2+1,none⟩) hS _,h.2.2.2⟩
theorem PK (b:Nat) (A:Option Addr) (n c:Nat) (l:List Vs) (x y:Int) (B:Nat) (w:World) (hn:n=l.length) (hn2:n<=8388608) (hB:B<=w.heap.size) (h:jg w B b A c l) (hp:ny l):
 Calls Try.prog 102 #[.pointer (some ⟨b,0,none⟩),.agg #[.int .i64 x,.int .i64 y]] w fun e w'=>e=.returned (.tuple #[])/\ ∃A' c' l',jg w' B b A' c' l'/\l'.Perm ((x,y)::l)/\ny l'/\Touch (fun k=>k=b∨aK A k) w w'/\ ∀k,aK A' k->aK A k∨w.heap.size<=k:=by
 have HN:=zh hn;have HA:=zh h;have HP:=zh hp;clear h hp hn;have hbl:=HA.1.lt;have X1:=zh (Blk.new' w #[.int .i64 x,.int .i64 y] 154);have B1:=zh (Below.refl w.heap.size w |>.alloc (Nat.le_refl _) (.cells #[.int .i64 x,.int .i64 y] 154));obtain⟨i0,hi,hz0,hz1,hz2⟩:=info_parts Mx;go_enter Try.func102,Try.ntmps102;go_wp2_with fail
 have J1:Hid (wQ w B b A c l x y (w.alloc (.cells #[.int .i64 x,.int .i64 y] 154))):=zh ⟨HA.below B1.out,B1.out,X1.out⟩;generalize w.alloc (.cells #[.int .i64 x,.int .i64 y] 154)=w1 at J1 ⊢;clear X1 B1;refine aD 6 [true,false] [0] ?af1 (fun V=>wQ w B b A c l x y V) (by kernel_rfl) (by kernel_rfl) J1.drew ?RV ?Vg
 case RV=>
  intro V hV;have c0:=hV.1.1.cell 0 rfl;have d0:=hV.2.2.cell 0 rfl;have d1:=hV.2.2.cell 1 rfl;clear hV;rw[<-HN.out]at c0;simp only[List.take_succ_cons,List.take_zero]
  repeat(go_big_quiet_step (fail))
  refine wpQuiet_nil ?_;rfl
 case Vg=>
  intro V hV;have JV:=zh hV;refine aI ?_;unfold eQ;clear hV;go_simp;refine⟨JV.alloc _,?_⟩;have J2:=zh (JV.alloc (.cells #[.int .i64 x,.int .i64 y] 154));have X2:=zh (Blk.new' V #[.int .i64 x,.int .i64 y] 154);generalize V.alloc (.cells #[.int .i64 x,.int .i64 y] 154)=V2 at J2 X2 ⊢;generalize V.heap.size=gv at *;refine aI ?_;refine lH (.tmp 10) (.tmp 12) 156 rfl B 154 i0 (.agg #[.int .i64 0,.int .i64 0]) 2 16 Try.underlying156 hi hz0 hz1 hz2 rfl (by decide) A n c (flat IQ l) (by rfl) (by rw[HN.out];exact J2.1.2.1) (some ⟨gv,0,none⟩) 1 1 [.int .i64 x,.int .i64 y] (by rfl) (by rfl) (.inr ⟨_,rfl,?_⟩) (by simp[Value.oneCell']) (by unfold maxLen;omega) (by omega) ?_ ?_
  ·intro j u hj
   rcases j with _|_|j
   ·simp at hj;subst hj;exact X2.cell 0 rfl
   ·simp at hj;subst hj;exact X2.cell 1 rfl
   ·simp at hj
  ·have:=J2.2.1.size;omega
  intro A' c' w3 ho hg hk;refine⟨fun h=>(by cases h),?_⟩;obtain⟨g,c'',hA',_,_⟩:=ho.form (by omega)
  cases hA'
  have hk2:aK A g∨g=V2.heap.size:=hk g (aA.2 rfl);have GB:=J2.1.1.grown hg (fun e=>J2.1.2.2 (bE.2 (by rw[HN.out]at e;exact e.symm)));have fz:=GB.free 0;have cc:=GB.cell 0 rfl;clear GB;have J3:Hid (oD w B b A l x y g c' (l++[(x,y)]) (w3.setCell ⟨b,0,none⟩ (.slice (some ⟨g,0,none⟩) (n+1) c'))):=zh (by
   rw[HN.out]at ho hg ⊢;exact IU J2.out ho hg hk2 hbl)
  have U3:=zh (Iy HP.out (x,y));rw[<-HN.out]at U3;clear ho hg hk hk2 J2 X2 JV J1;refine bJ ?_;go_wp2_with fail
  trace "loop"
  generalize w3.setCell ⟨b,0,none⟩ (.slice (some ⟨g,0,none⟩) (n+1) c')=w4 at J3 ⊢;clear fz cc
  go_loopw [4] (fun i wr=> ∃k:Nat,i=.int .i64 k/\k<n+1/\Hid (∃l',oD w B b A l x y g c' l' wr/\Gx l' k)) (fun i _=>(intOf i).toNat)
  case atStart=>
   refine⟨n,?_,by omega,zh ⟨_,J3.out,U3.out⟩⟩
   go_num
  case round=>
   obtain⟨k,rfl,hk,HJ⟩:=hrel;obtain⟨l',j,u⟩:=HJ.out;have JR:=zh j;have UR:=zh u;clear HJ j u;have HL:Hid (l'.length=n+1):=zh (by rw[JR.2.1.length_eq,HN.out];rfl)
   by_cases h0:k=0
   ·subst h0
    go_wp2
    refine bodyPost_end (v:=.tuple #[]) (by simp[results,Try.results102,go_sem]) rfl ⟨rfl,_,_,l',JR.1,JR.2.1,EB UR.out (.inl rfl),JR.2.2.1,?_⟩;intro q hq;rw[aA.1 hq];exact JR.2.2.2
   ·obtain⟨q,hq⟩: ∃q:Nat,q=(k-1)/2:=⟨_,rfl⟩
    have HQ:=zh hq;have hq1:((k:Int)-1)/2=(q:Int):=by omega
    have hqn:q<n+1:=by omega
    clear hq;have k0:(0:Int)<(k:Int):=by omega
    have c0:=JR.1.1.cell 0 rfl;have c1:=JR.1.1.cell 1 rfl;rw[HL.out]at c0;have bl:=JR.1.1.lt;have gl:=JR.1.2.1.lt.2;obtain⟨e0,e1⟩:=JR.1.cells k (by rw[HL.out];exact hk);obtain⟨f0,f1⟩:=JR.1.cells q (by rw[HL.out];exact hqn);have HS:=zh (fun V (h:oD w B b A l x y g c' l' V)=>h.swap k q (by rw[HL.out];exact hk) (by rw[HL.out];exact hqn));have HE1:Hid (bC l' k=(l'.getD k (0,0)).2):=zh rfl;have HE2:Hid (bC l' q=(l'.getD q (0,0)).2):=zh rfl;generalize hek:(l'.getD k (0,0))=ek at *;generalize heq:(l'.getD q (0,0))=eq at *;obtain⟨ek0,ek1⟩:=ek;obtain⟨eq0,eq1⟩:=eq;have HEK:=zh hek;have HEQ:=zh heq;clear hek heq;simp only at e0 e1 f0 f1 HE1 HE2 HS;go_wp2_with fail
    refine wrp ?_
    repeat(go_big_quiet_step (exact aZ (Da _ _ _ _ _)))
    refine wpQuiet_nil ?_;intro xx;have J5:=zh (JR.below xx.far);generalize xx.w=w5 at J5 ⊢;clear c0 c1 e0 e1 f0 f1 bl gl
    by_cases hlt:ek1<eq1
    ·have d1:decide (ek1<eq1)=true:=decide_eq_true hlt
     simp only[d1,Bool.not_true];go_wp2_with fail
     refine aD 25 [false] [9] ?af6 (fun V=>oD w B b A l x y g c' l' V) (by kernel_rfl) (by kernel_rfl) J5.drew ?Bl ?Db
     case Bl=>
      intro V hV;have c0:=hV.1.1.cell 0 rfl;rw[HL.out]at c0;obtain⟨e0,e1⟩:=hV.1.cells k (by rw[HL.out];exact hk);obtain⟨f0,f1⟩:=hV.1.cells q (by rw[HL.out];exact hqn);rw[HEK.out]at e0 e1;rw[HEQ.out]at f0 f1;clear hV;simp only[List.take_succ_cons,List.take_zero]
      repeat(go_big_quiet_step (fail))
      refine wpQuiet_nil ?_;rfl
     case Db=>
      intro V hV;have HSV:=zh (HS.out V hV);have HUP:Hid (Gx (swp l' k q) q):=zh (by
       have e1:=HE1.out;have e2:=HE2.out;rw[HQ.out]at e2 ⊢;exact Mm UR.out (by omega) (by rw[HL.out];exact hk) (by omega))
      have P1:=zh (hV.1.put k (eq0,eq1) (by rw[HL.out];exact hk));obtain⟨e0,e1⟩:=hV.1.cells k (by rw[HL.out];exact hk);have z0:=hV.1.2.1.free (k*2);have z1:=hV.1.2.1.free (k*2+1);clear hV;refine aI ?_;unfold eQ;go_simp;generalize (V.setCell ⟨g,k*2,none⟩ (.int .i64 eq0)).setCell ⟨g,k*2+1,none⟩ (.int .i64 eq1)=V1 at HSV P1 ⊢;clear e0 e1 z0 z1;refine bJ ?_;obtain⟨e0,e1⟩:=P1.cells q (by rw[List.length_set,HL.out];exact hqn);have z0:=P1.2.1.free (q*2);have z1:=P1.2.1.free (q*2+1);go_wp2_with fail
      go_roundw
      case rel=>exact⟨q,rfl,by omega,zh ⟨_,HSV.out,HUP.out⟩⟩
      case measure=>simp[intOf];omega
    ·have d1:decide (ek1<eq1)=false:=decide_eq_false hlt
     simp only[d1,Bool.not_false]
     go_wp2
     refine bodyPost_ret (v:=.tuple #[]) (by simp[results,Try.results102,go_sem]) rfl ⟨rfl,_,_,l',J5.1,J5.2.1,EB UR.out (.inr ?_),J5.2.2.1,?_⟩
     ·rw[<-HQ.out,HE1.out,HE2.out];omega
     ·intro q hq
      rw[aA.1 hq];exact J5.2.2.2
@[go_sem] theorem Xi (a b:Int) (w:World):(Instr.index 173 (.agg #[.int .i64 a,.int .i64 b]) (.int .i64 0)).run Try.prog w=.ok (.int .i64 a) w:=by kernel_rfl
@[go_sem] theorem Xj (a b:Int) (w:World):(Instr.index 173 (.agg #[.int .i64 a,.int .i64 b]) (.int .i64 1)).run Try.prog w=.ok (.int .i64 b) w:=by kernel_rfl
theorem jg.pop {w:World} {B b g c:Nat} {l:List Vs} (h:jg w B b (some ⟨g,0,none⟩) c l) (k:Nat) (hk:k+1=l.length):jg (w.setCell ⟨b,0,none⟩ (.slice (some ⟨g,0,none⟩) k c)) B b (some ⟨g,0,none⟩) c (l.take k):=by
 have hbg:b≠g:=fun e=>h.2.2 (aA.2 e)
 have hl:(l.take k).length=k:=by simp;omega
 exact⟨by rw[hl];exact h.1.setCell 0 _,(h.2.1.pop mh k hk).set_ne (fun e=>hbg (aA.1 e)) _,h.2.2⟩
def ChI (l:List Vs) (i L j:Nat):Prop:=(L=i∨((L=2*i+1∨L=2*i+2)/\L<l.length/\bC l L<bC l i))/\bC l L<=bC l i/\ ∀t,t<j->2*i+1+t<l.length->bC l L<=bC l (2*i+1+t)
theorem IV (l:List Vs) (i:Nat):ChI l i i 0:=⟨.inl rfl,Int.le_refl _,fun t h=>absurd h (Nat.not_lt_zero _)⟩
theorem IW {l:List Vs} {i L j:Nat} (h:ChI l i L j) (hj:j<2) (h1:2*i+1+j<l.length) (h2:bC l (2*i+1+j)<bC l L):ChI l i (2*i+1+j) (j+1):=by
 have h3:=h.2.1;refine⟨.inr ⟨by omega,h1,by omega⟩,by omega,fun t ht hl=>?_⟩
 by_cases e:t=j
 ·subst e;exact Int.le_refl _
 ·have:=h.2.2 t (by omega) hl;omega
theorem PN {l:List Vs} {i L j:Nat} (h:ChI l i L j) (h1: ¬(2*i+1+j<l.length/\bC l (2*i+1+j)<bC l L)):ChI l i L (j+1):=by
 refine⟨h.1,h.2.1,fun t ht hl=>?_⟩
 by_cases e:t=j
 ·subst e;omega
 ·exact h.2.2 t (by omega) hl
theorem MB {l:List Vs} {i:Nat} (h:ChI l i i 2) (d:A9 l i):ny l:=Mo d (fun hl=>h.2.2 0 (by omega) hl) (fun hl=>h.2.2 1 (by omega) hl)
theorem MC {l:List Vs} {i L:Nat} (h:ChI l i L 2) (d:A9 l i) (hne:L≠i):L<l.length/\i<L/\A9 (swp l i L) L:=by
 rcases h.1 with h1|⟨h1,h2,h3⟩
 ·exact absurd h1 hne
 ·refine⟨h2,by omega,Mq d h2 h1 h3 (fun j j0 hj hq=>?_)⟩
  rcases (show j=2*i+1+0∨j=2*i+1+1 by omega)with e|e
  ·rw[e]at hj ⊢;exact h.2.2 0 (by omega) hj
  ·rw[e]at hj ⊢;exact h.2.2 1 (by omega) hj
def TkJ (w:World) (B b g c:Nat) (e:Vs) (l':List Vs) (W:World):Prop:=
 jg W B b (some ⟨g,0,none⟩) c l'/\Touch (fun k=>k=b∨k=g) w W/\Blk W w.heap.size 154 [.int .i64 0,.int .i64 0]/\Blk W (w.heap.size+1) 154 [.int .i64 e.1,.int .i64 e.2]/\b<w.heap.size/\g<w.heap.size
section
variable {w W W':World} {B b g c:Nat} {e:Vs} {l':List Vs}
theorem TkJ.below (h:TkJ w B b g c e l' W) (hb:Below W.heap.size W W'):TkJ w B b g c e l' W':=
 ⟨h.1.below hb,h.2.1.below hb,h.2.2.1.below hb h.2.2.1.lt,h.2.2.2.1.below hb h.2.2.2.1.lt,h.2.2.2.2⟩
theorem TkJ.drew (h:TkJ w B b g c e l' W):TkJ w B b g c e l' W.drew:=h.below (Below.refl _ _).drew
theorem TkJ.put (h:TkJ w B b g c e l' W) (i:Nat) (x:Vs) (hi:i<l'.length):TkJ w B b g c e (l'.set i x) ((W.setCell ⟨g,i*2,none⟩ (.int .i64 x.1)).setCell ⟨g,i*2+1,none⟩ (.int .i64 x.2)):=by
 have hk:=h.1.put i x hi;refine⟨hk,(h.2.1.setCell (p:=⟨g,i*2,none⟩) (.inl (.inr rfl)) _).setCell (p:=⟨g,i*2+1,none⟩) (.inl (.inr rfl)) _,?_,?_,h.2.2.2.2⟩
 ·exact(h.2.2.1.setCell_ne (p:=⟨g,i*2,none⟩) (by have:=h.2.2.2.2.2;simp;omega) _).setCell_ne (p:=⟨g,i*2+1,none⟩) (by have:=h.2.2.2.2.2;simp;omega) _
 ·exact(h.2.2.2.1.setCell_ne (p:=⟨g,i*2,none⟩) (by have:=h.2.2.2.2.2;simp;omega) _).setCell_ne (p:=⟨g,i*2+1,none⟩) (by have:=h.2.2.2.2.2;simp;omega) _
theorem TkJ.pop (h:TkJ w B b g c e l' W) (k:Nat) (hk:k+1=l'.length):TkJ w B b g c e (l'.take k) (W.setCell ⟨b,0,none⟩ (.slice (some ⟨g,0,none⟩) k c)):=
 ⟨h.1.pop k hk,h.2.1.setCell (.inl (.inl rfl)) _,h.2.2.1.setCell_ne (by have:=h.2.2.2.2.1;simp;omega) _,h.2.2.2.1.setCell_ne (by have:=h.2.2.2.2.1;simp;omega) _,h.2.2.2.2⟩
end
theorem Qx (b g n c:Nat) (l:List Vs) (B:Nat) (w:World) (hn:n=l.length) (hn0:0<n) (hn2:n<=8388608) (h:jg w B b (some ⟨g,0,none⟩) c l) (hp:ny l):
 Calls Try.prog 103 #[.pointer (some ⟨b,0,none⟩)] w fun e w'=>e=.returned (.agg #[.int .i64 (l.getD 0 (0,0)).1,.int .i64 (l.getD 0 (0,0)).2])/\ ∃l',jg w' B b (some ⟨g,0,none⟩) c l'/\(l.getD 0 (0,0)::l').Perm l/\ny l'/\Touch (fun k=>k=b∨k=g) w w':=by
 obtain⟨m,rfl⟩: ∃m,n=m+1:=⟨n-1,by omega⟩;have HN:=zh hn;have HP:=zh hp;have hl0:0<l.length:=by omega
 have PP:=zh (Gz hl0);have PD:=zh (Mr hp);have J0:Hid (TkJ w B b g c (l.getD 0 (0,0)) l ((w.alloc (.cells #[.int .i64 0,.int .i64 0] 154)).alloc (.cells #[.int .i64 (l.getD 0 (0,0)).1,.int .i64 (l.getD 0 (0,0)).2] 154))):=zh (by
  have b1:=(Below.refl w.heap.size w).alloc (Nat.le_refl _) (.cells #[.int .i64 0,.int .i64 0] 154);have b2:=b1.alloc b1.size (.cells #[.int .i64 (l.getD 0 (0,0)).1,.int .i64 (l.getD 0 (0,0)).2] 154);refine⟨h.below b2,Touch.of_below b2,(Blk.new' w _ 154).alloc _,?_,h.1.lt,h.2.1.lt.2⟩;have:=Blk.new' (w.alloc (.cells #[.int .i64 0,.int .i64 0] 154)) #[.int .i64 (l.getD 0 (0,0)).1,.int .i64 (l.getD 0 (0,0)).2] 154;simpa using this)
 have c0:=h.1.cell 0 rfl;rw[<-hn]at c0;have bl:=h.1.lt;have gl:=h.2.1.lt.2;obtain⟨e0,e1⟩:=h.cells 0 hl0;have EL:=zh (show(o8 l)=(l.set 0 (l.getD m (0,0))).take m from by unfold o8;rw[<-hn];rfl);have hmc:l.length<=c:=by obtain⟨gx,_,_,_,hmc,_⟩:=h.2.1.form hl0;exact hmc
 rw[<-hn]at hmc;clear h hp hn hl0;generalize hx:l.getD 0 (0,0)=x at *;obtain⟨x0,x1⟩:=x;have HX:=zh hx;clear hx;simp only[Nat.zero_mul,Nat.zero_add]at e0 e1;go_enter Try.func103,Try.ntmps103;go_wp2_with fail
 generalize (w.alloc (.cells #[.int .i64 0,.int .i64 0] 154)).alloc (.cells #[.int .i64 x0,.int .i64 x1] 154)=w1 at J0 ⊢;clear c0 e0 e1 bl gl;generalize hy:l.getD m (0,0)=y at *;obtain⟨y0,y1⟩:=y;have HY:=zh hy;clear hy;refine aD 12 [false] [] ?af3 (fun V=>TkJ w B b g c (x0,x1) l V) (by kernel_rfl) (by kernel_rfl) J0.drew ?Xk ?Vh
 case Xk=>
  intro V hV;have c0:=hV.1.1.cell 0 rfl;rw[<-HN.out]at c0;obtain⟨e0,e1⟩:=hV.1.cells m (by rw[<-HN.out];omega);rw[HY.out]at e0 e1;clear hV;simp only[List.take_succ_cons,List.take_zero]
  repeat(go_big_quiet_step (fail))
  refine wpQuiet_nil ?_;rfl
 case Vh=>
  intro V hV;have P1:=zh (hV.put 0 (y0,y1) (by rw[<-HN.out];omega));simp only[Nat.zero_mul,Nat.zero_add]at P1;obtain⟨e0,e1⟩:=hV.1.cells 0 (by rw[<-HN.out];omega);simp only[Nat.zero_mul,Nat.zero_add]at e0 e1;have z0:=hV.1.2.1.free 0;have z1:=hV.1.2.1.free 1;clear hV;refine aI ?_;unfold eQ;go_simp;generalize (V.setCell ⟨g,0,none⟩ (.int .i64 y0)).setCell ⟨g,1,none⟩ (.int .i64 y1)=V1 at P1 ⊢;clear e0 e1 z0 z1;refine bJ ?_;have c0:=P1.1.1.cell 0 rfl;rw[List.length_set,<-HN.out]at c0;have z0:=P1.1.1.free 0;have P2:=zh (P1.pop m (by rw[List.length_set,<-HN.out]));rw[<-EL.out]at P2;clear P1;go_wp2_with fail
  generalize V1.setCell ⟨b,0,none⟩ (.slice (some ⟨g,0,none⟩) m c)=w2 at P2 ⊢;clear c0 z0
  go_loopw [5] (fun i wr=> ∃k:Nat,i=.int .i64 k/\(k=0∨k<m)/\Hid (∃l',TkJ w B b g c (x0,x1) l' wr/\l'.Perm (o8 l)/\A9 l' k)) (fun i _=>m-(intOf i).toNat)
  case atStart=>exact⟨0,rfl,.inl rfl,zh ⟨_,P2.out,.refl _,PD.out⟩⟩
  case round=>
   obtain⟨i,rfl,hi,HJ⟩:=hrel;obtain⟨l',j,pm,u⟩:=HJ.out;have JR:=zh j;have PM:=zh pm;have UR:=zh u;have HL:Hid (l'.length=m):=zh (by rw[pm.length_eq,pV,<-HN.out];rfl);clear HJ j u pm;obtain⟨k1,hq1⟩: ∃k1:Nat,k1=2*i+1:=⟨_,rfl⟩;obtain⟨k2,hq2⟩: ∃k2:Nat,k2=2*i+2:=⟨_,rfl⟩;have hk1:2*(i:Int)+1=(k1:Int):=by omega
   have hk2:2*(i:Int)+2=(k2:Int):=by omega
   have HQ1:=zh hq1;have HQ2:=zh hq2;clear hq1 hq2;go_wp2_with fail
   go_loopw [6,50] (fun lv jv wq=> ∃L j:Nat,lv=.int .i64 L/\jv=.int .i64 j/\j<=2/\Hid (TkJ w B b g c (x0,x1) l' wq)/\Hid (ChI l' i L j)) (fun _ jv _=>2-(intOf jv).toNat)
   case atStart=>exact⟨i,0,rfl,rfl,by omega,JR,zh (IV l' i)⟩
   case round=>
    obtain⟨L,j,rfl,rfl,hj,JQ,CH⟩:=hrel
    rcases (show j=0∨j=1∨j=2 by omega)with rfl|rfl|rfl
    ·
     have CY:=zh (IW (l:=l') (i:=i) (L:=L) (j:=0) CH.out (by omega));have CN:=zh (PN (l:=l') (i:=i) (L:=L) (j:=0) CH.out);have HK:Hid (k1=2*i+1+0):=zh (by rw[HQ1.out]);rw[<-HK.out,HL.out]at CY CN
     by_cases hlt:k1<m
     ·have hkm:(k1:Int)<(m:Int):=by omega
      have d1:decide ((k1:Int)<(m:Int))=true:=decide_eq_true hkm;have d1n:decide (k1<m)=true:=decide_eq_true hlt;have hLm:L<m:=by
       rcases CH.1 with h|h
       ·omega
       ·have:=h.2.1;rw[HL.out]at this;exact this
      have c0:=JQ.1.1.cell 0 rfl;have c1:=JQ.1.1.cell 1 rfl;rw[HL.out]at c0;have bl:=JQ.1.1.lt;have gl:=JQ.1.2.1.lt.2;obtain⟨e0,e1⟩:=JQ.1.cells k1 (by rw[HL.out];exact hlt);obtain⟨f0,f1⟩:=JQ.1.cells L (by rw[HL.out];exact hLm);have HE1:Hid (bC l' k1=(l'.getD k1 (0,0)).2):=zh rfl;have HE2:Hid (bC l' L=(l'.getD L (0,0)).2):=zh rfl;generalize l'.getD k1 (0,0)=ek at *;generalize l'.getD L (0,0)=eq at *;obtain⟨ek0,ek1⟩:=ek;obtain⟨eq0,eq1⟩:=eq;simp only at e0 e1 f0 f1 HE1 HE2;rw[HE1.out,HE2.out]at CY CN;go_wp2_with fail
      refine wrp ?_
      repeat(go_big_quiet_step (exact aZ (Da _ _ _ _ _)))
      refine wpQuiet_nil ?_;intro xx;have J5:=zh (JQ.below xx.far);generalize xx.w=w5 at J5 ⊢;clear c0 c1 e0 e1 f0 f1 bl gl
      by_cases hle:ek1<eq1
      ·have d2:decide (ek1<eq1)=true:=decide_eq_true hle
       simp only[d2];go_wp2_with fail
       go_roundw
       case rel=>exact⟨k1,1,rfl,rfl,by omega,J5,zh (CY.out hlt hle)⟩
       case measure=>simp[intOf]
      ·have d2:decide (ek1<eq1)=false:=decide_eq_false hle
       simp only[d2];go_wp2_with fail
       go_roundw
       case rel=>exact⟨L,1,rfl,rfl,by omega,J5,zh (CN.out (fun h=>hle h.2))⟩
       case measure=>simp[intOf]
     ·have hkm: ¬(k1:Int)<(m:Int):=by omega
      have d1:decide ((k1:Int)<(m:Int))=false:=decide_eq_false hkm;have d1n:decide (k1<m)=false:=decide_eq_false hlt;go_wp2_with fail
      refine wrp ?_
      repeat(go_big_quiet_step (fail))
      refine wpQuiet_nil ?_;intro xx;have J5:=zh (JQ.below xx.far);generalize xx.w=w5 at J5 ⊢;go_wp2_with fail
      go_roundw
      case rel=>exact⟨L,1,rfl,rfl,by omega,J5,zh (CN.out (fun h=>hlt h.1))⟩
      case measure=>simp[intOf]
    ·
     have CY:=zh (IW (l:=l') (i:=i) (L:=L) (j:=1) CH.out (by omega));have CN:=zh (PN (l:=l') (i:=i) (L:=L) (j:=1) CH.out);have HK:Hid (k2=2*i+1+1):=zh (by rw[HQ2.out]);rw[<-HK.out,HL.out]at CY CN
     by_cases hlt:k2<m
     ·have hkm:(k2:Int)<(m:Int):=by omega
      have d1:decide ((k2:Int)<(m:Int))=true:=decide_eq_true hkm;have d1n:decide (k2<m)=true:=decide_eq_true hlt;have hLm:L<m:=by
       rcases CH.1 with h|h
       ·omega
       ·have:=h.2.1;rw[HL.out]at this;exact this
      have c0:=JQ.1.1.cell 0 rfl;have c1:=JQ.1.1.cell 1 rfl;rw[HL.out]at c0;have bl:=JQ.1.1.lt;have gl:=JQ.1.2.1.lt.2;obtain⟨e0,e1⟩:=JQ.1.cells k2 (by rw[HL.out];exact hlt);obtain⟨f0,f1⟩:=JQ.1.cells L (by rw[HL.out];exact hLm);have HE1:Hid (bC l' k2=(l'.getD k2 (0,0)).2):=zh rfl;have HE2:Hid (bC l' L=(l'.getD L (0,0)).2):=zh rfl;generalize l'.getD k2 (0,0)=ek at *;generalize l'.getD L (0,0)=eq at *;obtain⟨ek0,ek1⟩:=ek;obtain⟨eq0,eq1⟩:=eq;simp only at e0 e1 f0 f1 HE1 HE2;rw[HE1.out,HE2.out]at CY CN;go_wp2_with fail
      refine wrp ?_
      repeat(go_big_quiet_step (exact aZ (Da _ _ _ _ _)))
      refine wpQuiet_nil ?_;intro xx;have J5:=zh (JQ.below xx.far);generalize xx.w=w5 at J5 ⊢;clear c0 c1 e0 e1 f0 f1 bl gl
      by_cases hle:ek1<eq1
      ·have d2:decide (ek1<eq1)=true:=decide_eq_true hle
       simp only[d2];go_wp2_with fail
       go_roundw
       case rel=>exact⟨k2,2,rfl,rfl,by omega,J5,zh (CY.out hlt hle)⟩
       case measure=>simp[intOf]
      ·have d2:decide (ek1<eq1)=false:=decide_eq_false hle
       simp only[d2];go_wp2_with fail
       go_roundw
       case rel=>exact⟨L,2,rfl,rfl,by omega,J5,zh (CN.out (fun h=>hle h.2))⟩
       case measure=>simp[intOf]
     ·have hkm: ¬(k2:Int)<(m:Int):=by omega
      have d1:decide ((k2:Int)<(m:Int))=false:=decide_eq_false hkm;have d1n:decide (k2<m)=false:=decide_eq_false hlt;go_wp2_with fail
      refine wrp ?_
      repeat(go_big_quiet_step (fail))
      refine wpQuiet_nil ?_;intro xx;have J5:=zh (JQ.below xx.far);generalize xx.w=w5 at J5 ⊢;go_wp2_with fail
      go_roundw
      case rel=>exact⟨L,2,rfl,rfl,by omega,J5,zh (CN.out (fun h=>hlt h.1))⟩
      case measure=>simp[intOf]
    ·
     by_cases hLi:L=i
     ·subst hLi
      have c2:=JQ.2.2.1;have c3:=JQ.2.2.2.1;have a0:=c2.cell 0 rfl;have a1:=c2.cell 1 rfl;have z0:=c2.free 0;have z1:=c2.free 1;have e0:=c3.cell 0 rfl;have e1:=c3.cell 1 rfl;clear c2 c3;go_wp2_with fail
      have hb:=JQ.2.2.2.2;have s1:=(JQ.1.1.setCell_ne (p:=⟨w.heap.size,0,none⟩) (by simp;omega) (.int .i64 x0)).setCell_ne (p:=⟨w.heap.size,1,none⟩) (by simp;omega) (.int .i64 x1);have s2:=(JQ.1.2.1.set_ne (p:=⟨w.heap.size,0,none⟩) (fun e=>by have:=aA.1 e;simp at this;omega) (.int .i64 x0)).set_ne (p:=⟨w.heap.size,1,none⟩) (fun e=>by have:=aA.1 e;simp at this;omega) (.int .i64 x1);have t1:=(JQ.2.1.setCell (p:=⟨w.heap.size,0,none⟩) (.inr (Nat.le_refl _)) (.int .i64 x0)).setCell (p:=⟨w.heap.size,1,none⟩) (.inr (Nat.le_refl _)) (.int .i64 x1);refine bodyPost_ret (v:=.agg #[.int .i64 x0,.int .i64 x1]) (by simp[results,Try.results103,go_sem, *]) rfl ⟨rfl,l',⟨s1,s2,JQ.1.2.2⟩,((PM.cons _).trans PP.out),MB CH.out UR.out,t1⟩
     ·have Vi: ¬(L:Int)=(i:Int):=by omega
      have hLb:((L:Int)==(i:Int))=false:=by simpa using Vi
      have HST:=zh (MC CH.out UR.out hLi);rw[HL.out]at HST;have hLm:L<m:=HST.1;have hiL:i<L:=HST.2.1;have him:i<m:=by omega
      generalize hek:(l'.getD i (0,0))=ek at *;generalize heq:(l'.getD L (0,0))=eq at *;obtain⟨ek0,ek1⟩:=ek;obtain⟨eq0,eq1⟩:=eq;have HEK:=zh hek;have HEQ:=zh heq;clear hek heq;go_wp2_with fail
      refine aD 25 [false] [9] ?af6 (fun V=>TkJ w B b g c (x0,x1) l' V) (by kernel_rfl) (by kernel_rfl) JQ.drew ?Bl ?Db
      case Bl=>
       intro V hV;have c0:=hV.1.1.cell 0 rfl;rw[HL.out]at c0;obtain⟨e0,e1⟩:=hV.1.cells i (by rw[HL.out];exact him);obtain⟨f0,f1⟩:=hV.1.cells L (by rw[HL.out];exact hLm);rw[HEK.out]at e0 e1;rw[HEQ.out]at f0 f1;clear hV;simp only[List.take_succ_cons,List.take_zero]
       repeat(go_big_quiet_step (fail))
       refine wpQuiet_nil ?_;rfl
      case Db=>
       intro V hV;have P1:=zh (hV.put i (eq0,eq1) (by rw[HL.out];exact him));have P2:=zh (P1.put L (ek0,ek1) (by rw[List.length_set,HL.out];exact hLm));rw[show(l'.set i (eq0,eq1)).set L (ek0,ek1)=swp l' i L from by unfold swp;rw[HEK.out,HEQ.out]]at P2;obtain⟨e0,e1⟩:=hV.1.cells i (by rw[HL.out];exact him);have z0:=hV.1.2.1.free (i*2);have z1:=hV.1.2.1.free (i*2+1);clear hV;refine aI ?_;unfold eQ;go_simp;generalize (V.setCell ⟨g,i*2,none⟩ (.int .i64 eq0)).setCell ⟨g,i*2+1,none⟩ (.int .i64 eq1)=V1 at P1 P2 ⊢;clear e0 e1 z0 z1;refine bJ ?_;obtain⟨e0,e1⟩:=P1.1.cells L (by rw[List.length_set,HL.out];exact hLm);have z0:=P1.1.2.1.free (L*2);have z1:=P1.1.2.1.free (L*2+1);go_wp2_with fail
       go_roundw
       case rel=>exact⟨L,rfl,by omega,zh ⟨_,P2.out,(Ba (by rw[HL.out];exact him) (by rw[HL.out];exact hLm)).trans PM.out,HST.2.2⟩⟩
       case measure=>simp[intOf];omega
theorem dN (g i:Nat):(⟨g,0,none⟩:Addr).add i=⟨g,i,none⟩:=by
 unfold Addr.add
 split
 ·rename_i h;subst h;rfl
 ·simp
def Fl (e:TypeId) (W:World) (g:Nat) (xs:List Int):Prop:=Blk W g e (xs.map (Value.int .i64))
section
variable {e:TypeId} {W W':World} {g:Nat} {xs:List Int}
theorem Fl.cell (h:Fl e W g xs) (k:Nat) (hk:k<xs.length):W.cell? ⟨g,k,none⟩=some (.int .i64 (xs.getD k 0)):=by
 refine Blk.cell h k ?_;rw[List.getElem?_map,List.getElem?_eq_getElem hk,zg,List.getElem?_eq_getElem hk];rfl
theorem Fl.free (h:Fl e W g xs) (k:Nat):W.frozen? ⟨g,k,none⟩=false:=Blk.free h k
theorem Fl.lt (h:Fl e W g xs):g<W.heap.size:=Blk.lt h
theorem Fl.put (h:Fl e W g xs) (k:Nat) (v:Int):Fl e (W.setCell ⟨g,k,none⟩ (.int .i64 v)) g (xs.set k v):=by
 unfold Fl;rw[List.map_set];exact Blk.setCell h k _
theorem Fl.below (h:Fl e W g xs) (hb:Below W.heap.size W W'):Fl e W' g xs:=Blk.below h hb h.lt
theorem Fl.set_ne (h:Fl e W g xs) {p:Addr} (hp:g≠p.block) (u:Value):Fl e (W.setCell p u) g xs:=Blk.setCell_ne h hp u
theorem Fl.touch {S:Nat->Prop} (h:Fl e W g xs) (k:Touch S W W') (hn: ¬S g):Fl e W' g xs:=Blk.touch h k hn
theorem Fl.ints (h:Fl e W g xs):aH W (some ⟨g,0,none⟩) xs:=fun i hi=>⟨_,rfl,h.lt,by
 rw[dN];exact h.cell i hi⟩
theorem Fl.ne {t:TypeId} {g':Nat} {cs:List Value} (h:Fl e W g xs) (h':Blk W g' t cs) (hn:e≠t):g'≠g:=ae h h' hn
end
theorem iL {α:Type} {f:α->List Value} {e t:TypeId} {s B:Nat} {W:World} {A:Option Addr} {c g:Nat} {l:List α} {cs:List Value} (h:bB f e s B W A c l) (hb:aK A g) (h':Blk W g t cs) (hn:e≠t):False:=by
 rcases h.2 with ⟨h0,_⟩|⟨g',cap',cur,hv,_,hg,_⟩
 ·simp only[Value.slice.injEq]at h0
  obtain⟨rfl,_⟩:=h0;obtain⟨a,ha,_⟩:=hb
  cases ha
 ·simp only[Value.slice.injEq]at hv
  obtain⟨rfl,_⟩:=hv;have e1:=aA.1 hb;subst e1;unfold Blk at h';rw[hg]at h';simp only[Option.some.injEq,Obj.cells.injEq]at h';exact hn h'.2.1
theorem Bn:(Try.prog.info? 3).map (fun i=>(i.zero,i.size,i.bytes))=some (some (.int .i64 0),1,8):=by kernel_rfl
theorem sW (t e:TypeId) (ht:Try.prog.underlying t=some (.slice e)) (he:(Try.prog.info? e).map (fun i=>(i.zero,i.size,i.bytes))=some (some (.int .i64 0),1,8)) (n:Nat) (hn:n<=4096) (W:World):
 (Instr.makeSlice t (.int .i64 n) (.int .i64 n)).run Try.prog W=.ok (.slice (some ⟨W.heap.size,0,none⟩) n n) (W.alloc (.cells (Array.replicate n (.int .i64 0)) e)):=by
 obtain⟨i,hi,hz0,hz1,hz2⟩:=info_parts he;have hr:=run_make (P:=Try.prog) W t e i _ ht hi hz0 .i64 .i64 n n (by omega) (by omega) (by rw[hz2];omega) (by omega);simp only[Int.toNat_natCast,hz1,Nat.mul_one]at hr;rw[hr];have e1:madeCells (Value.int .i64 0).cells n=Array.replicate n (.int .i64 0):=by
  unfold madeCells;apply Array.ext
  ·simp
  ·intro j h1 h2
   simp[Value.cells,Nat.mod_one]
 rw[e1]
theorem gZ (n:Nat) (hn:n<=4096) (W:World):(Instr.makeSlice 22 (.int .i64 n) (.int .i64 n)).run Try.prog W=.ok (.slice (some ⟨W.heap.size,0,none⟩) n n) (W.alloc (.cells (Array.replicate n (.int .i64 0)) 2)):=sW 22 2 Try.underlying22 pU n hn W
theorem Bp (n:Nat) (hn:n<=4096) (W:World):(Instr.makeSlice 26 (.int .i64 n) (.int .i64 n)).run Try.prog W=.ok (.slice (some ⟨W.heap.size,0,none⟩) n n) (W.alloc (.cells (Array.replicate n (.int .i64 0)) 3)):=sW 26 3 Try.underlying26 Bn n hn W
theorem kE (e:TypeId) (n:Nat) (W:World):Fl e (W.alloc (.cells (Array.replicate n (.int .i64 0)) e)) W.heap.size (List.replicate n 0):=by
 have:=Blk.new' W (Array.replicate n (.int .i64 0)) e;unfold Fl;simpa using this
def edC (x:Ed):List Value:=[.int .i64 x.to,.int .i64 x.room,.int .i64 x.cost]
theorem rH (x:Ed):(edC x).length=3:=rfl
def iq (w:World) (bo:Nat) (outs:List (List Int)) (S:Nat->Prop):Prop:=
 ∀i,i<outs.length-> ∃A c,w.cell? ⟨bo,i,none⟩=some (.slice A (outs.getD i []).length c)/\(outs.getD i []).length<=c/\c<=9223372036854775807/\aH w A (outs.getD i [])/\ ∀k,aK A k->k<w.heap.size/\ ¬S k
structure eX (w:World) (B b gl cl:Nat) (E:Option Addr) (ce bo:Nat) (G:Gr):Prop where
 blk:Blk w b 113 [.slice (some ⟨gl,0,none⟩) G.left.length cl,.slice E G.es.length ce,.slice (some ⟨bo,0,none⟩) G.outs.length G.outs.length]
 left:dI B w gl cl G.left
 es:bB edC 144 3 B w E ce G.es
 outs:iq w bo G.outs (fun k=>k=b∨k=gl∨aK E k)
 bo:bo<w.heap.size/\bo≠b/\bo≠gl/\ ¬aK E bo
 ne:b≠gl/\ ¬aK E b/\ ¬aK E gl
 base:B<=b/\B<=gl
theorem iq.below {w w':World} {bo:Nat} {outs:List (List Int)} {S:Nat->Prop} (h:iq w bo outs S) (hbo:bo<w.heap.size) (hb:Below w.heap.size w w'):iq w' bo outs S:=by
 intro i hi;obtain⟨A,c,h1,h2,h3,h4,h5⟩:=h i hi;exact⟨A,c,(hb.cell (p:=⟨bo,i,none⟩) hbo).trans h1,h2,h3,h4.below hb (Nat.le_refl _),fun k hk=>⟨Nat.lt_of_lt_of_le (h5 k hk).1 hb.size,(h5 k hk).2⟩⟩
theorem iq.touch {w w':World} {bo:Nat} {outs:List (List Int)} {S T:Nat->Prop} (h:iq w bo outs S) (hbo:bo<w.heap.size) (hT: ¬T bo) (hs: ∀k,T k->S k) (k:Touch T w w'):iq w' bo outs S:=by
 intro i hi;obtain⟨A,c,h1,h2,h3,h4,h5⟩:=h i hi;refine⟨A,c,(k.cell (p:=⟨bo,i,none⟩) hbo hT).trans h1,h2,h3,fun j hj=>?_,fun q hq=>⟨Nat.lt_of_lt_of_le (h5 q hq).1 k.size,(h5 q hq).2⟩⟩;obtain⟨ad,e,hlt,hc⟩:=h4 j hj;refine⟨ad,e,Nat.lt_of_lt_of_le hlt k.size,(k.cell (p:=ad.add j) (by rw[block_add];exact hlt) (fun ht=>?_)).trans hc⟩;rw[block_add]at ht;exact(h5 ad.block ⟨ad,e,rfl⟩).2 (hs _ ht)
section
variable {w w':World} {B b gl cl ce bo:Nat} {E:Option Addr} {G:Gr}
theorem eX.below (h:eX w B b gl cl E ce bo G) (hb:Below w.heap.size w w'):eX w' B b gl cl E ce bo G:=
 {blk:=h.blk.below hb h.blk.lt,left:=h.left.below hb,es:=h.es.below hb,outs:=h.outs.below h.bo.1 hb,bo:=⟨Nat.lt_of_lt_of_le h.bo.1 hb.size,h.bo.2⟩,ne:=h.ne,base:=h.base}
theorem eX.edge (h:eX w B b gl cl E ce bo G) (k:Nat) (hk:k<G.es.length): ∃ge,E=some ⟨ge,0,none⟩/\ge<w.heap.size/\w.cell? ⟨ge,k*3,none⟩=some (.int .i64 (G.es.getD k default).to)/\w.cell? ⟨ge,k*3+1,none⟩=some (.int .i64 (G.es.getD k default).room)/\w.cell? ⟨ge,k*3+2,none⟩=some (.int .i64 (G.es.getD k default).cost):=by
 obtain⟨ge,rfl,_,h2,_⟩:=h.es.form (by omega);exact⟨ge,rfl,h2,h.es.cell rH k 0 _ (bL G.es k default hk) (by omega),h.es.cell rH k 1 _ (bL G.es k default hk) (by omega),h.es.cell rH k 2 _ (bL G.es k default hk) (by omega)⟩
end
structure NrJ (w:World) (gf gb bh:Nat) (fa vi:List Int) (A:Option Addr) (c:Nat) (H:List Vs) (W:World):Prop where
 bel:Below w.heap.size w W
 f:Fl 2 W gf fa
 v:Fl 3 W gb vi
 h:jg W w.heap.size bh A c H
 ge:w.heap.size<=gf/\w.heap.size<=gb/\w.heap.size<=bh
section
variable {w W W':World} {gf gb bh c:Nat} {fa vi:List Int} {A:Option Addr} {H:List Vs}
theorem NrJ.below (h:NrJ w gf gb bh fa vi A c H W) (hb:Below W.heap.size W W'):NrJ w gf gb bh fa vi A c H W':=
 {bel:=h.bel.trans (hb.mono h.bel.size),f:=h.f.below hb,v:=h.v.below hb,h:=h.h.below hb,ge:=h.ge}
theorem NrJ.drew (h:NrJ w gf gb bh fa vi A c H W):NrJ w gf gb bh fa vi A c H W.drew:=h.below (Below.refl _ _).drew
theorem NrJ.nfb (h:NrJ w gf gb bh fa vi A c H W):gf≠gb:=fun e=>by
 subst e;exact(h.f.ne h.v (by decide)) rfl
theorem jg.set_ne {B b:Nat} (h:jg W B b A c H) {p:Addr} {e:TypeId} {cs:List Value} (hp:Blk W p.block e cs) (h1:e≠158) (h2:(154:Nat)≠e) (u:Value):jg (W.setCell p u) B b A c H:=
 ⟨h.1.setCell_ne (ae hp h.1 h1) u,h.2.1.set_ne (fun hb=>iL h.2.1 hb hp h2) u,h.2.2⟩
theorem NrJ.putF (h:NrJ w gf gb bh fa vi A c H W) (k:Nat) (x:Int):NrJ w gf gb bh (fa.set k x) vi A c H (W.setCell ⟨gf,k,none⟩ (.int .i64 x)):=
 {bel:=h.bel.setCell h.ge.1 _,f:=h.f.put k x,v:=h.v.set_ne (fun e=>h.nfb e.symm) _,h:=h.h.set_ne (p:=⟨gf,k,none⟩) h.f (by decide) (by decide) _,ge:=h.ge}
theorem NrJ.putV (h:NrJ w gf gb bh fa vi A c H W) (k:Nat) (x:Int):NrJ w gf gb bh fa (vi.set k x) A c H (W.setCell ⟨gb,k,none⟩ (.int .i64 x)):=
 {bel:=h.bel.setCell h.ge.2.1 _,f:=h.f.set_ne h.nfb _,v:=h.v.put k x,h:=h.h.set_ne (p:=⟨gb,k,none⟩) h.v (by decide) (by decide) _,ge:=h.ge}
theorem NrJ.queue (h:NrJ w gf gb bh fa vi A c H W) {A':Option Addr} {c':Nat} {H':List Vs} (ht:Touch (fun k=>k=bh∨aK A k) W W') (hh:jg W' w.heap.size bh A' c' H'):NrJ w gf gb bh fa vi A' c' H' W':=
 {bel:=Below.touch h.bel h.bel.size ht (fun k hk=>by
   rcases hk with rfl|hk
   ·exact h.ge.2.2
   ·exact(iT h.h.2.1 hk).2)
  f:=h.f.touch ht (fun hk=>by
   rcases hk with e|hk
   ·exact h.f.ne h.h.1 (by decide) e.symm
   ·exact iL h.h.2.1 hk h.f (by decide))
  v:=h.v.touch ht (fun hk=>by
   rcases hk with e|hk
   ·exact h.v.ne h.h.1 (by decide) e.symm
   ·exact iL h.h.2.1 hk h.v (by decide))
  h:=hh
  ge:=h.ge}
end
theorem GN (w:World) (G:Gr) (n:Nat):NrJ w w.heap.size (w.heap.size+1) (w.heap.size+1+1) (sJ G n 0) (uY n 0) none 0 [] (((w.alloc (.cells (Array.replicate n (.int .i64 0)) 2)).alloc (.cells (Array.replicate n (.int .i64 0)) 3)).alloc (.cells #[.slice none 0 0,.func (.func 101) #[] #[]] 158)):=by
 have f0:=kE 2 n w;have v0:=kE 3 n (w.alloc (.cells (Array.replicate n (.int .i64 0)) 2));have h0:=Blk.new' ((w.alloc (.cells (Array.replicate n (.int .i64 0)) 2)).alloc (.cells (Array.replicate n (.int .i64 0)) 3)) #[.slice none 0 0,.func (.func 101) #[] #[]] 158;rw[GD G n]at f0;rw[GG n]at v0;have s1: ∀(W:World) (o:Obj),(W.alloc o).heap.size=W.heap.size+1:=fun W o=>by simp
 rw[s1]at v0 h0;rw[s1]at h0;have b0:=(Below.refl w.heap.size w).alloc (Nat.le_refl _) (.cells (Array.replicate n (.int .i64 0)) 2);have b1:=b0.alloc b0.size (.cells (Array.replicate n (.int .i64 0)) 3);have b2:=b1.alloc b1.size (.cells #[.slice none 0 0,.func (.func 101) #[] #[]] 158);exact{bel:=b2,f:=(Blk.alloc f0 _).alloc _,v:=Blk.alloc v0 _,h:=⟨h0,World.ownsRow_nil _ _ _ _,fun ⟨a,e,_⟩=>by cases e⟩,ge:=⟨Nat.le_refl _,by omega,by omega⟩}
theorem vD (b gl cl ce bo B cp n:Nat) (E P:Option Addr) (G:Gr) (p:List Int) (w:World) (hG:G.Ok n) (hp:G.Pot n p) (hg:eX w B b gl cl E ce bo G) (hP:aH w P p) (hcp:n<=cp/\cp<=9223372036854775807):
 Calls Try.prog 71 #[.pointer (some ⟨b,0,none⟩),.slice P n cp] w fun e w'=> ∃(gf gb:Nat) (fa vi:List Int) (en:Int),e=.returned (.tuple #[.slice (some ⟨gf,0,none⟩) n n,.slice (some ⟨gb,0,none⟩) n n,.int .i64 en])/\
  Below w.heap.size w w'/\Fl 2 w' gf fa/\Fl 3 w' gb vi/\w.heap.size<=gf/\w.heap.size<=gb/\NR G n p fa vi en:=by
 have HG:=zh hG;have HP:=zh hp;have HA:=zh hg;have HPA:=zh hP;have n1:1<=n:=hG.n1.1;have n2:n<=1024:=hG.n1.2;have LO:=zh hG.lo;have LL:=zh hG.ll;have o2:=hg.blk.cell 2 rfl;rw[hG.lo]at o2;have bl:=hg.blk.lt;clear hG hp hg hP;have J0:=zh (GN w G n);have hm1:=gZ n (by omega);have hm2:=Bp n (by omega);go_enter Try.func71,Try.ntmps71;go_wp2_with fail
 generalize ((w.alloc (.cells (Array.replicate n (.int .i64 0)) 2)).alloc (.cells (Array.replicate n (.int .i64 0)) 3)).alloc (.cells #[.slice none 0 0,.func (.func 101) #[] #[]] 158)=w1 at J0 ⊢;generalize hgb:w.heap.size+1=gb at *;generalize hbh:gb+1=bh at *;generalize hgf:w.heap.size=gf at J0 ⊢;have WG:=zh hgf;clear hgb hbh hgf;have GC:Hid (∀W,Below w.heap.size w W->eX W B b gl cl E ce bo G):=zh (fun W h=>HA.below h);have o0:=zh (HA.blk.cell 0 rfl);rw[LL.out]at o0
 go_loopw [33] (fun i wr=> ∃k:Nat,i=.int .i64 k/\k<=n/\Hid (∃A c H,NrJ w gf gb bh (sJ G n k) (uY n k) A c H wr/\StI G k H)) (fun i _=>n-(intOf i).toNat)
 case atStart=>exact⟨0,rfl,Nat.zero_le _,zh ⟨_,_,_,J0.out,StI.start G⟩⟩
 case round=>
  obtain⟨k,rfl,hk,HJ⟩:=hrel;obtain⟨A,c,H,j,st⟩:=HJ.out;have JR:=zh j;have ST:=zh st;clear HJ j st
  by_cases hlt:k<n
  ·have hkn:(k:Int)<(n:Int):=by omega
   have J1:=zh ((JR.putF k 1152921504606846976).putV k (-1));have f0:=JR.f.cell k (by rw[je];exact hlt);have v0:=JR.v.cell k (by rw[jI];exact hlt);have zf:=JR.f.free k;have zv:=JR.v.free k;have gw:=JR.nfb;go_upto_region 8 with fail
   generalize (wr.setCell ⟨gf,k,none⟩ (.int .i64 1152921504606846976)).setCell ⟨gb,k,none⟩ (.int .i64 (-1))=w2 at J1 ⊢;clear f0 v0 zf zv gw;have c0:=(GC.out _ J1.bel).blk.cell 0 rfl;rw[LL.out]at c0;have l0:=(GC.out _ J1.bel).left.cell k (by rw[LL.out];exact hlt);generalize hx:G.left.getD k 0=x at *;have HX:Hid (G.lf k=x):=zh hx;clear hx
   by_cases hl:0<x
   ·have J2:=zh (J1.putF k 0)
    have f0:=J1.f.cell k (by rw[List.length_set,je];exact hlt);have zf:=J1.f.free k;go_upto_region 10 with fail
    generalize w2.setCell ⟨gf,k,none⟩ (.int .i64 0)=w3 at J2 ⊢;clear f0 zf c0 l0;go_wp2_with fail
    refine(PK bh A H.length c H k 0 w.heap.size w3 rfl (by have:=ST.2.2.2.2;omega) J2.bel.size J2.h ST.2.2.2.1).mono ?_;rintro e w4 ⟨rfl,A',c',H',hh,hpm,hhp,ht,_⟩;have J4:=zh (J2.queue ht hh);have S4:=zh (ST.yes (by rw[HX.out];exact hl) hpm hhp);clear hh hpm hhp ht;rw[List.set_set,show(0:Int)=if 0<G.lf k then 0 else never from by rw[HX.out,if_pos hl],vz G n k hlt,vB n k hlt]at J4;go_wp2_with fail
    go_roundw
    case rel=>exact⟨k+1,by go_num,by omega,zh ⟨A',c',H',J4.out,S4.out⟩⟩
    case measure=>simp[intOf];omega
   ·have S4:=zh (ST.no (by rw[HX.out];exact hl))
    rw[show(1152921504606846976:Int)=if 0<G.lf k then 0 else never from by rw[HX.out,if_neg hl];rfl,vz G n k hlt,vB n k hlt]at J1;go_wp2_with fail
    go_roundw
    case rel=>exact⟨k+1,by go_num,by omega,zh ⟨A,c,H,J1.out,S4.out⟩⟩
    case measure=>simp[intOf];omega
  ·obtain rfl:n=k:=by omega
   have N0:=zh (ST.ni (p:=p));have H0:=zh ST.2.2.2;clear ST;go_wp2_with fail
   go_loopg [11] (mu (sJ G n n) H) (fun m ev wr=> ∃en:Int,ev=.int .i64 en/\Hid (∃fa vi A c H S ds,NrJ w gf gb bh fa vi A c H wr/\NI G n p fa vi H S en ds (fun _=>False)/\ny H/\H.length<=n+S.length*4096/\mu fa H=m))
   case atStart=>exact⟨-1,rfl,zh ⟨_,_,_,_,_,[],0,JR.out,N0.out,H0.1,by have:=H0.2;simp;omega,rfl⟩⟩
   case round=>
    clear JR N0 H0 J0;obtain⟨en,rfl,HJ⟩:=hrel;obtain⟨fa,vi,A,c,H,S,ds,j,ni,hp,hb,hm⟩:=HJ.out;have JR:=zh j;have NR0:=zh ni;have HH:=zh hp;have HB:=zh hb;have HM:=zh hm;clear HJ j ni hp hb hm;have c0:=JR.h.1.cell 0 rfl;generalize hlen:H.length=hn at c0;have HL:=zh hlen;clear hlen
    by_cases h0:hn=0
    ·subst h0
     have he:H=[]:=List.eq_nil_of_length_eq_zero HL.out;have ND:=NR0.out;rw[he]at ND;have ND:=zh (ND.done HG.out HP.out);clear he;go_wp2_with fail
     exact bodyPost_ret (v:=.tuple #[.slice (some ⟨gf,0,none⟩) n n,.slice (some ⟨gb,0,none⟩) n n,.int .i64 en]) (by simp[results,Try.results71,go_sem]) rfl ⟨gf,gb,fa,vi,en,rfl,JR.bel,JR.f,JR.v,JR.ge.1,JR.ge.2.1,ND.out⟩
    ·obtain⟨g,rfl,_⟩:=JR.h.2.1.form (by rw[HL.out];omega)
     have hn0:0<hn:=by omega
     have hni:(0:Int)<(hn:Int):=by omega
     have hn8:hn<=8388608:=by have:=HB.out;have:=NR0.slen;rw[<-HL.out];omega
     have hmem:H.getD 0 (0,0)∈H:=by
      rw[zg,List.getElem?_eq_getElem (by rw[HL.out];exact hn0)];exact List.getElem_mem _
     have HE:=zh (NR0.ent _ hmem);have HMN:=zh (fun x (hx:x∈H)=>Gy HH.out x hx);have TK:=zh (Qx bh g hn c H w.heap.size wr HL.symm hn0 hn8 JR.h HH.out);have HK0:Hid (bC H 0=(H.getD 0 (0,0)).2):=zh rfl;clear hmem;generalize H.getD 0 (0,0)=e0 at *;obtain⟨e0,d⟩:=e0;obtain⟨u,rfl⟩: ∃u:Nat,e0=(u:Int):=⟨e0.toNat,by have:=HE.1.1;simp only at this;omega⟩;have hun:u<n:=by have:=HE.1.2;simp only at this;omega
     have hd:d<1152921504606846976:=HE.2.2.1;have hd0:0<=d:=by have h1:=HE.2.1;have h2:=NR0.top u hun;simp only[Int.toNat_natCast]at h1;omega
     go_wp2_with fail
     refine TK.mono ?_;rintro e w2 ⟨rfl,H2,hh,hpm,hhp,ht⟩;have J2:=zh (JR.queue (ht.mono (fun k hk=>hk.imp id (fun h=>aA.2 h))) hh);have N2:=zh (NR0.perm hpm);have MN:=zh (fun x (hx:x∈H2)=>HMN.out x (hpm.mem_iff.1 (List.mem_cons_of_mem _ hx)));rw[HK0.out]at MN;have HH2:=zh hhp;have HM2:=zh (Qt (fa:=fa) hpm);have HB2:Hid (H2.length+1<=n+S.length*4096):=zh (by have:=hpm.length_eq;have:=HB.out;simp only[List.length_cons]at *;omega);clear hh hpm hhp ht TK HMN HK0 HE c0;go_upto_region 15 with fail
     have J3:=zh (J2.below ((Below.refl _ _).alloc (Nat.le_refl _) (.cells #[.int .i64 u,.int .i64 d] 154)));have X3:=zh (Blk.new' w2 #[.int .i64 u,.int .i64 d] 154);generalize w2.alloc (.cells #[.int .i64 u,.int .i64 d] 154)=w3 at J3 X3 ⊢;have Vj:g≠w2.heap.size:=by have:=J2.h.2.1.lt.2;omega
     generalize w2.heap.size=ga at *;clear J2;have FC:Hid (∀W,NrJ w gf gb bh fa vi (some ⟨g,0,none⟩) c H2 W->W.cell? ⟨gf,u,none⟩=some (.int .i64 (fa.getD u 0))):=zh (fun W h=>h.f.cell u (by rw[NR0.l1];exact hun));have NS:=zh (fun h=>N2.stale (e:=((u:Int),d)) h);have NF:=zh (fun h=>N2.fresh (u:=u) (d:=d) MN.out h);simp only[Int.toNat_natCast]at NS;generalize hfu:fa.getD u 0=fu at *;have HFU:=zh hfu;clear hfu;have a0:=X3.cell 0 rfl;have a1:=X3.cell 1 rfl;have gal:=X3.lt;have gfl:=J3.f.lt;have f0:=FC.out _ J3.out;refine wrp ?_
     repeat(go_big_quiet_step (fail))
     refine wpQuiet_nil ?_;intro xx;have J4:=zh (J3.below xx.far);have X4:=zh (X3.below xx.far gal);generalize xx.w=w4 at J4 X4 ⊢;clear a0 a1 gal gfl f0 J3 X3
     by_cases hs:fu<d
     ·have d1:decide (fu<d)=true:=decide_eq_true hs
      have NS:=zh (NS.out hs);simp only[d1];go_wp2_with fail
      go_roundg (mu fa H2)
      case measure=>rw[<-HM.out,<-HM2.out];omega
      case rel=>exact⟨en,rfl,zh ⟨fa,vi,_,c,H2,S,ds,J4.out,NS.out,HH2.out,by have:=HB2.out;omega,rfl⟩⟩
     ·have d1:decide (fu<d)=false:=decide_eq_false hs
      have NF:=zh (NF.out hs);simp only[d1];clear NS d1;go_upto_region 16 with fail
      have LC:Hid (∀W,NrJ w gf gb bh fa vi (some ⟨g,0,none⟩) c H2 W->W.cell? ⟨gl,u,none⟩=some (.int .i64 (G.left.getD u 0))/\W.cell? ⟨b,0,none⟩=some (.slice (some ⟨gl,0,none⟩) n cl)/\gl<W.heap.size/\b<W.heap.size):=zh (fun W h=>by
       have hA:=GC.out _ h.bel;have c0:=hA.blk.cell 0 rfl;rw[LL.out]at c0;exact⟨hA.left.cell u (by rw[LL.out];exact hun),c0,hA.left.lt.2,hA.blk.lt⟩)
      have HX:Hid (G.lf u=G.left.getD u 0):=zh rfl;generalize G.left.getD u 0=x at *;rw[HX.out]at NF
      go_cut [86]from 58 to 154 (fun s86 wc=>s86=.bool (decide (x<0/\en<0))/\Hid (NrJ w gf gb bh fa vi (some ⟨g,0,none⟩) c H2 wc/\Blk wc ga 154 [.int .i64 u,.int .i64 d]))
      case first=>
       obtain⟨l0,c0,gll,bll⟩:=LC.out _ J4.out;have a0:=X4.cell 0 rfl;have gal:=X4.lt
       by_cases h1:x<0
       ·have d1:decide (x<0)=true:=decide_eq_true h1
        by_cases h2:en<0
        ·have d2:decide (en<0)=true:=decide_eq_true h2
         have d3:decide (x<0/\en<0)=true:=decide_eq_true ⟨h1,h2⟩;refine wrp ?_
         repeat(go_big_quiet_step (fail))
         refine wpQuiet_nil ?_;intro xx;have J5:=zh (J4.below xx.far);have X5:=zh (X4.below xx.far gal);generalize xx.w=w5 at J5 X5 ⊢;go_wp2_with fail
         go_meet
         case rel=>exact⟨by simp[d3],zh ⟨J5.out,X5.out⟩⟩
        ·have d2:decide (en<0)=false:=decide_eq_false h2
         have d3:decide (x<0/\en<0)=false:=decide_eq_false (fun h=>h2 h.2);refine wrp ?_
         repeat(go_big_quiet_step (fail))
         refine wpQuiet_nil ?_;intro xx;have J5:=zh (J4.below xx.far);have X5:=zh (X4.below xx.far gal);generalize xx.w=w5 at J5 X5 ⊢;go_wp2_with fail
         go_meet
         case rel=>exact⟨by simp[d3],zh ⟨J5.out,X5.out⟩⟩
       ·have d1:decide (x<0)=false:=decide_eq_false h1
        have d3:decide (x<0/\en<0)=false:=decide_eq_false (fun h=>h1 h.1);refine wrp ?_
        repeat(go_big_quiet_step (fail))
        refine wpQuiet_nil ?_;intro xx;have J5:=zh (J4.below xx.far);have X5:=zh (X4.below xx.far gal);generalize xx.w=w5 at J5 X5 ⊢;go_wp2_with fail
        go_meet
        case rel=>exact⟨by simp[d3],zh ⟨J5.out,X5.out⟩⟩
      case rest=>
       clear J4 X4 LC;obtain⟨rfl,HC⟩:=hcut
       go_upto_if 86 with fail
       go_cut [11]from 58 to 154 (fun s11 wc=>s11=.int .i64 (if x<0/\en<0 then (u:Int)else en)/\Hid (NrJ w gf gb bh fa vi (some ⟨g,0,none⟩) c H2 wc/\Blk wc ga 154 [.int .i64 u,.int .i64 d]))
       case first=>
        have a0:=HC.2.cell 0 rfl
        by_cases h3:x<0/\en<0
        ·have d3:decide (x<0/\en<0)=true:=decide_eq_true h3
         simp only[d3];go_wp2_with fail
         go_meet
         case rel=>exact⟨by rw[if_pos h3],HC⟩
        ·have d3:decide (x<0/\en<0)=false:=decide_eq_false h3
         simp only[d3];go_wp2_with fail
         go_meet
         case rel=>exact⟨by rw[if_neg h3],HC⟩
       case rest=>
        clear HC;obtain⟨rfl,HC⟩:=hcut;generalize (if x<0/\en<0 then (u:Int)else en)=en2 at *;have J5:=zh HC.1;have X5:=zh HC.2;clear HC;have HU:=zh (HFU.trans NF.1);have N5:=zh NF.2.2.2.2;have ED:Hid (∀j,j<(G.outs.getD u []).length-> ∃k:Nat,(G.outs.getD u []).getD j 0=(k:Int)/\k<G.es.length/\G.frA k=u):=zh (fun j hj=>Mt HG.out hun hj);have N6:Hid (NI G n p fa vi H2 (u::S) en2 d (exJ (G.outs.getD u []) 0)):=zh (N5.excuse (fun k hk _ h=>by
         subst h;have:=HG.o2 k hk;simpa [exJ]using this))
        have O3:=zh (HG.o3 u hun);have OX:=zh (fun (j k:Nat)=>IB (l:=G.outs.getD u []) (j:=j) (k:=k));have OE:=zh (fun (k:Nat)=>Ms (l:=G.outs.getD u []) (k:=k));have OC:=zh (HA.outs u (by rw[LO.out];exact hun));clear N5 NF;generalize G.outs.getD u []=ol at *;have CC:Hid (∀W,Below w.heap.size w W->W.cell? ⟨b,2,none⟩=some (.slice (some ⟨bo,0,none⟩) n n)/\bo<W.heap.size/\b<W.heap.size):=zh (fun W h=>by
         have hA:=GC.out _ h;have c2:=hA.blk.cell 2 rfl;rw[LO.out]at c2;exact⟨c2,hA.bo.1,hA.blk.lt⟩)
        obtain⟨Ao,co,oc0,oco,ocm,oia,_⟩:=OC.out;have OI:=zh oia;have oc:=(J5.bel.cell (p:=⟨bo,u,none⟩) HA.bo.1).trans oc0;clear oc0;obtain⟨c2,bol,bll⟩:=CC.out _ J5.bel;have a0:=X5.cell 0 rfl;have gal:=X5.lt;clear oia;generalize hol:ol.length=no at *;have HOL:=zh hol;clear hol;go_upto_region 18 with fail
        refine wrp ?_
        repeat(go_big_quiet_step (fail))
        refine wpQuiet_nil ?_;intro xx;have J6:=zh (J5.below xx.far);have X6:=zh (X5.below xx.far gal);generalize xx.w=w6 at J6 X6 ⊢;clear a0 gal c2 bol bll oc J5 X5;go_wp2_with fail
        go_loopg [98] no (fun m jv wr=> ∃j:Nat,jv=.int .i64 j/\j+m=no/\Hid (∃fa1 vi1 A1 c1 H1,NrJ w gf gb bh fa1 vi1 A1 c1 H1 wr/\Blk wr ga 154 [.int .i64 u,.int .i64 d]/\ ¬aK A1 ga/\NI G n p fa1 vi1 H1 (u::S) en2 d (exJ ol j)/\ny H1/\H1.length+1<=n+S.length*4096+j/\mu fa1 H1<=mu fa H2/\fa1.getD u 0=d))
        case atStart=>exact⟨0,rfl,by omega,zh ⟨fa,vi,_,c,H2,J6.out,X6.out,fun h=>Vj (aA.1 h).symm,N6.out,HH2.out,by have:=HB2.out;omega,Nat.le_refl _,HU.out⟩⟩
        case round=>
         obtain⟨j,rfl,hjm,HJ⟩:=hrel;obtain⟨fa1,vi1,A1,c1,H1,q1,q2,q8,q3,q4,q5,q6,q7⟩:=HJ.out;have JR:=zh q1;have XR:=zh q2;have NR1:=zh q3;have HH1:=zh q4;have HB1:=zh q5;have HM1:=zh q6;have HU1:=zh q7;have GAN:=zh q8;clear HJ q1 q2 q3 q4 q5 q6 q7 q8 J6 X6 N6
         by_cases hj:j<no
         ·have hji:(j:Int)<(no:Int):=by omega
          obtain⟨k,hk,hke,hfr⟩:=ED.out j hj;obtain⟨ad,rfl,adl,ad0⟩:=(OI.below JR.bel (Nat.le_refl _)) j (by rw[HOL.out];exact hj);rw[hk]at ad0;have EX:=zh (OX.out j k hj hk);have HFR:=zh hfr;clear hk hfr;obtain⟨ge,rfl,gel,e0,e1,e2⟩:=(GC.out _ JR.bel).edge k hke;have hto:=HG.to k hke;have hcb:=HG.cb k hke;have hrm:=HG.rm k hke;have HTO:Hid (G.toA k=(G.es.getD k default).to.toNat):=zh rfl;have HRM:Hid (G.room k=(G.es.getD k default).room):=zh rfl;have HCO:Hid (G.cost k=(G.es.getD k default).cost):=zh rfl;rw[HCO.out]at hcb;rw[HRM.out]at hrm;have ec1:=(GC.out _ JR.bel).blk.cell 1 rfl;have hkl:k<G.es.length:=hke;generalize hml:G.es.length=ml at ec1 hkl;have HML:=zh hml;clear hml hke;have hki:(k:Int)<(ml:Int):=by omega
          generalize G.es.getD k default=ed at *;obtain⟨t0,ro,co'⟩:=ed;simp only at e0 e1 e2 hto hcb hrm HTO HRM HCO;obtain⟨v,rfl⟩: ∃v:Nat,t0=(v:Int):=⟨t0.toNat,by omega⟩;simp only[Int.toNat_natCast]at HTO;have hvn:v<n:=by omega
          have HRC:Hid (∀q:List Int,G.rc q k=co'+q.getD u 0-q.getD v 0):=zh (fun q=>by unfold Gr.rc;rw[HCO.out,HFR.out,HTO.out]);have hpu:=HP.bd u hun;have hpv:=HP.bd v hvn;have PAT:Hid (∀W,Below w.heap.size w W-> ∃ap,P=some ap/\W.cell? (ap.add u)=some (.int .i64 (p.getD u 0))/\W.cell? (ap.add v)=some (.int .i64 (p.getD v 0))/\(ap.add u).block<W.heap.size/\(ap.add v).block<W.heap.size):=zh (fun W h=>by
           have hI:=HPA.below h (Nat.le_refl _);obtain⟨a1,e1,b1,c1⟩:=hI u (by rw[HP.len];exact hun);obtain⟨a2,e2,b2,c2⟩:=hI v (by rw[HP.len];exact hvn)
           cases e1
           cases e2
           exact⟨_,rfl,c1,c2,by rw[block_add];exact b1,by rw[block_add];exact b2⟩)
          have HR0:=HRC.out p;generalize p.getD u 0=pu at *;generalize p.getD v 0=pv at *;have HRC:=zh HR0;clear HR0;have FV:Hid (∀W,NrJ w gf gb bh fa1 vi1 A1 c1 H1 W->W.cell? ⟨gf,v,none⟩=some (.int .i64 (fa1.getD v 0))/\gf<W.heap.size):=zh (fun W h=>⟨h.f.cell v (by rw[NR1.l1];exact hvn),h.f.lt⟩);have SKIP:=zh (fun h=>NR1.skip (ex':=exJ ol (j+1)) (u:=u) (k:=k) (fun i _ hi=>EX.out i hi) HFR.out h);have RLX:=zh (fun dd h1 h2 h3=>NR1.relax (ex':=exJ ol (j+1)) (u:=u) (k:=k) (d:=dd) HG.out HP.out (fun i _ hi=>EX.out i hi) (by rw[HML.out];exact hkl) HFR.out (by simp) HU1.out h1 h2 h3);have MUR:=zh (fun (dd:Int) (H':List Vs) (e:Vs) (h1:0<=dd) (h2:dd<fa1.getD v 0) (h3:H'.Perm (e::H1))=>IA (v:=v) (by rw[NR1.l1];exact hvn) (fun i hi=>(NR1.top i (by rw[<-NR1.l1];exact hi)).1) h1 h2 h3);have FU:Hid (∀dd,(fa1.set v dd).getD u 0=d):=zh (fun dd=>by
           rw[dw _ _ _ _ (by rw[NR1.l1];exact hvn),if_neg,HU1.out];intro e;have:=HG.ne k (by rw[HML.out];exact hkl);rw[HFR.out,HTO.out]at this;exact this e.symm)
          rw[HTO.out,HRC.out,HRM.out,HU1.out]at SKIP;rw[HTO.out,HRC.out,HRM.out,HU1.out]at RLX;generalize hfv:fa1.getD v 0=fv at *;clear hfv;go_upto_region 22 with fail
          have J7:=zh (JR.below ((Below.refl _ _).alloc (Nat.le_refl _) (.cells #[.int .i64 v,.int .i64 ro,.int .i64 co'] 144)));have X7:=zh (XR.alloc (.cells #[.int .i64 v,.int .i64 ro,.int .i64 co'] 144));have Y7:=zh (Blk.new' wr #[.int .i64 v,.int .i64 ro,.int .i64 co'] 144);generalize wr.alloc (.cells #[.int .i64 v,.int .i64 ro,.int .i64 co'] 144)=w7 at J7 X7 Y7 ⊢;generalize wr.heap.size=gx at *;clear e0 e1 e2 ec1 ad0;have a0:=X7.cell 0 rfl;have a1:=X7.cell 1 rfl;have x0:=Y7.cell 0 rfl;have x2:=Y7.cell 2 rfl;have gal:=X7.lt;have gxl:=Y7.lt;obtain⟨ap,rfl,p0,p1,p2,p3⟩:=PAT.out _ J7.bel;have s1:IntKind.i64.wrap (d+co')=d+co':=IntWalk.i64_in _ (by omega);have s2:IntKind.i64.wrap (d+co'+pu)=d+co'+pu:=IntWalk.i64_in _ (by omega);have s3:IntKind.i64.wrap (d+co'+pu-pv)=d+co'+pu-pv:=IntWalk.i64_in _ (by omega);refine wrp ?_
          repeat(go_big_quiet_step (fail))
          refine wpQuiet_nil ?_;intro xx;have J8:=zh (J7.below xx.far);have X8:=zh (X7.below xx.far gal);have Y8:=zh (Y7.below xx.far gxl);generalize xx.w=w8 at J8 X8 Y8 ⊢;clear s1 s2 s3 a0 a1 x0 x2 gal gxl p0 p1 p2 p3 J7 X7 Y7;generalize hdd:d+co'+pu-pv=dd at *;have HDD:=zh hdd;clear hdd;have x0:=Y8.cell 0 rfl;have x1:=Y8.cell 1 rfl;obtain⟨f0,gfl⟩:=FV.out _ J8.out
          by_cases hr:0<ro
          ·have d1:decide (0<ro)=true:=decide_eq_true hr
           by_cases hlt:dd<fv
           ·have d2:decide (dd<fv)=true:=decide_eq_true hlt
            have RX:=zh (RLX.out dd (by have:=HDD.out;omega) hlt hr);have v0:=J8.v.cell v (by rw[NR1.l2];exact hvn);go_upto_region 24 with fail
            clear x0 x1 f0 gfl v0;have gln:Hid (fa1.length=n/\vi1.length=n):=zh ⟨NR1.l1,NR1.l2⟩;refine aD 9 [true] [] ?af24 (fun V=>(∃fa2,NrJ w gf gb bh fa2 vi1 A1 c1 H1 V/\fa2.length=n/\fa2.set v dd=fa1.set v dd)/\Blk V ga 154 [.int .i64 u,.int .i64 d]/\Blk V gx 144 [.int .i64 v,.int .i64 ro,.int .i64 co']) (by kernel_rfl) (by kernel_rfl) ⟨⟨fa1,J8.drew,gln.1,rfl⟩,X8.drew,Y8.drew⟩ ?Vk ?UU
            case Vk=>
             rintro V ⟨_,_,hV⟩;have x0:=hV.cell 0 rfl;clear hV;simp only[List.take_succ_cons,List.take_zero]
             repeat(go_big_quiet_step (fail))
             refine wpQuiet_nil ?_;rfl
            case UU=>
             rintro V ⟨⟨fa2,h1,h2,h3⟩,h4,h5⟩;have JV:=zh h1;have L2:=zh h2;have SE:=zh h3;have XV:=zh h4;have YV:=zh h5;have f0:=h1.f.cell v (by rw[h2];exact hvn);have zf:=h1.f.free v;have J9:=zh (h1.putF v dd);have X9:=zh (h4.setCell_ne (p:=⟨gf,v,none⟩) (h1.f.ne h4 (by decide)) (.int .i64 dd));have Y9:=zh (h5.setCell_ne (p:=⟨gf,v,none⟩) (h1.f.ne h5 (by decide)) (.int .i64 dd));clear h1 h2 h3 h4 h5;refine aI ?_;unfold eQ;go_simp;generalize V.setCell ⟨gf,v,none⟩ (.int .i64 dd)=V1 at J9 X9 Y9 ⊢;rw[SE.out]at J9;clear f0 zf;refine⟨⟨⟨_,J9.out,by rw[List.length_set];exact gln.1,List.set_set ..⟩,X9.out,Y9.out⟩,?_⟩;refine bJ ?_;have v0:=J9.v.cell v (by rw[gln.2];exact hvn);have zv:=J9.v.free v;have x0:=Y9.cell 0 rfl;go_upto_region 25 with fail
             have J10:=zh (J9.putV v k);have X10:=zh (X9.setCell_ne (p:=⟨gb,v,none⟩) (J9.v.ne X9.out (by decide)) (.int .i64 k));have Y10:=zh (Y9.setCell_ne (p:=⟨gb,v,none⟩) (J9.v.ne Y9.out (by decide)) (.int .i64 k));generalize V1.setCell ⟨gb,v,none⟩ (.int .i64 k)=V2 at J10 X10 Y10 ⊢;clear v0 zv x0 J9 X9 Y9 XV YV JV;have x0:=Y10.cell 0 rfl;go_wp2_with fail
             refine(PK bh A1 H1.length c1 H1 v dd w.heap.size V2 rfl (by have:=HB1.out;have:=NR1.slen;have:=O3.out;simp only[List.length_cons]at *;omega) J10.bel.size J10.h HH1.out).mono ?_;rintro e V3 ⟨rfl,A',c',H',hh,hpm,hhp,ht,hk⟩;have J11:=zh (J10.queue ht hh);have X11:=zh (X10.touch ht (fun hs=>by
              rcases hs with hs|hs
              ·exact ae X10.out J10.h.1 (by decide) hs.symm
              ·exact GAN.out hs))
             have N11:=zh (RX.2.2.perm hpm);have M11:=zh (MUR.out dd H' _ RX.2.1 hlt hpm);have Vl:=zh hhp;have Vm:=zh hpm.length_eq;have Vn:Hid (¬aK A' ga):=zh (fun hs=>by
              rcases hk ga hs with h1|h1
              ·exact GAN.out h1
              ·have:=X10.lt;omega)
             clear hh hpm hhp ht hk x0;go_wp2_with fail
             go_roundg (gk-1)
             case measure=>omega
             case rel=>exact⟨j+1,by go_num,by omega,zh ⟨_,_,A',c',H',J11.out,X11.out,Vn.out,N11.out,Vl.out,by have:=HB1.out;have:=Vm.out;simp only[List.length_cons]at this;omega,Nat.le_trans M11.out HM1.out,FU.out dd⟩⟩
           ·have d2:decide (dd<fv)=false:=decide_eq_false hlt
            have SK:=zh (SKIP.out (by have:=HDD.out;omega));go_wp2_with fail
            go_roundg (gk-1)
            case measure=>omega
            case rel=>exact⟨j+1,by go_num,by omega,zh ⟨fa1,vi1,A1,c1,H1,J8.out,X8.out,GAN.out,SK.out,HH1.out,by have:=HB1.out;omega,HM1.out,HU1.out⟩⟩
          ·have d1:decide (0<ro)=false:=decide_eq_false hr
           have SK:=zh (SKIP.out (by omega));go_wp2_with fail
           go_roundg (gk-1)
           case measure=>omega
           case rel=>exact⟨j+1,by go_num,by omega,zh ⟨fa1,vi1,A1,c1,H1,J8.out,X8.out,GAN.out,SK.out,HH1.out,by have:=HB1.out;omega,HM1.out,HU1.out⟩⟩
         ·obtain rfl:j=no:=by omega
          have NZ:=NR1.excuse (ex':=fun _=>False) (fun k _ _ h=>OE.out k h);have NZ:=zh NZ;go_wp2_with fail
          go_roundg (mu fa1 H1)
          case measure=>have h1:=HM.out;have h2:=HM2.out;have h3:=HM1.out;omega
          case rel=>exact⟨en2,rfl,zh ⟨fa1,vi1,_,c1,H1,u::S,d,JR.out,NZ.out,HH1.out,by have:=HB1.out;have:=O3.out;simp only[List.length_cons];omega,rfl⟩⟩
section
variable {w:World} {B b gl cl ce bo ge:Nat} {E:Option Addr} {G:Gr}
theorem eX.putL (h:eX w B b gl cl E ce bo G) (v:Nat) (x:Int):eX (w.setCell ⟨gl,v,none⟩ (.int .i64 x)) B b gl cl E ce bo {G with left:=G.left.set v x}:=
 {blk:=by show Blk _ b 113 [.slice (some ⟨gl,0,none⟩) (G.left.set v x).length cl,_,_];rw[List.length_set];exact h.blk.setCell_ne h.ne.1 _
  left:=h.left.put v x
  es:=h.es.set_ne (p:=⟨gl,v,none⟩) h.ne.2.2 _
  outs:=h.outs.touch (T:=fun k=>k=gl) h.bo.1 h.bo.2.2.1 (fun k e=>.inr (.inl e)) ((Touch.refl (fun k=>k=gl) w).setCell (p:=⟨gl,v,none⟩) (.inl rfl) _)
  bo:=⟨by simp[World.setCell];exact h.bo.1,h.bo.2⟩
  ne:=h.ne
  base:=h.base}
theorem eX.putE (h:eX w B b gl cl (some ⟨ge,0,none⟩) ce bo G) (k:Nat) (r:Int) (hk:k<G.es.length):eX (w.setCell ⟨ge,k*3+1,none⟩ (.int .i64 r)) B b gl cl (some ⟨ge,0,none⟩) ce bo {G with es:=dF G.es k r}:=
 {blk:=by
   show Blk _ b 113 [_,.slice (some ⟨ge,0,none⟩) (dF G.es k r).length ce,_]
   rw[jf];exact h.blk.setCell_ne (fun e=>h.ne.2.1 (aA.2 e)) _
  left:=by
   have hne:gl≠ge:=fun e=>h.ne.2.2 (aA.2 e)
   have:=bI h.left (p:=⟨ge,k*3+1,none⟩) (fun e=>hne (aA.1 e).symm) (.int .i64 r);exact this
  es:=h.es.put rH k 1 {G.es.getD k default with room:=r} (G.es.getD k default) (.int .i64 r) (bL G.es k default hk) (by omega) rfl
  outs:=h.outs.touch (T:=fun k=>k=ge) h.bo.1 (fun e=>h.bo.2.2.2 (aA.2 e)) (fun k e=>.inr (.inr (aA.2 e))) ((Touch.refl (fun q=>q=ge) w).setCell (p:=⟨ge,k*3+1,none⟩) (.inl rfl) _)
  bo:=⟨by simp[World.setCell];exact h.bo.1,h.bo.2⟩
  ne:=h.ne
  base:=h.base}
end
theorem Dc (k:Nat) (hk:k<4294967296):bits .xor .i64 (k:Int) 1=(tw k:Int):=by
 have e:k ^^^ 1=tw k:=by
  have h1:(k ^^^ 1)/2=k/2:=by rw[Nat.xor_div_two];simp
  have h2:(k ^^^ 1)%2=(k+1)%2:=by have:= @Nat.xor_mod_two_eq_one k 1;omega
  unfold tw
  split<;>omega
 have hx:k ^^^ 1<2^33:=Nat.xor_lt_two_pow (by omega) (by omega);have h1:(BitVec.ofInt 64 (k:Int)).toNat=k:=by
  rw[BitVec.ofInt_natCast,BitVec.toNat_ofNat];exact Nat.mod_eq_of_lt (by omega)
 have h2:(BitVec.ofInt 64 (1:Int)).toNat=1:=by decide
 show IntKind.i64.wrap ((BitVec.ofInt 64 (k:Int) ^^^ BitVec.ofInt 64 1).toNat:Int)=_
 rw[BitVec.toNat_xor,h1,h2,e,IntKind.wrap_i64];rw[e]at hx;omega
theorem GQ (es:List Ed) (k:Nat) (x r1 r2:Int) (h1:r1=(es.getD k default).room -x) (h2:r2=((dF es k r1).getD (tw k) default).room+x):dF (dF es k r1) (tw k) r2=l6 es k x:=by
 subst h1;subst h2;rfl
theorem IX (b gl cl ce bo B:Nat) (E:Option Addr) (G:Gr) (k:Nat) (x:Int) (w:World) (hk:k<G.es.length) (ht:tw k<G.es.length) (hle:G.es.length<=4096) (hr: -8589934592<=G.room k/\G.room k<=8589934592) (hr2: -8589934592<=G.room (tw k)/\G.room (tw k)<=8589934592) (hx: -17179869184<=x/\x<=17179869184) (hg:eX w B b gl cl E ce bo G):
 Calls Try.prog 97 #[.pointer (some ⟨b,0,none⟩),.int .i64 k,.int .i64 x] w fun e w'=>e=.returned (.tuple #[])/\eX w' B b gl cl E ce bo {G with es:=l6 G.es k x}/\Touch (fun q=>aK E q) w w':=by
 have HA:=zh hg;obtain⟨ge,rfl,gel,e0,e1,e2⟩:=hg.edge k hk;have c1:=hg.blk.cell 1 rfl;have bl:=hg.blk.lt;have z1:=hg.es.free (k*3+1);have P1:=zh (fun r=>hg.putE k r hk);have P2:=zh (fun r=>(hg.putE k r hk).edge (tw k) (by show tw k<(dF G.es k r).length;rw[jf];exact ht));have P3:=zh (fun r r2=>(hg.putE k r hk).putE (tw k) r2 (by show tw k<(dF G.es k r).length;rw[jf];exact ht));have HR1:Hid (G.room k=(G.es.getD k default).room):=zh rfl;have HR2:Hid (∀r,((dF G.es k r).getD (tw k) default).room=G.room (tw k)):=zh (fun r=>by
  rw[(l7 G.es k r hk (tw k)).2.2,if_neg (Bc k)];rfl)
 have HT:Hid (tw k=if k%2=0 then k+1 else k-1):=zh rfl;rw[HR1.out]at hr;have HS:=zh (jf G.es k);generalize hml:G.es.length=ml at *;have HML:=zh hml;clear hml hg;generalize (G.es.getD k default).room=ro at *;generalize G.room (tw k)=r2 at *;have hki:(k:Int)<(ml:Int):=by omega
 obtain⟨t,htt⟩: ∃t,t=tw k:=⟨_,rfl⟩;rw[<-htt]at ht P2 P3 HR2 HT;have HTW:=zh htt;clear htt;have hti:(t:Int)<(ml:Int):=by omega
 have hxo:bits .xor .i64 (k:Int) 1=(t:Int):=by rw[HTW.out];exact Dc k (by omega)
 go_enter Try.func97,Try.ntmps97;go_upto_region 1 with fail
 have J1:=P1.out (ro-x);obtain⟨ge',hge,XZ,f0,f1,f2⟩:=P2.out (ro-x)
 cases hge
 rw[HR2.out]at f1;have c1:=J1.blk.cell 1 rfl;simp only[HS.out]at c1;have z1:=J1.es.free (t*3+1);have J1:=zh J1;have T1:=zh ((Touch.refl (fun q=>aK (some ⟨ge,0,none⟩) q) w).setCell (p:=⟨ge,k*3+1,none⟩) (.inl (aA.2 rfl)) (.int .i64 (ro-x)));have P4:=zh (P3.out (ro-x));generalize w.setCell ⟨ge,k*3+1,none⟩ (.int .i64 (ro-x))=w1 at *;clear e0 e1 e2 P1 P2 P3;go_wp2_with fail
 have P5:=P4.out (r2+x);rw[HTW.out]at P5;rw[GQ G.es k x (ro-x) (r2+x) (by rw[<-HR1.out];rfl) (by rw[<-HTW.out,HR2.out])]at P5;rw[<-HTW.out]at P5;exact bodyPost_end (v:=.tuple #[]) (by simp[results,Try.results97,go_sem]) rfl ⟨rfl,P5,T1.setCell (p:=⟨ge,t*3+1,none⟩) (.inl (aA.2 rfl)) _⟩
theorem GR (G:Gr) (a b:List Nat) (x:Int):G.pushL (a++b) x=(G.pushL a x).pushL b x:=by simp[Gr.pushL,List.foldl_append]
theorem gH (x y:Int) (ts:Array TypeId) (t:TypeId) (w:World):(Builtin.min_ ts t #[.int .i64 x,.int .i64 y]).run Try.prog w=.ok (.int .i64 (min x y)) w:=sH x y ts t w
theorem ET {G:Gr} {n:Nat} (h:G.Ok n) {k:Nat} (hk:k<G.es.length):(G.es.getD k default).to=(G.toA k:Int):=by have:=h.to k hk;unfold Gr.toA;omega
theorem wR {S:Nat->Prop} {w W:World} {V:Option Addr} {xs:List Int} (h:aH w V xs) (k:Touch S w W) (hn: ∀b,aK V b-> ¬S b):aH W V xs:=fun i hi=>by
 obtain⟨ad,e,hlt,c⟩:=h i hi;exact⟨ad,e,Nat.lt_of_lt_of_le hlt k.size,(k.cell (p:=ad.add i) (by rw[block_add];exact hlt) (by rw[block_add];exact hn _ ⟨ad,e,rfl⟩)).trans c⟩
theorem IY {G:Gr} {n:Nat} {vi:List Int} {ks:List Nat} {s t:Nat} {x:Int} (h:qo G n vi ks s t x) (hG:G.Ok n) (hst:s≠t):({left:=(G.left.set s (G.lf s-x)).set t (G.lf t+x),es:=(G.pushL ks x).es,outs:=G.outs}:Gr)=G.pushL ks x:=by
 have h1:=h.ok hG;have ha:=cZ (x:=x) h1.1;have hl:=kJ (x:=x) h.way hG.fine;have e1:(G.left.set s (G.lf s-x)).set t (G.lf t+x)=(G.pushL ks x).left:=iJ (by simp[ha.ll]) (fun v hv=>by
  have hs:s<G.left.length:=by rw[hG.ll];exact h.sn
  have ht:t<(G.left.set s (G.lf s-x)).length:=by rw[List.length_set,hG.ll];exact h.tn
  rw[dw _ _ _ _ ht,dw _ _ _ _ hs];have:=hl v;unfold Gr.lf at this ⊢;rw[this]
  by_cases e1:v=t
  ·subst e1;rw[if_pos rfl,if_pos rfl,if_neg (fun e=>hst e.symm)];omega
  ·rw[if_neg e1,if_neg e1]
   by_cases e2:v=s
   ·subst e2;rw[if_pos rfl,if_pos rfl];omega
   ·rw[if_neg e2,if_neg e2];omega)
 rw[e1];have e2:=ha.outs;generalize G.pushL ks x=G' at *;obtain⟨a,b,c⟩:=G';simp only at e2 ⊢;rw[e2]
theorem IZ (b gl cl ce bo B cv n s t:Nat) (E V:Option Addr) (G:Gr) (vi:List Int) (ks:List Nat) (w:World) (hG:G.Ok n) (hw:Dp.Way G vi t ks s) (hnd:(t::ks.map G.frA).Nodup) (hsn:s<n) (htn:t<n) (hsl:0<G.lf s) (htl:G.lf t<0)
 (hks: ∀k,k∈ks->0<G.room k) (hvl:vi.length=n) (hcv:n<=cv/\cv<=9223372036854775807) (hg:eX w B b gl cl E ce bo G) (hV:aH w V vi) (hVn: ∀k,aK V k->k≠gl/\ ¬aK E k):
 Calls Try.prog 72 #[.pointer (some ⟨b,0,none⟩),.slice V n cv,.int .i64 t] w fun e w'=>e=.returned (.tuple #[])/\ ∃x,qo G n vi ks s t x/\eX w' B b gl cl E ce bo (G.pushL ks x)/\Touch (fun k=>k=gl∨aK E k) w w':=by
 have HG:=zh hG;have HA:=zh hg;have HVA:=zh hV;have HW:=zh hw;have HKS:=zh hks;have HSN:=zh hsn;have HVL:=zh hvl;have LL:=zh hG.ll;have LE:=zh hG.le;have n2:n<=1024:=hG.n1.2;have c0:=hg.blk.cell 0 rfl;rw[hG.ll]at c0;have l0:=hg.left.cell t (by rw[hG.ll];exact htn);have hlb:=hG.lb t htn;have Vo:=hG.lb s hsn;have HT:Hid (G.lf t=G.left.getD t 0):=zh rfl;rw[HT.out]at htl hlb;generalize G.left.getD t 0=lt at *;have hti:(t:Int)<(n:Int):=by omega
 have GC:Hid (∀W,Below w.heap.size w W->eX W B b gl cl E ce bo G/\aH W V vi):=zh (fun W h=>⟨HA.below h,HVA.below h (Nat.le_refl _)⟩);have SIM:=zh (lD hw hnd);clear hG hg hV hw hks hsn hvl;go_enter Try.func72,Try.ntmps72;go_wp2_with fail
 go_loopg [6,7] ks.length (fun m xv av wr=> ∃(x:Int) (u:Nat) (dn rs:List Nat),xv=.int .i64 x/\av=.int .i64 u/\m=rs.length/\(0<x/\x<= -lt)/\u<n/\Hid (ks=dn++rs/\Dp.Way G vi u rs s/\Below w.heap.size w wr/\ ∀k,k∈dn->x<=G.room k))
 case atStart=>exact⟨-lt,t,[],ks,rfl,rfl,rfl,⟨by omega,by omega⟩,htn,zh ⟨rfl,HW.out,Below.refl _ _,fun k hk=>by simp at hk⟩⟩
 case round=>
  obtain⟨x,u,dn,rs,rfl,rfl,hm,hx,hun,HJ⟩:=hrel;obtain⟨q1,q2,q3,q4⟩:=HJ.out;have HS:=zh q1;have HWR:=zh q2;have HB:=zh q3;have HD:=zh q4;clear HJ q1 q2 q3 q4 c0 l0;have hui:(u:Int)<(n:Int):=by omega
  obtain⟨av,rfl,avl,av0⟩:=(GC.out _ HB.out).2 u (by rw[HVL.out];exact hun);have avb:(av.add u).block<wr.heap.size:=by rw[block_add];exact avl
  cases rs with
  |nil=>
   have hv:vi.getD u 0= -1:=HWR.1;have hus:u=s:=HWR.2;subst hus;rw[hv]at av0;have hdn:dn=ks:=by have:=HS.out;rw[List.append_nil]at this;exact this.symm
   subst hdn;have Ya:u<n:=hun;have hA1:=(GC.out _ HB.out).1;have c0:=hA1.blk.cell 0 rfl;rw[LL.out]at c0;have l0:=hA1.left.cell u (by rw[LL.out];exact hun);have z0:=hA1.left.free u;have HA1:=zh hA1;have T1:Hid (Touch (fun k=>k=gl∨aK E k) w wr):=zh (Touch.of_below HB.out);have HLS:Hid (G.lf u=G.left.getD u 0):=zh rfl;clear hA1;rw[HLS.out]at hsl Vo;have PL:=zh (fun y=>HA1.putL u y);generalize G.left.getD u 0=ls at *;have hne:u≠t:=fun e=>by subst e;have h1:=HLS.out;have h2:=HT.out;omega
   have hmn:=fun ts t W=>gH x ls ts t W
   generalize hy:min x ls=y at *;have hy1:0<y/\y<= -lt:=by omega
   have HY:Hid (y<=x/\y<=ls):=zh (by omega);clear hy;have SX:Hid (qo G n vi dn u t y):=zh ⟨HW.out,hnd,hun,htn,hy1.1,by rw[HLS.out];exact HY.2,by rw[HT.out];omega,fun k hk=>by have:=HD.out k hk;have:=HY.1;omega⟩;have hys:y<=ls:=HY.2;go_upto_region 7 with fail
   have A2:=zh (PL.out (ls-y));have T2:=zh (T1.setCell (p:=⟨gl,u,none⟩) (.inl (.inl rfl)) (.int .i64 (ls-y)));generalize wr.setCell ⟨gl,u,none⟩ (.int .i64 (ls-y))=w2 at A2 T2 ⊢;clear c0 l0 z0 PL;have c0:=A2.blk.cell 0 rfl;simp only[List.length_set,LL.out]at c0;have l0:=A2.left.cell t (by simp only[List.length_set,LL.out];exact htn);have z0:=A2.left.free t;have hlt2:(G.left.set u (ls-y)).getD t 0=lt:=by
    rw[dw _ _ _ _ (by rw[LL.out];exact hun),if_neg (fun e=>hne e.symm)];exact HT.out
   simp only[hlt2]at l0;clear hlt2;have PL:=zh (A2.putL t (lt+y));have T3:=zh (T2.setCell (p:=⟨gl,t,none⟩) (.inl (.inl rfl)) (.int .i64 (lt+y)));go_wp2_with fail
   generalize w2.setCell ⟨gl,t,none⟩ (.int .i64 (lt+y))=w3 at PL T3 ⊢;clear c0 l0 z0 T1 T2 A2 HA1 av0 avl avb HB HD HWR;have VI:Hid (∀W,Touch (fun k=>k=gl∨aK E k) w W->aH W (some av) vi):=zh (fun W h=>wR HVA.out h (fun q hq hs=>by
    have:=hVn q hq
    rcases hs with hs|hs
    ·exact this.1 hs
    ·exact this.2 hs))
   go_loopg [7] dn.length (fun m av wr=> ∃(v:Nat) (d2 r2:List Nat),av=.int .i64 v/\m=r2.length/\v<n/\Hid (dn=d2++r2/\Dp.Way G vi v r2 u/\eX wr B b gl cl E ce bo {left:=(G.left.set u (ls-y)).set t (lt+y),es:=(G.pushL d2 y).es,outs:=G.outs}/\Touch (fun k=>k=gl∨aK E k) w wr))
   case atStart=>exact⟨t,[],dn,rfl,rfl,htn,zh ⟨rfl,HW.out,PL.out,T3.out⟩⟩
   case round=>
    obtain⟨v,d2,r2,rfl,hm2,hvn,HJ⟩:=hrel;obtain⟨q1,q2,q3,q4⟩:=HJ.out;have HS2:=zh q1;have HW2:=zh q2;have HA2:=zh q3;have HT2:=zh q4;clear HJ q1 q2 q3 q4 PL T3;have hvi:(v:Int)<(n:Int):=by omega
    obtain⟨av',hav,avl,av0⟩:=(VI.out _ HT2.out) v (by rw[HVL.out];exact hvn)
    cases hav
    have avb:(av.add v).block<wr.heap.size:=by rw[block_add];exact avl
    cases r2 with
    |nil=>
     have hv:vi.getD v 0= -1:=HW2.1;rw[hv]at av0;have hd2:d2=dn:=by have:=HS2.out;rw[List.append_nil]at this;exact this.symm
     subst hd2;have LE2:=IY SX.out HG.out hne;rw[HLS.out,HT.out]at LE2;have HA3:=HA2.out;rw[LE2]at HA3;have HA3:=zh HA3;clear LE2 HA2;go_wp2_with fail
     exact bodyPost_end (v:=.tuple #[]) (by simp[results,Try.results72,go_sem]) rfl ⟨rfl,y,SX.out,HA3.out,HT2.out⟩
    |cons k rs=>
     have hv:vi.getD v 0=(k:Int):=HW2.1;have hkl:k<G.es.length:=HW2.2.1;have hkm:k∈dn:=by rw[HS2.out];simp
     have hal:Dp.Alike G (G.pushL d2 y):=cZ (fun j hj=>SX.ok HG.out |>.1 j (by rw[HS2.out];simp[hj]));have hroom:=ik (x:=y) (ks:=d2) (G:=G) (fun j hj=>SX.ok HG.out |>.1 j (by rw[HS2.out];simp[hj]));have hk2:k ∉ d2:=fun hm=>by
      have h1:=SIM.1;rw[HS2.out]at h1;exact(List.nodup_append.1 h1).2.2 k hm k (by simp) rfl
     have ht2:tw k ∉ d2:=fun hm=>SIM.2 k ⟨hkm,by rw[HS2.out];simp[hm]⟩
     have hr1:(G.pushL d2 y).room k=G.room k:=by rw[hroom,List.count_eq_zero.2 hk2,List.count_eq_zero.2 ht2];simp
     have hr2:(G.pushL d2 y).room (tw k)=G.room (tw k):=by rw[hroom,lN,List.count_eq_zero.2 hk2,List.count_eq_zero.2 ht2];simp
     have hrm:=HG.rm k hkl;have RY:=HG.rm (tw k) (HG.tl hkl);rw[lN]at RY;have PU:=zh (IX b gl cl ce bo B E {left:=(G.left.set u (ls-y)).set t (lt+y),es:=(G.pushL d2 y).es,outs:=G.outs} k y wr (by show k<(G.pushL d2 y).es.length;rw[hal.le];exact hkl) (by show tw k<(G.pushL d2 y).es.length;rw[hal.le];exact HG.tl hkl) (by show(G.pushL d2 y).es.length<=4096;rw[hal.le];exact LE.out)
      (by show -8589934592<=(G.pushL d2 y).room k/\(G.pushL d2 y).room k<=8589934592;rw[hr1];omega) (by show -8589934592<=(G.pushL d2 y).room (tw k)/\(G.pushL d2 y).room (tw k)<=8589934592;rw[hr2];omega) (by omega) HA2.out)
     have PE:Hid (({left:=(G.left.set u (ls-y)).set t (lt+y),es:=l6 (G.pushL d2 y).es k y,outs:=G.outs}:Gr)={left:=(G.left.set u (ls-y)).set t (lt+y),es:=(G.pushL (d2++[k]) y).es,outs:=G.outs}):=zh (by rw[GR];rfl);have RZ:Dp.Alike G (G.pushL (d2++[k]) y):=cZ (fun j hj=>SX.ok HG.out |>.1 j (by
      rw[HS2.out]
      rcases List.mem_append.1 hj with h|h
      ·simp[h]
      ·simp at h;simp[h]))
     have Qy:=zh RZ;have HFR:Hid (G.toA (tw k)=G.frA k):=zh rfl;have hfn:=HG.frL hkl;clear hroom hal hk2 ht2 hr1 hr2 hrm RY RZ;rw[hv]at av0;clear hv;go_wp2_with fail
     refine PU.mono ?_;rintro e w5 ⟨rfl,h5,t5⟩;rw[PE.out]at h5;have T5:=zh (HT2.trans (t5.mono (fun q hq=>.inr hq)));obtain⟨ge,rfl,gel,f0,f1,f2⟩:=h5.edge (tw k) (by show tw k<(G.pushL (d2++[k]) y).es.length;rw[Qy.le];exact HG.tl hkl);simp only[Qy.to]at f0;rw[ET HG.out (HG.tl hkl),HFR.out]at f0;have c1:=h5.blk.cell 1 rfl;simp only[Qy.le]at c1;have bl:=h5.blk.lt;obtain⟨av',hav,R5,av2⟩:=(VI.out _ T5.out) v (by rw[HVL.out];exact hvn)
     cases hav
     have hv:vi.getD v 0=(k:Int):=HW2.1;rw[hv]at av2;have Vp:(av.add v).block<w5.heap.size:=by rw[block_add];exact R5
     have H5:=zh h5;have hle:=LE.out;have Vq:=HG.tl hkl;clear h5 t5 PU PE av0 avl avb hv f1 f2;generalize hml:G.es.length=ml at *;have hxo:bits .xor .i64 (k:Int) 1=(tw k:Int):=Dc k (by omega);generalize htk:tw k=tk at *;have HTK:=zh htk;have HML:=zh hml;clear htk hml;have hki:(k:Int)<(ml:Int):=by omega
     have Yb:(tk:Int)<(ml:Int):=by omega
     go_upto_region 10 with fail
     refine wrp ?_
     repeat(go_big_quiet_step (fail))
     refine wpQuiet_nil ?_;intro xx;have A6:=zh (H5.below xx.far);have T6:=zh (T5.below xx.far);generalize xx.w=w6 at A6 T6 ⊢;clear f0 c1 bl av2 Vp R5;go_wp2_with fail
     go_roundg rs.length
     case measure=>rw[hm2];simp
     case rel=>exact⟨G.frA k,d2++[k],rs,rfl,rfl,hfn,zh ⟨by rw[HS2.out];simp,HW2.2.2.2,A6.out,T6.out⟩⟩
  |cons k rs=>
   have hv:vi.getD u 0=(k:Int):=HWR.1;have hkl:k<G.es.length:=HWR.2.1;rw[hv]at av0;obtain⟨ge,rfl,gel,e0,e1,e2⟩:=(GC.out _ HB.out).1.edge k hkl;obtain⟨ge',hge,_,f0,_,_⟩:=(GC.out _ HB.out).1.edge (tw k) (HG.tl hkl)
   cases hge
   have hro:=HKS.out k (by rw[HS.out];simp);have hrb:=HG.rm k hkl;have Yc:=HG.rm (tw k) (HG.tl hkl);have HRO:Hid (G.room k=(G.es.getD k default).room):=zh rfl;rw[HRO.out]at hro hrb;rw[ET HG.out (HG.tl hkl)]at f0;have hfn:=HG.frL hkl;have HFR:Hid (G.frA k=G.toA (tw k)):=zh rfl;rw[HFR.out]at hfn;have hle:=LE.out;have Vq:=HG.tl hkl;have c1:=(GC.out _ HB.out).1.blk.cell 1 rfl;have bl:=(GC.out _ HB.out).1.blk.lt;generalize hml:G.es.length=ml at *;have HML:=zh hml;clear hml;generalize (G.es.getD k default).room=ro at *;generalize G.room (tw k)=r2 at *;have hxo:bits .xor .i64 (k:Int) 1=(tw k:Int):=Dc k (by omega);generalize G.toA (tw k)=v at *;generalize tw k=tk at *;have hki:(k:Int)<(ml:Int):=by omega
   have htk:(tk:Int)<(ml:Int):=by omega
   have hmn:=fun ts t W=>gH x ro ts t W
   generalize hy:min x ro=y at *;have hy1:0<y/\y<= -lt:=by omega
   have HY:Hid (y<=x/\y<=ro):=zh (by omega);clear hy;go_upto_region 3 with fail
   refine wrp ?_
   repeat(go_big_quiet_step (fail))
   refine wpQuiet_nil ?_;intro xx;have HB4:=zh (HB.trans (xx.far.mono HB.size));have av1:=(xx.far.cell (p:=av.add u) avb).trans av0;have f1:=(xx.far.cell (p:=⟨ge,tk*3,none⟩) gel).trans f0;have c2:=(xx.far.cell (p:=⟨b,1,none⟩) bl).trans c1;have hsz:=xx.far.size;generalize xx.w=w4 at HB4 av1 f1 c2 hsz ⊢;have Vr:(av.add u).block<w4.heap.size:=by omega
   have Vt:ge<w4.heap.size:=by omega
   have bl4:b<w4.heap.size:=by omega
   clear av0 f0 c1 e0 e1 e2 hmn;go_upto_region 4 with fail
   refine wrp ?_
   repeat(go_big_quiet_step (fail))
   refine wpQuiet_nil ?_;intro xx;have HB5:=zh (HB4.trans (xx.far.mono HB4.size));generalize xx.w=w5 at HB5 ⊢;clear av1 f1 c2 Vr Vt bl4;go_wp2_with fail
   go_roundg rs.length
   case measure=>rw[hm];simp
   case rel=>exact⟨y,v,dn++[k],rs,rfl,rfl,rfl,hy1,hfn,zh ⟨by rw[HS.out];simp,by have:=HWR.2.2.2;rw[HFR.out]at this;exact this,HB5.out,fun j hj=>by
    rcases List.mem_append.1 hj with h|h
    ·have:=HD.out j h;have:=HY.1;omega
    ·simp at h;subst h;rw[HRO.out];exact HY.2⟩⟩
theorem max_i64 (x y:Int) (ts:Array TypeId) (t:TypeId) (w:World):(Builtin.max_ ts t #[.int .i64 x,.int .i64 y]).run Try.prog w=.ok (.int .i64 (max x y)) w:=lY x y ts t w
theorem vE (l:List Int) (k:Nat) (hk:k<l.length):sum ((l.map (max 0)).take (k+1))=sum ((l.map (max 0)).take k)+max 0 (l.getD k 0):=by
 rw[jd _ k (by rw[List.length_map];exact hk),getD_map (max 0) l k hk]
theorem vF {l:List Int} (h: ∀v,v<l.length-> -8589934592<=l.getD v 0/\l.getD v 0<=8589934592): ∀k:Nat,k<=l.length->0<=sum ((l.map (max 0)).take k)/\sum ((l.map (max 0)).take k)<=8589934592*k
 |0,_=>by simp[sum]
 |k+1,hk=>by
  have ih:=vF h k (by omega);have:=h k (by omega);rw[vE l k (by omega),Int.natCast_add,Int.mul_add];omega
theorem I4 (b gl cl ce bo B n:Nat) (E:Option Addr) (G:Gr) (w:World) (hG:G.Ok n) (hg:eX w B b gl cl E ce bo G):
 Calls Try.prog 64 #[.pointer (some ⟨b,0,none⟩)] w fun e w'=>e=.returned (.int .i64 (dA G.left))/\w=w':=by
 have HL:=zh hG.ll;have hle:=hG.n1.2;have HB:=zh (vF (l:=G.left) (fun v hv=>hG.lb v (by rw[<-hG.ll];exact hv)));have HS:=zh (vE G.left);have HC:=zh (fun k hk=>hg.left.cell k hk);have HLB:=zh hG.lb;have c0:=hg.blk.cell 0 rfl;rw[hG.ll]at c0;have HR:Hid (dA G.left=sum ((G.left.map (max 0)).take n)):=zh (by unfold dA;rw[List.take_of_length_le];rw[List.length_map,hG.ll];exact Nat.le_refl _);clear hG hg;go_enter Try.func64,Try.ntmps64;go_wp2_with fail
 go_loop [2,10] (fun sv iv=> ∃k:Nat,iv=.int .i64 k/\k<=n/\sv=.int .i64 (sum ((G.left.map (max 0)).take k))) (fun _ iv=>n-(intOf iv).toNat)
 case atStart=>exact⟨0,rfl,Nat.zero_le _,rfl⟩
 case round=>
  obtain⟨k,rfl,hk,rfl⟩:=hrel;have b0:=HB.out k (by rw[HL.out];exact hk)
  by_cases hlt:k<n
  ·have hki:(k:Int)<(n:Int):=by omega
   have l0:=HC.out k (by rw[HL.out];exact hlt);have b1:=HLB.out k hlt;have e1:=HS.out k (by rw[HL.out];exact hlt);have E1:Hid (G.lf k=G.left.getD k 0):=zh rfl;rw[E1.out]at b1;generalize G.left.getD k 0=x at *;have HE:=zh e1;clear e1;generalize sum ((G.left.map (max 0)).take k)=S at *;have hmx:=fun ts t W=>max_i64 0 x ts t W
   generalize hy:max 0 x=y at *;have hy1:0<=y/\y<=8589934592:=by omega
   clear hy
   go_wp2
   go_round
   case rel=>exact⟨k+1,by go_num,by omega,by rw[HE.out]⟩
   case measure=>simp[intOf];omega
  ·obtain rfl:k=n:=by omega
   have HR:=zh HR.out;generalize sum ((G.left.map (max 0)).take k)=S at *
   go_wp2
   go_ret;exact⟨by rw[HR.out];rfl,rfl⟩
def nH (es:List Ed) (k:Nat):List Int:=(List.range (es.length/2)).map fun i=>if i<k then (es.getD (2*i+1) default).room else 0
theorem iY (es:List Ed) (k:Nat):(nH es k).length=es.length/2:=by simp[nH]
theorem mU {es:List Ed} {k i:Nat} (hi:i<es.length/2):(nH es k).getD i 0=if i<k then (es.getD (2*i+1) default).room else 0:=by
 simp[nH,zg,hi]
theorem De (es:List Ed):List.replicate (es.length/2) 0=nH es 0:=by
 refine iJ (by simp[iY]) (fun v hv=>?_);rw[iY]at hv;rw[mU hv];simp[zg,hv]
theorem Df (es:List Ed) (k:Nat) (hk:k<es.length/2):(nH es k).set k (es.getD (2*k+1) default).room=nH es (k+1):=by
 refine iJ (by simp[iY]) (fun v hv=>?_);rw[iY]at hv;rw[dw _ _ _ _ (by rw[iY];exact hk),mU hv,mU hv]
 by_cases e:v=k
 ·subst e;rw[if_pos rfl,if_pos (Nat.lt_succ_self v)]
 ·rw[if_neg e]
  by_cases h:v<k
  ·rw[if_pos h,if_pos (show v<k+1 by omega)]
  ·rw[if_neg h,if_neg (show¬v<k+1 by omega)]
theorem Dg {N:Net} {G:Gr} (h:Fits N G):nH G.es (G.es.length/2)=aR N G:=by
 have e:G.es.length/2=N.arcs.length:=by rw[h.es];omega
 refine iJ (by rw[iY,gG,e]) (fun v hv=>?_);rw[gG]at hv;rw[mU (by rw[e];exact hv),fG hv,if_pos (by rw[e];exact hv)];rfl
theorem Qz (b gl cl ce bo B n:Nat) (E:Option Addr) (G:Gr) (w:World) (hG:G.Ok n) (hg:eX w B b gl cl E ce bo G):
 Calls Try.prog 65 #[.pointer (some ⟨b,0,none⟩)] w fun e w'=> ∃gf,e=.returned (.slice (some ⟨gf,0,none⟩) (G.es.length/2) (G.es.length/2))/\Below w.heap.size w w'/\Fl 2 w' gf (nH G.es (G.es.length/2))/\w.heap.size<=gf:=by
 have HA:=zh hg;have c1:=hg.blk.cell 1 rfl;have bl:=hg.blk.lt;have hle:=hG.le;have F0:=zh (kE 2 (G.es.length/2) w);rw[De]at F0;have FL:=zh (iY G.es);have FS:=zh (Df G.es);have GC:Hid (∀W,Below w.heap.size w W->eX W B b gl cl E ce bo G):=zh (fun W h=>HA.below h);clear hG hg;have ED:Hid (∀W,Below w.heap.size w W-> ∀k,k<G.es.length-> ∃ge,E=some ⟨ge,0,none⟩/\W.cell? ⟨ge,k*3+1,none⟩=some (.int .i64 (G.es.getD k default).room)):=zh (fun W h k hk=>by
  obtain⟨ge,e,_,_,c,_⟩:=(GC.out W h).edge k hk;exact⟨ge,e,c⟩)
 have hm1:=gZ (G.es.length/2) (by omega);have CW:Hid (∀W,Below w.heap.size w W->W.cell? ⟨b,1,none⟩=some (.slice E G.es.length ce)):=zh (fun W h=>(GC.out W h).blk.cell 1 rfl);generalize hml:G.es.length=ml at *;have HML:=zh hml;clear hml;obtain⟨m,hm⟩: ∃m,m=ml/2:=⟨_,rfl⟩;have hm2:(ml:Int)/2=(m:Int):=by omega
 rw[<-hm]at hm1 F0 FL FS ⊢;have HMM:=zh hm;clear hm;go_enter Try.func65,Try.ntmps65;go_wp2_with fail
 have B0:=zh ((Below.refl w.heap.size w).alloc (Nat.le_refl _) (.cells (Array.replicate m (.int .i64 0)) 2));generalize w.alloc (.cells (Array.replicate m (.int .i64 0)) 2)=w1 at F0 B0 ⊢;generalize hgf:w.heap.size=gf at *;clear c1 bl hm1
 go_loopw [14] (fun iv wr=> ∃k:Nat,iv=.int .i64 k/\k<=m/\Hid (Below gf w wr/\Fl 2 wr gf (nH G.es k))) (fun iv _=>m-(intOf iv).toNat)
 case atStart=>exact⟨0,rfl,Nat.zero_le _,zh ⟨B0.out,F0.out⟩⟩
 case round=>
  obtain⟨k,rfl,hk,HJ⟩:=hrel;have HB:=zh HJ.1;have HF:=zh HJ.2;clear HJ F0 B0
  by_cases hlt:k<m
  ·have hki:(k:Int)<(m:Int):=by omega
   have hMM:=HMM.out;obtain⟨ge,rfl,e1⟩:=ED.out _ HB.out (2*k+1) (by omega);have c1:=CW.out _ HB.out;have f0:=HF.cell k (by rw[FL.out];exact hlt);have z0:=HF.free k;have P1:=zh (fun x=>HF.put k x);have FS1:=zh (FS.out k hlt);generalize (G.es.getD (2*k+1) default).room=ro at *;obtain⟨q,hq⟩: ∃q,q=2*k+1:=⟨_,rfl⟩;have hq1:2*(k:Int)+1=(q:Int):=by omega
   have hq2:q<ml:=by omega
   have hq3:(q:Int)<(ml:Int):=by omega
   rw[<-hq]at e1;clear hq hMM;go_wp2_with fail
   have F1:=P1.out ro;rw[FS1.out]at F1;have F1:=zh F1;have B1:=zh (HB.setCell (p:=⟨gf,k,none⟩) (Nat.le_refl _) (.int .i64 ro))
   go_roundw
   case rel=>exact⟨k+1,by go_num,by omega,zh ⟨B1.out,F1.out⟩⟩
   case measure=>simp[intOf];omega
  ·obtain rfl:k=m:=by omega
   go_wp2
   go_ret;exact⟨gf,rfl,by rw[hgf];exact HB.out,HF.out,by rw[hgf];exact Nat.le_refl _⟩
end Go.Proofs.Ytmebpglkeedaoaa
namespace Go.Proofs.Ytmebpglkeedaoaa
namespace Dp
def cz (outs:List (List Int)) (v:Nat) (x:Int):List (List Int):=outs.set v (outs.getD v []++[x])
theorem iG (outs:List (List Int)) (v:Nat) (x:Int):(cz outs v x).length=outs.length:=by simp[cz]
theorem gK {outs:List (List Int)} {v:Nat} (hv:v<outs.length) (x:Int) (u:Nat):(cz outs v x).getD u []=if u=v then outs.getD v []++[x]else outs.getD u []:=by
 unfold cz;simp only[zg,List.getElem?_set]
 by_cases h:v=u
 ·subst h;simp[hv]
 ·rw[if_neg h,if_neg (fun e=>h e.symm)]
def esK (N:Net):Nat->List Ed
 |0=>[]
 |k+1=>esK N k++[⟨(N.arcs.getD k default).to,(N.arcs.getD k default).cap,(N.arcs.getD k default).cost⟩,⟨(N.arcs.getD k default).fr,0,-(N.arcs.getD k default).cost⟩]
def aJ (N:Net):Nat->List (List Int)
 |0=>List.replicate N.sup.length []
 |k+1=>cz (cz (aJ N k) (frN N k) (2*k:Nat)) (toN N k) (2*k+1:Nat)
theorem rJ (N:Net): ∀k,(esK N k).length=2*k
 |0=>rfl
 |k+1=>by simp[esK,rJ N k];omega
theorem gM (N:Net): ∀k,(aJ N k).length=N.sup.length
 |0=>by simp[aJ]
 |k+1=>by simp[aJ,iG,gM N k]
theorem oF (N:Net): ∀(k j:Nat),j<k->(esK N k).getD (2*j) default=⟨(N.arcs.getD j default).to,(N.arcs.getD j default).cap,(N.arcs.getD j default).cost⟩/\(esK N k).getD (2*j+1) default=⟨(N.arcs.getD j default).fr,0,-(N.arcs.getD j default).cost⟩
 |0,j,h=>absurd h (Nat.not_lt_zero _)
 |k+1,j,h=>by
  have hl:=rJ N k;simp only[esK]
  by_cases e:j=k
  ·subst e
   simp only[zg];rw[List.getElem?_append_right (by omega),List.getElem?_append_right (by omega),hl];simp
  ·have ih:=oF N k j (by omega)
   simp only[zg]at ih ⊢;rw[List.getElem?_append_left (by omega),List.getElem?_append_left (by omega)];exact ih
theorem mV {N:Net} (h:chE N=0): ∀k,k<=N.arcs.length-> ∀v,v<N.sup.length-> ∀x,x∈(aJ N k).getD v []↔ ∃j,j<k/\((x=(2*j:Nat)/\frN N j=v)∨(x=(2*j+1:Nat)/\toN N j=v))
 |0,_,v,hv,x=>by simp[aJ,zg,hv]
 |k+1,hk,v,hv,x=>by
  have ih:=mV h k (by omega) v hv x;have e:=dZ h k (by omega);have hl:=gM N k;have step: ∀(j:Nat),j<k+1↔j<k∨j=k:=fun j=>by omega
  have hne:frN N k≠toN N k:=by
   have:=(bX h k (by omega)).2.2.1;intro e2;rw[e.1,e.2.1,e2]at this;exact this rfl
  simp only[aJ];rw[gK (by rw[iG,hl];exact e.2.2.2),gK (by rw[hl];exact e.2.2.1),gK (by rw[hl];exact e.2.2.1)];constructor
  ·intro hx
   split at hx
   ·rename_i e1
    rw[if_neg (fun e2=>hne e2.symm)]at hx
    rcases List.mem_append.1 hx with hx|hx
    ·rw[<-e1]at hx
     obtain⟨j,hj,hx⟩:=ih.1 hx;exact⟨j,by omega,hx⟩
    ·exact⟨k,by omega,.inr ⟨by simpa using hx,e1.symm⟩⟩
   ·split at hx
    ·rename_i e1
     rcases List.mem_append.1 hx with hx|hx
     ·rw[<-e1]at hx
      obtain⟨j,hj,hx⟩:=ih.1 hx;exact⟨j,by omega,hx⟩
     ·exact⟨k,by omega,.inl ⟨by simpa using hx,e1.symm⟩⟩
    ·obtain⟨j,hj,hx⟩:=ih.1 hx
     exact⟨j,by omega,hx⟩
  ·rintro⟨j,hj,hx⟩
   rcases (step j).1 hj with hj|rfl
   ·have hx:=ih.2 ⟨j,hj,hx⟩
    split
    ·rename_i e1
     rw[if_neg (fun e2=>hne e2.symm),<-e1];exact List.mem_append_left _ hx
    ·split
     ·rename_i e1
      rw[<-e1];exact List.mem_append_left _ hx
     ·exact hx
   ·rcases hx with ⟨hx,e1⟩|⟨hx,e1⟩
    ·rw[if_neg (fun e2=>hne (e1.trans e2)),if_pos e1.symm,hx]
     simp
    ·rw[if_pos e1.symm,hx]
     simp
theorem jh {N:Net} (h:chE N=0): ∀k,k<=N.arcs.length-> ∀v,((aJ N k).getD v []).length<=2*k
 |0,_,v=>by
  simp only[aJ,zg,List.getElem?_replicate]
  split<;>simp
 |k+1,hk,v=>by
  have ih:=jh h k (by omega);have e:=dZ h k (by omega);have hl:=gM N k;simp only[aJ];rw[gK (by rw[iG,hl];exact e.2.2.2),gK (by rw[hl];exact e.2.2.1),gK (by rw[hl];exact e.2.2.1)];have h1:=ih v;have h2:=ih (frN N k);have h3:=ih (toN N k)
  split
  ·split<;>simp only[List.length_append,List.length_cons,List.length_nil]<;>omega
  ·split
   ·simp only[List.length_append,List.length_cons,List.length_nil];omega
   ·omega
def gr0 (N:Net):Gr:={left:=N.sup,es:=esK N N.arcs.length,outs:=aJ N N.arcs.length}
theorem wS {N:Net} {f:Nat->Int}: ∀(k:Nat) (v:Nat),(∀j,j<k->f j=0)->lv N f k v=N.sup.getD v 0
 |0,_,_=>rfl
 |k+1,v,h=>by
  simp only[lv];rw[wS k v (fun j hj=>h j (by omega)),h k (by omega)];simp
theorem oG {N:Net}:Fits N (gr0 N):=by
 have hg:=fun j hj=>oF N N.arcs.length j hj
 refine⟨by simp[gr0,rJ],rfl,fun i hi=>?_,fun i hi=>?_,fun i hi=>?_,fun v hv=>?_⟩
 ·unfold Gr.toA gr0 toN frN;simp only[]
  rw[(hg i hi).1,(hg i hi).2];exact⟨rfl,rfl⟩
 ·unfold Gr.cost gr0;simp only[]
  rw[(hg i hi).1,(hg i hi).2];exact⟨rfl,rfl⟩
 ·unfold Gr.room gr0;simp only[]
  rw[(hg i hi).1,(hg i hi).2];simp
 ·rw[wS]
  ·rfl
  ·intro j hj
   unfold Gr.room gr0;simp only[];rw[(hg j hj).2]
theorem Dh {N:Net} (h:chE N=0):(gr0 N).Ok N.sup.length:=by
 have hf:=oG (N:=N);have hl:=bV h;have half: ∀k,k<(gr0 N).es.length->(∃i,i<N.arcs.length/\k=2*i)∨ ∃i,i<N.arcs.length/\k=2*i+1:=fun k hk=>by
  rw[hf.es]at hk
  rcases (show k=2*(k/2)∨k=2*(k/2)+1 by omega)with e|e
  ·exact .inl ⟨k/2,by omega,e⟩
  ·exact .inr ⟨k/2,by omega,e⟩
 have hg:=fun j hj=>oF N N.arcs.length j hj
 exact
 {n1:=⟨hl.1,hl.2.1⟩
  ll:=rfl
  lo:=gM N _
  le:=by rw[hf.es];omega
  ev:=by rw[hf.es];omega
  «to»:=fun k hk=>by
   rcases half k hk with ⟨i,hi,rfl⟩|⟨i,hi,rfl⟩
   ·show 0<=((esK N N.arcs.length).getD (2*i) default).to/\((esK N N.arcs.length).getD (2*i) default).to<_
    rw[(hg i hi).1];exact(bX h i hi).2.1
   ·show 0<=((esK N N.arcs.length).getD (2*i+1) default).to/\((esK N N.arcs.length).getD (2*i+1) default).to<_
    rw[(hg i hi).2];exact(bX h i hi).1
  ne:=fun k hk=>by
   rcases half k hk with ⟨i,hi,rfl⟩|⟨i,hi,rfl⟩
   ·rw[(hf.t0 i hi).1,(hf.fr i hi).1]
    have e:=dZ h i hi;have:=(bX h i hi).2.2.1;intro e2;rw[e.1,e.2.1,e2]at this;exact this rfl
   ·rw[(hf.t0 i hi).2,(hf.fr i hi).2]
    have e:=dZ h i hi;have:=(bX h i hi).2.2.1;intro e2;rw[e.1,e.2.1,e2]at this;exact this rfl
  co:=fun k hk=>by
   rcases half k hk with ⟨i,hi,rfl⟩|⟨i,hi,rfl⟩
   ·rw[lF,(hf.c0 i hi).1,(hf.c0 i hi).2]
   ·rw[jm,(hf.c0 i hi).1,(hf.c0 i hi).2];omega
  cb:=fun k hk=>by
   rcases half k hk with ⟨i,hi,rfl⟩|⟨i,hi,rfl⟩
   ·rw[(hf.c0 i hi).1];exact(bX h i hi).2.2.2.2
   ·rw[(hf.c0 i hi).2];have:=(bX h i hi).2.2.2.2;omega
  rm:=fun k hk=>by
   rcases half k hk with ⟨i,hi,rfl⟩|⟨i,hi,rfl⟩
   ·rw[lF]
    have h1:=hf.r0 i hi;have h2:=(bX h i hi).2.2.2.1;have h3:(gr0 N).room (2*i+1)=0:=by show((esK N N.arcs.length).getD (2*i+1) default).room=0;rw[(hg i hi).2]
    omega
   ·rw[jm]
    have h1:=hf.r0 i hi;have h2:=(bX h i hi).2.2.2.1;have h3:(gr0 N).room (2*i+1)=0:=by show((esK N N.arcs.length).getD (2*i+1) default).room=0;rw[(hg i hi).2]
    omega
  lb:=fun v hv=>by have:=jW h v hv;show _<=N.sup.getD v 0/\N.sup.getD v 0<=_;omega
  o1:=fun v hv x hx=>by
   obtain⟨j,hj,hx⟩:=(mV h _ (Nat.le_refl _) v hv x).1 hx;rw[hf.es]
   rcases hx with ⟨rfl,e⟩|⟨rfl,e⟩
   ·refine⟨by omega,by omega,?_⟩
    rw[Int.toNat_natCast,(hf.fr j hj).1,e]
   ·refine⟨by omega,by omega,?_⟩
    rw[Int.toNat_natCast,(hf.fr j hj).2,e]
  o2:=fun k hk=>by
   rcases half k hk with ⟨i,hi,rfl⟩|⟨i,hi,rfl⟩
   ·rw[(hf.fr i hi).1]
    exact(mV h _ (Nat.le_refl _) _ (dZ h i hi).2.2.1 _).2 ⟨i,hi,.inl ⟨rfl,rfl⟩⟩
   ·rw[(hf.fr i hi).2]
    exact(mV h _ (Nat.le_refl _) _ (dZ h i hi).2.2.2 _).2 ⟨i,hi,.inr ⟨rfl,rfl⟩⟩
  o3:=fun v _=>by
   have:=jh h _ (Nat.le_refl _) v
   show((aJ N N.arcs.length).getD v []).length<=4096
   omega}
end Dp
end Go.Proofs.Ytmebpglkeedaoaa
namespace Go.Proofs.Ytmebpglkeedaoaa
open Go.RowKit Dp
section
variable {P:Program} {w:World}
theorem qw (t ty:TypeId) (base:Nat) (e:TypeId) (i:TypeInfo) (z:Value) (size bytes:Nat) (ht:P.underlying t=some (.slice e)) (hi:P.info? e=some i) (hz:i.zero=some z)
 (hsize:i.size=size) (hby:i.bytes=bytes) (hzs:z.cells.size=size) (hsz:0<size)
 (A:Option Addr) (n cap:Nat) (xs:List Value) (hown:w.ownsRow base e size (.slice A n cap) n xs)
 (a:Addr) (m c:Nat) (news:List Value) (hl:news.length=m*size) (hnews: ∀j u,news[j]?=some u->w.cell? (a.add j)=some u) (h1: ∀u∈news,u.oneCell'=true)
 (hm:0<m) (h63:n+m<=maxLen) (hbytes:(n+m)*bytes<=140737488355328) (hbase:base<=w.heap.size):
 ∃g cap' w',(Builtin.append_ #[t,t] ty #[.slice A n cap,.slice (some a) m c]).run P w=.ok (.slice (some ⟨g,0,none⟩) (n+m) cap') w'/\w'.ownsRow base e size (.slice (some ⟨g,0,none⟩) (n+m) cap') (n+m) (xs++news)/\
  w.grownBy w' (Value.slice A n cap).ownBlock/\(aK A g∨g=w.heap.size)/\w'.ownsRow base e size (.slice A n cap) n xs:=by
 obtain⟨g,cap',w',hr,h2,h3,h4,h5⟩:=run_append_lies (P:=P) w t ty base e i z size bytes ht hi hz hsize hby hzs hsz (.slice A n cap) n xs hown a m c news hl hnews h1 hm h63 hbytes hbase w.heap.size rfl;refine⟨g,cap',w',hr,h2,h3,h4.imp (fun h=>bE.2 h) id,?_⟩;subst hsize
 rcases hown.2 with ⟨hv,hn0⟩|⟨g0,cap0,cur,hv,hbg,hg,hnc,hcm,hcs,htake⟩
 ·cases hv
  exact⟨hown.1,.inl ⟨rfl,hn0⟩⟩
 ·cases hv
  by_cases hroom:n+m<=cap
  ·have hfit:n*i.size+news.length<=cur.size:=by rw[hl,hcs,<-Nat.add_mul];exact Nat.mul_le_mul_right _ hroom
   have hr2:=run_append_room (P:=P) w t ty e i ht hi g0 n cap cur hg a m c news hl hnews h1 hroom hfit;rw[hr]at hr2;simp only[Result.ok.injEq]at hr2;obtain⟨_,rfl⟩:=hr2;refine⟨hown.1,.inr ⟨g0,cap,_,rfl,hbg,setRow_heap w g0 cur _ e _ hg,hnc,hcm,?_,?_⟩⟩
   ·simp only[List.size_toArray,List.length_append,List.length_take,List.length_drop,Array.length_toList]
    omega
   ·have hx:xs.length=n*i.size:=hown.1
    rw[htake];simp only[List.append_assoc];rw[List.take_append_of_le_length (by omega),<-hx,List.take_length]
  ·have holds: ∀j u,xs[j]?=some u->w.cell? ((⟨g0,0,none⟩:Addr).add j)=some u:=hown.cells (g:=g0) rfl
   have hr2:=run_append_grow (P:=P) w t ty e i z ht hi hz ⟨g0,0,none⟩ n cap xs hown.1 holds a m c news hl hnews (by unfold maxLen at h63;omega) (by unfold maxLen at h63;omega) (growslice_fits (by omega) (by rw[hby];exact hbytes));rw[hr]at hr2;simp only[Result.ok.injEq]at hr2;obtain⟨_,rfl⟩:=hr2;exact hown.drew.alloc _
theorem nM {o:Oper} {a:Act} {N:Value->World->Prop} (s x:Operand) (t:TypeId)
 (ho:o.op=.call {callee:=.builtin .append,args:= #[s,x],argTypes:= #[t,t]})
 (base:Nat) (e:TypeId) (i:TypeInfo) (z:Value) (size bytes:Nat) (ht:P.underlying t=some (.slice e)) (hi:P.info? e=some i) (hz:i.zero=some z)
 (hsize:i.size=size) (hby:i.bytes=bytes) (hzs:z.cells.size=size) (hsz:0<size)
 (A:Option Addr) (n cap:Nat) (xs:List Value) (hs:a.eval s=.slice A n cap) (hown:w.ownsRow base e size (.slice A n cap) n xs)
 (ad:Addr) (m c:Nat) (news:List Value) (hx:a.eval x=.slice (some ad) m c) (hl:news.length=m*size) (hnews: ∀j u,news[j]?=some u->w.cell? (ad.add j)=some u) (h1: ∀u∈news,u.oneCell'=true)
 (hm:0<m) (h63:n+m<=maxLen) (hbytes:(n+m)*bytes<=140737488355328) (hbase:base<=w.heap.size)
 (h: ∀g cap' w',w'.ownsRow base e size (.slice (some ⟨g,0,none⟩) (n+m) cap') (n+m) (xs++news)->w.grownBy w' (Value.slice A n cap).ownBlock->(aK A g∨g=w.heap.size)->w'.ownsRow base e size (.slice A n cap) n xs->N (.slice (some ⟨g,0,none⟩) (n+m) cap') w'):eQ P o a w N:=by
 obtain⟨g,cap',w',hr,h2,h3,h4,h5⟩:=qw (P:=P) t o.type base e i z size bytes ht hi hz hsize hby hzs hsz A n cap xs hown ad m c news hl hnews h1 hm h63 hbytes hbase;unfold eQ execOp;simp only[ho,resolve,invoke,builtin,Sem.run_bind,Sem.run_pure,Result.andThen_ok,List.map_toArray,List.map_cons,List.map_nil,hs,hx,hr];exact h g cap' w' h2 h3 h4 h5
end
def jP (x:Int):List Value:=[.int .i64 x]
theorem I5 (x:Int):(jP x).length=1:=rfl
theorem I6:(Try.prog.info? 26).map (fun i=>(i.zero,i.size,i.bytes))=some (some (.slice none 0 0),1,24):=by kernel_rfl
theorem ME:(Try.prog.info? 144).map (fun i=>(i.zero,i.size,i.bytes))=some (some (.agg #[.int .i64 0,.int .i64 0,.int .i64 0]),3,24):=by kernel_rfl
def slC (A:Nat->Option Addr) (c:Nat->Nat) (outs:List (List Int)):List Value:=(List.range outs.length).map fun i=>.slice (A i) (outs.getD i []).length (c i)
theorem wT {A:Nat->Option Addr} {c:Nat->Nat} {outs:List (List Int)} {i:Nat} (hi:i<outs.length):(slC A c outs)[i]?=some (.slice (A i) (outs.getD i []).length (c i)):=by
 simp[slC,hi]
def upd {α:Type} (f:Nat->α) (i:Nat) (x:α) (j:Nat):α:=if j=i then x else f j
theorem MF {A:Nat->Option Addr} {c:Nat->Nat} {outs:List (List Int)} {i:Nat} (hi:i<outs.length) (g cap:Nat) (x:Int):
 (slC A c outs).set i (.slice (some ⟨g,0,none⟩) ((outs.getD i []).length+1) cap)=slC (upd A i (some ⟨g,0,none⟩)) (upd c i cap) (cz outs i x):=by
 apply List.ext_getElem
 ·simp[slC,iG]
 ·intro j h1 h2
  have hj:j<outs.length:=by simpa [slC]using h1
  rw[List.getElem_set];simp only[slC,List.getElem_map,List.getElem_range];rw[gK hi];unfold upd
  by_cases e:i=j
  ·subst e
   rw[if_pos rfl,if_pos rfl,if_pos rfl,if_pos rfl];simp
  ·rw[if_neg e,if_neg (fun h=>e h.symm),if_neg (fun h=>e h.symm),if_neg (fun h=>e h.symm)]
structure NgJ (w:World) (b gl cl bo:Nat) (E:Option Addr) (ce:Nat) (A:Nat->Option Addr) (c:Nat->Nat) (G:Gr) (W:World):Prop where
 bel:Below w.heap.size w W
 blk:Blk W b 113 [.slice (some ⟨gl,0,none⟩) G.left.length cl,.slice E G.es.length ce,.slice (some ⟨bo,0,none⟩) G.outs.length G.outs.length]
 left:dI w.heap.size W gl cl G.left
 es:bB edC 144 3 w.heap.size W E ce G.es
 rows:Blk W bo 26 (slC A c G.outs)
 own: ∀i,i<G.outs.length->bB jP 3 1 w.heap.size W (A i) (c i) (G.outs.getD i [])
 dis: ∀i j,i<G.outs.length->j<G.outs.length->i≠j-> ∀k,aK (A i) k-> ¬aK (A j) k
 ge:w.heap.size<=b/\w.heap.size<=bo
theorem dI.typed {B:Nat} {W:World} {g c:Nat} {xs:List Int} {t:TypeId} {cs:List Value} (h:dI B W g c xs) (h':Blk W g t cs) (hn:(2:Nat)≠t):False:=by
 rcases h.2 with ⟨h0,_⟩|⟨g',cap',cur,hv,_,hg,_⟩
 ·simp at h0
 ·simp only[Value.slice.injEq,Option.some.injEq,Addr.mk.injEq]at hv
  obtain⟨⟨rfl,_⟩,_⟩:=hv;unfold Blk at h';rw[hg]at h';simp only[Option.some.injEq,Obj.cells.injEq]at h';exact hn h'.2.1
theorem iw {α β:Type} {f:α->List Value} {f':β->List Value} {e e':TypeId} {s s' B B':Nat} {W:World} {A A':Option Addr} {c c' g:Nat} {l:List α} {l':List β} (h:bB f e s B W A c l) (h':bB f' e' s' B' W A' c' l') (hn:e≠e') (h1:aK A g) (h2:aK A' g):False:=by
 rcases h'.2 with ⟨h0,_⟩|⟨g',cap',cur,hv,_,hg,_⟩
 ·simp only[Value.slice.injEq]at h0
  obtain⟨rfl,_⟩:=h0;obtain⟨a,ha,_⟩:=h2
  cases ha
 ·simp only[Value.slice.injEq]at hv
  obtain⟨rfl,_⟩:=hv;have e1:=aA.1 h2;subst e1;exact iL h h1 (show Blk W g e' cur.toList from by unfold Blk;rw[hg]) hn
theorem Bq: ∀l:List Int,flat jP l=l.map (Value.int .i64)
 |[]=>rfl
 |x::l=>by
  have:=Bq l;unfold flat at *;rw[List.flatMap_cons,this];rfl
theorem dI.rows {B:Nat} {W:World} {g c:Nat} {l:List Int} (h:dI B W g c l):bB jP 2 1 B W (some ⟨g,0,none⟩) c l:=by
 unfold bB;rw[Bq];exact h
section
variable {w V W:World} {b gl cl bo ce:Nat} {E:Option Addr} {A:Nat->Option Addr} {c:Nat->Nat} {G:Gr}
theorem NgJ.below (h:NgJ w b gl cl bo E ce A c G V) (hb:Below V.heap.size V W):NgJ w b gl cl bo E ce A c G W:=
 {bel:=h.bel.trans (hb.mono h.bel.size),blk:=h.blk.below hb h.blk.lt,left:=h.left.below hb,es:=h.es.below hb,rows:=h.rows.below hb h.rows.lt,own:=fun i hi=>(h.own i hi).below hb,dis:=h.dis,ge:=h.ge}
theorem NgJ.drew (h:NgJ w b gl cl bo E ce A c G V):NgJ w b gl cl bo E ce A c G V.drew:=h.below (Below.refl _ _).drew
theorem NgJ.grown (h:NgJ w b gl cl bo E ce A c G V) (i:Nat) (hi:i<G.outs.length) {n cap:Nat} (hn:n=(G.outs.getD i []).length) (hcap:cap=c i) (hg:V.grownBy W (Value.slice (A i) n cap).ownBlock) (hk:bB jP 3 1 w.heap.size W (A i) (c i) (G.outs.getD i [])):NgJ w b gl cl bo E ce A c G W:=by
 have hrow: ∀k,(Value.slice (A i) n cap).ownBlock=some k->aK (A i) k:=fun k e=>bE.2 e
 have ho:=h.own i hi;have nb: ∀(g:Nat) (t:TypeId) (cs:List Value),Blk V g t cs->(3:Nat)≠t->some g≠(Value.slice (A i) n cap).ownBlock:=fun g t cs hb ht e=>iL ho (hrow g e.symm) hb ht
 exact
 {bel:=h.bel.grown hg h.bel.size (fun k e=>(iT ho (hrow k e)).2)
  blk:=h.blk.grown hg (nb _ _ _ h.blk (by decide))
  left:=fT h.left hg (fun k hk e=>by
   have h1:=hrow k e.symm;have:=aA.1 hk;subst this;exact iw (f:=jP) (f':=jP) (A':=some ⟨k,0,none⟩) (c':=cl) (l':=G.left) (B':=w.heap.size) (e':=2) (s':=1) ho h.left.rows (by decide) h1 (aA.2 rfl))
  es:=fT h.es hg (fun k hk e=>iw ho h.es (by decide) (hrow k e.symm) hk)
  rows:=h.rows.grown hg (nb _ _ _ h.rows (by decide))
  own:=fun j hj=>by
   by_cases e:j=i
   ·subst e;exact hk
   ·exact fT (h.own j hj) hg (fun k hk' e'=>h.dis j i hj hi e k hk' (hrow k e'.symm))
  dis:=h.dis
  ge:=h.ge}
theorem NgJ.store (h:NgJ w b gl cl bo E ce A c G W) (i:Nat) (hi:i<G.outs.length) {g cap:Nat} {x:Int} (ho:bB jP 3 1 w.heap.size W (some ⟨g,0,none⟩) cap (G.outs.getD i []++[x])) (hg:aK (A i) g∨ ∀j,j<G.outs.length-> ∀k,aK (A j) k->k<g):
 NgJ w b gl cl bo E ce (upd A i (some ⟨g,0,none⟩)) (upd c i cap) {G with outs:=cz G.outs i x} (W.setCell ⟨bo,i,none⟩ (.slice (some ⟨g,0,none⟩) ((G.outs.getD i []).length+1) cap)):=by
 have nb: ∀(k:Nat) (t:TypeId) (cs:List Value),Blk W k t cs->t≠26->k≠bo:=fun k t cs hb ht e=>by
  subst e;exact(ae hb h.rows ht) rfl
 have no: ∀{α:Type} {f:α->List Value} {e:TypeId} {s B c':Nat} {A':Option Addr} {l:List α},bB f e s B W A' c' l->e≠26-> ¬aK A' bo:=fun h' he hb=>iL h' hb h.rows he
 exact
 {bel:=h.bel.setCell h.ge.2 _
  blk:=by
   show Blk _ b 113 [_,_,.slice (some ⟨bo,0,none⟩) (cz G.outs i x).length (cz G.outs i x).length]
   rw[iG];exact h.blk.setCell_ne (nb _ _ _ h.blk (by decide)) _
  left:=bI h.left (p:=⟨bo,i,none⟩) (fun hb=>by
   have e:=aA.1 hb;simp only at e;subst e;exact h.left.typed h.rows (by decide)) _
  es:=h.es.set_ne (p:=⟨bo,i,none⟩) (no h.es (by decide)) _
  rows:=by
   show Blk _ bo 26 (slC _ _ (cz G.outs i x))
   rw[<-MF hi g cap x];exact h.rows.setCell i _
  own:=fun j hj=>by
   simp only[iG]at hj
   show bB jP 3 1 w.heap.size _ _ _ ((cz G.outs i x).getD j [])
   rw[gK hi];unfold upd
   by_cases e:j=i
   ·rw[if_pos e,if_pos e,if_pos e]
    exact ho.set_ne (p:=⟨bo,i,none⟩) (no ho (by decide)) _
   ·rw[if_neg e,if_neg e,if_neg e]
    exact(h.own j hj).set_ne (p:=⟨bo,i,none⟩) (no (h.own j hj) (by decide)) _
  dis:=fun j j' hj hj' hne k h1 h2=>by
   simp only[iG]at hj hj';unfold upd at h1 h2
   by_cases e1:j=i
   ·rw[if_pos e1]at h1
    rw[if_neg (fun e2=>hne (e1.trans e2.symm))]at h2;have:=aA.1 h1;subst this
    rcases hg with hg|hg
    ·exact h.dis i j' hi hj' (fun e=>hne (e1.trans e)) k hg h2
    ·have:=hg j' hj' k h2;omega
   ·rw[if_neg e1]at h1
    by_cases e2:j'=i
    ·rw[if_pos e2]at h2
     have:=aA.1 h2;subst this
     rcases hg with hg|hg
     ·exact h.dis i j hi hj (fun e=>e1 e.symm) k hg h1
     ·have:=hg j hj k h1;omega
    ·rw[if_neg e2]at h2
     exact h.dis j j' hj hj' hne k h1 h2
  ge:=h.ge}
theorem NgJ.edges (h:NgJ w b gl cl bo E ce A c G V) {g cap n:Nat} {e1 e2:Ed} (hn:n=G.es.length) (ho:bB edC 144 3 w.heap.size W (some ⟨g,0,none⟩) cap (G.es++[e1,e2])) (hg:V.grownBy W (Value.slice E n ce).ownBlock):
 NgJ w b gl cl bo (some ⟨g,0,none⟩) cap A c {G with es:=G.es++[e1,e2]} (W.setCell ⟨b,1,none⟩ (.slice (some ⟨g,0,none⟩) (G.es.length+2) cap)):=by
 have hrow: ∀k,(Value.slice E n ce).ownBlock=some k->aK E k:=fun k e=>bE.2 e
 have nb: ∀(k:Nat) (t:TypeId) (cs:List Value),Blk V k t cs->(144:Nat)≠t->some k≠(Value.slice E n ce).ownBlock:=fun k t cs hb ht e=>iL h.es (hrow k e.symm) hb ht
 have PQ:dI w.heap.size W gl cl G.left:=fT h.left hg (fun k hk e=>by
  have h1:=hrow k e.symm;have:=aA.1 hk;subst this;exact iw (f:=edC) (f':=jP) (A':=some ⟨k,0,none⟩) (c':=cl) (l':=G.left) (B':=w.heap.size) (e':=2) (s':=1) h.es h.left.rows (by decide) h1 (aA.2 rfl))
 have Br:=h.blk.grown hg (nb _ _ _ h.blk (by decide));have PR:=h.rows.grown hg (nb _ _ _ h.rows (by decide));have no: ∀{α:Type} {f:α->List Value} {e:TypeId} {s B c':Nat} {A':Option Addr} {l:List α},bB f e s B W A' c' l->e≠113-> ¬aK A' b:=fun h' he hb=>iL h' hb Br he
 exact
 {bel:=(h.bel.grown hg h.bel.size (fun k e=>(iT h.es (hrow k e)).2)).setCell h.ge.1 _
  blk:=by
   have h2:=Br.setCell 1 (.slice (some ⟨g,0,none⟩) (G.es.length+2) cap)
   show Blk _ b 113 [_,.slice (some ⟨g,0,none⟩) (G.es++[e1,e2]).length cap,_]
   rw[List.length_append];exact h2
  left:=bI PQ (p:=⟨b,1,none⟩) (fun hb=>by
   have e:=aA.1 hb;simp only at e;subst e;exact PQ.typed Br (by decide)) _
  es:=ho.set_ne (p:=⟨b,1,none⟩) (no ho (by decide)) _
  rows:=PR.setCell_ne (fun e=>by
   simp only at e;subst e;exact(ae PR Br (by decide)) rfl) _
  own:=fun j hj=>by
   have h1:bB jP 3 1 w.heap.size W (A j) (c j) (G.outs.getD j []):=fT (h.own j hj) hg (fun k hk e'=>iw h.es (h.own j hj) (by decide) (hrow k e'.symm) hk);exact h1.set_ne (p:=⟨b,1,none⟩) (no h1 (by decide)) _
  dis:=h.dis
  ge:=h.ge}
theorem NgJ.done (h:NgJ w b gl cl bo E ce A c G W):eX W w.heap.size b gl cl E ce bo G:=by
 have hlx: ¬aK E gl:=fun hb=>by
  have hl:bB jP 2 1 w.heap.size W (some ⟨gl,0,none⟩) cl G.left:=h.left.rows;exact iw h.es hl (by decide) hb (aA.2 rfl)
 exact
 {blk:=h.blk
  left:=h.left
  es:=h.es
  outs:=fun i hi=>by
   have ho:=h.own i hi;refine⟨A i,c i,h.rows.cell i (wT hi),?_,?_,fun j hj=>?_,fun k hk=>⟨(iT ho hk).1,fun hs=>?_⟩⟩
   ·rcases ho.2 with ⟨h0,h1⟩|⟨g',cap',cur,hv,_,_,h2,_⟩
    ·rw[h1];exact Nat.zero_le _
    ·simp only[Value.slice.injEq]at hv;omega
   ·rcases ho.2 with ⟨h0,h1⟩|⟨g',cap',cur,hv,_,_,_,h2,_⟩
    ·simp only[Value.slice.injEq]at h0;omega
    ·simp only[Value.slice.injEq]at hv;unfold maxLen at h2;omega
   ·obtain⟨g,hA,_,hlt,_⟩:=ho.form (by omega)
    refine⟨⟨g,0,none⟩,hA,hlt,?_⟩;rw[hA]at ho;have:=ho.cell I5 j 0 _ (bL _ j 0 hj) (by omega);rw[dN];simpa [jP]using this
   ·rcases hs with rfl|rfl|hs
    ·exact iL ho hk h.blk (by decide)
    ·have hl:bB jP 2 1 w.heap.size W (some ⟨k,0,none⟩) cl G.left:=h.left.rows
     exact iw ho hl (by decide) hk (aA.2 rfl)
    ·exact iw ho h.es (by decide) hk hs
  bo:=⟨h.rows.lt,fun e=>(by subst e;exact(ae h.rows h.blk (by decide)) rfl),fun e=>(by subst e;exact h.left.typed h.rows (by decide)),fun hb=>iL h.es hb h.rows (by decide)⟩
  ne:=⟨fun e=>(by subst e;exact h.left.typed h.blk (by decide)),fun hb=>iL h.es hb h.blk (by decide),hlx⟩
  base:=⟨h.ge.1,h.left.lt.1⟩}
end
end Go.Proofs.Ytmebpglkeedaoaa
namespace Go.Proofs.Ytmebpglkeedaoaa
open Go Go.RowKit
section
variable {P:Program} {ops:Array Oper} {Q:Exit->Act->World->Prop} {md:Region.Mode} {S:Array Bool->World->Prop}
def Kept (md:Region.Mode) (ops:Array Oper) (listed:Array Bool):Prop:=
 ∀(j:Nat) (oj:Oper),ops[j]?=some oj->listed.getD j false=true-> ∀e∈oj.after,Region.binds md e=true->listed.getD e.on false=true
def Bt (P:Program) (md:Region.Mode) (ops:Array Oper) (Q:Exit->Act->World->Prop) (S:Array Bool->World->Prop):Nat->Array Bool->Act->World->Prop
 |0,listed,a,w=>Region.ready md ops listed=[]/\Q .normal a w
 |fuel+1,listed,a,w=>(Region.ready md ops listed=[]->Q .normal a w)/\
  ∀i∈Region.ready md ops listed,wpOp P ops Q i (fun a' w'=>S (listed.setIfInBounds i true) w'/\Bt P md ops Q S fuel (listed.setIfInBounds i true) a' w') a w
theorem Bt.any: ∀(fuel:Nat) (listed:Array Bool) (a:Act) (w:World),Bt P md ops Q S fuel listed a w->wpAny P md ops Q fuel listed a w
 |0,_,_,_,h=>h
 |fuel+1,_,_,_,h=>⟨h.1,fun i hi=>wpOp_mono (fun a' w' h'=>Bt.any fuel _ a' w' h'.2) (h.2 i hi)⟩
def R6 (md:Region.Mode) (ops:Array Oper) (S:Array Bool->World->Prop) (i:Nat) (w:World):Prop:= ∃listed,listed.getD i true=false/\Kept md ops listed/\S listed w
theorem sZ {listed:Array Bool} {i:Nat} (h:Kept md ops listed) (hr:i∈Region.ready md ops listed):Kept md ops (listed.setIfInBounds i true):=by
 intro j oj hj hl e he hb
 by_cases hji:i=j
 ·subst hji
  obtain⟨_,o,ho,hall⟩:=mem_ready.1 hr;rw[ho]at hj
  cases hj
  exact getD_set_true (hall e he hb)
 ·rw[getD_set_ne false hji]at hl
  exact getD_set_true (h j oj hj hl e he hb)
theorem Di {i:Nat} {oi:Oper} {v:Value} (hi:ops[i]?=some oi) (hsel: ∀(j:Nat) (o:Oper) cs b,ops[j]?=some o->o.op≠ .select cs b)
 (hQ: ∀c a w,Q (.panic c) (a.put oi.dst v) w->Q (.panic c) a w) (hSi: ∀listed w,S (listed.setIfInBounds i true) w->S listed w):
 ∀(fuel:Nat) (listed:Array Bool) (a:Act) (w:World),
  (∀j oj,ops[j]?=some oj->j≠i->listed.getD j true=false->(∀e∈oj.after,Region.binds md e=true->e.on≠i)->oi.apart ops oj=true)->
  i∈Region.ready md ops listed->Kept md ops listed->YieldsIf P ops (R6 md ops S i) oi v a->S listed w->
  Bt P md ops Q S fuel (listed.setIfInBounds i true) (a.put oi.dst v) w->S (listed.setIfInBounds i true) w->Bt P md ops Q S (fuel+1) listed a w:=by
 intro fuel
 induction fuel with
 |zero=>
  intro listed a w _ hr hk hy hS H hS1;refine⟨fun h=>(by rw[h]at hr;cases hr),fun j hj=>?_⟩
  by_cases hji:j=i
  ·subst hji;exact hy.wpOp hi ⟨listed,(mem_ready.1 hr).1,hk,hS⟩ ⟨hS1,H⟩
  ·have:=ready_mono hj hji
   rw[H.1]at this
   cases this
 |succ fuel ih=>
  intro listed a w hfree hr hk hy hS H hS1;refine⟨fun h=>(by rw[h]at hr;cases hr),fun j hj=>?_⟩
  by_cases hji:j=i
  ·subst hji;exact hy.wpOp hi ⟨listed,(mem_ready.1 hr).1,hk,hS⟩ ⟨hS1,H⟩
  ·have h1:=H.2 j (ready_mono hj hji)
   obtain⟨hjun,oj,hoj,hall⟩:=mem_ready.1 hj;have hnot: ∀e∈oj.after,Region.binds md e=true->e.on≠i:=fun e he hb heq=>by
    have h1:=hall e he hb;have h0:=(mem_ready.1 hr).1;rw[heq]at h1
    rcases Nat.lt_or_ge i listed.size with h'|h'
    ·simp[h']at h0 h1;rw[h0]at h1;cases h1
    ·simp[Array.getElem?_eq_none h']at h1
   have h2:=wpOp_putIf hoj (hfree j oj hoj hji hjun hnot) (fun cs b=>hsel i oi cs b hi) (fun cs b=>hsel j oj cs b hoj) hQ hy h1;have hfree': ∀k ok,ops[k]?=some ok->k≠i->(listed.setIfInBounds j true).getD k true=false->
    (∀e∈ok.after,Region.binds md e=true->e.on≠i)->oi.apart ops ok=true:=fun k ok hk hki hun hno=>by
    refine hfree k ok hk hki ?_ hno
    by_cases hjk:j=k
    ·subst hjk;exact hjun
    ·rw[getD_set_ne true hjk]at hun;exact hun
   refine wpOp_mono (fun a' w' h3=>?_) h2;have hc:(listed.setIfInBounds i true).setIfInBounds j true=(listed.setIfInBounds j true).setIfInBounds i true:=by rw[Array.setIfInBounds_comm _ _ (Ne.symm hji)]
   have hS':S (listed.setIfInBounds j true) w':=hSi _ _ (by rw[<-hc];exact h3.2.1);exact⟨hS',ih (listed.setIfInBounds j true) a' w' hfree' (ready_mono hr (Ne.symm hji)) (sZ hk hj) h3.1 hS' (by rw[<-hc];exact h3.2.2) (by rw[<-hc];exact h3.2.1)⟩
def waitsB (md:Region.Mode) (ops:Array Oper):List Nat->Bool
 |b::c::r=>(match ops[b]? with|some o=>o.after.any (fun e=>Region.binds md e&&e.on==c)|none=>false)&&waitsB md ops (c::r)
 |_=>true
theorem Bu {listed:Array Bool} (hk:Kept md ops listed): ∀(p:List Nat) (b i:Nat),waitsB md ops (b::(p++[i]))=true->listed.getD i true=false->listed.getD b false=false
 |[],b,i,h,hi=>by
  simp only[List.nil_append,waitsB,Bool.and_true]at h
  split at h
  ·rename_i o ho
   cases hb:listed.getD b false
   ·rfl
   ·obtain⟨e,he,h1⟩:=Array.any_eq_true'.1 h
    simp only[Bool.and_eq_true,beq_iff_eq]at h1;have h2:=hk b o ho hb e he h1.1;rw[h1.2]at h2
    rcases Nat.lt_or_ge i listed.size with h'|h'
    ·simp[h']at hi h2;rw[hi]at h2;cases h2
    ·simp[Array.getElem?_eq_none h']at h2
  ·cases h
 |c::p,b,i,h,hi=>by
  have h':waitsB md ops (b::c::(p++[i]))=true:=h;simp only[waitsB,Bool.and_eq_true]at h';obtain⟨h1,h2⟩:=h';have hc:=Bu hk p c i h2 hi
  split at h1
  ·rename_i o ho
   cases hb:listed.getD b false
   ·rfl
   ·obtain⟨e,he,h3⟩:=Array.any_eq_true'.1 h1
    simp only[Bool.and_eq_true,beq_iff_eq]at h3;have h4:=hk b o ho hb e he h3.1;rw[h3.2,hc]at h4
    cases h4
  ·cases h1
end
section
variable {P:Program} {l:List Oper} {Q:Exit->Act->World->Prop} {md:Region.Mode} {S:Array Bool->World->Prop}
theorem still {listed:Array Bool} {C:Prop} {b i:Nat} (p:List Nat) (hk:Kept md l.toArray listed) (hi:listed.getD i true=false) (hp:waitsB md l.toArray (b::(p++[i]))=true) (h:listed.getD b false=true∨C):C:=
 h.resolve_left (by rw[Bu hk p b i hp hi];decide)
def GoL (P:Program) (md:Region.Mode) (l:List Oper) (Q:Exit->Act->World->Prop) (S:Array Bool->World->Prop) (fuel:Nat) (listed:Array Bool) (a:Act) (w:World):Prop:=
 Kept md l.toArray listed->Bt P md l.toArray Q S fuel listed a w
theorem bS {i:Nat} {oi:Oper} {v:Value} {fuel:Nat} {listed:Array Bool} {a:Act} {w:World} (hi:l[i]?=some oi)
 (hs:Region.noSelect l.toArray=true) (hf:Region.free md l.toArray listed i=true) (hr:(Region.ready md l.toArray listed).contains i=true)
 (hQ: ∀c a w,Q (.panic c) (a.put oi.dst v) w->Q (.panic c) a w) (hw:Region.wanted oi (yielded l.toArray a.tmps)=true) (hSi: ∀listed w,S (listed.setIfInBounds i true) w->S listed w) (hSj: ∀listed w,S listed w->S (listed.setIfInBounds i true) w)
 (hy: ∀L w,L.getD i true=false->Kept md l.toArray L->S L w->(execOp a.eval oi).run P w=.ok (.value v) w) (hS:S listed w)
 (h:S (listed.setIfInBounds i true) w->GoL P md l Q S fuel (listed.setIfInBounds i true) (a.put oi.dst v) w):GoL P md l Q S (fuel+1) listed a w:=fun hk=>by
 have hi':l.toArray[i]?=some oi:=by simpa using hi
 have hr':i∈Region.ready md l.toArray listed:=by simpa using hr
 exact Di hi' (Region.noSelect_spec hs) hQ hSi fuel listed a w (Region.free_spec hi' hf) hr' hk (.inl ⟨hw,fun w' ⟨L,h1,h2,h3⟩=>hy L w' h1 h2 h3⟩) hS (h (hSj _ _ hS) (sZ hk hr')) (hSj _ _ hS)
theorem lTk (i:Nat) {oi:Oper} (v:Value) {fuel:Nat} {listed:Array Bool} {a:Act} {w:World}
 (hy: ∀L w,L.getD i true=false->Kept md l.toArray L->S L w->(execOp a.eval oi).run P w=.ok (.value v) w)
 (h:S (listed.setIfInBounds i true) w->GoL P md l Q S fuel (listed.setIfInBounds i true) (a.put oi.dst v) w)
 (hi:l[i]?=some oi:=by exact rfl) (hs:Region.noSelect l.toArray=true:=by kernel_rfl) (hf:Region.free md l.toArray listed i=true:=by kernel_rfl) (hr:(Region.ready md l.toArray listed).contains i=true:=by kernel_rfl)
 (hQ: ∀c a w,Q (.panic c) (a.put oi.dst v) w->Q (.panic c) a w:=by exact fun _ _ _ h=>h) (hw:Region.wanted oi (yielded l.toArray a.tmps)=true:=by rfl) (hSi: ∀listed w,S (listed.setIfInBounds i true) w->S listed w:=by exact fun _ _ h=>h) (hSj: ∀listed w,S listed w->S (listed.setIfInBounds i true) w:=by exact fun _ _ h=>h)
 (hS:S listed w:=by assumption):GoL P md l Q S (fuel+1) listed a w:=bS hi hs hf hr hQ hw hSi hSj hy hS h
def au (P:Program) (md:Region.Mode) (l:List Oper) (Q:Exit->Act->World->Prop) (S:Array Bool->World->Prop) (fuel:Nat) (listed:Array Bool) (a:Act) (w:World) (rs:List Nat):Prop:=
 ∀i∈rs,wpOp P l.toArray Q i (fun a' w'=>S (listed.setIfInBounds i true) w'/\GoL P md l Q S fuel (listed.setIfInBounds i true) a' w') a w
theorem au.nil {fuel:Nat} {listed:Array Bool} {a:Act} {w:World}:au P md l Q S fuel listed a w []:=fun _ h=>by cases h
theorem au.cons {fuel:Nat} {listed:Array Bool} {a:Act} {w:World} {i:Nat} {o:Oper} {rs:List Nat} (ho:l[i]?=some o)
 (h: ∀K':Act->World->Prop,Shut (∀a w,S (listed.setIfInBounds i true) w->(S (listed.setIfInBounds i true) w->GoL P md l Q S fuel (listed.setIfInBounds i true) a w)->K' a w)->if Region.wanted o (yielded l.toArray a.tmps)=true then Oper.wp P o a w K' Q else K' (a.put o.dst undef) w)
 (hs:au P md l Q S fuel listed a w rs):au P md l Q S fuel listed a w (i::rs):=fun j hj=>by
 rcases List.mem_cons.1 hj with rfl|hj
 ·exact wpOp_step (by simpa using ho) (fun K' hK=>h K' (fun a w hS hW=>hK a w ⟨hS,hW hS⟩))
 ·exact hs j hj
theorem ay {rs:List Nat} {fuel:Nat} {listed:Array Bool} {a:Act} {w:World} (hr:Region.ready md l.toArray listed=rs) (hne:rs≠[])
 (h:au P md l Q S fuel listed a w rs):GoL P md l Q S (fuel+1) listed a w:=fun hk=>
 ⟨fun h0=>absurd (hr▸h0) hne,fun i hi=>wpOp_mono (fun _ _ h'=>⟨h'.1,h'.2 (sZ hk hi)⟩) (h i (hr▸hi))⟩
theorem fM {listed:Array Bool} {a:Act} {w:World} (hr:Region.ready md l.toArray listed=[]) (h:Q .normal a w): ∀fuel,GoL P md l Q S fuel listed a w
 |0=>fun _=>⟨hr,h⟩
 |_+1=>fun _=>⟨fun _=>h,by rw[hr];simp⟩
theorem kF {id:Nat} {a:Act} {w:World} (hm:P.follows .mixedOrders=true) (hS:S (Array.replicate l.length false) w.drew)
 (h:S (Array.replicate l.length false) w.drew->GoL P .any l Q S l.length (Array.replicate l.length false) a w.drew):(Code.region id l.toArray true).wp P Q a w:=by
 refine wp_region_any hm ?_;have h1:=Bt.any _ _ _ _ (h hS (fun j oj hj hl=>by
  rw[Array.getD_eq_getD_getElem?,Array.getElem?_replicate]at hl
  split at hl<;>cases hl))
 have e:l.toArray.size=l.length:=by simp
 rw[e];exact h1
end
end Go.Proofs.Ytmebpglkeedaoaa
