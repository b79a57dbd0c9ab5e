/- Contracts that the claim leans on. -/
import Derived.Test.YtmebpglkeedaoaaRows
import Derived.WalkKit
import Derived.WalkSpells
import Derived.WalkLawsBesides
import Derived.IntWalk
import Derived.Lib.Hide
import Derived.Deep.Quiet
import Derived.Deep.QuietTactic
import Derived.BigQuiet
import Derived.LoopN
import Derived.StillTail
import Derived.StillTailTactics
import Derived.Orders
import Derived.Laws.AppendOwn
import Derived.Deep.Draws
import Derived.Deep.AppendLies
import Derived.Deep.AppendSrc
import Derived.Laws.CopyOwn
import Derived.Deep.Cut
import Derived.Deep.RegionWith
import Derived.OwnWalk
import Derived.LoopTactic
import Derived.ProofKit
import Derived.OpenShut
import Derived.Below
import Derived.ChangeSame
import Derived.WideKeyArgs
import Derived.Deep.Slices
import Derived.Lib.SliceRun
set_option maxHeartbeats 2000000
set_option maxRecDepth 100000
set_option linter.unusedVariables false
set_option linter.unusedSimpArgs false
set_option linter.unnecessarySimpa false
namespace Go.Proofs.Ytmebpglkeedaoaa
open Go Go.RowKit
theorem zp:(∀(a:Act) (d:Tmp) (v:Value),Act.put a (some d) v={a with tmps:=a.tmps.setIfInBounds d v})/\(∀(l:List Value) (i:Nat) (v:Value),l.toArray.setIfInBounds i v=(l.set i v).toArray)/\(∀(l:List Value) (a v:Value),(a::l).set 0 v=v::l)/\(∀(l:List Value) (a v:Value) (n:Nat),(a::l).set (n+1) v=a::l.set n v):=⟨fun _ _ _=>rfl,by simp,by simp,by simp⟩
theorem zg {α:Type} (l:List α) (i:Nat) (a:α):l.getD i a=l[i]?.getD a:=List.getD_eq_getElem?_getD
theorem zh {p:Prop} (h:p):Hid p:=h
end Go.Proofs.Ytmebpglkeedaoaa
namespace Go.Proofs.Ytmebpglkeedaoaa
open Go.RowKit
theorem ah {k:IntKind} {a b:Int} (h:a=b):Ending.returned (.int k a)=.returned (.int k b):=by rw[h]
theorem bM {a b:Bool} (h:a=b):Ending.returned (.bool a)=.returned (.bool b):=by rw[h]
theorem block_add (a:Addr) (n:Nat):(a.add n).block=a.block:=by unfold Addr.add;split<;>rfl
theorem nS (a b:Int):(if b<a then b else a)=min a b:=by split<;>omega
theorem Mj (a b:Int):(if a<b then b else a)=max a b:=by split<;>omega
theorem gT {P:Program} {c c':Code} {Q:Exit->Act->World->Prop} {a:Act} {W:World} (h:c=c') (hw:Code.wp P c' Q a W):Code.wp P c Q a W:=h▸hw
theorem iV {P:Program} {c:Code} {Q:Exit->Act->World->Prop} {a:Act} {W:World} (J:World->Prop) (hJ:J W) (h: ∀W',J W'->Code.wp P c Q a W'):Code.wp P c Q a W:=h W hJ
def gq (n:Nat):Code->Option Code
 |.block k c=>if k=n then some c else gq n c
 |.loop c=>gq n c
 |.seq a b=>match gq n a with
  |some c=>some c
  |none=>gq n b
 |.scope c=>gq n c
 |.cond _ a b=>match gq n a with
  |some c=>some c
  |none=>gq n b
 |_=>none
def endsIn (n:Nat):Code->Bool
 |.block k _=>k==n
 |.seq _ b=>endsIn n b
 |.scope c=>endsIn n c
 |_=>false
def behind (n:Nat):Code->Option Code
 |.block _ c=>behind n c
 |.loop c=>behind n c
 |.seq a b=>match behind n a with
  |some c=>some c
  |none=>if endsIn n a then some b else behind n b
 |.scope c=>behind n c
 |.cond _ a b=>match behind n a with
  |some c=>some c
  |none=>behind n b
 |_=>none
end Go.Proofs.Ytmebpglkeedaoaa
namespace Go.Proofs.Ytmebpglkeedaoaa
open Go Go.RowKit
structure bN (W:World) where
 w:World
 far:Below W.heap.size W w
instance (W:World):Nonempty (bN W):=⟨⟨W,Below.refl _ _⟩⟩
section
variable {W:World}
@[simp,go_sem] theorem bN.cell (x:bN W) (b o:Nat) (h:b<W.heap.size):x.w.cell? ⟨b,o,none⟩=W.cell? ⟨b,o,none⟩:=x.far.cell (p:=⟨b,o,none⟩) h
theorem Gu (W:World): ∃x:bN W,W.drew=x.w:=⟨⟨W.drew,(Below.refl _ _).drew⟩,rfl⟩
theorem Mk {x:bN W} {w':World} (h:Below x.w.heap.size x.w w'): ∃y:bN W,w'=y.w:=⟨⟨w',x.far.trans (h.mono x.far.size)⟩,rfl⟩
theorem aN {P:Program} {f:FuncId} {args:Array Value} {x:bN W} {v:Value} (h:Calls P f args x.w fun e w'=>e=.returned v/\x.w=w'):Calls P f args x.w fun e w''=>e=.returned v/\ ∃y:bN W,w''=y.w:=
 h.mono fun _ _ ⟨he,hm⟩=>⟨he,x,hm.symm⟩
theorem aZ {P:Program} {f:FuncId} {args:Array Value} {x:bN W} {v:Value} (h:Calls P f args x.w fun e w'=>e=.returned v/\Below x.w.heap.size x.w w'):Calls P f args x.w fun e w''=>e=.returned v/\ ∃y:bN W,w''=y.w:=
 h.mono fun _ _ ⟨he,hm⟩=>⟨he,Mk hm⟩
theorem lh {P:Program} {ops:Array Oper} {C:World->Prop} {Q Q':Act->Prop} (hq: ∀a,Q a->Q' a): ∀(l:List Oper) (a:Act),wpQuiet P ops C Q l a->wpQuiet P ops C Q' l a
 |[],a,h=>hq a h
 |o::rest,a,h=>by
  unfold wpQuiet at h ⊢
  split
  ·rename_i hw
   rw[if_pos hw]at h;exact Oper.quiet_mono (fun a'=>lh hq rest a') h
  ·rename_i hw
   rw[if_neg hw]at h;exact lh hq rest _ h
theorem si {P:Program} {id:Nat} {Q:Exit->Act->World->Prop} {a:Act} {W:World} {l:List Oper} (hm:P.follows .mixedOrders=true) (hB:Region.lexB .any l.toArray=true)
 (h:wpQuiet P l.toArray (fun w'=> ∃x:bN W,w'=x.w) (fun a'=> ∀x:bN W,Q .normal a' x.w) l a):(Code.region id l.toArray true).wp P Q a W:=
 wp_region_quiet (C:=fun w'=> ∃x:bN W,w'=x.w) hm hB (Gu W) (lh (fun a' (h': ∀x:bN W,Q .normal a' x.w) w' ⟨x,hx⟩=>by rw[hx];exact h' x) _ _ (by simpa using h))
theorem wrp {P:Program} {id:Nat} {Q:Exit->Act->World->Prop} {a:Act} {W:World} {l:List Oper} (h:wpQuiet P l.toArray (fun w'=> ∃x:bN W,w'=x.w) (fun a'=> ∀x:bN W,Q .normal a' x.w) l a)
 (hm:P.follows .mixedOrders=true:=by kernel_rfl) (hB:Region.lexB .any l.toArray=true:=by kernel_rfl):(Code.region id l.toArray true).wp P Q a W:=si hm hB h
end
def ai (a:Act) (t:Tmp):Value:=a.tmps.getD t undef
theorem aX {a:Act} {d:Tmp} (v:Value) (h:d<a.tmps.size):ai (a.put (some d) v) d=v:=by
 simp[ai,Act.put,h]
theorem aO {a:Act} {x:Option Tmp} {t:Tmp} (v:Value) (h:x≠some t):ai (a.put x v) t=ai a t:=by
 cases x with
 |none=>rfl
 |some d=>
  have hne:d≠t:=fun e=>h (by rw[e])
  simp[ai,Act.put,Array.getElem?_setIfInBounds_ne hne]
theorem size_put (a:Act) (x:Option Tmp) (v:Value):(a.put x v).tmps.size=a.tmps.size:=by
 cases x<;>simp[Act.put]
theorem dH (a:Act) (x:Option Tmp) (v:Value):(a.put x v).defers=a.defers:=by
 cases x<;>rfl
theorem qZ {a b:Act} (hs:a.tmps.size=b.tmps.size) (hd:a.defers=b.defers) (h: ∀t,ai a t=ai b t):a=b:=by
 cases a with
 |mk ta da=>
  cases b with
  |mk tb db=>
   simp only at hs hd;subst hd
   congr 1
   apply Array.ext hs;intro i h1 h2;have:=h i;simpa [ai,h1,h2]using this
def leftBy (af:Act) (o:Oper):Value:=match o.dst with|some d=>ai af d|none=>undef
def dstsOk (n:Nat):List Oper->Bool
 |[]=>true
 |o::r=>(match o.dst with|some d=>decide (d<n)&&r.all (fun o'=>o'.dst != some d)|none=>false)&&dstsOk n r
section
variable {P:Program} {ops:Array Oper} {C:World->Prop} {af:Act}
def lT (P:Program) (ops:Array Oper) (C:World->Prop) (af:Act):List Oper->Act->Prop
 |[],a=>a=af
 |o::r,a=>YieldsIn P ops C o (leftBy af o) a/\lT P ops C af r (a.put o.dst (leftBy af o))
theorem lT.keep: ∀{l:List Oper} {a:Act},lT P ops C af l a->af.tmps.size=a.tmps.size/\af.defers=a.defers/\ ∀t,(∀o∈l,o.dst≠some t)->ai af t=ai a t
 |[],a,h=>by
  have:a=af:=h;subst this;exact⟨rfl,rfl,fun _ _=>rfl⟩
 |o::r,a,h=>by
  obtain⟨h1,h2,h3⟩:=lT.keep h.2;refine⟨by rw[h1,size_put],by rw[h2,dH],fun t ht=>?_⟩;rw[h3 t (fun o' ho'=>ht o' (by simp[ho'])),aO _ (ht o (by simp))]
theorem nT: ∀{l:List Oper} {a:Act},dstsOk a.tmps.size l=true->wpQuiet P ops C (fun a'=>a'=af) l a->lT P ops C af l a
 |[],a,_,h=>h
 |o::r,a,hd,h=>by
  unfold wpQuiet at h;have hv: ∃v,YieldsIn P ops C o v a/\wpQuiet P ops C (fun a'=>a'=af) r (a.put o.dst v):=by
   split at h
   ·rename_i hw
    obtain⟨v,h1,h2⟩:=h;exact⟨v,.inl ⟨hw,h1⟩,h2⟩
   ·rename_i hw
    exact⟨undef,.inr ⟨by simpa using hw,rfl⟩,h⟩
  obtain⟨v,hy,hr⟩:=hv;simp only[dstsOk,Bool.and_eq_true]at hd;obtain⟨hd1,hd2⟩:=hd
  split at hd1
  ·rename_i d hod
   simp only[Bool.and_eq_true,decide_eq_true_eq,List.all_eq_true]at hd1;have hA:=nT (l:=r) (a:=a.put o.dst v) (by rw[size_put];exact hd2) hr;have he:leftBy af o=v:=by
    unfold leftBy;rw[hod];have:=hA.keep.2.2 d (fun o' ho'=>by simpa using hd1.2 o' ho');simp only[this,hod];exact aX v hd1.1
   refine⟨by rw[he];exact hy,by rw[he];exact hA⟩
  ·cases hd1
def fI (af:Act) (l:List Oper) (a:Act):Act:=l.foldl (fun a o=>a.put o.dst (leftBy af o)) a
theorem lT.get: ∀{l:List Oper} {a:Act} {i:Nat} {o:Oper},lT P ops C af l a->l[i]?=some o->YieldsIn P ops C o (leftBy af o) (fI af (l.take i) a)
 |[],_,_,_,_,hi=>by simp at hi
 |o::r,a,0,o',h,hi=>by
  have:o=o':=by simpa using hi
  subst this;exact h.1
 |o::r,a,i+1,o',h,hi=>by
  have:=lT.get (i:=i) h.2 (by simpa using hi);simpa [fI]using this
theorem jG: ∀(l:List Oper) (a:Act) (t:Tmp),dstsOk a.tmps.size l=true->ai (fI af l a) t=if l.any (fun o=>o.dst==some t)=true then ai af t else ai a t
 |[],a,t,_=>by simp[fI]
 |o::r,a,t,hd=>by
  have hd':=hd;simp only[dstsOk,Bool.and_eq_true]at hd;have ih:=jG r (a.put o.dst (leftBy af o)) t (by rw[size_put];exact hd.2);have e:fI af (o::r) a=fI af r (a.put o.dst (leftBy af o)):=rfl;rw[e,ih]
  by_cases hr:r.any (fun o=>o.dst==some t)=true
  ·simp[hr]
  ·rw[if_neg hr]
   by_cases ho:o.dst=some t
   ·have h1:=hd.1
    rw[ho]at h1;simp only[Bool.and_eq_true,decide_eq_true_eq]at h1;simp only[List.any_cons,ho,beq_self_eq_true,Bool.true_or,if_true];rw[aX _ h1.1];simp[leftBy,ho]
   ·rw[aO _ ho]
    have:(o.dst==some t)=false:=by simpa using ho
    simp[List.any_cons,this,hr]
theorem jc: ∀(l:List Oper) (n i:Nat),dstsOk n l=true->dstsOk n (l.take i)=true
 |_,_,0,_=>by simp[dstsOk]
 |[],_,_+1,_=>by simp[dstsOk]
 |o::r,n,i+1,h=>by
  simp only[dstsOk,Bool.and_eq_true,List.take_succ_cons]at h ⊢;refine⟨?_,jc r n i h.2⟩;have h1:=h.1
  split at h1
  ·simp only[Bool.and_eq_true,decide_eq_true_eq,List.all_eq_true]at h1 ⊢
   exact⟨h1.1,fun o' ho'=>h1.2 o' (List.mem_of_mem_take ho')⟩
  ·cases h1
end
theorem gy {ops:Array Oper} {o:Oper} {a a':Act} (h: ∀t∈o.looksAt ops,ai a t=ai a' t):Region.wanted o (yielded ops a.tmps)=Region.wanted o (yielded ops a'.tmps):=by
 unfold Region.wanted
 cases hg:o.guard with
 |none=>rfl
 |some gw=>
  obtain⟨g,b⟩:=gw;simp only
  congr 1
  unfold yielded
  cases hd:(ops[g]?).bind (·.dst)with
  |none=>simp
  |some d=>
   have:=h d (by unfold Oper.looksAt;rw[hg];simp[hd]);simp only[ai,Array.getD_eq_getD_getElem?]at this;have key: ∀x:Option Value,(match x with|some (.bool b)=>some b|_=>none)=(match x.getD undef with|.bool b=>some b|_=>none):=by
    intro x
    cases x with
    |none=>rfl
    |some v=>cases v<;>rfl
   simp only[Option.bind_some];refine(key _).trans (Eq.trans ?_ (key _).symm);rw[this]
def unl (listed:Array Bool):Nat:=(listed.toList.filter (fun b=> !b)).length
theorem AP: ∀(l:List Bool) (i:Nat),l[i]?=some false->((l.set i true).filter (fun b=> !b)).length+1=(l.filter (fun b=> !b)).length
 |[],i,h=>by simp at h
 |b::l,0,h=>by
  have:b=false:=by simpa using h
  subst this;simp
 |b::l,i+1,h=>by
  have:=AP l i (by simpa using h)
  cases b
  ·simp only[List.set_cons_succ,List.filter_cons,Bool.not_false,if_true,List.length_cons];omega
  ·simpa using this
theorem jR {listed:Array Bool} {i:Nat} (hi:i<listed.size) (h:listed.getD i true=false):unl (listed.setIfInBounds i true)+1=unl listed:=by
 unfold unl;have h':listed.toList[i]?=some false:=by
  have:listed[i]=false:=by simpa [Array.getD,hi]using h
  simp[hi,this]
 have:=AP listed.toList i h';simpa using this
theorem rq (n:Nat):unl (Array.replicate n false)=n:=by simp[unl]
theorem nU {a b:Nat}:unl (Array.replicate a true++Array.replicate b false)=b:=by simp[unl]
def waitsB1 (md:Region.Mode) (ops:Array Oper) (t i:Nat):Bool:=
 match ops[t]? with
 |some o=>o.after.any fun e=>Region.binds md e&&e.on==i
 |none=>false
theorem dV {md:Region.Mode} {ops:Array Oper} {t i:Nat} {o:Oper} (ho:ops[t]?=some o) (h:waitsB1 md ops t i=true): ∃e∈o.after,Region.binds md e=true/\e.on=i:=by
 unfold waitsB1 at h;rw[ho]at h;obtain⟨e,he,hb⟩:=Array.any_eq_true'.1 h;simp only[Bool.and_eq_true,beq_iff_eq]at hb;exact⟨e,he,hb.1,hb.2⟩
section
variable {P:Program} {Q:Exit->Act->World->Prop} {W:World} {a0 af:Act} {l:List Oper} {k:Nat} {ok:Oper} {O:Obj} {ds:Tmp}
theorem fJ {listed:Array Bool} {i:Nat} (h:i<listed.size):listed.getD i true=listed.getD i false:=by
 simp[h]
theorem nV: ∀(l:List Oper) (n j:Nat) (o:Oper),dstsOk n l=true->l[j]?=some o-> ∃d,o.dst=some d/\d<n
 |[],_,_,_,_,h=>by simp at h
 |o::r,n,0,o',hd,h=>by
  have:o=o':=by simpa using h
  subst this;simp only[dstsOk,Bool.and_eq_true]at hd;have h1:=hd.1
  split at h1
  ·rename_i d hod
   simp only[Bool.and_eq_true,decide_eq_true_eq]at h1;exact⟨d,hod,h1.1⟩
  ·cases h1
 |o::r,n,j+1,o',hd,h=>by
  simp only[dstsOk,Bool.and_eq_true]at hd;exact nV r n j o' hd.2 (by simpa using h)
theorem nW: ∀(l:List Oper) (n i j:Nat) (o o':Oper) (d:Tmp),dstsOk n l=true->l[i]?=some o->l[j]?=some o'->i≠j->o.dst=some d->o'.dst≠some d
 |[],_,_,_,_,_,_,_,h,_,_,_=>by simp at h
 |o::r,n,0,0,_,_,_,_,_,_,hne,_=>absurd rfl hne
 |o::r,n,0,j+1,x,y,d,hd,hi,hj,_,hx=>by
  have:o=x:=by simpa using hi
  subst this;simp only[dstsOk,Bool.and_eq_true]at hd;have h1:=hd.1;rw[hx]at h1;simp only[Bool.and_eq_true,decide_eq_true_eq,List.all_eq_true]at h1;have:=h1.2 y (List.mem_of_getElem? (show r[j]?=some y by simpa using hj));simpa using this
 |o::r,n,i+1,0,x,y,d,hd,hi,hj,_,hx=>by
  have:o=y:=by simpa using hj
  subst this;simp only[dstsOk,Bool.and_eq_true]at hd;intro hy;have h1:=hd.1;rw[hy]at h1;simp only[Bool.and_eq_true,decide_eq_true_eq,List.all_eq_true]at h1;have:=h1.2 x (List.mem_of_getElem? (show r[i]?=some x by simpa using hi));simp[hx]at this
 |o::r,n,i+1,j+1,x,y,d,hd,hi,hj,hne,hx=>by
  simp only[dstsOk,Bool.and_eq_true]at hd;exact nW r n i j x y d hd.2 (by simpa using hi) (by simpa using hj) (by omega) hx
theorem AQ (listed:Array Bool): ∀(k:Nat),¬(∀i,i<=k->listed.getD i false=true)-> ∃i,i<=k/\(∀j,j<i->listed.getD j false=true)/\listed.getD i false=false
 |0,h=>⟨0,Nat.le_refl _,fun j hj=>absurd hj (Nat.not_lt_zero _),by
   cases hc:listed.getD 0 false
   ·rfl
   ·exact absurd (fun i hi=>by obtain rfl:i=0:=by omega
                               exact hc) h⟩
 |k+1,h=>by
  by_cases hk: ∀i,i<=k->listed.getD i false=true
  ·refine⟨k+1,Nat.le_refl _,fun j hj=>hk j (by omega),?_⟩
   cases hc:listed.getD (k+1) false
   ·rfl
   ·refine absurd (fun i hi=>?_) h
    by_cases hik:i=k+1
    ·rw[hik];exact hc
    ·exact hk i (by omega)
  ·obtain⟨i,h1,h2,h3⟩:=AQ listed k hk
   exact⟨i,by omega,h2,h3⟩
end
def headB (ops:Array Oper) (k n:Nat):Bool:=
 Region.noSelect ops&&decide (k<ops.size)&&dstsOk n (ops.toList.take k)&&
 (List.range ops.size).all (fun i=>match ops[i]? with|some o=>o.after.all (fun e=> !Region.binds .any e||decide (e.on<i))|none=>false)&&
 (List.range ops.size).all (fun t=>decide (t<k)||(List.range k).all (fun i=>waitsB1 .any ops t i))&&
 (List.range k).all (fun i=>(List.range k).all fun j=>match ops[i]?,ops[j]? with
   |some oi,some oj=>(match oj.dst with|some d=> !(oi.looksAt ops).contains d||(decide (j<i)&&waitsB1 .any ops i j)|none=>false)
   |_,_=>false)&&
 Region.seqB .any ops (ops.size-k) k (Array.replicate k true++Array.replicate (ops.size-k) false)
structure Ml (P:Program) (ops:Array Oper) (k:Nat) (a0 af:Act) (W:World) (listed:Array Bool) (a:Act) (w:World):Prop where
 size:listed.size=ops.size
 closed: ∀j oj,ops[j]?=some oj->listed.getD j false=true-> ∀e∈oj.after,Region.binds .any e=true->listed.getD e.on false=true
 tail: ∀t,k<=t->t<ops.size->listed.getD t true=false
 ahd:Below W.heap.size W w
 defers:a.defers=a0.defers
 tsize:a.tmps.size=a0.tmps.size
 put: ∀j o t,j<k->ops[j]?=some o->o.dst=some t->listed.getD j false=true->ai a t=ai af t
 same: ∀t,(∀j o,j<k->ops[j]?=some o->listed.getD j false=true->o.dst≠some t)->ai a t=ai a0 t
section
variable {P:Program} {Q:Exit->Act->World->Prop} {W:World} {a0 af:Act} {l:List Oper} {k:Nat}
theorem iW (listed:Array Bool) (k:Nat) (h: ¬(∀i,i<k->listed.getD i false=true)): ∃i,i<k/\(∀j,j<i->listed.getD j false=true)/\listed.getD i false=false:=by
 cases k with
 |zero=>exact absurd (fun i hi=>absurd hi (Nat.not_lt_zero _)) h
 |succ k=>
  obtain⟨i,h1,h2,h3⟩:=AQ listed k (fun hk=>h (fun i hi=>hk i (by omega)));exact⟨i,by omega,h2,h3⟩
theorem dC {id:Nat} (k:Nat) (af:Act) (hm:P.follows .mixedOrders=true)
 (hB:headB l.toArray k a0.tmps.size=true)
 (sw: ∀V:World,Below W.heap.size W V->wpQuiet P l.toArray (fun w'=> ∃x:bN V,w'=x.w) (fun a'=>a'=af) (l.take k) a0)
 (AR: ∀(w':World),Below W.heap.size W w'->wpList P l.toArray Q (l.drop k) af w'):
 (Code.region id l.toArray true).wp P Q a0 W:=by
 unfold headB at hB;simp only[Bool.and_eq_true,decide_eq_true_eq,List.all_eq_true,List.mem_range,Bool.or_eq_true]at hB;obtain⟨⟨⟨⟨⟨⟨hsel,hks⟩,hdst⟩,hback⟩,htl⟩,wB⟩,hseq⟩:=hB;have hsz:l.toArray.size=l.length:=by simp
 have hkl:k<l.length:=by rw[<-hsz];exact hks
 have hdk:dstsOk a0.tmps.size (l.take k)=true:=hdst;have hall: ∀V:World,Below W.heap.size W V->lT P l.toArray (fun w'=> ∃x:bN V,w'=x.w) af (l.take k) a0:=fun V hV=>nT hdk (sw V hV)
 have hA0:=hall W (Below.refl _ _);have hget: ∀i,i<k->(l.take k)[i]?=l[i]?:=fun i hi=>by rw[List.getElem?_take];simp[hi]
 have AU: ∀t,(∀j o,j<k->l[j]?=some o->o.dst≠some t)->ai af t=ai a0 t:=fun t ht=>hA0.keep.2.2 t (fun o ho=>by
  obtain⟨j,hj⟩:=List.getElem?_of_mem ho;rw[List.getElem?_take]at hj
  split at hj
  ·exact ht j o (by assumption) hj
  ·cases hj)
 have nJ: ∀i o,l[i]?=some o-> ∀e∈o.after,Region.binds .any e=true->e.on<i:=by
  intro i o hi e he hb;have hil:i<l.length:=(List.getElem?_eq_some_iff.1 hi).1;have h1:=hback i (by rw[hsz];exact hil);have hi':l.toArray[i]?=some o:=by simpa using hi
  rw[hi']at h1;have h2:=Array.all_eq_true_iff_forall_mem.1 h1 e he;simpa [hb]using h2
 have pQ: ∀i o j oj d,i<k->l[i]?=some o->j<k->l[j]?=some oj->oj.dst=some d->d∈o.looksAt l.toArray->j<i/\waitsB1 .any l.toArray i j=true:=by
  intro i o j oj d hi ho hj hoj hd hmem;have h1:=wB i hi j (by omega);have ho':l.toArray[i]?=some o:=by simpa using ho
  have lU:l.toArray[j]?=some oj:=by simpa using hoj
  rw[ho',lU]at h1;simp only[hd]at h1;have hc:(o.looksAt l.toArray).contains d=true:=by simpa using hmem
  rw[hc]at h1;simpa using h1
 have dlt: ∀i o,i<k->l[i]?=some o-> ∃d,o.dst=some d/\d<a0.tmps.size:=fun i o hi ho=>nV _ _ i o hdk (by rw[hget i (by omega)];exact ho)
 have dne: ∀i j o oj t,i<k->j<k->l[i]?=some o->l[j]?=some oj->i≠j->oj.dst=some t->o.dst≠some t:=fun i j o oj t hi hj ho hoj hne hd=>nW _ _ j i oj o t hdk (by rw[hget j (by omega)];exact hoj) (by rw[hget i (by omega)];exact ho) (Ne.symm hne) hd
 have fin: ∀(listed:Array Bool) (a:Act) (w:World),Ml P l.toArray k a0 af W listed a w->(∀i,i<k->listed.getD i false=true)-> ∀fuel,unl listed=fuel->wpAny P .any l.toArray Q fuel listed a w:=by
  intro listed a w m hdone fuel hu;have hLH:listed=Array.replicate k true++Array.replicate (l.toArray.size-k) false:=by
   apply Array.ext
   ·simp[m.size];omega
   ·intro i h1 h2
    rcases Nat.lt_or_ge i k with h'|h
    rotate_left 1
    ·have:=m.tail i h (by rw[<-m.size];exact h1)
     rw[Array.getElem_append_right (by simp;omega)];simpa [h1]using this
    ·have:=hdone i h'
     rw[Array.getElem_append_left (by simp;omega)];simpa [h1]using this
  have hae:a=af:=by
   have hs0:=hA0.keep;refine qZ ?_ ?_ ?_
   ·rw[m.tsize,hs0.1]
   ·rw[m.defers,hs0.2.1]
   ·intro t
    by_cases hex: ∃j o,j<k/\l[j]?=some o/\o.dst=some t
    ·obtain⟨j,o,hj,ho,hd⟩:=hex
     exact m.put j o t hj (by simpa using ho) hd (hdone j hj)
    ·rw[m.same t (fun j o hj ho _ hd=>hex ⟨j,o,hj,by simpa using ho,hd⟩),AU t (fun j o hj ho hd=>hex ⟨j,o,hj,ho,hd⟩)]
  have hfu:fuel=(l.drop k).length:=by
   rw[<-hu,hLH,nU];simp
  rw[hfu,hae];refine wpAny_of_seq (l.drop k) k listed _ w (fun j=>by simp[List.getElem?_drop]) ?_ (AR w m.ahd);rw[hLH];have:(l.drop k).length=l.toArray.size-k:=by simp
  rw[this];exact hseq
 have main: ∀(fuel:Nat) (listed:Array Bool) (a:Act) (w:World),Ml P l.toArray k a0 af W listed a w->unl listed=fuel->wpAny P .any l.toArray Q fuel listed a w:=by
  intro fuel
  induction fuel with
  |zero=>
   intro listed a w m hu
   by_cases hdone: ∀i,i<k->listed.getD i false=true
   ·exact fin listed a w m hdone _ hu
   ·obtain⟨i,hi,_,hun⟩:=iW listed k hdone
    have:=jR (listed:=listed) (i:=i) (by rw[m.size];omega) (by rw[fJ (by rw[m.size];omega)];exact hun);omega
  |succ fuel ih=>
   intro listed a w m hu
   by_cases hdone: ∀i,i<k->listed.getD i false=true
   ·exact fin listed a w m hdone _ hu
   ·obtain⟨i0,hi0,hpre,sF⟩:=iW listed k hdone
    refine⟨fun h0=>?_,fun i hi=>?_⟩
    ·have hr:i0∈Region.ready .any l.toArray listed:=by
      rw[mem_ready];refine⟨by rw[fJ (by rw[m.size];omega)];exact sF,l[i0]'(by omega),by simp,fun e he hb=>hpre _ ?_⟩;exact nJ i0 _ (by simp) e he hb
     rw[h0]at hr
     cases hr
    ·have hi':=hi
     obtain⟨hun,o,ho,hw⟩:=mem_ready.1 hi;have hil:i<l.length:=by
      have:=(Array.getElem?_eq_some_iff.1 ho).1;simpa using this
     have hol:l[i]?=some o:=by simpa using ho
     have hun':unl (listed.setIfInBounds i true)=fuel:=by
      have:=jR (listed:=listed) (i:=i) (by rw[m.size];omega) hun;omega
     have hik:i<k:=by
      rcases Nat.lt_or_ge i k with h|h
      rotate_left 1
      ·have h1:=(htl i (by omega)).resolve_left (by omega) i0 (by omega)
       obtain⟨e,he,hb,heo⟩:=dV ho h1;have h2:=hw e he hb;rw[heo,sF]at h2
       cases h2
      ·exact h
     have hclosed: ∀j oj,l.toArray[j]?=some oj->(listed.setIfInBounds i true).getD j false=true-> ∀e∈oj.after,Region.binds .any e=true->(listed.setIfInBounds i true).getD e.on false=true:=by
      intro j oj hj hl e he hb
      by_cases hji:i=j
      ·subst hji
       rw[ho]at hj
       cases hj
       exact getD_set_true (hw e he hb)
      ·rw[getD_set_ne false hji]at hl
       exact getD_set_true (m.closed j oj hj hl e he hb)
     have o5: ∀t,k<=t->t<l.toArray.size->(listed.setIfInBounds i true).getD t true=false:=fun t ht ht'=>by rw[getD_set_ne true (by omega)];exact m.tail t ht ht'
     obtain⟨d,hod,AV⟩:=dlt i o hik hol;have jS: ∀t∈o.looksAt l.toArray,ai a t=ai (fI af ((l.take k).take i) a0) t:=by
      intro t ht;rw[jG _ _ _ (jc _ _ _ hdk)]
      by_cases hex: ∃j oj,j<k/\l[j]?=some oj/\oj.dst=some t
      ·obtain⟨j,oj,hj,hoj,hdt⟩:=hex
       obtain⟨hji,hwt⟩:=pQ i o j oj t hik hol hj hoj hdt ht;obtain⟨e,he,hb,heo⟩:=dV ho hwt;have hlj:=hw e he hb;rw[heo]at hlj;rw[m.put j oj t (by omega) (by simpa using hoj) hdt hlj,if_pos];rw[List.any_eq_true];refine⟨oj,?_,by simp[hdt]⟩;refine List.mem_of_getElem? (i:=j) ?_;rw[List.getElem?_take,List.getElem?_take];simp only[hji,show j<k by omega,if_true,hoj]
      ·rw[m.same t (fun j oj hj hoj _ hdt=>hex ⟨j,oj,by omega,by simpa using hoj,hdt⟩),if_neg]
       intro hany;rw[List.any_eq_true]at hany;obtain⟨oj,hmem,hdt⟩:=hany;obtain⟨j,hj⟩:=List.getElem?_of_mem (List.mem_of_mem_take hmem);rw[List.getElem?_take]at hj
       split at hj
       ·exact hex ⟨j,oj,by omega,hj,by simpa using hdt⟩
       ·cases hj
     have hy:=(hall w m.ahd).get (i:=i) (o:=o) (by rw[List.getElem?_take];simp[hik,hol]);have he:execOp a.eval o=execOp (fI af ((l.take k).take i) a0).eval o:=execOp_congr o (fun cs b=>Region.noSelect_spec hsel i o cs b ho) (fun x hx=>by
      cases x with
      |tmp t=>exact jS t (List.mem_append_left _ (List.mem_filterMap.2 ⟨.tmp t,by simpa using hx,rfl⟩))
      |_=>rfl)
     have hy':=hy.of_same he (gy jS);refine wpOp_of_qOp (C:=fun w'=> ∃x:bN w,w'=x.w) ⟨⟨w,Below.refl _ _⟩,rfl⟩ (fun a' w' hx ha=>?_) (hy'.qOp ho (K:=fun a'=>a'=a.put o.dst (leftBy af o)) rfl);obtain⟨x,rfl⟩:=hx;subst ha;refine ih _ _ _ ⟨by simp[m.size],hclosed,o5,m.ahd.trans (x.far.mono m.ahd.size),by rw[dH];exact m.defers,by rw[size_put];exact m.tsize,?_,?_⟩ hun'
     ·intro j oj t hj hoj hdt hl
      by_cases hji:i=j
      ·subst hji
       rw[ho]at hoj
       cases hoj
       have:leftBy af o=ai af t:=by simp[leftBy,hdt]
       rw[hdt,this];rw[hod]at hdt
       cases hdt
       exact aX _ (by rw[m.tsize];exact AV)
      ·rw[getD_set_ne false hji]at hl
       rw[aO _ (dne i j o oj t hik (by omega) hol (by simpa using hoj) hji hdt)];exact m.put j oj t hj hoj hdt hl
     ·intro t hno
      have h1:(listed.setIfInBounds i true).getD i false=true:=by
       have:i<listed.size:=by rw[m.size];omega
       simp[this]
      rw[aO _ (hno i o hik ho h1)];exact m.same t (fun j oj hj hoj hl=>hno j oj hj hoj (getD_set_true hl))
 refine wp_region_any hm (main _ _ a0 _ ?_ (by rw[rq]));refine⟨by simp,?_,?_,(Below.refl _ _).drew,rfl,rfl,?_,?_⟩
 ·intro j oj hj h
  rw[getD_replicate_false]at h
  cases h
 ·intro t _ ht
  have:(Array.replicate l.toArray.size false).getD t true=false:=by simp at ht;simp[ht]
  exact this
 ·intro j o t _ _ _ h
  rw[getD_replicate_false]at h
  cases h
 ·intro t _;rfl
end
inductive Role where
 |q
 |p
 |c (j d:Nat)
def Role.isP:Role->Bool
 |.p=>true
 |_=>false
def Role.eats:Role->Nat->Nat->Bool
 |.c j d,j',d'=>(j==j')&&(d==d')
 |_,_,_=>false
def fw (ops:Array Oper) (t:Nat) (S:List Bool):List Bool:=
 match ops[t]? with
 |some o=>o.after.toList.foldl (fun S e=>if Region.binds .any e=true then S.set e.on true else S) S
 |none=>S
def coverB (ops:Array Oper):Nat->List Bool->List Bool
 |0,S=>S
 |n+1,S=>coverB ops n (if S.getD n false=true then fw ops n S else S)
theorem uW {S:List Bool} {i j:Nat} (h:(S.set i true).getD j false=true):j=i∨S.getD j false=true:=by
 by_cases hij:j=i
 ·exact .inl hij
 ·right
  rwa [zg,List.getElem?_set_ne (fun e=>hij e.symm),<-zg]at h
theorem jT {listed:Array Bool} (l:List Edge) (S:List Bool) (he: ∀e∈l,Region.binds .any e=true->listed.getD e.on false=true) (hS: ∀i,S.getD i false=true->listed.getD i false=true) (i:Nat)
 (h:(l.foldl (fun S e=>if Region.binds .any e=true then S.set e.on true else S) S).getD i false=true):listed.getD i false=true:=by
 induction l generalizing S with
 |nil=>exact hS i h
 |cons e l ih=>
  rw[List.foldl_cons]at h;refine ih _ (fun e' he'=>he e' (by simp[he'])) (fun j hj=>?_) h
  split at hj
  ·rename_i hb
   rcases uW hj with rfl|h'
   ·exact he e (by simp) hb
   ·exact hS j h'
  ·exact hS j hj
theorem jw {ops:Array Oper} {listed:Array Bool} (hc: ∀j oj,ops[j]?=some oj->listed.getD j false=true-> ∀e∈oj.after,Region.binds .any e=true->listed.getD e.on false=true):
 ∀(n:Nat) (S:List Bool),(∀i,S.getD i false=true->listed.getD i false=true)-> ∀i,(coverB ops n S).getD i false=true->listed.getD i false=true
 |0,S,hS,i,h=>hS i h
 |n+1,S,hS,i,h=>by
  unfold coverB at h;refine jw hc n _ (fun j hj=>?_) i h
  split at hj
  ·rename_i hn
   unfold fw at hj
   split at hj
   ·rename_i o ho
    exact jT _ S (fun e he hb=>hc n o ho (hS n hn) e (by simpa using he) hb) hS j hj
   ·exact hS j hj
  ·exact hS j hj
theorem jU (ops:Array Oper) (t:Nat) (S:List Bool):(fw ops t S).length=S.length:=by
 unfold fw
 split
 ·rename_i o _
  generalize o.after.toList=l
  induction l generalizing S with
  |nil=>rfl
  |cons e l ih=>
   rw[List.foldl_cons,ih]
   split
   ·simp
   ·rfl
 ·rfl
theorem jy {ops:Array Oper}: ∀(n:Nat) (S:List Bool),(coverB ops n S).length=S.length
 |0,S=>rfl
 |n+1,S=>by
  unfold coverB;rw[jy n]
  split
  ·exact jU ops n S
  ·rfl
def Ih (ops:Array Oper) (k n:Nat):Bool:=
 Region.noSelect ops&&decide (k<=ops.size)&&dstsOk n (ops.toList.take k)&&
 (List.range ops.size).all (fun i=>match ops[i]? with|some o=>o.after.all (fun e=> !Region.binds .any e||decide (e.on<i))|none=>false)&&
 (List.range ops.size).all (fun t=>decide (t<k)||((coverB ops ops.size (fw ops t (List.replicate ops.size false))).take k).all (fun b=>b))&&
 (List.range k).all (fun i=>(List.range k).all fun j=>match ops[i]?,ops[j]? with
   |some oi,some oj=>(match oj.dst with|some d=> !(oi.looksAt ops).contains d||(decide (j<i)&&waitsB1 .any ops i j)|none=>false)
   |_,_=>false)&&
 Region.seqB .any ops (ops.size-k) k (Array.replicate k true++Array.replicate (ops.size-k) false)
def privB (ops:Array Oper) (k n:Nat) (rs:List Role):Bool:=
 Ih ops k n&&decide (rs.length=k)&&
 (List.range k).all (fun i=>(List.range k).all fun j=>match ops[i]?,ops[j]?,rs[i]?,rs[j]? with
   |some oi,some oj,some ri,some rj=> !rj.isP||(match oj.dst with|some d=> !(oi.looksAt ops).contains d||ri.eats j d|none=>false)
   |_,_,_,_=>false)&&
 (List.range k).all (fun i=>match ops[i]?,rs[i]? with
   |some oi,some (.c j d)=>decide (j<k)&&(match ops[j]?,rs[j]? with|some oj,some rj=>rj.isP&&(oj.dst==some d)|_,_=>false)&&(oi.looksAt ops).contains d
   |_,_=>true)
def wC (a:Act):Option Tmp->Value
 |some t=>ai a t
 |none=>undef
section
variable {P:Program} {ops:Array Oper} {af:Act} {cont:Nat->Obj×(Nat->Value)} {V:World}
def AX (P:Program) (ops:Array Oper) (af:Act) (cont:Nat->Obj×(Nat->Value)) (V:World) (i:Nat) (r:Role) (o:Oper) (a:Act):Prop:=
 match r with
 |.q=>YieldsIn P ops (fun w'=> ∃x:bN V,w'=x.w) o (leftBy af o) a
 |.p=>Region.wanted o (yielded ops a.tmps)=true/\ ∀w:World,(execOp a.eval o).run P w=.ok (.value ((cont i).2 w.heap.size)) (w.alloc (cont i).1)
 |.c j d=> ∀(V':World) (g:Nat),Below V.heap.size V V'->V'.heap[g]?=some (cont j).1->YieldsIn P ops (fun w'=> ∃x:bN V',w'=x.w) o (leftBy af o) (a.put (some d) ((cont j).2 g))
def eT (P:Program) (ops:Array Oper) (af:Act) (cont:Nat->Obj×(Nat->Value)) (V:World):Nat->List Role->List Oper->Act->Prop
 |_,[],[],a=>a=af
 |i,r::rs,o::l,a=>AX P ops af cont V i r o a/\eT P ops af cont V (i+1) rs l (a.put o.dst (leftBy af o))
 |_,_,_,_=>False
def wpP (P:Program) (ops:Array Oper) (af:Act) (cont:Nat->Obj×(Nat->Value)) (V:World):Nat->List Role->List Oper->Act->Prop
 |_,[],[],a=>a=af
 |i,.q::rs,o::l,a=>wpQuiet P ops (fun w'=> ∃x:bN V,w'=x.w) (fun a'=>wpP P ops af cont V (i+1) rs l a') [o] a
 |i,.p::rs,o::l,a=>Region.wanted o (yielded ops a.tmps)=true/\(∀w:World,(execOp a.eval o).run P w=.ok (.value ((cont i).2 w.heap.size)) (w.alloc (cont i).1))/\wpP P ops af cont V (i+1) rs l (a.put o.dst undef)
 |i,.c j d::rs,o::l,a=> ∃u,(∀(V':World) (g:Nat),Below V.heap.size V V'->V'.heap[g]?=some (cont j).1->wpQuiet P ops (fun w'=> ∃x:bN V',w'=x.w) (fun a'=>wC a' o.dst=u) [o] (a.put (some d) ((cont j).2 g)))/\wpP P ops af cont V (i+1) rs l (a.put o.dst u)
 |_,_,_,_=>False
theorem iI {i:Nat} {a:Act} (h:a=af):wpP P ops af cont V i [] [] a:=h
theorem iD {i:Nat} {rs:List Role} {o:Oper} {l:List Oper} {a:Act} (h:wpQuiet P ops (fun w'=> ∃x:bN V,w'=x.w) (fun a'=>wpP P ops af cont V (i+1) rs l a') [o] a):wpP P ops af cont V i (.q::rs) (o::l) a:=h
theorem jr {i:Nat} {rs:List Role} {o:Oper} {l:List Oper} {a:Act} (hg:Region.wanted o (yielded ops a.tmps)=true) (h: ∀w:World,(execOp a.eval o).run P w=.ok (.value ((cont i).2 w.heap.size)) (w.alloc (cont i).1)) (k:wpP P ops af cont V (i+1) rs l (a.put o.dst undef)):wpP P ops af cont V i (.p::rs) (o::l) a:=⟨hg,h,k⟩
theorem nE {i j d:Nat} {rs:List Role} {o:Oper} {l:List Oper} {a:Act} (u:Value) (h: ∀(V':World) (g:Nat),Below V.heap.size V V'->V'.heap[g]?=some (cont j).1->wpQuiet P ops (fun w'=> ∃x:bN V',w'=x.w) (fun a'=>wC a' o.dst=u) [o] (a.put (some d) ((cont j).2 g))) (k:wpP P ops af cont V (i+1) rs l (a.put o.dst u)):wpP P ops af cont V i (.c j d::rs) (o::l) a:=⟨u,h,k⟩
theorem eT.keep: ∀{i:Nat} {rs:List Role} {l:List Oper} {a:Act},eT P ops af cont V i rs l a->af.tmps.size=a.tmps.size/\af.defers=a.defers/\(∀t,(∀o∈l,o.dst≠some t)->ai af t=ai a t)
 |_,[],[],a,h=>by
  have:a=af:=h;subst this;exact⟨rfl,rfl,fun _ _=>rfl⟩
 |_,[],_::_,_,h=>h.elim
 |_,_::_,[],_,h=>h.elim
 |i,r::rs,o::l,a,h=>by
  obtain⟨h1,h2,h3⟩:=eT.keep h.2;refine⟨by rw[h1,size_put],by rw[h2,dH],fun t ht=>?_⟩;rw[h3 t (fun o' ho'=>ht o' (by simp[ho'])),aO _ (ht o (by simp))]
theorem gY {C:World->Prop} {Q:Act->Prop} {o:Oper} {a:Act} (h:wpQuiet P ops C Q [o] a): ∃v,YieldsIn P ops C o v a/\Q (a.put o.dst v):=by
 unfold wpQuiet at h
 split at h
 ·rename_i hw
  obtain⟨v,h1,h2⟩:=h;exact⟨v,.inl ⟨hw,h1⟩,h2⟩
 ·rename_i hw
  exact⟨undef,.inr ⟨by simpa using hw,rfl⟩,h⟩
theorem mQ: ∀{i:Nat} {rs:List Role} {l:List Oper} {a:Act},dstsOk a.tmps.size l=true->wpP P ops af cont V i rs l a->eT P ops af cont V i rs l a
 |_,[],[],a,_,h=>h
 |_,[],_::_,_,_,h=>h.elim
 |_,.q::_,[],_,_,h=>h.elim
 |_,.p::_,[],_,_,h=>h.elim
 |_,.c _ _::_,[],_,_,h=>h.elim
 |i,r::rs,o::l,a,hd,h=>by
  have hd':=hd;simp only[dstsOk,Bool.and_eq_true]at hd';obtain⟨hd1,hd2⟩:=hd'
  split at hd1
  rotate_left 1
  ·cases hd1
  ·rename_i d hod
   simp only[Bool.and_eq_true,decide_eq_true_eq,List.all_eq_true]at hd1;have key: ∀v:Value,wpP P ops af cont V (i+1) rs l (a.put o.dst v)->eT P ops af cont V (i+1) rs l (a.put o.dst v)/\leftBy af o=v:=by
    intro v hr;have hA:=mQ (i:=i+1) (rs:=rs) (l:=l) (a:=a.put o.dst v) (by rw[size_put];exact hd2) hr;refine⟨hA,?_⟩;unfold leftBy;rw[hod];have:=hA.keep.2.2 d (fun o' ho'=>by simpa using hd1.2 o' ho');simp only[this,hod];exact aX v hd1.1
   cases r with
   |q=>
    obtain⟨v,hy,hr⟩:=gY (show wpQuiet P ops _ _ [o] a from h);obtain⟨hA,he⟩:=key v hr;exact⟨show YieldsIn P ops _ o (leftBy af o) a by rw[he];exact hy,by rw[he];exact hA⟩
   |p=>
    obtain⟨hg,hrun,hr⟩:=(show _/\_/\_ from h);obtain⟨hA,he⟩:=key undef hr;exact⟨⟨hg,hrun⟩,by rw[he];exact hA⟩
   |c j dd=>
    obtain⟨u,hu,hr⟩:=(show∃u,_/\_ from h);obtain⟨hA,he⟩:=key u hr;refine⟨fun V' g hb hg=>?_,by rw[he];exact hA⟩;obtain⟨v,hy,hv⟩:=gY (hu V' g hb hg);have:v=u:=by
     rw[<-hv,hod];exact(aX v (by rw[size_put];exact hd1.1)).symm
    rw[he,<-this];exact hy
theorem eT.get: ∀{b:Nat} {rs:List Role} {l:List Oper} {a:Act} {i:Nat} {o:Oper} {r:Role},eT P ops af cont V b rs l a->l[i]?=some o->rs[i]?=some r->AX P ops af cont V (b+i) r o (fI af (l.take i) a)
 |_,[],[],_,_,_,_,_,hi,_=>by simp at hi
 |_,[],_::_,_,_,_,_,h,_,_=>h.elim
 |_,_::_,[],_,_,_,_,h,_,_=>h.elim
 |b,r::rs,o::l,a,0,o',r',h,hi,hr=>by
  have e1:o=o':=by simpa using hi
  have e2:r=r':=by simpa using hr
  subst e1;subst e2;exact h.1
 |b,r::rs,o::l,a,i+1,o',r',h,hi,hr=>by
  have:=eT.get (i:=i) h.2 (by simpa using hi) (by simpa using hr);rw[show b+(i+1)=b+1+i from by omega];simpa [fI]using this
def fillP (cont:Nat->Obj×(Nat->Value)) (gs:Nat->Nat):Nat->List Role->List Oper->Act->Act
 |i,.p::rs,o::l,a=>fillP cont gs (i+1) rs l (a.put o.dst ((cont i).2 (gs i)))
 |i,.q::rs,_::l,a=>fillP cont gs (i+1) rs l a
 |i,.c _ _::rs,_::l,a=>fillP cont gs (i+1) rs l a
 |_,[],_,a=>a
 |_,_,[],a=>a
theorem fe (gs:Nat->Nat): ∀(rs:List Role) (b:Nat) (l:List Oper) (a:Act),(fillP cont gs b rs l a).tmps.size=a.tmps.size/\(fillP cont gs b rs l a).defers=a.defers
 |[],_,_,_=>by unfold fillP;exact⟨rfl,rfl⟩
 |.p::rs,b,[],a=>by unfold fillP;exact⟨rfl,rfl⟩
 |.q::rs,b,[],a=>by unfold fillP;exact⟨rfl,rfl⟩
 |.c _ _::rs,b,[],a=>by unfold fillP;exact⟨rfl,rfl⟩
 |.q::rs,b,o::l,a=>by unfold fillP;exact fe gs rs (b+1) l a
 |.c _ _::rs,b,o::l,a=>by unfold fillP;exact fe gs rs (b+1) l a
 |.p::rs,b,o::l,a=>by
  unfold fillP;obtain⟨h1,h2⟩:=fe gs rs (b+1) l (a.put o.dst ((cont b).2 (gs b)));exact⟨by rw[h1,size_put],by rw[h2,dH]⟩
theorem fB (gs:Nat->Nat): ∀(rs:List Role) (b:Nat) (l:List Oper) (a:Act) (t:Tmp),(∀(i:Nat) (o:Oper),l[i]?=some o->rs[i]?=some Role.p->o.dst≠some t)->ai (fillP cont gs b rs l a) t=ai a t
 |[],_,_,_,_,_=>by unfold fillP;rfl
 |.p::rs,b,[],a,_,_=>by unfold fillP;rfl
 |.q::rs,b,[],a,_,_=>by unfold fillP;rfl
 |.c _ _::rs,b,[],a,_,_=>by unfold fillP;rfl
 |.q::rs,b,o::l,a,t,h=>by
  unfold fillP;exact fB gs rs (b+1) l a t (fun i o ho hr=>h (i+1) o (by simpa using ho) (by simpa using hr))
 |.c _ _::rs,b,o::l,a,t,h=>by
  unfold fillP;exact fB gs rs (b+1) l a t (fun i o ho hr=>h (i+1) o (by simpa using ho) (by simpa using hr))
 |.p::rs,b,o::l,a,t,h=>by
  unfold fillP;rw[fB gs rs (b+1) l _ t (fun i o ho hr=>h (i+1) o (by simpa using ho) (by simpa using hr))];exact aO _ (h 0 o (by simp) (by simp))
theorem nX (gs:Nat->Nat): ∀(rs:List Role) (b:Nat) (l:List Oper) (a:Act) (n i:Nat) (o:Oper) (t:Tmp),dstsOk n l=true->n=a.tmps.size->l[i]?=some o->rs[i]?=some Role.p->o.dst=some t->ai (fillP cont gs b rs l a) t=(cont (b+i)).2 (gs (b+i))
 |[],_,_,_,_,_,_,_,_,_,_,hr,_=>by simp at hr
 |_::rs,b,[],a,_,_,_,_,_,_,ho,_,_=>by simp at ho
 |.q::rs,b,o::l,a,n,0,o',t,hd,hn,ho,hr,ht=>by simp at hr
 |.c _ _::rs,b,o::l,a,n,0,o',t,hd,hn,ho,hr,ht=>by simp at hr
 |.p::rs,b,o::l,a,n,0,o',t,hd,hn,ho,hr,ht=>by
  have e:o=o':=by simpa using ho
  subst e;unfold fillP;simp only[dstsOk,Bool.and_eq_true]at hd;have h1:=hd.1;rw[ht]at h1;simp only[Bool.and_eq_true,decide_eq_true_eq,List.all_eq_true]at h1;rw[fB gs rs (b+1) l _ t (fun i o' ho' _=>by simpa using h1.2 o' (List.mem_of_getElem? ho')),ht];exact aX _ (by rw[<-hn];exact h1.1)
 |r::rs,b,o::l,a,n,i+1,o',t,hd,hn,ho,hr,ht=>by
  simp only[dstsOk,Bool.and_eq_true]at hd;have key: ∀a':Act,a'.tmps.size=n->ai (fillP cont gs (b+1) rs l a') t=(cont (b+(i+1))).2 (gs (b+(i+1))):=by
   intro a' ha';have:=nX gs rs (b+1) l a' n i o' t hd.2 ha'.symm (by simpa using ho) (by simpa using hr) ht;rw[this,show b+1+i=b+(i+1)from by omega]
  cases r<;>unfold fillP
  ·exact key _ hn.symm
  ·exact key _ (by rw[size_put];exact hn.symm)
  ·exact key _ hn.symm
end
structure Qk (P:Program) (ops:Array Oper) (k:Nat) (rs:List Role) (cont:Nat->Obj×(Nat->Value)) (a0 af:Act) (W:World) (gs:Nat->Nat) (listed:Array Bool) (a:Act) (w:World):Prop where
 size:listed.size=ops.size
 closed: ∀j oj,ops[j]?=some oj->listed.getD j false=true-> ∀e∈oj.after,Region.binds .any e=true->listed.getD e.on false=true
 tail: ∀t,k<=t->t<ops.size->listed.getD t true=false
 ahd:Below W.heap.size W w
 defers:a.defers=a0.defers
 tsize:a.tmps.size=a0.tmps.size
 put: ∀j o t,j<k->ops[j]?=some o->o.dst=some t->listed.getD j false=true->rs[j]?≠some Role.p->ai a t=ai af t
 same: ∀t,(∀j o,j<k->ops[j]?=some o->listed.getD j false=true->o.dst≠some t)->ai a t=ai a0 t
 spec: ∀j o t,j<k->ops[j]?=some o->o.dst=some t->listed.getD j false=true->rs[j]?=some Role.p->ai a t=(cont j).2 (gs j)/\W.heap.size<=gs j/\w.heap[gs j]?=some (cont j).1
 apart: ∀j j',j<k->j'<k->j≠j'->listed.getD j false=true->listed.getD j' false=true->rs[j]?=some Role.p->rs[j']?=some Role.p->gs j≠gs j'
section
variable {P:Program} {Q:Exit->Act->World->Prop} {W:World} {a0 af:Act} {l:List Oper} {k:Nat} {rs:List Role} {cont:Nat->Obj×(Nat->Value)}
theorem bQ {id:Nat} (k:Nat) (rs:List Role) (cont:Nat->Obj×(Nat->Value)) (af:Act) (hm:P.follows .mixedOrders=true)
 (hB:privB l.toArray k a0.tmps.size rs=true)
 (sw: ∀V:World,Below W.heap.size W V->wpP P l.toArray af cont V 0 rs (l.take k) a0)
 (AR: ∀(gs:Nat->Nat) (w':World),Below W.heap.size W w'->(∀j:Nat,rs[j]?=some Role.p->W.heap.size<=gs j/\w'.heap[gs j]?=some (cont j).1)->(∀j j':Nat,rs[j]?=some Role.p->rs[j']?=some Role.p->j≠j'->gs j≠gs j')->wpList P l.toArray Q (l.drop k) (fillP cont gs 0 rs (l.take k) af) w'):
 (Code.region id l.toArray true).wp P Q a0 W:=by
 unfold privB at hB;simp only[Bool.and_eq_true,decide_eq_true_eq]at hB;obtain⟨⟨⟨hB,hrl⟩,hpc⟩,hcc⟩:=hB;unfold Ih at hB;simp only[Bool.and_eq_true,decide_eq_true_eq,List.all_eq_true,List.mem_range,Bool.or_eq_true]at hB hpc hcc;obtain⟨⟨⟨⟨⟨⟨hsel,hks⟩,hdst⟩,hback⟩,htl⟩,wB⟩,hseq⟩:=hB;have hsz:l.toArray.size=l.length:=by simp
 have hkl:k<=l.length:=by rw[<-hsz];exact hks
 have hdk:dstsOk a0.tmps.size (l.take k)=true:=hdst;have hall: ∀V:World,Below W.heap.size W V->eT P l.toArray af cont V 0 rs (l.take k) a0:=fun V hV=>mQ hdk (sw V hV)
 have hA0:=hall W (Below.refl _ _);have hget: ∀i,i<k->(l.take k)[i]?=l[i]?:=fun i hi=>by rw[List.getElem?_take];simp[hi]
 have Pw: ∀i,i<k-> ∃r,rs[i]?=some r:=fun i hi=>⟨rs[i]'(by omega),by simp[hrl,hi]⟩
 have AU: ∀t,(∀j o,j<k->l[j]?=some o->o.dst≠some t)->ai af t=ai a0 t:=fun t ht=>hA0.keep.2.2 t (fun o ho=>by
  obtain⟨j,hj⟩:=List.getElem?_of_mem ho;rw[List.getElem?_take]at hj
  split at hj
  ·exact ht j o (by assumption) hj
  ·cases hj)
 have nJ: ∀i o,l[i]?=some o-> ∀e∈o.after,Region.binds .any e=true->e.on<i:=by
  intro i o hi e he hb;have hil:i<l.length:=(List.getElem?_eq_some_iff.1 hi).1;have h1:=hback i (by rw[hsz];exact hil);have hi':l.toArray[i]?=some o:=by simpa using hi
  rw[hi']at h1;have h2:=Array.all_eq_true_iff_forall_mem.1 h1 e he;simpa [hb]using h2
 have pQ: ∀i o j oj d,i<k->l[i]?=some o->j<k->l[j]?=some oj->oj.dst=some d->d∈o.looksAt l.toArray->j<i/\waitsB1 .any l.toArray i j=true:=by
  intro i o j oj d hi ho hj hoj hd hmem;have h1:=wB i hi j (by omega);have ho':l.toArray[i]?=some o:=by simpa using ho
  have lU:l.toArray[j]?=some oj:=by simpa using hoj
  rw[ho',lU]at h1;simp only[hd]at h1;have hc:(o.looksAt l.toArray).contains d=true:=by simpa using hmem
  rw[hc]at h1;simpa using h1
 have Ql: ∀i o j oj d r,i<k->l[i]?=some o->j<k->l[j]?=some oj->oj.dst=some d->d∈o.looksAt l.toArray->rs[j]?=some Role.p->rs[i]?=some r->r.eats j d=true:=by
  intro i o j oj d r hi ho hj hoj hd hmem hrj hri;have h1:=hpc i hi j hj;have ho':l.toArray[i]?=some o:=by simpa using ho
  have lU:l.toArray[j]?=some oj:=by simpa using hoj
  rw[ho',lU,hri,hrj]at h1;simp only[hd]at h1;have hc:(o.looksAt l.toArray).contains d=true:=by simpa using hmem
  rw[hc]at h1;simpa [Role.isP]using h1
 have Rx: ∀i o j d,i<k->l[i]?=some o->rs[i]?=some (.c j d)->j<k/\rs[j]?=some Role.p/\(∃oj,l[j]?=some oj/\oj.dst=some d)/\d∈o.looksAt l.toArray:=by
  intro i o j d hi ho hri;have h1:=hcc i hi;have ho':l.toArray[i]?=some o:=by simpa using ho
  rw[ho',hri]at h1;simp only[Bool.and_eq_true,decide_eq_true_eq]at h1;obtain⟨⟨hjk,h2⟩,h3⟩:=h1;obtain⟨rj,hrj⟩:=Pw j hjk;have hoj:l[j]?=some (l[j]'(by omega)):=by simp
  have lU:l.toArray[j]?=some (l[j]'(by omega)):=by simp
  rw[lU,hrj]at h2;simp only[Bool.and_eq_true,beq_iff_eq]at h2;refine⟨hjk,?_,⟨_,hoj,h2.2⟩,by simpa using h3⟩
  cases rj with
  |p=>exact hrj
  |q=>cases h2.1
  |c _ _=>cases h2.1
 have dlt: ∀i o,i<k->l[i]?=some o-> ∃d,o.dst=some d/\d<a0.tmps.size:=fun i o hi ho=>nV _ _ i o hdk (by rw[hget i (by omega)];exact ho)
 have dne: ∀i j o oj t,i<k->j<k->l[i]?=some o->l[j]?=some oj->i≠j->oj.dst=some t->o.dst≠some t:=fun i j o oj t hi hj ho hoj hne hd=>nW _ _ j i oj o t hdk (by rw[hget j (by omega)];exact hoj) (by rw[hget i (by omega)];exact ho) (Ne.symm hne) hd
 have fin: ∀(gs:Nat->Nat) (listed:Array Bool) (a:Act) (w:World),Qk P l.toArray k rs cont a0 af W gs listed a w->(∀i,i<k->listed.getD i false=true)-> ∀fuel,unl listed=fuel->wpAny P .any l.toArray Q fuel listed a w:=by
  intro gs listed a w m hdone fuel hu;have hLH:listed=Array.replicate k true++Array.replicate (l.toArray.size-k) false:=by
   apply Array.ext
   ·simp[m.size];omega
   ·intro i h1 h2
    rcases Nat.lt_or_ge i k with h'|h
    rotate_left 1
    ·have:=m.tail i h (by rw[<-m.size];exact h1)
     rw[Array.getElem_append_right (by simp;omega)];simpa [h1]using this
    ·have:=hdone i h'
     rw[Array.getElem_append_left (by simp;omega)];simpa [h1]using this
  have hae:a=fillP cont gs 0 rs (l.take k) af:=by
   have hs0:=hA0.keep;have hf0:=fe (cont:=cont) gs rs 0 (l.take k) af;refine qZ ?_ ?_ ?_
   ·rw[m.tsize,hf0.1,hs0.1]
   ·rw[m.defers,hf0.2,hs0.2.1]
   ·intro t
    by_cases hex: ∃j o,j<k/\l[j]?=some o/\o.dst=some t
    ·obtain⟨j,o,hj,ho,hd⟩:=hex
     by_cases hp:rs[j]?=some Role.p
     ·rw[(m.spec j o t hj (by simpa using ho) hd (hdone j hj) hp).1]
      have:=nX (cont:=cont) gs rs 0 (l.take k) af a0.tmps.size j o t hdk hs0.1.symm (by rw[hget j hj];exact ho) hp hd;rw[this,Nat.zero_add]
     ·rw[m.put j o t hj (by simpa using ho) hd (hdone j hj) hp]
      rw[fB gs rs 0 (l.take k) af t (fun i o' ho' hr'=>?_)];have hik:i<k:=by
       have:=(List.getElem?_eq_some_iff.1 ho').1;simp at this;omega
      by_cases hij:i=j
      ·subst hij;exact absurd hr' hp
      ·exact dne i j o' o t hik hj (by rw[<-hget i hik];exact ho') ho hij hd
    ·rw[m.same t (fun j o hj ho _ hd=>hex ⟨j,o,hj,by simpa using ho,hd⟩)]
     rw[fB gs rs 0 (l.take k) af t (fun i o' ho' hr' hd=>hex ⟨i,o',by have:=(List.getElem?_eq_some_iff.1 ho').1;simp at this;omega,by rw[<-hget i (by have:=(List.getElem?_eq_some_iff.1 ho').1;simp at this;omega)];exact ho',hd⟩)];exact(AU t (fun j o hj ho hd=>hex ⟨j,o,hj,ho,hd⟩)).symm
  have hfu:fuel=(l.drop k).length:=by
   rw[<-hu,hLH,nU];simp
  rw[hfu,hae];have hpk: ∀j,rs[j]?=some Role.p->j<k:=fun j hj=>by
   have:=(List.getElem?_eq_some_iff.1 hj).1;omega
  refine wpAny_of_seq (l.drop k) k listed _ w (fun j=>by simp[List.getElem?_drop]) ?_ (AR gs w m.ahd (fun j hj=>?_) (fun j j' hj hj' hne=>m.apart j j' (hpk j hj) (hpk j' hj') hne (hdone j (hpk j hj)) (hdone j' (hpk j' hj')) hj hj'))
  ·rw[hLH]
   have:(l.drop k).length=l.toArray.size-k:=by simp
   rw[this];exact hseq
  ·have hjk:=hpk j hj
   have hoj:l[j]?=some (l[j]'(by omega)):=by simp
   obtain⟨d,hd,_⟩:=dlt j _ hjk hoj;exact(m.spec j _ d hjk (by simp) hd (hdone j hjk) hj).2
 have main: ∀(fuel:Nat) (gs:Nat->Nat) (listed:Array Bool) (a:Act) (w:World),Qk P l.toArray k rs cont a0 af W gs listed a w->unl listed=fuel->wpAny P .any l.toArray Q fuel listed a w:=by
  intro fuel
  induction fuel with
  |zero=>
   intro gs listed a w m hu
   by_cases hdone: ∀i,i<k->listed.getD i false=true
   ·exact fin gs listed a w m hdone _ hu
   ·obtain⟨i,hi,_,hun⟩:=iW listed k hdone
    have:=jR (listed:=listed) (i:=i) (by rw[m.size];omega) (by rw[fJ (by rw[m.size];omega)];exact hun);omega
  |succ fuel ih=>
   intro gs listed a w m hu
   by_cases hdone: ∀i,i<k->listed.getD i false=true
   ·exact fin gs listed a w m hdone _ hu
   ·obtain⟨i0,hi0,hpre,sF⟩:=iW listed k hdone
    refine⟨fun h0=>?_,fun i hi=>?_⟩
    ·have hr:i0∈Region.ready .any l.toArray listed:=by
      rw[mem_ready];refine⟨by rw[fJ (by rw[m.size];omega)];exact sF,l[i0]'(by omega),by simp,fun e he hb=>hpre _ ?_⟩;exact nJ i0 _ (by simp) e he hb
     rw[h0]at hr
     cases hr
    ·have hi':=hi
     obtain⟨hun,o,ho,hw⟩:=mem_ready.1 hi;have hil:i<l.length:=by
      have:=(Array.getElem?_eq_some_iff.1 ho).1;simpa using this
     have hol:l[i]?=some o:=by simpa using ho
     have hun':unl (listed.setIfInBounds i true)=fuel:=by
      have:=jR (listed:=listed) (i:=i) (by rw[m.size];omega) hun;omega
     have hik:i<k:=by
      rcases Nat.lt_or_ge i k with h|h
      rotate_left 1
      ·have h1:=(htl i (by omega)).resolve_left (by omega)
       have h2:(coverB l.toArray l.toArray.size (fw l.toArray i (List.replicate l.toArray.size false))).getD i0 false=true:=by
        have hlen:=jy (ops:=l.toArray) l.toArray.size (fw l.toArray i (List.replicate l.toArray.size false));rw[jU,List.length_replicate]at hlen;have hm:(coverB l.toArray l.toArray.size (fw l.toArray i (List.replicate l.toArray.size false)))[i0]'(by rw[hlen,hsz];omega)∈(coverB l.toArray l.toArray.size (fw l.toArray i (List.replicate l.toArray.size false))).take k:=
         List.mem_take_iff_getElem.2 ⟨i0,by rw[hlen,hsz];omega,rfl⟩
        have:=h1 _ hm;rw[zg,List.getElem?_eq_getElem (by rw[hlen,hsz];omega)];exact this
       have h3:=jw (ops:=l.toArray) m.closed l.toArray.size _ (fun j hj=>?_) i0 h2
       ·rw[sF]at h3
        cases h3
       ·unfold fw at hj
        rw[ho]at hj;refine jT _ _ (fun e he hb=>hw e (by simpa using he) hb) (fun q hq=>?_) j hj;rw[zg,List.getElem?_replicate]at hq
        split at hq<;>cases hq
      ·exact h
     have hclosed: ∀j oj,l.toArray[j]?=some oj->(listed.setIfInBounds i true).getD j false=true-> ∀e∈oj.after,Region.binds .any e=true->(listed.setIfInBounds i true).getD e.on false=true:=by
      intro j oj hj hl e he hb
      by_cases hji:i=j
      ·subst hji
       rw[ho]at hj
       cases hj
       exact getD_set_true (hw e he hb)
      ·rw[getD_set_ne false hji]at hl
       exact getD_set_true (m.closed j oj hj hl e he hb)
     have o5: ∀t,k<=t->t<l.toArray.size->(listed.setIfInBounds i true).getD t true=false:=fun t ht ht'=>by rw[getD_set_ne true (by omega)];exact m.tail t ht ht'
     obtain⟨d,hod,AV⟩:=dlt i o hik hol;obtain⟨r,hri⟩:=Pw i hik;have hset:(listed.setIfInBounds i true).getD i false=true:=by
      have:i<listed.size:=by rw[m.size];omega
      simp[this]
     have XP:listed.getD i false=false:=by rw[<-fJ (by rw[m.size];omega)];exact hun
     have jS: ∀t∈o.looksAt l.toArray,(∀j oj,j<k->l[j]?=some oj->oj.dst=some t->rs[j]?=some Role.p->False)->ai a t=ai (fI af ((l.take k).take i) a0) t:=by
      intro t ht hnp;rw[jG _ _ _ (jc _ _ _ hdk)]
      by_cases hex: ∃j oj,j<k/\l[j]?=some oj/\oj.dst=some t
      ·obtain⟨j,oj,hj,hoj,hdt⟩:=hex
       obtain⟨hji,hwt⟩:=pQ i o j oj t hik hol hj hoj hdt ht;obtain⟨e,he,hb,heo⟩:=dV ho hwt;have hlj:=hw e he hb;rw[heo]at hlj;rw[m.put j oj t (by omega) (by simpa using hoj) hdt hlj (fun h=>hnp j oj hj hoj hdt h),if_pos];rw[List.any_eq_true];refine⟨oj,?_,by simp[hdt]⟩;refine List.mem_of_getElem? (i:=j) ?_;rw[List.getElem?_take,List.getElem?_take];simp only[hji,show j<k by omega,if_true,hoj]
      ·rw[m.same t (fun j oj hj hoj _ hdt=>hex ⟨j,oj,by omega,by simpa using hoj,hdt⟩),if_neg]
       intro hany;rw[List.any_eq_true]at hany;obtain⟨oj,hmem,hdt⟩:=hany;obtain⟨j,hj⟩:=List.getElem?_of_mem (List.mem_of_mem_take hmem);rw[List.getElem?_take]at hj
       split at hj
       ·exact hex ⟨j,oj,by omega,hj,by simpa using hdt⟩
       ·cases hj
     have hstep:=(hall w m.ahd).get (i:=i) (o:=o) (r:=r) (by rw[hget i hik];exact hol) hri;rw[Nat.zero_add]at hstep;have after:rs[i]?≠some Role.p-> ∀x:bN w,wpAny P .any l.toArray Q fuel (listed.setIfInBounds i true) (a.put o.dst (leftBy af o)) x.w:=by
      intro hnp x;refine ih gs _ _ _ ⟨by simp[m.size],hclosed,o5,m.ahd.trans (x.far.mono m.ahd.size),by rw[dH];exact m.defers,by rw[size_put];exact m.tsize,?_,?_,?_,?_⟩ hun'
      ·intro j oj t hj hoj hdt hl hrj
       by_cases hji:i=j
       ·subst hji
        rw[ho]at hoj
        cases hoj
        have:leftBy af o=ai af t:=by simp[leftBy,hdt]
        rw[hdt,this];rw[hod]at hdt
        cases hdt
        exact aX _ (by rw[m.tsize];exact AV)
       ·rw[getD_set_ne false hji]at hl
        rw[aO _ (dne i j o oj t hik hj hol (by simpa using hoj) hji hdt)];exact m.put j oj t hj hoj hdt hl hrj
      ·intro t hno
       rw[aO _ (hno i o hik ho hset)];exact m.same t (fun j oj hj hoj hl=>hno j oj hj hoj (getD_set_true hl))
      ·intro j oj t hj hoj hdt hl hrj
       have hji:i≠j:=fun e=>hnp (by rw[e];exact hrj)
       rw[getD_set_ne false hji]at hl;obtain⟨h1,h2,h3⟩:=m.spec j oj t hj hoj hdt hl hrj;refine⟨by rw[aO _ (dne i j o oj t hik hj hol (by simpa using hoj) hji hdt)];exact h1,h2,?_⟩;rw[x.far.block _ (Array.getElem?_eq_some_iff.1 h3).1];exact h3
      ·intro j j' hj hj' hne hl hl' hrj CG
       have hji:i≠j:=fun e=>hnp (by rw[e];exact hrj)
       have Ii:i≠j':=fun e=>hnp (by rw[e];exact CG)
       rw[getD_set_ne false hji]at hl;rw[getD_set_ne false Ii]at hl';exact m.apart j j' hj hj' hne hl hl' hrj CG
     have exec: ∀b:Act,(∀t∈o.looksAt l.toArray,ai a t=ai b t)->execOp a.eval o=execOp b.eval o:=fun b hb=>execOp_congr o (fun cs b=>Region.noSelect_spec hsel i o cs b ho) (fun x hx=>by
      cases x with
      |tmp t=>exact hb t (List.mem_append_left _ (List.mem_filterMap.2 ⟨.tmp t,by simpa using hx,rfl⟩))
      |_=>rfl)
     cases r with
     |q=>
      have hl: ∀t∈o.looksAt l.toArray,ai a t=ai (fI af ((l.take k).take i) a0) t:=fun t ht=>jS t ht (fun j oj hj hoj hdt hrj=>by
       have:=Ql i o j oj t _ hik hol hj hoj hdt ht hrj hri
       cases this)
      have hy':=YieldsIn.of_same (show YieldsIn P l.toArray _ o (leftBy af o) _ from hstep) (exec _ hl) (gy hl);refine wpOp_of_qOp (C:=fun w'=> ∃x:bN w,w'=x.w) ⟨⟨w,Below.refl _ _⟩,rfl⟩ (fun a' w' hx ha=>?_) (hy'.qOp ho (K:=fun a'=>a'=a.put o.dst (leftBy af o)) rfl);obtain⟨x,rfl⟩:=hx;subst ha;exact after (by rw[hri];simp) x
     |c j dd=>
      obtain⟨hjk,hrj,⟨oj,hoj,hdj⟩,hmem⟩:=Rx i o j dd hik hol hri;obtain⟨hji,hwt⟩:=pQ i o j oj dd hik hol hjk hoj hdj hmem;obtain⟨e,he,hb,heo⟩:=dV ho hwt;have hlj:=hw e he hb;rw[heo]at hlj;obtain⟨s1,s2,s3⟩:=m.spec j oj dd hjk (by simpa using hoj) hdj hlj hrj;have hst:=(show∀(V':World) (g:Nat),_->_->YieldsIn P l.toArray _ o (leftBy af o) _ from hstep) w (gs j) (Below.refl _ _) s3;obtain⟨dj',Ry,Px⟩:=dlt j oj hjk hoj;have hdd:dj'=dd:=by rw[hdj]at Ry;exact(Option.some.inj Ry).symm
      rw[hdd]at Px;have hacc:(fI af ((l.take k).take i) a0).tmps.size=a0.tmps.size:=by
       have: ∀(l:List Oper) (a:Act),(fI af l a).tmps.size=a.tmps.size:=by
        intro l
        induction l with
        |nil=>intro a;rfl
        |cons o l ih=>intro a;show(fI af l (a.put o.dst (leftBy af o))).tmps.size=_;rw[ih,size_put]
       exact this _ _
      have hl: ∀t∈o.looksAt l.toArray,ai a t=ai ((fI af ((l.take k).take i) a0).put (some dd) ((cont j).2 (gs j))) t:=by
       intro t ht
       by_cases htd:t=dd
       ·subst htd
        rw[s1,aX _ (by rw[hacc];exact Px)]
       ·rw[aO _ (fun e=>htd (by cases e;rfl))]
        refine jS t ht (fun j' oj' hj' lU U7 CG=>?_);have:=Ql i o j' oj' t _ hik hol hj' lU U7 ht CG hri;simp only[Role.eats,Bool.and_eq_true,beq_iff_eq]at this;exact htd this.2.symm
      have hy':=YieldsIn.of_same hst (exec _ hl) (gy hl);refine wpOp_of_qOp (C:=fun w'=> ∃x:bN w,w'=x.w) ⟨⟨w,Below.refl _ _⟩,rfl⟩ (fun a' w' hx ha=>?_) (hy'.qOp ho (K:=fun a'=>a'=a.put o.dst (leftBy af o)) rfl);obtain⟨x,rfl⟩:=hx;subst ha;exact after (by rw[hri];simp) x
     |p=>
      obtain⟨hg,hrun⟩:=(show _/\_ from hstep);have hl: ∀t∈o.looksAt l.toArray,ai a t=ai (fI af ((l.take k).take i) a0) t:=fun t ht=>jS t ht (fun j oj hj hoj hdt hrj=>by
       have:=Ql i o j oj t _ hik hol hj hoj hdt ht hrj hri
       cases this)
      unfold wpOp;simp only[ho];rw[if_pos (by rw[gy hl];exact hg)];refine .inl ?_;unfold Oper.wp;rw[exec _ hl,hrun]
      show wpAny P .any l.toArray Q fuel (listed.setIfInBounds i true) (a.put o.dst ((cont i).2 w.heap.size)) (w.alloc (cont i).1)
      refine ih (fun j=>if j=i then w.heap.size else gs j) _ _ _ ⟨by simp[m.size],hclosed,o5,m.ahd.alloc m.ahd.size _,by rw[dH];exact m.defers,by rw[size_put];exact m.tsize,?_,?_,?_,?_⟩ hun'
      ·intro j oj t hj hoj hdt hlj hrj
       have hji:i≠j:=fun e=>hrj (by rw[<-e];exact hri)
       rw[getD_set_ne false hji]at hlj;rw[aO _ (dne i j o oj t hik hj hol (by simpa using hoj) hji hdt)];exact m.put j oj t hj hoj hdt hlj hrj
      ·intro t hno
       rw[aO _ (hno i o hik ho hset)];exact m.same t (fun j oj hj hoj hl=>hno j oj hj hoj (getD_set_true hl))
      ·intro j oj t hj hoj hdt hlj hrj
       by_cases hji:i=j
       ·subst hji
        rw[ho]at hoj
        cases hoj
        simp only[if_true];refine⟨?_,m.ahd.size,?_⟩
        ·rw[hdt]
         rw[hod]at hdt
         cases hdt
         exact aX _ (by rw[m.tsize];exact AV)
        ·show(w.heap.push _)[w.heap.size]?=_
         simp
       ·rw[getD_set_ne false hji]at hlj
        obtain⟨h1,h2,h3⟩:=m.spec j oj t hj hoj hdt hlj hrj;have hne: ¬j=i:=fun e=>hji e.symm
        simp only[if_neg hne];refine⟨by rw[aO _ (dne i j o oj t hik hj hol (by simpa using hoj) hji hdt)];exact h1,h2,?_⟩;rw[Below.heap_alloc _ _ _ (Array.getElem?_eq_some_iff.1 h3).1];exact h3
      ·have old: ∀j,j<k->i≠j->(listed.setIfInBounds i true).getD j false=true->rs[j]?=some Role.p->gs j<w.heap.size:=by
        intro j hj hji hlj hrj;rw[getD_set_ne false hji]at hlj;have hoj:l[j]?=some (l[j]'(by omega)):=by simp
        obtain⟨d',hd',_⟩:=dlt j _ hj hoj;exact(Array.getElem?_eq_some_iff.1 (m.spec j _ d' hj (by simp) hd' hlj hrj).2.2).1
       intro j j' hj hj' hne hlj Qm hrj CG
       by_cases hji:i=j
       ·subst hji
        have:=old j' hj' hne Qm CG;rw[if_pos rfl,if_neg (fun e=>hne e.symm)];omega
       ·by_cases Ii:i=j'
        ·subst Ii
         have:=old j hj hji hlj hrj;rw[if_neg hne,if_pos rfl];omega
        ·rw[if_neg (fun e=>hji e.symm),if_neg (fun e=>Ii e.symm)]
         rw[getD_set_ne false hji]at hlj;rw[getD_set_ne false Ii]at Qm;exact m.apart j j' hj hj' hne hlj Qm hrj CG
 refine wp_region_any hm (main _ (fun _=>0) _ a0 _ ?_ (by rw[rq]));refine⟨by simp,?_,?_,(Below.refl _ _).drew,rfl,rfl,?_,?_,?_,?_⟩
 ·intro j oj hj h
  rw[getD_replicate_false]at h
  cases h
 ·intro t _ ht
  have:(Array.replicate l.toArray.size false).getD t true=false:=by simp at ht;simp[ht]
  exact this
 ·intro j o t _ _ _ h
  rw[getD_replicate_false]at h
  cases h
 ·intro t _;rfl
 ·intro j o t _ _ _ h
  rw[getD_replicate_false]at h
  cases h
 ·intro j j' _ _ _ h
  rw[getD_replicate_false]at h
  cases h
end
section
variable {P:Program} {Q:Exit->Act->World->Prop} {W:World} {a0 af:Act} {l:List Oper} {k:Nat} {rs:List Role} {cont:Nat->Obj×(Nat->Value)}
end
section
variable {P:Program} {Q:Exit->Act->World->Prop} {W:World} {a0 af:Act} {l:List Oper} {k:Nat} {rs:List Role} {cont:Nat->Obj×(Nat->Value)}
end
def Py (ops:Array Oper) (k n:Nat):Bool:=
 Region.noSelect ops&&decide (k<ops.size)&&dstsOk n (ops.toList.take k)&&
 (List.range ops.size).all (fun i=>match ops[i]? with|some o=>o.after.all (fun e=> !Region.binds .any e||decide (e.on<i))|none=>false)&&
 (List.range ops.size).all (fun t=>decide (t<k)||((coverB ops ops.size (fw ops t (List.replicate ops.size false))).take k).all (fun b=>b))&&
 (List.range k).all (fun i=>(List.range k).all fun j=>match ops[i]?,ops[j]? with
   |some oi,some oj=>(match oj.dst with|some d=> !(oi.looksAt ops).contains d||(decide (j<i)&&waitsB1 .any ops i j)|none=>false)
   |_,_=>false)&&
 decide (Region.ready .any ops (Array.replicate k true++Array.replicate (ops.size-k) false)=[k])&&
 Region.lexFrom .any ops (ops.size-(k+1)) (k+1) ((Array.replicate k true++Array.replicate (ops.size-k) false).setIfInBounds k true)&&
 (match ops[k]? with|some o=>o.guard.isNone|none=>false)
section
variable {P:Program} {Q:Exit->Act->World->Prop} {W:World} {a0 af:Act} {l:List Oper} {k:Nat}
theorem lV {id:Nat} (k:Nat) (ok:Oper) (af:Act) (hok:l[k]?=some ok) (hm:P.follows .mixedOrders=true)
 (hB:Py l.toArray k a0.tmps.size=true)
 (sw: ∀V:World,Below W.heap.size W V->wpQuiet P l.toArray (fun w'=> ∃x:bN V,w'=x.w) (fun a'=>a'=af) (l.take k) a0)
 (AR: ∀(w':World),Below W.heap.size W w'->ok.wp P af w' (fun a w2=>wpQuiet P l.toArray (fun w3=> ∃x:bN w2,w3=x.w) (fun a'=> ∀x:bN w2,Q .normal a' x.w) (l.drop (k+1)) a) Q):
 (Code.region id l.toArray true).wp P Q a0 W:=by
 unfold Py at hB;rw[Bool.and_eq_true,Bool.and_eq_true,Bool.and_eq_true,Bool.and_eq_true,Bool.and_eq_true,Bool.and_eq_true,Bool.and_eq_true,Bool.and_eq_true]at hB;obtain⟨⟨⟨⟨⟨⟨⟨⟨hsel,hks⟩,hdst⟩,hback⟩,htl⟩,wB⟩,Qn⟩,hlex⟩,hgk⟩:=hB;simp only[decide_eq_true_eq,List.all_eq_true,List.mem_range,Bool.or_eq_true]at hks hback htl wB Qn;have Rz:l.toArray[k]?=some ok:=by simpa using hok
 rw[Rz]at hgk;have hsz:l.toArray.size=l.length:=by simp
 have hkl:k<l.length:=by rw[<-hsz];exact hks
 have hdk:dstsOk a0.tmps.size (l.take k)=true:=hdst;have hall: ∀V:World,Below W.heap.size W V->lT P l.toArray (fun w'=> ∃x:bN V,w'=x.w) af (l.take k) a0:=fun V hV=>nT hdk (sw V hV)
 have hA0:=hall W (Below.refl _ _);have hget: ∀i,i<k->(l.take k)[i]?=l[i]?:=fun i hi=>by rw[List.getElem?_take];simp[hi]
 have AU: ∀t,(∀j o,j<k->l[j]?=some o->o.dst≠some t)->ai af t=ai a0 t:=fun t ht=>hA0.keep.2.2 t (fun o ho=>by
  obtain⟨j,hj⟩:=List.getElem?_of_mem ho;rw[List.getElem?_take]at hj
  split at hj
  ·exact ht j o (by assumption) hj
  ·cases hj)
 have nJ: ∀i o,l[i]?=some o-> ∀e∈o.after,Region.binds .any e=true->e.on<i:=by
  intro i o hi e he hb;have hil:i<l.length:=(List.getElem?_eq_some_iff.1 hi).1;have h1:=hback i (by rw[hsz];exact hil);have hi':l.toArray[i]?=some o:=by simpa using hi
  rw[hi']at h1;have h2:=Array.all_eq_true_iff_forall_mem.1 h1 e he;simpa [hb]using h2
 have pQ: ∀i o j oj d,i<k->l[i]?=some o->j<k->l[j]?=some oj->oj.dst=some d->d∈o.looksAt l.toArray->j<i/\waitsB1 .any l.toArray i j=true:=by
  intro i o j oj d hi ho hj hoj hd hmem;have h1:=wB i hi j (by omega);have ho':l.toArray[i]?=some o:=by simpa using ho
  have lU:l.toArray[j]?=some oj:=by simpa using hoj
  rw[ho',lU]at h1;simp only[hd]at h1;have hc:(o.looksAt l.toArray).contains d=true:=by simpa using hmem
  rw[hc]at h1;simpa using h1
 have dlt: ∀i o,i<k->l[i]?=some o-> ∃d,o.dst=some d/\d<a0.tmps.size:=fun i o hi ho=>nV _ _ i o hdk (by rw[hget i (by omega)];exact ho)
 have dne: ∀i j o oj t,i<k->j<k->l[i]?=some o->l[j]?=some oj->i≠j->oj.dst=some t->o.dst≠some t:=fun i j o oj t hi hj ho hoj hne hd=>nW _ _ j i oj o t hdk (by rw[hget j (by omega)];exact hoj) (by rw[hget i (by omega)];exact ho) (Ne.symm hne) hd
 have fin: ∀(listed:Array Bool) (a:Act) (w:World),Ml P l.toArray k a0 af W listed a w->(∀i,i<k->listed.getD i false=true)-> ∀fuel,unl listed=fuel->wpAny P .any l.toArray Q fuel listed a w:=by
  intro listed a w m hdone fuel hu;have hLH:listed=Array.replicate k true++Array.replicate (l.toArray.size-k) false:=by
   apply Array.ext
   ·simp[m.size];omega
   ·intro i h1 h2
    rcases Nat.lt_or_ge i k with h'|h
    rotate_left 1
    ·have:=m.tail i h (by rw[<-m.size];exact h1)
     rw[Array.getElem_append_right (by simp;omega)];simpa [h1]using this
    ·have:=hdone i h'
     rw[Array.getElem_append_left (by simp;omega)];simpa [h1]using this
  have hae:a=af:=by
   have hs0:=hA0.keep;refine qZ ?_ ?_ ?_
   ·rw[m.tsize,hs0.1]
   ·rw[m.defers,hs0.2.1]
   ·intro t
    by_cases hex: ∃j o,j<k/\l[j]?=some o/\o.dst=some t
    ·obtain⟨j,o,hj,ho,hd⟩:=hex
     exact m.put j o t hj (by simpa using ho) hd (hdone j hj)
    ·rw[m.same t (fun j o hj ho _ hd=>hex ⟨j,o,hj,by simpa using ho,hd⟩),AU t (fun j o hj ho hd=>hex ⟨j,o,hj,ho,hd⟩)]
  have hfu:fuel=(l.drop k).length:=by
   rw[<-hu,hLH,nU];simp
  rw[hfu,hae,show(l.drop k).length=(l.drop (k+1)).length+1 by simp;omega,hLH];refine⟨fun h0=>(by rw[Qn]at h0;cases h0),fun i hi=>?_⟩;rw[Qn]at hi;obtain rfl:i=k:=by simpa using hi
  unfold wpOp;rw[Rz];simp only;rw[if_pos (by unfold Region.wanted;rw[Option.isNone_iff_eq_none.1 hgk])];refine .inl (Oper.wp_mono (fun a' w' hq=>?_) (AR w m.ahd));refine wpAny_of_quiet (C:=fun w3=> ∃x:bN w',w3=x.w) (Q:=fun a'=> ∀x:bN w',Q .normal a' x.w) (fun a'' w'' hx h=>by obtain⟨x,rfl⟩:=hx;exact h x) _ _ _ _ ⟨⟨w',Below.refl _ _⟩,rfl⟩ ?_;refine wpAnyQ_lex (md:=.any) hsel (l.drop (i+1)) (i+1) _ a' (fun j=>by simp[List.getElem?_drop]) ?_ hq;have:(l.drop (i+1)).length=l.toArray.size-(i+1):=by simp
  rw[this];exact hlex
 have main: ∀(fuel:Nat) (listed:Array Bool) (a:Act) (w:World),Ml P l.toArray k a0 af W listed a w->unl listed=fuel->wpAny P .any l.toArray Q fuel listed a w:=by
  intro fuel
  induction fuel with
  |zero=>
   intro listed a w m hu
   by_cases hdone: ∀i,i<k->listed.getD i false=true
   ·exact fin listed a w m hdone _ hu
   ·obtain⟨i,hi,_,hun⟩:=iW listed k hdone
    have:=jR (listed:=listed) (i:=i) (by rw[m.size];omega) (by rw[fJ (by rw[m.size];omega)];exact hun);omega
  |succ fuel ih=>
   intro listed a w m hu
   by_cases hdone: ∀i,i<k->listed.getD i false=true
   ·exact fin listed a w m hdone _ hu
   ·obtain⟨i0,hi0,hpre,sF⟩:=iW listed k hdone
    refine⟨fun h0=>?_,fun i hi=>?_⟩
    ·have hr:i0∈Region.ready .any l.toArray listed:=by
      rw[mem_ready];refine⟨by rw[fJ (by rw[m.size];omega)];exact sF,l[i0]'(by omega),by simp,fun e he hb=>hpre _ ?_⟩;exact nJ i0 _ (by simp) e he hb
     rw[h0]at hr
     cases hr
    ·have hi':=hi
     obtain⟨hun,o,ho,hw⟩:=mem_ready.1 hi;have hil:i<l.length:=by
      have:=(Array.getElem?_eq_some_iff.1 ho).1;simpa using this
     have hol:l[i]?=some o:=by simpa using ho
     have hun':unl (listed.setIfInBounds i true)=fuel:=by
      have:=jR (listed:=listed) (i:=i) (by rw[m.size];omega) hun;omega
     have hik:i<k:=by
      rcases Nat.lt_or_ge i k with h|h
      rotate_left 1
      ·have h1:=(htl i (by omega)).resolve_left (by omega)
       have h2:(coverB l.toArray l.toArray.size (fw l.toArray i (List.replicate l.toArray.size false))).getD i0 false=true:=by
        have hlen:=jy (ops:=l.toArray) l.toArray.size (fw l.toArray i (List.replicate l.toArray.size false));rw[jU,List.length_replicate]at hlen;have hm:(coverB l.toArray l.toArray.size (fw l.toArray i (List.replicate l.toArray.size false)))[i0]'(by rw[hlen,hsz];omega)∈(coverB l.toArray l.toArray.size (fw l.toArray i (List.replicate l.toArray.size false))).take k:=
         List.mem_take_iff_getElem.2 ⟨i0,by rw[hlen,hsz];omega,rfl⟩
        have:=h1 _ hm;rw[zg,List.getElem?_eq_getElem (by rw[hlen,hsz];omega)];exact this
       have h3:=jw (ops:=l.toArray) m.closed l.toArray.size _ (fun j hj=>?_) i0 h2
       ·rw[sF]at h3
        cases h3
       ·unfold fw at hj
        rw[ho]at hj;refine jT _ _ (fun e he hb=>hw e (by simpa using he) hb) (fun q hq=>?_) j hj;rw[zg,List.getElem?_replicate]at hq
        split at hq<;>cases hq
      ·exact h
     have hclosed: ∀j oj,l.toArray[j]?=some oj->(listed.setIfInBounds i true).getD j false=true-> ∀e∈oj.after,Region.binds .any e=true->(listed.setIfInBounds i true).getD e.on false=true:=by
      intro j oj hj hl e he hb
      by_cases hji:i=j
      ·subst hji
       rw[ho]at hj
       cases hj
       exact getD_set_true (hw e he hb)
      ·rw[getD_set_ne false hji]at hl
       exact getD_set_true (m.closed j oj hj hl e he hb)
     have o5: ∀t,k<=t->t<l.toArray.size->(listed.setIfInBounds i true).getD t true=false:=fun t ht ht'=>by rw[getD_set_ne true (by omega)];exact m.tail t ht ht'
     obtain⟨d,hod,AV⟩:=dlt i o hik hol;have jS: ∀t∈o.looksAt l.toArray,ai a t=ai (fI af ((l.take k).take i) a0) t:=by
      intro t ht;rw[jG _ _ _ (jc _ _ _ hdk)]
      by_cases hex: ∃j oj,j<k/\l[j]?=some oj/\oj.dst=some t
      ·obtain⟨j,oj,hj,hoj,hdt⟩:=hex
       obtain⟨hji,hwt⟩:=pQ i o j oj t hik hol hj hoj hdt ht;obtain⟨e,he,hb,heo⟩:=dV ho hwt;have hlj:=hw e he hb;rw[heo]at hlj;rw[m.put j oj t (by omega) (by simpa using hoj) hdt hlj,if_pos];rw[List.any_eq_true];refine⟨oj,?_,by simp[hdt]⟩;refine List.mem_of_getElem? (i:=j) ?_;rw[List.getElem?_take,List.getElem?_take];simp only[hji,show j<k by omega,if_true,hoj]
      ·rw[m.same t (fun j oj hj hoj _ hdt=>hex ⟨j,oj,by omega,by simpa using hoj,hdt⟩),if_neg]
       intro hany;rw[List.any_eq_true]at hany;obtain⟨oj,hmem,hdt⟩:=hany;obtain⟨j,hj⟩:=List.getElem?_of_mem (List.mem_of_mem_take hmem);rw[List.getElem?_take]at hj
       split at hj
       ·exact hex ⟨j,oj,by omega,hj,by simpa using hdt⟩
       ·cases hj
     have hy:=(hall w m.ahd).get (i:=i) (o:=o) (by rw[List.getElem?_take];simp[hik,hol]);have he:execOp a.eval o=execOp (fI af ((l.take k).take i) a0).eval o:=execOp_congr o (fun cs b=>Region.noSelect_spec hsel i o cs b ho) (fun x hx=>by
      cases x with
      |tmp t=>exact jS t (List.mem_append_left _ (List.mem_filterMap.2 ⟨.tmp t,by simpa using hx,rfl⟩))
      |_=>rfl)
     have hy':=hy.of_same he (gy jS);refine wpOp_of_qOp (C:=fun w'=> ∃x:bN w,w'=x.w) ⟨⟨w,Below.refl _ _⟩,rfl⟩ (fun a' w' hx ha=>?_) (hy'.qOp ho (K:=fun a'=>a'=a.put o.dst (leftBy af o)) rfl);obtain⟨x,rfl⟩:=hx;subst ha;refine ih _ _ _ ⟨by simp[m.size],hclosed,o5,m.ahd.trans (x.far.mono m.ahd.size),by rw[dH];exact m.defers,by rw[size_put];exact m.tsize,?_,?_⟩ hun'
     ·intro j oj t hj hoj hdt hl
      by_cases hji:i=j
      ·subst hji
       rw[ho]at hoj
       cases hoj
       have:leftBy af o=ai af t:=by simp[leftBy,hdt]
       rw[hdt,this];rw[hod]at hdt
       cases hdt
       exact aX _ (by rw[m.tsize];exact AV)
      ·rw[getD_set_ne false hji]at hl
       rw[aO _ (dne i j o oj t hik (by omega) hol (by simpa using hoj) hji hdt)];exact m.put j oj t hj hoj hdt hl
     ·intro t hno
      have h1:(listed.setIfInBounds i true).getD i false=true:=by
       have:i<listed.size:=by rw[m.size];omega
       simp[this]
      rw[aO _ (hno i o hik ho h1)];exact m.same t (fun j oj hj hoj hl=>hno j oj hj hoj (getD_set_true hl))
 refine wp_region_any hm (main _ _ a0 _ ?_ (by rw[rq]));refine⟨by simp,?_,?_,(Below.refl _ _).drew,rfl,rfl,?_,?_⟩
 ·intro j oj hj h
  rw[getD_replicate_false]at h
  cases h
 ·intro t _ ht
  have:(Array.replicate l.toArray.size false).getD t true=false:=by simp at ht;simp[ht]
  exact this
 ·intro j o t _ _ _ h
  rw[getD_replicate_false]at h
  cases h
 ·intro t _;rfl
end
section
variable {P:Program} {Q:Exit->Act->World->Prop} {W:World} {a0 af:Act} {l:List Oper} {k:Nat} {ok ok':Oper} {O:Obj} {ds ds':Tmp}
end
end Go.Proofs.Ytmebpglkeedaoaa
namespace Go.Proofs.Ytmebpglkeedaoaa
open Go.RowKit
def Blk (w:World) (g:Nat) (t:TypeId) (cs:List Value):Prop:=w.heap[g]?=some (.cells cs.toArray t (0,0))
section
variable {w w':World} {g:Nat} {t:TypeId} {cs:List Value}
theorem Blk.cell (h:Blk w g t cs) (o:Nat) {v:Value} (hv:cs[o]?=some v):w.cell? ⟨g,o,none⟩=some v:=by
 unfold Blk at h;simp[World.cell?,h,hv]
theorem Blk.free (h:Blk w g t cs) (o:Nat):w.frozen? ⟨g,o,none⟩=false:=by
 unfold Blk at h;simp[World.frozen?,h]
theorem Blk.lt (h:Blk w g t cs):g<w.heap.size:=by
 rcases Nat.lt_or_ge g w.heap.size with h'|h'
 ·exact h'
 ·unfold Blk at h
  rw[Array.getElem?_eq_none h']at h
  cases h
theorem Blk.of_eq (h:Blk w g t cs) (e:w'.heap[g]?=w.heap[g]?):Blk w' g t cs:=e.trans h
theorem Blk.drew (h:Blk w g t cs):Blk w.drew g t cs:=h
theorem Blk.alloc (h:Blk w g t cs) (o:Obj):Blk (w.alloc o) g t cs:=h.of_eq (Below.heap_alloc _ _ _ h.lt)
theorem Blk.new' (w:World) (cs:Array Value) (t:TypeId):Blk (w.alloc (.cells cs t)) w.heap.size t cs.toList:=by
 show(w.heap.push _)[w.heap.size]?=_
 simp
theorem Blk.setCell (h:Blk w g t cs) (o:Nat) (u:Value):Blk (w.setCell ⟨g,o,none⟩ u) g t (cs.set o u):=by
 have hlt:=h.lt;unfold Blk at h ⊢;have h':w.heap[g]=.cells cs.toArray t (0,0):=by simpa [Array.getElem?_eq_getElem hlt]using h
 show(w.heap.modify g _)[g]?=_
 rw[Array.getElem?_eq_getElem (by simpa using hlt),Array.getElem_modify_self,h'];simp
theorem Blk.setCell_ne (h:Blk w g t cs) {p:Addr} (hp:g≠p.block) (u:Value):Blk (w.setCell p u) g t cs:=h.of_eq (Below.heap_setCell _ _ _ _ hp)
theorem Blk.grown {row:Option Nat} (h:Blk w g t cs) (hg:w.grownBy w' row) (hne:some g≠row):Blk w' g t cs:=h.of_eq (hg.block g h.lt hne)
theorem Blk.below {B:Nat} (h:Blk w g t cs) (hb:Below B w w') (hlt:g<B):Blk w' g t cs:=h.of_eq (hb.block g hlt)
end
structure Touch (S:Nat->Prop) (w w':World):Prop where
 os:w'.os=w.os
 tape:w'.tape=w.tape
 output:w'.output=w.output
 size:w.heap.size<=w'.heap.size
 block: ∀k,k<w.heap.size-> ¬S k->w'.heap[k]?=w.heap[k]?
section
variable {S:Nat->Prop} {a w w':World}
theorem Touch.refl (S:Nat->Prop) (w:World):Touch S w w:=⟨rfl,rfl,rfl,Nat.le_refl _,fun _ _ _=>rfl⟩
theorem Touch.trans (h:Touch S a w) (k:Touch S w w'):Touch S a w':=
 ⟨k.os.trans h.os,k.tape.trans h.tape,k.output.trans h.output,Nat.le_trans h.size k.size,fun i hi hn=>(k.block i (Nat.lt_of_lt_of_le hi h.size) hn).trans (h.block i hi hn)⟩
theorem Touch.mono {S':Nat->Prop} (h:Touch S w w') (hS: ∀k,S k->S' k):Touch S' w w':=⟨h.os,h.tape,h.output,h.size,fun k hk hn=>h.block k hk (fun hs=>hn (hS k hs))⟩
theorem Touch.drew (h:Touch S a w):Touch S a w.drew:=⟨h.os,h.tape,h.output,h.size,h.block⟩
theorem Touch.step (h:Touch S a w) (hos:w'.os=w.os) (ht:w'.tape=w.tape) (ho:w'.output=w.output) (hs:w.heap.size<=w'.heap.size) (hb: ∀k,k<a.heap.size-> ¬S k->w'.heap[k]?=w.heap[k]?):Touch S a w':=
 ⟨hos.trans h.os,ht.trans h.tape,ho.trans h.output,Nat.le_trans h.size hs,fun k hk hn=>(hb k hk hn).trans (h.block k hk hn)⟩
theorem Touch.setCell (h:Touch S a w) {p:Addr} (hp:S p.block∨a.heap.size<=p.block) (u:Value):Touch S a (w.setCell p u):=
 h.step rfl rfl rfl (by simp[World.setCell]) fun k hk hn=>Below.heap_setCell _ _ _ _ (fun e=>by subst e;exact hp.elim hn (fun h'=>by omega))
theorem Touch.put {g:Nat} (h:Touch (fun k=>k=g) a w) (o:Nat) (u:Value):Touch (fun k=>k=g) a (w.setCell ⟨g,o,none⟩ u):=h.setCell (.inl rfl) u
theorem Touch.grown {row:Option Nat} (h:Touch S a w) (hg:w.grownBy w' row) (hr: ∀k,row=some k->S k∨a.heap.size<=k):Touch S a w':=
 h.step hg.os hg.tape hg.output hg.size fun k hk hn=>hg.block k (Nat.lt_of_lt_of_le hk h.size) (fun e=>(hr k e.symm).elim hn (fun h'=>by omega))
theorem Touch.then {S':Nat->Prop} (h:Touch S a w) (k:Touch S' w w') (hr: ∀k,S' k->S k∨a.heap.size<=k):Touch S a w':=
 h.step k.os k.tape k.output k.size fun i hi hn=>k.block i (Nat.lt_of_lt_of_le hi h.size) (fun e=>(hr i e).elim hn (fun h'=>by omega))
theorem Touch.of_below (hb:Below w.heap.size w w'):Touch S w w':=⟨hb.os,hb.tape,hb.output,hb.size,fun k hk _=>hb.block k hk⟩
theorem Touch.below (h:Touch S a w) (hb:Below w.heap.size w w'):Touch S a w':=h.then (Touch.of_below (S:=fun _=>False) hb) (fun _ h=>h.elim)
theorem Below.touch {B:Nat} (h:Below B a w) (hB:B<=w.heap.size) (k:Touch S w w') (hS: ∀k,S k->B<=k):Below B a w':=
 h.trans ⟨k.os,k.tape,k.output,k.size,fun i hi=>k.block i (by omega) (fun e=>by have:=hS i e;omega)⟩
theorem Blk.touch {g:Nat} {t:TypeId} {cs:List Value} (h:Blk w g t cs) (k:Touch S w w') (hn: ¬S g):Blk w' g t cs:=h.of_eq (k.block g h.lt hn)
theorem Touch.cell (k:Touch S w w') {p:Addr} (hp:p.block<w.heap.size) (hn: ¬S p.block):w'.cell? p=w.cell? p:=World.cell?_of_block (k.block p.block hp hn)
end
end Go.Proofs.Ytmebpglkeedaoaa
namespace Go.Proofs.Ytmebpglkeedaoaa
open Go Go.RowKit
def kC (w:World) (Bo:Option Addr) (m:Nat) (news:List Value):Prop:=(Bo=none/\m=0)∨ ∃a,Bo=some a/\ ∀j u,news[j]?=some u->w.cell? (a.add j)=some u
def aK (A:Option Addr) (k:Nat):Prop:= ∃a,A=some a/\a.block=k
theorem bE {A:Option Addr} {n cap k:Nat}:aK A k↔(Value.slice A n cap).ownBlock=some k:=by
 cases A with
 |none=>exact⟨fun ⟨a,h,_⟩=>(by cases h),fun h=>(by cases h)⟩
 |some a=>
  show aK (some a) k↔some a.block=some k
  exact⟨fun ⟨b,h,e⟩=>(by cases h;rw[e]),fun h=>⟨a,rfl,by simpa using h⟩⟩
section
variable {P:Program} {w:World}
theorem jH (t ty:TypeId) (base:Nat) (e:TypeId) (i:TypeInfo) (z:Value) (size bytes:Nat) (ht:P.underlying t=some (.slice e)) (hi:P.info? e=some i) (hz:i.zero=some z)
 (hsize:i.size=size) (hby:i.bytes=bytes) (hzs:z.cells.size=size) (hsz:0<size)
 (A:Option Addr) (n cap:Nat) (xs:List Value) (hown:w.ownsRow base e size (.slice A n cap) n xs)
 (Bo:Option Addr) (m c:Nat) (news:List Value) (hl:news.length=m*size) (hnews:kC w Bo m news) (h1: ∀u∈news,u.oneCell'=true)
 (h63:n+m<=maxLen) (hbytes:(n+m)*bytes<=140737488355328) (hbase:base<=w.heap.size):
 ∃A' cap' w',(Builtin.append_ #[t,t] ty #[.slice A n cap,.slice Bo m c]).run P w=.ok (.slice A' (n+m) cap') w'/\w'.ownsRow base e size (.slice A' (n+m) cap') (n+m) (xs++news)/\
  w.grownBy w' (Value.slice A n cap).ownBlock/\(∀k,aK A' k->aK A k∨k=w.heap.size):=by
 rcases hnews with ⟨rfl,rfl⟩|⟨a,rfl,hnews⟩
 ·have hn:news=[]:=List.eq_nil_of_length_eq_zero (by simpa using hl)
  subst hn;refine⟨A,cap,w,?_,by simpa using hown,⟨rfl,rfl,rfl,Nat.le_refl _,fun _ _ _=>rfl⟩,fun k hk=>.inl hk⟩
  rcases hown.2 with ⟨hv,rfl⟩|⟨g,cap',cur,hv,hbg,hg,hnc,hcm,hcs,htake⟩
  ·cases hv
   simp[Builtin.append_,run_underlying ht,sizeOf,typeInfo,hi,Builtin.lenOf,Builtin.firstCells]
  ·cases hv
   have hr:=run_append_room_src (P:=P) w t t ty e i ht hi g 0 n cap (.slice none 0 c) 0 [] (Src.ofNil w ht c) (by omega) (by simp) (by simp);simpa [World.setCells]using hr
 ·obtain⟨v',w',hr,h2,h3,h4,h5⟩:=run_append_own_at (P:=P) w base t ty e i z size bytes ht hi hz hsize hby hzs hsz (.slice A n cap) n xs hown a m c news hl hnews h1 h63 hbytes hbase
  have hform: ∃A' cap',v'=.slice A' (n+m) cap':=by
   rcases h2.2 with ⟨rfl,hn⟩|⟨g,cap',cur,rfl,_⟩
   ·exact⟨none,0,by rw[hn]⟩
   ·exact⟨_,_,rfl⟩
  obtain⟨A',cap',rfl⟩:=hform;refine⟨A',cap',w',hr,h2,h3,fun k hk=>?_⟩;have hk':=(bE (n:=n+m) (cap:=cap')).1 hk
  rcases h5 with h5|h5
  ·exact .inl ((bE (n:=n) (cap:=cap)).2 (h5▸hk'))
  ·rw[h5]at hk'
   exact .inr (by simpa using hk'.symm)
theorem dQ {ops:Array Oper} {o:Oper} {a:Act} {K:Act->World->Prop} {Q:Exit->Act->World->Prop} {E:Prop} (s x:Operand) (t:TypeId)
 (ho:o.op=.call {callee:=.builtin .append,args:= #[s,x],argTypes:= #[t,t]}) (hgd:o.guard=none)
 (base:Nat) (e:TypeId) (i:TypeInfo) (z:Value) (size bytes:Nat) (ht:P.underlying t=some (.slice e)) (hi:P.info? e=some i) (hz:i.zero=some z)
 (hsize:i.size=size) (hby:i.bytes=bytes) (hzs:z.cells.size=size) (hsz:0<size)
 (A:Option Addr) (n cap:Nat) (xs:List Value) (hs:a.eval s=.slice A n cap) (hown:w.ownsRow base e size (.slice A n cap) n xs)
 (Bo:Option Addr) (m c:Nat) (news:List Value) (hx:a.eval x=.slice Bo m c) (hl:news.length=m*size) (hnews:kC w Bo m news) (h1: ∀u∈news,u.oneCell'=true)
 (h63:n+m<=maxLen) (hbytes:(n+m)*bytes<=140737488355328) (hbase:base<=w.heap.size)
 (h: ∀A' cap' w',w'.ownsRow base e size (.slice A' (n+m) cap') (n+m) (xs++news)->w.grownBy w' (Value.slice A n cap).ownBlock->(∀k,aK A' k->aK A k∨k=w.heap.size)->K (a.put o.dst (.slice A' (n+m) cap')) w'):
 if Region.wanted o (yielded ops a.tmps)=true then Oper.wp P o a w K Q else E:=by
 have hw:Region.wanted o (yielded ops a.tmps)=true:=by simp[Region.wanted,hgd]
 rw[if_pos hw];obtain⟨A',cap',w',hr,h2,h3,h4⟩:=jH (P:=P) t o.type base e i z size bytes ht hi hz hsize hby hzs hsz A n cap xs hown Bo m c news hl hnews h1 h63 hbytes hbase;unfold Oper.wp execOp;simp only[ho,resolve,invoke,builtin,Sem.run_bind,Sem.run_pure,Result.andThen_ok,List.map_toArray,List.map_cons,List.map_nil,hs,hx,hr];exact h A' cap' w' h2 h3 h4
theorem ax {ops:Array Oper} {rest:List Oper} {o:Oper} {a:Act} {Q:Exit->Act->World->Prop} (s x:Operand) (t:TypeId)
 (ho:o.op=.call {callee:=.builtin .append,args:= #[s,x],argTypes:= #[t,t]}) (hgd:o.guard=none)
 (base:Nat) (e:TypeId) (i:TypeInfo) (z:Value) (size bytes:Nat) (ht:P.underlying t=some (.slice e)) (hi:P.info? e=some i) (hz:i.zero=some z)
 (hsize:i.size=size) (hby:i.bytes=bytes) (hzs:z.cells.size=size) (hsz:0<size)
 (A:Option Addr) (n cap:Nat) (xs:List Value) (hs:a.eval s=.slice A n cap) (hown:w.ownsRow base e size (.slice A n cap) n xs)
 (Bo:Option Addr) (m c:Nat) (news:List Value) (hx:a.eval x=.slice Bo m c) (hl:news.length=m*size) (hnews:kC w Bo m news) (h1: ∀u∈news,u.oneCell'=true)
 (h63:n+m<=maxLen) (hbytes:(n+m)*bytes<=140737488355328) (hbase:base<=w.heap.size)
 (h: ∀A' cap' w',w'.ownsRow base e size (.slice A' (n+m) cap') (n+m) (xs++news)->w.grownBy w' (Value.slice A n cap).ownBlock->(∀k,aK A' k->aK A k∨k=w.heap.size)->wpList P ops Q rest (a.put o.dst (.slice A' (n+m) cap')) w'):
 wpList P ops Q (o::rest) a w:=by
 refine wpList_plain hgd fun K hK=>?_
 obtain⟨A',cap',w',hr,h2,h3,h4⟩:=jH (P:=P) t o.type base e i z size bytes ht hi hz hsize hby hzs hsz A n cap xs hown Bo m c news hl hnews h1 h63 hbytes hbase;unfold Oper.wp execOp;simp only[ho,resolve,invoke,builtin,Sem.run_bind,Sem.run_pure,Result.andThen_ok,List.map_toArray,List.map_cons,List.map_nil,hs,hx,hr];exact hK _ _ (h A' cap' w' h2 h3 h4)
end
abbrev Qo:=Nat×TypeId×List Value
section
variable {l:List Qo} {W W' w:World}
end
namespace Ef
inductive Role where
 |q
 |p
 |c (j d:Nat)
 |e (n:Nat)
def Role.isP:Role->Bool
 |.p=>true
 |_=>false
def Role.eats:Role->Nat->Nat->Bool
 |.c j d,j',d'=>(j==j')&&(d==d')
 |_,_,_=>false
section
variable {P:Program} {ops:Array Oper} {af:Act} {cont:Nat->Obj×(Nat->Value)} {S:Nat->Prop} {J:Nat->World->Prop} {W V:World}
def AX (P:Program) (ops:Array Oper) (af:Act) (cont:Nat->Obj×(Nat->Value)) (S:Nat->Prop) (J:Nat->World->Prop) (W V:World) (i:Nat) (r:Role) (o:Oper) (a:Act):Prop:=
 match r with
 |.q=>YieldsIn P ops (fun w'=> ∃x:bN V,w'=x.w) o (leftBy af o) a
 |.p=>Region.wanted o (yielded ops a.tmps)=true/\ ∀w:World,(execOp a.eval o).run P w=.ok (.value ((cont i).2 w.heap.size)) (w.alloc (cont i).1)
 |.c j d=> ∀(V':World) (g:Nat),Below V.heap.size V V'->V'.heap[g]?=some (cont j).1->YieldsIn P ops (fun w'=> ∃x:bN V',w'=x.w) o (leftBy af o) (a.put (some d) ((cont j).2 g))
 |.e n=> ∀V':World,Touch S W V'->J n V'->Region.wanted o (yielded ops a.tmps)=true/\ ∃f args,(execOp a.eval o).run P V'=.ok (.enter f args) V'/\Calls P f args V' (fun e w''=>e=.returned (leftBy af o)/\Touch S V' w''/\J (n+1) w'')
def eT (P:Program) (ops:Array Oper) (af:Act) (cont:Nat->Obj×(Nat->Value)) (S:Nat->Prop) (J:Nat->World->Prop) (W V:World):Nat->List Role->List Oper->Act->Prop
 |_,[],[],a=>a=af
 |i,r::rs,o::l,a=>AX P ops af cont S J W V i r o a/\eT P ops af cont S J W V (i+1) rs l (a.put o.dst (leftBy af o))
 |_,_,_,_=>False
def wpP (P:Program) (ops:Array Oper) (af:Act) (cont:Nat->Obj×(Nat->Value)) (S:Nat->Prop) (J:Nat->World->Prop) (W V:World):Nat->List Role->List Oper->Act->Prop
 |_,[],[],a=>a=af
 |i,.q::rs,o::l,a=>wpQuiet P ops (fun w'=> ∃x:bN V,w'=x.w) (fun a'=>wpP P ops af cont S J W V (i+1) rs l a') [o] a
 |i,.p::rs,o::l,a=>Region.wanted o (yielded ops a.tmps)=true/\(∀w:World,(execOp a.eval o).run P w=.ok (.value ((cont i).2 w.heap.size)) (w.alloc (cont i).1))/\wpP P ops af cont S J W V (i+1) rs l (a.put o.dst undef)
 |i,.c j d::rs,o::l,a=> ∃u,(∀(V':World) (g:Nat),Below V.heap.size V V'->V'.heap[g]?=some (cont j).1->wpQuiet P ops (fun w'=> ∃x:bN V',w'=x.w) (fun a'=>wC a' o.dst=u) [o] (a.put (some d) ((cont j).2 g)))/\wpP P ops af cont S J W V (i+1) rs l (a.put o.dst u)
 |i,.e n::rs,o::l,a=> ∃u,(∀V':World,Touch S W V'->J n V'->Region.wanted o (yielded ops a.tmps)=true/\ ∃f args,(execOp a.eval o).run P V'=.ok (.enter f args) V'/\Calls P f args V' (fun e w''=>e=.returned (u)/\Touch S V' w''/\J (n+1) w''))/\wpP P ops af cont S J W V (i+1) rs l (a.put o.dst u)
 |_,_,_,_=>False
theorem iI {i:Nat} {a:Act} (h:a=af):wpP P ops af cont S J W V i [] [] a:=h
theorem iD {i:Nat} {rs:List Role} {o:Oper} {l:List Oper} {a:Act} (h:wpQuiet P ops (fun w'=> ∃x:bN V,w'=x.w) (fun a'=>wpP P ops af cont S J W V (i+1) rs l a') [o] a):wpP P ops af cont S J W V i (.q::rs) (o::l) a:=h
theorem jr {i:Nat} {rs:List Role} {o:Oper} {l:List Oper} {a:Act} (hg:Region.wanted o (yielded ops a.tmps)=true) (h: ∀w:World,(execOp a.eval o).run P w=.ok (.value ((cont i).2 w.heap.size)) (w.alloc (cont i).1)) (k:wpP P ops af cont S J W V (i+1) rs l (a.put o.dst undef)):wpP P ops af cont S J W V i (.p::rs) (o::l) a:=⟨hg,h,k⟩
theorem nE {i j d:Nat} {rs:List Role} {o:Oper} {l:List Oper} {a:Act} (u:Value) (h: ∀(V':World) (g:Nat),Below V.heap.size V V'->V'.heap[g]?=some (cont j).1->wpQuiet P ops (fun w'=> ∃x:bN V',w'=x.w) (fun a'=>wC a' o.dst=u) [o] (a.put (some d) ((cont j).2 g))) (k:wpP P ops af cont S J W V (i+1) rs l (a.put o.dst u)):wpP P ops af cont S J W V i (.c j d::rs) (o::l) a:=⟨u,h,k⟩
theorem eT.keep: ∀{i:Nat} {rs:List Role} {l:List Oper} {a:Act},eT P ops af cont S J W V i rs l a->af.tmps.size=a.tmps.size/\af.defers=a.defers/\(∀t,(∀o∈l,o.dst≠some t)->ai af t=ai a t)
 |_,[],[],a,h=>by
  have:a=af:=h;subst this;exact⟨rfl,rfl,fun _ _=>rfl⟩
 |_,[],_::_,_,h=>h.elim
 |_,_::_,[],_,h=>h.elim
 |i,r::rs,o::l,a,h=>by
  obtain⟨h1,h2,h3⟩:=eT.keep h.2;refine⟨by rw[h1,size_put],by rw[h2,dH],fun t ht=>?_⟩;rw[h3 t (fun o' ho'=>ht o' (by simp[ho'])),aO _ (ht o (by simp))]
theorem mQ: ∀{i:Nat} {rs:List Role} {l:List Oper} {a:Act},dstsOk a.tmps.size l=true->wpP P ops af cont S J W V i rs l a->eT P ops af cont S J W V i rs l a
 |_,[],[],a,_,h=>h
 |_,[],_::_,_,_,h=>h.elim
 |_,.q::_,[],_,_,h=>h.elim
 |_,.p::_,[],_,_,h=>h.elim
 |_,.c _ _::_,[],_,_,h=>h.elim
 |_,.e _::_,[],_,_,h=>h.elim
 |i,r::rs,o::l,a,hd,h=>by
  have hd':=hd;simp only[dstsOk,Bool.and_eq_true]at hd';obtain⟨hd1,hd2⟩:=hd'
  split at hd1
  rotate_left 1
  ·cases hd1
  ·rename_i d hod
   simp only[Bool.and_eq_true,decide_eq_true_eq,List.all_eq_true]at hd1;have key: ∀v:Value,wpP P ops af cont S J W V (i+1) rs l (a.put o.dst v)->eT P ops af cont S J W V (i+1) rs l (a.put o.dst v)/\leftBy af o=v:=by
    intro v hr;have hA:=mQ (i:=i+1) (rs:=rs) (l:=l) (a:=a.put o.dst v) (by rw[size_put];exact hd2) hr;refine⟨hA,?_⟩;unfold leftBy;rw[hod];have:=hA.keep.2.2 d (fun o' ho'=>by simpa using hd1.2 o' ho');simp only[this,hod];exact aX v hd1.1
   cases r with
   |q=>
    obtain⟨v,hy,hr⟩:=gY (show wpQuiet P ops _ _ [o] a from h);obtain⟨hA,he⟩:=key v hr;exact⟨show YieldsIn P ops _ o (leftBy af o) a by rw[he];exact hy,by rw[he];exact hA⟩
   |p=>
    obtain⟨hg,hrun,hr⟩:=(show _/\_/\_ from h);obtain⟨hA,he⟩:=key undef hr;exact⟨⟨hg,hrun⟩,by rw[he];exact hA⟩
   |c j dd=>
    obtain⟨u,hu,hr⟩:=(show∃u,_/\_ from h);obtain⟨hA,he⟩:=key u hr;refine⟨fun V' g hb hg=>?_,by rw[he];exact hA⟩;obtain⟨v,hy,hv⟩:=gY (hu V' g hb hg);have:v=u:=by
     rw[<-hv,hod];exact(aX v (by rw[size_put];exact hd1.1)).symm
    rw[he,<-this];exact hy
   |e n=>
    obtain⟨u,hu,hr⟩:=(show∃u,_/\_ from h);obtain⟨hA,he⟩:=key u hr;exact⟨fun V' h1 h2=>by rw[he];exact hu V' h1 h2,by rw[he];exact hA⟩
theorem eT.get: ∀{b:Nat} {rs:List Role} {l:List Oper} {a:Act} {i:Nat} {o:Oper} {r:Role},eT P ops af cont S J W V b rs l a->l[i]?=some o->rs[i]?=some r->AX P ops af cont S J W V (b+i) r o (fI af (l.take i) a)
 |_,[],[],_,_,_,_,_,hi,_=>by simp at hi
 |_,[],_::_,_,_,_,_,h,_,_=>h.elim
 |_,_::_,[],_,_,_,_,h,_,_=>h.elim
 |b,r::rs,o::l,a,0,o',r',h,hi,hr=>by
  have e1:o=o':=by simpa using hi
  have e2:r=r':=by simpa using hr
  subst e1;subst e2;exact h.1
 |b,r::rs,o::l,a,i+1,o',r',h,hi,hr=>by
  have:=eT.get (i:=i) h.2 (by simpa using hi) (by simpa using hr);rw[show b+(i+1)=b+1+i from by omega];simpa [fI]using this
def fillP (cont:Nat->Obj×(Nat->Value)) (gs:Nat->Nat):Nat->List Role->List Oper->Act->Act
 |i,.p::rs,o::l,a=>fillP cont gs (i+1) rs l (a.put o.dst ((cont i).2 (gs i)))
 |i,.q::rs,_::l,a=>fillP cont gs (i+1) rs l a
 |i,.c _ _::rs,_::l,a=>fillP cont gs (i+1) rs l a
 |i,.e _::rs,_::l,a=>fillP cont gs (i+1) rs l a
 |_,[],_,a=>a
 |_,_,[],a=>a
theorem fe (gs:Nat->Nat): ∀(rs:List Role) (b:Nat) (l:List Oper) (a:Act),(fillP cont gs b rs l a).tmps.size=a.tmps.size/\(fillP cont gs b rs l a).defers=a.defers
 |[],_,_,_=>by unfold fillP;exact⟨rfl,rfl⟩
 |.p::rs,b,[],a=>by unfold fillP;exact⟨rfl,rfl⟩
 |.q::rs,b,[],a=>by unfold fillP;exact⟨rfl,rfl⟩
 |.c _ _::rs,b,[],a=>by unfold fillP;exact⟨rfl,rfl⟩
 |.e _::rs,b,[],a=>by unfold fillP;exact⟨rfl,rfl⟩
 |.q::rs,b,o::l,a=>by unfold fillP;exact fe gs rs (b+1) l a
 |.c _ _::rs,b,o::l,a=>by unfold fillP;exact fe gs rs (b+1) l a
 |.e _::rs,b,o::l,a=>by unfold fillP;exact fe gs rs (b+1) l a
 |.p::rs,b,o::l,a=>by
  unfold fillP;obtain⟨h1,h2⟩:=fe gs rs (b+1) l (a.put o.dst ((cont b).2 (gs b)));exact⟨by rw[h1,size_put],by rw[h2,dH]⟩
theorem fB (gs:Nat->Nat): ∀(rs:List Role) (b:Nat) (l:List Oper) (a:Act) (t:Tmp),(∀(i:Nat) (o:Oper),l[i]?=some o->rs[i]?=some Role.p->o.dst≠some t)->ai (fillP cont gs b rs l a) t=ai a t
 |[],_,_,_,_,_=>by unfold fillP;rfl
 |.p::rs,b,[],a,_,_=>by unfold fillP;rfl
 |.q::rs,b,[],a,_,_=>by unfold fillP;rfl
 |.c _ _::rs,b,[],a,_,_=>by unfold fillP;rfl
 |.e _::rs,b,[],a,_,_=>by unfold fillP;rfl
 |.q::rs,b,o::l,a,t,h=>by
  unfold fillP;exact fB gs rs (b+1) l a t (fun i o ho hr=>h (i+1) o (by simpa using ho) (by simpa using hr))
 |.c _ _::rs,b,o::l,a,t,h=>by
  unfold fillP;exact fB gs rs (b+1) l a t (fun i o ho hr=>h (i+1) o (by simpa using ho) (by simpa using hr))
 |.e _::rs,b,o::l,a,t,h=>by
  unfold fillP;exact fB gs rs (b+1) l a t (fun i o ho hr=>h (i+1) o (by simpa using ho) (by simpa using hr))
 |.p::rs,b,o::l,a,t,h=>by
  unfold fillP;rw[fB gs rs (b+1) l _ t (fun i o ho hr=>h (i+1) o (by simpa using ho) (by simpa using hr))];exact aO _ (h 0 o (by simp) (by simp))
theorem nX (gs:Nat->Nat): ∀(rs:List Role) (b:Nat) (l:List Oper) (a:Act) (n i:Nat) (o:Oper) (t:Tmp),dstsOk n l=true->n=a.tmps.size->l[i]?=some o->rs[i]?=some Role.p->o.dst=some t->ai (fillP cont gs b rs l a) t=(cont (b+i)).2 (gs (b+i))
 |[],_,_,_,_,_,_,_,_,_,_,hr,_=>by simp at hr
 |_::rs,b,[],a,_,_,_,_,_,_,ho,_,_=>by simp at ho
 |.q::rs,b,o::l,a,n,0,o',t,hd,hn,ho,hr,ht=>by simp at hr
 |.c _ _::rs,b,o::l,a,n,0,o',t,hd,hn,ho,hr,ht=>by simp at hr
 |.e _::rs,b,o::l,a,n,0,o',t,hd,hn,ho,hr,ht=>by simp at hr
 |.p::rs,b,o::l,a,n,0,o',t,hd,hn,ho,hr,ht=>by
  have e:o=o':=by simpa using ho
  subst e;unfold fillP;simp only[dstsOk,Bool.and_eq_true]at hd;have h1:=hd.1;rw[ht]at h1;simp only[Bool.and_eq_true,decide_eq_true_eq,List.all_eq_true]at h1;rw[fB gs rs (b+1) l _ t (fun i o' ho' _=>by simpa using h1.2 o' (List.mem_of_getElem? ho')),ht];exact aX _ (by rw[<-hn];exact h1.1)
 |r::rs,b,o::l,a,n,i+1,o',t,hd,hn,ho,hr,ht=>by
  simp only[dstsOk,Bool.and_eq_true]at hd;have key: ∀a':Act,a'.tmps.size=n->ai (fillP cont gs (b+1) rs l a') t=(cont (b+(i+1))).2 (gs (b+(i+1))):=by
   intro a' ha';have:=nX gs rs (b+1) l a' n i o' t hd.2 ha'.symm (by simpa using ho) (by simpa using hr) ht;rw[this,show b+1+i=b+(i+1)from by omega]
  cases r<;>unfold fillP
  ·exact key _ hn.symm
  ·exact key _ (by rw[size_put];exact hn.symm)
  ·exact key _ hn.symm
  ·exact key _ hn.symm
end
structure Qk (P:Program) (ops:Array Oper) (k:Nat) (rs:List Role) (cont:Nat->Obj×(Nat->Value)) (S:Nat->Prop) (J:Nat->World->Prop) (RA:List Nat) (a0 af:Act) (W:World) (n:Nat) (gs:Nat->Nat) (listed:Array Bool) (a:Act) (w:World):Prop where
 size:listed.size=ops.size
 closed: ∀j oj,ops[j]?=some oj->listed.getD j false=true-> ∀e∈oj.after,Region.binds .any e=true->listed.getD e.on false=true
 tail: ∀t,k<=t->t<ops.size->listed.getD t true=false
 ahd:Touch S W w
 nle:n<=RA.length
 cnt: ∀q i,RA[q]?=some i->(listed.getD i false=true↔q<n)
 jn:J n w
 defers:a.defers=a0.defers
 tsize:a.tmps.size=a0.tmps.size
 put: ∀j o t,j<k->ops[j]?=some o->o.dst=some t->listed.getD j false=true->rs[j]?≠some Role.p->ai a t=ai af t
 same: ∀t,(∀j o,j<k->ops[j]?=some o->listed.getD j false=true->o.dst≠some t)->ai a t=ai a0 t
 spec: ∀j o t,j<k->ops[j]?=some o->o.dst=some t->listed.getD j false=true->rs[j]?=some Role.p->ai a t=(cont j).2 (gs j)/\W.heap.size<=gs j/\w.heap[gs j]?=some (cont j).1
 apart: ∀j j',j<k->j'<k->j≠j'->listed.getD j false=true->listed.getD j' false=true->rs[j]?=some Role.p->rs[j']?=some Role.p->gs j≠gs j'
section
variable {P:Program} {Q:Exit->Act->World->Prop} {W:World} {a0 af:Act} {l:List Oper} {k:Nat} {rs:List Role} {cont:Nat->Obj×(Nat->Value)}
end
end Ef
end Go.Proofs.Ytmebpglkeedaoaa
namespace Go.Proofs.Ytmebpglkeedaoaa
open Go.RowKit
theorem bF {w w':World} {B e z n cap:Nat} {A:Option Addr} {xs:List Value} (h:w.ownsRow B e z (.slice A n cap) n xs) (hb:Below w.heap.size w w'):w'.ownsRow B e z (.slice A n cap) n xs:=by
 refine⟨h.1,?_⟩
 rcases h.2 with h2|⟨k,c,cur,hv,hb',hg,r⟩
 ·exact .inl h2
 ·cases hv
  exact .inr ⟨k,cap,cur,rfl,hb',by rw[hb.block k (Array.getElem?_eq_some_iff.1 hg).1];exact hg,r⟩
theorem fT {w w':World} {row:Option Nat} {B e z n cap:Nat} {A:Option Addr} {xs:List Value} (h:w.ownsRow B e z (.slice A n cap) n xs) (hg:w.grownBy w' row) (hne: ∀k,aK A k->some k≠row):w'.ownsRow B e z (.slice A n cap) n xs:=by
 refine⟨h.1,?_⟩
 rcases h.2 with h2|⟨k,c,cur,hv,hb',hgk,r⟩
 ·exact .inl h2
 ·cases hv
  exact .inr ⟨k,cap,cur,rfl,hb',by rw[hg.block k (Array.getElem?_eq_some_iff.1 hgk).1 (hne k ⟨_,rfl,rfl⟩)];exact hgk,r⟩
theorem iT {w:World} {B e z n cap:Nat} {A:Option Addr} {xs:List Value} (h:w.ownsRow B e z (.slice A n cap) n xs) {k:Nat} (hk:aK A k):k<w.heap.size/\B<=k:=by
 obtain⟨a,rfl,rfl⟩:=hk
 rcases h.2 with ⟨h2,_⟩|⟨g,c,cur,hv,hb,hg,_⟩
 ·cases h2
 ·cases hv
  exact⟨(Array.getElem?_eq_some_iff.1 hg).1,hb⟩
theorem bI {w:World} {B e z n cap:Nat} {A:Option Addr} {xs:List Value} (h:w.ownsRow B e z (.slice A n cap) n xs) {p:Addr} (hp: ¬aK A p.block) (u:Value):(w.setCell p u).ownsRow B e z (.slice A n cap) n xs:=by
 refine⟨h.1,?_⟩
 rcases h.2 with h2|⟨k,c,cur,hv,hb',hg,r⟩
 ·exact .inl h2
 ·cases hv
  exact .inr ⟨k,cap,cur,rfl,hb',by rw[Below.heap_setCell _ _ _ _ (fun e=>hp ⟨_,rfl,e⟩)];exact hg,r⟩
theorem AZ {S:Nat->Prop} {w w':World} {B e z n cap:Nat} {A:Option Addr} {xs:List Value} (h:w.ownsRow B e z (.slice A n cap) n xs) (k:Touch S w w') (hn: ∀b,aK A b-> ¬S b):w'.ownsRow B e z (.slice A n cap) n xs:=by
 refine⟨h.1,?_⟩
 rcases h.2 with h2|⟨g,c,cur,hv,hb',hgk,r⟩
 ·exact .inl h2
 ·cases hv
  exact .inr ⟨g,cap,cur,rfl,hb',by rw[k.block g (Array.getElem?_eq_some_iff.1 hgk).1 (hn g ⟨_,rfl,rfl⟩)];exact hgk,r⟩
theorem ae {W:World} {g g':Nat} {t t':TypeId} {cs cs':List Value} (h:Blk W g t cs) (h':Blk W g' t' cs') (hn:t≠t'):g'≠g:=by
 intro e;subst e;unfold Blk at h h';rw[h]at h';simp only[Option.some.injEq,Obj.cells.injEq]at h';exact hn h'.2.1
end Go.Proofs.Ytmebpglkeedaoaa
namespace Go.Proofs.Ytmebpglkeedaoaa
open Go.RowKit Go.WideShapes Go.ChangeShapes
section
variable {H:Type} {enc:TypeId×Value->H} {P:Program}
theorem vw (hl:laidOutB P=true) {W W':World} {sp':Nat->Bool}: ∀{ts:List TypeId} {vs:List Value} {ds:List (DataW H)} {ps:List MemPlace},(ts.all fun t=>P.readableRec t&&decide (t<P.types.size))=true->
 DataW.TrodAll enc P W 0 (fun _=>true) true ts vs ds ps->(∀p∈ps,W.sameAt W' p)->(∀p∈ps,sp' p.block=true)->DataW.TrodAll enc P W' 0 sp' true ts vs ds ps
 |[],[],[],_,_,h,_,_=>h
 |t::ts,v::vs,d::ds,_,hr,⟨p,q,h1,h2,e⟩,hsame,hs=>by
  subst e;simp only[List.all_cons,Bool.and_eq_true,decide_eq_true_eq]at hr;refine⟨p,q,WideElems.Trod_stays hl hr.1.1 hr.1.2 h1 (fun x hx=>hsame x (List.mem_append_left _ hx)) (fun x hx=>hs x (List.mem_append_left _ hx)),?_,rfl⟩;exact vw hl (by simpa using hr.2) h2 (fun x hx=>hsame x (List.mem_append_right _ hx)) (fun x hx=>hs x (List.mem_append_right _ hx))
theorem Ij {f:Func} {s:ChangeSpec} {apart fresh handsOn again:Bool} {W W':World} {args:Array Value} {ds:List (DataW H)} {p:List MemPlace}
 (hl:laidOutB P=true) (hr:(f.params.toList.all fun t=>P.readableRec t&&decide (t<P.types.size))=true) (hsv:s.vars=[])
 (hW:DataW.Whole enc P f.params.toList s.vars apart W args.toList ds [] p)
 (hA:DataW.TrodAll enc P W 0 (fun _=>true) true f.params.toList args.toList ds p)
 (hsr:(s.fn H (ds++[])).results=[.lit (.bool true)]) (hsa:(s.fn H (ds++[])).args=ds) (U8:(s.fn H (ds++[])).vars=[])
 (hres: ∀(b:Nat) (sp:Nat->Bool) (hd:Bool),DataW.TrodAll enc P W' b sp hd f.resultTypes.toList ((Value.bool true).resultList f.resultTypes.size) [.lit (.bool true)] [])
 (hb:Below W.heap.size W W')
 (hok: ∀(j:Nat) (t:TypeId) (r:Value),f.resultTypes[j]?=some t->((Value.bool true).resultList f.resultTypes.size)[j]?=some r->Value.okWide P W' .any 0 t r):
 s.post enc P f apart fresh handsOn again W args (.bool true) W':=by
 have hlt: ∀x∈p,x.block<W.heap.size:=fun x hx=>hW.lt x hx
 have hargs: ∀sp:Nat->Bool,(∀x∈p,sp x.block=true)->DataW.TrodAll enc P W' 0 sp true f.params.toList args.toList (s.fn H (ds++[])).args p:=fun sp hsp=>by
  rw[hsa];exact vw hl hr hA (fun x hx=>hb.same (hlt x hx)) hsp
 have hvars: ∀sp:Nat->Bool,DataW.TrodVars enc P W' sp s.vars (s.fn H (ds++[])).vars []:=fun sp=>by rw[hsv,U8];rfl
 have hres': ∀(b:Nat) (sp:Nat->Bool) (hd:Bool),DataW.TrodAll enc P W' b sp hd f.resultTypes.toList ((Value.bool true).resultList f.resultTypes.size) (s.fn H (ds++[])).results []:=fun b sp hd=>by rw[hsr];exact hres b sp hd
 have hold: ∀x∈p,(fun b=>decide (b<W.heap.size)) x.block=true:=fun x hx=>by simpa using hlt x hx
 refine⟨ds,[],p,[],p,[],hW,hres' _ _ _,hargs _ hold,hvars _,World.keptBut_mono (fun x hx=>⟨hx,Or.inr (by simpa using hx)⟩) (hb.frame (· ∈p)),fun _=>?_⟩
 ·obtain⟨_,_,_,_,_,hz,hn⟩:=hW
  refine⟨hok,_,_,([]++p)++[],⟨[]++p,[],trodAll_append (hargs _ (fun _ _=>rfl)) (hres' _ _ _),hvars _,rfl,?_,?_⟩,?_⟩
  ·intro b off hp
   have hin:MemPlace.cell b off∈p:=by simpa using hp
   rw[hb.frozen (hlt _ hin)];exact hz b off hin
  ·intro ha
   simpa using hn ha
  ·intro x hx _
   simpa using hx
end
section
variable {H:Type} {enc:TypeId×Value->H} {P:Program} {w:World} {base:Nat} {spare:Nat->Bool} {held:Bool}
end
end Go.Proofs.Ytmebpglkeedaoaa
namespace Go.Proofs.Ytmebpglkeedaoaa
open Go.RowKit Go.WideShapes Go.ChangeShapes Go.Deep
inductive Sh where
 |nil
 |i (k:IntKind) (r:Sh)
 |b (r:Sh)
 |s (sz:Nat) (es:Sh) (r:Sh)
namespace Sh
def app:Sh->Sh->Sh
 |nil,t=>t
 |i k r,t=>i k (app r t)
 |b r,t=>b (app r t)
 |s sz es r,t=>s sz es (app r t)
def len:Sh->Nat
 |nil=>0
 |i _ r=>len r+1
 |b r=>len r+1
 |s _ _ r=>len r+1
theorem len_app: ∀a b:Sh,(app a b).len=a.len+b.len
 |nil,_=>by simp[app,len]
 |i _ r,t=>by simp[app,len,len_app r t];omega
 |b r,t=>by simp[app,len,len_app r t];omega
 |s _ _ r,t=>by simp[app,len,len_app r t];omega
end Sh
def Rd (w:World):Sh->List Value->Prop
 |.nil,l=>l=[]
 |.i k r,l=> ∃n vs,l=.int k n::vs/\(Lit.int k n).wf=true/\Rd w r vs
 |.b r,l=> ∃b vs,l=.bool b::vs/\Rd w r vs
 |.s sz es r,l=> ∃v vs,l=v::vs/\Rd w r vs/\(v=.slice none 0 0∨ ∃a len cap,v=.slice (some a) len cap/\len<=cap/\cap<=maxLen/\
   ∀i,i<len-> ∃cs,cs.length=sz/\(∀j u,cs[j]?=some u->w.cell? ((a.add (i*sz)).add j)=some u)/\Rd w es cs)
theorem sG {w:World}: ∀{s t:Sh} {l m:List Value},Rd w s l->Rd w t m->Rd w (s.app t) (l++m)
 |.nil,_,_,_,h,h'=>by
  have:_=[]:=h;subst this;exact h'
 |.i _ _,_,_,_,⟨n,vs,e,hw,h⟩,h'=>⟨n,vs++_,by rw[e];rfl,hw,sG h h'⟩
 |.b _,_,_,_,⟨n,vs,e,h⟩,h'=>⟨n,vs++_,by rw[e];rfl,sG h h'⟩
 |.s _ _ _,_,_,_,⟨v,vs,e,h,hs⟩,h'=>⟨v,vs++_,by rw[e];rfl,sG h h',hs⟩
def shFields (g:TypeId->Option Sh):List Field->Nat->Option Sh
 |[],_=>some .nil
 |f::fs,off=>if f.offset=off then
   match g f.type with
   |some ks=>match shFields g fs (off+ks.len)with
    |some r=>some (ks.app r)
    |none=>none
   |none=>none
  else none
def shTimes (ks:Sh):Nat->Sh
 |0=>.nil
 |n+1=>ks.app (shTimes ks n)
def shK (P:Program):Nat->TypeId->Option Sh
 |0,_=>none
 |f+1,t=>
  let r:=match P.underlying t with
   |some (.int k)=>some (Sh.i k .nil)
   |some .bool=>some (Sh.b .nil)
   |some (.slice e)=>match shK P f e with
    |some es=>some (Sh.s (P.cellsOf e) es .nil)
    |none=>none
   |some (.struct fs)=>shFields (shK P f) fs.toList 0
   |some (.array n e)=>match shK P f e with
    |some ks=>some (shTimes ks n)
    |none=>none
   |_=>none
  match r with
  |some ks=>if ks.len=P.cellsOf t then some ks else none
  |none=>none
section
variable {H:Type} {enc:TypeId×Value->H} {P:Program} {w:World} {base:Nat} {spare:Nat->Bool} {held:Bool}
theorem nG (g:TypeId->Option Sh) (n:Nat)
 (hg: ∀t ks,g t=some ks->ks.len=P.cellsOf t/\ ∀cs x,DataW.trod enc P w base spare held n t cs=some x->Rd w ks cs):
 ∀(fs:List Field) (off:Nat) (ks:Sh) (cs:List Value),shFields g fs off=some ks->cs.length=off+ks.len->
  (∀f∈fs,∃x,DataW.trod enc P w base spare held n f.type ((cs.drop f.offset).take (P.cellsOf f.type))=some x)->Rd w ks (cs.drop off)
 |[],off,ks,cs,h,hl,_=>by
  simp only[shFields,Option.some.injEq]at h;subst h;rw[List.drop_eq_nil_of_le (by simp[Sh.len]at hl;omega)];rfl
 |f::fs,off,ks,cs,h,hl,hx=>by
  unfold shFields at h
  split at h
  ·rename_i ho
   split at h
   ·rename_i k1 hk1
    split at h
    ·rename_i k2 hk2
     simp only[Option.some.injEq]at h;subst h;obtain⟨x,hx0⟩:=hx f (by simp);obtain⟨hlen,hop⟩:=hg _ _ hk1;have h1:=hop _ _ hx0;rw[ho,<-hlen]at h1;have h2:=nG g n hg fs (off+k1.len) k2 cs hk2 (by rw[Sh.len_app]at hl;omega) (fun f' hf'=>hx f' (by simp[hf']));have:=sG h1 h2;rw[<-List.drop_drop]at this
     rwa [List.take_append_drop]at this
    ·cases h
   ·cases h
  ·cases h
theorem pR (ks:Sh): ∀n,(shTimes ks n).len=n*ks.len
 |0=>by simp[shTimes,Sh.len]
 |n+1=>by rw[shTimes,Sh.len_app,pR ks n,Nat.add_mul];omega
theorem nY {ks:Sh} {c:Nat} (hc:ks.len=c): ∀(m i:Nat) (cs:List Value),cs.length=(i+m)*c->
 (∀j,j<m->Rd w ks ((cs.drop ((i+j)*c)).take c))->Rd w (shTimes ks m) (cs.drop (i*c))
 |0,i,cs,hl,_=>by
  rw[List.drop_eq_nil_of_le (by simp at hl;omega)];rfl
 |m+1,i,cs,hl,h=>by
  have h1:=h 0 (by omega);have h2:=nY hc m (i+1) cs (by rw[hl];congr 1;omega) (fun j hj=>by
   have:=h (j+1) (by omega)
   rwa [show i+(j+1)=i+1+j from by omega]at this)
  have:=sG h1 h2;rw[show(i+1)*c=(i+0)*c+c from by rw[Nat.add_mul];simp,<-List.drop_drop,List.take_append_drop]at this
  show Rd w (ks.app (shTimes ks m)) _
  simpa using this
theorem wD: ∀(fuel:Nat) (t:TypeId) (ks:Sh),shK P fuel t=some ks->
 ks.len=P.cellsOf t/\ ∀(n:Nat) (cs:List Value) (x:DataW H×List MemPlace),DataW.trod enc P w base spare held n t cs=some x->Rd w ks cs
 |0,_,_,h=>by cases h
 |f+1,t,ks,h=>by
  have hrec:=fun t' ks' (h':shK P f t'=some ks')=>wD f t' ks' h'
  unfold shK at h;simp only at h
  split at h
  ·rename_i r hr
   split at h
   ·rename_i hlen
    simp only[Option.some.injEq]at h;subst h;refine⟨hlen,fun n cs x hx=>?_⟩
    split at hr
    ·rename_i k hu
     simp only[Option.some.injEq]at hr;subst hr;obtain⟨m,rfl,_,hwf⟩:=DataW.trod_int hu hx;exact⟨m,[],rfl,hwf,rfl⟩
    ·rename_i hu
     simp only[Option.some.injEq]at hr;subst hr;obtain⟨b,rfl,_⟩:=DataW.trod_bool hu hx;exact⟨b,[],rfl,rfl⟩
    ·rename_i e hu
     split at hr
     ·rename_i es hes
      simp only[Option.some.injEq]at hr;subst hr
      rcases open_slice hu hx with ⟨rfl,_⟩|⟨a,len,cap,m,n',D,Pl,rfl,_,hl,hm,hmm,_,hi⟩
      ·exact⟨_,[],rfl,rfl,.inl rfl⟩
      ·refine⟨_,[],rfl,rfl,.inr ⟨a,len,cap,rfl,hl,hm,fun i hil=>?_⟩⟩
       have hlm:len<=m:=by rw[hmm];split<;>omega
       obtain⟨cs',hc,ht⟩:=hi i (by omega);obtain⟨_,hcl,hat⟩:=World.cells?_some hc;refine⟨cs',hcl,fun j u hj=>?_,(hrec e es hes).2 n' _ _ ht⟩;have hjl:j<cs'.length:=(List.getElem?_eq_some_iff.1 hj).1;rw[hat j (by omega),hj]
     ·cases hr
    ·rename_i fs hu
     obtain⟨xs,m,_,_,hcl,hxl,hf⟩:=DataW.trod_struct hu hx;have:=nG (enc:=enc) (P:=P) (w:=w) (base:=base) (spare:=spare) (held:=held) (shK P f) m (fun t' ks' h'=>⟨(hrec t' ks' h').1,fun cs x=>(hrec t' ks' h').2 m cs x⟩) fs.toList 0 r cs hr (by omega) (fun fd hfd=>by
      obtain⟨i,hi,he⟩:=List.getElem_of_mem hfd;have hi':fs[i]?=some fd:=by
       rw[<-he];simp at hi;simp[hi]
      have h2:=hf i fd hi';have hlt:i<xs.length:=by simp at hi;omega
      rw[List.getElem?_eq_getElem hlt]at h2;exact⟨_,h2⟩)
     simpa using this
    ·rename_i nn e hu
     split at hr
     ·rename_i ke hke
      simp only[Option.some.injEq]at hr;subst hr;obtain⟨xs,m,_,_,hcl,hxl,hf⟩:=DataW.trod_array hu hx;obtain⟨hel,hop⟩:=hrec e ke hke;have hcs:cs.length=(0+nn)*P.cellsOf e:=by
       rw[hcl,<-hlen,pR,hel,Nat.zero_add]
      have:=nY (w:=w) hel nn 0 cs hcs (fun j hj=>by
       have h2:=hf j hj;have hlt:j<xs.length:=by omega
       rw[List.getElem?_eq_getElem hlt]at h2;rw[Nat.zero_add];exact hop m _ _ h2)
      simpa using this
     ·cases hr
    ·cases hr
   ·cases h
  ·cases h
theorem Qp {r:Reach} {b0 fuel:Nat} {t:TypeId} {fs:Array Field} {ks:Sh} {v:Value} {d:DataW H} {p:List MemPlace} (hs:P.underlying t=some (.struct fs)) (hk:shK P fuel t=some ks)
 (hv:Value.okWide P w r b0 t v) (h:DataW.Trod enc P w base spare held t v d p): ∃l,v=.agg ⟨l⟩/\Rd w ks l:=by
 obtain⟨cs,rfl,_⟩:=okWide_struct hs hv;obtain⟨n,hn⟩:=h;obtain⟨l⟩:=cs;exact⟨l,rfl,(wD fuel t ks hk).2 n _ _ hn⟩
theorem Ik {r:Reach} {b0 fuel:Nat} {t e:TypeId} {sz:Nat} {es:Sh} {v:Value} {d:DataW H} {p:List MemPlace} (hs:P.underlying t=some (.slice e)) (hk:shK P fuel t=some (.s sz es .nil))
 (hv:Value.okWide P w r b0 t v) (h:DataW.Trod enc P w base spare held t v d p):v=.slice none 0 0∨ ∃a len cap,v=.slice (some a) len cap/\len<=cap/\cap<=maxLen/\
   ∀i,i<len-> ∃cs,cs.length=sz/\(∀j u,cs[j]?=some u->w.cell? ((a.add (i*sz)).add j)=some u)/\Rd w es cs:=by
 obtain⟨n,hn⟩:=h;have h1:=(wD fuel t _ hk).2 n _ _ hn;have hc:v.cells= #[v]:=by
  simp only[Value.okWide,hs]at hv
  cases v<;>simp_all [Cell.okWide,Cell.ok,Value.cells]
 rw[hc]at h1;obtain⟨v',vs,hv',hvs,hx⟩:=h1;have U9:v'=v:=by simp at hv';exact hv'.1.symm
 subst U9;exact hx
end
theorem lW {α:Type} {n:Nat} {Q:Nat->α->Prop} (h: ∀i,i<n-> ∃x,Q i x): ∃l:List α,l.length=n/\ ∀i x,l[i]?=some x->Q i x:=by
 induction n with
 |zero=>exact⟨[],rfl,fun i x hx=>by simp at hx⟩
 |succ n ih=>
  obtain⟨l,hl,hq⟩:=ih (fun i hi=>h i (by omega));obtain⟨x,hx⟩:=h n (by omega);refine⟨l++[x],by simp[hl],fun i y hy=>?_⟩
  by_cases hi:i<l.length
  ·rw[List.getElem?_append_left hi]at hy
   exact hq i y hy
  ·rw[List.getElem?_append_right (by omega)]at hy
   have h0:i-l.length=0:=by
    rcases Nat.eq_zero_or_pos (i-l.length)with h0|h0
    ·exact h0
    ·rw[List.getElem?_eq_none (by simp;omega)]at hy;cases hy
   rw[h0]at hy;simp at hy;subst hy;obtain rfl:i=n:=by omega
   exact hx
theorem add_zero' (a:Addr):a.add 0=a:=rfl
end Go.Proofs.Ytmebpglkeedaoaa
namespace Go.Proofs.Ytmebpglkeedaoaa
namespace Dp
structure Arc where
 fr:Int
 «to»:Int
 cap:Int
 cost:Int
 deriving Inhabited,DecidableEq
structure Net where
 sup:List Int
 arcs:List Arc
def inB (x lo hi:Int):Bool:=decide (lo<=x/\x<=hi)
def eP (n:Nat) (a:Arc):Bool:=decide ((0<=a.fr/\a.fr<n)/\(0<=a.to/\a.to<n)/\a.fr≠a.to/\(0<=a.cap/\a.cap<=1048576)/\(-1048576<=a.cost/\a.cost<=1048576))
def jV (x:Int):Bool:=decide (-268435456<=x/\x<=268435456)
def fC (N:Net):Bool:=decide (N.sup.length<1∨1024<N.sup.length∨2048<N.arcs.length)
def sum:List Int->Int
 |[]=>0
 |x::l=>x+sum l
def abs (x:Int):Int:=max x (-x)
def okB (N:Net):Bool:=N.sup.all jV&&(N.arcs.all (eP N.sup.length)&&(decide (sum N.sup=0)&&decide (sum (N.sup.map abs)<=268435456)))
def chE (N:Net):Int:=if fC N=true then 6 else if okB N=true then 0 else 2
theorem sum_append: ∀a b:List Int,sum (a++b)=sum a+sum b
 |[],b=>by simp[sum]
 |x::a,b=>by simp[sum,sum_append a b];omega
theorem jd (l:List Int) (k:Nat) (h:k<l.length):sum (l.take (k+1))=sum (l.take k)+l.getD k 0:=by
 rw[List.take_succ_eq_append_getElem h,sum_append,zg,List.getElem?_eq_getElem h];simp[sum]
theorem wF {B:Int} (hB:0<=B): ∀(l:List Int),(∀x,x∈l-> -B<=x/\x<=B)-> -(B*l.length)<=sum l/\sum l<=B*l.length
 |[],_=>by simp[sum]
 |x::l,h=>by
  have h1:=h x (by simp);have h2:=wF hB l (fun y hy=>h y (by simp[hy]));simp only[sum,List.length_cons];have:B*((l.length+1:Nat):Int)=B*l.length+B:=by rw[Int.natCast_add,Int.mul_add];simp
  omega
theorem lq: ∀(l:List Int),(∀x,x∈l->0<=x)->0<=sum l
 |[],_=>by simp[sum]
 |x::l,h=>by
  have h1:=h x (by simp);have h2:=lq l (fun y hy=>h y (by simp[hy]));simp only[sum];omega
theorem getD_map (f:Int->Int) (l:List Int) (k:Nat) (h:k<l.length):(l.map f).getD k 0=f (l.getD k 0):=by
 simp[zg,h]
end Dp
end Go.Proofs.Ytmebpglkeedaoaa
namespace Go.Proofs.Ytmebpglkeedaoaa
open Go.RowKit Dp
def aH (w:World) (A:Option Addr) (xs:List Int):Prop:=
 ∀i,i<xs.length-> ∃ad,A=some ad/\ad.block<w.heap.size/\w.cell? (ad.add i)=some (.int .i64 (xs.getD i 0))
theorem aH.below {w w1:World} {A:Option Addr} {l:List Int} (h:aH w A l) {B:Nat} (hb:Below B w w1) (hB:w.heap.size<=B):aH w1 A l:=by
 intro i hi;obtain⟨ad,e,hlt,c0⟩:=h i hi;exact⟨ad,e,Nat.lt_of_lt_of_le hlt hb.size,(hb.cell (by rw[block_add];omega)).trans c0⟩
theorem ru {w:World} {v:Value} (h:v=.slice none 0 0∨ ∃a len cap,v=.slice (some a) len cap/\len<=cap/\cap<=maxLen/\
 ∀i,i<len-> ∃cs,cs.length=1/\(∀j u,cs[j]?=some u->w.cell? ((a.add (i*1)).add j)=some u)/\Rd w (.i .i64 .nil) cs):
 ∃(A:Option Addr) (xs:List Int) (cap:Nat),v=.slice A xs.length cap/\xs.length<=cap/\cap<=9223372036854775807/\aH w A xs:=by
 rcases h with rfl|⟨a,len,cap,rfl,hl,hm,hi⟩
 ·exact⟨none,[],0,rfl,Nat.le_refl _,by omega,fun i hi=>by simp at hi⟩
 ·obtain⟨xs,hbl,hbs⟩:=lW (α:=Int) (n:=len) (Q:=fun i x=>w.cell? ((a.add (i*1)).add 0)=some (.int .i64 x)) (fun i hil=>by
   obtain⟨cs,_,hc,n0,_,rfl,_,rfl⟩:=hi i hil;exact⟨n0,hc 0 _ rfl⟩)
  refine⟨some a,xs,cap,by rw[hbl],by omega,by unfold maxLen at hm;omega,fun i hi=>⟨a,rfl,?_⟩⟩;have hg:xs[i]?=some (xs.getD i 0):=by rw[zg,List.getElem?_eq_getElem hi];rfl
  have h0:=hbs i _ hg;rw[add_zero',Nat.mul_one]at h0;have hb:=World.block_lt_of_cell? _ _ h0;rw[block_add]at hb;exact⟨hb,h0⟩
def lX (w:World) (A:Option Addr) (l:List Arc):Prop:=
 ∀i,i<l.length-> ∃ad,A=some ad/\ad.block<w.heap.size/\w.cell? (ad.add (i*4))=some (.int .i64 (l.getD i default).fr)/\w.cell? ⟨(ad.add (i*4)).block,(ad.add (i*4)).off+1,none⟩=some (.int .i64 (l.getD i default).to)/\w.cell? ⟨(ad.add (i*4)).block,(ad.add (i*4)).off+2,none⟩=some (.int .i64 (l.getD i default).cap)/\w.cell? ⟨(ad.add (i*4)).block,(ad.add (i*4)).off+3,none⟩=some (.int .i64 (l.getD i default).cost)
theorem lX.below {w w1:World} {A:Option Addr} {l:List Arc} (h:lX w A l) {B:Nat} (hb:Below B w w1) (hB:w.heap.size<=B):lX w1 A l:=by
 intro i hi;obtain⟨ad,e,hlt,c0,c1,c2,c3⟩:=h i hi;have hbl:(ad.add (i*4)).block<B:=by rw[block_add];omega
 exact⟨ad,e,Nat.lt_of_lt_of_le hlt hb.size,(hb.cell hbl).trans c0,(hb.cell (p:=⟨_,_,none⟩) hbl).trans c1,(hb.cell (p:=⟨_,_,none⟩) hbl).trans c2,(hb.cell (p:=⟨_,_,none⟩) hbl).trans c3⟩
def dm (w:World) (A B:Option Addr) (N:Net):Prop:=aH w A N.sup/\lX w B N.arcs
theorem dm.below {w w1:World} {A B:Option Addr} {N:Net} (h:dm w A B N) {b:Nat} (hb:Below b w w1) (hB:w.heap.size<=b):dm w1 A B N:=⟨h.1.below hb hB,h.2.below hb hB⟩
theorem Il (i:Int) (b:Nat) (A:Option Addr) (n cap:Nat) (w:World) (hc:w.cell? ⟨b,0,none⟩=some (.slice A n cap)):
 Calls Try.prog 61 #[.int .i64 i,.pointer (some ⟨b,0,none⟩)] w fun e w'=>e=.returned (.bool (decide (0<=i/\i<n)))/\w=w':=by
 by_cases h0:0<=i
 ·go_enter Try.func61,Try.ntmps61
  go_wp2
  go_ret;refine⟨bM ?_,rfl⟩;simp[h0]
 ·go_enter Try.func61,Try.ntmps61
  go_wp2
  go_ret;refine⟨bM ?_,rfl⟩;simp;omega
theorem lY (x y:Int) (ts:Array TypeId) (t:TypeId) (w:World):(Builtin.max_ ts t #[.int .i64 x,.int .i64 y]).run Try.prog w=.ok (.int .i64 (max x y)) w:=by
 have h:(Builtin.max_ ts t #[.int .i64 x,.int .i64 y]).run Try.prog w=.ok (.int .i64 (if y>x then y else x)) w:=by simp[Builtin.max_];rfl
 rw[h,<-Mj]
theorem sH (x y:Int) (ts:Array TypeId) (t:TypeId) (w:World):(Builtin.min_ ts t #[.int .i64 x,.int .i64 y]).run Try.prog w=.ok (.int .i64 (min x y)) w:=by
 have h:(Builtin.min_ ts t #[.int .i64 x,.int .i64 y]).run Try.prog w=.ok (.int .i64 (if y<x then y else x)) w:=by simp[Builtin.min_];rfl
 rw[h,<-nS]
theorem kG {α:Type} [Inhabited α] {p:α->Bool} {l:List α}:l.all p=true↔ ∀j,j<l.length->p (l.getD j default)=true:=by
 rw[List.all_eq_true];constructor
 ·intro h j hj
  have:=h l[j] (List.getElem_mem hj);simpa [List.getD,hj]using this
 ·intro h x hx
  obtain⟨i,hi,rfl⟩:=List.getElem_of_mem hx;have:=h i hi;simpa [List.getD,hi]using this
theorem Im {l:List Int} (k:Nat) (h: ∀j,j<k->jV (l.getD j 0)=true) (hk:k<=l.length):(-(268435456*k:Int)<=sum (l.take k)/\sum (l.take k)<=268435456*k)/\(0<=sum ((l.map abs).take k)/\sum ((l.map abs).take k)<=268435456*k):=by
 have hm: ∀x,x∈l.take k-> -268435456<=x/\x<=268435456:=fun x hx=>by
  obtain⟨i,hi,rfl⟩:=List.getElem_of_mem hx;simp only[List.length_take]at hi;have hi1:i<k:=by omega
  have hi2:i<l.length:=by omega
  have:=h i hi1;simpa [jV,List.getD,hi2]using this
 have hl:(l.take k).length=k:=by simp;omega
 have h1:=wF (B:=268435456) (by omega) (l.take k) hm;have h2:=wF (B:=268435456) (by omega) ((l.map abs).take k) (fun x hx=>by
  rw[<-List.map_take]at hx;obtain⟨y,hy,rfl⟩:=List.mem_map.1 hx;have:=hm y hy;unfold abs;omega)
 have h3:=lq ((l.map abs).take k) (fun x hx=>by
  rw[<-List.map_take]at hx;obtain⟨y,hy,rfl⟩:=List.mem_map.1 hx;unfold abs;omega)
 have hl2:((l.map abs).take k).length=k:=by simp;omega
 rw[hl]at h1;rw[hl2]at h2;omega
theorem CJ {N:Net} (hm:fC N=false) (h:okB N=false):chE N=2:=by simp[chE,hm,h]
theorem wG {N:Net} (hm:fC N=false) (k:Nat) (hk:k<N.sup.length) (h:jV (N.sup.getD k 0)=false):chE N=2:=CJ hm (by
 cases hb:okB N
 ·rfl
 ·simp only[okB,Bool.and_eq_true]at hb
  have:=(kG (α:=Int)).1 hb.1 k hk;rw[show(default:Int)=0 from rfl,h]at this
  cases this)
theorem fK {N:Net} (hm:fC N=false) (k:Nat) (hk:k<N.arcs.length) (h:eP N.sup.length (N.arcs.getD k default)=false):chE N=2:=CJ hm (by
 cases hb:okB N
 ·rfl
 ·simp only[okB,Bool.and_eq_true]at hb
  have:=kG.1 hb.2.1 k hk;rw[h]at this
  cases this)
theorem ry {N:Net} (hm:fC N=false) (h: ¬(sum N.sup=0/\sum (N.sup.map abs)<=268435456)):chE N=2:=CJ hm (by
 cases hb:okB N
 ·rfl
 ·simp only[okB,Bool.and_eq_true,decide_eq_true_eq]at hb
  exact absurd hb.2.2 h)
theorem Io {N:Net} (hm:fC N=false) (h1: ∀j,j<N.sup.length->jV (N.sup.getD j 0)=true) (h2: ∀j,j<N.arcs.length->eP N.sup.length (N.arcs.getD j default)=true) (h3:sum N.sup=0) (h4:sum (N.sup.map abs)<=268435456):chE N=0:=by
 have:okB N=true:=by
  simp only[okB,Bool.and_eq_true,decide_eq_true_eq];exact⟨(kG (α:=Int)).2 h1,kG.2 h2,h3,h4⟩
 simp[chE,hm,this]
theorem kH {N:Net} (h:fC N=true):chE N=6:=by simp[chE,h]
theorem rA (A B:Option Addr) (N:Net) (n m cA cB:Nat) (w:World) (hn:n=N.sup.length) (hm:m=N.arcs.length) (hA:n<=cA/\cA<=9223372036854775807) (hB:m<=cB/\cB<=9223372036854775807) (hN:dm w A B N):
 Calls Try.prog 20 #[.agg #[.slice A n cA,.slice B m cB]] w fun e w'=>e=.returned (.int .i64 (chE N))/\Below w.heap.size w w':=by
 have HN:=zh hn;have HM:=zh hm;have HNA:=zh hN;clear hn hm hN
 by_cases q1:n<1
 ·have E:=zh (kH (N:=N) (by simp[fC,<-HN.out,<-HM.out];omega))
  go_enter Try.func20,Try.ntmps20
  go_wp2
  go_ret;exact⟨ah E.symm,(Below.refl _ _).alloc (Nat.le_refl _) _⟩
 by_cases q2:1024<n
 ·have E:=zh (kH (N:=N) (by simp[fC,<-HN.out,<-HM.out];omega))
  go_enter Try.func20,Try.ntmps20
  go_wp2
  go_ret;exact⟨ah E.symm,(Below.refl _ _).alloc (Nat.le_refl _) _⟩
 by_cases q3:2048<m
 ·have E:=zh (kH (N:=N) (by simp[fC,<-HN.out,<-HM.out];omega))
  go_enter Try.func20,Try.ntmps20
  go_wp2
  go_ret;exact⟨ah E.symm,(Below.refl _ _).alloc (Nat.le_refl _) _⟩
 have EM:=zh (show fC N=false from by simp[fC,<-HN.out,<-HM.out];omega);have B1:=zh (Blk.new' w #[.slice A n cA,.slice B m cB] 25);have HB1:=zh ((Below.refl w.heap.size w).alloc (Nat.le_refl _) (.cells #[.slice A n cA,.slice B m cB] 25));go_enter Try.func20,Try.ntmps20;go_wp2_with fail
 generalize w.alloc (.cells #[.slice A n cA,.slice B m cB] 25)=w1 at B1 HB1 ⊢;have N1:=zh (HNA.below HB1.out (Nat.le_refl _));have cA0:=B1.cell 0 rfl;have cB0:=B1.cell 1 rfl;have bA0:=B1.lt
 go_loop [3,4,6,29] (fun s a _ i=> ∃k:Nat,k<=n/\i=.int .i64 k/\s=.int .i64 (sum (N.sup.take k))/\a=.int .i64 (sum ((N.sup.map abs).take k))/\Hid (∀j,j<k->jV (N.sup.getD j 0)=true)) (fun _ _ _ i=>n-(intOf i).toNat)
 case atStart=>exact⟨0,Nat.zero_le _,rfl,rfl,rfl,zh (fun j hj=>absurd hj (Nat.not_lt_zero _))⟩
 case round=>
  obtain⟨k,hk,rfl,rfl,rfl,HK⟩:=hrel;have bd:=Im k HK.out (by rw[<-HN.out];exact hk)
  by_cases hlt:k<n
  ·obtain⟨ad,rfl,_,hcell⟩:=N1.1 k (by rw[<-HN.out];exact hlt)
   have HS:=zh (And.intro (jd N.sup k (by rw[<-HN.out];exact hlt)) (And.intro (jd (N.sup.map abs) k (by rw[List.length_map,<-HN.out];exact hlt)) (getD_map abs N.sup k (by rw[<-HN.out];exact hlt))));generalize sum (N.sup.take k)=S at *;generalize sum ((N.sup.map abs).take k)=T at *;generalize hx:N.sup.getD k 0=x at hcell;have HX:=zh hx;clear hx
   by_cases h1:x< -268435456
   ·have E:=zh (wG EM.out k (by rw[<-HN.out];exact hlt) (by rw[HX.out];simp[jV];omega))
    go_wp2
    go_ret;exact⟨ah E.symm,HB1.out⟩
   ·by_cases h2:268435456<x
    ·have E:=zh (wG EM.out k (by rw[<-HN.out];exact hlt) (by rw[HX.out];simp[jV];omega))
     go_wp2
     go_ret;exact⟨ah E.symm,HB1.out⟩
    ·have hx1:=fun ts t W=>lY x (-x) ts t W
     have hmx:x<=268435456/\ -268435456<=x/\0<=max x (-x)/\max x (-x)<=268435456:=by omega
     have HMX:=zh (show max x (-x)=abs x from rfl);generalize max x (-x)=y at *
     go_wp2
     go_round
     case rel=>
      refine⟨k+1,by omega,by go_num,?_,?_,zh (fun j hj=>?_)⟩
      ·rw[HS.1,HX.out]
      ·rw[HS.2.1,HS.2.2,HX.out,<-HMX.out]
      ·by_cases hjk:j<k
       ·exact HK.out j hjk
       ·obtain rfl:j=k:=by omega
        rw[HX.out];simp[jV];omega
     case measure=>simp[intOf];omega
  ·obtain rfl:k=n:=by omega
   have HS:=zh (And.intro (show N.sup.take k=N.sup from by rw[HN.out];simp) (show(N.sup.map abs).take k=N.sup.map abs from List.take_of_length_le (by rw[List.length_map,<-HN.out];exact Nat.le_refl _)));go_wp2_with fail
   rw[HS.1,HS.2];rw[HS.1,HS.2]at bd
   go_loopw [9,53] (fun _ i wr=> ∃j:Nat,j<=m/\i=.int .i64 j/\Hid (Below w1.heap.size w1 wr/\ ∀x,x<j->eP N.sup.length (N.arcs.getD x default)=true)) (fun _ i _=>m-(intOf i).toNat)
   case atStart=>exact⟨0,Nat.zero_le _,rfl,zh ⟨Below.refl _ _,fun j hj=>absurd hj (Nat.not_lt_zero _)⟩⟩
   case round=>
    obtain⟨j,hj,rfl,HJ⟩:=hrel
    by_cases hlt2:j<m
    ·obtain⟨ad,rfl,hbl,d0,d1,d2,d3⟩:=(N1.2.below HJ.1 (Nat.le_refl _)) j (by rw[<-HM.out];exact hlt2)
     have HBR:=zh (HB1.trans (HJ.1.mono HB1.size));have Qq:(ad.add (j*4)).block<wr.heap.size:=by rw[block_add];exact hbl
     have C0:=zh ((HJ.1.cell (p:=⟨w.heap.size,0,none⟩) B1.lt).trans cA0);generalize ha:N.arcs.getD j default=ar at *;obtain⟨fr,«to»,ca,co⟩:=ar;have HAR:=zh ha;clear ha;simp only at d0 d1 d2 d3;go_wp2_with fail
     have HBX:=zh (HBR.alloc HBR.size (.cells #[.int .i64 fr,.int .i64 «to»,.int .i64 ca,.int .i64 co] 46));have HJX:=zh (HJ.1.alloc HJ.1.size (.cells #[.int .i64 fr,.int .i64 «to»,.int .i64 ca,.int .i64 co] 46));have BX:=Blk.new' wr #[.int .i64 fr,.int .i64 «to»,.int .i64 ca,.int .i64 co] 46;have hcc:=(HJX.cell (p:=⟨w.heap.size,0,none⟩) B1.lt).trans cA0;generalize wr.alloc (.cells #[.int .i64 fr,.int .i64 «to»,.int .i64 ca,.int .i64 co] 46)=wx at HBX HJX BX hcc ⊢;have e0:=BX.cell 0 rfl;have e1:=BX.cell 1 rfl;have e2:=BX.cell 2 rfl;have e3:=BX.cell 3 rfl;clear d0 d1 d2 d3 BX;have NC:=Il fr _ A k cA _ hcc
     by_cases f1:0<=fr/\fr<k
     ·rw[decide_eq_true f1]at NC
      refine NC.mono ?_;rintro e w2 ⟨rfl,rfl⟩;go_wp2_with fail
      have NC:=Il «to» _ A k cA _ hcc
      by_cases f2:0<=«to»/\«to»<k
      ·rw[decide_eq_true f2]at NC
       refine NC.mono ?_;rintro e w2 ⟨rfl,rfl⟩
       by_cases f3:fr=«to»
       ·have E:=zh (fK EM.out j (by rw[<-HM.out];exact hlt2) (by rw[HAR.out,<-HN.out];simp[eP];omega))
        go_wp2
        go_ret;exact⟨ah E.symm,HBX.out⟩
       by_cases f4:ca<0
       ·have E:=zh (fK EM.out j (by rw[<-HM.out];exact hlt2) (by rw[HAR.out,<-HN.out];simp[eP];omega))
        go_wp2
        go_ret;exact⟨ah E.symm,HBX.out⟩
       by_cases f5:1048576<ca
       ·have E:=zh (fK EM.out j (by rw[<-HM.out];exact hlt2) (by rw[HAR.out,<-HN.out];simp[eP];omega))
        go_wp2
        go_ret;exact⟨ah E.symm,HBX.out⟩
       by_cases f6:co< -1048576
       ·have E:=zh (fK EM.out j (by rw[<-HM.out];exact hlt2) (by rw[HAR.out,<-HN.out];simp[eP];omega))
        go_wp2
        go_ret;exact⟨ah E.symm,HBX.out⟩
       by_cases f7:1048576<co
       ·have E:=zh (fK EM.out j (by rw[<-HM.out];exact hlt2) (by rw[HAR.out,<-HN.out];simp[eP];omega))
        go_wp2
        go_ret;exact⟨ah E.symm,HBX.out⟩
       have f3':(fr==«to»)=false:=by simpa using f3
       have F3:=zh f3;clear f3
       go_wp2
       go_roundw
       case rel=>
        refine⟨j+1,by omega,by go_num,zh ⟨HJX.out,fun x hx=>?_⟩⟩
        by_cases hjk:x<j
        ·exact HJ.2 x hjk
        ·obtain rfl:x=j:=by omega
         have f3:=F3.out;rw[HAR.out,<-HN.out];simp[eP];omega
       case measure=>simp[intOf];omega
      ·rw[decide_eq_false f2]at NC
       refine NC.mono ?_;rintro e w2 ⟨rfl,rfl⟩;have E:=zh (fK EM.out j (by rw[<-HM.out];exact hlt2) (by rw[HAR.out,<-HN.out];simp[eP];omega))
       go_wp2
       go_ret;exact⟨ah E.symm,HBX.out⟩
     ·rw[decide_eq_false f1]at NC
      refine NC.mono ?_;rintro e w2 ⟨rfl,rfl⟩;have E:=zh (fK EM.out j (by rw[<-HM.out];exact hlt2) (by rw[HAR.out,<-HN.out];simp[eP];omega))
      go_wp2
      go_ret;exact⟨ah E.symm,HBX.out⟩
    ·obtain rfl:j=m:=by omega
     have HBR:=zh (HB1.trans (HJ.1.mono HB1.size))
     by_cases g1:sum N.sup=0
     ·by_cases g2:268435456<sum (N.sup.map abs)
      ·have E:=zh (ry EM.out (by omega))
       generalize sum N.sup=S at *;generalize sum (N.sup.map abs)=T at *
       go_wp2
       go_ret;exact⟨ah E.symm,HBR.out⟩
      ·have E:=zh (Io EM.out (fun x hx=>HK.out x (by rw[HN.out];exact hx)) (fun x hx=>HJ.2 x (by rw[HM.out];exact hx)) g1 (by omega))
       generalize sum N.sup=S at *;generalize sum (N.sup.map abs)=T at *
       go_wp2
       go_ret;exact⟨ah E.symm,HBR.out⟩
     ·have E:=zh (ry EM.out (by omega))
      generalize sum N.sup=S at *;generalize sum (N.sup.map abs)=T at *
      go_wp2
      go_ret;exact⟨ah E.symm,HBR.out⟩
@[simp,go_sem] theorem bN.cellAdd {W:World} (x:bN W) (a:Addr) (n:Nat) (h:(a.add n).block<W.heap.size):x.w.cell? (a.add n)=W.cell? (a.add n):=x.far.cell h
theorem bR (x lo hi:Int) (w:World):
 Calls Try.prog 60 #[.int .i64 x,.int .i64 lo,.int .i64 hi] w fun e w'=>e=.returned (.bool (inB x lo hi))/\w=w':=by
 by_cases h0:lo<=x
 ·go_enter Try.func60,Try.ntmps60
  go_wp2
  go_ret;refine⟨bM ?_,rfl⟩;simp[h0,inB]
 ·go_enter Try.func60,Try.ntmps60
  go_wp2
  go_ret;refine⟨bM ?_,rfl⟩;simp[inB];omega
theorem lZ (A B:Option Addr) (N:Net) (n m cA cB:Nat) (w:World) (hn:n=N.sup.length) (hm:m=N.arcs.length) (hA:n<=cA/\cA<=9223372036854775807) (hB:m<=cB/\cB<=9223372036854775807) (hN:dm w A B N):
 Calls Try.prog 21 #[.agg #[.slice A n cA,.slice B m cB]] w fun e w'=>e=.returned (.int .i64 (chE N))/\Below w.heap.size w w':=by
 have HN:=zh hn;have HM:=zh hm;have HNA:=zh hN;clear hn hm hN
 by_cases q1:n<1
 ·have E:=zh (kH (N:=N) (by simp[fC,<-HN.out,<-HM.out];omega))
  go_enter Try.func21,Try.ntmps21
  go_wp2
  go_ret;exact⟨ah E.symm,(Below.refl _ _).alloc (Nat.le_refl _) _⟩
 by_cases q2:1024<n
 ·have E:=zh (kH (N:=N) (by simp[fC,<-HN.out,<-HM.out];omega))
  go_enter Try.func21,Try.ntmps21
  go_wp2
  go_ret;exact⟨ah E.symm,(Below.refl _ _).alloc (Nat.le_refl _) _⟩
 by_cases q3:2048<m
 ·have E:=zh (kH (N:=N) (by simp[fC,<-HN.out,<-HM.out];omega))
  go_enter Try.func21,Try.ntmps21
  go_wp2
  go_ret;exact⟨ah E.symm,(Below.refl _ _).alloc (Nat.le_refl _) _⟩
 have EM:=zh (show fC N=false from by simp[fC,<-HN.out,<-HM.out];omega);have B1:=zh (Blk.new' w #[.slice A n cA,.slice B m cB] 25);have HB1:=zh ((Below.refl w.heap.size w).alloc (Nat.le_refl _) (.cells #[.slice A n cA,.slice B m cB] 25));go_enter Try.func21,Try.ntmps21;go_wp2_with fail
 generalize w.alloc (.cells #[.slice A n cA,.slice B m cB] 25)=w1 at B1 HB1 ⊢;have N1:=zh (HNA.below HB1.out (Nat.le_refl _));have bA0:=B1.lt
 go_loopw [3,4,5] (fun s a i wr=> ∃k:Nat,k<=n/\i=.int .i64 k/\s=.int .i64 (sum (N.sup.take k))/\a=.int .i64 (sum ((N.sup.map abs).take k))/\Hid (Below w1.heap.size w1 wr/\ ∀j,j<k->jV (N.sup.getD j 0)=true)) (fun _ _ i _=>n-(intOf i).toNat)
 case atStart=>exact⟨0,Nat.zero_le _,rfl,rfl,rfl,zh ⟨Below.refl _ _,fun j hj=>absurd hj (Nat.not_lt_zero _)⟩⟩
 case round=>
  obtain⟨k,hk,rfl,rfl,rfl,HK⟩:=hrel;have bd:=Im k HK.2 (by rw[<-HN.out];exact hk);have HBR:=zh (HB1.trans (HK.1.mono HB1.size));have cA0:=(HK.1.cell (p:=⟨w.heap.size,0,none⟩) B1.lt).trans (B1.cell 0 rfl);have cB0:=(HK.1.cell (p:=⟨w.heap.size,1,none⟩) B1.lt).trans (B1.cell 1 rfl);have bA1:w.heap.size<wr.heap.size:=Nat.lt_of_lt_of_le bA0 HK.1.size
  by_cases hlt:k<n
  ·obtain⟨ad,rfl,hbl,hcell⟩:=(N1.1.below HK.1 (Nat.le_refl _)) k (by rw[<-HN.out];exact hlt)
   have Qq:(ad.add k).block<wr.heap.size:=by rw[block_add];exact hbl
   have HS:=zh (And.intro (jd N.sup k (by rw[<-HN.out];exact hlt)) (And.intro (jd (N.sup.map abs) k (by rw[List.length_map,<-HN.out];exact hlt)) (getD_map abs N.sup k (by rw[<-HN.out];exact hlt))));generalize sum (N.sup.take k)=S at *;generalize sum ((N.sup.map abs).take k)=T at *;generalize hx:N.sup.getD k 0=x at hcell;have HX:=zh hx;clear hx;have WC:=bR x (-268435456) 268435456 wr
   by_cases h1: -268435456<=x/\x<=268435456
   ·have e1:inB x (-268435456) 268435456=true:=by simp[inB,h1]
    rw[e1]at WC;go_wp2_with fail
    refine WC.mono ?_;rintro e w2 ⟨rfl,rfl⟩;have hx1:=fun ts t W=>lY x (-x) ts t W
    have hmx:0<=max x (-x)/\max x (-x)<=268435456:=by omega
    have HMX:=zh (show max x (-x)=abs x from rfl);generalize max x (-x)=y at *;have k0:(0:Int)<=(k:Int):=by omega
    have kx:(k:Int)<(n:Int):=by omega
    go_wp2_with fail
    refine wrp ?_
    repeat(go_big_quiet_step (fail))
    refine wpQuiet_nil ?_;intro xx;have HXX:=zh xx.far;generalize xx.w=w4 at HXX ⊢
    go_wp2
    go_roundw
    case rel=>
     refine⟨k+1,by omega,by go_num,?_,?_,zh ⟨HK.1.trans (HXX.mono HK.1.size),fun j hj=>?_⟩⟩
     ·rw[HS.1,HX.out]
     ·rw[HS.2.1,HS.2.2,HX.out,<-HMX.out]
     ·by_cases hjk:j<k
      ·exact HK.2 j hjk
      ·obtain rfl:j=k:=by omega
       rw[HX.out];simp[jV];omega
    case measure=>simp[intOf];omega
   ·have e1:inB x (-268435456) 268435456=false:=by simp[inB];omega
    rw[e1]at WC;have E:=zh (wG EM.out k (by rw[<-HN.out];exact hlt) (by rw[HX.out];simp[jV];omega));go_wp2_with fail
    refine WC.mono ?_;rintro e w2 ⟨rfl,rfl⟩
    go_wp2
    go_ret;exact⟨ah E.symm,HBR.out⟩
  ·obtain rfl:k=n:=by omega
   have HS:=zh (And.intro (show N.sup.take k=N.sup from by rw[HN.out];simp) (show(N.sup.map abs).take k=N.sup.map abs from List.take_of_length_le (by rw[List.length_map,<-HN.out];exact Nat.le_refl _)));rw[HS.1,HS.2];rw[HS.1,HS.2]at bd
   by_cases g1:sum N.sup=0
   ·by_cases g2:268435456<sum (N.sup.map abs)
    ·have E:=zh (ry EM.out (by omega))
     generalize sum N.sup=S at *;generalize sum (N.sup.map abs)=T at *
     go_wp2
     go_ret;exact⟨ah E.symm,HBR.out⟩
    ·have EOK:=zh (fun hh:(∀x,x<m->eP N.sup.length (N.arcs.getD x default)=true)=>Io EM.out (fun x hx=>HK.2 x (by rw[HN.out];exact hx)) (fun x hx=>hh x (by rw[HM.out];exact hx)) g1 (by omega))
     have HW:=zh HK.1;have N2:=zh (N1.2.below HK.1 (Nat.le_refl _));have hsb:Hid (sum N.sup=0):=zh g1;clear HK;generalize sum N.sup=S at *;generalize sum (N.sup.map abs)=T at *;subst g1;generalize hwr:wr=w5 at *;clear hwr;go_wp2_with fail
     go_loopw [6,7] (fun i _ wr=> ∃j:Nat,j<=m/\i=.int .i64 j/\Hid (Below w5.heap.size w5 wr/\ ∀x,x<j->eP N.sup.length (N.arcs.getD x default)=true)) (fun i _ _=>m-(intOf i).toNat)
     case atStart=>exact⟨0,Nat.zero_le _,rfl,zh ⟨Below.refl _ _,fun j hj=>absurd hj (Nat.not_lt_zero _)⟩⟩
     case round=>
      obtain⟨j,hj,rfl,HJ⟩:=hrel;have hcA:=(HJ.1.cell (p:=⟨w.heap.size,0,none⟩) bA1).trans cA0;have hcB:=(HJ.1.cell (p:=⟨w.heap.size,1,none⟩) bA1).trans cB0;have HBJ:=zh (HBR.trans (HJ.1.mono HBR.size));clear cA0 cB0
      by_cases hlt2:j<m
      ·obtain⟨ad,rfl,hbl,d0,d1,d2,d3⟩:=(N2.below HJ.1 (Nat.le_refl _)) j (by rw[<-HM.out];exact hlt2)
       have Qq:(ad.add (j*4)).block<wr.heap.size:=by rw[block_add];exact hbl
       generalize ha:N.arcs.getD j default=ar at *;obtain⟨fr,«to»,ca,co⟩:=ar;have HAR:=zh ha;clear ha;simp only at d0 d1 d2 d3;have HBX:=zh (HBJ.alloc HBJ.size (.cells #[.int .i64 fr,.int .i64 «to»,.int .i64 ca,.int .i64 co] 46));have HJX:=zh (HJ.1.alloc HJ.1.size (.cells #[.int .i64 fr,.int .i64 «to»,.int .i64 ca,.int .i64 co] 46));have BX:=Blk.new' wr #[.int .i64 fr,.int .i64 «to»,.int .i64 ca,.int .i64 co] 46;have fcA:=(HJX.cell (p:=⟨w.heap.size,0,none⟩) bA1).trans ((HJ.1.cell (p:=⟨w.heap.size,0,none⟩) bA1).symm.trans hcA);have e0:=BX.cell 0 rfl;have e1:=BX.cell 1 rfl;have e2:=BX.cell 2 rfl;have e3:=BX.cell 3 rfl
       by_cases f1:fr<0
       ·have E:=zh (fK EM.out j (by rw[<-HM.out];exact hlt2) (by rw[HAR.out,<-HN.out];simp[eP];omega))
        go_wp2
        go_ret;exact⟨ah E.symm,HBX.out⟩
       by_cases f2:(k:Int)<=fr
       ·have E:=zh (fK EM.out j (by rw[<-HM.out];exact hlt2) (by rw[HAR.out,<-HN.out];simp[eP];omega))
        go_wp2
        go_ret;exact⟨ah E.symm,HBX.out⟩
       by_cases f3:«to»<0
       ·have E:=zh (fK EM.out j (by rw[<-HM.out];exact hlt2) (by rw[HAR.out,<-HN.out];simp[eP];omega))
        go_wp2
        go_ret;exact⟨ah E.symm,HBX.out⟩
       by_cases f4:(k:Int)<=«to»
       ·have E:=zh (fK EM.out j (by rw[<-HM.out];exact hlt2) (by rw[HAR.out,<-HN.out];simp[eP];omega))
        go_wp2
        go_ret;exact⟨ah E.symm,HBX.out⟩
       by_cases f5:fr=«to»
       ·have E:=zh (fK EM.out j (by rw[<-HM.out];exact hlt2) (by rw[HAR.out,<-HN.out];simp[eP];omega))
        subst f5
        go_wp2
        go_ret;exact⟨ah E.symm,HBX.out⟩
       have f5':(fr==«to»)=false:=by simpa using f5
       have F5:=zh f5;clear f5;have W1:=fun W=>bR ca 0 1048576 W
       have W2:=fun W=>bR co (-1048576) 1048576 W
       by_cases f6:0<=ca/\ca<=1048576
       ·rw[show inB ca 0 1048576=true from by simp[inB,f6]]at W1
        go_wp2_with fail
        refine(W1 _).mono ?_;rintro e w2 ⟨rfl,rfl⟩
        by_cases f7: -1048576<=co/\co<=1048576
        ·rw[show inB co (-1048576) 1048576=true from by simp[inB,f7]]at W2
         go_wp2_with fail
         refine(W2 _).mono ?_;rintro e w2 ⟨rfl,rfl⟩
         go_wp2
         go_roundw
         case rel=>
          refine⟨j+1,by omega,by go_num,zh ⟨HJX.out,fun x hx=>?_⟩⟩
          by_cases hjk:x<j
          ·exact HJ.2 x hjk
          ·obtain rfl:x=j:=by omega
           have f5:=F5.out;rw[HAR.out,<-HN.out];simp[eP];omega
         case measure=>simp[intOf];omega
        ·rw[show inB co (-1048576) 1048576=false from by simp[inB];omega]at W2
         have E:=zh (fK EM.out j (by rw[<-HM.out];exact hlt2) (by rw[HAR.out,<-HN.out];simp[eP];omega));go_wp2_with fail
         refine(W2 _).mono ?_;rintro e w2 ⟨rfl,rfl⟩
         go_wp2
         go_ret;exact⟨ah E.symm,HBX.out⟩
       ·rw[show inB ca 0 1048576=false from by simp[inB];omega]at W1
        have E:=zh (fK EM.out j (by rw[<-HM.out];exact hlt2) (by rw[HAR.out,<-HN.out];simp[eP];omega));go_wp2_with fail
        refine(W1 _).mono ?_;rintro e w2 ⟨rfl,rfl⟩
        go_wp2
        go_ret;exact⟨ah E.symm,HBX.out⟩
      ·obtain rfl:j=m:=by omega
       have E:=zh (EOK.out HJ.2)
       go_wp2
       go_ret;exact⟨ah E.symm,HBJ.out⟩
   ·have E:=zh (ry EM.out (by omega))
    generalize sum N.sup=S at *;generalize sum (N.sup.map abs)=T at *
    go_wp2
    go_ret;exact⟨ah E.symm,HBR.out⟩
end Go.Proofs.Ytmebpglkeedaoaa
namespace Go.Proofs.Ytmebpglkeedaoaa
namespace Dp
def mv (l:List Int) (i:Int) (d:Int):List Int:=l.set i.toNat (l.getD i.toNat 0+d)
def gU (N:Net) (fl:List Int):Nat->List Int
 |0=>N.sup
 |k+1=>mv (mv (gU N fl k) (N.arcs.getD k default).fr (-(fl.getD k 0))) (N.arcs.getD k default).to (fl.getD k 0)
def aV (N:Net) (fl:List Int):Nat->Int
 |0=>0
 |k+1=>aV N fl k+fl.getD k 0*(N.arcs.getD k default).cost
def Gv (N:Net) (fl:List Int):Bool:=(List.range N.arcs.length).all fun k=>decide (0<=fl.getD k 0/\fl.getD k 0<=(N.arcs.getD k default).cap)
def Ip (l:List Int):Bool:=l.all fun x=>decide (x=0)
def ak (N:Net) (fl:List Int):Bool:=decide (fl.length=N.arcs.length)&&(Gv N fl&&Ip (gU N fl N.arcs.length))
def coE (N:Net) (fl:List Int):Int:=if chE N=0 then (if fl.length=N.arcs.length then (if ak N fl=true then 0 else 19)else 20)else chE N
def coV (N:Net) (fl:List Int):Int:=if chE N=0/\ak N fl=true then aV N fl N.arcs.length else 0
theorem gD (l:List Int) (i d:Int):(mv l i d).length=l.length:=by simp[mv]
theorem dW (N:Net) (fl:List Int): ∀k,(gU N fl k).length=N.sup.length
 |0=>rfl
 |k+1=>by simp[gU,gD,dW N fl k]
theorem dw (l:List Int) (i j:Nat) (v:Int) (h:i<l.length):(l.set i v).getD j 0=if j=i then v else l.getD j 0:=by
 simp only[zg,List.getElem?_set]
 by_cases hj:i=j
 ·subst hj;simp[h]
 ·rw[if_neg hj,if_neg (fun e=>hj e.symm)]
theorem Iq {l:List Int} {i d B D:Int} (hD: -D<=d/\d<=D) (hi:0<=i/\i<l.length) (h: ∀j,j<l.length-> -B<=l.getD j 0/\l.getD j 0<=B): ∀j,j<(mv l i d).length-> -(B+D)<=(mv l i d).getD j 0/\(mv l i d).getD j 0<=B+D:=by
 intro j hj;rw[gD]at hj;have hi':i.toNat<l.length:=by omega
 have h1:=h j hj;have h2:=h i.toNat hi';unfold mv;rw[dw _ _ _ _ hi']
 split<;>omega
theorem kI {N:Net} (h:chE N=0):fC N=false/\okB N=true:=by
 unfold chE at h
 split at h
 ·omega
 ·split at h
  ·rename_i h1 h2
   exact⟨by simpa using h1,h2⟩
  ·omega
theorem Gw {p:Arc->Bool} {l:List Arc} (h:l.all p=true) (j:Nat) (hj:j<l.length):p (l.getD j default)=true:=by
 rw[List.all_eq_true]at h;have:=h l[j] (List.getElem_mem hj);simpa [List.getD,hj]using this
theorem bV {N:Net} (h:chE N=0):1<=N.sup.length/\N.sup.length<=1024/\N.arcs.length<=2048:=by
 have:=(kI h).1;simp[fC]at this
 cases hs:N.sup with
 |nil=>simp[hs]at this
 |cons a l=>rw[hs]at this;simp at this ⊢;omega
theorem jW {N:Net} (h:chE N=0) (j:Nat) (hj:j<N.sup.length): -268435456<=N.sup.getD j 0/\N.sup.getD j 0<=268435456:=by
 have h2:=(kI h).2;simp only[okB,Bool.and_eq_true]at h2;have h3:=h2.1;rw[List.all_eq_true]at h3;have:=h3 N.sup[j] (List.getElem_mem hj);simpa [jV,List.getD,hj]using this
theorem bX {N:Net} (h:chE N=0) (j:Nat) (hj:j<N.arcs.length):(0<=(N.arcs.getD j default).fr/\(N.arcs.getD j default).fr<N.sup.length)/\(0<=(N.arcs.getD j default).to/\(N.arcs.getD j default).to<N.sup.length)/\(N.arcs.getD j default).fr≠(N.arcs.getD j default).to/\(0<=(N.arcs.getD j default).cap/\(N.arcs.getD j default).cap<=1048576)/\(-1048576<=(N.arcs.getD j default).cost/\(N.arcs.getD j default).cost<=1048576):=by
 have h2:=(kI h).2;simp only[okB,Bool.and_eq_true]at h2;simpa [eP]using Gw h2.2.1 j hj
theorem A7 {N:Net} {fl:List Int} (h:chE N=0): ∀k:Nat,k<=N.arcs.length->(∀j,j<k->0<=fl.getD j 0/\fl.getD j 0<=(N.arcs.getD j default).cap)->
 ∀j,j<N.sup.length-> -(268435456+2097152*k:Int)<=(gU N fl k).getD j 0/\(gU N fl k).getD j 0<=268435456+2097152*k
 |0,_,_,j,hj=>by simpa [gU]using jW h j hj
 |k+1,hk,hf,j,hj=>by
  have ih:=A7 h k (by omega) (fun j hj=>hf j (by omega));have hl:=dW N fl k;obtain⟨a1,a2,a3,a4,a5⟩:=bX h k (by omega);have f1:=hf k (by omega);have s1:=Iq (l:=gU N fl k) (i:=(N.arcs.getD k default).fr) (d:= -(fl.getD k 0)) (D:=1048576) (by omega) (by rw[hl];exact a1) (fun j hj=>ih j (by rw[<-hl];exact hj));have s2:=Iq (i:=(N.arcs.getD k default).to) (d:=fl.getD k 0) (D:=1048576) (by omega) (by rw[gD,hl];exact a2) s1 j (by rw[gD,gD,hl];exact hj);simp only[gU];rw[Int.natCast_add];omega
theorem nZ {N:Net} {fl:List Int} (h:chE N=0): ∀k:Nat,k<=N.arcs.length->(∀j,j<k->0<=fl.getD j 0/\fl.getD j 0<=(N.arcs.getD j default).cap)->
 -(1099511627776*k:Int)<=aV N fl k/\aV N fl k<=1099511627776*k
 |0,_,_=>by simp[aV]
 |k+1,hk,hf=>by
  have ih:=nZ h k (by omega) (fun j hj=>hf j (by omega));obtain⟨a1,a2,a3,a4,a5⟩:=bX h k (by omega);have f1:=hf k (by omega);have p1:fl.getD k 0*(N.arcs.getD k default).cost<=1048576*1048576:=by
   refine Int.le_trans (Int.mul_le_mul_of_nonneg_left a5.2 f1.1) ?_;exact Int.mul_le_mul_of_nonneg_right (by omega) (by omega)
  have p2: -(1048576*1048576)<=fl.getD k 0*(N.arcs.getD k default).cost:=by
   have:=Int.mul_le_mul_of_nonneg_left a5.1 f1.1;have:=Int.mul_le_mul_of_nonneg_right (show fl.getD k 0<=1048576 by omega) (show(0:Int)<=1048576 by omega);omega
  simp only[aV];rw[Int.natCast_add];omega
theorem sI {N:Net} {fl:List Int}:Gv N fl=true↔ ∀k,k<N.arcs.length->0<=fl.getD k 0/\fl.getD k 0<=(N.arcs.getD k default).cap:=by
 simp only[Gv,List.all_eq_true,List.mem_range,decide_eq_true_eq]
theorem o6 {l:List Int}:Ip l=true↔ ∀j,j<l.length->l.getD j 0=0:=by
 simp only[Ip,List.all_eq_true,decide_eq_true_eq];constructor
 ·intro h j hj
  have:=h l[j] (List.getElem_mem hj);simpa [List.getD,hj]using this
 ·intro h x hx
  obtain⟨i,hi,rfl⟩:=List.getElem_of_mem hx;simpa [List.getD,hi]using h i hi
theorem RF {N:Net} {fl:List Int} (h:chE N≠0):coE N fl=chE N/\coV N fl=0:=by simp[coE,coV,h]
theorem Qr {N:Net} {fl:List Int} (h:chE N=0) (hl:fl.length≠N.arcs.length):coE N fl=20/\coV N fl=0:=by simp[coE,coV,h,hl,ak]
theorem Ir {N:Net} {fl:List Int} (h:chE N=0) (hl:fl.length=N.arcs.length) (hf:ak N fl=false):coE N fl=19/\coV N fl=0:=by simp[coE,coV,h,hl,hf]
theorem Qs {N:Net} {fl:List Int} (h:chE N=0) (hl:fl.length=N.arcs.length) (hf:ak N fl=true):coE N fl=0/\coV N fl=aV N fl N.arcs.length:=by simp[coE,coV,h,hl,hf]
theorem CP {N:Net} {fl:List Int} (k:Nat) (hk:k<N.arcs.length) (h: ¬(0<=fl.getD k 0/\fl.getD k 0<=(N.arcs.getD k default).cap)):ak N fl=false:=by
 cases hb:ak N fl
 ·rfl
 ·simp only[ak,Bool.and_eq_true]at hb
  exact absurd (sI.1 hb.2.1 k hk) h
theorem A8 {N:Net} {fl:List Int} (j:Nat) (hj:j<N.sup.length) (h:(gU N fl N.arcs.length).getD j 0≠0):ak N fl=false:=by
 cases hb:ak N fl
 ·rfl
 ·simp only[ak,Bool.and_eq_true]at hb
  exact absurd (o6.1 hb.2.2 j (by rw[dW];exact hj)) h
theorem CQ {N:Net} {fl:List Int} (hl:fl.length≠N.arcs.length):ak N fl=false:=by simp[ak,hl]
theorem nK {N:Net} {fl:List Int} (hl:fl.length=N.arcs.length) (h1: ∀k,k<N.arcs.length->0<=fl.getD k 0/\fl.getD k 0<=(N.arcs.getD k default).cap) (h2: ∀j,j<N.sup.length->(gU N fl N.arcs.length).getD j 0=0):ak N fl=true:=by
 simp only[ak,Bool.and_eq_true,decide_eq_true_eq];exact⟨hl,sI.2 h1,o6.2 (fun j hj=>h2 j (by rw[dW]at hj;exact hj))⟩
end Dp
end Go.Proofs.Ytmebpglkeedaoaa
namespace Go.Proofs.Ytmebpglkeedaoaa
open Go.RowKit Dp
theorem pU:(Try.prog.info? 2).map (fun i=>(i.zero,i.size,i.bytes))=some (some (.int .i64 0),1,8):=by kernel_rfl
theorem info_parts {P:Program} {t:TypeId} {z:Option Value} {a b:Nat} (h:(P.info? t).map (fun i=>(i.zero,i.size,i.bytes))=some (z,a,b)): ∃i,P.info? t=some i/\i.zero=z/\i.size=a/\i.bytes=b:=by
 cases hi:P.info? t with
 |none=>rw[hi]at h;cases h
 |some i=>
  rw[hi]at h;simp only[Option.map_some,Option.some.injEq,Prod.mk.injEq]at h;exact⟨i,rfl,h.1,h.2.1,h.2.2⟩
def dI (B:Nat) (W:World) (g c:Nat) (xs:List Int):Prop:=W.ownsRow B 2 1 (.slice (some ⟨g,0,none⟩) xs.length c) xs.length (xs.map (Value.int .i64))
theorem rC (A:Option Addr) (xs:List Int) (n cap:Nat) (w:World) (hn:n=xs.length) (h1:1<=n) (h2:n<=4096) (hA:aH w A xs):
 Calls Try.prog 57 #[.slice A n cap] w fun e w'=> ∃g c,e=.returned (.slice (some ⟨g,0,none⟩) n c)/\Below w.heap.size w w'/\w.heap.size<=g/\g<w'.heap.size/\dI w.heap.size w' g c xs:=by
 obtain⟨ad,rfl,hbl,hc0⟩:=hA 0 (by omega);have HA:=zh hA;have HN:=zh hn;have hsrc:kC (w.alloc (.cells #[] 2)) (some ad) n (xs.map (Value.int .i64)):=.inr ⟨ad,rfl,fun j u hu=>by
  have hj:j<xs.length:=by
   rcases Nat.lt_or_ge j xs.length with h|h
   ·exact h
   ·rw[List.getElem?_eq_none (by simpa using h)]at hu;cases hu
  obtain⟨ad',e,hb,hc⟩:=HA.out j hj
  cases e
  have hu':u=.int .i64 (xs.getD j 0):=by
   rw[List.getElem?_map,List.getElem?_eq_getElem hj]at hu;simp only[Option.map_some,Option.some.injEq]at hu;rw[<-hu,zg,List.getElem?_eq_getElem hj];rfl
  rw[hu'];exact(((Below.refl w.heap.size w).alloc (Nat.le_refl _) (.cells #[] 2)).cell (by rw[block_add];exact hb)).trans hc⟩
 have HS:=zh hsrc;clear hsrc hA hn hc0;obtain⟨i0,hi,hz0,hz1,hz2⟩:=info_parts pU;have qT: ∀w:World,(binOp .eql 22 (.slice (some ad) n cap) (.slice none 0 0)).run Try.prog w=.ok (.bool false) w:=fun w=>Lib.run_eql_slice_nil w 22 2 (some ad) n cap 0 0 Try.underlying22
 go_enter Try.func57,Try.ntmps57;go_wp2_with (at_builtin;refine ax (.tmp 5) (.tmp 6) 22 rfl rfl w.heap.size 2 i0 (.int .i64 0) 1 8 Try.underlying22 hi hz0 hz1 hz2 rfl (by decide) (some ⟨w.heap.size,0,none⟩) 0 0 [] (by rfl) (World.ownsRow_lit w #[] 0 (Nat.le_refl _) (Nat.zero_le _) rfl) (some ad) n cap (xs.map (Value.int .i64)) (by rfl) (by rw[HN.out];simp) HS.out (by simp[Value.oneCell']) (by unfold maxLen;omega) (by omega) (by simp) ?_;intro A3 c3 w2 hown2 hgrow2 uX;have HO2:=zh hown2;have HG2:=zh hgrow2;have XW:=zh uX;clear hown2 hgrow2 uX)
 go_ret;obtain⟨g,cap',e,z1,z2⟩:=HO2.form (by omega)
 cases e
 refine⟨g,c3,rfl,?_,z1,z2,?_⟩
 ·refine((Below.refl w.heap.size w).alloc (Nat.le_refl _) (.cells #[] 2)).grown HG2.out (by simp) ?_
  intro k hk
  cases hk
  exact Nat.le_refl _
 ·have:=HO2.out
  rw[HN.out]at this;simpa [dI]using this
end Go.Proofs.Ytmebpglkeedaoaa
namespace Go.Proofs.Ytmebpglkeedaoaa
open Go Go.RowKit Dp
def gV (W:World) (B:Nat) (A:Option Addr) (n cap:Nat) (xs:List Int):Prop:=
 xs.length=n/\((A=none/\n=0/\cap=0)∨ ∃(g k:Nat) (cur:Array Value),A=some ⟨g,k,none⟩/\B<=g/\W.heap[g]?=some (.cells cur 3 (0,0))/\n<=cap/\k+cap<=cur.size/\cap<=maxLen/\ ∀j,j<n->cur[k+j]?=some (.int .i64 (xs.getD j 0)))
section
variable {W V:World} {B n cap:Nat} {A:Option Addr} {xs:List Int}
theorem gV.nil (W:World) (B:Nat):gV W B none 0 0 []:=⟨rfl,.inl ⟨rfl,rfl,rfl⟩⟩
theorem gV.lt (h:gV W B A n cap xs): ∀k,aK A k->B<=k/\k<W.heap.size:=fun k hk=>by
 obtain⟨a,e,hb⟩:=hk
 rcases h.2 with ⟨rfl,_⟩|⟨g,o,cur,rfl,h1,h2,_⟩
 ·cases e
 ·cases e
  simp only at hb;subst hb;exact⟨h1,(Array.getElem?_eq_some_iff.1 h2).1⟩
theorem gV.of_eq (h:gV W B A n cap xs) (he: ∀k,aK A k->V.heap[k]?=W.heap[k]?):gV V B A n cap xs:=by
 refine⟨h.1,?_⟩
 rcases h.2 with h1|⟨g,o,cur,rfl,h1,h2,h3⟩
 ·exact .inl h1
 ·exact .inr ⟨g,o,cur,rfl,h1,by rw[he g ⟨_,rfl,rfl⟩];exact h2,h3⟩
theorem gV.below (h:gV W B A n cap xs) (hb:Below W.heap.size W V):gV V B A n cap xs:=h.of_eq (fun k hk=>hb.block k (h.lt k hk).2)
theorem gV.set (h:gV W B A n cap xs) {p:Addr} (hp: ¬aK A p.block) (u:Value):gV (W.setCell p u) B A n cap xs:=h.of_eq (fun k hk=>Below.heap_setCell _ _ _ _ (fun e=>hp (by rw[<-e];exact hk)))
theorem gV.no {g t:Nat} {cs:List Value} (h:gV W B A n cap xs) (hb:Blk W g t cs) (ht:t≠3): ¬aK A g:=fun ⟨a,e,he⟩=>by
 rcases h.2 with ⟨rfl,_⟩|⟨g',o,cur,rfl,h1,h2,_⟩
 ·cases e
 ·cases e
  simp only at he;subst he;unfold Blk at hb;rw[h2]at hb;simp only[Option.some.injEq,Obj.cells.injEq]at hb;exact ht hb.2.1.symm
theorem gV.head (h:gV W B A (n+1) cap xs): ∃a,A=some a/\a.block<W.heap.size/\W.cell? a=some (.int .i64 (xs.getD 0 0))/\a.spot=none:=by
 rcases h.2 with ⟨_,h0,_⟩|⟨g,k,cur,rfl,h1,h2,_,_,_,h3⟩
 ·omega
 ·refine⟨_,rfl,(Array.getElem?_eq_some_iff.1 h2).1,?_,rfl⟩
  rw[cell_of_row W g k cur 3 (0,0) h2];exact h3 0 (by omega)
theorem gV.tail {g k:Nat} (h:gV W B (some ⟨g,k,none⟩) (n+1) cap xs):gV W B (some ⟨g,k+1,none⟩) n (cap-1) (xs.drop 1):=by
 refine⟨by rw[List.length_drop,h.1];omega,.inr ?_⟩
 rcases h.2 with ⟨h0,_⟩|⟨g',k',cur,e,h1,h2,h3,h4,h5,h6⟩
 ·cases h0
 ·cases e
  refine⟨g,k+1,cur,rfl,h1,h2,by omega,by omega,by omega,fun j hj=>?_⟩;have:=h6 (j+1) (by omega);rw[show k+1+j=k+(j+1) by omega,this];simp[zg,Nat.add_comm]
theorem gV.tailIf {g k:Nat} (h:gV W B (some ⟨g,k,none⟩) (n+1) cap xs):gV W B (if cap=1 then some ⟨g,k,none⟩else some ⟨g,k+1,none⟩) n (cap-1) (xs.drop 1):=by
 by_cases hc:cap=1
 ·rw[if_pos hc]
  refine⟨by rw[List.length_drop,h.1];omega,.inr ?_⟩
  rcases h.2 with ⟨h0,_⟩|⟨g',k',cur,e,h1,h2,h3,h4,h5,h6⟩
  ·cases h0
  ·cases e
   exact⟨g,k,cur,rfl,h1,h2,by omega,by omega,by omega,fun j hj=>by omega⟩
 ·rw[if_neg hc]
  exact h.tail
end
theorem Ez (W:World) (B n old:Nat) (hB:B<=W.heap.size) (hn:n+1<=maxLen) (xs:List Int) (x:Int) (hx:xs.length=n) (Z:Array Value) (row:Option Nat):
 gV (W.drew.alloc (.cells ((xs.map (Value.int .i64)).toArray++[Value.int .i64 x].toArray++Builtin.zeroCells (Value.int .i64 0).cells (grownCap W (n+1) old 3-(n+1))) 3)) B (some ⟨W.heap.size,0,none⟩) (n+1) (grownCap W (n+1) old 3) (xs++[x])/\
 W.grownBy (W.drew.alloc (.cells ((xs.map (Value.int .i64)).toArray++[Value.int .i64 x].toArray++Builtin.zeroCells (Value.int .i64 0).cells (grownCap W (n+1) old 3-(n+1))) 3)) row:=by
 have hge:=grownCap_ge W (n+1) old 3;have hcm:=grownCap_le_maxLen W (n+1) old 3 hn;refine⟨⟨by simp[hx],.inr ⟨W.heap.size,0,_,rfl,hB,heap_alloc_new W.drew _,hge,?_,hcm,fun j hj=>?_⟩⟩,⟨rfl,rfl,rfl,by simp,fun k hk _=>heap_alloc_old W.drew _ hk⟩⟩
 ·simp only[Array.size_append,List.size_toArray,size_zeroCells,List.length_map,List.length_cons,List.length_nil,hx,Nat.zero_add]
  have:(Value.int .i64 0).cells.size=1:=rfl;rw[this];omega
 ·rw[Nat.zero_add,Array.getElem?_append_left (by simp[hx];omega)]
  by_cases e:j<n
  ·rw[Array.getElem?_append_left (by simp[hx];exact e)]
   simp[zg,List.getElem?_append_left (show j<xs.length by omega),show j<xs.length by omega]
  ·obtain rfl:j=n:=by omega
   rw[Array.getElem?_append_right (by simp[hx])];simp[hx,zg]
section
variable {P:Program} {w:World}
theorem CR (t ty:TypeId) (B:Nat) (i:TypeInfo) (ht:P.underlying t=some (.slice 3)) (hi:P.info? 3=some i) (hz:i.zero=some (.int .i64 0)) (hsize:i.size=1) (hby:i.bytes=8)
 (A:Option Addr) (n cap:Nat) (xs:List Int) (hown:gV w B A n cap xs) (a:Addr) (c:Nat) (x:Int) (hx:w.cell? a=some (.int .i64 x)) (hn:n<=1048576) (hB:B<=w.heap.size):
 ∃A' cap' w',(Builtin.append_ #[t,t] ty #[.slice A n cap,.slice (some a) 1 c]).run P w=.ok (.slice A' (n+1) cap') w'/\gV w' B A' (n+1) cap' (xs++[x])/\
  w.grownBy w' (Value.slice A n cap).ownBlock/\(∀k,aK A' k->aK A k∨k=w.heap.size):=by
 have hnews: ∀j u,[Value.int .i64 x][j]?=some u->w.cell? (a.add j)=some u:=fun j u hu=>by
  rcases j with _|j<;>simp at hu
  subst hu;exact hx
 have hmax:n+1<=maxLen:=by unfold maxLen;omega
 rcases hown.2 with ⟨rfl,rfl,rfl⟩|⟨g,k,cur,rfl,h1,h2,h3,h4,h5,h6⟩
 ·have hxs:xs=[]:=List.eq_nil_of_length_eq_zero hown.1
  subst hxs;have hr:=run_append_nil (P:=P) w t ty 3 i _ ht hi hz a 1 c [.int .i64 x] (by simp[hsize]) hnews (by omega) (by omega) (by rw[hby];omega);have hgr:=Ez w B 0 0 hB hmax [] x rfl #[] (Value.slice none 0 0).ownBlock;simp only[Nat.zero_add,List.nil_append,List.map_nil,Array.empty_append]at hgr hr ⊢;exact⟨_,_,_,hr,hgr.1,hgr.2,fun k ⟨a',e,hk⟩=>.inr (by cases e;exact hk.symm)⟩
 ·by_cases hroom:n+1<=cap
  ·have hc:(w.cell? ⟨g,k+n,none⟩).isSome=true:=by
    rw[cell_of_row w g (k+n) cur 3 (0,0) h2];have:k+n<cur.size:=by omega
    simp[this]
   have hf:w.frozen? ⟨g,k+n,none⟩=false:=by
    unfold World.frozen?;rw[h2];simp
   have hs:=Src.ofSlice (P:=P) (size:=i.size) w ht a 1 c [.int .i64 x] (by simp[hsize]) hnews (by simp[Value.oneCell']);have hr:=run_append_room_src (P:=P) w t t ty 3 i ht hi g k n cap _ 1 [.int .i64 x] hs hroom (fun j hj=>by
    have:j=0:=by simpa using hj
    subst this;rw[hsize];simpa using hc) (fun j hj=>by
 have:j=0:=by simpa using hj
 subst this;rw[hsize];simpa using hf)
   rw[hsize,Nat.mul_one]at hr;refine⟨_,_,_,hr,⟨by simp[hown.1],.inr ⟨g,k,_,rfl,h1,heap_setCell_same w g (k+n) cur 3 (.int .i64 x) h2,hroom,by simpa using h4,h5,fun j hj=>?_⟩⟩,⟨rfl,rfl,rfl,by simp[World.setCells,World.setCell],fun b hb hne=>?_⟩,fun b hb=>.inl hb⟩
   ·by_cases e:j=n
    ·subst e
     have:k+j<cur.size:=by omega
     simp[this,zg,hown.1]
    ·have:=h6 j (by omega)
     rw[Array.getElem?_setIfInBounds_ne (by omega),this,zg,zg,List.getElem?_append_left (by rw[hown.1];omega)]
   ·show(w.setCell ⟨g,k+n,none⟩ (.int .i64 x)).heap[b]?=_
    exact Below.heap_setCell _ _ _ _ (fun e=>hne (by simp[Value.ownBlock,e]))
  ·have holds: ∀j u,(xs.map (Value.int .i64))[j]?=some u->w.cell? ((⟨g,k,none⟩:Addr).add j)=some u:=fun j u hu=>by
    have hj:j<n:=by
     rcases Nat.lt_or_ge j n with h|h
     ·exact h
     ·rw[List.getElem?_eq_none (by simp[hown.1];omega)]at hu;cases hu
    have:=h6 j hj;rw[List.getElem?_map,List.getElem?_eq_getElem (by rw[hown.1];exact hj)]at hu;rw[show(⟨g,k,none⟩:Addr).add j=⟨g,k+j,none⟩from(by unfold Addr.add;split<;>simp_all),cell_of_row w g (k+j) cur 3 (0,0) h2,this,<-hu,zg,List.getElem?_eq_getElem (by rw[hown.1];exact hj)];rfl
   have hr:=run_append_grow (P:=P) w t ty 3 i _ ht hi hz ⟨g,k,none⟩ n cap (xs.map (Value.int .i64)) (by simp[hown.1,hsize]) holds a 1 c [.int .i64 x] (by simp[hsize]) hnews (by omega) (by omega) (by rw[hby];have:=nextslicecap_le (need:=n+1) (old:=cap) (by omega);omega);have hgr:=Ez w B n cap hB hmax xs x hown.1 #[] (Value.slice (some ⟨g,k,none⟩) n cap).ownBlock;exact⟨_,_,_,hr,hgr.1,hgr.2,fun b ⟨a',e,hb⟩=>.inr (by cases e;exact hb.symm)⟩
theorem kD {ops:Array Oper} {rest:List Oper} {o:Oper} {a:Act} {Q:Exit->Act->World->Prop} (s x:Operand) (t:TypeId)
 (ho:o.op=.call {callee:=.builtin .append,args:= #[s,x],argTypes:= #[t,t]}) (hgd:o.guard=none)
 (B:Nat) (i:TypeInfo) (ht:P.underlying t=some (.slice 3)) (hi:P.info? 3=some i) (hz:i.zero=some (.int .i64 0)) (hsize:i.size=1) (hby:i.bytes=8)
 (A:Option Addr) (n cap:Nat) (xs:List Int) (hs:a.eval s=.slice A n cap) (hown:gV w B A n cap xs)
 (ad:Addr) (c:Nat) (v:Int) (hx:a.eval x=.slice (some ad) 1 c) (hv:w.cell? ad=some (.int .i64 v)) (hn:n<=1048576) (hB:B<=w.heap.size)
 (h: ∀A' cap' w',gV w' B A' (n+1) cap' (xs++[v])->w.grownBy w' (Value.slice A n cap).ownBlock->(∀k,aK A' k->aK A k∨k=w.heap.size)->wpList P ops Q rest (a.put o.dst (.slice A' (n+1) cap')) w'):
 wpList P ops Q (o::rest) a w:=by
 refine wpList_plain hgd fun K hK=>?_
 obtain⟨A',cap',w',hr,h2,h3,h4⟩:=CR (P:=P) t o.type B i ht hi hz hsize hby A n cap xs hown ad c v hv hn hB;unfold Oper.wp execOp;simp only[ho,resolve,invoke,builtin,Sem.run_bind,Sem.run_pure,Result.andThen_ok,List.map_toArray,List.map_cons,List.map_nil,hs,hx,hr];exact hK _ _ (h A' cap' w' h2 h3 h4)
end
end Go.Proofs.Ytmebpglkeedaoaa
namespace Go.Proofs.Ytmebpglkeedaoaa
namespace Dp
abbrev Vs:=Int×Int
def bC (l:List Vs) (i:Nat):Int:=(l.getD i (0,0)).2
def ny (l:List Vs):Prop:= ∀j,0<j->j<l.length->bC l ((j-1)/2)<=bC l j
def Gx (l:List Vs) (i:Nat):Prop:=(∀j,0<j->j<l.length->j≠i->bC l ((j-1)/2)<=bC l j)/\(0<i-> ∀j,0<j->j<l.length->(j-1)/2=i->bC l ((i-1)/2)<=bC l j)
def A9 (l:List Vs) (i:Nat):Prop:=(∀j,0<j->j<l.length->(j-1)/2≠i->bC l ((j-1)/2)<=bC l j)/\(0<i-> ∀j,0<j->j<l.length->(j-1)/2=i->bC l ((i-1)/2)<=bC l j)
def swp (l:List Vs) (i j:Nat):List Vs:=(l.set i (l.getD j (0,0))).set j (l.getD i (0,0))
theorem lu (l:List Vs) (i j:Nat):(swp l i j).length=l.length:=by simp[swp]
theorem Ba {l:List Vs} {i j:Nat} (hi:i<l.length) (hj:j<l.length):(swp l i j).Perm l:=by
 unfold swp;rw[zg,zg,List.getElem?_eq_getElem hi,List.getElem?_eq_getElem hj];exact List.set_set_perm hi hj
theorem o7 (l:List Vs) (i j:Nat) (v:Vs) (h:i<l.length):(l.set i v).getD j (0,0)=if j=i then v else l.getD j (0,0):=by
 simp only[zg,List.getElem?_set]
 by_cases hj:i=j
 ·subst hj;simp[h]
 ·rw[if_neg hj,if_neg (fun e=>hj e.symm)]
theorem jX {l:List Vs} {i j:Nat} (hi:i<l.length) (hj:j<l.length) (k:Nat):bC (swp l i j) k=if k=j then bC l i else if k=i then bC l j else bC l k:=by
 unfold bC swp;rw[o7 _ _ _ _ (by simpa using hj),o7 _ _ _ _ hi]
 split
 ·rfl
 ·split<;>rfl
theorem Iu {l:List Vs} (h:ny l): ∀j,j<l.length->bC l 0<=bC l j:=by
 intro j
 induction j using Nat.strongRecOn with
 |_ j ih=>
  intro hj
  rcases Nat.eq_zero_or_pos j with rfl|h0
  ·exact Int.le_refl _
  ·have h1:=ih ((j-1)/2) (by omega) (by omega)
   have h2:=h j h0 hj;omega
theorem Gy {l:List Vs} (h:ny l) (e:Vs) (he:e∈l):bC l 0<=e.2:=by
 obtain⟨i,hi,rfl⟩:=List.getElem_of_mem he;have:=Iu h i hi;simpa [bC,List.getD,hi]using this
theorem Iw:ny []:=fun _ _ h=>absurd h (Nat.not_lt_zero _)
theorem EA {l:List Vs} {x:Vs} {j:Nat} (hj:j<l.length):bC (l++[x]) j=bC l j:=by
 simp[bC,List.getD,List.getElem?_append_left hj]
theorem Iy {l:List Vs} (h:ny l) (x:Vs):Gx (l++[x]) l.length:=by
 constructor
 ·intro j h0 hj hne
  simp only[List.length_append,List.length_cons,List.length_nil]at hj;rw[EA (by omega),EA (by omega)];exact h j h0 (by omega)
 ·intro h0 j h1 h2 h3
  simp only[List.length_append,List.length_cons,List.length_nil]at h2;omega
theorem EB {l:List Vs} {i:Nat} (h:Gx l i) (hk:i=0∨bC l ((i-1)/2)<=bC l i):ny l:=by
 intro j h0 hj
 by_cases he:j=i
 ·subst he;rcases hk with hk|hk
  ·omega
  ·exact hk
 ·exact h.1 j h0 hj he
theorem Mm {l:List Vs} {i:Nat} (h:Gx l i) (h0:0<i) (hi:i<l.length) (hk:bC l i<bC l ((i-1)/2)):Gx (swp l i ((i-1)/2)) ((i-1)/2):=by
 have hp:(i-1)/2<l.length:=by omega
 constructor
 ·intro j j0 hj hne
  rw[lu]at hj;rw[jX hi hp,jX hi hp,if_neg hne]
  by_cases hji:j=i
  ·subst hji
   rw[if_pos rfl,if_pos rfl];omega
  ·rw[if_neg hji]
   have h1:=h.1 j j0 hj hji
   by_cases hq:(j-1)/2=(i-1)/2
   ·rw[if_pos hq];rw[hq]at h1;omega
   ·rw[if_neg hq]
    by_cases hqi:(j-1)/2=i
    ·rw[if_pos hqi]
     exact h.2 h0 j j0 hj hqi
    ·rw[if_neg hqi];exact h1
 ·intro g0 j j0 hj hq
  rw[lu]at hj;have hpp:((i-1)/2-1)/2≠i:=by omega
  have Vb:((i-1)/2-1)/2≠(i-1)/2:=by omega
  have hpq:=h.1 ((i-1)/2) g0 hp (by omega);rw[jX hi hp,jX hi hp,if_neg Vb,if_neg hpp,if_neg (show j≠(i-1)/2 by omega)]
  by_cases hji:j=i
  ·rw[if_pos hji];exact hpq
  ·rw[if_neg hji]
   have h1:=h.1 j j0 hj hji;rw[hq]at h1;omega
theorem Mo {l:List Vs} {i:Nat} (h:A9 l i) (h1:2*i+1<l.length->bC l i<=bC l (2*i+1)) (h2:2*i+2<l.length->bC l i<=bC l (2*i+2)):ny l:=by
 intro j j0 hj
 by_cases he:(j-1)/2=i
 ·rw[he]
  rcases (show j=2*i+1∨j=2*i+2 by omega)with rfl|rfl
  ·exact h1 hj
  ·exact h2 hj
 ·exact h.1 j j0 hj he
theorem Mq {l:List Vs} {i c:Nat} (h:A9 l i) (hc:c<l.length) (hci:c=2*i+1∨c=2*i+2) (hk:bC l c<bC l i)
 (hl: ∀j,0<j->j<l.length->(j-1)/2=i->bC l c<=bC l j):A9 (swp l i c) c:=by
 have hi:i<l.length:=by omega
 have hcp:(c-1)/2=i:=by omega
 constructor
 ·intro j j0 hj hne
  rw[lu]at hj;rw[jX hi hc,jX hi hc,if_neg hne]
  by_cases hq:(j-1)/2=i
  ·rw[if_pos hq]
   by_cases hjc:j=c
   ·rw[if_pos hjc];omega
   ·rw[if_neg hjc,if_neg (show j≠i by omega)]
    exact hl j j0 hj hq
  ·rw[if_neg hq]
   have h1:=h.1 j j0 hj hq;rw[if_neg (show j≠c by omega)]
   by_cases hji:j=i
   ·rw[if_pos hji]
    subst hji;exact h.2 j0 c (by omega) hc hcp
   ·rw[if_neg hji];exact h1
 ·intro c0 j j0 hj hq
  rw[lu]at hj;rw[jX hi hc,jX hi hc,if_neg (show(c-1)/2≠c by omega),if_pos hcp,if_neg (show j≠c by omega),if_neg (show j≠i by omega)];have:=h.1 j j0 hj (by omega);rw[hq]at this;exact this
def o8 (l:List Vs):List Vs:=(l.set 0 (l.getD (l.length-1) (0,0))).take (l.length-1)
theorem pV (l:List Vs):(o8 l).length=l.length-1:=by simp[o8]
theorem Gz {l:List Vs} (h:0<l.length):(l.getD 0 (0,0)::o8 l).Perm l:=by
 rcases Nat.lt_or_ge 1 l.length with h1|h1
 ·obtain⟨a,t,rfl⟩: ∃a t,l=a::t:=by cases l with
   |nil=>simp at h
   |cons a t=>exact⟨a,t,rfl⟩
  have ht:t≠[]:=by intro e;subst e;simp at h1
  have e:=List.dropLast_concat_getLast ht;have hl:0<t.length:=List.length_pos_iff.2 ht;have e1:o8 (a::t)=t.getLast ht::t.dropLast:=by
   unfold o8;have:(a::t).getD ((a::t).length -1) (0,0)=t.getLast ht:=by
    simp only[List.length_cons,Nat.add_sub_cancel];rw[zg,List.getLast_eq_getElem];obtain⟨n,hn⟩: ∃n,t.length=n+1:=⟨t.length-1,by omega⟩;simp[hn]
   rw[this];simp only[List.set_cons_zero,List.length_cons,Nat.add_sub_cancel];obtain⟨n,hn⟩: ∃n,t.length=n+1:=⟨t.length-1,by omega⟩;rw[hn,List.take_succ_cons,List.dropLast_eq_take,hn];rfl
  rw[e1];simp only[List.getD_cons_zero];refine List.Perm.cons a ?_;have:(t.getLast ht::t.dropLast).Perm (t.dropLast++[t.getLast ht]):=(List.perm_append_singleton _ _).symm;rw[e]at this;exact this
 ·have:l.length=1:=by omega
  obtain⟨a,rfl⟩:=List.length_eq_one_iff.1 this;simp[o8]
theorem Bb {l:List Vs} {j:Nat} (hj:j<l.length-1):bC (o8 l) j=if j=0 then bC l (l.length-1)else bC l j:=by
 have:bC (o8 l) j=bC (l.set 0 (l.getD (l.length-1) (0,0))) j:=by
  simp only[bC,o8,zg];rw[List.getElem?_take_of_lt hj]
 rw[this];unfold bC;rw[o7 _ _ _ _ (by omega)]
 split<;>rfl
theorem Mr {l:List Vs} (h:ny l):A9 (o8 l) 0:=by
 constructor
 ·intro j j0 hj hne
  rw[pV]at hj;rw[Bb (by omega),Bb hj,if_neg hne,if_neg (by omega)];exact h j j0 (by omega)
 ·intro h0;omega
structure Ed where
 «to»:Int
 room:Int
 cost:Int
 deriving Inhabited
structure Gr where
 left:List Int
 es:List Ed
 outs:List (List Int)
def tw (k:Nat):Nat:=if k%2=0 then k+1 else k-1
theorem lN (k:Nat):tw (tw k)=k:=by unfold tw;split<;>split<;>omega
theorem Pz {k n:Nat} (h:n%2=0) (hk:k<n):tw k<n:=by unfold tw;split<;>omega
theorem Bc (k:Nat):tw k≠k:=by unfold tw;split<;>omega
namespace Gr
def toA (G:Gr) (k:Nat):Nat:=(G.es.getD k default).to.toNat
def frA (G:Gr) (k:Nat):Nat:=G.toA (tw k)
def room (G:Gr) (k:Nat):Int:=(G.es.getD k default).room
def cost (G:Gr) (k:Nat):Int:=(G.es.getD k default).cost
def lf (G:Gr) (v:Nat):Int:=G.left.getD v 0
def rc (G:Gr) (p:List Int) (k:Nat):Int:=G.cost k+p.getD (G.frA k) 0-p.getD (G.toA k) 0
structure Ok (G:Gr) (n:Nat):Prop where
 n1:1<=n/\n<=1024
 ll:G.left.length=n
 lo:G.outs.length=n
 le:G.es.length<=4096
 ev:G.es.length%2=0
 «to»: ∀k,k<G.es.length->0<=(G.es.getD k default).to/\(G.es.getD k default).to<n
 ne: ∀k,k<G.es.length->G.toA k≠G.frA k
 co: ∀k,k<G.es.length->G.cost (tw k)= -G.cost k
 cb: ∀k,k<G.es.length-> -1048576<=G.cost k/\G.cost k<=1048576
 rm: ∀k,k<G.es.length->0<=G.room k/\G.room k+G.room (tw k)<=1048576
 lb: ∀v,v<n-> -8589934592<=G.lf v/\G.lf v<=8589934592
 o1: ∀v,v<n-> ∀x,x∈G.outs.getD v []->0<=x/\x<G.es.length/\G.frA x.toNat=v
 o2: ∀k,k<G.es.length->(k:Int)∈G.outs.getD (G.frA k) []
 o3: ∀v,v<n->(G.outs.getD v []).length<=4096
theorem Ok.toL {G:Gr} {n:Nat} (h:G.Ok n) {k:Nat} (hk:k<G.es.length):G.toA k<n:=by have:=h.to k hk;unfold toA;omega
theorem Ok.frL {G:Gr} {n:Nat} (h:G.Ok n) {k:Nat} (hk:k<G.es.length):G.frA k<n:=h.toL (Pz h.ev hk)
structure Pot (G:Gr) (n:Nat) (p:List Int):Prop where
 len:p.length=n
 bd: ∀v,v<n->0<=p.getD v 0/\p.getD v 0<=1073741824
 rc: ∀k,k<G.es.length->0<G.room k->0<=G.rc p k
 src: ∀v,v<n->0<G.lf v->p.getD v 0=0
end Gr
def never:Int:=1152921504606846976
def Lnk (G:Gr) (p fa vi:List Int) (S:List Nat) (v:Nat):Prop:=
 (0<G.lf v/\fa.getD v 0=0/\vi.getD v 0= -1)∨ ∃k,k<G.es.length/\vi.getD v 0=(k:Int)/\G.toA k=v/\0<G.room k/\G.frA k∈S/\fa.getD v 0=fa.getD (G.frA k) 0+G.rc p k
def Chn (G:Gr) (p fa vi:List Int):List Nat->Prop
 |[]=>True
 |v::S=>Chn G p fa vi S/\Lnk G p fa vi S v
theorem Lnk.keep {G:Gr} {p fa vi fa' vi':List Int} {S:List Nat} {v:Nat} (h:Lnk G p fa vi S v) (h1: ∀u,u∈S∨u=v->fa'.getD u 0=fa.getD u 0) (h2:vi'.getD v 0=vi.getD v 0):Lnk G p fa' vi' S v:=by
 rcases h with ⟨a,b,c⟩|⟨k,a,b,c,d,e,f⟩
 ·exact .inl ⟨a,(h1 v (.inr rfl)).trans b,h2.trans c⟩
 ·exact .inr ⟨k,a,h2.trans b,c,d,e,by rw[h1 v (.inr rfl),h1 _ (.inl e)];exact f⟩
theorem Lnk.more {G:Gr} {p fa vi:List Int} {S S':List Nat} {v:Nat} (h:Lnk G p fa vi S v) (hs: ∀u,u∈S->u∈S'):Lnk G p fa vi S' v:=by
 rcases h with h|⟨k,a,b,c,d,e,f⟩
 ·exact .inl h
 ·exact .inr ⟨k,a,b,c,d,hs _ e,f⟩
theorem Chn.keep {G:Gr} {p fa vi fa' vi':List Int}: ∀{S:List Nat},Chn G p fa vi S->(∀u,u∈S->fa'.getD u 0=fa.getD u 0/\vi'.getD u 0=vi.getD u 0)->Chn G p fa' vi' S
 |[],_,_=>trivial
 |v::S,h,hk=>⟨Chn.keep h.1 (fun u hu=>hk u (by simp[hu])),h.2.keep (fun u hu=>(hk u (by rcases hu with hu|hu<;>simp[hu])).1) (hk v (by simp)).2⟩
theorem Chn.up {G:Gr} {n:Nat} {p fa vi:List Int} (hG:G.Ok n) (hp:G.Pot n p): ∀{S:List Nat},Chn G p fa vi S->(∀v,v∈S->v<n)-> ∀v,v∈S->fa.getD v 0+p.getD v 0+1048576<=1048576*S.length∨fa.getD v 0+p.getD v 0<=0
 |[],_,_,v,hv=>by simp at hv
 |u::S,h,hl,v,hv=>by
  have ih:=Chn.up hG hp h.1 (fun v hv=>hl v (by simp[hv]));have e:((List.length (u::S):Nat):Int)=S.length+1:=by simp
  rw[e,Int.mul_add]
  rcases List.mem_cons.1 hv with rfl|hv
  ·rcases h.2 with ⟨a,b,c⟩|⟨k,a,b,c,d,e,f⟩
   ·right
    have:=hp.src v (hl v (by simp)) a;omega
   ·have h1:=ih _ e
    have h2:=(hG.cb k a).2;unfold Gr.rc at f;rw[c]at f;have:1<=S.length:=List.length_pos_of_mem e;left;omega
  ·have:=ih v hv
   omega
structure NI (G:Gr) (n:Nat) (p fa vi:List Int) (H:List Vs) (S:List Nat) (en ds:Int) (ex:Nat->Prop):Prop where
 l1:fa.length=n
 l2:vi.length=n
 sn:S.Nodup
 sl: ∀v,v∈S->v<n
 d0:0<=ds
 top: ∀v,v<n->0<=fa.getD v 0/\fa.getD v 0<=never
 src: ∀v,v<n->0<G.lf v->fa.getD v 0=0
 via: ∀v,v<n-> -1<=vi.getD v 0/\vi.getD v 0<G.es.length/\(fa.getD v 0=never->vi.getD v 0= -1)
 lnk: ∀v,v<n->fa.getD v 0<never->Lnk G p fa vi S v
 chn:Chn G p fa vi S
 sd: ∀v,v∈S->fa.getD v 0<=ds/\fa.getD v 0<never
 hd: ∀e,e∈H->ds<=e.2
 pnd: ∀v,v<n->fa.getD v 0<never->v ∉ S->((v:Int),fa.getD v 0)∈H
 ent: ∀e,e∈H->(0<=e.1/\e.1<n)/\fa.getD e.1.toNat 0<=e.2/\e.2<never/\(e.1.toNat∈S->fa.getD e.1.toNat 0<e.2)
 hn:H.Nodup
 bel: ∀k,k<G.es.length->G.frA k∈S->0<G.room k-> ¬ex k->fa.getD (G.toA k) 0<=fa.getD (G.frA k) 0+G.rc p k
 fin:(en= -1/\ ∀v,v∈S->0<=G.lf v)∨ ∃t:Nat,en=(t:Int)/\t<n/\G.lf t<0/\t∈S/\ ∀v,v<n->G.lf v<0->fa.getD t 0<=fa.getD v 0
section
variable {G:Gr} {n:Nat} {p fa vi:List Int} {H R:List Vs} {S:List Nat} {en ds:Int} {ex:Nat->Prop}
theorem NI.perm (h:NI G n p fa vi H S en ds ex) (hp:R.Perm H):NI G n p fa vi R S en ds ex:=
 {h with hd:=fun e he=>h.hd e (hp.mem_iff.1 he),pnd:=fun v a b c=>hp.mem_iff.2 (h.pnd v a b c),ent:=fun e he=>h.ent e (hp.mem_iff.1 he),hn:=hp.nodup_iff.2 h.hn}
theorem NI.excuse {ex':Nat->Prop} (h:NI G n p fa vi H S en ds ex) (hx: ∀k,k<G.es.length->G.frA k∈S->ex k->ex' k):NI G n p fa vi H S en ds ex':=
 {h with bel:=fun k a b c d=>h.bel k a b c (fun hk=>d (hx k a b hk))}
theorem NI.slen (h:NI G n p fa vi H S en ds ex):S.length<=n:=by
 have:=h.sn.length_le_of_subset (l₂:=List.range n) (fun v hv=>List.mem_range.2 (h.sl v hv));simpa using this
theorem NI.stale {e:Vs} (h:NI G n p fa vi (e::R) S en ds ex) (hs:fa.getD e.1.toNat 0<e.2):NI G n p fa vi R S en ds ex:=
 {h with
  hd:=fun x hx=>h.hd x (by simp[hx])
  pnd:=fun v a b c=>by
   rcases List.mem_cons.1 (h.pnd v a b c)with h1|h1
   ·rw[<-h1]at hs
    simp at hs
   ·exact h1
  ent:=fun x hx=>h.ent x (by simp[hx])
  hn:=(List.nodup_cons.1 h.hn).2}
theorem NI.new (h:NI G n p fa vi H S en ds ex) {e:Vs} (he:e∈H) (hs: ¬fa.getD e.1.toNat 0<e.2):e.1.toNat ∉ S:=fun hm=>hs ((h.ent e he).2.2.2 hm)
theorem NI.fresh {u:Nat} {d:Int} (h:NI G n p fa vi (((u:Int),d)::R) S en ds (fun _=>False)) (hmin: ∀x,x∈R->d<=x.2) (hs: ¬fa.getD u 0<d):
 fa.getD u 0=d/\u ∉ S/\u<n/\d<never/\NI G n p fa vi R (u::S) (if G.lf u<0/\en<0 then (u:Int)else en) d (fun k=>G.frA k=u):=by
 have he:=h.ent ((u:Int),d) (by simp);have hu:u ∉ S:=h.new (e:=((u:Int),d)) (by simp) hs;have hun:u<n:=by have:=he.1;simp only at this;omega
 simp only[Int.toNat_natCast]at he;have hfd:fa.getD u 0=d:=by omega
 have hds:ds<=d:=h.hd ((u:Int),d) (by simp);have hlt:d<never:=he.2.2.1;have hL:=h.lnk u hun (by omega);refine⟨hfd,hu,hun,hlt,?_⟩;exact
 {l1:=h.l1,l2:=h.l2,top:=h.top,src:=h.src,via:=h.via
  sn:=List.nodup_cons.2 ⟨hu,h.sn⟩
  sl:=fun v hv=>by
   rcases List.mem_cons.1 hv with rfl|hv
   ·exact hun
   ·exact h.sl v hv
  d0:=by have:=h.d0;omega
  lnk:=fun v a b=>(h.lnk v a b).more (fun x hx=>by simp[hx])
  chn:=⟨h.chn,hL⟩
  sd:=fun v hv=>by
   rcases List.mem_cons.1 hv with rfl|hv
   ·omega
   ·have:=h.sd v hv;omega
  hd:=fun e he=>hmin e he
  pnd:=fun v a b c=>by
   simp only[List.mem_cons,not_or]at c
   rcases List.mem_cons.1 (h.pnd v a b c.2)with h1|h1
   ·exact absurd (by have:=congrArg Prod.fst h1;simp only at this;omega) c.1
   ·exact h1
  ent:=fun x hx=>by
   have hx0:=h.ent x (by simp[hx]);refine⟨hx0.1,hx0.2.1,hx0.2.2.1,fun hm=>?_⟩
   rcases List.mem_cons.1 hm with h1|h1
   ·have hne:x≠((u:Int),d):=fun e=>(List.nodup_cons.1 h.hn).1 (e▸hx)
    have h2:=hx0.2.1;rw[h1]at h2 ⊢
    rcases Int.lt_or_eq_of_le h2 with h3|h3
    ·exact h3
    ·exfalso
     apply hne;have h4:=hx0.1;have h5:x.1=(u:Int):=by omega
     have h6:x.2=d:=by omega
     exact Prod.ext h5 h6
   ·exact hx0.2.2.2 h1
  hn:=(List.nodup_cons.1 h.hn).2
  bel:=fun k a b c hx=>by
   rcases List.mem_cons.1 b with h1|h1
   ·exact absurd h1 hx
   ·exact h.bel k a h1 c (fun f=>f)
  fin:=by
   rcases h.fin with ⟨e1,e2⟩|⟨t,e1,e2,e3,e4,e5⟩
   ·by_cases hl:G.lf u<0
    ·right
     refine⟨u,by rw[if_pos ⟨hl,by omega⟩],hun,hl,by simp,fun v hv hlv=>?_⟩;rw[hfd];have htop:=h.top v hv
     by_cases hr:fa.getD v 0<never
     ·have hvS:v ∉ S:=fun hm=>by have:=e2 v hm;omega
      rcases List.mem_cons.1 (h.pnd v hv hr hvS)with h1|h1
      ·have:=congrArg Prod.snd h1
       simp only at this;omega
      ·have:=hmin _ h1
       simpa using this
     ·omega
    ·left
     refine⟨by rw[if_neg (fun hc=>hl hc.1)];exact e1,fun v hv=>?_⟩
     rcases List.mem_cons.1 hv with rfl|hv
     ·omega
     ·exact e2 v hv
   ·right
    exact⟨t,by rw[if_neg (by omega)];exact e1,e2,e3,by simp[e4],e5⟩}
theorem NI.skip {u k:Nat} {ex':Nat->Prop} (h:NI G n p fa vi H S en ds ex) (hx: ∀j,j<G.es.length->ex j->ex' j∨j=k) (hu:G.frA k=u) (hc: ¬(fa.getD u 0+G.rc p k<fa.getD (G.toA k) 0/\0<G.room k)):NI G n p fa vi H S en ds ex':=
 {h with
  bel:=fun j a b c d=>by
   by_cases hjk:j=k
   ·subst hjk
    rw[hu]at *;omega
   ·exact h.bel j a b c (fun e=>(hx j a e).elim d hjk)}
theorem NI.relax {u k:Nat} {d:Int} {ex':Nat->Prop} (hG:G.Ok n) (hp:G.Pot n p) (h:NI G n p fa vi H S en ds ex) (hx: ∀j,j<G.es.length->ex j->ex' j∨j=k) (hk:k<G.es.length) (hu:G.frA k=u) (huS:u∈S) (hds:fa.getD u 0=ds)
 (hd:d=fa.getD u 0+G.rc p k) (hc:d<fa.getD (G.toA k) 0) (hr:0<G.room k):
 G.toA k<n/\0<=d/\NI G n p (fa.set (G.toA k) d) (vi.set (G.toA k) k) (((G.toA k:Int),d)::H) S en ds ex':=by
 have hv:=hG.toL hk;have hrc:=hp.rc k hk hr;have h0:=h.d0;generalize hvv:G.toA k=v at *;have hvS:v ∉ S:=fun hm=>by have:=h.sd v hm;omega
 have gf: ∀j,(fa.set v d).getD j 0=if j=v then d else fa.getD j 0:=fun j=>dw fa v j d (by rw[h.l1];exact hv)
 have gv: ∀j,(vi.set v (k:Int)).getD j 0=if j=v then (k:Int)else vi.getD j 0:=fun j=>dw vi v j k (by rw[h.l2];exact hv)
 have gS: ∀j,j∈S->j≠v:=fun j hj e=>hvS (e▸hj)
 have htv:=h.top v hv;have hdn:d<never:=by omega
 refine⟨hv,by omega,?_⟩;exact
 {l1:=by rw[List.length_set];exact h.l1
  l2:=by rw[List.length_set];exact h.l2
  sn:=h.sn,sl:=h.sl,d0:=h.d0
  top:=fun j hj=>by
   rw[gf j];have:=h.top j hj
   split<;>omega
  src:=fun j hj hl=>by
   rw[gf j];have:=h.src j hj hl
   split
   ·rename_i e;subst e;omega
   ·exact this
  via:=fun j hj=>by
   rw[gf j,gv j];have:=h.via j hj
   split
   ·refine⟨by omega,by omega,fun e=>by omega⟩
   ·exact this
  lnk:=fun j hj hl=>by
   by_cases e:j=v
   ·subst e
    right;refine⟨k,hk,by rw[gv,if_pos rfl],hvv,hr,by rw[hu];exact huS,?_⟩;rw[gf,if_pos rfl,gf,hu,if_neg (gS u huS)];exact hd
   ·rw[gf,if_neg e]at hl
    refine(h.lnk j hj hl).keep (fun w hw=>?_) (by rw[gv,if_neg e]);rw[gf,if_neg]
    rcases hw with hw|hw
    ·exact gS w hw
    ·rw[hw];exact e
  chn:=h.chn.keep (fun w hw=>by rw[gf,gv,if_neg (gS w hw),if_neg (gS w hw)];exact⟨rfl,rfl⟩)
  sd:=fun w hw=>by rw[gf,if_neg (gS w hw)];exact h.sd w hw
  hd:=fun e he=>by
   rcases List.mem_cons.1 he with rfl|he
   ·simp only;omega
   ·exact h.hd e he
  pnd:=fun w a b c=>by
   by_cases e:w=v
   ·subst e
    rw[gf,if_pos rfl];simp
   ·rw[gf,if_neg e]at b ⊢
    exact List.mem_cons_of_mem _ (h.pnd w a b c)
  ent:=fun e he=>by
   rcases List.mem_cons.1 he with rfl|he
   ·simp only[Int.toNat_natCast]
    rw[gf,if_pos rfl];exact⟨⟨by omega,by omega⟩,by omega,hdn,fun hm=>absurd hm hvS⟩
   ·have:=h.ent e he
    refine⟨this.1,?_,this.2.2.1,fun hm=>?_⟩
    ·rw[gf]
     split
     ·rename_i e1;rw[e1]at this;omega
     ·exact this.2.1
    ·rw[gf,if_neg (gS _ hm)]
     exact this.2.2.2 hm
  hn:=List.nodup_cons.2 ⟨fun hm=>by
   have:=(h.ent _ hm).2.1;simp only[Int.toNat_natCast]at this;omega,h.hn⟩
  bel:=fun j a b c e=>by
   rw[gf (G.frA j),if_neg (gS _ b),gf]
   by_cases hjk:j=k
   ·subst hjk
    rw[hvv,if_pos rfl,hu];omega
   ·have:=h.bel j a b c (fun e'=>(hx j a e').elim e hjk)
    split
    ·rename_i e1;rw[e1]at this;omega
    ·exact this
  fin:=by
   rcases h.fin with h1|⟨t,e1,e2,e3,e4,e5⟩
   ·exact .inl h1
   ·refine .inr ⟨t,e1,e2,e3,e4,fun w hw hl=>?_⟩
    rw[gf,gf,if_neg (gS t e4)]
    split
    ·have:=h.sd t e4
     omega
    ·exact e5 w hw hl}
end
structure NR (G:Gr) (n:Nat) (p fa vi:List Int) (en:Int):Prop where
 l1:fa.length=n
 l2:vi.length=n
 top: ∀v,v<n->0<=fa.getD v 0/\fa.getD v 0<=never
 src: ∀v,v<n->0<G.lf v->fa.getD v 0=0
 via: ∀v,v<n-> -1<=vi.getD v 0/\vi.getD v 0<G.es.length
 up: ∀v,v<n->fa.getD v 0<never->fa.getD v 0+p.getD v 0<=1048576*(n-1:Int)
 bel: ∀k,k<G.es.length->fa.getD (G.frA k) 0<never->0<G.room k->fa.getD (G.toA k) 0<=fa.getD (G.frA k) 0+G.rc p k/\fa.getD (G.toA k) 0<never
 ch: ∃S:List Nat,S.Nodup/\(∀v,v<n->(v∈S↔fa.getD v 0<never))/\(∀v,v∈S->v<n)/\Chn G p fa vi S
 fin:(en= -1/\ ∀v,v<n->fa.getD v 0<never->0<=G.lf v)∨ ∃t:Nat,en=(t:Int)/\t<n/\G.lf t<0/\fa.getD t 0<never/\ ∀v,v<n->G.lf v<0->fa.getD t 0<=fa.getD v 0
theorem NI.done {G:Gr} {n:Nat} {p fa vi:List Int} {S:List Nat} {en ds:Int} (hG:G.Ok n) (hp:G.Pot n p) (h:NI G n p fa vi [] S en ds (fun _=>False)):NR G n p fa vi en:=by
 have hS: ∀v,v<n->(v∈S↔fa.getD v 0<never):=fun v hv=>⟨fun hm=>(h.sd v hm).2,fun hl=>Decidable.byContradiction fun hn=>by have:=h.pnd v hv hl hn;simp at this⟩
 have hup: ∀v,v<n->fa.getD v 0<never->fa.getD v 0+p.getD v 0<=1048576*(n-1:Int):=fun v hv hl=>by
  have h1:=Chn.up hG hp h.chn h.sl v ((hS v hv).2 hl);have h2:=h.slen;have:=hG.n1;omega
 exact
 {l1:=h.l1,l2:=h.l2,top:=h.top,src:=h.src
  via:=fun v hv=>⟨(h.via v hv).1,(h.via v hv).2.1⟩
  up:=hup
  bel:=fun k hk hl hr=>by
   have h1:=h.bel k hk ((hS _ (hG.frL hk)).2 hl) hr (fun f=>f);refine⟨h1,?_⟩;have h2:=hup _ (hG.frL hk) hl;have h3:=hp.bd _ (hG.frL hk);have h4:=hp.bd _ (hG.toL hk);have h5:=hG.cb k hk;have:=hG.n1;unfold Gr.rc at h1;unfold never;omega
  ch:=⟨S,h.sn,hS,h.sl,h.chn⟩
  fin:=by
   rcases h.fin with ⟨e1,e2⟩|⟨t,e1,e2,e3,e4,e5⟩
   ·exact .inl ⟨e1,fun v hv hl=>e2 v ((hS v hv).2 hl)⟩
   ·exact .inr ⟨t,e1,e2,e3,(hS t e2).1 e4,e5⟩}
theorem NI.start {G:Gr} {n:Nat} {p fa vi:List Int} {H:List Vs} (l1:fa.length=n) (l2:vi.length=n) (hf: ∀v,v<n->fa.getD v 0=if 0<G.lf v then 0 else never) (hv: ∀v,v<n->vi.getD v 0= -1)
 (h1: ∀e,e∈H->e.2=0/\ ∃v:Nat,e.1=(v:Int)/\v<n/\0<G.lf v) (h2: ∀v:Nat,v<n->0<G.lf v->((v:Int),(0:Int))∈H) (hn:H.Nodup):NI G n p fa vi H [] (-1) 0 (fun _=>False):=by
 have hs: ∀v,v<n->fa.getD v 0<never->0<G.lf v:=fun v hv hl=>by
  rw[hf v hv]at hl
  split at hl
  ·assumption
  ·omega
 exact
 {l1:=l1,l2:=l2,sn:=List.nodup_nil,sl:=fun v h=>by simp at h,d0:=by omega
  top:=fun v hv=>by rw[hf v hv];unfold never;split<;>omega
  src:=fun v hv hl=>by rw[hf v hv,if_pos hl]
  via:=fun v h=>by rw[hv v h];omega
  lnk:=fun v a b=>.inl ⟨hs v a b,by rw[hf v a,if_pos (hs v a b)],hv v a⟩
  chn:=trivial
  sd:=fun v h=>by simp at h
  hd:=fun e he=>by have:=(h1 e he).1;omega
  pnd:=fun v a b _=>by rw[hf v a,if_pos (hs v a b)];exact h2 v a (hs v a b)
  ent:=fun e he=>by
   obtain⟨e2,v,e1,e3,e4⟩:=h1 e he;rw[e1,e2,Int.toNat_natCast,hf v e3,if_pos e4];refine⟨⟨by omega,by omega⟩,by omega,by unfold never;omega,fun h=>by simp at h⟩
  hn:=hn
  bel:=fun k _ h=>by simp at h
  fin:=.inl ⟨rfl,fun v h=>by simp at h⟩}
def sJ (G:Gr) (n k:Nat):List Int:=(List.range n).map fun v=>if v<k then (if 0<G.lf v then 0 else never)else 0
def uY (n k:Nat):List Int:=(List.range n).map fun v=>if v<k then -1 else 0
theorem je (G:Gr) (n k:Nat):(sJ G n k).length=n:=by simp[sJ]
theorem jI (n k:Nat):(uY n k).length=n:=by simp[uY]
theorem og {G:Gr} {n k v:Nat} (hv:v<n):(sJ G n k).getD v 0=if v<k then (if 0<G.lf v then 0 else never)else 0:=by
 simp[sJ,zg,hv]
theorem oh {n k v:Nat} (hv:v<n):(uY n k).getD v 0=if v<k then -1 else 0:=by
 simp[uY,zg,hv]
theorem iJ {a b:List Int} (hl:a.length=b.length) (h: ∀v,v<b.length->a.getD v 0=b.getD v 0):a=b:=by
 apply List.ext_getElem hl;intro i h1 h2;have:=h i h2;simpa [zg,h1,h2]using this
theorem GD (G:Gr) (n:Nat):List.replicate n 0=sJ G n 0:=by
 refine iJ (by simp[je]) (fun v hv=>?_);rw[je]at hv;rw[og hv];simp[zg,hv]
theorem GG (n:Nat):List.replicate n 0=uY n 0:=by
 refine iJ (by simp[jI]) (fun v hv=>?_);rw[jI]at hv;rw[oh hv];simp[zg,hv]
theorem vz (G:Gr) (n k:Nat) (hk:k<n):(sJ G n k).set k (if 0<G.lf k then 0 else never)=sJ G n (k+1):=by
 refine iJ (by simp[je]) (fun v hv=>?_);rw[je]at hv;rw[dw _ _ _ _ (by rw[je];exact hk),og hv,og hv]
 by_cases e:v=k
 ·subst e;rw[if_pos rfl,if_pos (Nat.lt_succ_self v)]
 ·rw[if_neg e]
  by_cases h:v<k
  ·rw[if_pos h,if_pos (show v<k+1 by omega)]
  ·rw[if_neg h,if_neg (show¬v<k+1 by omega)]
theorem vB (n k:Nat) (hk:k<n):(uY n k).set k (-1)=uY n (k+1):=by
 refine iJ (by simp[jI]) (fun v hv=>?_);rw[jI]at hv;rw[dw _ _ _ _ (by rw[jI];exact hk),oh hv,oh hv]
 by_cases e:v=k
 ·subst e;rw[if_pos rfl,if_pos (Nat.lt_succ_self v)]
 ·rw[if_neg e]
  by_cases h:v<k
  ·rw[if_pos h,if_pos (show v<k+1 by omega)]
  ·rw[if_neg h,if_neg (show¬v<k+1 by omega)]
def StI (G:Gr) (k:Nat) (H:List Vs):Prop:=(∀e,e∈H->e.2=0/\ ∃v:Nat,e.1=(v:Int)/\v<k/\0<G.lf v)/\(∀v:Nat,v<k->0<G.lf v->((v:Int),(0:Int))∈H)/\H.Nodup/\ny H/\H.length<=k
theorem StI.start (G:Gr):StI G 0 []:=⟨fun e h=>by simp at h,fun v h=>absurd h (Nat.not_lt_zero _),List.nodup_nil,Iw,Nat.le_refl _⟩
theorem StI.no {G:Gr} {k:Nat} {H:List Vs} (h:StI G k H) (hl: ¬0<G.lf k):StI G (k+1) H:=
 ⟨fun e he=>by obtain⟨a,v,b,c,d⟩:=h.1 e he;exact⟨a,v,b,by omega,d⟩,fun v hv hl'=>by
   rcases (show v<k∨v=k by omega)with h1|rfl
   ·exact h.2.1 v h1 hl'
   ·exact absurd hl' hl,h.2.2.1,h.2.2.2.1,by have:=h.2.2.2.2;omega⟩
theorem StI.yes {G:Gr} {k:Nat} {H H':List Vs} (h:StI G k H) (hl:0<G.lf k) (hp:H'.Perm (((k:Int),(0:Int))::H)) (hh:ny H'):StI G (k+1) H':=by
 refine⟨fun e he=>?_,fun v hv hl'=>?_,?_,hh,?_⟩
 ·rcases List.mem_cons.1 (hp.mem_iff.1 he)with rfl|he
  ·exact⟨rfl,k,rfl,by omega,hl⟩
  ·obtain⟨a,v,b,c,d⟩:=h.1 e he;exact⟨a,v,b,by omega,d⟩
 ·rw[hp.mem_iff]
  rcases (show v<k∨v=k by omega)with h1|rfl
  ·exact List.mem_cons_of_mem _ (h.2.1 v h1 hl')
  ·simp
 ·rw[hp.nodup_iff,List.nodup_cons]
  refine⟨fun hm=>?_,h.2.2.1⟩;obtain⟨_,v,b,c,_⟩:=h.1 _ hm;simp only at b;omega
 ·have:=hp.length_eq
  have:=h.2.2.2.2;simp at *;omega
theorem StI.ni {G:Gr} {n:Nat} {p:List Int} {H:List Vs} (h:StI G n H):NI G n p (sJ G n n) (uY n n) H [] (-1) 0 (fun _=>False):=
 NI.start (je _ _ _) (jI _ _) (fun v hv=>by rw[og hv,if_pos hv]) (fun v hv=>by rw[oh hv,if_pos hv]) h.1 h.2.1 h.2.2.1
theorem EH: ∀(l:List Int) (i:Nat) (d:Int),i<l.length->sum (l.set i d)=sum l-l.getD i 0+d
 |[],_,_,h=>absurd h (Nat.not_lt_zero _)
 |x::l,0,d,_=>by simp[sum];omega
 |x::l,i+1,d,h=>by
  have:=EH l i d (by simpa using h);simp only[List.set_cons_succ,sum,List.getD_cons_succ,this];omega
theorem Iz {l:List Int} (h: ∀v,v<l.length->0<=l.getD v 0):0<=sum l:=lq l (fun x hx=>by
 obtain⟨i,hi,rfl⟩:=List.getElem_of_mem hx;simpa [zg,hi]using h i hi)
def mu (fa:List Int) (H:List Vs):Nat:=2*(sum fa).toNat+H.length
theorem IA {fa:List Int} {H H':List Vs} {v:Nat} {d:Int} {e:Vs} (hv:v<fa.length) (h0: ∀j,j<fa.length->0<=fa.getD j 0) (hd:0<=d) (hlt:d<fa.getD v 0) (hp:H'.Perm (e::H)):mu (fa.set v d) H'<=mu fa H:=by
 have h1:=EH fa v d hv;have h2:=Iz h0;have h3:0<=sum (fa.set v d):=Iz (fun j hj=>by
  rw[List.length_set]at hj;rw[dw fa v j d hv]
  split
  ·exact hd
  ·exact h0 j hj)
 have h4:=hp.length_eq;unfold mu;simp only[List.length_cons]at h4;omega
theorem Qt {fa:List Int} {H R:List Vs} {e:Vs} (hp:(e::R).Perm H):mu fa R+1=mu fa H:=by
 have h4:=hp.length_eq;unfold mu;simp only[List.length_cons]at h4;omega
def exJ (l:List Int) (j:Nat) (k:Nat):Prop:=(k:Int)∈l.drop j
theorem IB {l:List Int} {j k:Nat} (hj:j<l.length) (hk:l.getD j 0=(k:Int)) (i:Nat) (h:exJ l j i):exJ l (j+1) i∨i=k:=by
 unfold exJ at *;rw[List.drop_eq_getElem_cons hj]at h;have:l[j]=(k:Int):=by simpa [zg,hj]using hk
 rw[this]at h
 rcases List.mem_cons.1 h with h|h
 ·right;omega
 ·exact .inl h
theorem Ms {l:List Int} {k:Nat} (h:exJ l l.length k):False:=by unfold exJ at h;simp at h
theorem Mt {G:Gr} {n:Nat} (hG:G.Ok n) {u j:Nat} (hu:u<n) (hj:j<(G.outs.getD u []).length): ∃k:Nat,(G.outs.getD u []).getD j 0=(k:Int)/\k<G.es.length/\G.frA k=u:=by
 have hm:(G.outs.getD u []).getD j 0∈G.outs.getD u []:=by
  rw[zg (l:=G.outs.getD u []),List.getElem?_eq_getElem hj];exact List.getElem_mem hj
 have h1:=hG.o1 u hu _ hm;exact⟨((G.outs.getD u []).getD j 0).toNat,by omega,by omega,h1.2.2⟩
def dX (x:Int):Bool:=decide (-1073741824<=x/\x<=1073741824)
def prS (N:Net) (ps:List Int):Nat->Int
 |0=>0
 |k+1=>prS N ps k-ps.getD k 0*N.sup.getD k 0
def prW (a:Arc) (ps:List Int):Int:=a.cap*min 0 (a.cost+ps.getD a.fr.toNat 0-ps.getD a.to.toNat 0)
def prA (N:Net) (ps:List Int):Nat->Int
 |0=>prS N ps N.sup.length
 |k+1=>prA N ps k+prW (N.arcs.getD k default) ps
def prE (N:Net) (ps:List Int):Int:=if chE N=0 then (if ps.length=N.sup.length then (if ps.all dX=true then 0 else 3)else 20)else chE N
def prV (N:Net) (ps:List Int):Int:=if prE N ps=0 then prA N ps N.arcs.length else 0
theorem PH {N:Net} {ps:List Int} (h:chE N≠0):prE N ps=chE N/\prV N ps=0:=by simp[prE,prV,h]
theorem IE {N:Net} {ps:List Int} (h:chE N=0) (hl:ps.length≠N.sup.length):prE N ps=20/\prV N ps=0:=by simp[prE,prV,h,hl]
theorem PI {N:Net} {ps:List Int} (h:chE N=0) (hl:ps.length=N.sup.length) (k:Nat) (hk:k<ps.length) (hp:dX (ps.getD k 0)=false):prE N ps=3/\prV N ps=0:=by
 have:ps.all dX=false:=by
  cases hb:ps.all dX
  ·rfl
  ·have:=(kG (α:=Int)).1 hb k hk
   rw[show(default:Int)=0 from rfl,hp]at this
   cases this
 simp[prE,prV,h,hl,this]
theorem CU {N:Net} {ps:List Int} (h:chE N=0) (hl:ps.length=N.sup.length) (hp: ∀k,k<ps.length->dX (ps.getD k 0)=true):prE N ps=0/\prV N ps=prA N ps N.arcs.length:=by
 have:ps.all dX=true:=(kG (α:=Int)).2 hp;simp[prE,prV,h,hl,this]
theorem dR {x:Int}:dX x=true↔ -1073741824<=x/\x<=1073741824:=by simp[dX]
theorem Mv {N:Net} (h:chE N=0):sum (N.sup.map abs)<=268435456:=by
 have h2:=(kI h).2;simp only[okB,Bool.and_eq_true,decide_eq_true_eq]at h2;exact h2.2.2.2
theorem pW: ∀(l:List Int) (k:Nat),(∀x,x∈l->0<=x)->sum (l.take k)<=sum l
 |[],k,_=>by simp[sum]
 |x::l,0,h=>by have:=lq (x::l) h;simpa [sum]using this
 |x::l,k+1,h=>by
  have:=pW l k (fun y hy=>h y (by simp[hy]));simp only[List.take_succ_cons,sum];omega
theorem wH {p s P:Int} (hp: -P<=p/\p<=P): -(P*abs s)<=p*s/\p*s<=P*abs s:=by
 unfold abs
 rcases Int.le_total 0 s with h|h
 ·rw[Int.max_eq_left (by omega)]
  have h1:=Int.mul_le_mul_of_nonneg_right hp.1 h;have h2:=Int.mul_le_mul_of_nonneg_right hp.2 h;rw[Int.neg_mul]at h1;exact⟨h1,h2⟩
 ·rw[Int.max_eq_right (by omega)]
  have h0:0<= -s:=by omega
  have h1:=Int.mul_le_mul_of_nonneg_right hp.1 h0;have h2:=Int.mul_le_mul_of_nonneg_right hp.2 h0;rw[Int.mul_neg,Int.mul_neg]at h2;rw[Int.neg_mul,Int.mul_neg,Int.mul_neg]at h1;rw[Int.mul_neg];omega
theorem IG {N:Net} {ps:List Int}: ∀k:Nat,k<=N.sup.length->(∀j,j<k->dX (ps.getD j 0)=true)->
 -(1073741824*sum ((N.sup.map abs).take k))<=prS N ps k/\prS N ps k<=1073741824*sum ((N.sup.map abs).take k)
 |0,_,_=>by simp[prS,sum]
 |k+1,hk,hp=>by
  have ih:=IG (N:=N) (ps:=ps) k (by omega) (fun j hj=>hp j (by omega));have h1:=jd (N.sup.map abs) k (by rw[List.length_map];omega);rw[getD_map abs N.sup k (by omega)]at h1;have h2:=wH (s:=N.sup.getD k 0) (dR.1 (hp k (by omega)));simp only[prS];rw[h1,Int.mul_add];omega
theorem wI {N:Net} {ps:List Int} (h:chE N=0) (k:Nat) (hk:k<=N.sup.length) (hp: ∀j,j<k->dX (ps.getD j 0)=true):
 -288230376151711744<=prS N ps k/\prS N ps k<=288230376151711744:=by
 have h1:=IG (N:=N) (ps:=ps) k hk hp;have h2:=pW (N.sup.map abs) k (fun x hx=>by
  obtain⟨y,_,rfl⟩:=List.mem_map.1 hx;unfold abs;omega)
 have h3:=Mv h;omega
theorem Qu {a:Arc} {ps:List Int} (hc:0<=a.cap/\a.cap<=1048576) (ho: -1048576<=a.cost/\a.cost<=1048576) (h1:dX (ps.getD a.fr.toNat 0)=true) (h2:dX (ps.getD a.to.toNat 0)=true):
 -2252899325313024<=prW a ps/\prW a ps<=0:=by
 have h1:=dR.1 h1;have h2:=dR.1 h2;unfold prW;generalize hm:min 0 (a.cost+ps.getD a.fr.toNat 0-ps.getD a.to.toNat 0)=z;have hz: -2148532224<=z/\z<=0:=by omega
 have q1:=Int.mul_le_mul_of_nonneg_left hz.1 hc.1;have q2:=Int.mul_le_mul_of_nonneg_left hz.2 hc.1;omega
theorem CX {N:Net} {ps:List Int} (h:chE N=0) (hl:ps.length=N.sup.length) (hp: ∀j,j<ps.length->dX (ps.getD j 0)=true): ∀k:Nat,k<=N.arcs.length->
 -(288230376151711744+2252899325313024*k:Int)<=prA N ps k/\prA N ps k<=288230376151711744
 |0,_=>by
  have:=wI h N.sup.length (Nat.le_refl _) (fun j hj=>hp j (by omega));simp only[prA];omega
 |k+1,hk=>by
  have ih:=CX h hl hp k (by omega);obtain⟨a1,a2,a3,a4,a5⟩:=bX h k (by omega);have:=Qu (ps:=ps) a4 a5 (hp _ (by omega)) (hp _ (by omega));simp only[prA];rw[Int.natCast_add];omega
def cutAt (n:Nat) (c:List Int) (k:Nat):Bool:=decide (0<=c.getD k 0/\c.getD k 0<n/\(0<k->c.getD (k-1) 0<c.getD k 0))
def GH (n:Nat) (c:List Int):Bool:=(List.range c.length).all (cutAt n c)
def inK (c:List Int) (k:Nat) (i:Int):Bool:=decide (i∈c.take k)
def lkS (N:Net) (c:List Int):Nat->Int
 |0=>0
 |k+1=>lkS N c k+N.sup.getD (c.getD k 0).toNat 0
def lkR (N:Net) (c:List Int) (k:Nat):Nat->Int
 |0=>0
 |j+1=>lkR N c k j+if inK c k j=true then N.sup.getD j 0 else 0
def lkA (N:Net) (c:List Int):Nat->Int
 |0=>lkS N c c.length
 |k+1=>lkA N c k-if inK c c.length (N.arcs.getD k default).fr=true/\inK c c.length (N.arcs.getD k default).to=false then (N.arcs.getD k default).cap else 0
def lkE (N:Net) (c:List Int):Int:=if chE N=0 then (if GH N.sup.length c=true then 0 else 3)else chE N
def lkV (N:Net) (c:List Int):Int:=if lkE N c=0 then max 0 (lkA N c N.arcs.length)else 0
theorem dS {n:Nat} {c:List Int} {k:Nat}:cutAt n c k=true↔0<=c.getD k 0/\c.getD k 0<n/\(0<k->c.getD (k-1) 0<c.getD k 0):=by simp only[cutAt,decide_eq_true_eq]
theorem Bd {n:Nat} {c:List Int}:GH n c=true↔ ∀k,k<c.length->cutAt n c k=true:=by simp only[GH,List.all_eq_true,List.mem_range]
theorem RG {N:Net} {c:List Int} (h:chE N≠0):lkE N c=chE N/\lkV N c=0:=by simp[lkE,lkV,h]
theorem RH {N:Net} {c:List Int} (h:chE N=0) (k:Nat) (hk:k<c.length) (hc:cutAt N.sup.length c k=false):lkE N c=3/\lkV N c=0:=by
 have:GH N.sup.length c=false:=by
  cases hb:GH N.sup.length c
  ·rfl
  ·rw[Bd.1 hb k hk]at hc;cases hc
 simp[lkE,lkV,h,this]
theorem II {N:Net} {c:List Int} (h:chE N=0) (hc: ∀k,k<c.length->cutAt N.sup.length c k=true):lkE N c=0/\lkV N c=max 0 (lkA N c N.arcs.length):=by
 have:GH N.sup.length c=true:=Bd.2 hc;simp[lkE,lkV,h,this]
theorem IJ {n:Nat} {c:List Int}: ∀k:Nat,(∀j,j<=k->cutAt n c j=true)->(k:Int)<=c.getD k 0
 |0,h=>(dS.1 (h 0 (Nat.le_refl _))).1
 |k+1,h=>by
  have h1:=IJ k (fun j hj=>h j (by omega));have h2:=(dS.1 (h (k+1) (Nat.le_refl _))).2.2 (by omega);simp only[Nat.add_sub_cancel]at h2;omega
theorem IK {n:Nat} {c:List Int} (k:Nat) (h: ∀j,j<k->cutAt n c j=true):k<=n:=by
 cases k with
 |zero=>exact Nat.zero_le _
 |succ k=>
  have h1:=IJ k (fun j hj=>h j (by omega));have h2:=(dS.1 (h k (by omega))).2.1;omega
theorem IL {N:Net} {c:List Int} (h:chE N=0): ∀k:Nat,(∀j,j<k->cutAt N.sup.length c j=true)-> -(268435456*k:Int)<=lkS N c k/\lkS N c k<=268435456*k
 |0,_=>by simp[lkS]
 |k+1,hc=>by
  have ih:=IL h k (fun j hj=>hc j (by omega));have h1:=dS.1 (hc k (by omega));have h2:=jW h (c.getD k 0).toNat (by omega);simp only[lkS];rw[Int.natCast_add];omega
theorem Be {c:List Int} {k:Nat} (hk:k<c.length) (i:Int):inK c (k+1) i=(inK c k i||decide (i=c.getD k 0)):=by
 unfold inK;rw[List.take_succ_eq_append_getElem hk];have:c.getD k 0=c[k]:=by simp[List.getD,hk]
 rw[this];simp only[List.mem_append,List.mem_singleton]
 by_cases h1:i∈c.take k<;>by_cases h2:i=c[k]<;>simp[h1,h2]
theorem Bf {n:Nat} {c:List Int} {j:Nat}: ∀k:Nat,(∀x,x<=k->cutAt n c x=true)->j<k->c.getD j 0<c.getD k 0
 |0,_,h=>absurd h (Nat.not_lt_zero _)
 |k+1,hc,h=>by
  have h2:=(dS.1 (hc (k+1) (Nat.le_refl _))).2.2 (by omega);simp only[Nat.add_sub_cancel]at h2
  by_cases hj:j=k
  ·subst hj;exact h2
  ·have:=Bf k (fun x hx=>hc x (by omega)) (show j<k by omega)
   omega
theorem Mw {n:Nat} {c:List Int} {k:Nat} (hk:k<c.length) (hc: ∀x,x<=k->cutAt n c x=true):inK c k (c.getD k 0)=false:=by
 unfold inK;rw[decide_eq_false_iff_not];intro hm;obtain⟨j,hj,e⟩:=List.getElem_of_mem hm;simp only[List.length_take]at hj;rw[List.getElem_take]at e;have h1:=Bf k hc (show j<k by omega);have:c.getD j 0=c[j]:=by simp[List.getD,show j<c.length by omega]
 rw[this,e]at h1;omega
theorem Bg (N:Net) (c:List Int): ∀j,lkR N c 0 j=0
 |0=>rfl
 |j+1=>by simp[lkR,Bg N c j,inK]
theorem Bh {N:Net} {n:Nat} {c:List Int} {k:Nat} (hk:k<c.length) (hc: ∀x,x<=k->cutAt n c x=true): ∀j:Nat,lkR N c (k+1) j=lkR N c k j+if (c.getD k 0).toNat<j then N.sup.getD (c.getD k 0).toNat 0 else 0
 |0=>by simp[lkR]
 |j+1=>by
  have ih:=Bh (N:=N) hk hc j;have h0:=(dS.1 (hc k (Nat.le_refl _))).1;have hn:=Mw hk hc;simp only[lkR];rw[ih,Be hk]
  by_cases he:(j:Int)=c.getD k 0
  ·have e2:(c.getD k 0).toNat=j:=by omega
   rw[<-he]at hn;rw[e2,hn,he];simp
  ·have e2:(c.getD k 0).toNat≠j:=by omega
   simp only[he,decide_false,Bool.or_false]
   by_cases h3:(c.getD k 0).toNat<j
   ·rw[if_pos h3,if_pos (show(c.getD k 0).toNat<j+1 by omega)];omega
   ·rw[if_neg h3,if_neg (show¬(c.getD k 0).toNat<j+1 by omega)];omega
theorem sK {N:Net} {c:List Int}: ∀k:Nat,k<=c.length->(∀x,x<k->cutAt N.sup.length c x=true)->lkR N c k N.sup.length=lkS N c k
 |0,_,_=>by simp[Bg,lkS]
 |k+1,hk,hc=>by
  have h1:=dS.1 (hc k (by omega));rw[Bh (n:=N.sup.length) (by omega) (fun x hx=>hc x (by omega)),sK k (by omega) (fun x hx=>hc x (by omega)),if_pos (by omega)];rfl
def bZ (q g:Nat->Int):Nat->Int
 |0=>0
 |n+1=>bZ q g n+q n*g n
theorem jE {q g h:Nat->Int}: ∀n:Nat,(∀v,v<n->g v=h v)->bZ q g n=bZ q h n
 |0,_=>rfl
 |n+1,e=>by simp only[bZ];rw[jE n (fun v hv=>e v (by omega)),e n (by omega)]
theorem EI (q g h:Nat->Int): ∀n:Nat,bZ q (fun v=>g v+h v) n=bZ q g n+bZ q h n
 |0=>rfl
 |n+1=>by simp only[bZ];rw[EI q g h n,Int.mul_add];omega
theorem rD (q g h:Nat->Int): ∀n:Nat,bZ q (fun v=>g v-h v) n=bZ q g n-bZ q h n
 |0=>rfl
 |n+1=>by simp only[bZ];rw[rD q g h n,Int.mul_sub];omega
theorem wJ (q:Nat->Int) (a:Nat) (x:Int): ∀n:Nat,bZ q (fun v=>if v=a then x else 0) n=if a<n then q a*x else 0
 |0=>rfl
 |n+1=>by
  simp only[bZ];rw[wJ q a x n]
  by_cases h:n=a
  ·subst h;rw[if_neg (Nat.lt_irrefl n),if_pos rfl,if_pos (by omega)];omega
  ·rw[if_neg h]
   by_cases h2:a<n
   ·rw[if_pos h2,if_pos (by omega)];simp
   ·rw[if_neg h2,if_neg (by omega)];simp
theorem CZ {q g:Nat->Int}: ∀n:Nat,(∀v,v<n->0<=q v*g v)->0<=bZ q g n
 |0,_=>Int.le_refl _
 |n+1,h=>by
  have:=CZ (q:=q) (g:=g) n (fun v hv=>h v (by omega));have:=h n (by omega);simp only[bZ];omega
def frN (N:Net) (j:Nat):Nat:=(N.arcs.getD j default).fr.toNat
def toN (N:Net) (j:Nat):Nat:=(N.arcs.getD j default).to.toNat
def lv (N:Net) (f:Nat->Int):Nat->Nat->Int
 |0,v=>N.sup.getD v 0
 |k+1,v=>lv N f k v+(if v=toN N k then f k else 0)-(if v=frN N k then f k else 0)
def eH (f g:Nat->Int):Nat->Int
 |0=>0
 |k+1=>eH f g k+f k*g k
theorem o9 {f g h:Nat->Int}: ∀k:Nat,(∀j,j<k->f j*g j=h j)->eH f g k=eH (fun _=>1) h k
 |0,_=>rfl
 |k+1,e=>by simp only[eH];rw[o9 k (fun j hj=>e j (by omega)),e k (by omega)];omega
theorem sM {f g h:Nat->Int}: ∀k:Nat,(∀j,j<k->h j<=f j*g j)->eH (fun _=>1) h k<=eH f g k
 |0,_=>Int.le_refl _
 |k+1,e=>by
  have:=sM (f:=f) (g:=g) (h:=h) k (fun j hj=>e j (by omega));have:=e k (by omega);simp only[eH];omega
theorem EK (f g h:Nat->Int): ∀k:Nat,eH f (fun j=>g j-h j) k=eH f g k-eH f h k
 |0=>rfl
 |k+1=>by simp only[eH];rw[EK f g h k,Int.mul_sub];omega
theorem sN {N:Net} (h:chE N=0) (q f:Nat->Int): ∀k:Nat,k<=N.arcs.length->bZ q (lv N f k) N.sup.length=bZ q (fun v=>N.sup.getD v 0) N.sup.length+eH f (fun j=>q (toN N j)-q (frN N j)) k
 |0,_=>by simp only[eH,Int.add_zero];rfl
 |k+1,hk=>by
  obtain⟨a1,a2,_⟩:=bX h k (by omega);have e1:lv N f (k+1)=fun v=>(lv N f k v+(if v=toN N k then f k else 0))-(if v=frN N k then f k else 0):=rfl
  rw[e1,rD,EI,sN h q f k (by omega),wJ,wJ,if_pos (by unfold toN;omega),if_pos (by unfold frN;omega)];simp only[eH];rw[Int.mul_sub,Int.mul_comm (f k) (q (toN N k)),Int.mul_comm (f k) (q (frN N k))];omega
theorem wK (l:List Int) (i d:Int) (hi:i.toNat<l.length) (v:Nat):(mv l i d).getD v 0=l.getD v 0+if v=i.toNat then d else 0:=by
 unfold mv;rw[dw _ _ _ _ hi]
 split
 ·rename_i e;rw[e]
 ·omega
theorem om {N:Net} (h:chE N=0) (fl:List Int): ∀k:Nat,k<=N.arcs.length-> ∀v,(gU N fl k).getD v 0=lv N (fun j=>fl.getD j 0) k v
 |0,_,v=>rfl
 |k+1,hk,v=>by
  obtain⟨a1,a2,_⟩:=bX h k (by omega);have hl:=dW N fl k;simp only[gU,lv];rw[wK _ _ _ (by rw[gD,hl];omega),wK _ _ _ (by rw[hl];omega),om h fl k (by omega) v];unfold toN frN
  split<;>split<;>omega
theorem pg {N:Net} {f f':Nat->Int} {i:Nat} {d:Int} (hi:f' i=f i+d) (ho: ∀j,j≠i->f' j=f j): ∀(k:Nat) (v:Nat),lv N f' k v=lv N f k v+if i<k then ((if v=toN N i then d else 0)-(if v=frN N i then d else 0))else 0
 |0,v=>by simp[lv]
 |k+1,v=>by
  simp only[lv];rw[pg hi ho k v]
  by_cases h:k=i
  ·subst h
   rw[if_neg (Nat.lt_irrefl k),if_pos (Nat.lt_succ_self k),hi]
   split<;>split<;>omega
  ·rw[ho k h]
   by_cases h2:i<k
   ·rw[if_pos h2,if_pos (show i<k+1 by omega)];omega
   ·rw[if_neg h2,if_neg (show¬i<k+1 by omega)];omega
theorem iE {N:Net} {fl:List Int} (h:chE N=0) (hf:ak N fl=true):(∀v,v<N.sup.length->lv N (fun j=>fl.getD j 0) N.arcs.length v=0)/\(∀j,j<N.arcs.length->0<=fl.getD j 0/\fl.getD j 0<=(N.arcs.getD j default).cap):=by
 simp only[ak,Bool.and_eq_true,decide_eq_true_eq]at hf;refine⟨fun v hv=>?_,sI.1 hf.2.1⟩;rw[<-om h fl _ (Nat.le_refl _)];exact o6.1 hf.2.2 v (by rw[dW];exact hv)
theorem vC (N:Net) (fl:List Int): ∀k,aV N fl k=eH (fun j=>fl.getD j 0) (fun j=>(N.arcs.getD j default).cost) k
 |0=>rfl
 |k+1=>by simp only[aV,eH];rw[vC N fl k]
theorem EN (N:Net) (ps:List Int): ∀k,prS N ps k= -bZ (fun v=>ps.getD v 0) (fun v=>N.sup.getD v 0) k
 |0=>rfl
 |k+1=>by simp only[prS,bZ];rw[EN N ps k];omega
def rcN (N:Net) (ps:List Int) (j:Nat):Int:=(N.arcs.getD j default).cost+ps.getD (frN N j) 0-ps.getD (toN N j) 0
theorem wL (N:Net) (ps:List Int): ∀k,prA N ps k=prS N ps N.sup.length+eH (fun _=>1) (fun j=>(N.arcs.getD j default).cap*min 0 (rcN N ps j)) k
 |0=>by simp[prA,eH]
 |k+1=>by
  simp only[prA,eH];rw[wL N ps k];unfold prW rcN frN toN;omega
theorem EO {N:Net} {fl ps:List Int} (h:chE N=0) (hf:ak N fl=true):aV N fl N.arcs.length=prS N ps N.sup.length+eH (fun j=>fl.getD j 0) (rcN N ps) N.arcs.length:=by
 have h1:=iE h hf;have h2:=sN h (fun v=>ps.getD v 0) (fun j=>fl.getD j 0) N.arcs.length (Nat.le_refl _);rw[jE (h:=fun _=>0) _ h1.1]at h2;have h3:bZ (fun v=>ps.getD v 0) (fun _=>0) N.sup.length=0:=by
  generalize N.sup.length=n
  induction n with
  |zero=>rfl
  |succ n ih=>simp only[bZ];rw[ih];simp
 rw[h3]at h2;have h4:=EK (fun j=>fl.getD j 0) (fun j=>(N.arcs.getD j default).cost) (fun j=>ps.getD (toN N j) 0-ps.getD (frN N j) 0) N.arcs.length;have h5:rcN N ps=fun j=>(N.arcs.getD j default).cost -(ps.getD (toN N j) 0-ps.getD (frN N j) 0):=by
  funext j;unfold rcN;omega
 rw[h5,h4,vC,EN];omega
theorem weak {N:Net} {fl ps:List Int} (h:chE N=0) (hf:ak N fl=true):prA N ps N.arcs.length<=aV N fl N.arcs.length:=by
 rw[EO (ps:=ps) h hf,wL];have h1:=iE h hf;have:=sM (f:=fun j=>fl.getD j 0) (g:=rcN N ps) (h:=fun j=>(N.arcs.getD j default).cap*min 0 (rcN N ps j)) N.arcs.length (fun j hj=>by
  have h2:=h1.2 j hj
  rcases Int.le_total 0 (rcN N ps j)with h3|h3
  ·rw[Int.min_eq_left h3,Int.mul_zero]
   exact Int.mul_nonneg h2.1 h3
  ·rw[Int.min_eq_right h3]
   exact Int.mul_le_mul_of_nonpos_right h2.2 h3)
 omega
theorem Qv {N:Net} {fl ps:List Int} (h:chE N=0) (hf:ak N fl=true) (hs: ∀j,j<N.arcs.length->(fl.getD j 0<(N.arcs.getD j default).cap->0<=rcN N ps j)/\(0<fl.getD j 0->rcN N ps j<=0)):aV N fl N.arcs.length=prA N ps N.arcs.length:=by
 rw[EO (ps:=ps) h hf,wL];have h1:=iE h hf;rw[o9 (h:=fun j=>(N.arcs.getD j default).cap*min 0 (rcN N ps j)) N.arcs.length (fun j hj=>by
  have h2:=h1.2 j hj;have h3:=hs j hj
  rcases Int.lt_trichotomy (rcN N ps j) 0 with h4|h4|h4
  ·have:fl.getD j 0=(N.arcs.getD j default).cap:=by omega
   rw[this,Int.min_eq_right (by omega)]
  ·rw[h4];simp
  ·have:fl.getD j 0=0:=by omega
   rw[this,Int.min_eq_left (by omega)];simp)]
theorem sO {N:Net} {f:Nat->Int} {C:Nat->Bool} (h:chE N=0):
 bZ (fun v=>if C v=true then 1 else 0) (lv N f N.arcs.length) N.sup.length=bZ (fun v=>if C v=true then 1 else 0) (fun v=>N.sup.getD v 0) N.sup.length+eH f (fun j=>(if C (toN N j)=true then 1 else 0)-(if C (frN N j)=true then 1 else 0)) N.arcs.length:=
 sN h _ f _ (Nat.le_refl _)
end Dp
end Go.Proofs.Ytmebpglkeedaoaa
