/- Contracts that the claim leans on. -/
import Derived.Test.YtmebpglkeedaoaaDR9
namespace Go.Proofs.Ytmebpglkeedaoaa
open Go.ChangeShapes Go.WideShapes Go.ChangeAt Go.RowKit Dp
set_option linter.unusedVariables false
theorem depotPlans_own:ownKnob Try.prog.godebug=none:=by kernel_rfl
theorem depotPlans_laidOut:laidOutB Try.prog=true:=by kernel_rfl
theorem depotPlans_sh51:shK Try.prog 10 51=some (.s 1 (.i .i64 .nil) (.s 1 (.i .i64 .nil) (.s 1 (.i .i64 .nil) (.s 1 (.i .i64 .nil) .nil)))):=by kernel_rfl
theorem depotPlans_sh52:shK Try.prog 10 52=some (.s 6 (.i .i64 (.i .i64 (.i .i64 (.i .i64 (.i .i64 (.s 3 (.i .i64 (.i .i64 (.i .i64 .nil))) .nil)))))) .nil):=by kernel_rfl
set_option maxRecDepth 100000 in
theorem depotPlans_lifted (os:Os) (started:os.Started) (H:Type) (enc:TypeId×Value->H):
 ReturnsInHanded {} Try.checked os 10 .any (Rows.depotPlansSpec.pre6 enc Try.prog Try.f10 Rows.depotPlansRow.domain false) (Rows.depotPlansSpec.post enc Try.prog Try.f10 false true false false):=by
 refine returnsInHanded_of_change (C:=Try.checked) depotPlans_own started (by kernel_rfl) Try.func10
  (ChangeSpec.witness6 (enc:=enc) (C:=Try.checked) false ⟨#[],#[.agg #[.slice none 0 0,.slice none 0 0,.slice none 0 0,.slice none 0 0],.slice none 0 0],[]⟩ 8 (by kernel_rfl) (by kernel_rfl) (by kernel_rfl) (by kernel_rfl)) ?_
 intro W base args ds gs before hval0 hW hcnd _;have hval: ∀(j:Nat) t v,Try.f10.params[j]?=some t->args[j]?=some v->Value.okWide Try.prog W .any base t v:=hval0;have hW':=hW;obtain⟨p,q,hA0,hV,rfl,hfz,hnd⟩:=hW;obtain⟨rfl,rfl⟩:=trodVars_none hV;simp only[List.append_nil]at hW';have hA:DataW.TrodAll enc Try.prog W 0 (fun _=>true) true Try.f10.params.toList args.toList ds p:=hA0;have hA1:=hA;rw[Try.params10]at hA hval;obtain⟨v0,vs0,d0,ds0,p0,q0,hargs,rfl,hp0,r0,s0⟩:=trodAll_cons hA;obtain⟨v1,vs1,d1,ds1,p1,q1,rfl,rfl,hp1,r1,s1⟩:=trodAll_cons s0;obtain⟨rfl,rfl,rfl⟩:=trodAll_nil s1;obtain rfl:args= #[v0,v1]:=by cases args;simp_all
 obtain⟨_,rfl,va,_,rfl,⟨vb,_,rfl,⟨vc,_,rfl,⟨vd,_,rfl,rfl,hsd⟩,hsc⟩,hsb⟩,hsa⟩:=Qp Try.underlying51 depotPlans_sh51 (hval 0 _ v0 rfl rfl) r0;obtain⟨A,sA,cA,rfl,jA1,jA2,jAi⟩:=ru hsa;obtain⟨B,sB,cB,rfl,jB1,jB2,jBi⟩:=ru hsb;obtain⟨C,sC,cC,rfl,jC1,jC2,jCi⟩:=ru hsc;obtain⟨D,sD,cD,rfl,jD1,jD2,jDi⟩:=ru hsd;obtain⟨E,cs,cE,rfl,jE1,jE2,jEi⟩:=MS (Ik Try.underlying52 depotPlans_sh52 (hval 1 _ v1 rfl rfl) r1);refine(Ey A B C D E ⟨sA,sB,sC,sD⟩ cs _ _ _ _ _ cA cB cC cD cE W rfl rfl rfl rfl rfl ⟨jA1,jA2⟩ ⟨jB1,jB2⟩ ⟨jC1,jC2⟩ ⟨jD1,jD2⟩ ⟨jE1,jE2⟩ ⟨jAi,jBi,jCi,jDi⟩ jEi).mono fun e W' ⟨he,hb⟩=>?_
 subst he;exact⟨_,rfl,Ij depotPlans_laidOut (by kernel_rfl) rfl hW' hA1 rfl rfl rfl (fun _ _ _=>(trodAll_cons_mk (shut_bool Try.underlying4 _) trodAll_mk0)) hb (ok_one (by kernel_rfl) rfl (okWide_bool_mk Try.underlying4 _))⟩
theorem depotPlans_holds:Rows.DepotPlansSaid:=
 OpenClaim.holds_of_wide 10 Try.f10 rfl rfl rfl rfl rfl rfl rfl ⟨rfl,rfl,rfl,rfl,rfl⟩ rfl rfl rfl rfl rfl (by kernel_rfl) Try.func10 (by kernel_rfl)
  (of_decide_eq_true (by kernel_rfl)) (by unfold Func.isWrapper;first|(rw[if_pos (by decide+kernel)];kernel_rfl)|(rw[if_neg (by decide+kernel)];exact⟨rfl,rfl⟩))
  (fun os started H enc _=>depotPlans_lifted os started H enc)
#print axioms depotPlans_holds
end Go.Proofs.Ytmebpglkeedaoaa
