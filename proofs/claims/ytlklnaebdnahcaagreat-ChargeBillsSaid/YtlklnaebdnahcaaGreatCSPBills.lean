/- Contracts that the claim leans on. -/
import Derived.Test.YtlklnaebdnahcaaGreatCS8
namespace Go.Proofs.YtlklnaebdnahcaaGreat
open Go.ChangeShapes Go.WideShapes Go.ChangeAt Go.RowKit
set_option linter.unusedVariables false
theorem chargeBills_own:ownKnob Tryz.prog.godebug=none:=by kernel_rfl
theorem chargeBills_laidOut:laidOutB Tryz.prog=true:=by kernel_rfl
theorem chargeBills_sh136:shK Tryz.prog 6 136=some (.s 3 (.i .u8 (.i .i16 (.i .u8 .nil))) .nil):=by kernel_rfl
set_option maxRecDepth 100000 in
theorem chargeBills_lifted (os:Os) (started:os.Started) (H:Type) (enc:TypeId×Value→H):
 ReturnsInHanded {} Tryz.checked os 5 .any (Rows.chargeBillsSpec.pre6 enc Tryz.prog Tryz.f5 Rows.chargeBillsRow.domain false) (Rows.chargeBillsSpec.post enc Tryz.prog Tryz.f5 false true false false):=by
 refine returnsInHanded_of_change (C:=Tryz.checked) chargeBills_own started (by kernel_rfl) Tryz.func5
  (ChangeSpec.witness6 (enc:=enc) (C:=Tryz.checked) false ⟨#[],#[.int .u8 0,.int .u8 0,.int .u8 0,.slice none 0 0],[]⟩ 8 (by kernel_rfl) (by kernel_rfl) (by kernel_rfl) (by kernel_rfl)) ?_
 intro W base args ds gs before hval0 hW hcnd _
 have hval: ∀(j:Nat) t v,Tryz.f5.params[j]?=some t→args[j]?=some v→Value.okWide Tryz.prog W .any base t v:=hval0
 have hW':=hW
 obtain⟨p,q,hA0,hV,rfl,hfz,hnd⟩:=hW
 obtain⟨rfl,rfl⟩:=trodVars_none hV
 simp only[List.append_nil]at hW'
 have hA:DataW.TrodAll enc Tryz.prog W 0 (fun _=>true) true Tryz.f5.params.toList args.toList ds p:=hA0
 have hA1:=hA
 rw[Tryz.params5]at hA hval
 obtain⟨v0,vs0,d0,ds0,p0,q0,hargs,rfl,hp0,r0,s0⟩:=trodAll_cons hA
 obtain⟨v1,vs1,d1,ds1,p1,q1,rfl,rfl,hp1,r1,s1⟩:=trodAll_cons s0
 obtain⟨v2,vs2,d2,ds2,p2,q2,rfl,rfl,hp2,r2,s2⟩:=trodAll_cons s1
 obtain⟨v3,vs3,d3,ds3,p3,q3,rfl,rfl,hp3,r3,s3⟩:=trodAll_cons s2
 obtain⟨rfl,rfl,rfl⟩:=trodAll_nil s3
 obtain rfl:args= #[v0,v1,v2,v3]:=by cases args;simp_all
 obtain⟨ev,rfl,_,_,wev⟩:=open_int Tryz.underlying5 (hval 0 _ v0 rfl rfl) r0
 obtain⟨sl,rfl,_,_,wsl⟩:=open_int Tryz.underlying5 (hval 1 _ v1 rfl rfl) r1
 obtain⟨cr,rfl,_,_,wcr⟩:=open_int Tryz.underlying5 (hval 2 _ v2 rfl rfl) r2
 obtain⟨A,hs,cap,rfl,hlc,hcm,hhs⟩:=sms_of (sh_slice Tryz.underlying136 chargeBills_sh136 (hval 3 _ v3 rfl rfl) r3)
 refine(Bills_walk ev sl cr A hs cap W (u8_bdS wev) (u8_bdS wsl) (u8_bdS wcr) hlc hcm hhs).mono fun e W' ⟨he,hb⟩=>?_
 subst he
 exact⟨_,rfl,law_post chargeBills_laidOut (by kernel_rfl) rfl hW' hA1 rfl rfl rfl (fun _ _ _=>(trodAll_cons_mk (shut_bool Tryz.underlying4 _) trodAll_mk0)) hb (ok_one (by kernel_rfl) rfl (okWide_bool_mk Tryz.underlying4 _))⟩
theorem chargeBills_holds:Rows.ChargeBillsSaid:=
 OpenClaim.holds_of_wide 5 Tryz.f5 rfl rfl rfl rfl rfl rfl rfl ⟨rfl,rfl,rfl,rfl,rfl⟩ rfl rfl rfl rfl rfl (by kernel_rfl) Tryz.func5 (by kernel_rfl)
  (of_decide_eq_true (by kernel_rfl)) (by unfold Func.isWrapper;first|(rw[if_pos (by decide+kernel)];kernel_rfl)|(rw[if_neg (by decide+kernel)];exact⟨rfl,rfl⟩))
  (fun os started H enc _=>chargeBills_lifted os started H enc)
#print axioms chargeBills_holds
end Go.Proofs.YtlklnaebdnahcaaGreat
