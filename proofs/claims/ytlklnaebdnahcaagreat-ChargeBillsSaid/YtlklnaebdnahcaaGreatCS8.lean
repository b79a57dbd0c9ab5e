/- Contracts that the claim leans on. -/
import Derived.Test.YtlklnaebdnahcaaGreatCS7
import Derived.Laws.StructEq
import Derived.WalkKit
import Derived.ProofKit
import Derived.OpenShut
import Derived.Below
import Derived.ChangeSame
import Derived.WideKeyArgs
import Derived.Deep.Slices
set_option maxHeartbeats 8000000
set_option maxRecDepth 100000
set_option linter.unusedVariables false
set_option linter.unusedSimpArgs false
set_option linter.unnecessarySimpa false
namespace Go.Proofs.YtlklnaebdnahcaaGreat
open Go.RowKit Nw
theorem tick_in {A:Int} (hA: -32768≤A∧A≤32767):wrap64 A=A∧IntKind.i64.wrap A=A∧wrap64 (A*40)=A*40∧IntKind.i64.wrap (A*40)=A*40:=by
 have h:IntKind.i64.wrap A=A:=IntWalk.i64_in _ (by omega)
 have h2:IntKind.i64.wrap (A*40)=A*40:=IntWalk.i64_in _ (by omega)
 exact⟨by rw[←IntWalk.i64_left];exact h,h,by rw[←IntWalk.i64_left];exact h2,h2⟩
theorem loop_lt {i:Nat} (h:i<300):300-(intOf (.int .i64 ((i:Int)+1))).toNat<300-(intOf (.int .i64 (i:Int))).toNat:=by
 simp only[intOf]
 omega
theorem drN_go {D:Dl} {i:Nat} {S:St} (hi:i<300) (h:S.fl.length≠0):drN D (300-i) S=drN D (300-(i+1)) (Nw.doS D S 4 0 0 0):=by
 obtain⟨j,hj⟩: ∃j,300-i=j+1:=⟨299-i,by omega⟩
 have hj2:300-(i+1)=j:=by omega
 rw[hj,hj2]
 show(if S.fl.length=0 then S else drN D j (Nw.doS D S 4 0 0 0))=_
 rw[if_neg h]
theorem drN_end {D:Dl} {i:Nat} {S:St} (h:S.fl.length=0):drN D i S=S:=by
 cases i with
 |zero=>rfl
 |succ j=>
  show(if S.fl.length=0 then S else drN D j (Nw.doS D S 4 0 0 0))=_
  rw[if_pos h]
theorem act_2p {w W:World} {gr n gT gB:Nat} {av:Nat→Value} {D:Dl} {S S1:St} {T B:List (Int×Int)} {bad wg:Bool} (h:RunAt w W gr n gT gB av D S T B bad wg) {m:Nat} (ho:OkR m D S) (hm:m<80000) (d A b:Int) (hA: -32768≤A∧A≤32767) (hk:d.tmod 16=2) (hS1:S1=Nw.doS D S 3 (A*40) 0 0)
 (s f:Int) (hs:S1.sss=s) (hf:S1.flow=f) (hfp:0<f) (hi:f≠0→S1.inn=true) (h1:f≤D.dr) (h2: -f≤D.bk) (h3: -9223372036854775808<f∧f<9223372036854775808):
 Calls Tryz.prog 41 #[.pointer (some ⟨gr,0,none⟩),.agg #[.int .u8 d,.int .i16 A,.int .u8 b]] W fun e w'=>e=.returned (.tuple #[])∧RunAt w w' gr n gT gB av D (S1) (mput s (wrap64 (Bq.gt s T+f)) T) B bad wg:=by
 obtain⟨K,hoa⟩:=ho.a (by omega)
 have HO1:=zh (show OkR (m+1) D S1 from hS1▸ho.do (by omega) 3 (A*40) 0 0)
 have HM:=zh hm
 have al:=(Below.refl W.heap.size W).alloc (Nat.le_refl _) (.cells #[.int .u8 d,.int .i16 A,.int .u8 b] 142)
 have HX:=zh (Blk.new' W #[.int .u8 d,.int .i16 A,.int .u8 b] 142)
 have H1:=zh (h.below al)
 have HGL:=zh (show gr<W.heap.size from h.blk.lt)
 have PD:=zh (fun V (hV:RunAt w V gr n gT gB av D S T B bad wg)=>hV.do hoa 3 (A*40) 0 0)
 rw[←hS1]at PD
 obtain⟨fw,fi,mw,mi⟩:=tick_in hA
 have HS:=zh hs
 have HF:=zh hf
 have HI:=zh hi
 have HF1:=zh (show decide (D.dr<f)=false from decide_eq_false (by omega))
 have HF2:=zh (show decide (D.bk< -f)=false from decide_eq_false (by omega))
 have HFN:=zh (show wrap64 (-f)= -f from by rw[←IntWalk.i64_left];exact IntWalk.i64_in _ (by omega))
 have HFP:=zh hfp
 clear h ho hm hoa al hA hS1 hs hf hi h1 h2 h3 hfp
 go_enter Tryz.func41,Tryz.ntmps41
 go_upto_region 1 with fail
 generalize W.alloc (.cells #[.int .u8 d,.int .i16 A,.int .u8 b] 142)=w1 at *
 obtain⟨gb,hgb⟩: ∃gb,gb=W.heap.size:=⟨_,rfl⟩
 rw[←hgb]at HX HGL ⊢
 have HG:=zh hgb
 clear hgb
 have x0:=HX.out.cell 0 rfl
 have xl:=HX.out.lt
 go_upto_region 17 with fail
 clear x0 xl
 refine wp_region_then 9 _ ?af rfl (by kernel_rfl) (by kernel_rfl) ?walk ?tail
 case walk=>
  intro V hV
  have q0:=(H1.out.below hV).blk.cell 0 rfl
  have nl:=(H1.out.below hV).blk.lt
  have r0:=HX.out.below hV HX.out.lt
  have x1:=r0.cell 1 rfl
  have gl:=r0.lt
  clear r0
  clear hV
  simp only[List.take_succ_cons,List.take_zero]
  repeat(go_big_quiet_step (fail))
  refine wpQuiet_nil ?_
  rfl
 intro w8 hb8
 have H8:=zh (H1.out.below hb8)
 clear hb8
 go_simp
 refine(PD.out _ H8.out).mono ?_
 rintro e w9 ⟨rfl,hr⟩
 have HR:=zh hr
 clear hr
 dsimp only
 refine wpQuiet_nil ?_
 intro xx
 have HR2:=zh (HR.out.below xx.far)
 generalize xx.w=w2 at HR2 ⊢
 clear fw fi mw mi hk
 go_upto_region 18 with fail
 have q0:=HR2.out.blk.cell 0 rfl
 have nl:=HR2.out.blk.lt
 have PS:=zh (fun (y:Past w2)=>session_x (HR2.out.below y.far).net)
 have PF:=zh (fun (y:Past w2)=>flowing_x (HR2.out.below y.far).net)
 rw[HS.out]at PS
 rw[HF.out]at PF
 refine wp_region_past (by kernel_rfl) (by kernel_rfl) ?_
 repeat(go_big_quiet_step (first|(go_at_call 27;exact past_same (PS.out _))|(go_at_call 29;exact past_same (PF.out _))))
 refine wpQuiet_nil ?_
 intro xx
 have HR3:=zh (HR2.out.below xx.far)
 generalize xx.w=w3 at HR3 ⊢
 clear q0 nl PS PF
 have hd:decide (0<f)=true:=decide_eq_true HFP.out
 go_upto_region 20 with fail
 refine wp_region_then 13 _ ?afm rfl (by kernel_rfl) (by kernel_rfl) ?walkm ?tailm
 case walkm=>
  intro V hV
  have HV:=zh (HR3.out.below hV)
  have q0:=HV.out.blk.cell 10 rfl
  have nl:=HV.out.blk.lt
  have q1: ∀y:Past V,(Instr.lookup 143 (.map (some gT)) (.int .i64 s) false).run Tryz.prog y.w=.ok (.int .i64 (Bq.gt s T)) y.w:=fun y=>lookTk (HV.out.below y.far).mT s
  clear hV
  simp only[List.take_succ_cons,List.take_zero]
  repeat(go_big_quiet_step (fail))
  refine wpQuiet_nil ?_
  rfl
 intro w8 hb8
 have H8:=zh (HR3.out.below hb8)
 clear hb8
 refine wpO_mput rfl _ _ _ 143 rfl keyI Tryz.underlying143 H8.out.mT rfl s rfl (wrap64 (Bq.gt s T+f)) rfl ?_
 intro w9 hm9 ht9 hs9
 have H9:=zh (H8.out.putT hm9 ht9)
 clear hm9 ht9 hs9
 refine wpQuiet_nil ?_
 intro xx
 have H10:=zh (H9.out.below xx.far)
 generalize xx.w=w4 at H10 ⊢
 clear H8 H9
 dsimp only[Act.put]
 have q0:=H10.out.blk.cell 0 rfl
 have q8:=H10.out.blk.cell 8 rfl
 have q9:=H10.out.blk.cell 9 rfl
 have nl:=H10.out.blk.lt
 have PP:=zh (plugged_x H10.out.net)
 have hd1:=HF1.out
 have hd2:=HF2.out
 have hfn:=HFN.out
 have hn0:(f != 0)=true:=by have:=HFP.out;simp;omega
 have hin:S1.inn=true:=HI.out (by have:=HFP.out;omega)
 rw[hin]at PP
 clear hd hin
 go_upto_region 24 with (go_at_call 28;refine(PP.out).mono ?_;rintro e w5 ⟨rfl,rfl⟩)
 clear q0 q8 q9 nl hd1 hd2 hfn PP
 go_wp2_with fail
 refine wp_loop_rounds 1 ?_
 rw[rounds_succ]
 go_wp2_with fail
 exact bodyPost_end (v:=.tuple #[]) (by simp[results,Tryz.results41,go_sem]) rfl ⟨rfl,H10.out⟩
theorem act_2n {w W:World} {gr n gT gB:Nat} {av:Nat→Value} {D:Dl} {S S1:St} {T B:List (Int×Int)} {bad wg:Bool} (h:RunAt w W gr n gT gB av D S T B bad wg) {m:Nat} (ho:OkR m D S) (hm:m<80000) (d A b:Int) (hA: -32768≤A∧A≤32767) (hk:d.tmod 16=2) (hS1:S1=Nw.doS D S 3 (A*40) 0 0)
 (s f:Int) (hs:S1.sss=s) (hf:S1.flow=f) (hfp: ¬0<f) (hi:f≠0→S1.inn=true) (h1:f≤D.dr) (h2: -f≤D.bk) (h3: -9223372036854775808<f∧f<9223372036854775808):
 Calls Tryz.prog 41 #[.pointer (some ⟨gr,0,none⟩),.agg #[.int .u8 d,.int .i16 A,.int .u8 b]] W fun e w'=>e=.returned (.tuple #[])∧RunAt w w' gr n gT gB av D (S1) T (mput s (wrap64 (Bq.gt s B-f)) B) bad wg:=by
 obtain⟨K,hoa⟩:=ho.a (by omega)
 have HO1:=zh (show OkR (m+1) D S1 from hS1▸ho.do (by omega) 3 (A*40) 0 0)
 have HM:=zh hm
 have al:=(Below.refl W.heap.size W).alloc (Nat.le_refl _) (.cells #[.int .u8 d,.int .i16 A,.int .u8 b] 142)
 have HX:=zh (Blk.new' W #[.int .u8 d,.int .i16 A,.int .u8 b] 142)
 have H1:=zh (h.below al)
 have HGL:=zh (show gr<W.heap.size from h.blk.lt)
 have PD:=zh (fun V (hV:RunAt w V gr n gT gB av D S T B bad wg)=>hV.do hoa 3 (A*40) 0 0)
 rw[←hS1]at PD
 obtain⟨fw,fi,mw,mi⟩:=tick_in hA
 have HS:=zh hs
 have HF:=zh hf
 have HI:=zh hi
 have HF1:=zh (show decide (D.dr<f)=false from decide_eq_false (by omega))
 have HF2:=zh (show decide (D.bk< -f)=false from decide_eq_false (by omega))
 have HFN:=zh (show wrap64 (-f)= -f from by rw[←IntWalk.i64_left];exact IntWalk.i64_in _ (by omega))
 have HFP:=zh hfp
 clear h ho hm hoa al hA hS1 hs hf hi h1 h2 h3 hfp
 go_enter Tryz.func41,Tryz.ntmps41
 go_upto_region 1 with fail
 generalize W.alloc (.cells #[.int .u8 d,.int .i16 A,.int .u8 b] 142)=w1 at *
 obtain⟨gb,hgb⟩: ∃gb,gb=W.heap.size:=⟨_,rfl⟩
 rw[←hgb]at HX HGL ⊢
 have HG:=zh hgb
 clear hgb
 have x0:=HX.out.cell 0 rfl
 have xl:=HX.out.lt
 go_upto_region 17 with fail
 clear x0 xl
 refine wp_region_then 9 _ ?af rfl (by kernel_rfl) (by kernel_rfl) ?walk ?tail
 case walk=>
  intro V hV
  have q0:=(H1.out.below hV).blk.cell 0 rfl
  have nl:=(H1.out.below hV).blk.lt
  have r0:=HX.out.below hV HX.out.lt
  have x1:=r0.cell 1 rfl
  have gl:=r0.lt
  clear r0
  clear hV
  simp only[List.take_succ_cons,List.take_zero]
  repeat(go_big_quiet_step (fail))
  refine wpQuiet_nil ?_
  rfl
 intro w8 hb8
 have H8:=zh (H1.out.below hb8)
 clear hb8
 go_simp
 refine(PD.out _ H8.out).mono ?_
 rintro e w9 ⟨rfl,hr⟩
 have HR:=zh hr
 clear hr
 dsimp only
 refine wpQuiet_nil ?_
 intro xx
 have HR2:=zh (HR.out.below xx.far)
 generalize xx.w=w2 at HR2 ⊢
 clear fw fi mw mi hk
 go_upto_region 18 with fail
 have q0:=HR2.out.blk.cell 0 rfl
 have nl:=HR2.out.blk.lt
 have PS:=zh (fun (y:Past w2)=>session_x (HR2.out.below y.far).net)
 have PF:=zh (fun (y:Past w2)=>flowing_x (HR2.out.below y.far).net)
 rw[HS.out]at PS
 rw[HF.out]at PF
 refine wp_region_past (by kernel_rfl) (by kernel_rfl) ?_
 repeat(go_big_quiet_step (first|(go_at_call 27;exact past_same (PS.out _))|(go_at_call 29;exact past_same (PF.out _))))
 refine wpQuiet_nil ?_
 intro xx
 have HR3:=zh (HR2.out.below xx.far)
 generalize xx.w=w3 at HR3 ⊢
 clear q0 nl PS PF
 have hd:decide (0<f)=false:=decide_eq_false HFP.out
 go_upto_region 21 with fail
 refine wp_region_then 13 _ ?afm rfl (by kernel_rfl) (by kernel_rfl) ?walkm ?tailm
 case walkm=>
  intro V hV
  have HV:=zh (HR3.out.below hV)
  have q0:=HV.out.blk.cell 11 rfl
  have nl:=HV.out.blk.lt
  have q1: ∀y:Past V,(Instr.lookup 143 (.map (some gB)) (.int .i64 s) false).run Tryz.prog y.w=.ok (.int .i64 (Bq.gt s B)) y.w:=fun y=>lookTk (HV.out.below y.far).mB s
  clear hV
  simp only[List.take_succ_cons,List.take_zero]
  repeat(go_big_quiet_step (fail))
  refine wpQuiet_nil ?_
  rfl
 intro w8 hb8
 have H8:=zh (HR3.out.below hb8)
 clear hb8
 refine wpO_mput rfl _ _ _ 143 rfl keyI Tryz.underlying143 H8.out.mB rfl s rfl (wrap64 (Bq.gt s B-f)) rfl ?_
 intro w9 hm9 ht9 hs9
 have H9:=zh (H8.out.putB hm9 ht9)
 clear hm9 ht9 hs9
 refine wpQuiet_nil ?_
 intro xx
 have H10:=zh (H9.out.below xx.far)
 generalize xx.w=w4 at H10 ⊢
 clear H8 H9
 dsimp only[Act.put]
 have q0:=H10.out.blk.cell 0 rfl
 have q8:=H10.out.blk.cell 8 rfl
 have q9:=H10.out.blk.cell 9 rfl
 have nl:=H10.out.blk.lt
 have PP:=zh (plugged_x H10.out.net)
 have hd1:=HF1.out
 have hd2:=HF2.out
 have hfn:=HFN.out
 clear hd
 by_cases h0:f=0
 ·have hn0:(f != 0)=false:=by simp[h0]
  clear h0
  go_upto_region 24 with (go_at_call 28;refine(PP.out).mono ?_;rintro e w5 ⟨rfl,rfl⟩)
  clear q0 q8 q9 nl hd1 hd2 hfn PP
  go_wp2_with fail
  refine wp_loop_rounds 1 ?_
  rw[rounds_succ]
  go_wp2_with fail
  exact bodyPost_end (v:=.tuple #[]) (by simp[results,Tryz.results41,go_sem]) rfl ⟨rfl,H10.out⟩
 ·have hn0:(f != 0)=true:=by simpa using h0
  have hin:S1.inn=true:=HI.out h0
  rw[hin]at PP
  clear hin h0
  go_upto_region 24 with (go_at_call 28;refine(PP.out).mono ?_;rintro e w5 ⟨rfl,rfl⟩)
  clear q0 q8 q9 nl hd1 hd2 hfn PP
  go_wp2_with fail
  refine wp_loop_rounds 1 ?_
  rw[rounds_succ]
  go_wp2_with fail
  exact bodyPost_end (v:=.tuple #[]) (by simp[results,Tryz.results41,go_sem]) rfl ⟨rfl,H10.out⟩
theorem act_3p {w W:World} {gr n gT gB:Nat} {av:Nat→Value} {D:Dl} {S S1:St} {T B:List (Int×Int)} {bad wg:Bool} (h:RunAt w W gr n gT gB av D S T B bad wg) {m:Nat} (ho:OkR m D S) (hm:m<80000) (d A b:Int) (hA: -32768≤A∧A≤32767) (hk:d.tmod 16=3) (hS1:S1=Nw.doS D S 3 (A*40) 0 0)
 (s f:Int) (hs:S1.sss=s) (hf:S1.flow=f) (hfp:0<f) (hi:f≠0→S1.inn=true) (h1:f≤D.dr) (h2: -f≤D.bk) (h3: -9223372036854775808<f∧f<9223372036854775808):
 Calls Tryz.prog 41 #[.pointer (some ⟨gr,0,none⟩),.agg #[.int .u8 d,.int .i16 A,.int .u8 b]] W fun e w'=>e=.returned (.tuple #[])∧RunAt w w' gr n gT gB av D (S1) (mput s (wrap64 (Bq.gt s T+f)) T) B bad wg:=by
 obtain⟨K,hoa⟩:=ho.a (by omega)
 have HO1:=zh (show OkR (m+1) D S1 from hS1▸ho.do (by omega) 3 (A*40) 0 0)
 have HM:=zh hm
 have al:=(Below.refl W.heap.size W).alloc (Nat.le_refl _) (.cells #[.int .u8 d,.int .i16 A,.int .u8 b] 142)
 have HX:=zh (Blk.new' W #[.int .u8 d,.int .i16 A,.int .u8 b] 142)
 have H1:=zh (h.below al)
 have HGL:=zh (show gr<W.heap.size from h.blk.lt)
 have PD:=zh (fun V (hV:RunAt w V gr n gT gB av D S T B bad wg)=>hV.do hoa 3 (A*40) 0 0)
 rw[←hS1]at PD
 obtain⟨fw,fi,mw,mi⟩:=tick_in hA
 have HS:=zh hs
 have HF:=zh hf
 have HI:=zh hi
 have HF1:=zh (show decide (D.dr<f)=false from decide_eq_false (by omega))
 have HF2:=zh (show decide (D.bk< -f)=false from decide_eq_false (by omega))
 have HFN:=zh (show wrap64 (-f)= -f from by rw[←IntWalk.i64_left];exact IntWalk.i64_in _ (by omega))
 have HFP:=zh hfp
 clear h ho hm hoa al hA hS1 hs hf hi h1 h2 h3 hfp
 go_enter Tryz.func41,Tryz.ntmps41
 go_upto_region 1 with fail
 generalize W.alloc (.cells #[.int .u8 d,.int .i16 A,.int .u8 b] 142)=w1 at *
 obtain⟨gb,hgb⟩: ∃gb,gb=W.heap.size:=⟨_,rfl⟩
 rw[←hgb]at HX HGL ⊢
 have HG:=zh hgb
 clear hgb
 have x0:=HX.out.cell 0 rfl
 have xl:=HX.out.lt
 go_upto_region 17 with fail
 clear x0 xl
 refine wp_region_then 9 _ ?af rfl (by kernel_rfl) (by kernel_rfl) ?walk ?tail
 case walk=>
  intro V hV
  have q0:=(H1.out.below hV).blk.cell 0 rfl
  have nl:=(H1.out.below hV).blk.lt
  have r0:=HX.out.below hV HX.out.lt
  have x1:=r0.cell 1 rfl
  have gl:=r0.lt
  clear r0
  clear hV
  simp only[List.take_succ_cons,List.take_zero]
  repeat(go_big_quiet_step (fail))
  refine wpQuiet_nil ?_
  rfl
 intro w8 hb8
 have H8:=zh (H1.out.below hb8)
 clear hb8
 go_simp
 refine(PD.out _ H8.out).mono ?_
 rintro e w9 ⟨rfl,hr⟩
 have HR:=zh hr
 clear hr
 dsimp only
 refine wpQuiet_nil ?_
 intro xx
 have HR2:=zh (HR.out.below xx.far)
 generalize xx.w=w2 at HR2 ⊢
 clear fw fi mw mi hk
 go_upto_region 18 with fail
 have q0:=HR2.out.blk.cell 0 rfl
 have nl:=HR2.out.blk.lt
 have PS:=zh (fun (y:Past w2)=>session_x (HR2.out.below y.far).net)
 have PF:=zh (fun (y:Past w2)=>flowing_x (HR2.out.below y.far).net)
 rw[HS.out]at PS
 rw[HF.out]at PF
 refine wp_region_past (by kernel_rfl) (by kernel_rfl) ?_
 repeat(go_big_quiet_step (first|(go_at_call 27;exact past_same (PS.out _))|(go_at_call 29;exact past_same (PF.out _))))
 refine wpQuiet_nil ?_
 intro xx
 have HR3:=zh (HR2.out.below xx.far)
 generalize xx.w=w3 at HR3 ⊢
 clear q0 nl PS PF
 have hd:decide (0<f)=true:=decide_eq_true HFP.out
 go_upto_region 20 with fail
 refine wp_region_then 13 _ ?afm rfl (by kernel_rfl) (by kernel_rfl) ?walkm ?tailm
 case walkm=>
  intro V hV
  have HV:=zh (HR3.out.below hV)
  have q0:=HV.out.blk.cell 10 rfl
  have nl:=HV.out.blk.lt
  have q1: ∀y:Past V,(Instr.lookup 143 (.map (some gT)) (.int .i64 s) false).run Tryz.prog y.w=.ok (.int .i64 (Bq.gt s T)) y.w:=fun y=>lookTk (HV.out.below y.far).mT s
  clear hV
  simp only[List.take_succ_cons,List.take_zero]
  repeat(go_big_quiet_step (fail))
  refine wpQuiet_nil ?_
  rfl
 intro w8 hb8
 have H8:=zh (HR3.out.below hb8)
 clear hb8
 refine wpO_mput rfl _ _ _ 143 rfl keyI Tryz.underlying143 H8.out.mT rfl s rfl (wrap64 (Bq.gt s T+f)) rfl ?_
 intro w9 hm9 ht9 hs9
 have H9:=zh (H8.out.putT hm9 ht9)
 clear hm9 ht9 hs9
 refine wpQuiet_nil ?_
 intro xx
 have H10:=zh (H9.out.below xx.far)
 generalize xx.w=w4 at H10 ⊢
 clear H8 H9
 dsimp only[Act.put]
 have q0:=H10.out.blk.cell 0 rfl
 have q8:=H10.out.blk.cell 8 rfl
 have q9:=H10.out.blk.cell 9 rfl
 have nl:=H10.out.blk.lt
 have PP:=zh (plugged_x H10.out.net)
 have hd1:=HF1.out
 have hd2:=HF2.out
 have hfn:=HFN.out
 have hn0:(f != 0)=true:=by have:=HFP.out;simp;omega
 have hin:S1.inn=true:=HI.out (by have:=HFP.out;omega)
 rw[hin]at PP
 clear hd hin
 go_upto_region 24 with (go_at_call 28;refine(PP.out).mono ?_;rintro e w5 ⟨rfl,rfl⟩)
 clear q0 q8 q9 nl hd1 hd2 hfn PP
 go_wp2_with fail
 refine wp_loop_rounds 1 ?_
 rw[rounds_succ]
 go_wp2_with fail
 exact bodyPost_end (v:=.tuple #[]) (by simp[results,Tryz.results41,go_sem]) rfl ⟨rfl,H10.out⟩
theorem act_3n {w W:World} {gr n gT gB:Nat} {av:Nat→Value} {D:Dl} {S S1:St} {T B:List (Int×Int)} {bad wg:Bool} (h:RunAt w W gr n gT gB av D S T B bad wg) {m:Nat} (ho:OkR m D S) (hm:m<80000) (d A b:Int) (hA: -32768≤A∧A≤32767) (hk:d.tmod 16=3) (hS1:S1=Nw.doS D S 3 (A*40) 0 0)
 (s f:Int) (hs:S1.sss=s) (hf:S1.flow=f) (hfp: ¬0<f) (hi:f≠0→S1.inn=true) (h1:f≤D.dr) (h2: -f≤D.bk) (h3: -9223372036854775808<f∧f<9223372036854775808):
 Calls Tryz.prog 41 #[.pointer (some ⟨gr,0,none⟩),.agg #[.int .u8 d,.int .i16 A,.int .u8 b]] W fun e w'=>e=.returned (.tuple #[])∧RunAt w w' gr n gT gB av D (S1) T (mput s (wrap64 (Bq.gt s B-f)) B) bad wg:=by
 obtain⟨K,hoa⟩:=ho.a (by omega)
 have HO1:=zh (show OkR (m+1) D S1 from hS1▸ho.do (by omega) 3 (A*40) 0 0)
 have HM:=zh hm
 have al:=(Below.refl W.heap.size W).alloc (Nat.le_refl _) (.cells #[.int .u8 d,.int .i16 A,.int .u8 b] 142)
 have HX:=zh (Blk.new' W #[.int .u8 d,.int .i16 A,.int .u8 b] 142)
 have H1:=zh (h.below al)
 have HGL:=zh (show gr<W.heap.size from h.blk.lt)
 have PD:=zh (fun V (hV:RunAt w V gr n gT gB av D S T B bad wg)=>hV.do hoa 3 (A*40) 0 0)
 rw[←hS1]at PD
 obtain⟨fw,fi,mw,mi⟩:=tick_in hA
 have HS:=zh hs
 have HF:=zh hf
 have HI:=zh hi
 have HF1:=zh (show decide (D.dr<f)=false from decide_eq_false (by omega))
 have HF2:=zh (show decide (D.bk< -f)=false from decide_eq_false (by omega))
 have HFN:=zh (show wrap64 (-f)= -f from by rw[←IntWalk.i64_left];exact IntWalk.i64_in _ (by omega))
 have HFP:=zh hfp
 clear h ho hm hoa al hA hS1 hs hf hi h1 h2 h3 hfp
 go_enter Tryz.func41,Tryz.ntmps41
 go_upto_region 1 with fail
 generalize W.alloc (.cells #[.int .u8 d,.int .i16 A,.int .u8 b] 142)=w1 at *
 obtain⟨gb,hgb⟩: ∃gb,gb=W.heap.size:=⟨_,rfl⟩
 rw[←hgb]at HX HGL ⊢
 have HG:=zh hgb
 clear hgb
 have x0:=HX.out.cell 0 rfl
 have xl:=HX.out.lt
 go_upto_region 17 with fail
 clear x0 xl
 refine wp_region_then 9 _ ?af rfl (by kernel_rfl) (by kernel_rfl) ?walk ?tail
 case walk=>
  intro V hV
  have q0:=(H1.out.below hV).blk.cell 0 rfl
  have nl:=(H1.out.below hV).blk.lt
  have r0:=HX.out.below hV HX.out.lt
  have x1:=r0.cell 1 rfl
  have gl:=r0.lt
  clear r0
  clear hV
  simp only[List.take_succ_cons,List.take_zero]
  repeat(go_big_quiet_step (fail))
  refine wpQuiet_nil ?_
  rfl
 intro w8 hb8
 have H8:=zh (H1.out.below hb8)
 clear hb8
 go_simp
 refine(PD.out _ H8.out).mono ?_
 rintro e w9 ⟨rfl,hr⟩
 have HR:=zh hr
 clear hr
 dsimp only
 refine wpQuiet_nil ?_
 intro xx
 have HR2:=zh (HR.out.below xx.far)
 generalize xx.w=w2 at HR2 ⊢
 clear fw fi mw mi hk
 go_upto_region 18 with fail
 have q0:=HR2.out.blk.cell 0 rfl
 have nl:=HR2.out.blk.lt
 have PS:=zh (fun (y:Past w2)=>session_x (HR2.out.below y.far).net)
 have PF:=zh (fun (y:Past w2)=>flowing_x (HR2.out.below y.far).net)
 rw[HS.out]at PS
 rw[HF.out]at PF
 refine wp_region_past (by kernel_rfl) (by kernel_rfl) ?_
 repeat(go_big_quiet_step (first|(go_at_call 27;exact past_same (PS.out _))|(go_at_call 29;exact past_same (PF.out _))))
 refine wpQuiet_nil ?_
 intro xx
 have HR3:=zh (HR2.out.below xx.far)
 generalize xx.w=w3 at HR3 ⊢
 clear q0 nl PS PF
 have hd:decide (0<f)=false:=decide_eq_false HFP.out
 go_upto_region 21 with fail
 refine wp_region_then 13 _ ?afm rfl (by kernel_rfl) (by kernel_rfl) ?walkm ?tailm
 case walkm=>
  intro V hV
  have HV:=zh (HR3.out.below hV)
  have q0:=HV.out.blk.cell 11 rfl
  have nl:=HV.out.blk.lt
  have q1: ∀y:Past V,(Instr.lookup 143 (.map (some gB)) (.int .i64 s) false).run Tryz.prog y.w=.ok (.int .i64 (Bq.gt s B)) y.w:=fun y=>lookTk (HV.out.below y.far).mB s
  clear hV
  simp only[List.take_succ_cons,List.take_zero]
  repeat(go_big_quiet_step (fail))
  refine wpQuiet_nil ?_
  rfl
 intro w8 hb8
 have H8:=zh (HR3.out.below hb8)
 clear hb8
 refine wpO_mput rfl _ _ _ 143 rfl keyI Tryz.underlying143 H8.out.mB rfl s rfl (wrap64 (Bq.gt s B-f)) rfl ?_
 intro w9 hm9 ht9 hs9
 have H9:=zh (H8.out.putB hm9 ht9)
 clear hm9 ht9 hs9
 refine wpQuiet_nil ?_
 intro xx
 have H10:=zh (H9.out.below xx.far)
 generalize xx.w=w4 at H10 ⊢
 clear H8 H9
 dsimp only[Act.put]
 have q0:=H10.out.blk.cell 0 rfl
 have q8:=H10.out.blk.cell 8 rfl
 have q9:=H10.out.blk.cell 9 rfl
 have nl:=H10.out.blk.lt
 have PP:=zh (plugged_x H10.out.net)
 have hd1:=HF1.out
 have hd2:=HF2.out
 have hfn:=HFN.out
 clear hd
 by_cases h0:f=0
 ·have hn0:(f != 0)=false:=by simp[h0]
  clear h0
  go_upto_region 24 with (go_at_call 28;refine(PP.out).mono ?_;rintro e w5 ⟨rfl,rfl⟩)
  clear q0 q8 q9 nl hd1 hd2 hfn PP
  go_wp2_with fail
  refine wp_loop_rounds 1 ?_
  rw[rounds_succ]
  go_wp2_with fail
  exact bodyPost_end (v:=.tuple #[]) (by simp[results,Tryz.results41,go_sem]) rfl ⟨rfl,H10.out⟩
 ·have hn0:(f != 0)=true:=by simpa using h0
  have hin:S1.inn=true:=HI.out h0
  rw[hin]at PP
  clear hin h0
  go_upto_region 24 with (go_at_call 28;refine(PP.out).mono ?_;rintro e w5 ⟨rfl,rfl⟩)
  clear q0 q8 q9 nl hd1 hd2 hfn PP
  go_wp2_with fail
  refine wp_loop_rounds 1 ?_
  rw[rounds_succ]
  go_wp2_with fail
  exact bodyPost_end (v:=.tuple #[]) (by simp[results,Tryz.results41,go_sem]) rfl ⟨rfl,H10.out⟩
theorem act_4p {w W:World} {gr n gT gB:Nat} {av:Nat→Value} {D:Dl} {S S1:St} {T B:List (Int×Int)} {bad wg:Bool} (h:RunAt w W gr n gT gB av D S T B bad wg) {m:Nat} (ho:OkR m D S) (hm:m<80000) (d A b:Int) (hA: -32768≤A∧A≤32767) (hk:d.tmod 16=4) (hS1:S1=Nw.doS D S 3 (A*40) 0 0)
 (s f:Int) (hs:S1.sss=s) (hf:S1.flow=f) (hfp:0<f) (hi:f≠0→S1.inn=true) (h1:f≤D.dr) (h2: -f≤D.bk) (h3: -9223372036854775808<f∧f<9223372036854775808):
 Calls Tryz.prog 41 #[.pointer (some ⟨gr,0,none⟩),.agg #[.int .u8 d,.int .i16 A,.int .u8 b]] W fun e w'=>e=.returned (.tuple #[])∧RunAt w w' gr n gT gB av D (S1) (mput s (wrap64 (Bq.gt s T+f)) T) B bad wg:=by
 obtain⟨K,hoa⟩:=ho.a (by omega)
 have HO1:=zh (show OkR (m+1) D S1 from hS1▸ho.do (by omega) 3 (A*40) 0 0)
 have HM:=zh hm
 have al:=(Below.refl W.heap.size W).alloc (Nat.le_refl _) (.cells #[.int .u8 d,.int .i16 A,.int .u8 b] 142)
 have HX:=zh (Blk.new' W #[.int .u8 d,.int .i16 A,.int .u8 b] 142)
 have H1:=zh (h.below al)
 have HGL:=zh (show gr<W.heap.size from h.blk.lt)
 have PD:=zh (fun V (hV:RunAt w V gr n gT gB av D S T B bad wg)=>hV.do hoa 3 (A*40) 0 0)
 rw[←hS1]at PD
 obtain⟨fw,fi,mw,mi⟩:=tick_in hA
 have HS:=zh hs
 have HF:=zh hf
 have HI:=zh hi
 have HF1:=zh (show decide (D.dr<f)=false from decide_eq_false (by omega))
 have HF2:=zh (show decide (D.bk< -f)=false from decide_eq_false (by omega))
 have HFN:=zh (show wrap64 (-f)= -f from by rw[←IntWalk.i64_left];exact IntWalk.i64_in _ (by omega))
 have HFP:=zh hfp
 clear h ho hm hoa al hA hS1 hs hf hi h1 h2 h3 hfp
 go_enter Tryz.func41,Tryz.ntmps41
 go_upto_region 1 with fail
 generalize W.alloc (.cells #[.int .u8 d,.int .i16 A,.int .u8 b] 142)=w1 at *
 obtain⟨gb,hgb⟩: ∃gb,gb=W.heap.size:=⟨_,rfl⟩
 rw[←hgb]at HX HGL ⊢
 have HG:=zh hgb
 clear hgb
 have x0:=HX.out.cell 0 rfl
 have xl:=HX.out.lt
 go_upto_region 17 with fail
 clear x0 xl
 refine wp_region_then 9 _ ?af rfl (by kernel_rfl) (by kernel_rfl) ?walk ?tail
 case walk=>
  intro V hV
  have q0:=(H1.out.below hV).blk.cell 0 rfl
  have nl:=(H1.out.below hV).blk.lt
  have r0:=HX.out.below hV HX.out.lt
  have x1:=r0.cell 1 rfl
  have gl:=r0.lt
  clear r0
  clear hV
  simp only[List.take_succ_cons,List.take_zero]
  repeat(go_big_quiet_step (fail))
  refine wpQuiet_nil ?_
  rfl
 intro w8 hb8
 have H8:=zh (H1.out.below hb8)
 clear hb8
 go_simp
 refine(PD.out _ H8.out).mono ?_
 rintro e w9 ⟨rfl,hr⟩
 have HR:=zh hr
 clear hr
 dsimp only
 refine wpQuiet_nil ?_
 intro xx
 have HR2:=zh (HR.out.below xx.far)
 generalize xx.w=w2 at HR2 ⊢
 clear fw fi mw mi hk
 go_upto_region 18 with fail
 have q0:=HR2.out.blk.cell 0 rfl
 have nl:=HR2.out.blk.lt
 have PS:=zh (fun (y:Past w2)=>session_x (HR2.out.below y.far).net)
 have PF:=zh (fun (y:Past w2)=>flowing_x (HR2.out.below y.far).net)
 rw[HS.out]at PS
 rw[HF.out]at PF
 refine wp_region_past (by kernel_rfl) (by kernel_rfl) ?_
 repeat(go_big_quiet_step (first|(go_at_call 27;exact past_same (PS.out _))|(go_at_call 29;exact past_same (PF.out _))))
 refine wpQuiet_nil ?_
 intro xx
 have HR3:=zh (HR2.out.below xx.far)
 generalize xx.w=w3 at HR3 ⊢
 clear q0 nl PS PF
 have hd:decide (0<f)=true:=decide_eq_true HFP.out
 go_upto_region 20 with fail
 refine wp_region_then 13 _ ?afm rfl (by kernel_rfl) (by kernel_rfl) ?walkm ?tailm
 case walkm=>
  intro V hV
  have HV:=zh (HR3.out.below hV)
  have q0:=HV.out.blk.cell 10 rfl
  have nl:=HV.out.blk.lt
  have q1: ∀y:Past V,(Instr.lookup 143 (.map (some gT)) (.int .i64 s) false).run Tryz.prog y.w=.ok (.int .i64 (Bq.gt s T)) y.w:=fun y=>lookTk (HV.out.below y.far).mT s
  clear hV
  simp only[List.take_succ_cons,List.take_zero]
  repeat(go_big_quiet_step (fail))
  refine wpQuiet_nil ?_
  rfl
 intro w8 hb8
 have H8:=zh (HR3.out.below hb8)
 clear hb8
 refine wpO_mput rfl _ _ _ 143 rfl keyI Tryz.underlying143 H8.out.mT rfl s rfl (wrap64 (Bq.gt s T+f)) rfl ?_
 intro w9 hm9 ht9 hs9
 have H9:=zh (H8.out.putT hm9 ht9)
 clear hm9 ht9 hs9
 refine wpQuiet_nil ?_
 intro xx
 have H10:=zh (H9.out.below xx.far)
 generalize xx.w=w4 at H10 ⊢
 clear H8 H9
 dsimp only[Act.put]
 have q0:=H10.out.blk.cell 0 rfl
 have q8:=H10.out.blk.cell 8 rfl
 have q9:=H10.out.blk.cell 9 rfl
 have nl:=H10.out.blk.lt
 have PP:=zh (plugged_x H10.out.net)
 have hd1:=HF1.out
 have hd2:=HF2.out
 have hfn:=HFN.out
 have hn0:(f != 0)=true:=by have:=HFP.out;simp;omega
 have hin:S1.inn=true:=HI.out (by have:=HFP.out;omega)
 rw[hin]at PP
 clear hd hin
 go_upto_region 24 with (go_at_call 28;refine(PP.out).mono ?_;rintro e w5 ⟨rfl,rfl⟩)
 clear q0 q8 q9 nl hd1 hd2 hfn PP
 go_wp2_with fail
 refine wp_loop_rounds 1 ?_
 rw[rounds_succ]
 go_wp2_with fail
 exact bodyPost_end (v:=.tuple #[]) (by simp[results,Tryz.results41,go_sem]) rfl ⟨rfl,H10.out⟩
theorem act_4n {w W:World} {gr n gT gB:Nat} {av:Nat→Value} {D:Dl} {S S1:St} {T B:List (Int×Int)} {bad wg:Bool} (h:RunAt w W gr n gT gB av D S T B bad wg) {m:Nat} (ho:OkR m D S) (hm:m<80000) (d A b:Int) (hA: -32768≤A∧A≤32767) (hk:d.tmod 16=4) (hS1:S1=Nw.doS D S 3 (A*40) 0 0)
 (s f:Int) (hs:S1.sss=s) (hf:S1.flow=f) (hfp: ¬0<f) (hi:f≠0→S1.inn=true) (h1:f≤D.dr) (h2: -f≤D.bk) (h3: -9223372036854775808<f∧f<9223372036854775808):
 Calls Tryz.prog 41 #[.pointer (some ⟨gr,0,none⟩),.agg #[.int .u8 d,.int .i16 A,.int .u8 b]] W fun e w'=>e=.returned (.tuple #[])∧RunAt w w' gr n gT gB av D (S1) T (mput s (wrap64 (Bq.gt s B-f)) B) bad wg:=by
 obtain⟨K,hoa⟩:=ho.a (by omega)
 have HO1:=zh (show OkR (m+1) D S1 from hS1▸ho.do (by omega) 3 (A*40) 0 0)
 have HM:=zh hm
 have al:=(Below.refl W.heap.size W).alloc (Nat.le_refl _) (.cells #[.int .u8 d,.int .i16 A,.int .u8 b] 142)
 have HX:=zh (Blk.new' W #[.int .u8 d,.int .i16 A,.int .u8 b] 142)
 have H1:=zh (h.below al)
 have HGL:=zh (show gr<W.heap.size from h.blk.lt)
 have PD:=zh (fun V (hV:RunAt w V gr n gT gB av D S T B bad wg)=>hV.do hoa 3 (A*40) 0 0)
 rw[←hS1]at PD
 obtain⟨fw,fi,mw,mi⟩:=tick_in hA
 have HS:=zh hs
 have HF:=zh hf
 have HI:=zh hi
 have HF1:=zh (show decide (D.dr<f)=false from decide_eq_false (by omega))
 have HF2:=zh (show decide (D.bk< -f)=false from decide_eq_false (by omega))
 have HFN:=zh (show wrap64 (-f)= -f from by rw[←IntWalk.i64_left];exact IntWalk.i64_in _ (by omega))
 have HFP:=zh hfp
 clear h ho hm hoa al hA hS1 hs hf hi h1 h2 h3 hfp
 go_enter Tryz.func41,Tryz.ntmps41
 go_upto_region 1 with fail
 generalize W.alloc (.cells #[.int .u8 d,.int .i16 A,.int .u8 b] 142)=w1 at *
 obtain⟨gb,hgb⟩: ∃gb,gb=W.heap.size:=⟨_,rfl⟩
 rw[←hgb]at HX HGL ⊢
 have HG:=zh hgb
 clear hgb
 have x0:=HX.out.cell 0 rfl
 have xl:=HX.out.lt
 go_upto_region 17 with fail
 clear x0 xl
 refine wp_region_then 9 _ ?af rfl (by kernel_rfl) (by kernel_rfl) ?walk ?tail
 case walk=>
  intro V hV
  have q0:=(H1.out.below hV).blk.cell 0 rfl
  have nl:=(H1.out.below hV).blk.lt
  have r0:=HX.out.below hV HX.out.lt
  have x1:=r0.cell 1 rfl
  have gl:=r0.lt
  clear r0
  clear hV
  simp only[List.take_succ_cons,List.take_zero]
  repeat(go_big_quiet_step (fail))
  refine wpQuiet_nil ?_
  rfl
 intro w8 hb8
 have H8:=zh (H1.out.below hb8)
 clear hb8
 go_simp
 refine(PD.out _ H8.out).mono ?_
 rintro e w9 ⟨rfl,hr⟩
 have HR:=zh hr
 clear hr
 dsimp only
 refine wpQuiet_nil ?_
 intro xx
 have HR2:=zh (HR.out.below xx.far)
 generalize xx.w=w2 at HR2 ⊢
 clear fw fi mw mi hk
 go_upto_region 18 with fail
 have q0:=HR2.out.blk.cell 0 rfl
 have nl:=HR2.out.blk.lt
 have PS:=zh (fun (y:Past w2)=>session_x (HR2.out.below y.far).net)
 have PF:=zh (fun (y:Past w2)=>flowing_x (HR2.out.below y.far).net)
 rw[HS.out]at PS
 rw[HF.out]at PF
 refine wp_region_past (by kernel_rfl) (by kernel_rfl) ?_
 repeat(go_big_quiet_step (first|(go_at_call 27;exact past_same (PS.out _))|(go_at_call 29;exact past_same (PF.out _))))
 refine wpQuiet_nil ?_
 intro xx
 have HR3:=zh (HR2.out.below xx.far)
 generalize xx.w=w3 at HR3 ⊢
 clear q0 nl PS PF
 have hd:decide (0<f)=false:=decide_eq_false HFP.out
 go_upto_region 21 with fail
 refine wp_region_then 13 _ ?afm rfl (by kernel_rfl) (by kernel_rfl) ?walkm ?tailm
 case walkm=>
  intro V hV
  have HV:=zh (HR3.out.below hV)
  have q0:=HV.out.blk.cell 11 rfl
  have nl:=HV.out.blk.lt
  have q1: ∀y:Past V,(Instr.lookup 143 (.map (some gB)) (.int .i64 s) false).run Tryz.prog y.w=.ok (.int .i64 (Bq.gt s B)) y.w:=fun y=>lookTk (HV.out.below y.far).mB s
  clear hV
  simp only[List.take_succ_cons,List.take_zero]
  repeat(go_big_quiet_step (fail))
  refine wpQuiet_nil ?_
  rfl
 intro w8 hb8
 have H8:=zh (HR3.out.below hb8)
 clear hb8
 refine wpO_mput rfl _ _ _ 143 rfl keyI Tryz.underlying143 H8.out.mB rfl s rfl (wrap64 (Bq.gt s B-f)) rfl ?_
 intro w9 hm9 ht9 hs9
 have H9:=zh (H8.out.putB hm9 ht9)
 clear hm9 ht9 hs9
 refine wpQuiet_nil ?_
 intro xx
 have H10:=zh (H9.out.below xx.far)
 generalize xx.w=w4 at H10 ⊢
 clear H8 H9
 dsimp only[Act.put]
 have q0:=H10.out.blk.cell 0 rfl
 have q8:=H10.out.blk.cell 8 rfl
 have q9:=H10.out.blk.cell 9 rfl
 have nl:=H10.out.blk.lt
 have PP:=zh (plugged_x H10.out.net)
 have hd1:=HF1.out
 have hd2:=HF2.out
 have hfn:=HFN.out
 clear hd
 by_cases h0:f=0
 ·have hn0:(f != 0)=false:=by simp[h0]
  clear h0
  go_upto_region 24 with (go_at_call 28;refine(PP.out).mono ?_;rintro e w5 ⟨rfl,rfl⟩)
  clear q0 q8 q9 nl hd1 hd2 hfn PP
  go_wp2_with fail
  refine wp_loop_rounds 1 ?_
  rw[rounds_succ]
  go_wp2_with fail
  exact bodyPost_end (v:=.tuple #[]) (by simp[results,Tryz.results41,go_sem]) rfl ⟨rfl,H10.out⟩
 ·have hn0:(f != 0)=true:=by simpa using h0
  have hin:S1.inn=true:=HI.out h0
  rw[hin]at PP
  clear hin h0
  go_upto_region 24 with (go_at_call 28;refine(PP.out).mono ?_;rintro e w5 ⟨rfl,rfl⟩)
  clear q0 q8 q9 nl hd1 hd2 hfn PP
  go_wp2_with fail
  refine wp_loop_rounds 1 ?_
  rw[rounds_succ]
  go_wp2_with fail
  exact bodyPost_end (v:=.tuple #[]) (by simp[results,Tryz.results41,go_sem]) rfl ⟨rfl,H10.out⟩
end Go.Proofs.YtlklnaebdnahcaaGreat
namespace Go.Proofs.YtlklnaebdnahcaaGreat
open Go.RowKit Nw
theorem act_14p {w W:World} {gr n gT gB:Nat} {av:Nat→Value} {D:Dl} {S S1:St} {T B:List (Int×Int)} {bad wg:Bool} (h:RunAt w W gr n gT gB av D S T B bad wg) {m:Nat} (ho:OkR m D S) (hm:m<80000) (d A b:Int) (hA: -32768≤A∧A≤32767) (hk:d.tmod 16=14) (hS1:S1=Nw.doS D S 3 (A*40) 0 0)
 (s f:Int) (hs:S1.sss=s) (hf:S1.flow=f) (hfp:0<f) (hi:f≠0→S1.inn=true) (h1:f≤D.dr) (h2: -f≤D.bk) (h3: -9223372036854775808<f∧f<9223372036854775808):
 Calls Tryz.prog 41 #[.pointer (some ⟨gr,0,none⟩),.agg #[.int .u8 d,.int .i16 A,.int .u8 b]] W fun e w'=>e=.returned (.tuple #[])∧RunAt w w' gr n gT gB av D (drN D 300 S1) (mput s (wrap64 (Bq.gt s T+f)) T) B bad wg:=by
 obtain⟨K,hoa⟩:=ho.a (by omega)
 have HO1:=zh (show OkR (m+1) D S1 from hS1▸ho.do (by omega) 3 (A*40) 0 0)
 have HM:=zh hm
 have al:=(Below.refl W.heap.size W).alloc (Nat.le_refl _) (.cells #[.int .u8 d,.int .i16 A,.int .u8 b] 142)
 have HX:=zh (Blk.new' W #[.int .u8 d,.int .i16 A,.int .u8 b] 142)
 have H1:=zh (h.below al)
 have HGL:=zh (show gr<W.heap.size from h.blk.lt)
 have PD:=zh (fun V (hV:RunAt w V gr n gT gB av D S T B bad wg)=>hV.do hoa 3 (A*40) 0 0)
 rw[←hS1]at PD
 obtain⟨fw,fi,mw,mi⟩:=tick_in hA
 have HS:=zh hs
 have HF:=zh hf
 have HI:=zh hi
 have HF1:=zh (show decide (D.dr<f)=false from decide_eq_false (by omega))
 have HF2:=zh (show decide (D.bk< -f)=false from decide_eq_false (by omega))
 have HFN:=zh (show wrap64 (-f)= -f from by rw[←IntWalk.i64_left];exact IntWalk.i64_in _ (by omega))
 have HFP:=zh hfp
 clear h ho hm hoa al hA hS1 hs hf hi h1 h2 h3 hfp
 go_enter Tryz.func41,Tryz.ntmps41
 go_upto_region 1 with fail
 generalize W.alloc (.cells #[.int .u8 d,.int .i16 A,.int .u8 b] 142)=w1 at *
 obtain⟨gb,hgb⟩: ∃gb,gb=W.heap.size:=⟨_,rfl⟩
 rw[←hgb]at HX HGL ⊢
 have HG:=zh hgb
 clear hgb
 have x0:=HX.out.cell 0 rfl
 have xl:=HX.out.lt
 go_upto_region 17 with fail
 clear x0 xl
 refine wp_region_then 9 _ ?af rfl (by kernel_rfl) (by kernel_rfl) ?walk ?tail
 case walk=>
  intro V hV
  have q0:=(H1.out.below hV).blk.cell 0 rfl
  have nl:=(H1.out.below hV).blk.lt
  have r0:=HX.out.below hV HX.out.lt
  have x1:=r0.cell 1 rfl
  have gl:=r0.lt
  clear r0
  clear hV
  simp only[List.take_succ_cons,List.take_zero]
  repeat(go_big_quiet_step (fail))
  refine wpQuiet_nil ?_
  rfl
 intro w8 hb8
 have H8:=zh (H1.out.below hb8)
 clear hb8
 go_simp
 refine(PD.out _ H8.out).mono ?_
 rintro e w9 ⟨rfl,hr⟩
 have HR:=zh hr
 clear hr
 dsimp only
 refine wpQuiet_nil ?_
 intro xx
 have HR2:=zh (HR.out.below xx.far)
 generalize xx.w=w2 at HR2 ⊢
 clear fw fi mw mi hk
 go_upto_region 18 with fail
 have q0:=HR2.out.blk.cell 0 rfl
 have nl:=HR2.out.blk.lt
 have PS:=zh (fun (y:Past w2)=>session_x (HR2.out.below y.far).net)
 have PF:=zh (fun (y:Past w2)=>flowing_x (HR2.out.below y.far).net)
 rw[HS.out]at PS
 rw[HF.out]at PF
 refine wp_region_past (by kernel_rfl) (by kernel_rfl) ?_
 repeat(go_big_quiet_step (first|(go_at_call 27;exact past_same (PS.out _))|(go_at_call 29;exact past_same (PF.out _))))
 refine wpQuiet_nil ?_
 intro xx
 have HR3:=zh (HR2.out.below xx.far)
 generalize xx.w=w3 at HR3 ⊢
 clear q0 nl PS PF
 have hd:decide (0<f)=true:=decide_eq_true HFP.out
 go_upto_region 20 with fail
 refine wp_region_then 13 _ ?afm rfl (by kernel_rfl) (by kernel_rfl) ?walkm ?tailm
 case walkm=>
  intro V hV
  have HV:=zh (HR3.out.below hV)
  have q0:=HV.out.blk.cell 10 rfl
  have nl:=HV.out.blk.lt
  have q1: ∀y:Past V,(Instr.lookup 143 (.map (some gT)) (.int .i64 s) false).run Tryz.prog y.w=.ok (.int .i64 (Bq.gt s T)) y.w:=fun y=>lookTk (HV.out.below y.far).mT s
  clear hV
  simp only[List.take_succ_cons,List.take_zero]
  repeat(go_big_quiet_step (fail))
  refine wpQuiet_nil ?_
  rfl
 intro w8 hb8
 have H8:=zh (HR3.out.below hb8)
 clear hb8
 refine wpO_mput rfl _ _ _ 143 rfl keyI Tryz.underlying143 H8.out.mT rfl s rfl (wrap64 (Bq.gt s T+f)) rfl ?_
 intro w9 hm9 ht9 hs9
 have H9:=zh (H8.out.putT hm9 ht9)
 clear hm9 ht9 hs9
 refine wpQuiet_nil ?_
 intro xx
 have H10:=zh (H9.out.below xx.far)
 generalize xx.w=w4 at H10 ⊢
 clear H8 H9
 dsimp only[Act.put]
 have q0:=H10.out.blk.cell 0 rfl
 have q8:=H10.out.blk.cell 8 rfl
 have q9:=H10.out.blk.cell 9 rfl
 have nl:=H10.out.blk.lt
 have PP:=zh (plugged_x H10.out.net)
 have hd1:=HF1.out
 have hd2:=HF2.out
 have hfn:=HFN.out
 have hn0:(f != 0)=true:=by have:=HFP.out;simp;omega
 have hin:S1.inn=true:=HI.out (by have:=HFP.out;omega)
 rw[hin]at PP
 clear hd hin
 go_upto_region 24 with (go_at_call 28;refine(PP.out).mono ?_;rintro e w5 ⟨rfl,rfl⟩)
 clear q0 q8 q9 nl hd1 hd2 hfn PP
 go_wp2_with fail
 go_loopw [8] (fun v wr=> ∃i:Nat,i≤300∧v=.int .i64 i∧Hid (∃Si,RunAt w wr gr n gT gB av D Si (mput s (wrap64 (Bq.gt s T+f)) T) B bad wg∧OkR (m+1+i) D Si∧drN D (300-i) Si=drN D 300 S1)) (fun v _=>300-(intOf v).toNat)
 case atStart=>exact⟨0,Nat.zero_le _,rfl,zh ⟨S1,H10.out,HO1.out,rfl⟩⟩
 case round=>
  obtain⟨i,hi,rfl,HZ⟩:=hrel
  obtain⟨Si,hz1,hz2,hz3⟩:=HZ.out
  have HN:=zh hz1
  have HO:=zh hz2
  have HE:=zh hz3
  clear HZ hz1 hz2 hz3
  by_cases hlt:i<300
  ·have HLT:=zh hlt
   have hii:decide ((i:Int)<300)=true:=decide_eq_true (by omega)
   have hiw:wrap64 ((i:Int)+1)=(i:Int)+1:=by rw[←IntWalk.i64_left];exact IntWalk.i64_in _ (by omega)
   have q0:=HN.out.blk.cell 0 rfl
   have nl:=HN.out.blk.lt
   have PY:=zh (flying_x HN.out.net (Nat.le_trans HO.out.fl (by decide)))
   obtain⟨l,hl⟩: ∃l,l=Si.fl.length:=⟨_,rfl⟩
   rw[←hl]at PY
   have HL:=zh hl
   have HL2:=zh (show l≤200 from hl▸HO.out.fl)
   clear hl hlt
   by_cases h0:l=0
   ·subst h0
    go_wp2_with (go_at_call 30;refine(PY.out).mono ?_;rintro e w6 ⟨A',cap',rfl,hb⟩;have HB:=zh hb;clear hb)
    exact bodyPost_end (v:=.tuple #[]) (by simp[results,Tryz.results41,go_sem]) rfl ⟨rfl,by rw[←HE.out,drN_end HL.out.symm];exact HN.out.below HB.out⟩
   ·have hl0:decide (0<l)=true:=decide_eq_true (by omega)
    have HL0:=zh (show Si.fl.length≠0 from HL.out▸h0)
    clear h0
    go_upto_region 27 with (go_at_call 30;refine(PY.out).mono ?_;rintro e w6 ⟨A',cap',rfl,hb⟩;have HB:=zh hb;clear hb)
    have HN2:=zh (HN.out.below HB.out)
    clear q0 nl PY hl0 HN
    have q0:=HN2.out.blk.cell 0 rfl
    have nl:=HN2.out.blk.lt
    obtain⟨K2,hK2⟩:=HO.out.a (by have:=HM.out;have:=HLT.out;omega)
    have PD2:=zh (HN2.out.do hK2 4 0 0 0)
    clear hK2
    go_wp2_with (go_at_call 24;refine(PD2.out).mono ?_;rintro e w7 ⟨rfl,hr⟩;have HN3:=zh hr;clear hr)
    exact⟨⟨i+1,Nat.succ_le_of_lt HLT.out,by simp,zh ⟨_,HN3.out,HO.out.do (by have:=HM.out;have:=HLT.out;omega) 4 0 0 0,by rw[←HE.out,drN_go HLT.out HL0.out]⟩⟩,loop_lt HLT.out⟩
  ·have hi3:i=300:=by omega
   subst hi3
   go_wp2_with fail
   exact bodyPost_end (v:=.tuple #[]) (by simp[results,Tryz.results41,go_sem]) rfl ⟨rfl,by rw[←HE.out];exact HN.out⟩
theorem act_14n {w W:World} {gr n gT gB:Nat} {av:Nat→Value} {D:Dl} {S S1:St} {T B:List (Int×Int)} {bad wg:Bool} (h:RunAt w W gr n gT gB av D S T B bad wg) {m:Nat} (ho:OkR m D S) (hm:m<80000) (d A b:Int) (hA: -32768≤A∧A≤32767) (hk:d.tmod 16=14) (hS1:S1=Nw.doS D S 3 (A*40) 0 0)
 (s f:Int) (hs:S1.sss=s) (hf:S1.flow=f) (hfp: ¬0<f) (hi:f≠0→S1.inn=true) (h1:f≤D.dr) (h2: -f≤D.bk) (h3: -9223372036854775808<f∧f<9223372036854775808):
 Calls Tryz.prog 41 #[.pointer (some ⟨gr,0,none⟩),.agg #[.int .u8 d,.int .i16 A,.int .u8 b]] W fun e w'=>e=.returned (.tuple #[])∧RunAt w w' gr n gT gB av D (drN D 300 S1) T (mput s (wrap64 (Bq.gt s B-f)) B) bad wg:=by
 obtain⟨K,hoa⟩:=ho.a (by omega)
 have HO1:=zh (show OkR (m+1) D S1 from hS1▸ho.do (by omega) 3 (A*40) 0 0)
 have HM:=zh hm
 have al:=(Below.refl W.heap.size W).alloc (Nat.le_refl _) (.cells #[.int .u8 d,.int .i16 A,.int .u8 b] 142)
 have HX:=zh (Blk.new' W #[.int .u8 d,.int .i16 A,.int .u8 b] 142)
 have H1:=zh (h.below al)
 have HGL:=zh (show gr<W.heap.size from h.blk.lt)
 have PD:=zh (fun V (hV:RunAt w V gr n gT gB av D S T B bad wg)=>hV.do hoa 3 (A*40) 0 0)
 rw[←hS1]at PD
 obtain⟨fw,fi,mw,mi⟩:=tick_in hA
 have HS:=zh hs
 have HF:=zh hf
 have HI:=zh hi
 have HF1:=zh (show decide (D.dr<f)=false from decide_eq_false (by omega))
 have HF2:=zh (show decide (D.bk< -f)=false from decide_eq_false (by omega))
 have HFN:=zh (show wrap64 (-f)= -f from by rw[←IntWalk.i64_left];exact IntWalk.i64_in _ (by omega))
 have HFP:=zh hfp
 clear h ho hm hoa al hA hS1 hs hf hi h1 h2 h3 hfp
 go_enter Tryz.func41,Tryz.ntmps41
 go_upto_region 1 with fail
 generalize W.alloc (.cells #[.int .u8 d,.int .i16 A,.int .u8 b] 142)=w1 at *
 obtain⟨gb,hgb⟩: ∃gb,gb=W.heap.size:=⟨_,rfl⟩
 rw[←hgb]at HX HGL ⊢
 have HG:=zh hgb
 clear hgb
 have x0:=HX.out.cell 0 rfl
 have xl:=HX.out.lt
 go_upto_region 17 with fail
 clear x0 xl
 refine wp_region_then 9 _ ?af rfl (by kernel_rfl) (by kernel_rfl) ?walk ?tail
 case walk=>
  intro V hV
  have q0:=(H1.out.below hV).blk.cell 0 rfl
  have nl:=(H1.out.below hV).blk.lt
  have r0:=HX.out.below hV HX.out.lt
  have x1:=r0.cell 1 rfl
  have gl:=r0.lt
  clear r0
  clear hV
  simp only[List.take_succ_cons,List.take_zero]
  repeat(go_big_quiet_step (fail))
  refine wpQuiet_nil ?_
  rfl
 intro w8 hb8
 have H8:=zh (H1.out.below hb8)
 clear hb8
 go_simp
 refine(PD.out _ H8.out).mono ?_
 rintro e w9 ⟨rfl,hr⟩
 have HR:=zh hr
 clear hr
 dsimp only
 refine wpQuiet_nil ?_
 intro xx
 have HR2:=zh (HR.out.below xx.far)
 generalize xx.w=w2 at HR2 ⊢
 clear fw fi mw mi hk
 go_upto_region 18 with fail
 have q0:=HR2.out.blk.cell 0 rfl
 have nl:=HR2.out.blk.lt
 have PS:=zh (fun (y:Past w2)=>session_x (HR2.out.below y.far).net)
 have PF:=zh (fun (y:Past w2)=>flowing_x (HR2.out.below y.far).net)
 rw[HS.out]at PS
 rw[HF.out]at PF
 refine wp_region_past (by kernel_rfl) (by kernel_rfl) ?_
 repeat(go_big_quiet_step (first|(go_at_call 27;exact past_same (PS.out _))|(go_at_call 29;exact past_same (PF.out _))))
 refine wpQuiet_nil ?_
 intro xx
 have HR3:=zh (HR2.out.below xx.far)
 generalize xx.w=w3 at HR3 ⊢
 clear q0 nl PS PF
 have hd:decide (0<f)=false:=decide_eq_false HFP.out
 go_upto_region 21 with fail
 refine wp_region_then 13 _ ?afm rfl (by kernel_rfl) (by kernel_rfl) ?walkm ?tailm
 case walkm=>
  intro V hV
  have HV:=zh (HR3.out.below hV)
  have q0:=HV.out.blk.cell 11 rfl
  have nl:=HV.out.blk.lt
  have q1: ∀y:Past V,(Instr.lookup 143 (.map (some gB)) (.int .i64 s) false).run Tryz.prog y.w=.ok (.int .i64 (Bq.gt s B)) y.w:=fun y=>lookTk (HV.out.below y.far).mB s
  clear hV
  simp only[List.take_succ_cons,List.take_zero]
  repeat(go_big_quiet_step (fail))
  refine wpQuiet_nil ?_
  rfl
 intro w8 hb8
 have H8:=zh (HR3.out.below hb8)
 clear hb8
 refine wpO_mput rfl _ _ _ 143 rfl keyI Tryz.underlying143 H8.out.mB rfl s rfl (wrap64 (Bq.gt s B-f)) rfl ?_
 intro w9 hm9 ht9 hs9
 have H9:=zh (H8.out.putB hm9 ht9)
 clear hm9 ht9 hs9
 refine wpQuiet_nil ?_
 intro xx
 have H10:=zh (H9.out.below xx.far)
 generalize xx.w=w4 at H10 ⊢
 clear H8 H9
 dsimp only[Act.put]
 have q0:=H10.out.blk.cell 0 rfl
 have q8:=H10.out.blk.cell 8 rfl
 have q9:=H10.out.blk.cell 9 rfl
 have nl:=H10.out.blk.lt
 have PP:=zh (plugged_x H10.out.net)
 have hd1:=HF1.out
 have hd2:=HF2.out
 have hfn:=HFN.out
 clear hd
 by_cases h0:f=0
 ·have hn0:(f != 0)=false:=by simp[h0]
  clear h0
  go_upto_region 24 with (go_at_call 28;refine(PP.out).mono ?_;rintro e w5 ⟨rfl,rfl⟩)
  clear q0 q8 q9 nl hd1 hd2 hfn PP
  go_wp2_with fail
  go_loopw [8] (fun v wr=> ∃i:Nat,i≤300∧v=.int .i64 i∧Hid (∃Si,RunAt w wr gr n gT gB av D Si T (mput s (wrap64 (Bq.gt s B-f)) B) bad wg∧OkR (m+1+i) D Si∧drN D (300-i) Si=drN D 300 S1)) (fun v _=>300-(intOf v).toNat)
  case atStart=>exact⟨0,Nat.zero_le _,rfl,zh ⟨S1,H10.out,HO1.out,rfl⟩⟩
  case round=>
   obtain⟨i,hi,rfl,HZ⟩:=hrel
   obtain⟨Si,hz1,hz2,hz3⟩:=HZ.out
   have HN:=zh hz1
   have HO:=zh hz2
   have HE:=zh hz3
   clear HZ hz1 hz2 hz3
   by_cases hlt:i<300
   ·have HLT:=zh hlt
    have hii:decide ((i:Int)<300)=true:=decide_eq_true (by omega)
    have hiw:wrap64 ((i:Int)+1)=(i:Int)+1:=by rw[←IntWalk.i64_left];exact IntWalk.i64_in _ (by omega)
    have q0:=HN.out.blk.cell 0 rfl
    have nl:=HN.out.blk.lt
    have PY:=zh (flying_x HN.out.net (Nat.le_trans HO.out.fl (by decide)))
    obtain⟨l,hl⟩: ∃l,l=Si.fl.length:=⟨_,rfl⟩
    rw[←hl]at PY
    have HL:=zh hl
    have HL2:=zh (show l≤200 from hl▸HO.out.fl)
    clear hl hlt
    by_cases h0:l=0
    ·subst h0
     go_wp2_with (go_at_call 30;refine(PY.out).mono ?_;rintro e w6 ⟨A',cap',rfl,hb⟩;have HB:=zh hb;clear hb)
     exact bodyPost_end (v:=.tuple #[]) (by simp[results,Tryz.results41,go_sem]) rfl ⟨rfl,by rw[←HE.out,drN_end HL.out.symm];exact HN.out.below HB.out⟩
    ·have hl0:decide (0<l)=true:=decide_eq_true (by omega)
     have HL0:=zh (show Si.fl.length≠0 from HL.out▸h0)
     clear h0
     go_upto_region 27 with (go_at_call 30;refine(PY.out).mono ?_;rintro e w6 ⟨A',cap',rfl,hb⟩;have HB:=zh hb;clear hb)
     have HN2:=zh (HN.out.below HB.out)
     clear q0 nl PY hl0 HN
     have q0:=HN2.out.blk.cell 0 rfl
     have nl:=HN2.out.blk.lt
     obtain⟨K2,hK2⟩:=HO.out.a (by have:=HM.out;have:=HLT.out;omega)
     have PD2:=zh (HN2.out.do hK2 4 0 0 0)
     clear hK2
     go_wp2_with (go_at_call 24;refine(PD2.out).mono ?_;rintro e w7 ⟨rfl,hr⟩;have HN3:=zh hr;clear hr)
     exact⟨⟨i+1,Nat.succ_le_of_lt HLT.out,by simp,zh ⟨_,HN3.out,HO.out.do (by have:=HM.out;have:=HLT.out;omega) 4 0 0 0,by rw[←HE.out,drN_go HLT.out HL0.out]⟩⟩,loop_lt HLT.out⟩
   ·have hi3:i=300:=by omega
    subst hi3
    go_wp2_with fail
    exact bodyPost_end (v:=.tuple #[]) (by simp[results,Tryz.results41,go_sem]) rfl ⟨rfl,by rw[←HE.out];exact HN.out⟩
 ·have hn0:(f != 0)=true:=by simpa using h0
  have hin:S1.inn=true:=HI.out h0
  rw[hin]at PP
  clear hin h0
  go_upto_region 24 with (go_at_call 28;refine(PP.out).mono ?_;rintro e w5 ⟨rfl,rfl⟩)
  clear q0 q8 q9 nl hd1 hd2 hfn PP
  go_wp2_with fail
  go_loopw [8] (fun v wr=> ∃i:Nat,i≤300∧v=.int .i64 i∧Hid (∃Si,RunAt w wr gr n gT gB av D Si T (mput s (wrap64 (Bq.gt s B-f)) B) bad wg∧OkR (m+1+i) D Si∧drN D (300-i) Si=drN D 300 S1)) (fun v _=>300-(intOf v).toNat)
  case atStart=>exact⟨0,Nat.zero_le _,rfl,zh ⟨S1,H10.out,HO1.out,rfl⟩⟩
  case round=>
   obtain⟨i,hi,rfl,HZ⟩:=hrel
   obtain⟨Si,hz1,hz2,hz3⟩:=HZ.out
   have HN:=zh hz1
   have HO:=zh hz2
   have HE:=zh hz3
   clear HZ hz1 hz2 hz3
   by_cases hlt:i<300
   ·have HLT:=zh hlt
    have hii:decide ((i:Int)<300)=true:=decide_eq_true (by omega)
    have hiw:wrap64 ((i:Int)+1)=(i:Int)+1:=by rw[←IntWalk.i64_left];exact IntWalk.i64_in _ (by omega)
    have q0:=HN.out.blk.cell 0 rfl
    have nl:=HN.out.blk.lt
    have PY:=zh (flying_x HN.out.net (Nat.le_trans HO.out.fl (by decide)))
    obtain⟨l,hl⟩: ∃l,l=Si.fl.length:=⟨_,rfl⟩
    rw[←hl]at PY
    have HL:=zh hl
    have HL2:=zh (show l≤200 from hl▸HO.out.fl)
    clear hl hlt
    by_cases h0:l=0
    ·subst h0
     go_wp2_with (go_at_call 30;refine(PY.out).mono ?_;rintro e w6 ⟨A',cap',rfl,hb⟩;have HB:=zh hb;clear hb)
     exact bodyPost_end (v:=.tuple #[]) (by simp[results,Tryz.results41,go_sem]) rfl ⟨rfl,by rw[←HE.out,drN_end HL.out.symm];exact HN.out.below HB.out⟩
    ·have hl0:decide (0<l)=true:=decide_eq_true (by omega)
     have HL0:=zh (show Si.fl.length≠0 from HL.out▸h0)
     clear h0
     go_upto_region 27 with (go_at_call 30;refine(PY.out).mono ?_;rintro e w6 ⟨A',cap',rfl,hb⟩;have HB:=zh hb;clear hb)
     have HN2:=zh (HN.out.below HB.out)
     clear q0 nl PY hl0 HN
     have q0:=HN2.out.blk.cell 0 rfl
     have nl:=HN2.out.blk.lt
     obtain⟨K2,hK2⟩:=HO.out.a (by have:=HM.out;have:=HLT.out;omega)
     have PD2:=zh (HN2.out.do hK2 4 0 0 0)
     clear hK2
     go_wp2_with (go_at_call 24;refine(PD2.out).mono ?_;rintro e w7 ⟨rfl,hr⟩;have HN3:=zh hr;clear hr)
     exact⟨⟨i+1,Nat.succ_le_of_lt HLT.out,by simp,zh ⟨_,HN3.out,HO.out.do (by have:=HM.out;have:=HLT.out;omega) 4 0 0 0,by rw[←HE.out,drN_go HLT.out HL0.out]⟩⟩,loop_lt HLT.out⟩
   ·have hi3:i=300:=by omega
    subst hi3
    go_wp2_with fail
    exact bodyPost_end (v:=.tuple #[]) (by simp[results,Tryz.results41,go_sem]) rfl ⟨rfl,by rw[←HE.out];exact HN.out⟩
theorem act_15p {w W:World} {gr n gT gB:Nat} {av:Nat→Value} {D:Dl} {S S1:St} {T B:List (Int×Int)} {bad wg:Bool} (h:RunAt w W gr n gT gB av D S T B bad wg) {m:Nat} (ho:OkR m D S) (hm:m<80000) (d A b:Int) (hA: -32768≤A∧A≤32767) (hk:d.tmod 16=15) (hS1:S1=Nw.doS D S 3 (A*40) 0 0)
 (s f:Int) (hs:S1.sss=s) (hf:S1.flow=f) (hfp:0<f) (hi:f≠0→S1.inn=true) (h1:f≤D.dr) (h2: -f≤D.bk) (h3: -9223372036854775808<f∧f<9223372036854775808):
 Calls Tryz.prog 41 #[.pointer (some ⟨gr,0,none⟩),.agg #[.int .u8 d,.int .i16 A,.int .u8 b]] W fun e w'=>e=.returned (.tuple #[])∧RunAt w w' gr n gT gB av D (drN D 300 S1) (mput s (wrap64 (Bq.gt s T+f)) T) B bad wg:=by
 obtain⟨K,hoa⟩:=ho.a (by omega)
 have HO1:=zh (show OkR (m+1) D S1 from hS1▸ho.do (by omega) 3 (A*40) 0 0)
 have HM:=zh hm
 have al:=(Below.refl W.heap.size W).alloc (Nat.le_refl _) (.cells #[.int .u8 d,.int .i16 A,.int .u8 b] 142)
 have HX:=zh (Blk.new' W #[.int .u8 d,.int .i16 A,.int .u8 b] 142)
 have H1:=zh (h.below al)
 have HGL:=zh (show gr<W.heap.size from h.blk.lt)
 have PD:=zh (fun V (hV:RunAt w V gr n gT gB av D S T B bad wg)=>hV.do hoa 3 (A*40) 0 0)
 rw[←hS1]at PD
 obtain⟨fw,fi,mw,mi⟩:=tick_in hA
 have HS:=zh hs
 have HF:=zh hf
 have HI:=zh hi
 have HF1:=zh (show decide (D.dr<f)=false from decide_eq_false (by omega))
 have HF2:=zh (show decide (D.bk< -f)=false from decide_eq_false (by omega))
 have HFN:=zh (show wrap64 (-f)= -f from by rw[←IntWalk.i64_left];exact IntWalk.i64_in _ (by omega))
 have HFP:=zh hfp
 clear h ho hm hoa al hA hS1 hs hf hi h1 h2 h3 hfp
 go_enter Tryz.func41,Tryz.ntmps41
 go_upto_region 1 with fail
 generalize W.alloc (.cells #[.int .u8 d,.int .i16 A,.int .u8 b] 142)=w1 at *
 obtain⟨gb,hgb⟩: ∃gb,gb=W.heap.size:=⟨_,rfl⟩
 rw[←hgb]at HX HGL ⊢
 have HG:=zh hgb
 clear hgb
 have x0:=HX.out.cell 0 rfl
 have xl:=HX.out.lt
 go_upto_region 17 with fail
 clear x0 xl
 refine wp_region_then 9 _ ?af rfl (by kernel_rfl) (by kernel_rfl) ?walk ?tail
 case walk=>
  intro V hV
  have q0:=(H1.out.below hV).blk.cell 0 rfl
  have nl:=(H1.out.below hV).blk.lt
  have r0:=HX.out.below hV HX.out.lt
  have x1:=r0.cell 1 rfl
  have gl:=r0.lt
  clear r0
  clear hV
  simp only[List.take_succ_cons,List.take_zero]
  repeat(go_big_quiet_step (fail))
  refine wpQuiet_nil ?_
  rfl
 intro w8 hb8
 have H8:=zh (H1.out.below hb8)
 clear hb8
 go_simp
 refine(PD.out _ H8.out).mono ?_
 rintro e w9 ⟨rfl,hr⟩
 have HR:=zh hr
 clear hr
 dsimp only
 refine wpQuiet_nil ?_
 intro xx
 have HR2:=zh (HR.out.below xx.far)
 generalize xx.w=w2 at HR2 ⊢
 clear fw fi mw mi hk
 go_upto_region 18 with fail
 have q0:=HR2.out.blk.cell 0 rfl
 have nl:=HR2.out.blk.lt
 have PS:=zh (fun (y:Past w2)=>session_x (HR2.out.below y.far).net)
 have PF:=zh (fun (y:Past w2)=>flowing_x (HR2.out.below y.far).net)
 rw[HS.out]at PS
 rw[HF.out]at PF
 refine wp_region_past (by kernel_rfl) (by kernel_rfl) ?_
 repeat(go_big_quiet_step (first|(go_at_call 27;exact past_same (PS.out _))|(go_at_call 29;exact past_same (PF.out _))))
 refine wpQuiet_nil ?_
 intro xx
 have HR3:=zh (HR2.out.below xx.far)
 generalize xx.w=w3 at HR3 ⊢
 clear q0 nl PS PF
 have hd:decide (0<f)=true:=decide_eq_true HFP.out
 go_upto_region 20 with fail
 refine wp_region_then 13 _ ?afm rfl (by kernel_rfl) (by kernel_rfl) ?walkm ?tailm
 case walkm=>
  intro V hV
  have HV:=zh (HR3.out.below hV)
  have q0:=HV.out.blk.cell 10 rfl
  have nl:=HV.out.blk.lt
  have q1: ∀y:Past V,(Instr.lookup 143 (.map (some gT)) (.int .i64 s) false).run Tryz.prog y.w=.ok (.int .i64 (Bq.gt s T)) y.w:=fun y=>lookTk (HV.out.below y.far).mT s
  clear hV
  simp only[List.take_succ_cons,List.take_zero]
  repeat(go_big_quiet_step (fail))
  refine wpQuiet_nil ?_
  rfl
 intro w8 hb8
 have H8:=zh (HR3.out.below hb8)
 clear hb8
 refine wpO_mput rfl _ _ _ 143 rfl keyI Tryz.underlying143 H8.out.mT rfl s rfl (wrap64 (Bq.gt s T+f)) rfl ?_
 intro w9 hm9 ht9 hs9
 have H9:=zh (H8.out.putT hm9 ht9)
 clear hm9 ht9 hs9
 refine wpQuiet_nil ?_
 intro xx
 have H10:=zh (H9.out.below xx.far)
 generalize xx.w=w4 at H10 ⊢
 clear H8 H9
 dsimp only[Act.put]
 have q0:=H10.out.blk.cell 0 rfl
 have q8:=H10.out.blk.cell 8 rfl
 have q9:=H10.out.blk.cell 9 rfl
 have nl:=H10.out.blk.lt
 have PP:=zh (plugged_x H10.out.net)
 have hd1:=HF1.out
 have hd2:=HF2.out
 have hfn:=HFN.out
 have hn0:(f != 0)=true:=by have:=HFP.out;simp;omega
 have hin:S1.inn=true:=HI.out (by have:=HFP.out;omega)
 rw[hin]at PP
 clear hd hin
 go_upto_region 24 with (go_at_call 28;refine(PP.out).mono ?_;rintro e w5 ⟨rfl,rfl⟩)
 clear q0 q8 q9 nl hd1 hd2 hfn PP
 go_wp2_with fail
 go_loopw [8] (fun v wr=> ∃i:Nat,i≤300∧v=.int .i64 i∧Hid (∃Si,RunAt w wr gr n gT gB av D Si (mput s (wrap64 (Bq.gt s T+f)) T) B bad wg∧OkR (m+1+i) D Si∧drN D (300-i) Si=drN D 300 S1)) (fun v _=>300-(intOf v).toNat)
 case atStart=>exact⟨0,Nat.zero_le _,rfl,zh ⟨S1,H10.out,HO1.out,rfl⟩⟩
 case round=>
  obtain⟨i,hi,rfl,HZ⟩:=hrel
  obtain⟨Si,hz1,hz2,hz3⟩:=HZ.out
  have HN:=zh hz1
  have HO:=zh hz2
  have HE:=zh hz3
  clear HZ hz1 hz2 hz3
  by_cases hlt:i<300
  ·have HLT:=zh hlt
   have hii:decide ((i:Int)<300)=true:=decide_eq_true (by omega)
   have hiw:wrap64 ((i:Int)+1)=(i:Int)+1:=by rw[←IntWalk.i64_left];exact IntWalk.i64_in _ (by omega)
   have q0:=HN.out.blk.cell 0 rfl
   have nl:=HN.out.blk.lt
   have PY:=zh (flying_x HN.out.net (Nat.le_trans HO.out.fl (by decide)))
   obtain⟨l,hl⟩: ∃l,l=Si.fl.length:=⟨_,rfl⟩
   rw[←hl]at PY
   have HL:=zh hl
   have HL2:=zh (show l≤200 from hl▸HO.out.fl)
   clear hl hlt
   by_cases h0:l=0
   ·subst h0
    go_wp2_with (go_at_call 30;refine(PY.out).mono ?_;rintro e w6 ⟨A',cap',rfl,hb⟩;have HB:=zh hb;clear hb)
    exact bodyPost_end (v:=.tuple #[]) (by simp[results,Tryz.results41,go_sem]) rfl ⟨rfl,by rw[←HE.out,drN_end HL.out.symm];exact HN.out.below HB.out⟩
   ·have hl0:decide (0<l)=true:=decide_eq_true (by omega)
    have HL0:=zh (show Si.fl.length≠0 from HL.out▸h0)
    clear h0
    go_upto_region 27 with (go_at_call 30;refine(PY.out).mono ?_;rintro e w6 ⟨A',cap',rfl,hb⟩;have HB:=zh hb;clear hb)
    have HN2:=zh (HN.out.below HB.out)
    clear q0 nl PY hl0 HN
    have q0:=HN2.out.blk.cell 0 rfl
    have nl:=HN2.out.blk.lt
    obtain⟨K2,hK2⟩:=HO.out.a (by have:=HM.out;have:=HLT.out;omega)
    have PD2:=zh (HN2.out.do hK2 4 0 0 0)
    clear hK2
    go_wp2_with (go_at_call 24;refine(PD2.out).mono ?_;rintro e w7 ⟨rfl,hr⟩;have HN3:=zh hr;clear hr)
    exact⟨⟨i+1,Nat.succ_le_of_lt HLT.out,by simp,zh ⟨_,HN3.out,HO.out.do (by have:=HM.out;have:=HLT.out;omega) 4 0 0 0,by rw[←HE.out,drN_go HLT.out HL0.out]⟩⟩,loop_lt HLT.out⟩
  ·have hi3:i=300:=by omega
   subst hi3
   go_wp2_with fail
   exact bodyPost_end (v:=.tuple #[]) (by simp[results,Tryz.results41,go_sem]) rfl ⟨rfl,by rw[←HE.out];exact HN.out⟩
theorem act_15n {w W:World} {gr n gT gB:Nat} {av:Nat→Value} {D:Dl} {S S1:St} {T B:List (Int×Int)} {bad wg:Bool} (h:RunAt w W gr n gT gB av D S T B bad wg) {m:Nat} (ho:OkR m D S) (hm:m<80000) (d A b:Int) (hA: -32768≤A∧A≤32767) (hk:d.tmod 16=15) (hS1:S1=Nw.doS D S 3 (A*40) 0 0)
 (s f:Int) (hs:S1.sss=s) (hf:S1.flow=f) (hfp: ¬0<f) (hi:f≠0→S1.inn=true) (h1:f≤D.dr) (h2: -f≤D.bk) (h3: -9223372036854775808<f∧f<9223372036854775808):
 Calls Tryz.prog 41 #[.pointer (some ⟨gr,0,none⟩),.agg #[.int .u8 d,.int .i16 A,.int .u8 b]] W fun e w'=>e=.returned (.tuple #[])∧RunAt w w' gr n gT gB av D (drN D 300 S1) T (mput s (wrap64 (Bq.gt s B-f)) B) bad wg:=by
 obtain⟨K,hoa⟩:=ho.a (by omega)
 have HO1:=zh (show OkR (m+1) D S1 from hS1▸ho.do (by omega) 3 (A*40) 0 0)
 have HM:=zh hm
 have al:=(Below.refl W.heap.size W).alloc (Nat.le_refl _) (.cells #[.int .u8 d,.int .i16 A,.int .u8 b] 142)
 have HX:=zh (Blk.new' W #[.int .u8 d,.int .i16 A,.int .u8 b] 142)
 have H1:=zh (h.below al)
 have HGL:=zh (show gr<W.heap.size from h.blk.lt)
 have PD:=zh (fun V (hV:RunAt w V gr n gT gB av D S T B bad wg)=>hV.do hoa 3 (A*40) 0 0)
 rw[←hS1]at PD
 obtain⟨fw,fi,mw,mi⟩:=tick_in hA
 have HS:=zh hs
 have HF:=zh hf
 have HI:=zh hi
 have HF1:=zh (show decide (D.dr<f)=false from decide_eq_false (by omega))
 have HF2:=zh (show decide (D.bk< -f)=false from decide_eq_false (by omega))
 have HFN:=zh (show wrap64 (-f)= -f from by rw[←IntWalk.i64_left];exact IntWalk.i64_in _ (by omega))
 have HFP:=zh hfp
 clear h ho hm hoa al hA hS1 hs hf hi h1 h2 h3 hfp
 go_enter Tryz.func41,Tryz.ntmps41
 go_upto_region 1 with fail
 generalize W.alloc (.cells #[.int .u8 d,.int .i16 A,.int .u8 b] 142)=w1 at *
 obtain⟨gb,hgb⟩: ∃gb,gb=W.heap.size:=⟨_,rfl⟩
 rw[←hgb]at HX HGL ⊢
 have HG:=zh hgb
 clear hgb
 have x0:=HX.out.cell 0 rfl
 have xl:=HX.out.lt
 go_upto_region 17 with fail
 clear x0 xl
 refine wp_region_then 9 _ ?af rfl (by kernel_rfl) (by kernel_rfl) ?walk ?tail
 case walk=>
  intro V hV
  have q0:=(H1.out.below hV).blk.cell 0 rfl
  have nl:=(H1.out.below hV).blk.lt
  have r0:=HX.out.below hV HX.out.lt
  have x1:=r0.cell 1 rfl
  have gl:=r0.lt
  clear r0
  clear hV
  simp only[List.take_succ_cons,List.take_zero]
  repeat(go_big_quiet_step (fail))
  refine wpQuiet_nil ?_
  rfl
 intro w8 hb8
 have H8:=zh (H1.out.below hb8)
 clear hb8
 go_simp
 refine(PD.out _ H8.out).mono ?_
 rintro e w9 ⟨rfl,hr⟩
 have HR:=zh hr
 clear hr
 dsimp only
 refine wpQuiet_nil ?_
 intro xx
 have HR2:=zh (HR.out.below xx.far)
 generalize xx.w=w2 at HR2 ⊢
 clear fw fi mw mi hk
 go_upto_region 18 with fail
 have q0:=HR2.out.blk.cell 0 rfl
 have nl:=HR2.out.blk.lt
 have PS:=zh (fun (y:Past w2)=>session_x (HR2.out.below y.far).net)
 have PF:=zh (fun (y:Past w2)=>flowing_x (HR2.out.below y.far).net)
 rw[HS.out]at PS
 rw[HF.out]at PF
 refine wp_region_past (by kernel_rfl) (by kernel_rfl) ?_
 repeat(go_big_quiet_step (first|(go_at_call 27;exact past_same (PS.out _))|(go_at_call 29;exact past_same (PF.out _))))
 refine wpQuiet_nil ?_
 intro xx
 have HR3:=zh (HR2.out.below xx.far)
 generalize xx.w=w3 at HR3 ⊢
 clear q0 nl PS PF
 have hd:decide (0<f)=false:=decide_eq_false HFP.out
 go_upto_region 21 with fail
 refine wp_region_then 13 _ ?afm rfl (by kernel_rfl) (by kernel_rfl) ?walkm ?tailm
 case walkm=>
  intro V hV
  have HV:=zh (HR3.out.below hV)
  have q0:=HV.out.blk.cell 11 rfl
  have nl:=HV.out.blk.lt
  have q1: ∀y:Past V,(Instr.lookup 143 (.map (some gB)) (.int .i64 s) false).run Tryz.prog y.w=.ok (.int .i64 (Bq.gt s B)) y.w:=fun y=>lookTk (HV.out.below y.far).mB s
  clear hV
  simp only[List.take_succ_cons,List.take_zero]
  repeat(go_big_quiet_step (fail))
  refine wpQuiet_nil ?_
  rfl
 intro w8 hb8
 have H8:=zh (HR3.out.below hb8)
 clear hb8
 refine wpO_mput rfl _ _ _ 143 rfl keyI Tryz.underlying143 H8.out.mB rfl s rfl (wrap64 (Bq.gt s B-f)) rfl ?_
 intro w9 hm9 ht9 hs9
 have H9:=zh (H8.out.putB hm9 ht9)
 clear hm9 ht9 hs9
 refine wpQuiet_nil ?_
 intro xx
 have H10:=zh (H9.out.below xx.far)
 generalize xx.w=w4 at H10 ⊢
 clear H8 H9
 dsimp only[Act.put]
 have q0:=H10.out.blk.cell 0 rfl
 have q8:=H10.out.blk.cell 8 rfl
 have q9:=H10.out.blk.cell 9 rfl
 have nl:=H10.out.blk.lt
 have PP:=zh (plugged_x H10.out.net)
 have hd1:=HF1.out
 have hd2:=HF2.out
 have hfn:=HFN.out
 clear hd
 by_cases h0:f=0
 ·have hn0:(f != 0)=false:=by simp[h0]
  clear h0
  go_upto_region 24 with (go_at_call 28;refine(PP.out).mono ?_;rintro e w5 ⟨rfl,rfl⟩)
  clear q0 q8 q9 nl hd1 hd2 hfn PP
  go_wp2_with fail
  go_loopw [8] (fun v wr=> ∃i:Nat,i≤300∧v=.int .i64 i∧Hid (∃Si,RunAt w wr gr n gT gB av D Si T (mput s (wrap64 (Bq.gt s B-f)) B) bad wg∧OkR (m+1+i) D Si∧drN D (300-i) Si=drN D 300 S1)) (fun v _=>300-(intOf v).toNat)
  case atStart=>exact⟨0,Nat.zero_le _,rfl,zh ⟨S1,H10.out,HO1.out,rfl⟩⟩
  case round=>
   obtain⟨i,hi,rfl,HZ⟩:=hrel
   obtain⟨Si,hz1,hz2,hz3⟩:=HZ.out
   have HN:=zh hz1
   have HO:=zh hz2
   have HE:=zh hz3
   clear HZ hz1 hz2 hz3
   by_cases hlt:i<300
   ·have HLT:=zh hlt
    have hii:decide ((i:Int)<300)=true:=decide_eq_true (by omega)
    have hiw:wrap64 ((i:Int)+1)=(i:Int)+1:=by rw[←IntWalk.i64_left];exact IntWalk.i64_in _ (by omega)
    have q0:=HN.out.blk.cell 0 rfl
    have nl:=HN.out.blk.lt
    have PY:=zh (flying_x HN.out.net (Nat.le_trans HO.out.fl (by decide)))
    obtain⟨l,hl⟩: ∃l,l=Si.fl.length:=⟨_,rfl⟩
    rw[←hl]at PY
    have HL:=zh hl
    have HL2:=zh (show l≤200 from hl▸HO.out.fl)
    clear hl hlt
    by_cases h0:l=0
    ·subst h0
     go_wp2_with (go_at_call 30;refine(PY.out).mono ?_;rintro e w6 ⟨A',cap',rfl,hb⟩;have HB:=zh hb;clear hb)
     exact bodyPost_end (v:=.tuple #[]) (by simp[results,Tryz.results41,go_sem]) rfl ⟨rfl,by rw[←HE.out,drN_end HL.out.symm];exact HN.out.below HB.out⟩
    ·have hl0:decide (0<l)=true:=decide_eq_true (by omega)
     have HL0:=zh (show Si.fl.length≠0 from HL.out▸h0)
     clear h0
     go_upto_region 27 with (go_at_call 30;refine(PY.out).mono ?_;rintro e w6 ⟨A',cap',rfl,hb⟩;have HB:=zh hb;clear hb)
     have HN2:=zh (HN.out.below HB.out)
     clear q0 nl PY hl0 HN
     have q0:=HN2.out.blk.cell 0 rfl
     have nl:=HN2.out.blk.lt
     obtain⟨K2,hK2⟩:=HO.out.a (by have:=HM.out;have:=HLT.out;omega)
     have PD2:=zh (HN2.out.do hK2 4 0 0 0)
     clear hK2
     go_wp2_with (go_at_call 24;refine(PD2.out).mono ?_;rintro e w7 ⟨rfl,hr⟩;have HN3:=zh hr;clear hr)
     exact⟨⟨i+1,Nat.succ_le_of_lt HLT.out,by simp,zh ⟨_,HN3.out,HO.out.do (by have:=HM.out;have:=HLT.out;omega) 4 0 0 0,by rw[←HE.out,drN_go HLT.out HL0.out]⟩⟩,loop_lt HLT.out⟩
   ·have hi3:i=300:=by omega
    subst hi3
    go_wp2_with fail
    exact bodyPost_end (v:=.tuple #[]) (by simp[results,Tryz.results41,go_sem]) rfl ⟨rfl,by rw[←HE.out];exact HN.out⟩
 ·have hn0:(f != 0)=true:=by simpa using h0
  have hin:S1.inn=true:=HI.out h0
  rw[hin]at PP
  clear hin h0
  go_upto_region 24 with (go_at_call 28;refine(PP.out).mono ?_;rintro e w5 ⟨rfl,rfl⟩)
  clear q0 q8 q9 nl hd1 hd2 hfn PP
  go_wp2_with fail
  go_loopw [8] (fun v wr=> ∃i:Nat,i≤300∧v=.int .i64 i∧Hid (∃Si,RunAt w wr gr n gT gB av D Si T (mput s (wrap64 (Bq.gt s B-f)) B) bad wg∧OkR (m+1+i) D Si∧drN D (300-i) Si=drN D 300 S1)) (fun v _=>300-(intOf v).toNat)
  case atStart=>exact⟨0,Nat.zero_le _,rfl,zh ⟨S1,H10.out,HO1.out,rfl⟩⟩
  case round=>
   obtain⟨i,hi,rfl,HZ⟩:=hrel
   obtain⟨Si,hz1,hz2,hz3⟩:=HZ.out
   have HN:=zh hz1
   have HO:=zh hz2
   have HE:=zh hz3
   clear HZ hz1 hz2 hz3
   by_cases hlt:i<300
   ·have HLT:=zh hlt
    have hii:decide ((i:Int)<300)=true:=decide_eq_true (by omega)
    have hiw:wrap64 ((i:Int)+1)=(i:Int)+1:=by rw[←IntWalk.i64_left];exact IntWalk.i64_in _ (by omega)
    have q0:=HN.out.blk.cell 0 rfl
    have nl:=HN.out.blk.lt
    have PY:=zh (flying_x HN.out.net (Nat.le_trans HO.out.fl (by decide)))
    obtain⟨l,hl⟩: ∃l,l=Si.fl.length:=⟨_,rfl⟩
    rw[←hl]at PY
    have HL:=zh hl
    have HL2:=zh (show l≤200 from hl▸HO.out.fl)
    clear hl hlt
    by_cases h0:l=0
    ·subst h0
     go_wp2_with (go_at_call 30;refine(PY.out).mono ?_;rintro e w6 ⟨A',cap',rfl,hb⟩;have HB:=zh hb;clear hb)
     exact bodyPost_end (v:=.tuple #[]) (by simp[results,Tryz.results41,go_sem]) rfl ⟨rfl,by rw[←HE.out,drN_end HL.out.symm];exact HN.out.below HB.out⟩
    ·have hl0:decide (0<l)=true:=decide_eq_true (by omega)
     have HL0:=zh (show Si.fl.length≠0 from HL.out▸h0)
     clear h0
     go_upto_region 27 with (go_at_call 30;refine(PY.out).mono ?_;rintro e w6 ⟨A',cap',rfl,hb⟩;have HB:=zh hb;clear hb)
     have HN2:=zh (HN.out.below HB.out)
     clear q0 nl PY hl0 HN
     have q0:=HN2.out.blk.cell 0 rfl
     have nl:=HN2.out.blk.lt
     obtain⟨K2,hK2⟩:=HO.out.a (by have:=HM.out;have:=HLT.out;omega)
     have PD2:=zh (HN2.out.do hK2 4 0 0 0)
     clear hK2
     go_wp2_with (go_at_call 24;refine(PD2.out).mono ?_;rintro e w7 ⟨rfl,hr⟩;have HN3:=zh hr;clear hr)
     exact⟨⟨i+1,Nat.succ_le_of_lt HLT.out,by simp,zh ⟨_,HN3.out,HO.out.do (by have:=HM.out;have:=HLT.out;omega) 4 0 0 0,by rw[←HE.out,drN_go HLT.out HL0.out]⟩⟩,loop_lt HLT.out⟩
   ·have hi3:i=300:=by omega
    subst hi3
    go_wp2_with fail
    exact bodyPost_end (v:=.tuple #[]) (by simp[results,Tryz.results41,go_sem]) rfl ⟨rfl,by rw[←HE.out];exact HN.out⟩
end Go.Proofs.YtlklnaebdnahcaaGreat
namespace Go.Proofs.YtlklnaebdnahcaaGreat
open Go.RowKit Nw
end Go.Proofs.YtlklnaebdnahcaaGreat
namespace Go.Proofs.YtlklnaebdnahcaaGreat
open Go.RowKit Nw
def BP (S:St) (T B:List (Int×Int)) (s:Int):Prop:=
 ((Nw.count S s).i=Bq.gt s T∧(Nw.count S s).b=Bq.gt s B)∧(∀q,0≤q∧q<4→(billE S q s=0∧billE S 2 s=0∧billV S q s=billV S 2 s)∨billE S q s=5)∧(billE S 2 s=0∨billE S 2 s=5)∧
   (billE S 2 s=0→(billV S 2 s).s=s∧(billV S 2 s).i=Bq.gt s T∧(billV S 2 s).b=Bq.gt s B)
theorem bl4_lt {i:Nat} (h:i<4):4-(intOf (.int .i64 ((i:Int)+1))).toNat<4-(intOf (.int .i64 (i:Int))).toNat:=by
 simp only[intOf]
 omega
theorem blN_lt {N i:Nat} (h:i<N):N+1-(intOf (.int .i64 ((i:Int)+1+1))).toNat<N+1-(intOf (.int .i64 ((i:Int)+1))).toNat:=by
 simp only[intOf]
 omega
theorem bills_c {w W:World} {gr n gT gB:Nat} {av:Nat→Value} {D:Dl} {S:St} {T B:List (Int×Int)} {bad wg:Bool} (h:RunAt w W gr n gT gB av D S T B bad wg) (N:Nat) (hN:S.sss=(N:Int)) (hN2:N≤1000000) (hP: ∀s:Int,1≤s→s≤S.sss→BP S T B s):
 Calls Tryz.prog 42 #[.pointer (some ⟨gr,0,none⟩)] W fun e w'=>e=.returned (.bool true)∧Below W.heap.size W w':=by
 have H:=zh h
 have HN:=zh hN
 have HN2:=zh hN2
 have HP:=zh hP
 clear h hN hN2 hP
 go_enter Tryz.func42,Tryz.ntmps42
 go_wp2_with fail
 go_loopw [3] (fun v wr=> ∃i:Nat,i≤N∧v=.int .i64 ((i:Int)+1)∧Hid (Below W.heap.size W wr)) (fun v _=>N+1-(intOf v).toNat)
 case atStart=>exact⟨0,Nat.zero_le _,rfl,zh (Below.refl _ _)⟩
 case round=>
  obtain⟨i,hi,rfl,HB⟩:=hrel
  have HR:=zh (H.out.below HB.out)
  have q0:=HR.out.blk.cell 0 rfl
  have nl:=HR.out.blk.lt
  have PS:=zh (session_x HR.out.net)
  rw[HN.out]at PS
  by_cases hlt:i<N
  rotate_left 1
  ·have hd:decide ((i:Int)+1≤(N:Int))=false:=decide_eq_false (by omega)
   go_wp2_with (go_at_call 27;refine(PS.out).mono ?_;rintro e w2 ⟨rfl,rfl⟩)
   go_ret
   exact⟨rfl,HB.out⟩
  ·have hd:decide ((i:Int)+1≤(N:Int))=true:=decide_eq_true (by omega)
   have HLT:=zh hlt
   have hiw:wrap64 ((i:Int)+1+1)=(i:Int)+1+1:=by rw[←IntWalk.i64_left];exact IntWalk.i64_in _ (by have:=HN2.out;omega)
   have HIW:=zh hiw
   obtain⟨s,hs⟩: ∃s,s=(i:Int)+1:=⟨_,rfl⟩
   have HBP:=zh (HP.out s (by omega) (by rw[HN.out];omega))
   have HC1:=zh HBP.out.1
   obtain⟨ga,hga⟩: ∃ga,ga=Bq.gt s T:=⟨_,rfl⟩
   obtain⟨gb,hgb⟩: ∃gb,gb=Bq.gt s B:=⟨_,rfl⟩
   have PC:=zh (fun V (hV:Below W.heap.size W V)=>count_x (H.out.below hV).net s)
   rw[HC1.out.1,HC1.out.2,←hga,←hgb]at PC
   have PT:=zh (fun V (hV:Below W.heap.size W V)=>lookTk (H.out.below hV).mT s)
   have PU:=zh (fun V (hV:Below W.heap.size W V)=>lookTk (H.out.below hV).mB s)
   rw[←hga]at PT
   rw[←hgb]at PU
   have PL:=zh (fun V (hV:Below W.heap.size W V) (q:Int)=>bill_x (H.out.below hV).net q s)
   have HGA:=zh hga
   have HGB:=zh hgb
   have HSS:=zh hs
   have ka:(ga != ga)=false:=by simp
   have kb:(gb != gb)=false:=by simp
   have ks:(s != s)=false:=by simp
   clear hga hgb hlt hiw
   rw[←hs]at hd ⊢
   clear hs
   go_upto_region 4 with (go_at_call 27;refine(PS.out).mono ?_;rintro e w2 ⟨rfl,rfl⟩)
   clear hd
   go_upto_region 5 with (go_at_call 23;refine(PC.out _ HB.out).mono ?_;rintro e w3 ⟨rfl,hb⟩;have HB3:=zh (HB.out.trans (hb.mono HB.out.size));clear hb)
   clear q0 nl PS
   have q0:=(H.out.below HB3.out).blk.cell 0 rfl
   have q10:=(H.out.below HB3.out).blk.cell 10 rfl
   have q11:=(H.out.below HB3.out).blk.cell 11 rfl
   have nl:=(H.out.below HB3.out).blk.lt
   have qT:=PT.out _ HB3.out
   have qU:=PU.out _ HB3.out
   go_upto_region 7 with fail
   clear qT qU q10 q11
   obtain⟨e2,he2⟩: ∃e2,e2=billE S 2 s:=⟨_,rfl⟩
   have HE2:=zh he2
   have h05:=HBP.out.2.2.1
   rw[←he2]at h05
   clear he2
   rcases h05 with rfl|rfl
   ·have PF:=zh (show∀V,Below W.heap.size W V→Calls Tryz.prog 20 #[.pointer (some ⟨n,0,none⟩),.int .i64 2,.int .i64 s] V fun e w'=>e=.returned (.tuple #[.agg #[.int .i64 s,.int .i64 ga,.int .i64 gb,.int .i64 (billV S 2 s).a],.int .i64 0])∧Below V.heap.size V w' from fun V hV=>by
    have:=PL.out V hV 2
    rw[←HE2.out]at this
    unfold Nw.Bl.v at this
    obtain⟨f1,f2,f3⟩:=HBP.out.2.2.2 HE2.out.symm
    rw[f1,f2,f3,←HGA.out,←HGB.out]at this
    exact this)
    obtain⟨am,ham⟩: ∃am,am=(billV S 2 s).a:=⟨_,rfl⟩
    rw[←ham]at PF
    have HAM:=zh ham
    clear ham
    go_upto_region 8 with (go_at_call 20;refine(PF.out _ HB3.out).mono ?_;rintro e w4 ⟨rfl,hb⟩;have HB4:=zh (HB3.out.trans (hb.mono HB3.out.size));clear hb)
    clear q0 nl
    have HB5:=zh (HB4.out.alloc HB4.out.size (.cells #[.int .i64 s,.int .i64 ga,.int .i64 gb,.int .i64 am] 100))
    have HX:=zh (Blk.new' w4 #[.int .i64 s,.int .i64 ga,.int .i64 gb,.int .i64 am] 100)
    generalize w4.alloc (.cells #[.int .i64 s,.int .i64 ga,.int .i64 gb,.int .i64 am] 100)=w5 at HB5 HX ⊢
    obtain⟨gf,hgf⟩: ∃gf,gf=w4.heap.size:=⟨_,rfl⟩
    rw[←hgf]at HX ⊢
    have HGF:=zh hgf
    clear hgf
    go_wp2_with fail
    go_loopw [8] (fun v wx=> ∃q:Nat,q≤4∧v=.int .i64 q∧Hid (Below W.heap.size W wx∧Blk wx gf 100 [.int .i64 s,.int .i64 ga,.int .i64 gb,.int .i64 am])) (fun v _=>4-(intOf v).toNat)
    case atStart=>exact⟨0,Nat.zero_le _,rfl,zh ⟨HB5.out,HX.out⟩⟩
    case round=>
     obtain⟨q,hq,rfl,HZ⟩:=hrel
     have HB6:=zh HZ.out.1
     have HX6:=zh HZ.out.2
     clear HZ
     by_cases hq4:q<4
     ·have hd4:decide (q<4)=true:=decide_eq_true (by omega)
      have hd4':decide ((q:Int)<4)=true:=decide_eq_true (by omega)
      have hqw:wrap64 ((q:Int)+1)=(q:Int)+1:=by rw[←IntWalk.i64_left];exact IntWalk.i64_in _ (by omega)
      have HQ4:=zh hq4
      have q0:=(H.out.below HB6.out).blk.cell 0 rfl
      have nl:=(H.out.below HB6.out).blk.lt
      have PQ:=PL.out _ HB6.out q
      unfold Nw.Bl.v at PQ
      have hc:=HBP.out.2.1 q (by have:=HQ4.out;omega)
      clear hq4
      rcases hc with hc|hc
      ·obtain⟨c1,c2,c3⟩:=hc
       obtain⟨f1,f2,f3⟩:=HBP.out.2.2.2 HE2.out.symm
       rw[c1,c3,f1,f2,f3,←HGA.out,←HGB.out,←HAM.out]at PQ
       have PQ:=zh PQ
       clear c1 c2 c3 f1 f2 f3
       go_upto_region 12 with (go_at_call 20;refine(PQ.out).mono ?_;rintro e w7 ⟨rfl,hb⟩;have HB7:=zh (HB6.out.trans (hb.mono HB6.out.size));have HX7:=zh (HX6.out.below hb HX6.out.lt);clear hb)
       clear q0 nl
       have HB8:=zh (HB7.out.alloc HB7.out.size (.cells #[.int .i64 s,.int .i64 ga,.int .i64 gb,.int .i64 am] 100))
       have HX8:=zh (HX7.out.alloc (.cells #[.int .i64 s,.int .i64 ga,.int .i64 gb,.int .i64 am] 100))
       have HY8:=zh (Blk.new' w7 #[.int .i64 s,.int .i64 ga,.int .i64 gb,.int .i64 am] 100)
       generalize w7.alloc (.cells #[.int .i64 s,.int .i64 ga,.int .i64 gb,.int .i64 am] 100)=w8 at HB8 HX8 HY8 ⊢
       generalize w7.heap.size=gx at HY8 ⊢
       have y0:=HY8.out.cell 0 rfl
       have y1:=HY8.out.cell 1 rfl
       have y2:=HY8.out.cell 2 rfl
       have y3:=HY8.out.cell 3 rfl
       have yl:=HY8.out.lt
       have z0:=HX8.out.cell 0 rfl
       have z1:=HX8.out.cell 1 rfl
       have z2:=HX8.out.cell 2 rfl
       have z3:=HX8.out.cell 3 rfl
       have zl:=HX8.out.lt
       go_upto_region 10 with fail
       clear y0 y1 y2 y3 yl z0 z1 z2 z3 zl
       go_wp2_with fail
       exact⟨⟨q+1,Nat.succ_le_of_lt HQ4.out,by simp,zh ⟨HB8.out,HX8.out⟩⟩,bl4_lt HQ4.out⟩
      ·rw[hc]at PQ
       have PQ:=zh PQ
       obtain⟨xs,hxs⟩: ∃xs,xs=(billV S q s).s:=⟨_,rfl⟩
       rw[←hxs]at PQ
       clear hxs
       obtain⟨xi,hxi⟩: ∃xi,xi=(billV S q s).i:=⟨_,rfl⟩
       rw[←hxi]at PQ
       clear hxi
       obtain⟨xb,hxb⟩: ∃xb,xb=(billV S q s).b:=⟨_,rfl⟩
       rw[←hxb]at PQ
       clear hxb
       obtain⟨xa,hxa⟩: ∃xa,xa=(billV S q s).a:=⟨_,rfl⟩
       rw[←hxa]at PQ
       clear hxa
       clear hc
       go_upto_region 12 with (go_at_call 20;refine(PQ.out).mono ?_;rintro e w7 ⟨rfl,hb⟩;have HB7:=zh (HB6.out.trans (hb.mono HB6.out.size));have HX7:=zh (HX6.out.below hb HX6.out.lt);clear hb)
       clear q0 nl
       have HB8:=zh (HB7.out.alloc HB7.out.size (.cells #[.int .i64 xs,.int .i64 xi,.int .i64 xb,.int .i64 xa] 100))
       have HX8:=zh (HX7.out.alloc (.cells #[.int .i64 xs,.int .i64 xi,.int .i64 xb,.int .i64 xa] 100))
       have HY8:=zh (Blk.new' w7 #[.int .i64 xs,.int .i64 xi,.int .i64 xb,.int .i64 xa] 100)
       generalize w7.alloc (.cells #[.int .i64 xs,.int .i64 xi,.int .i64 xb,.int .i64 xa] 100)=w8 at HB8 HX8 HY8 ⊢
       generalize w7.heap.size=gx at HY8 ⊢
       have y0:=HY8.out.cell 0 rfl
       have y1:=HY8.out.cell 1 rfl
       have y2:=HY8.out.cell 2 rfl
       have y3:=HY8.out.cell 3 rfl
       have yl:=HY8.out.lt
       have z0:=HX8.out.cell 0 rfl
       have z1:=HX8.out.cell 1 rfl
       have z2:=HX8.out.cell 2 rfl
       have z3:=HX8.out.cell 3 rfl
       have zl:=HX8.out.lt
       go_upto_region 10 with fail
       clear y0 y1 y2 y3 yl z0 z1 z2 z3 zl
       go_wp2_with fail
       exact⟨⟨q+1,Nat.succ_le_of_lt HQ4.out,by simp,zh ⟨HB8.out,HX8.out⟩⟩,bl4_lt HQ4.out⟩
     ·have hd4:decide (q<4)=false:=decide_eq_false (by omega)
      have hd4':decide ((q:Int)<4)=false:=decide_eq_false (by omega)
      clear hq4
      go_upto_region 14 with fail
      have z0:=HX6.out.cell 0 rfl
      have z1:=HX6.out.cell 1 rfl
      have z2:=HX6.out.cell 2 rfl
      have zl:=HX6.out.lt
      go_upto_region 3 with fail
      have hiw:=HIW.out
      have hss:=HSS.out
      rw[←hss]at hiw
      clear z0 z1 z2 zl hss
      go_wp2_with fail
      exact⟨⟨i+1,Nat.succ_le_of_lt HLT.out,by rw[HSS.out,HIW.out];simp,HB6⟩,by rw[HSS.out,HIW.out];exact blN_lt HLT.out⟩
   ·have PF:=zh (show∀V,Below W.heap.size W V→Calls Tryz.prog 20 #[.pointer (some ⟨n,0,none⟩),.int .i64 2,.int .i64 s] V fun e w'=>e=.returned (.tuple #[.agg #[.int .i64 (billV S 2 s).s,.int .i64 (billV S 2 s).i,.int .i64 (billV S 2 s).b,.int .i64 (billV S 2 s).a],.int .i64 5])∧Below V.heap.size V w' from fun V hV=>by
    have:=PL.out V hV 2
    rw[←HE2.out]at this
    unfold Nw.Bl.v at this
    exact this)
    obtain⟨am,ham⟩: ∃am,am=(billV S 2 s).a:=⟨_,rfl⟩
    rw[←ham]at PF
    have HAM:=zh ham
    clear ham
    obtain⟨fs,hfs⟩: ∃fs,fs=(billV S 2 s).s:=⟨_,rfl⟩
    rw[←hfs]at PF
    clear hfs
    obtain⟨fi,hfi⟩: ∃fi,fi=(billV S 2 s).i:=⟨_,rfl⟩
    rw[←hfi]at PF
    clear hfi
    obtain⟨fb,hfb⟩: ∃fb,fb=(billV S 2 s).b:=⟨_,rfl⟩
    rw[←hfb]at PF
    clear hfb
    go_upto_region 8 with (go_at_call 20;refine(PF.out _ HB3.out).mono ?_;rintro e w4 ⟨rfl,hb⟩;have HB4:=zh (HB3.out.trans (hb.mono HB3.out.size));clear hb)
    clear q0 nl
    have HB5:=zh (HB4.out.alloc HB4.out.size (.cells #[.int .i64 fs,.int .i64 fi,.int .i64 fb,.int .i64 am] 100))
    have HX:=zh (Blk.new' w4 #[.int .i64 fs,.int .i64 fi,.int .i64 fb,.int .i64 am] 100)
    generalize w4.alloc (.cells #[.int .i64 fs,.int .i64 fi,.int .i64 fb,.int .i64 am] 100)=w5 at HB5 HX ⊢
    obtain⟨gf,hgf⟩: ∃gf,gf=w4.heap.size:=⟨_,rfl⟩
    rw[←hgf]at HX ⊢
    have HGF:=zh hgf
    clear hgf
    go_wp2_with fail
    go_loopw [8] (fun v wx=> ∃q:Nat,q≤4∧v=.int .i64 q∧Hid (Below W.heap.size W wx∧Blk wx gf 100 [.int .i64 fs,.int .i64 fi,.int .i64 fb,.int .i64 am])) (fun v _=>4-(intOf v).toNat)
    case atStart=>exact⟨0,Nat.zero_le _,rfl,zh ⟨HB5.out,HX.out⟩⟩
    case round=>
     obtain⟨q,hq,rfl,HZ⟩:=hrel
     have HB6:=zh HZ.out.1
     have HX6:=zh HZ.out.2
     clear HZ
     by_cases hq4:q<4
     ·have hd4:decide (q<4)=true:=decide_eq_true (by omega)
      have hd4':decide ((q:Int)<4)=true:=decide_eq_true (by omega)
      have hqw:wrap64 ((q:Int)+1)=(q:Int)+1:=by rw[←IntWalk.i64_left];exact IntWalk.i64_in _ (by omega)
      have HQ4:=zh hq4
      have q0:=(H.out.below HB6.out).blk.cell 0 rfl
      have nl:=(H.out.below HB6.out).blk.lt
      have PQ:=PL.out _ HB6.out q
      unfold Nw.Bl.v at PQ
      have hc:=HBP.out.2.1 q (by have:=HQ4.out;omega)
      clear hq4
      rcases hc with hc|hc
      ·exfalso
       have:=hc.2.1
       rw[←HE2.out]at this
       cases this
      ·rw[hc]at PQ
       have PQ:=zh PQ
       obtain⟨xs,hxs⟩: ∃xs,xs=(billV S q s).s:=⟨_,rfl⟩
       rw[←hxs]at PQ
       clear hxs
       obtain⟨xi,hxi⟩: ∃xi,xi=(billV S q s).i:=⟨_,rfl⟩
       rw[←hxi]at PQ
       clear hxi
       obtain⟨xb,hxb⟩: ∃xb,xb=(billV S q s).b:=⟨_,rfl⟩
       rw[←hxb]at PQ
       clear hxb
       obtain⟨xa,hxa⟩: ∃xa,xa=(billV S q s).a:=⟨_,rfl⟩
       rw[←hxa]at PQ
       clear hxa
       clear hc
       go_upto_region 12 with (go_at_call 20;refine(PQ.out).mono ?_;rintro e w7 ⟨rfl,hb⟩;have HB7:=zh (HB6.out.trans (hb.mono HB6.out.size));have HX7:=zh (HX6.out.below hb HX6.out.lt);clear hb)
       clear q0 nl
       have HB8:=zh (HB7.out.alloc HB7.out.size (.cells #[.int .i64 xs,.int .i64 xi,.int .i64 xb,.int .i64 xa] 100))
       have HX8:=zh (HX7.out.alloc (.cells #[.int .i64 xs,.int .i64 xi,.int .i64 xb,.int .i64 xa] 100))
       have HY8:=zh (Blk.new' w7 #[.int .i64 xs,.int .i64 xi,.int .i64 xb,.int .i64 xa] 100)
       generalize w7.alloc (.cells #[.int .i64 xs,.int .i64 xi,.int .i64 xb,.int .i64 xa] 100)=w8 at HB8 HX8 HY8 ⊢
       generalize w7.heap.size=gx at HY8 ⊢
       have y0:=HY8.out.cell 0 rfl
       have y1:=HY8.out.cell 1 rfl
       have y2:=HY8.out.cell 2 rfl
       have y3:=HY8.out.cell 3 rfl
       have yl:=HY8.out.lt
       have z0:=HX8.out.cell 0 rfl
       have z1:=HX8.out.cell 1 rfl
       have z2:=HX8.out.cell 2 rfl
       have z3:=HX8.out.cell 3 rfl
       have zl:=HX8.out.lt
       go_upto_region 10 with fail
       clear y0 y1 y2 y3 yl z0 z1 z2 z3 zl
       go_wp2_with fail
       exact⟨⟨q+1,Nat.succ_le_of_lt HQ4.out,by simp,zh ⟨HB8.out,HX8.out⟩⟩,bl4_lt HQ4.out⟩
     ·have hd4:decide (q<4)=false:=decide_eq_false (by omega)
      have hd4':decide ((q:Int)<4)=false:=decide_eq_false (by omega)
      clear hq4
      go_upto_region 14 with fail
      have z0:=HX6.out.cell 0 rfl
      have z1:=HX6.out.cell 1 rfl
      have z2:=HX6.out.cell 2 rfl
      have zl:=HX6.out.lt
      go_upto_region 3 with fail
      have hiw:=HIW.out
      have hss:=HSS.out
      rw[←hss]at hiw
      clear z0 z1 z2 zl hss
      go_wp2_with fail
      exact⟨⟨i+1,Nat.succ_le_of_lt HLT.out,by rw[HSS.out,HIW.out];simp,HB6⟩,by rw[HSS.out,HIW.out];exact blN_lt HLT.out⟩
end Go.Proofs.YtlklnaebdnahcaaGreat
namespace Go.Proofs.YtlklnaebdnahcaaGreat
open Go.RowKit Nw
def RS (w W:World) (gr n gT gB:Nat) (av:Nat→Value) (D:Dl) (k:Nat):Prop:= ∃S T B wg lc,RunAt w W gr n gT gB av D S T B false wg∧OkR (301*k) D S∧Bq.Inv D lc S∧Bq.TB T B S∧0≤lc∧lc+S.now≤(k:Int)
structure DlOk (D:Dl):Prop where
 sl:0≤D.sl∧D.sl≤6
 dr:0≤D.dr∧D.dr≤1073741824
 bk:0≤D.bk∧D.bk≤1073741824
theorem Inv_drN {D:Dl} {lc:Int} (hD:DlOk D) (hlc:0≤lc): ∀(n:Nat) {S:St},Bq.Inv D lc S→lc+S.now≤150→Bq.Inv D lc (drN D n S)∧(drN D n S).now=S.now∧(drN D n S).vc=S.vc
 |0,S,h,hb=>⟨h,rfl,rfl⟩
 |n+1,S,h,hb=>by
  unfold drN
  split
  ·exact⟨h,rfl,rfl⟩
  ·obtain⟨h1,h2,h3⟩:=h.do hb hlc hD.sl.1 hD.sl.2 4 0 0 0 (by decide) (by decide)
   obtain⟨k1,k2,k3⟩:=Inv_drN hD hlc n h1 (by rw[h2];exact hb)
   exact⟨k1,k2.trans h2,k3.trans h3⟩
theorem OkR_drN {D:Dl}: ∀(n:Nat) {m:Nat} {S:St},OkR m D S→m+n<90000→OkR (m+n) D (drN D n S)
 |0,m,S,h,hm=>h
 |n+1,m,S,h,hm=>by
  unfold drN
  split
  ·exact h.up (by omega)
  ·have:=OkR_drN n (h.do (by omega) 4 0 0 0) (by omega)
   rw[show m+(n+1)=m+1+n by omega]
   exact this
theorem sum_tT {T:List (Int×Int)} {s f:Int} (h:0<f):mput s (wrap64 (Bq.gt s T+f)) T=Bq.tT T s f:=by unfold Bq.tT;rw[if_pos h]
theorem sum_tB {B:List (Int×Int)} {s f:Int} (h: ¬0<f):mput s (wrap64 (Bq.gt s B-f)) B=Bq.tB B s f:=by unfold Bq.tB;rw[if_neg h]
theorem no_tT {T:List (Int×Int)} {s f:Int} (h: ¬0<f):T=Bq.tT T s f:=by unfold Bq.tT;rw[if_neg h]
theorem no_tB {B:List (Int×Int)} {s f:Int} (h:0<f):B=Bq.tB B s f:=by unfold Bq.tB;rw[if_pos h]
section
variable {w W:World} {gr n gT gB:Nat} {av:Nat→Value} {D:Dl} {k:Nat}
theorem RS.simple {kk a b c:Int} {W':World} {S:St} {T B:List (Int×Int)} {wg:Bool} {lc:Int} (hD:DlOk D) (hr:RunAt w W' gr n gT gB av D (Nw.doS D S kk a b c) T B false wg) (ho:OkR (301*k) D S) (hi:Bq.Inv D lc S) (ht:Bq.TB T B S) (hlc:0≤lc) (hb:lc+S.now≤(k:Int)) (hk:k<150) (h3:kk≠3) (h8:kk≠8):RS w W' gr n gT gB av D (k+1):=by
 obtain⟨h1,h2,h4⟩:=hi.do (by omega) hlc hD.sl.1 hD.sl.2 kk a b c h3 h8
 exact⟨_,T,B,wg,lc,hr,(ho.do (by omega) kk a b c).up (by omega),h1,ht.vc h4,hlc,by rw[h2];omega⟩
theorem act_all (hD:DlOk D) (hk:k<150) (h:RS w W gr n gT gB av D k) (d A b:Int) (hd:0≤d∧d≤255) (hA: -32768≤A∧A≤32767) (hb:0≤b∧b≤255):
 Calls Tryz.prog 41 #[.pointer (some ⟨gr,0,none⟩),.agg #[.int .u8 d,.int .i16 A,.int .u8 b]] W fun e w'=>e=.returned (.tuple #[])∧RS w w' gr n gT gB av D (k+1):=by
 obtain⟨S,T,B,wg,lc,hr,ho,hi,ht,hlc,hbd⟩:=h
 have em:d.tmod 16=d%16:=Int.tmod_eq_emod_of_nonneg hd.1
 have hm:301*k<80000:=by omega
 have hnow:=hi.now
 have hbd2:lc+S.now≤150:=by omega
 have hp: -1310720≤A*40∧A*40≤1310720:=by omega
 obtain⟨t1,t2⟩:=Bq.do3 (D:=D) (S:=S) hp (by omega)
 obtain⟨i1,tk⟩:=hi.tick hbd2 hlc hD.sl.2 (A*40)
 obtain⟨fb,fin⟩:=tk.bd hi ⟨hD.dr.2,hD.bk.2⟩ ⟨hD.dr.1,hD.bk.1⟩
 have htb:=Bq.TB.tick ht hi ⟨hD.dr.2,hD.bk.2⟩ tk
 have o1:OkR (301*k+1) D (Nw.tick D S (A*40)):=t2▸ho.do (by omega) 3 (A*40) 0 0
 have hD1:=hD.dr
 have hD2:=hD.bk
 have F1: ∀{W':World} {T' B':List (Int×Int)},RunAt w W' gr n gT gB av D (Nw.tick D S (A*40)) T' B' false wg→T'=Bq.tT T (Nw.tick D S (A*40)).sss (Nw.tick D S (A*40)).flow→B'=Bq.tB B (Nw.tick D S (A*40)).sss (Nw.tick D S (A*40)).flow→RS w W' gr n gT gB av D (k+1):=by
  intro W' T' B' h1 e1 e2
  exact⟨_,T',B',wg,lc,h1,o1.up (by omega),i1,by rw[e1,e2];exact htb,hlc,by rw[tk.now];omega⟩
 have F2: ∀{W':World} {T' B':List (Int×Int)},RunAt w W' gr n gT gB av D (drN D 300 (Nw.tick D S (A*40))) T' B' false wg→T'=Bq.tT T (Nw.tick D S (A*40)).sss (Nw.tick D S (A*40)).flow→B'=Bq.tB B (Nw.tick D S (A*40)).sss (Nw.tick D S (A*40)).flow→RS w W' gr n gT gB av D (k+1):=by
  intro W' T' B' h1 e1 e2
  obtain⟨j1,j2,j3⟩:=Inv_drN hD hlc 300 i1 (by rw[tk.now];omega)
  exact⟨_,T',B',wg,lc,h1,(OkR_drN 300 o1 (by omega)).up (by omega),j1,by rw[e1,e2];exact htb.vc j3,hlc,by rw[j2,tk.now];omega⟩
 clear htb o1
 have h16:d%16=0∨d%16=1∨d%16=2∨d%16=3∨d%16=4∨d%16=5∨d%16=6∨d%16=7∨d%16=8∨d%16=9∨d%16=10∨d%16=11∨d%16=12∨d%16=13∨d%16=14∨d%16=15:=by omega
 generalize hT1:Nw.tick D S (A*40)=S1 at *
 rcases h16 with e|e|e|e|e|e|e|e|e|e|e|e|e|e|e|e
 ·exact(act_0 hr ho hm d A b hb (em.trans e)).mono fun e w' ⟨h1,wg',h2⟩=>⟨h1,RS.simple hD h2 ho hi ht hlc hbd hk (by decide) (by decide)⟩
 ·exact(act_1 hr ho hm d A b hb (em.trans e)).mono fun e w' ⟨h1,h2⟩=>⟨h1,RS.simple hD h2 ho hi ht hlc hbd hk (by decide) (by decide)⟩
 ·by_cases hf:0<S1.flow
  ·exact(act_2p hr ho hm d A b hA (em.trans e) (t2.symm) S1.sss S1.flow rfl rfl hf fin fb.2 (by omega) (by omega)).mono fun e w' ⟨h1,h2⟩=>⟨h1,F1 h2 (sum_tT hf) (no_tB hf)⟩
  ·exact(act_2n hr ho hm d A b hA (em.trans e) (t2.symm) S1.sss S1.flow rfl rfl hf fin fb.2 (by omega) (by omega)).mono fun e w' ⟨h1,h2⟩=>⟨h1,F1 h2 (no_tT hf) (sum_tB hf)⟩
 ·by_cases hf:0<S1.flow
  ·exact(act_3p hr ho hm d A b hA (em.trans e) (t2.symm) S1.sss S1.flow rfl rfl hf fin fb.2 (by omega) (by omega)).mono fun e w' ⟨h1,h2⟩=>⟨h1,F1 h2 (sum_tT hf) (no_tB hf)⟩
  ·exact(act_3n hr ho hm d A b hA (em.trans e) (t2.symm) S1.sss S1.flow rfl rfl hf fin fb.2 (by omega) (by omega)).mono fun e w' ⟨h1,h2⟩=>⟨h1,F1 h2 (no_tT hf) (sum_tB hf)⟩
 ·by_cases hf:0<S1.flow
  ·exact(act_4p hr ho hm d A b hA (em.trans e) (t2.symm) S1.sss S1.flow rfl rfl hf fin fb.2 (by omega) (by omega)).mono fun e w' ⟨h1,h2⟩=>⟨h1,F1 h2 (sum_tT hf) (no_tB hf)⟩
  ·exact(act_4n hr ho hm d A b hA (em.trans e) (t2.symm) S1.sss S1.flow rfl rfl hf fin fb.2 (by omega) (by omega)).mono fun e w' ⟨h1,h2⟩=>⟨h1,F1 h2 (no_tT hf) (sum_tB hf)⟩
 ·exact(act_5 hr ho hm d A b hb (em.trans e)).mono fun e w' ⟨h1,h2⟩=>⟨h1,RS.simple hD h2 ho hi ht hlc hbd hk (by decide) (by decide)⟩
 ·exact(act_6 hr ho hm d A b hb (em.trans e)).mono fun e w' ⟨h1,h2⟩=>⟨h1,RS.simple hD h2 ho hi ht hlc hbd hk (by decide) (by decide)⟩
 ·exact(act_7 hr ho hm d A b hb (em.trans e)).mono fun e w' ⟨h1,h2⟩=>⟨h1,RS.simple hD h2 ho hi ht hlc hbd hk (by decide) (by decide)⟩
 ·exact(act_8 hr ho hm d A b hb (em.trans e)).mono fun e w' ⟨h1,h2⟩=>⟨h1,RS.simple hD h2 ho hi ht hlc hbd hk (by decide) (by decide)⟩
 ·exact(act_9 hr ho hm d A b hb (em.trans e)).mono fun e w' ⟨h1,h2⟩=>⟨h1,RS.simple hD h2 ho hi ht hlc hbd hk (by decide) (by decide)⟩
 ·exact(act_10 hr ho hm d A b hb (em.trans e)).mono fun e w' ⟨h1,h2⟩=>⟨h1,RS.simple hD h2 ho hi ht hlc hbd hk (by decide) (by decide)⟩
 ·exact(act_11 hr ho hm d A b hb (em.trans e)).mono fun e w' ⟨h1,h2⟩=>⟨h1,RS.simple hD h2 ho hi ht hlc hbd hk (by decide) (by decide)⟩
 ·refine(act_12 hr ho hm d A b hb (em.trans e)).mono fun e w' ⟨h1,h2⟩=>⟨h1,?_⟩
  obtain⟨g1,g2,g3⟩:=hi.do8 (b*4000) (b*3000) (1+b%60)
  exact⟨_,T,B,wg,lc+1,h2,(ho.do (by omega) 8 (b*4000) (b*3000) (1+b%60)).up (by omega),g1,ht.vc g3,by omega,by rw[g2];omega⟩
 ·exact(act_13 hr ho hm d A b hb (em.trans e)).mono fun e w' ⟨h1,h2⟩=>⟨h1,RS.simple hD h2 ho hi ht hlc hbd hk (by decide) (by decide)⟩
 ·by_cases hf:0<S1.flow
  ·exact(act_14p hr ho hm d A b hA (em.trans e) (t2.symm) S1.sss S1.flow rfl rfl hf fin fb.2 (by omega) (by omega)).mono fun e w' ⟨h1,h2⟩=>⟨h1,F2 h2 (sum_tT hf) (no_tB hf)⟩
  ·exact(act_14n hr ho hm d A b hA (em.trans e) (t2.symm) S1.sss S1.flow rfl rfl hf fin fb.2 (by omega) (by omega)).mono fun e w' ⟨h1,h2⟩=>⟨h1,F2 h2 (no_tT hf) (sum_tB hf)⟩
 ·by_cases hf:0<S1.flow
  ·exact(act_15p hr ho hm d A b hA (em.trans e) (t2.symm) S1.sss S1.flow rfl rfl hf fin fb.2 (by omega) (by omega)).mono fun e w' ⟨h1,h2⟩=>⟨h1,F2 h2 (sum_tT hf) (no_tB hf)⟩
  ·exact(act_15n hr ho hm d A b hA (em.trans e) (t2.symm) S1.sss S1.flow rfl rfl hf fin fb.2 (by omega) (by omega)).mono fun e w' ⟨h1,h2⟩=>⟨h1,F2 h2 (no_tT hf) (sum_tB hf)⟩
theorem bills_all (hD:DlOk D) (hk:k≤150) (h:RS w W gr n gT gB av D k):
 Calls Tryz.prog 42 #[.pointer (some ⟨gr,0,none⟩)] W fun e w'=>e=.returned (.bool true)∧Below W.heap.size W w':=by
 obtain⟨S,T,B,wg,lc,hr,ho,hi,ht,hlc,hbd⟩:=h
 have h1:=hi.st
 have h2:=(hi.li.t1 1 (by decide)).2
 have h3:=hi.now
 exact bills_c hr S.sss.toNat (by omega) (by omega) (fun s _ _=>Bq.bills_one hi ht s)
theorem RS.below {W':World} (h:RS w W gr n gT gB av D k) (hb:Below W.heap.size W W'):RS w W' gr n gT gB av D k:=by
 obtain⟨S,T,B,wg,lc,hr,r⟩:=h
 exact⟨S,T,B,wg,lc,hr.below hb,r⟩
theorem RS.bel (h:RS w W gr n gT gB av D k):Below w.heap.size w W∧W.cell? ⟨gr,12,none⟩=some (.bool false)∧gr<W.heap.size:=by
 obtain⟨S,T,B,wg,lc,hr,r⟩:=h
 exact⟨hr.net.bel,hr.blk.cell 12 rfl,hr.blk.lt⟩
end
end Go.Proofs.YtlklnaebdnahcaaGreat
namespace Go.Proofs.YtlklnaebdnahcaaGreat
open Go.RowKit Nw
structure Sm where
 d:Int
 a:Int
 b:Int
instance:Inhabited Sm:=⟨⟨0,0,0⟩⟩
def SmAt (w:World) (ad:Addr) (x:Sm):Prop:=w.cell? ad=some (.int .u8 x.d)∧w.cell? ⟨ad.block,ad.off+1,none⟩=some (.int .i16 x.a)∧w.cell? ⟨ad.block,ad.off+2,none⟩=some (.int .u8 x.b)
def SmOk (x:Sm):Prop:=(0≤x.d∧x.d≤255)∧(-32768≤x.a∧x.a≤32767)∧0≤x.b∧x.b≤255
def SmsAt (w:World) (A:Option Addr) (hs:List Sm):Prop:= ∀i,i<hs.length→ ∃ad,A=some ad∧SmAt w (ad.add (i*3)) (hs.getD i default)∧SmOk (hs.getD i default)
theorem SmAt.below {w w1:World} {ad:Addr} {h:Sm} (hh:SmAt w ad h) (hb:Below w.heap.size w w1):SmAt w1 ad h:=by
 have hlt:ad.block<w.heap.size:=World.block_lt_of_cell? _ _ hh.1
 exact⟨(hb.cell hlt).trans hh.1,(hb.cell (p:=⟨_,_,none⟩) hlt).trans hh.2.1,(hb.cell (p:=⟨_,_,none⟩) hlt).trans hh.2.2⟩
theorem dlOk {sl cr ee:Int} (h:0≤sl):DlOk ⟨100,10,exBs,xCn,cr,ee,1+sl%6,1000000,1000000⟩:=⟨by show 0≤1+sl%6∧1+sl%6≤6;omega,⟨(by decide:(0:Int)≤1000000),(by decide:(1000000:Int)≤1073741824)⟩,⟨(by decide:(0:Int)≤1000000),(by decide:(1000000:Int)≤1073741824)⟩⟩
theorem okR0 {D:Dl} (h1:D.cn=xCn):OkR 0 D st0:=⟨0,0,0,OkB.new (by rw[h1];exact xCn_pos) (by rw[h1];decide),by decide,Nat.le_refl _,Nat.le_refl _⟩
theorem rs0 {w W:World} {gr n gT gB:Nat} {av:Nat→Value} {sl cr ee:Int} (hsl:0≤sl) (h:RunAt w W gr n gT gB av ⟨100,10,exBs,xCn,cr,ee,1+sl%6,1000000,1000000⟩ st0 [] [] false false):RS w W gr n gT gB av ⟨100,10,exBs,xCn,cr,ee,1+sl%6,1000000,1000000⟩ 0:=
 ⟨st0,[],[],false,0,h,okR0 rfl,Bq.Inv.new ⟨(by decide:(0:Int)≤1000000),(by decide:(0:Int)≤1000000)⟩ (by show 0≤1+sl%6;omega),Bq.TB.new,Int.le_refl _,by decide⟩
theorem lb_lt {m k:Nat} (h:k<m):m-(intOf (.int .i64 ((k:Int)+1))).toNat<m-(intOf (.int .i64 (k:Int))).toNat:=by
 simp only[intOf]
 omega
theorem Bills_walk (ev sl cr:Int) (A:Option Addr) (hs:List Sm) (cap:Nat) (w:World) (hev:0≤ev∧ev≤255) (hsl:0≤sl∧sl≤255) (hcr:0≤cr∧cr≤255) (hlc:hs.length≤cap) (hcm:cap≤9223372036854775807) (hh:SmsAt w A hs):
 Calls Tryz.prog 5 #[.int .u8 ev,.int .u8 sl,.int .u8 cr,.slice A hs.length cap] w fun e w'=>e=.returned (.bool true)∧Below w.heap.size w w':=by
 have PB:=zh (begin_c ev sl cr hev hsl hcr w)
 have HSL:=zh hsl.1
 have HH:=zh hh
 obtain⟨m,hm⟩: ∃m,m=hs.length:=⟨_,rfl⟩
 rw[←hm]at hlc ⊢
 have HM:=zh hm
 have HLC:=zh (Nat.le_trans hlc hcm)
 clear hev hsl hcr hlc hcm hh hm
 go_enter Tryz.func5,Tryz.ntmps5
 go_upto_region 2 with (go_at_call 40;refine(PB.out).mono ?_;rintro e w2 ⟨gr,n,gT,gB,av,rfl,hr⟩;have HR:=zh (rs0 HSL.out hr);have HD:=zh (dlOk (cr:=cr) (ee:=1+ev%5) HSL.out);clear hr)
 generalize (⟨100,10,exBs,xCn,cr,1+ev%5,1+sl%6,1000000,1000000⟩:Dl)=D at HR HD
 have hng: ∀w:World,(binOp .eql 137 (.pointer (some ⟨gr,0,none⟩)) (.pointer none)).run Tryz.prog w=.ok (.bool false) w:=fun w=>by kernel_rfl
 go_wp2_with fail
 go_loopw [10] (fun v wr=> ∃k:Nat,k≤m∧k≤150∧v=.int .i64 k∧Hid (RS w wr gr n gT gB av D k)) (fun v _=>m-(intOf v).toNat)
 case atStart=>exact⟨0,Nat.zero_le _,Nat.zero_le _,rfl,HR⟩
 case round=>
  obtain⟨k,hkm,hk150,rfl,HRk⟩:=hrel
  have HB12:=HRk.out.bel
  by_cases hlt:k<m∧k<150
  ·obtain⟨hl1,hl2⟩:=hlt
   have HLT:=zh (And.intro hl1 hl2)
   obtain⟨ad,rfl,hx,hxo⟩:=HH.out k (by rw[←HM.out];exact hl1)
   have HXA:=zh (hx.below HB12.1)
   have HXO:=zh hxo
   generalize hs.getD k default=x at HXA HXO
   clear hx hxo
   have PA:=zh (act_all HD.out hl2 HRk.out x.d x.a x.b HXO.out.1 HXO.out.2.1 HXO.out.2.2)
   obtain⟨x0,x1,x2⟩:=HXA.out
   have xl:(ad.add (k*3)).block<wr.heap.size:=World.block_lt_of_cell? _ _ x0
   have hd1:decide (k<m)=true:=decide_eq_true hl1
   have hd2:decide ((k:Int)<150)=true:=decide_eq_true (by omega)
   have hkw:wrap64 ((k:Int)+1)=(k:Int)+1:=by rw[←IntWalk.i64_left];exact IntWalk.i64_in _ (by omega)
   have hki:(k:Int)<(m:Int):=by omega
   have hk0:(0:Int)≤(k:Int):=by omega
   clear hl1 hl2 HB12
   go_upto_region 8 with (go_at_call 41;refine(PA.out).mono ?_;rintro e w4 ⟨rfl,hr4⟩;have HR4:=zh hr4;clear hr4)
   clear x0 x1 x2 xl hd1 hd2 PA
   obtain⟨_,q12,ql⟩:=HR4.out.bel
   have PBI:=zh (bills_all HD.out (Nat.succ_le_of_lt HLT.out.2) HR4.out)
   go_wp2_with (go_at_call 42;refine(PBI.out).mono ?_;rintro e w5 ⟨rfl,hb⟩;have HB5:=zh hb;clear hb)
   ·exact⟨⟨k+1,Nat.succ_le_of_lt HLT.out.1,Nat.succ_le_of_lt HLT.out.2,by simp,zh (HR4.out.below HB5.out)⟩,lb_lt HLT.out.1⟩
   ·exact⟨⟨k+1,Nat.succ_le_of_lt HLT.out.1,Nat.succ_le_of_lt HLT.out.2,by simp,HR4⟩,lb_lt HLT.out.1⟩
  ·have PBI:=zh (bills_all HD.out hk150 HRk.out)
   by_cases hkm2:k<m
   ·have hd1:decide (k<m)=true:=decide_eq_true hkm2
    have h150:k=150:=by omega
    have hd2:decide ((k:Int)<150)=false:=decide_eq_false (by omega)
    clear hlt h150 hkm2 hkm hk150
    go_wp2_with (first|(go_at_call 42;refine(PBI.out).mono ?_;rintro e w5 ⟨rfl,hb⟩;have HB5:=zh hb;clear hb)|(go_at_call 32;refine(works_c _).mono ?_;rintro e w6 ⟨rfl,hb⟩;have HB6:=zh hb;clear hb))
    go_ret
    exact⟨rfl,HB12.1.trans ((HB5.out.mono HB12.1.size).trans (HB6.out.mono (Nat.le_trans HB12.1.size HB5.out.size)))⟩
   ·have hd1:decide (k<m)=false:=decide_eq_false hkm2
    clear hlt hkm2 hkm hk150
    go_wp2_with (first|(go_at_call 42;refine(PBI.out).mono ?_;rintro e w5 ⟨rfl,hb⟩;have HB5:=zh hb;clear hb)|(go_at_call 32;refine(works_c _).mono ?_;rintro e w6 ⟨rfl,hb⟩;have HB6:=zh hb;clear hb))
    go_ret
    exact⟨rfl,HB12.1.trans ((HB5.out.mono HB12.1.size).trans (HB6.out.mono (Nat.le_trans HB12.1.size HB5.out.size)))⟩
end Go.Proofs.YtlklnaebdnahcaaGreat
namespace Go.Proofs.YtlklnaebdnahcaaGreat
open Go.RowKit Go.WideShapes Go.ChangeShapes
section
variable {H:Type} {enc:TypeId×Value→H} {P:Program}
theorem all_stays (hl:laidOutB P=true) {W W':World} {sp':Nat→Bool}: ∀{ts:List TypeId} {vs:List Value} {ds:List (DataW H)} {ps:List MemPlace},(ts.all fun t=>P.readableRec t&&decide (t<P.types.size))=true→
 DataW.TrodAll enc P W 0 (fun _=>true) true ts vs ds ps→(∀p∈ps,W.sameAt W' p)→(∀p∈ps,sp' p.block=true)→DataW.TrodAll enc P W' 0 sp' true ts vs ds ps
 |[],[],[],_,_,h,_,_=>h
 |t::ts,v::vs,d::ds,_,hr,⟨p,q,h1,h2,e⟩,hsame,hs=>by
  subst e
  simp only[List.all_cons,Bool.and_eq_true,decide_eq_true_eq]at hr
  refine⟨p,q,WideElems.Trod_stays hl hr.1.1 hr.1.2 h1 (fun x hx=>hsame x (List.mem_append_left _ hx)) (fun x hx=>hs x (List.mem_append_left _ hx)),?_,rfl⟩
  exact all_stays hl (by simpa using hr.2) h2 (fun x hx=>hsame x (List.mem_append_right _ hx)) (fun x hx=>hs x (List.mem_append_right _ hx))
theorem law_post {f:Func} {s:ChangeSpec} {apart fresh handsOn again:Bool} {W W':World} {args:Array Value} {ds:List (DataW H)} {p:List MemPlace}
 (hl:laidOutB P=true) (hr:(f.params.toList.all fun t=>P.readableRec t&&decide (t<P.types.size))=true) (hsv:s.vars=[])
 (hW:DataW.Whole enc P f.params.toList s.vars apart W args.toList ds [] p)
 (hA:DataW.TrodAll enc P W 0 (fun _=>true) true f.params.toList args.toList ds p)
 (hsr:(s.fn H (ds++[])).results=[.lit (.bool true)]) (hsa:(s.fn H (ds++[])).args=ds) (hsvv:(s.fn H (ds++[])).vars=[])
 (hres: ∀(b:Nat) (sp:Nat→Bool) (hd:Bool),DataW.TrodAll enc P W' b sp hd f.resultTypes.toList ((Value.bool true).resultList f.resultTypes.size) [.lit (.bool true)] [])
 (hb:Below W.heap.size W W')
 (hok: ∀(j:Nat) (t:TypeId) (r:Value),f.resultTypes[j]?=some t→((Value.bool true).resultList f.resultTypes.size)[j]?=some r→Value.okWide P W' .any 0 t r):
 s.post enc P f apart fresh handsOn again W args (.bool true) W':=by
 have hlt: ∀x∈p,x.block<W.heap.size:=fun x hx=>hW.lt x hx
 have hargs: ∀sp:Nat→Bool,(∀x∈p,sp x.block=true)→DataW.TrodAll enc P W' 0 sp true f.params.toList args.toList (s.fn H (ds++[])).args p:=fun sp hsp=>by
  rw[hsa]
  exact all_stays hl hr hA (fun x hx=>hb.same (hlt x hx)) hsp
 have hvars: ∀sp:Nat→Bool,DataW.TrodVars enc P W' sp s.vars (s.fn H (ds++[])).vars []:=fun sp=>by rw[hsv,hsvv];rfl
 have hres': ∀(b:Nat) (sp:Nat→Bool) (hd:Bool),DataW.TrodAll enc P W' b sp hd f.resultTypes.toList ((Value.bool true).resultList f.resultTypes.size) (s.fn H (ds++[])).results []:=fun b sp hd=>by rw[hsr];exact hres b sp hd
 have hold: ∀x∈p,(fun b=>decide (b<W.heap.size)) x.block=true:=fun x hx=>by simpa using hlt x hx
 refine⟨ds,[],p,[],p,[],hW,hres' _ _ _,hargs _ hold,hvars _,World.keptBut_mono (fun x hx=>⟨hx,Or.inr (by simpa using hx)⟩) (hb.frame (· ∈p)),fun _=>?_⟩
 ·obtain⟨_,_,_,_,_,hz,hn⟩:=hW
  refine⟨hok,_,_,([]++p)++[],⟨[]++p,[],trodAll_append (hargs _ (fun _ _=>rfl)) (hres' _ _ _),hvars _,rfl,?_,?_⟩,?_⟩
  ·intro b off hp
   have hin:MemPlace.cell b off∈p:=by simpa using hp
   rw[hb.frozen (hlt _ hin)]
   exact hz b off hin
  ·intro ha
   simpa using hn ha
  ·intro x hx _
   simpa using hx
end
end Go.Proofs.YtlklnaebdnahcaaGreat
namespace Go.Proofs.YtlklnaebdnahcaaGreat
open Go.RowKit Go.WideShapes Go.ChangeShapes
section
variable {H:Type} {enc:TypeId×Value→H} {P:Program} {w:World} {base:Nat} {spare:Nat→Bool} {held:Bool}
end
end Go.Proofs.YtlklnaebdnahcaaGreat
namespace Go.Proofs.YtlklnaebdnahcaaGreat
open Go.RowKit Go.WideShapes Go.ChangeShapes Go.Deep
inductive Sh where
 |nil
 |i (k:IntKind) (r:Sh)
 |b (r:Sh)
 |s (sz:Nat) (es:Sh) (r:Sh)
namespace Sh
def app:Sh→Sh→Sh
 |nil,t=>t
 |i k r,t=>i k (app r t)
 |b r,t=>b (app r t)
 |s sz es r,t=>s sz es (app r t)
def len:Sh→Nat
 |nil=>0
 |i _ r=>len r+1
 |b r=>len r+1
 |s _ _ r=>len r+1
theorem len_app: ∀a b:Sh,(app a b).len=a.len+b.len
 |nil,_=>by simp[app,len]
 |i _ r,t=>by simp[app,len,len_app r t];omega
 |b r,t=>by simp[app,len,len_app r t];omega
 |s _ _ r,t=>by simp[app,len,len_app r t];omega
end Sh
def Rd (w:World):Sh→List Value→Prop
 |.nil,l=>l=[]
 |.i k r,l=> ∃n vs,l=.int k n::vs∧(Lit.int k n).wf=true∧Rd w r vs
 |.b r,l=> ∃b vs,l=.bool b::vs∧Rd w r vs
 |.s sz es r,l=> ∃v vs,l=v::vs∧Rd w r vs∧(v=.slice none 0 0∨ ∃a len cap,v=.slice (some a) len cap∧len≤cap∧cap≤maxLen∧
   ∀i,i<len→ ∃cs,cs.length=sz∧(∀j u,cs[j]?=some u→w.cell? ((a.add (i*sz)).add j)=some u)∧Rd w es cs)
theorem rd_app {w:World}: ∀{s t:Sh} {l m:List Value},Rd w s l→Rd w t m→Rd w (s.app t) (l++m)
 |.nil,_,_,_,h,h'=>by
  have:_=[]:=h
  subst this
  exact h'
 |.i _ _,_,_,_,⟨n,vs,e,hw,h⟩,h'=>⟨n,vs++_,by rw[e];rfl,hw,rd_app h h'⟩
 |.b _,_,_,_,⟨n,vs,e,h⟩,h'=>⟨n,vs++_,by rw[e];rfl,rd_app h h'⟩
 |.s _ _ _,_,_,_,⟨v,vs,e,h,hs⟩,h'=>⟨v,vs++_,by rw[e];rfl,rd_app h h',hs⟩
def shFields (g:TypeId→Option Sh):List Field→Nat→Option Sh
 |[],_=>some .nil
 |f::fs,off=>if f.offset=off then
   match g f.type with
   |some ks=>match shFields g fs (off+ks.len)with
    |some r=>some (ks.app r)
    |none=>none
   |none=>none
  else none
def shTimes (ks:Sh):Nat→Sh
 |0=>.nil
 |n+1=>ks.app (shTimes ks n)
def shK (P:Program):Nat→TypeId→Option Sh
 |0,_=>none
 |f+1,t=>
  let r:=match P.underlying t with
   |some (.int k)=>some (Sh.i k .nil)
   |some .bool=>some (Sh.b .nil)
   |some (.slice e)=>match shK P f e with
    |some es=>some (Sh.s (P.cellsOf e) es .nil)
    |none=>none
   |some (.struct fs)=>shFields (shK P f) fs.toList 0
   |some (.array n e)=>match shK P f e with
    |some ks=>some (shTimes ks n)
    |none=>none
   |_=>none
  match r with
  |some ks=>if ks.len=P.cellsOf t then some ks else none
  |none=>none
section
variable {H:Type} {enc:TypeId×Value→H} {P:Program} {w:World} {base:Nat} {spare:Nat→Bool} {held:Bool}
theorem shFields_open (g:TypeId→Option Sh) (n:Nat)
 (hg: ∀t ks,g t=some ks→ks.len=P.cellsOf t∧ ∀cs x,DataW.trod enc P w base spare held n t cs=some x→Rd w ks cs):
 ∀(fs:List Field) (off:Nat) (ks:Sh) (cs:List Value),shFields g fs off=some ks→cs.length=off+ks.len→
  (∀f∈fs,∃x,DataW.trod enc P w base spare held n f.type ((cs.drop f.offset).take (P.cellsOf f.type))=some x)→Rd w ks (cs.drop off)
 |[],off,ks,cs,h,hl,_=>by
  simp only[shFields,Option.some.injEq]at h
  subst h
  rw[List.drop_eq_nil_of_le (by simp[Sh.len]at hl;omega)]
  rfl
 |f::fs,off,ks,cs,h,hl,hx=>by
  unfold shFields at h
  split at h
  ·rename_i ho
   split at h
   ·rename_i k1 hk1
    split at h
    ·rename_i k2 hk2
     simp only[Option.some.injEq]at h
     subst h
     obtain⟨x,hx0⟩:=hx f (by simp)
     obtain⟨hlen,hop⟩:=hg _ _ hk1
     have h1:=hop _ _ hx0
     rw[ho,←hlen]at h1
     have h2:=shFields_open g n hg fs (off+k1.len) k2 cs hk2 (by rw[Sh.len_app]at hl;omega) (fun f' hf'=>hx f' (by simp[hf']))
     have:=rd_app h1 h2
     rw[←List.drop_drop]at this
     rwa [List.take_append_drop]at this
    ·cases h
   ·cases h
  ·cases h
theorem shTimes_len (ks:Sh): ∀n,(shTimes ks n).len=n*ks.len
 |0=>by simp[shTimes,Sh.len]
 |n+1=>by rw[shTimes,Sh.len_app,shTimes_len ks n,Nat.add_mul];omega
theorem shTimes_open {ks:Sh} {c:Nat} (hc:ks.len=c): ∀(m i:Nat) (cs:List Value),cs.length=(i+m)*c→
 (∀j,j<m→Rd w ks ((cs.drop ((i+j)*c)).take c))→Rd w (shTimes ks m) (cs.drop (i*c))
 |0,i,cs,hl,_=>by
  rw[List.drop_eq_nil_of_le (by simp at hl;omega)]
  rfl
 |m+1,i,cs,hl,h=>by
  have h1:=h 0 (by omega)
  have h2:=shTimes_open hc m (i+1) cs (by rw[hl];congr 1;omega) (fun j hj=>by
   have:=h (j+1) (by omega)
   rwa [show i+(j+1)=i+1+j from by omega]at this)
  have:=rd_app h1 h2
  rw[show(i+1)*c=(i+0)*c+c from by rw[Nat.add_mul];simp,←List.drop_drop,List.take_append_drop]at this
  show Rd w (ks.app (shTimes ks m)) _
  simpa using this
theorem sh_open: ∀(fuel:Nat) (t:TypeId) (ks:Sh),shK P fuel t=some ks→
 ks.len=P.cellsOf t∧ ∀(n:Nat) (cs:List Value) (x:DataW H×List MemPlace),DataW.trod enc P w base spare held n t cs=some x→Rd w ks cs
 |0,_,_,h=>by cases h
 |f+1,t,ks,h=>by
  have hrec:=fun t' ks' (h':shK P f t'=some ks')=>sh_open f t' ks' h'
  unfold shK at h
  simp only at h
  split at h
  ·rename_i r hr
   split at h
   ·rename_i hlen
    simp only[Option.some.injEq]at h
    subst h
    refine⟨hlen,fun n cs x hx=>?_⟩
    split at hr
    ·rename_i k hu
     simp only[Option.some.injEq]at hr
     subst hr
     obtain⟨m,rfl,_,hwf⟩:=DataW.trod_int hu hx
     exact⟨m,[],rfl,hwf,rfl⟩
    ·rename_i hu
     simp only[Option.some.injEq]at hr
     subst hr
     obtain⟨b,rfl,_⟩:=DataW.trod_bool hu hx
     exact⟨b,[],rfl,rfl⟩
    ·rename_i e hu
     split at hr
     ·rename_i es hes
      simp only[Option.some.injEq]at hr
      subst hr
      rcases open_slice hu hx with ⟨rfl,_⟩|⟨a,len,cap,m,n',D,Pl,rfl,_,hl,hm,hmm,_,hi⟩
      ·exact⟨_,[],rfl,rfl,.inl rfl⟩
      ·refine⟨_,[],rfl,rfl,.inr ⟨a,len,cap,rfl,hl,hm,fun i hil=>?_⟩⟩
       have hlm:len≤m:=by rw[hmm];split<;>omega
       obtain⟨cs',hc,ht⟩:=hi i (by omega)
       obtain⟨_,hcl,hat⟩:=World.cells?_some hc
       refine⟨cs',hcl,fun j u hj=>?_,(hrec e es hes).2 n' _ _ ht⟩
       have hjl:j<cs'.length:=(List.getElem?_eq_some_iff.1 hj).1
       rw[hat j (by omega),hj]
     ·cases hr
    ·rename_i fs hu
     obtain⟨xs,m,_,_,hcl,hxl,hf⟩:=DataW.trod_struct hu hx
     have:=shFields_open (enc:=enc) (P:=P) (w:=w) (base:=base) (spare:=spare) (held:=held) (shK P f) m (fun t' ks' h'=>⟨(hrec t' ks' h').1,fun cs x=>(hrec t' ks' h').2 m cs x⟩) fs.toList 0 r cs hr (by omega) (fun fd hfd=>by
      obtain⟨i,hi,he⟩:=List.getElem_of_mem hfd
      have hi':fs[i]?=some fd:=by
       rw[←he]
       simp at hi
       simp[hi]
      have h2:=hf i fd hi'
      have hlt:i<xs.length:=by simp at hi;omega
      rw[List.getElem?_eq_getElem hlt]at h2
      exact⟨_,h2⟩)
     simpa using this
    ·rename_i nn e hu
     split at hr
     ·rename_i ke hke
      simp only[Option.some.injEq]at hr
      subst hr
      obtain⟨xs,m,_,_,hcl,hxl,hf⟩:=DataW.trod_array hu hx
      obtain⟨hel,hop⟩:=hrec e ke hke
      have hcs:cs.length=(0+nn)*P.cellsOf e:=by
       rw[hcl,←hlen,shTimes_len,hel,Nat.zero_add]
      have:=shTimes_open (w:=w) hel nn 0 cs hcs (fun j hj=>by
       have h2:=hf j hj
       have hlt:j<xs.length:=by omega
       rw[List.getElem?_eq_getElem hlt]at h2
       rw[Nat.zero_add]
       exact hop m _ _ h2)
      simpa using this
     ·cases hr
    ·cases hr
   ·cases h
  ·cases h
theorem sh_slice {r:Reach} {b0 fuel:Nat} {t e:TypeId} {sz:Nat} {es:Sh} {v:Value} {d:DataW H} {p:List MemPlace} (hs:P.underlying t=some (.slice e)) (hk:shK P fuel t=some (.s sz es .nil))
 (hv:Value.okWide P w r b0 t v) (h:DataW.Trod enc P w base spare held t v d p):v=.slice none 0 0∨ ∃a len cap,v=.slice (some a) len cap∧len≤cap∧cap≤maxLen∧
   ∀i,i<len→ ∃cs,cs.length=sz∧(∀j u,cs[j]?=some u→w.cell? ((a.add (i*sz)).add j)=some u)∧Rd w es cs:=by
 obtain⟨n,hn⟩:=h
 have h1:=(sh_open fuel t _ hk).2 n _ _ hn
 have hc:v.cells= #[v]:=by
  simp only[Value.okWide,hs]at hv
  cases v<;>simp_all [Cell.okWide,Cell.ok,Value.cells]
 rw[hc]at h1
 obtain⟨v',vs,hv',hvs,hx⟩:=h1
 have hv'':v'=v:=by simp at hv';exact hv'.1.symm
 subst hv''
 exact hx
end
theorem choose_list {α:Type} {n:Nat} {Q:Nat→α→Prop} (h: ∀i,i<n→ ∃x,Q i x): ∃l:List α,l.length=n∧ ∀i x,l[i]?=some x→Q i x:=by
 induction n with
 |zero=>exact⟨[],rfl,fun i x hx=>by simp at hx⟩
 |succ n ih=>
  obtain⟨l,hl,hq⟩:=ih (fun i hi=>h i (by omega))
  obtain⟨x,hx⟩:=h n (by omega)
  refine⟨l++[x],by simp[hl],fun i y hy=>?_⟩
  by_cases hi:i<l.length
  ·rw[List.getElem?_append_left hi]at hy
   exact hq i y hy
  ·rw[List.getElem?_append_right (by omega)]at hy
   have h0:i-l.length=0:=by
    rcases Nat.eq_zero_or_pos (i-l.length)with h0|h0
    ·exact h0
    ·rw[List.getElem?_eq_none (by simp;omega)]at hy;cases hy
   rw[h0]at hy
   simp at hy
   subst hy
   obtain rfl:i=n:=by omega
   exact hx
end Go.Proofs.YtlklnaebdnahcaaGreat
namespace Go.Proofs.YtlklnaebdnahcaaGreat
open Go.RowKit
theorem u8_bdS {a:Int} (h:(Lit.int .u8 a).wf=true):0≤a∧a≤255:=by
 have h1:IntKind.u8.min=0:=rfl
 have h2:IntKind.u8.max=255:=rfl
 simp only[Lit.wf,Bool.and_eq_true,decide_eq_true_eq]at h
 omega
theorem i16_bdS {a:Int} (h:(Lit.int .i16 a).wf=true): -32768≤a∧a≤32767:=by
 have h1:IntKind.i16.min= -32768:=rfl
 have h2:IntKind.i16.max=32767:=rfl
 simp only[Lit.wf,Bool.and_eq_true,decide_eq_true_eq]at h
 omega
theorem sms_of {w:World} {v:Value} (h:v=.slice none 0 0∨ ∃a len cap,v=.slice (some a) len cap∧len≤cap∧cap≤maxLen∧
 ∀i,i<len→ ∃cs,cs.length=3∧(∀j u,cs[j]?=some u→w.cell? ((a.add (i*3)).add j)=some u)∧Rd w (.i .u8 (.i .i16 (.i .u8 .nil))) cs):
 ∃(A:Option Addr) (hs:List Sm) (cap:Nat),v=.slice A hs.length cap∧hs.length≤cap∧cap≤9223372036854775807∧SmsAt w A hs:=by
 rcases h with rfl|⟨a,len,cap,rfl,hl,hm,hi⟩
 ·exact⟨none,[],0,rfl,Nat.le_refl _,by omega,fun i hi=>by simp at hi⟩
 ·obtain⟨hs,hbl,hbs⟩:=choose_list (α:=Sm) (n:=len) (Q:=fun i x=>SmAt w (a.add (i*3)) x∧SmOk x) (fun i hil=>by
   obtain⟨cs,_,hc,n0,_,rfl,w0,n1,_,rfl,w1,n2,_,rfl,w2,rfl⟩:=hi i hil
   exact⟨⟨n0,n1,n2⟩,⟨hc 0 _ rfl,hc 1 _ rfl,hc 2 _ rfl⟩,u8_bdS w0,i16_bdS w1,u8_bdS w2⟩)
  refine⟨some a,hs,cap,by rw[hbl],by omega,by unfold maxLen at hm;omega,fun i hi=>?_⟩
  have hg:hs[i]?=some (hs.getD i default):=by rw[List.getD_eq_getElem?_getD,List.getElem?_eq_getElem hi];rfl
  obtain⟨h1,h2⟩:=hbs i _ hg
  exact⟨a,rfl,h1,h2⟩
end Go.Proofs.YtlklnaebdnahcaaGreat
