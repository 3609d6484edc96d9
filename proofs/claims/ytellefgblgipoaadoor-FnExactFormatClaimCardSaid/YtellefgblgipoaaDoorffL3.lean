/- For all arguments the law FnExactFormatClaim answers true and leaves its arguments as they were; no condition. -/
import Derived.Test.YtellefgblgipoaaDoorPA
import Derived.Test.YtellefgblgipoaaDoorffE5
import Derived.Test.YtellefgblgipoaaDoorRows
import Derived.WalkKit
import Derived.ProofKit
import Derived.OpenShut
import Derived.ShutString
import Derived.ChangeOld
import Derived.Below
import Derived.SizedLaws
import Derived.Test.YtellefgblgipoaaDoorCards
import Derived.Test.YtellefgblgipoaaDoorTie
import Derived.SevenTiedAt
import Derived.LaidMore
import Derived.Stop.Joined
set_option linter.unusedVariables false
set_option linter.unusedSimpArgs false
open List renaming nil_append->E4,cons->J3
namespace Go.Q.S
open Go Go.Q Go.Proofs
theorem law3c {a0:Rows} {a1:Int} {a2:Int} {a3:ByteArray} {a4:Rows} {a5:Int} {a6:Int} {a7:ByteArray} {a8:Rows} {a9:Rows} (w0:WL H [.sl a0,.int a1,.int a2,.str a3,.sl a4,.int a5,.int a6,.str a7,.sl a8,.sl a9] L28):rn ⟨3,0,0⟩ [.sl a0,.int a1,.int a2,.str a3,.sl a4,.int a5,.int a6,.str a7,.sl a8,.sl a9]=some (0,[.bool true]):=by
 have w0_:=w0;show rn _ _=_
 rw [e3_0_0];have e0:=s4 w0 bd20;try simp only [List.cons_append,E4] at e0
 simp only [e0,Option.bind_some,nth,List.getD_cons_zero,List.getD_cons_succ,D.I,D.S,D.L,D.B];by_cases n0:(sub 1048576 (szL [.sl a0,.int a1,.int a2,.str a3,.sl a4,.int a5,.int a6,.str a7,.sl a8,.sl a9]))<0
 · simp only [H7 n0,H1]
 obtain ⟨m0,k0⟩:=sub_le n0;have z0:(szL [.sl a0,.int a1,.int a2,.str a3,.sl a4,.int a5,.int a6,.str a7,.sl a8,.sl a9])<=1048576:=by omega
 have zz0:=z0;simp only [szL,D.sz] at zz0;have u0:WL H [.sl a0,.int a1,.int a2,.str a3,.sl a4,.int a5,.int a6,.str a7,.sl a8,.sl a9] L36:=WL.conv simR _ w0 (by kernel_rfl)
 obtain ⟨xx0,xx1,xx2,xx3,xx4,xx5,xx6,xx7,xx8,xx9,hh,bu0,cu0,bu3,bu4,cu4,bu7,bu8,cu8,bu9,cu9⟩:=wl36 u0;simp only [J3.injEq,D.int.injEq,D.bool.injEq,D.str.injEq,D.sl.injEq,and_true] at hh;obtain ⟨rfl,rfl,rfl,rfl,rfl,rfl,rfl,rfl,rfl,rfl⟩:=hh;have x0:=c6 z0 w0;skip
 have q0_:=q8 u0 u0;simp only [eqb_refl,List.cons_append,E4] at q0_;obtain ⟨vars,rfl⟩:=strs_of' cu0;obtain ⟨tl,ht_tl,sm_tl⟩:=tm_of tmTy _ [.int a1,.int a2,.str a3,.sl a4] (Nat.lt_succ_self _) (WL.part 1 4 u0) (by have:=z0; simp only [szL,D.sz] at this ⊢; omega)
 have wl_tl:WL H tl.row L33:=ht_tl▸WL.part 1 4 u0;have nd_tl:=tm_nodes tl;have ct_tl:=tm_cntR tl;rw [<- ht_tl] at nd_tl;simp only [szL,D.sz] at nd_tl;rw [Tm.row_eq] at ht_tl;simp only [J3.injEq,D.int.injEq,D.str.injEq,D.sl.injEq,and_true] at ht_tl;obtain ⟨rfl,rfl,rfl,rfl⟩:=ht_tl;have wt_tl:=(wt_iff tmTy tl).1 wl_tl;have hn_tl:tl.nodes<=1048577:=by omega
 obtain ⟨tr,ht_tr,sm_tr⟩:=tm_of tmTy _ [.int a5,.int a6,.str a7,.sl a8] (Nat.lt_succ_self _) (WL.part 5 4 u0) (by have:=z0; simp only [szL,D.sz] at this ⊢; omega)
 have wl_tr:WL H tr.row L33:=ht_tr▸WL.part 5 4 u0;have nd_tr:=tm_nodes tr;have ct_tr:=tm_cntR tr;rw [<- ht_tr] at nd_tr;simp only [szL,D.sz] at nd_tr;rw [Tm.row_eq] at ht_tr;simp only [J3.injEq,D.int.injEq,D.str.injEq,D.sl.injEq,and_true] at ht_tr;obtain ⟨rfl,rfl,rfl,rfl⟩:=ht_tr;have wt_tr:=(wt_iff tmTy tr).1 wl_tr;have hn_tr:tr.nodes<=1048577:=by omega
 obtain ⟨gs,rfl,hgs⟩:=gub_of tmTy cu9 (by omega)
 simp only [List.length_map] at zz0;have xS:=r5 (vars.map sRow) tl tr wt_tl wt_tr (by omega) (by omega) gs (by omega) hgs
 have xI:=r7 (vars.map sRow) tl tr wt_tl wt_tr (by omega) (by omega) gs (by omega) hgs
 simp only [H8 n0,H2,x0,q0_,xS,xI,Option.bind_some,nth,List.getD_cons_zero,List.getD_cons_succ,D.I,D.S,D.L,D.B,E4,Bool.not_true,H2,H1,H3,beq_self_eq_true,Bool.not_false]
theorem law3 {x0:List D} (h0:WL H x0 L28):rn ⟨3,0,0⟩ (x0)=some (0,[.bool true]):=by
 obtain ⟨a0,a1,a2,a3,a4,a5,a6,a7,a8,a9,rfl,_,_,_,_,_,_,_,_,_,_⟩:=wl28 h0;exact law3c h0
end Go.Q.S
namespace Go.Q.S
open Go Go.Q Go.Proofs
theorem ki3:H.ki ⟨3,0,0⟩=some ⟨[(0,argSh ((H.ty 28).getD default))],[],[⟨.ret,[(0,.bool)],[]⟩]⟩:=by kernel_rfl
theorem plain3:plainB Tryd.prog H [3,9,22,23,25,26,28,56]=true:=by kernel_rfl
end Go.Q.S
namespace Go.Proofs.YtellefgblgipoaaDoor.fnExactFormatClaim
open Go Go.Q Go.Q.S
open Go.ChangeShapes Go.WideShapes Go.ChangeAt Go.RowKit
open Go.ChangeMaps (open_string shut_string)
theorem met (os:Os) (args:Array Value):laidMetH Tryd.prog Rows.fnExactFormatClaimRow.laid ((World.doorLaid Tryd.prog 24 os).forCall (fun _ _=>0) ⟨#[],args,[]⟩).memory :=
 laidMetH_of_parts3 (fuel:=8) (laidMet_of_run' 8 (by kernel_rfl) (by kernel_rfl)) (by kernel_rfl) (by kernel_rfl)
theorem own:ownKnob Tryd.prog.godebug=none:=by kernel_rfl
theorem laid:laidOutB Tryd.prog=true:=by kernel_rfl
set_option maxRecDepth 100000 in
theorem lifted (os:Os) (started:os.Started) (H:Type) (enc:TypeId×Value->H) :
 ReturnsInHanded {} Tryd.checked os 3 .any (fun w args=>(Rows.fnExactFormatClaimSpec.pre enc Tryd.prog Tryd.f3 [] false w args/\laidMetH Tryd.prog Rows.fnExactFormatClaimRow.laid w)/\sizedMet enc Tryd.prog Tryd.f3 (OpenSpec.ofChange Rows.fnExactFormatClaimSpec) false w args) (Rows.fnExactFormatClaimSpec.post enc Tryd.prog Tryd.f3 false true false false):=by
 refine returnsInHanded_of_change_and (C:=Tryd.checked) (X:=fun w _=>laidMetH Tryd.prog Rows.fnExactFormatClaimRow.laid w) (fun _ _ _ hh h=>h.of_heap hh) own started (by kernel_rfl) Tryd.func3
  (ChangeSpec.witness_shaped (enc:=enc) (C:=Tryd.checked) (os:=os) (X:=fun w _=>laidMetH Tryd.prog Rows.fnExactFormatClaimRow.laid w) false (World.doorLaid Tryd.prog 24 os) #[.agg #[.slice none 0 0,.int .i64 0,.int .i64 0,.string ByteArray.empty,.slice none 0 0,.int .i64 0,.int .i64 0,.string ByteArray.empty,.slice none 0 0,.slice none 0 0]] 8 rfl (World.shaped_of_RefB (by kernel_rfl) (by kernel_rfl)) (by kernel_rfl) (by kernel_rfl) (by kernel_rfl) (met os _)) ?_
 intro W base args ds gs before hval0 hW _ _ hL _;have hval:∀ (j:Nat) t v,Tryd.f3.params[j]?=some t->args[j]?=some v->Value.okWide Tryd.prog W .any base t v:=hval0;have hW':=hW;obtain ⟨p,q,hA0,hV,rfl,hfz,hnd⟩:=hW;have hA:DataW.TrodAll enc Tryd.prog W 0 (fun _=>true) true Tryd.f3.params.toList args.toList ds p:=hA0
 rw [Tryd.params3] at hA hval;obtain ⟨rfl,rfl⟩:=trodVars_none hV;have hB:=hA;obtain ⟨v0,d0,rfl,rfl,h0⟩:=trodAll_one hA;obtain ⟨dss,ha,hlen,hwl⟩:=args_data (H:=Go.Q.S.H) fits.ty plain3 _ _ _ _ hB (by decide) (fun j t v h h'=>hval j t v (by simpa using h) (by simpa using h'))
 obtain ⟨x0,rfl⟩:∃ x0,dss=[x0]:=by
  match dss,hlen with
  | [x0],_=>exact ⟨x0,rfl⟩
 obtain ⟨t0,e0,w0⟩:=hwl 0 _ _ rfl rfl;rw [ty28] at e0;obtain rfl:=Option.some.inj e0;refine (law_calls fits Tryd.func3 (by kernel_rfl) ki3 rfl rfl ha (fun _ h=>by cases h) (b:=true) (by show rn _ _=_; simpa using law3 w0)).mono fun e W' ⟨he,bel⟩=>?_
 subst he;exact ⟨_,rfl,_,_,_,[],p,_,hW',trodAll_mk1 (shut_bool Tryd.underlying4 _),trodAll_below laid _ _ _ _ (read_of (by kernel_rfl)) hB bel (fun z hz=>hW'.lt z (by simp [hz])),rfl,bel.frame _,fun h=>by cases h⟩
theorem over:Rows.fnExactFormatClaimRow.holds Tryd.pinned (OpenSpec.ofChange Rows.fnExactFormatClaimSpec) :=
 OpenClaim.holds_of_wide 3 Tryd.f3 rfl rfl rfl rfl rfl rfl rfl ⟨rfl,rfl,rfl,rfl,rfl⟩ rfl rfl rfl rfl rfl named Tryd.func3 closed
  (of_decide_eq_true (by kernel_rfl)) (by unfold Func.isWrapper; first | (rw [H5 (by decide +kernel)]; kernel_rfl) | (rw [H6 (by decide +kernel)]; exact ⟨rfl,rfl⟩))
  (fun os started H enc _=>lifted os started H enc)
theorem proved:Rows.FnExactFormatClaimSaid:=over
end Go.Proofs.YtellefgblgipoaaDoor.fnExactFormatClaim
namespace Go.Proofs.YtellefgblgipoaaDoor
theorem fnExactFormatClaimCard_holds:Rows.FnExactFormatClaimCardSaid :=
 Claim7.holds_tied_plain_at .later [] [.data,.data,.data] true (true,"abf840ae4c4f01da6434b59424fd19e2328d954c72819094068591ee373fe01e") false
  fnExactFormatClaim.over (fun _ h=>by cases h) (by kernel_rfl) (fun _ h=>by cases h) fnExactFormatClaim_row_tie rfl ⟨rfl,rfl⟩ (by kernel_rfl) rfl
  (fun f fn hf hfn=>by
    obtain rfl:f=3:=Option.some.inj (fnExactFormatClaim.named.symm.trans hf) |>.symm
    obtain rfl:fn=Tryd.f3:=(Option.some.inj (Tryd.func3.symm.trans hfn)).symm;exact ⟨by kernel_rfl,fun j t ht=>by
     rw [Tryd.params3] at ht;have hm:t∈[28]:=by simpa using Array.mem_of_getElem? ht
     have hall:([28].all fun u=>!Tryd.prog.wantsStandIn u)=true:=by kernel_rfl
     exact (show Tryd.prog.wantsStandIn t=false by simpa using List.all_eq_true.1 hall t hm)⟩)
  (by kernel_rfl)
end Go.Proofs.YtellefgblgipoaaDoor
