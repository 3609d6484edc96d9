/- For all arguments the law FnExactStepSymbolic answers true and leaves its arguments as they were; no condition. -/
import Derived.Test.YtnjedojmdcpcaaaGreatPB
import Derived.Test.YtnjedojmdcpcaaaGreatssE5
import Derived.Test.YtnjedojmdcpcaaaGreatRows
import Derived.WalkKit
import Derived.ProofKit
import Derived.OpenShut
import Derived.ShutString
import Derived.ChangeOld
import Derived.Below
import Derived.SizedLaws
set_option linter.unusedVariables false
set_option linter.unusedSimpArgs false
open List renaming length_map->B6,getD_cons_zero->B7,getD_cons_succ->B8,length_cons->C8,nil_append->D0,cons_append->D4,length_nil->D6,cons->J5
open Nat renaming lt_succ_self->F9
open Option renaming bind_some->B5,some->D3
namespace Go.Q.S
open Go Go.Q Go.Proofs
theorem law4c {a0:Rows} {a1:Rows} {a2:Rows} {a3:Rows} {a4:Rows} {a5:Int} {a6:Int} {a7:ByteArray} {a8:Rows} {a9:Rows} {a10:Int} (w0:WL H [.sl a0,.sl a1,.sl a2,.sl a3] L29) (w1:WL H [.sl a4,.int a5,.int a6,.str a7,.sl a8,.sl a9] L35) (w2:WL H [.int a10] L3):rn ⟨4,0,0⟩ [.sl a0,.sl a1,.sl a2,.sl a3,.sl a4,.int a5,.int a6,.str a7,.sl a8,.sl a9,.int a10]=some (0,[.bool true]):=by
 have w0_:=w0;have w1_:=w1;show rn _ _=_
 rw [e4_0_0];have e0:=s14 w0 bd20;try simp only [D4,D0] at e0
 simp only [e0,B5,nth,B7,B8,D.I,D.S,D.L,D.B];by_cases n0:(sub 1048576 (szL [.sl a0,.sl a1,.sl a2,.sl a3]))<0
 · simp only [H7 n0,H1]
 have e1:=s15 w1 (Bd.sub bd20 (szL [.sl a0,.sl a1,.sl a2,.sl a3]));try simp only [D4,D0] at e1
 simp only [H8 n0,H2,e1,B5,nth,B7,B8,D.I,D.S,D.L,D.B];by_cases n1:(sub (sub 1048576 (szL [.sl a0,.sl a1,.sl a2,.sl a3])) (szL [.sl a4,.int a5,.int a6,.str a7,.sl a8,.sl a9]))<0
 · simp only [H7 n1,H1]
 obtain ⟨m0,k0⟩:=sub_le n0;obtain ⟨m1,k1⟩:=sub_le n1;have z0:(szL [.sl a0,.sl a1,.sl a2,.sl a3])<=1048576:=by omega
 have zz0:=z0;simp only [szL,D.sz] at zz0;have z1:(szL [.sl a4,.int a5,.int a6,.str a7,.sl a8,.sl a9])<=1048576:=by omega
 have zz1:=z1;simp only [szL,D.sz] at zz1;have u0:WL H [.sl a0,.sl a1,.sl a2,.sl a3] L45:=WL.conv simR _ w0 (by kernel_rfl)
 obtain ⟨xx0,xx1,xx2,xx3,hh,bu0,cu0,bu1,cu1,bu2,cu2,bu3,cu3⟩:=wl45 u0;simp only [J5.injEq,D.int.injEq,D.bool.injEq,D.str.injEq,D.sl.injEq,and_true] at hh;obtain ⟨rfl,rfl,rfl,rfl⟩:=hh;have x0:=c17 z0 w0;skip
 have u1:WL H [.sl a4,.int a5,.int a6,.str a7,.sl a8,.sl a9] L51:=WL.conv simR _ w1 (by kernel_rfl)
 obtain ⟨xx0,xx1,xx2,xx3,xx4,xx5,hh,bu4,cu4,bu7,bu8,cu8,bu9,cu9⟩:=wl51 u1;simp only [J5.injEq,D.int.injEq,D.bool.injEq,D.str.injEq,D.sl.injEq,and_true] at hh;obtain ⟨rfl,rfl,rfl,rfl,rfl,rfl⟩:=hh;have x1:=c18 z1 w1;skip
 have q0_:=q20 u0 u0;simp only [eqb_refl,D4,D0] at q0_;have q1_:=q21 u1 u1;simp only [eqb_refl,D4,D0] at q1_;have i0:=(cnt_sz wide64 _).1 _ _ (F9 _) w0;simp only [cntL,cntD,C8,D6] at i0;have i1:=(cnt_sz wide64 _).1 _ _ (F9 _) w1;simp only [cntL,cntD,C8,D6] at i1;have mk0:=mT24_1 a0 a1 a2 a3 u0 (k:=1) (by omega) (by unfold BK; omega)
 skip
 have mk1:=mT25_1 a4 a5 a6 a7 a8 a9 u1 (k:=1+(cntR a0:Int)+(cntR a1:Int)+(cntR a2:Int)+(cntR a3:Int)) (by omega) (by unfold BK; omega)
 skip
 have nk:=int_lt_zero (show 0<1+(cntR a0:Int)+(cntR a1:Int)+(cntR a2:Int)+(cntR a3:Int)+(cntR a4:Int)+(cntR a8:Int)+(cntR a9:Int) by omega)
 obtain ⟨dx,rfl,rfl,rfl,rfl,hdxb⟩:=def_of tmTy ty275 rfl ty9 rfl cu0 cu1 cu2 cu3 z0;obtain ⟨vx,rfl⟩:=strs_of' cu4;have hvsx:=strs_wrs cu4;obtain ⟨tx,ht_tx,sm_tx⟩:=tm_of tmTy _ [.int a5,.int a6,.str a7,.sl a8] (F9 _) (WL.part 1 4 u1) (by have:=z1; simp only [szL,D.sz] at this ⊢; omega)
 have wl_tx:WL H tx.row L49:=ht_tx▸WL.part 1 4 u1;have nd_tx:=tm_nodes tx;have ct_tx:=tm_cntR tx;rw [<- ht_tx] at nd_tx;simp only [szL,D.sz] at nd_tx;rw [Tm.row_eq] at ht_tx;simp only [J5.injEq,D.int.injEq,D.str.injEq,D.sl.injEq,and_true] at ht_tx;obtain ⟨rfl,rfl,rfl,rfl⟩:=ht_tx;have wt_tx:=(wt_iff tmTy tx).1 wl_tx;have hn_tx:tx.nodes<=1048577:=by omega
 obtain ⟨cx,rfl⟩:=ints_of' cu9;have hcix:=ints_wrs cu9;simp only [B6] at zz1 nd_tx;have hsbx:SyB ⟨dx,vx,tx,cx⟩:=⟨hdxb,by show vx.length<=_; omega,hvsx,wt_tx,hn_tx,by show cx.length<=_; omega⟩
 have xS:=r22 _ hsbx a10;have xI:=r23 _ hsbx a10;have gR:=ss_good hsbx hcix a10;generalize ssO (⟨dx,vx,tx,cx⟩:SyM) a10=R at xS xI gR;unfold ssD at xS xI;simp only at xS xI;obtain ⟨gw,gn,gv,gvs,gc,gci⟩:=gR;generalize ssT (⟨dx,vx,tx,cx⟩:SyM) R=T at xS xI gw gn;generalize ssV (⟨dx,vx,tx,cx⟩:SyM) R=V at xS xI gv gvs;generalize ssC R=C at xS xI gc gci;generalize R.isSome=B at xS xI;obtain ⟨o1,o2,o3,o4,o5⟩:=(wl_row tmTy T).1 ((wt_iff tmTy _).2 gw);have wR0:WL H [.sl (V.map sRow),.int T.k,.int T.n,.str T.s,.sl (T.as.map Tm.row),.sl (C.map iRow)] L51:=wlc_sl ty9 (by rw [B6]; unfold maxLen; omega) (wrs_strs gvs) (wlc_int o1 (wlc_int o2 (wlc_str o3 (wlc_sl ty49 (by simpa using o4) (wrs_map.2 o5) (wlc_sl ty3 (by rw [B6]; unfold maxLen; omega) (wrs_ints gci) wlc_nil)))))
 have ctT:=tm_cntR T;have ctV:=cntR_strs V;have ctC:=cntR_ints C;have qR0:=q21 wR0 wR0;simp only [eqb_refl,D4,D0] at qR0;have mR0:=mT25_1 (V.map sRow) (T.k) (T.n) (T.s) (T.as.map Tm.row) (C.map iRow) wR0 (k:=1) (by omega) (by unfold BK; omega)
 skip
 have hR0:=hT26_0 (V.map sRow) (T.k) (T.n) (T.s) (T.as.map Tm.row) (C.map iRow) wR0 (k:=1) (by omega) (by unfold BK; omega)
 skip
 have nR0:=int_lt_zero (show 0<1+(cntR (V.map sRow):Int)+(cntR (T.as.map Tm.row):Int)+(cntR (C.map iRow):Int) by omega)
 simp only [H8 n1,H2,x0,x1,q0_,q1_,mk0,mk1,nk,xS,xI,qR0,mR0,hR0,nR0,B5,nth,B7,B8,D.I,D.S,D.L,D.B,D0,Bool.not_true,H2,H1,H3,beq_self_eq_true,Bool.not_false]
theorem law4 {x0 x1 x2:List D} (h0:WL H x0 L29) (h1:WL H x1 L35) (h2:WL H x2 L3):rn ⟨4,0,0⟩ (x0++(x1++(x2)))=some (0,[.bool true]):=by
 obtain ⟨a0,a1,a2,a3,rfl,_,_,_,_,_,_,_,_⟩:=wl29 h0;obtain ⟨a4,a5,a6,a7,a8,a9,rfl,_,_,_,_,_,_,_⟩:=wl35 h1;obtain ⟨a10,rfl⟩:=wl3 h2;exact law4c h0 h1 h2
end Go.Q.S
namespace Go.Q.S
open Go Go.Q Go.Proofs
theorem ki4:H.ki ⟨4,0,0⟩=some ⟨[(0,argSh ((H.ty 29).getD default)),(1,argSh ((H.ty 35).getD default)),(2,argSh ((H.ty 3).getD default))],[],[⟨.ret,[(0,.bool)],[]⟩]⟩:=by kernel_rfl
theorem plain4:plainB Tryz.prog H [3,9,22,23,25,26,27,29,30,32,33,35,168,197,200,279,311]=true:=by kernel_rfl
end Go.Q.S
namespace Go.Proofs.YtnjedojmdcpcaaaGreat.fnExactStepSymbolic
open Go Go.Q Go.Q.S
open Go.ChangeShapes Go.WideShapes Go.ChangeAt Go.RowKit
open Go.ChangeMaps (open_string shut_string)
theorem own:ownKnob Tryz.prog.godebug=none:=by kernel_rfl
theorem laid:laidOutB Tryz.prog=true:=by kernel_rfl
set_option maxRecDepth 100000 in
theorem lifted (os:Os) (started:os.Started) (H:Type) (enc:TypeId × Value->H) :
 ReturnsInHanded {} Tryz.checked os 4 .any (Rows.fnExactStepSymbolicSpec.pre6 enc Tryz.prog Tryz.f4 Rows.fnExactStepSymbolicRow.domain false) (Rows.fnExactStepSymbolicSpec.post enc Tryz.prog Tryz.f4 false true false false):=by
 refine returnsInHanded_of_change_sized (C:=Tryz.checked) own started (by kernel_rfl) Tryz.func4
  (ChangeSpec.witness6 (enc:=enc) (C:=Tryz.checked) false ⟨#[],#[.agg #[.slice none 0 0,.slice none 0 0,.slice none 0 0,.slice none 0 0],.agg #[.slice none 0 0,.int .i64 0,.int .i64 0,.string ByteArray.empty,.slice none 0 0,.slice none 0 0],.int .i64 0],[]⟩ 8 (by kernel_rfl) (by kernel_rfl) (by kernel_rfl) (by kernel_rfl)) ?_
 intro W base args ds gs before hval0 hW hcnd hsz0 _;have hval:∀ (j:Nat) t v,Tryz.f4.params[j]?=some t->args[j]?=some v->Value.okWide Tryz.prog W .any base t v:=hval0;have hW':=hW;obtain ⟨p,q,hA0,hV,rfl,hfz,hnd⟩:=hW;have hA:DataW.TrodAll enc Tryz.prog W 0 (fun _=>true) true Tryz.f4.params.toList args.toList ds p:=hA0
 rw [Tryz.params4] at hA hval;obtain ⟨rfl,rfl⟩:=trodVars_none hV;have hB:=hA;obtain ⟨v0,v1,v2,d0,d1,d2,p0,p1,p2,rfl,rfl,hp,h0,h1,h2⟩:=trodAll_three hA;obtain ⟨dss,ha,hlen,hwl⟩:=args_data (H:=Go.Q.S.H) fits.ty plain4 _ _ _ _ hB (by decide) (fun j t v h h'=>hval j t v (by simpa using h) (by simpa using h'))
 obtain ⟨x0,x1,x2,rfl⟩:∃ x0 x1 x2,dss=[x0,x1,x2]:=by
  match dss,hlen with
  | [x0,x1,x2],_=>exact ⟨x0,x1,x2,rfl⟩
 obtain ⟨t0,e0,w0⟩:=hwl 0 _ _ rfl rfl;rw [ty29] at e0;obtain rfl:=D3.inj e0;obtain ⟨t1,e1,w1⟩:=hwl 1 _ _ rfl rfl;rw [ty35] at e1;obtain rfl:=D3.inj e1;obtain ⟨t2,e2,w2⟩:=hwl 2 _ _ rfl rfl;rw [ty3] at e2;obtain rfl:=D3.inj e2;refine (law_calls fits Tryz.func4 (by kernel_rfl) ki4 rfl rfl ha (b:=true) (by show rn _ _=_; simpa using law4 w0 w1 w2)).mono fun e W' ⟨he,bel⟩=>?_
 subst he;exact ⟨_,rfl,_,_,_,[],p,_,hW',trodAll_mk1 (shut_bool Tryz.underlying4 _),trodAll_below laid _ _ _ _ (read_of (by kernel_rfl)) hB bel (fun z hz=>hW'.lt z (by simp [hz])),rfl,bel.frame _,fun h=>by cases h⟩
theorem over:Rows.fnExactStepSymbolicRow.holds Tryz.pinned (OpenSpec.ofChange Rows.fnExactStepSymbolicSpec) :=
 OpenClaim.holds_of_wide 4 Tryz.f4 rfl rfl rfl rfl rfl rfl rfl ⟨rfl,rfl,rfl,rfl,rfl⟩ rfl rfl rfl rfl rfl named Tryz.func4 closed
  (of_decide_eq_true (by kernel_rfl)) (by unfold Func.isWrapper; first | (rw [H5 (by decide +kernel)]; kernel_rfl) | (rw [H6 (by decide +kernel)]; exact ⟨rfl,rfl⟩))
  (fun os started H enc _=>lifted os started H enc)
theorem proved:Rows.FnExactStepSymbolicSaid:=over
end Go.Proofs.YtnjedojmdcpcaaaGreat.fnExactStepSymbolic
namespace Go.Proofs.YtnjedojmdcpcaaaGreat
theorem fnExactStepSymbolic_holds:Rows.FnExactStepSymbolicSaid:=fnExactStepSymbolic.proved
end Go.Proofs.YtnjedojmdcpcaaaGreat
