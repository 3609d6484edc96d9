/- For all arguments the law FnExactVerifyClaims answers true and leaves its arguments as they were; no condition. -/
import Derived.Test.YtnjedojmdcpcaaaGreatPB
import Derived.Test.YtnjedojmdcpcaaaGreatveE5
import Derived.Test.YtnjedojmdcpcaaaGreatRows
import Derived.WalkKit
import Derived.ProofKit
import Derived.OpenShut
import Derived.ShutString
import Derived.ChangeOld
import Derived.Below
import Derived.SizedLaws
set_option linter.unusedVariables false
set_option linter.unusedSimpArgs false
open List renaming getD_cons_zero->B8,getD_cons_succ->B9,nil_append->C8,cons_append->D4
open Option renaming bind_some->B5,some->D5
namespace Go.Q.S
open Go Go.Q Go.Proofs
def L81:List CT:=[.sl 177]
theorem ty81:H.ty 81=some ⟨false,L81,[]⟩:=by kernel_rfl
theorem wl81 {ds:List D} (h:WL H ds L81):∃ a0,ds=[D.sl a0]/\a0.length<=maxLen/\WRs H a0 L177:=by
 unfold L81 at h;obtain ⟨a0,_,rfl,b0,c0,h⟩:=wl_sl ty177 h;obtain rfl:=wl_nil h;exact ⟨a0,rfl,b0,c0⟩
theorem law13c {a0:Rows} {a1:Rows} {a2:Rows} {a3:Rows} {a4:Rows} (w0:WL H [.sl a0,.sl a1,.sl a2,.sl a3] L29) (w1:WL H [.sl a4] L74):rn ⟨13,0,0⟩ [.sl a0,.sl a1,.sl a2,.sl a3,.sl a4]=some (0,[.bool true]):=by
 obtain ⟨_,y1,l1,v1⟩:=wl74 w1;obtain rfl:a4=_:=by simpa using y1
 have w0_:=w0;have w1_:=w1;show rn _ _=_
 rw [e13_0_0];have e0:=s14 w0 bd20;try simp only [D4,C8] at e0
 simp only [e0,B5,nth,B8,B9,D.I,D.S,D.L,D.B];by_cases n0:(sub 1048576 (szL [.sl a0,.sl a1,.sl a2,.sl a3]))<0
 · simp only [H7 n0,H1]
 have e1:=s42 l1 v1 (Bd.sub bd20 (szL [.sl a0,.sl a1,.sl a2,.sl a3]));try simp only [D4,C8] at e1
 simp only [H8 n0,H2,e1,B5,nth,B8,B9,D.I,D.S,D.L,D.B];by_cases n1:(sub (sub 1048576 (szL [.sl a0,.sl a1,.sl a2,.sl a3])) (D.sz (.sl a4)))<0
 · simp only [H7 n1,H1]
 obtain ⟨m0,k0⟩:=sub_le n0;obtain ⟨m1,k1⟩:=sub_le n1;have z0:(szL [.sl a0,.sl a1,.sl a2,.sl a3])<=1048576:=by omega
 have zz0:=z0;simp only [szL,D.sz] at zz0;have z1:(D.sz (.sl a4))<=1048576:=by omega
 have zz1:=z1;simp only [szL,D.sz] at zz1;have u0:WL H [.sl a0,.sl a1,.sl a2,.sl a3] L45:=WL.conv simR _ w0 (by kernel_rfl)
 obtain ⟨xx0,xx1,xx2,xx3,hh,bu0,cu0,bu1,cu1,bu2,cu2,bu3,cu3⟩:=wl45 u0;simp only [List.cons.injEq,D.int.injEq,D.bool.injEq,D.str.injEq,D.sl.injEq,and_true] at hh;obtain ⟨rfl,rfl,rfl,rfl⟩:=hh;have x0:=c17 z0 w0;skip
 have u1:WRs H a4 L177:=WRs.conv simR _ v1 (by kernel_rfl)
 have x1:=c45 (by simpa only [D.sz] using z1) v1
 skip
 have q0_:=q20 u0 u0;simp only [eqb_refl,D4,C8] at q0_;have q1_:=q48 l1 l1 u1 u1;simp only [eqb_refl,D4,C8] at q1_;have i0:=(cnt_sz wide64 _).1 _ _ (Nat.lt_succ_self _) w0;simp only [cntL,cntD,List.length_cons,List.length_nil] at i0;have i1:=(cnt_sz wide64 _).2 _ _ (Nat.lt_succ_self _) (by decide) v1
 have z1':=z1;simp only [D.sz] at z1';have mk0:=mT24_1 a0 a1 a2 a3 u0 (k:=1) (by omega) (by unfold BK; omega)
 skip
 have mk1:=m62_1 l1 u1 (k:=1+(cntR a0:Int)+(cntR a1:Int)+(cntR a2:Int)+(cntR a3:Int)) (by omega) (by unfold BK; omega)
 skip
 have nk:=int_lt_zero (show 0<1+(cntR a0:Int)+(cntR a1:Int)+(cntR a2:Int)+(cntR a3:Int)+(cntR a4:Int) by omega)
 obtain ⟨d,rfl,rfl,rfl,rfl,hdb⟩:=def_of tmTy ty275 rfl ty9 rfl cu0 cu1 cu2 cu3 z0;obtain ⟨cs,rfl,hcs⟩:=cls_of tmTy ty275 rfl ty9 rfl d hdb u1 (by omega)
 simp only [List.length_map] at zz1;have xS:=r69 d hdb cs (fun c hc=>(hcs c hc).1) (fun c hc=>(hcs c hc).2) (by omega)
 have xI:=r70 d hdb cs (fun c hc=>(hcs c hc).1) (fun c hc=>(hcs c hc).2) (by omega)
 have gR:=veR_ok hdb (fun c hc=>(hcs c hc).1) (fun c hc=>(hcs c hc).2) (by omega)
 generalize veR d cs=R at xS xI gR;obtain ⟨⟨gk1,gk2⟩,gc,gn,gl,gr⟩:=gR;have wR0:WL H [.int R.k,.sl (R.p.map pfRow),.int R.c,.int R.n] L102:=wlc_int (i64ok_of (by omega) (by omega)) (wlc_sl ty85 (by rw [List.length_map]; unfold maxLen; omega) (wrs_pf tmTy ty3 rfl ty299 rfl ty251 rfl gr) (wlc_int gc (wlc_int gn wlc_nil)))
 have ctR:=cnt_pf R.p gr;have qR0:=q59 wR0 wR0;simp only [eqb_refl,D4,C8] at qR0;have mR0:=mT71_1 (R.k) (R.p.map pfRow) (R.c) (R.n) wR0 (k:=1) (by omega) (by unfold BK; omega)
 skip
 have hR0:=hT72_0 (R.k) (R.p.map pfRow) (R.c) (R.n) wR0 (k:=1) (by omega) (by unfold BK; omega)
 skip
 have nR0:=int_lt_zero (show 0<1+(cntR (R.p.map pfRow):Int) by omega)
 simp only [H8 n1,H2,x0,x1,q0_,q1_,mk0,mk1,nk,xS,xI,qR0,mR0,hR0,nR0,B5,nth,B8,B9,D.I,D.S,D.L,D.B,C8,Bool.not_true,H2,H1,H3,beq_self_eq_true,Bool.not_false]
theorem law13 {x0 x1:List D} (h0:WL H x0 L29) (h1:WL H x1 L74):rn ⟨13,0,0⟩ (x0++(x1))=some (0,[.bool true]):=by
 obtain ⟨a0,a1,a2,a3,rfl,_,_,_,_,_,_,_,_⟩:=wl29 h0;obtain ⟨a4,rfl,_,_⟩:=wl74 h1;exact law13c h0 h1
end Go.Q.S
namespace Go.Q.S
open Go Go.Q Go.Proofs
theorem ki13:H.ki ⟨13,0,0⟩=some ⟨[(0,argSh ((H.ty 29).getD default)),(1,argSh ((H.ty 74).getD default))],[],[⟨.ret,[(0,.bool)],[]⟩]⟩:=by kernel_rfl
theorem plain13:plainB Tryz.prog H [3,9,22,23,25,26,27,29,30,32,74,168,170,197,200,279,311]=true:=by kernel_rfl
end Go.Q.S
namespace Go.Proofs.YtnjedojmdcpcaaaGreat.fnExactVerifyClaims
open Go Go.Q Go.Q.S
open Go.ChangeShapes Go.WideShapes Go.ChangeAt Go.RowKit
open Go.ChangeMaps (open_string shut_string)
theorem own:ownKnob Tryz.prog.godebug=none:=by kernel_rfl
theorem laid:laidOutB Tryz.prog=true:=by kernel_rfl
set_option maxRecDepth 100000 in
theorem lifted (os:Os) (started:os.Started) (H:Type) (enc:TypeId × Value->H) :
 ReturnsInHanded {} Tryz.checked os 13 .any (Rows.fnExactVerifyClaimsSpec.pre6 enc Tryz.prog Tryz.f13 Rows.fnExactVerifyClaimsRow.domain false) (Rows.fnExactVerifyClaimsSpec.post enc Tryz.prog Tryz.f13 false true false false):=by
 refine returnsInHanded_of_change_sized (C:=Tryz.checked) own started (by kernel_rfl) Tryz.func13
  (ChangeSpec.witness6 (enc:=enc) (C:=Tryz.checked) false ⟨#[],#[.agg #[.slice none 0 0,.slice none 0 0,.slice none 0 0,.slice none 0 0],.slice none 0 0],[]⟩ 8 (by kernel_rfl) (by kernel_rfl) (by kernel_rfl) (by kernel_rfl)) ?_
 intro W base args ds gs before hval0 hW hcnd hsz0 _;have hval:∀ (j:Nat) t v,Tryz.f13.params[j]?=some t->args[j]?=some v->Value.okWide Tryz.prog W .any base t v:=hval0;have hW':=hW;obtain ⟨p,q,hA0,hV,rfl,hfz,hnd⟩:=hW;have hA:DataW.TrodAll enc Tryz.prog W 0 (fun _=>true) true Tryz.f13.params.toList args.toList ds p:=hA0
 rw [Tryz.params13] at hA hval;obtain ⟨rfl,rfl⟩:=trodVars_none hV;have hB:=hA;obtain ⟨v0,v1,d0,d1,p0,p1,rfl,rfl,hp,h0,h1⟩:=trodAll_two hA;obtain ⟨dss,ha,hlen,hwl⟩:=args_data (H:=Go.Q.S.H) fits.ty plain13 _ _ _ _ hB (by decide) (fun j t v h h'=>hval j t v (by simpa using h) (by simpa using h'))
 obtain ⟨x0,x1,rfl⟩:∃ x0 x1,dss=[x0,x1]:=by
  match dss,hlen with
  | [x0,x1],_=>exact ⟨x0,x1,rfl⟩
 obtain ⟨t0,e0,w0⟩:=hwl 0 _ _ rfl rfl;rw [ty29] at e0;obtain rfl:=D5.inj e0;obtain ⟨t1,e1,w1⟩:=hwl 1 _ _ rfl rfl;rw [ty74] at e1;obtain rfl:=D5.inj e1;refine (law_calls fits Tryz.func13 (by kernel_rfl) ki13 rfl rfl ha (b:=true) (by show rn _ _=_; simpa using law13 w0 w1)).mono fun e W' ⟨he,bel⟩=>?_
 subst he;exact ⟨_,rfl,_,_,_,[],p,_,hW',trodAll_mk1 (shut_bool Tryz.underlying4 _),trodAll_below laid _ _ _ _ (read_of (by kernel_rfl)) hB bel (fun z hz=>hW'.lt z (by simp [hz])),rfl,bel.frame _,fun h=>by cases h⟩
theorem over:Rows.fnExactVerifyClaimsRow.holds Tryz.pinned (OpenSpec.ofChange Rows.fnExactVerifyClaimsSpec) :=
 OpenClaim.holds_of_wide 13 Tryz.f13 rfl rfl rfl rfl rfl rfl rfl ⟨rfl,rfl,rfl,rfl,rfl⟩ rfl rfl rfl rfl rfl named Tryz.func13 closed
  (of_decide_eq_true (by kernel_rfl)) (by unfold Func.isWrapper; first | (rw [H5 (by decide +kernel)]; kernel_rfl) | (rw [H6 (by decide +kernel)]; exact ⟨rfl,rfl⟩))
  (fun os started H enc _=>lifted os started H enc)
theorem proved:Rows.FnExactVerifyClaimsSaid:=over
end Go.Proofs.YtnjedojmdcpcaaaGreat.fnExactVerifyClaims
namespace Go.Proofs.YtnjedojmdcpcaaaGreat
theorem fnExactVerifyClaims_holds:Rows.FnExactVerifyClaimsSaid:=fnExactVerifyClaims.proved
end Go.Proofs.YtnjedojmdcpcaaaGreat
