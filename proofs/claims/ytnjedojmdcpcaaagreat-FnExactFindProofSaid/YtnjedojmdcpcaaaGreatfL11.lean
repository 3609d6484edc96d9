/- For all arguments the law FnExactFindProof answers true and leaves its arguments as they were; no condition. -/
import Derived.Test.YtnjedojmdcpcaaaGreatfI
import Derived.Test.YtnjedojmdcpcaaaGreatfP26
import Derived.Test.YtnjedojmdcpcaaaGreatfE5
import Derived.Test.YtnjedojmdcpcaaaGreatRows
import Derived.WalkKit
import Derived.ProofKit
import Derived.OpenShut
import Derived.ShutString
import Derived.ChangeOld
import Derived.Below
import Derived.SizedLaws
set_option linter.unusedVariables false
set_option linter.unusedSimpArgs false
namespace Go.Q.S
open Go Go.Q Go.Proofs
def L81:List CT:=[.sl 177]
theorem ty81:H.ty 81=some ⟨false,L81,[]⟩:=by kernel_rfl
theorem wl81 {ds:List D} (h:WL H ds L81):∃ a0,ds=[D.sl a0]/\a0.length<=maxLen/\WRs H a0 L177:=by
 unfold L81 at h;obtain ⟨a0,_,rfl,b0,c0,h⟩:=wl_sl ty177 h;obtain rfl:=wl_nil h;exact ⟨a0,rfl,b0,c0⟩
theorem law11c {a0:Rows} {a1:Rows} {a2:Rows} {a3:Rows} {a4:Rows} {a5:Int} (w0:WL H [.sl a0,.sl a1,.sl a2,.sl a3] L29) (w1:WL H [.sl a4] L74) (w2:WL H [.int a5] L3):rn ⟨11,0,0⟩ [.sl a0,.sl a1,.sl a2,.sl a3,.sl a4,.int a5]=some (0,[.bool true]):=by
 obtain ⟨_,y1,l1,v1⟩:=wl74 w1;obtain rfl:a4=_:=by simpa using y1
 have w0_:=w0;have w1_:=w1;show rn _ _=_
 rw [e11_0_0];have e0:=s14 w0 bd20;try simp only [List.cons_append,List.nil_append] at e0
 simp only [e0,Option.bind_some,nth,List.getD_cons_zero,List.getD_cons_succ,D.I,D.S,D.L,D.B];by_cases n0:(sub 1048576 (szL [.sl a0,.sl a1,.sl a2,.sl a3]))<0
 · simp only [decide_eq_true n0,cond_true]
 have e1:=s42 l1 v1 (Bd.sub bd20 (szL [.sl a0,.sl a1,.sl a2,.sl a3]));try simp only [List.cons_append,List.nil_append] at e1
 simp only [decide_eq_false n0,cond_false,e1,Option.bind_some,nth,List.getD_cons_zero,List.getD_cons_succ,D.I,D.S,D.L,D.B];by_cases n1:(sub (sub 1048576 (szL [.sl a0,.sl a1,.sl a2,.sl a3])) (D.sz (.sl a4)))<0
 · simp only [decide_eq_true n1,cond_true]
 obtain ⟨m0,k0⟩:=sub_le n0;obtain ⟨m1,k1⟩:=sub_le n1;have z0:(szL [.sl a0,.sl a1,.sl a2,.sl a3])<=1048576:=by omega
 have zz0:=z0;simp only [szL,D.sz] at zz0;have z1:(D.sz (.sl a4))<=1048576:=by omega
 have zz1:=z1;simp only [szL,D.sz] at zz1;have u0:WL H [.sl a0,.sl a1,.sl a2,.sl a3] L45:=WL.conv simR _ w0 (by kernel_rfl)
 obtain ⟨xx0,xx1,xx2,xx3,hh,bu0,cu0,bu1,cu1,bu2,cu2,bu3,cu3⟩:=wl45 u0;simp only [List.cons.injEq,D.int.injEq,D.bool.injEq,D.str.injEq,D.sl.injEq,and_true] at hh;obtain ⟨rfl,rfl,rfl,rfl⟩:=hh;have x0:=c17 z0 w0;skip
 have u1:WRs H a4 L177:=WRs.conv simR _ v1 (by kernel_rfl)
 have x1:=c45 (by simpa only [D.sz] using z1) v1
 skip
 have q0_:=q20 u0 u0;simp only [eqb_refl,List.cons_append,List.nil_append] at q0_;have q1_:=q48 l1 l1 u1 u1;simp only [eqb_refl,List.cons_append,List.nil_append] at q1_;have i0:=(cnt_sz wide64 _).1 _ _ (Nat.lt_succ_self _) w0;simp only [cntL,cntD,List.length_cons,List.length_nil] at i0;have i1:=(cnt_sz wide64 _).2 _ _ (Nat.lt_succ_self _) (by decide) v1
 have z1':=z1;simp only [D.sz] at z1';have mk0:=mT24_1 a0 a1 a2 a3 u0 (k:=1) (by omega) (by unfold BK; omega)
 skip
 have mk1:=m62_1 l1 u1 (k:=1+(cntR a0:Int)+(cntR a1:Int)+(cntR a2:Int)+(cntR a3:Int)) (by omega) (by unfold BK; omega)
 skip
 have nk:=int_lt_zero (show 0<1+(cntR a0:Int)+(cntR a1:Int)+(cntR a2:Int)+(cntR a3:Int)+(cntR a4:Int) by omega)
 obtain ⟨d,rfl,rfl,rfl,rfl,hdb⟩:=def_of tmTy ty275 rfl ty9 rfl cu0 cu1 cu2 cu3 z0;obtain ⟨cs,rfl,hcs⟩:=cls_of tmTy ty275 rfl ty9 rfl d hdb u1 (by omega)
 simp only [List.length_map] at zz1;have xS:=r60 d hdb cs (fun c hc=>(hcs c hc).1) (fun c hc=>(hcs c hc).2) (by omega) a5
 have xI:=r61 d hdb cs (fun c hc=>(hcs c hc).1) (fun c hc=>(hcs c hc).2) (by omega) a5
 rw [fpD_eq] at xS xI;have gR:=fpR_get hdb (fun c hc=>(hcs c hc).1) (fun c hc=>(hcs c hc).2) (k:=a5)
 generalize (fpR d cs a5).isSome=B,(fpR d cs a5).getD []=R at xS xI gR;obtain ⟨gl,gr⟩:=gR;have wR0:WL H [.sl (R.map PnM.row)] L85:=wlc_sl ty251 (by rw [List.length_map]; unfold maxLen; omega) (wrs_pn tmTy ty3 rfl ty299 rfl gr) wlc_nil
 have ctR:=cnt_pn R gr;have qR0:=q49 wR0 wR0;simp only [eqb_refl,List.cons_append,List.nil_append] at qR0;have mR0:=mT63_1 (R.map PnM.row) wR0 (k:=1) (by omega) (by unfold BK; omega)
 skip
 have hR0:=hT64_0 (R.map PnM.row) wR0 (k:=1) (by omega) (by unfold BK; omega)
 skip
 have nR0:=int_lt_zero (show 0<1+(cntR (R.map PnM.row):Int) by omega)
 simp only [decide_eq_false n1,cond_false,x0,x1,q0_,q1_,mk0,mk1,nk,xS,xI,qR0,mR0,hR0,nR0,Option.bind_some,nth,List.getD_cons_zero,List.getD_cons_succ,D.I,D.S,D.L,D.B,List.nil_append,Bool.not_true,cond_false,cond_true,decide_true,beq_self_eq_true,Bool.not_false]
theorem law11 {x0 x1 x2:List D} (h0:WL H x0 L29) (h1:WL H x1 L74) (h2:WL H x2 L3):rn ⟨11,0,0⟩ (x0++(x1++(x2)))=some (0,[.bool true]):=by
 obtain ⟨a0,a1,a2,a3,rfl,_,_,_,_,_,_,_,_⟩:=wl29 h0;obtain ⟨a4,rfl,_,_⟩:=wl74 h1;obtain ⟨a5,rfl⟩:=wl3 h2;exact law11c h0 h1 h2
end Go.Q.S
namespace Go.Q.S
open Go Go.Q Go.Proofs
theorem ki11:H.ki ⟨11,0,0⟩=some ⟨[(0,argSh ((H.ty 29).getD default)),(1,argSh ((H.ty 74).getD default)),(2,argSh ((H.ty 3).getD default))],[],[⟨.ret,[(0,.bool)],[]⟩]⟩:=by kernel_rfl
theorem plain11:plainB Tryz.prog H [3,9,22,23,25,26,27,29,30,32,74,168,170,197,200,279,311]=true:=by kernel_rfl
end Go.Q.S
namespace Go.Proofs.YtnjedojmdcpcaaaGreat.fnExactFindProof
open Go Go.Q Go.Q.S
open Go.ChangeShapes Go.WideShapes Go.ChangeAt Go.RowKit
open Go.ChangeMaps (open_string shut_string)
theorem own:ownKnob Tryz.prog.godebug=none:=by kernel_rfl
theorem laid:laidOutB Tryz.prog=true:=by kernel_rfl
set_option maxRecDepth 100000 in
theorem lifted (os:Os) (started:os.Started) (H:Type) (enc:TypeId × Value->H) :
 ReturnsInHanded {} Tryz.checked os 11 .any (Rows.fnExactFindProofSpec.pre6 enc Tryz.prog Tryz.f11 Rows.fnExactFindProofRow.domain false) (Rows.fnExactFindProofSpec.post enc Tryz.prog Tryz.f11 false true false false):=by
 refine returnsInHanded_of_change_sized (C:=Tryz.checked) own started (by kernel_rfl) Tryz.func11
  (ChangeSpec.witness6 (enc:=enc) (C:=Tryz.checked) false ⟨#[],#[.agg #[.slice none 0 0,.slice none 0 0,.slice none 0 0,.slice none 0 0],.slice none 0 0,.int .i64 0],[]⟩ 8 (by kernel_rfl) (by kernel_rfl) (by kernel_rfl) (by kernel_rfl)) ?_
 intro W base args ds gs before hval0 hW hcnd hsz0 _;have hval:∀ (j:Nat) t v,Tryz.f11.params[j]?=some t->args[j]?=some v->Value.okWide Tryz.prog W .any base t v:=hval0;have hW':=hW;obtain ⟨p,q,hA0,hV,rfl,hfz,hnd⟩:=hW;have hA:DataW.TrodAll enc Tryz.prog W 0 (fun _=>true) true Tryz.f11.params.toList args.toList ds p:=hA0
 rw [Tryz.params11] at hA hval;obtain ⟨rfl,rfl⟩:=trodVars_none hV;have hB:=hA;obtain ⟨v0,v1,v2,d0,d1,d2,p0,p1,p2,rfl,rfl,hp,h0,h1,h2⟩:=trodAll_three hA;obtain ⟨dss,ha,hlen,hwl⟩:=args_data (H:=Go.Q.S.H) fits.ty plain11 _ _ _ _ hB (by decide) (fun j t v h h'=>hval j t v (by simpa using h) (by simpa using h'))
 obtain ⟨x0,x1,x2,rfl⟩:∃ x0 x1 x2,dss=[x0,x1,x2]:=by
  match dss,hlen with
  | [x0,x1,x2],_=>exact ⟨x0,x1,x2,rfl⟩
 obtain ⟨t0,e0,w0⟩:=hwl 0 _ _ rfl rfl;rw [ty29] at e0;obtain rfl:=Option.some.inj e0;obtain ⟨t1,e1,w1⟩:=hwl 1 _ _ rfl rfl;rw [ty74] at e1;obtain rfl:=Option.some.inj e1;obtain ⟨t2,e2,w2⟩:=hwl 2 _ _ rfl rfl;rw [ty3] at e2;obtain rfl:=Option.some.inj e2;refine (law_calls fits Tryz.func11 (by kernel_rfl) ki11 rfl rfl ha (b:=true) (by show rn _ _=_; simpa using law11 w0 w1 w2)).mono fun e W' ⟨he,bel⟩=>?_
 subst he;exact ⟨_,rfl,_,_,_,[],p,_,hW',trodAll_mk1 (shut_bool Tryz.underlying4 _),trodAll_below laid _ _ _ _ (read_of (by kernel_rfl)) hB bel (fun z hz=>hW'.lt z (by simp [hz])),rfl,bel.frame _,fun h=>by cases h⟩
theorem over:Rows.fnExactFindProofRow.holds Tryz.pinned (OpenSpec.ofChange Rows.fnExactFindProofSpec) :=
 OpenClaim.holds_of_wide 11 Tryz.f11 rfl rfl rfl rfl rfl rfl rfl ⟨rfl,rfl,rfl,rfl,rfl⟩ rfl rfl rfl rfl rfl named Tryz.func11 closed
  (of_decide_eq_true (by kernel_rfl)) (by unfold Func.isWrapper; first | (rw [if_pos (by decide +kernel)]; kernel_rfl) | (rw [if_neg (by decide +kernel)]; exact ⟨rfl,rfl⟩))
  (fun os started H enc _=>lifted os started H enc)
theorem proved:Rows.FnExactFindProofSaid:=over
end Go.Proofs.YtnjedojmdcpcaaaGreat.fnExactFindProof
namespace Go.Proofs.YtnjedojmdcpcaaaGreat
theorem fnExactFindProof_holds:Rows.FnExactFindProofSaid:=fnExactFindProof.proved
end Go.Proofs.YtnjedojmdcpcaaaGreat
