/- For all arguments the law FnExactIsDecided answers true and leaves its arguments as they were; no condition. -/
import Derived.Test.YtnjedojmdcpcaaaGreatvI
import Derived.Test.YtnjedojmdcpcaaaGreatvP20
import Derived.Test.YtnjedojmdcpcaaaGreatvE5
import Derived.Test.YtnjedojmdcpcaaaGreatRows
import Derived.WalkKit
import Derived.ProofKit
import Derived.OpenShut
import Derived.ShutString
import Derived.ChangeOld
import Derived.Below
import Derived.SizedLaws
set_option linter.unusedVariables false
set_option linter.unusedSimpArgs false
namespace Go.Q.S
open Go Go.Q Go.Proofs
theorem law3c {a0:Rows} {a1:Rows} {a2:Rows} {a3:Rows} {a4:Rows} {a5:Int} {a6:Int} {a7:ByteArray} {a8:Rows} {a9:Rows} (w0:WL H [.sl a0,.sl a1,.sl a2,.sl a3] L29) (w1:WL H [.sl a4,.int a5,.int a6,.str a7,.sl a8,.sl a9] L35):rn ⟨3,0,0⟩ [.sl a0,.sl a1,.sl a2,.sl a3,.sl a4,.int a5,.int a6,.str a7,.sl a8,.sl a9]=some (0,[.bool true]):=by
 have w0_:=w0
 have w1_:=w1
 show rn _ _=_
 rw [e3_0_0]
 have e0:=s14 w0 bd20
 simp only [List.cons_append,List.nil_append] at e0
 simp only [e0,Option.bind_some,nth,List.getD_cons_zero,List.getD_cons_succ,D.I,D.S,D.L,D.B]
 by_cases n0:(sub 1048576 (szL [.sl a0,.sl a1,.sl a2,.sl a3])) < 0
 · simp only [decide_eq_true n0,cond_true]
 have e1:=s15 w1 (Bd.sub bd20 (szL [.sl a0,.sl a1,.sl a2,.sl a3]))
 simp only [List.cons_append,List.nil_append] at e1
 simp only [decide_eq_false n0,cond_false,e1,Option.bind_some,nth,List.getD_cons_zero,List.getD_cons_succ,D.I,D.S,D.L,D.B]
 by_cases n1:(sub (sub 1048576 (szL [.sl a0,.sl a1,.sl a2,.sl a3])) (szL [.sl a4,.int a5,.int a6,.str a7,.sl a8,.sl a9])) < 0
 · simp only [decide_eq_true n1,cond_true]
 obtain ⟨m0,k0⟩:=sub_le n0
 obtain ⟨m1,k1⟩:=sub_le n1
 have z0:(szL [.sl a0,.sl a1,.sl a2,.sl a3])<=1048576:=by omega
 have zz0:=z0
 simp only [szL,D.sz] at zz0
 have z1:(szL [.sl a4,.int a5,.int a6,.str a7,.sl a8,.sl a9])<=1048576:=by omega
 have zz1:=z1
 simp only [szL,D.sz] at zz1
 have u0:WL H [.sl a0,.sl a1,.sl a2,.sl a3] L45:=WL.conv simR _ w0 (by kernel_rfl)
 obtain ⟨xx0,xx1,xx2,xx3,hh,bu0,cu0,bu1,cu1,bu2,cu2,bu3,cu3⟩:=wl45 u0
 simp only [List.cons.injEq,D.int.injEq,D.bool.injEq,D.str.injEq,D.sl.injEq,and_true] at hh
 obtain ⟨rfl,rfl,rfl,rfl⟩:=hh
 have x0:=c17 z0 w0
 skip
 have u1:WL H [.sl a4,.int a5,.int a6,.str a7,.sl a8,.sl a9] L51:=WL.conv simR _ w1 (by kernel_rfl)
 obtain ⟨xx0,xx1,xx2,xx3,xx4,xx5,hh,bu4,cu4,bu7,bu8,cu8,bu9,cu9⟩:=wl51 u1
 simp only [List.cons.injEq,D.int.injEq,D.bool.injEq,D.str.injEq,D.sl.injEq,and_true] at hh
 obtain ⟨rfl,rfl,rfl,rfl,rfl,rfl⟩:=hh
 have x1:=c18 z1 w1
 skip
 have q0_:=q20 u0 u0
 simp only [eqb_refl,List.cons_append,List.nil_append] at q0_
 have q1_:=q21 u1 u1
 simp only [eqb_refl,List.cons_append,List.nil_append] at q1_
 obtain ⟨dx,rfl,rfl,rfl,rfl,hdxb⟩:=def_of tmTy ty275 rfl ty9 rfl cu0 cu1 cu2 cu3 z0
 obtain ⟨vx,rfl⟩:=strs_of' cu4
 have hvsx:=strs_wrs cu4
 obtain ⟨tx,ht_tx,sm_tx⟩:=tm_of tmTy _ [.int a5,.int a6,.str a7,.sl a8] (Nat.lt_succ_self _) (WL.part 1 4 u1) (by have:=z1; simp only [szL,D.sz] at this ⊢; omega)
 have wl_tx:WL H tx.row L49:=ht_tx ▸ WL.part 1 4 u1
 have nd_tx:=tm_nodes tx
 have ct_tx:=tm_cntR tx
 rw [<- ht_tx] at nd_tx
 simp only [szL,D.sz] at nd_tx
 rw [Tm.row_eq] at ht_tx
 simp only [List.cons.injEq,D.int.injEq,D.str.injEq,D.sl.injEq,and_true] at ht_tx
 obtain ⟨rfl,rfl,rfl,rfl⟩:=ht_tx
 have wt_tx:=(wt_iff tmTy tx).1 wl_tx
 have hn_tx:tx.nodes<=1048577:=by omega
 obtain ⟨cx,rfl⟩:=ints_of' cu9
 have hcix:=ints_wrs cu9
 simp only [List.length_map] at zz1 nd_tx
 have hsbx:SyB ⟨dx,vx,tx,cx⟩:=⟨hdxb,by show vx.length<=_; omega,hvsx,wt_tx,hn_tx,by show cx.length<=_; omega⟩
 have xS:=r16 _ hsbx
 have xI:=r19 _ hsbx
 simp only [SyM.row] at xS xI
 simp only [decide_eq_false n1,cond_false,x0,x1,q0_,q1_,xS,xI,Option.bind_some,nth,List.getD_cons_zero,List.getD_cons_succ,D.I,D.S,D.L,D.B,List.nil_append,Bool.not_true,cond_false,cond_true,decide_true,beq_self_eq_true,Bool.not_false]
theorem law3 {x0 x1:List D} (h0:WL H x0 L29) (h1:WL H x1 L35):rn ⟨3,0,0⟩ (x0 ++ (x1))=some (0,[.bool true]):=by
 obtain ⟨a0,a1,a2,a3,rfl,_,_,_,_,_,_,_,_⟩:=wl29 h0
 obtain ⟨a4,a5,a6,a7,a8,a9,rfl,_,_,_,_,_,_,_⟩:=wl35 h1
 exact law3c h0 h1
end Go.Q.S
namespace Go.Q.S
open Go Go.Q Go.Proofs
theorem ki3:H.ki ⟨3,0,0⟩=some ⟨[(0,argSh ((H.ty 29).getD default)),(1,argSh ((H.ty 35).getD default))],[],[⟨.ret,[(0,.bool)],[]⟩]⟩:=by kernel_rfl
theorem plain3:plainB Tryz.prog H [3,9,22,23,25,26,27,29,30,32,33,35,168,197,200,279,311]=true:=by kernel_rfl
end Go.Q.S
namespace Go.Proofs.YtnjedojmdcpcaaaGreat.fnExactIsDecided
open Go Go.Q Go.Q.S
open Go.ChangeShapes Go.WideShapes Go.ChangeAt Go.RowKit
open Go.ChangeMaps (open_string shut_string)
theorem own:ownKnob Tryz.prog.godebug=none:=by kernel_rfl
theorem laid:laidOutB Tryz.prog=true:=by kernel_rfl
set_option maxRecDepth 100000 in
theorem lifted (os:Os) (started:os.Started) (H:Type) (enc:TypeId × Value->H) :
 ReturnsInHanded {} Tryz.checked os 3 .any (Rows.fnExactIsDecidedSpec.pre6 enc Tryz.prog Tryz.f3 Rows.fnExactIsDecidedRow.domain false) (Rows.fnExactIsDecidedSpec.post enc Tryz.prog Tryz.f3 false true false false):=by
 refine returnsInHanded_of_change_sized (C:=Tryz.checked) own started (by kernel_rfl) Tryz.func3
  (ChangeSpec.witness6 (enc:=enc) (C:=Tryz.checked) false ⟨#[],#[.agg #[.slice none 0 0,.slice none 0 0,.slice none 0 0,.slice none 0 0],.agg #[.slice none 0 0,.int .i64 0,.int .i64 0,.string ByteArray.empty,.slice none 0 0,.slice none 0 0]],[]⟩ 8 (by kernel_rfl) (by kernel_rfl) (by kernel_rfl) (by kernel_rfl)) ?_
 intro W base args ds gs before hval0 hW hcnd hsz0 _
 have hval:∀ (j:Nat) t v,Tryz.f3.params[j]?=some t->args[j]?=some v->Value.okWide Tryz.prog W .any base t v:=hval0
 have hW':=hW
 obtain ⟨p,q,hA0,hV,rfl,hfz,hnd⟩:=hW
 have hA:DataW.TrodAll enc Tryz.prog W 0 (fun _=>true) true Tryz.f3.params.toList args.toList ds p:=hA0
 rw [Tryz.params3] at hA hval
 obtain ⟨rfl,rfl⟩:=trodVars_none hV
 have hB:=hA
 obtain ⟨v0,v1,d0,d1,p0,p1,rfl,rfl,hp,h0,h1⟩:=trodAll_two hA
 obtain ⟨dss,ha,hlen,hwl⟩:=args_data (H:=Go.Q.S.H) fits.ty plain3 _ _ _ _ hB (by decide) (fun j t v h h'=>hval j t v (by simpa using h) (by simpa using h'))
 obtain ⟨x0,x1,rfl⟩:∃ x0 x1,dss=[x0,x1]:=by
  match dss,hlen with
  | [x0,x1],_=>exact ⟨x0,x1,rfl⟩
 obtain ⟨t0,e0,w0⟩:=hwl 0 _ _ rfl rfl
 rw [ty29] at e0
 obtain rfl:=Option.some.inj e0
 obtain ⟨t1,e1,w1⟩:=hwl 1 _ _ rfl rfl
 rw [ty35] at e1
 obtain rfl:=Option.some.inj e1
 refine (law_calls fits Tryz.func3 (by kernel_rfl) ki3 rfl rfl ha (b:=true) (by show rn _ _=_; simpa using law3 w0 w1)).mono fun e W' ⟨he,bel⟩=>?_
 subst he
 exact ⟨_,rfl,_,_,_,[],p,_,hW',trodAll_mk1 (shut_bool Tryz.underlying4 _),trodAll_below laid _ _ _ _ (read_of (by kernel_rfl)) hB bel (fun z hz=>hW'.lt z (by simp [hz])),rfl,bel.frame _,fun h=>by cases h⟩
theorem over:Rows.fnExactIsDecidedRow.holds Tryz.pinned (OpenSpec.ofChange Rows.fnExactIsDecidedSpec) :=
 OpenClaim.holds_of_wide 3 Tryz.f3 rfl rfl rfl rfl rfl rfl rfl ⟨rfl,rfl,rfl,rfl,rfl⟩ rfl rfl rfl rfl rfl named Tryz.func3 closed
  (of_decide_eq_true (by kernel_rfl)) (by unfold Func.isWrapper; first | (rw [if_pos (by decide +kernel)]; kernel_rfl) | (rw [if_neg (by decide +kernel)]; exact ⟨rfl,rfl⟩))
  (fun os started H enc _=>lifted os started H enc)
theorem proved:Rows.FnExactIsDecidedSaid:=over
end Go.Proofs.YtnjedojmdcpcaaaGreat.fnExactIsDecided
namespace Go.Proofs.YtnjedojmdcpcaaaGreat
theorem fnExactIsDecided_holds:Rows.FnExactIsDecidedSaid:=fnExactIsDecided.proved
end Go.Proofs.YtnjedojmdcpcaaaGreat
