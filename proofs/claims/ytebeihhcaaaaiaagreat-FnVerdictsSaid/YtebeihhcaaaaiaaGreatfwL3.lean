/- For all arguments the law FnVerdicts answers true and leaves its arguments as they were; no condition. -/
import Derived.Test.YtebeihhcaaaaiaaGreatPB
import Derived.Test.YtebeihhcaaaaiaaGreatfwE5
import Derived.Test.YtebeihhcaaaaiaaGreatRows
import Derived.WalkKit
import Derived.ProofKit
import Derived.OpenShut
import Derived.ShutString
import Derived.ChangeOld
import Derived.Below
import Derived.SizedLaws
set_option linter.unusedVariables false
set_option linter.unusedSimpArgs false
open Option renaming bind_some->B5
namespace Go.Q.S
open Go Go.Q Go.Proofs
def L5:List CT:=[.int .u8]
theorem ty5:H.ty 5=some ⟨false,L5,[]⟩:=by kernel_rfl
theorem wl5{ds:List D}(h:WL H ds L5):∃ a0,ds=[D.int a0]:=by
 unfold L5 at h;obtain⟨a0,_,rfl,_,h⟩:=ac2 h;obtain rfl:=So h;exact⟨a0,rfl⟩
def L22:List CT:=[.sl 5]
theorem aj9:H.ty 22=some ⟨false,L22,[]⟩:=by kernel_rfl
theorem ak0{ds:List D}(h:WL H ds L22):∃ a0,ds=[D.sl a0]/\a0.length<=maxLen/\WRs H a0 L5:=by
 unfold L22 at h;obtain⟨a0,_,rfl,b0,c0,h⟩:=ag6 ty5 h;obtain rfl:=So h;exact⟨a0,rfl,b0,c0⟩
theorem ag0(code:aa):rn ⟨6,0,0⟩ [.sl code]=some (0,[.bool (decide ((1048576:Int)<code.length))]):=by rw[e6_0_0]
theorem vnI(x:Int)(h:0<=x/\x<=3):∃ s,rn ⟨11,0,0⟩ [.int x]=some (0,[.str s])/\rn ⟨12,0,0⟩ [.int x]=some (0,[.str s]):=by
 have e:x=0\/x=1\/x=2\/x=3:=by omega
 have h1:=rIn x 0 3;rcases e with rfl |rfl |rfl |rfl<;>exact⟨_,by rw[e11_0_0];rfl,by rw[e12_0_0,h1];rfl⟩
theorem law3r(code:aa):rn ⟨3,0,0⟩ [.sl code]=some (0,[.bool true]):=by
 rw[e3_0_0,ag0];simp only[nv0,nvS,dvI,dvB,dvS,dvL,B5];by_cases hl:code.length<=1048576
 case neg=>rw[H7 (by omega:(1048576:Int)<code.length)];rfl
 rw[H8 (by omega:¬(1048576:Int)<code.length)]
 have hbb:∀ b:Bool,(b==b)=true:=fun b=>by cases b<;>rfl
 obtain⟨d,cs,hd,hcl,hcb,hce,e1⟩:=Zt hl;have x1:=r8 d hd.b cs hcb hce (by omega)
 have x2:=r10 d hd.b cs hcb hce (by omega)
 have hv:=Uc hd.b hcb hce (by omega)
 obtain⟨c1,c2⟩:=Us hce;generalize veR d cs=V at x1 x2 hv c1 c2;have hp:∀ p∈V.p,PfB p:=fun p hp=>⟨by have:=(hv.p p hp).1;omega,fun n hn=>((hv.p p hp).2 n hn).b⟩
 have x3:=ai6 V.k V.c V.n V.p hv.l hp;obtain⟨s,n1,n2⟩:=vnI V.k hv.k;have key:rn ⟨3,0,1⟩ [.sl code,.sl (cs.map bf),.int 0,.int V.k,.int V.c,.int V.n,.sl (d.so.map ag),.sl (d.op.map OpM.row),.sl (d.ru.map RuM.row),.sl (d.st.map StM.row),.sl (V.p.map dm)]=some (0,[.sl code,.sl (cs.map bf),.int V.k,.int V.c,.int V.n,.sl (d.so.map ag),.sl (d.op.map OpM.row),.sl (d.ru.map RuM.row),.sl (d.st.map StM.row),.sl (V.p.map dm)]):=by
  by_cases hk:V.k=1
  ·have hR:=Qp hd.b hcb hce (c2 hk)
   have h:=Ks (F:=fun i=>rn ⟨3,0,1⟩ [.sl code,.sl (cs.map bf),.int (i:Int),.int V.k,.int V.c,.int V.n,.sl (d.so.map ag),.sl (d.op.map OpM.row),.sl (d.ru.map RuM.row),.sl (d.st.map StM.row),.sl (V.p.map dm)]) (n:=cs.length) (A:=some (0,[.sl code,.sl (cs.map bf),.int V.k,.int V.c,.int V.n,.sl (d.so.map ag),.sl (d.op.map OpM.row),.sl (d.ru.map RuM.row),.sl (d.st.map StM.row),.sl (V.p.map dm)])) (fun i hlt=>by
    have hm:=List.getElem_mem hlt;have y1:=r13 cs[i] (hcb _ hm);rw[hR _ hm] at y1;unfold ClM.row at y1;rw[hce _ hm] at y1;rw[e3_0_1];simp only[List.length_map,Int.ofNat_lt,hlt,H3,H1,aq,Int.toNat_natCast,ab hlt,ae hlt (ba (by omega)),bf,nv0,nvS,dvI,dvB,dvS,dvL,B5,hk,y1,Tj,H2]) (by
    rw[e3_0_1];simp only[List.length_map,Int.ofNat_lt,Nat.lt_irrefl,H4,H2,List.drop_length])
   simpa only[Int.natCast_zero] using h
  ·rw[e3_0_1]
   simp only[H8 hk,H2];cases decide ((0:Int)<((cs.map bf).length:Int))<;>rfl
 obtain⟨d',cs',a,b,c,ps,hd',hcl',hcb',hce',hpl',hpb',e2⟩:=af6 hl;have z1:=r15 d hd.b cs hcb hce (by omega) V.k V.p hp hv.l V.c V.n
 have z2:=r15 d' hd'.b cs' hcb' hce' (by omega) a ps hpb' hpl' b c
 have z3:=r16 d' hd'.b cs' hcb' hce' (by omega) a ps hpb' hpl' b c
 simp only[H2,e1,nv0,nvS,dvI,dvB,dvS,dvL,B5,x1,x2,x3,Bool.not_true,n1,n2,H3,key,Nat.beq_refl,H1,H2,e2,z1,z2,z3,c1];by_cases k1:V.k=1
 ·simp only[H7 k1,Bool.true_or,H1,hbb]
 ·simp only[H8 k1,Bool.false_or,H2,hbb,H1]
theorem law3{x0:List D}(h0:WL H x0 L22):rn ⟨3,0,0⟩ x0=some (0,[.bool true]):=by
 obtain⟨a,rfl,_,hw⟩:=ak0 h0;exact law3r a
end Go.Q.S
namespace Go.Q.S
open Go Go.Q Go.Proofs
theorem ki3:H.ki ⟨3,0,0⟩=some ⟨[(0,Bo ((H.ty 22).getD default))],[],[⟨.ret,[(0,.bool)],[]⟩]⟩:=by kernel_rfl
theorem ag1:Gk Tryz.prog H [5,22]=true:=by kernel_rfl
end Go.Q.S
namespace Go.Proofs.YtebeihhcaaaaiaaGreat.fnVerdicts
open Go Go.Q Go.Q.S
open Go.ChangeShapes Go.WideShapes Go.ChangeAt Go.RowKit
open Go.ChangeMaps (open_string shut_string)
theorem own:ownKnob Tryz.prog.godebug=none:=by kernel_rfl
theorem Xj:laidOutB Tryz.prog=true:=by kernel_rfl
set_option maxRecDepth 100000 in
theorem lifted(os:Os)(started:os.Started)(H:Type)(enc:TypeId×Value->H) :
 ReturnsInHanded {} Tryz.checked os 3 .any (Rows.fnVerdictsSpec.pre6 enc Tryz.prog Tryz.f3 Rows.fnVerdictsRow.domain false) (Rows.fnVerdictsSpec.post enc Tryz.prog Tryz.f3 false true false false):=by
 refine returnsInHanded_of_change_sized (C:=Tryz.checked) own started (by kernel_rfl) Tryz.func3
  (ChangeSpec.witness6 (enc:=enc) (C:=Tryz.checked) false ⟨#[],#[.slice none 0 0],[]⟩ 8 (by kernel_rfl) (by kernel_rfl) (by kernel_rfl) (by kernel_rfl)) ?_
 intro W base args ds gs before hval0 hW hcnd hsz0 _;have hval:∀ (j:Nat) t v,Tryz.f3.params[j]?=some t->args[j]?=some v->Value.okWide Tryz.prog W .any base t v:=hval0;have hW':=hW;obtain⟨p,q,hA0,hV,rfl,hfz,hnd⟩:=hW;have hA:DataW.TrodAll enc Tryz.prog W 0 (fun _=>true) true Tryz.f3.params.toList args.toList ds p:=hA0
 rw[Tryz.params3] at hA hval;obtain⟨rfl,rfl⟩:=trodVars_none hV;have hB:=hA;obtain⟨v0,d0,rfl,rfl,h0⟩:=trodAll_one hA;obtain⟨dss,ha,hlen,hwl⟩:=Dz (H:=Go.Q.S.H) ai7.ty ag1 _ _ _ _ hB (by decide) (fun j t v h h'=>hval j t v (by simpa using h) (by simpa using h'))
 obtain⟨x0,rfl⟩:∃ x0,dss=[x0]:=by
  match dss,hlen with
  | [x0],_=>exact⟨x0,rfl⟩
 obtain⟨t0,e0,w0⟩:=hwl 0 _ _ rfl rfl;rw[aj9] at e0;obtain rfl:=Option.some.inj e0;refine(Pv ai7 Tryz.func3 (by kernel_rfl) ki3 rfl rfl ha (b:=true) (by show rn _ _=_;simpa using law3 w0)).mono fun e W' ⟨he,bel⟩=>?_
 subst he;exact⟨_,rfl,_,_,_,[],p,_,hW',trodAll_mk1 (shut_bool Tryz.underlying4 _),sa Xj _ _ _ _ (Yc (by kernel_rfl)) hB bel (fun z hz=>hW'.lt z (by simp[hz])),rfl,bel.frame _,fun h=>by cases h⟩
theorem over:Rows.fnVerdictsRow.holds Tryz.pinned (OpenSpec.ofChange Rows.fnVerdictsSpec) :=
 OpenClaim.holds_of_wide 3 Tryz.f3 rfl rfl rfl rfl rfl rfl rfl ⟨rfl,rfl,rfl,rfl,rfl⟩ rfl rfl rfl rfl rfl ai8 Tryz.func3 xh
  (of_decide_eq_true (by kernel_rfl)) (by unfold Func.isWrapper;first |(rw[H5 (by decide +kernel)];kernel_rfl) |(rw[H6 (by decide +kernel)];exact⟨rfl,rfl⟩))
  (fun os started H enc _=>lifted os started H enc)
theorem proved:Rows.FnVerdictsSaid:=over
end Go.Proofs.YtebeihhcaaaaiaaGreat.fnVerdicts
namespace Go.Proofs.YtebeihhcaaaaiaaGreat
theorem fnVerdicts_holds:Rows.FnVerdictsSaid:=fnVerdicts.proved
end Go.Proofs.YtebeihhcaaaaiaaGreat
