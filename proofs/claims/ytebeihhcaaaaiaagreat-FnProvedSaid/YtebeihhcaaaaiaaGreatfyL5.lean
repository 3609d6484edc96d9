/- For all arguments the law FnProved answers true and leaves its arguments as they were; no condition. -/
import Derived.Test.YtebeihhcaaaaiaaGreatPB
import Derived.Test.YtebeihhcaaaaiaaGreatfyE5
import Derived.Test.YtebeihhcaaaaiaaGreatRows
import Derived.WalkKit
import Derived.ProofKit
import Derived.OpenShut
import Derived.ShutString
import Derived.ChangeOld
import Derived.Below
import Derived.SizedLaws
set_option linter.unusedVariables false
set_option linter.unusedSimpArgs false
open Bool renaming not_true->D4
open Option renaming bind_some->B5
namespace Go.Q.S
open Go Go.Q Go.Proofs
def L5:List CT:=[.int .u8]
theorem ty5:H.ty 5=some ⟨false,L5,[]⟩:=by kernel_rfl
theorem wl5{ds:List D}(h:WL H ds L5):∃ a0,ds=[D.int a0]:=by
 unfold L5 at h;obtain⟨a0,_,rfl,_,h⟩:=Zc h;obtain rfl:=Ri h;exact⟨a0,rfl⟩
def L22:List CT:=[.sl 5]
theorem ae0:H.ty 22=some ⟨false,L22,[]⟩:=by kernel_rfl
theorem ae1{ds:List D}(h:WL H ds L22):∃ a0,ds=[D.sl a0]/\a0.length<=maxLen/\WRs H a0 L5:=by
 unfold L22 at h;obtain⟨a0,_,rfl,b0,c0,h⟩:=ab5 ty5 h;obtain rfl:=Ri h;exact⟨a0,rfl,b0,c0⟩
theorem aa9(code:aa):rn ⟨6,0,0⟩ [.sl code]=some (0,[.bool (decide ((1048576:Int)<code.length))]):=by rw[e6_0_0]
theorem law5r(code:aa):rn ⟨5,0,0⟩ [.sl code]=some (0,[.bool true]):=by
 rw[e5_0_0,aa9];simp only[nv0,nvS,dvI,dvB,dvS,dvL,B5];by_cases hl:code.length<=1048576
 case neg=>rw[H7 (by omega:(1048576:Int)<code.length)];rfl
 rw[H8 (by omega:¬(1048576:Int)<code.length)]
 have hbb:∀ b:Bool,(b==b)=true:=fun b=>by cases b<;>rfl
 obtain⟨d,cs,k,hc,e1⟩:=Vq hl;have hcl:=hc.l.2;have x1:=r25 d hc.d.b cs hc.b hc.e (by omega) k
 have x2:=r26 d hc.d.b cs hc.b hc.e (by omega) k
 rw[Ll] at x1 x2;obtain⟨f1,f2⟩:=Fq hc.d.b hc.b hc.e (k:=k);have hL:∀ n∈(fpR d cs k).getD [],PnB n:=fun n hn=>(f2 n hn).b
 have x3:=ac9 ((fpR d cs k).getD []) (by omega) hL
 have x4:=r20 d hc.d.b cs hc.b hc.e (by omega) k ((fpR d cs k).getD []) hL (by omega)
 have hx4:(fpR d cs k).isSome=true->Lj d cs k ((fpR d cs k).getD [])=true:=fun h=>by
  obtain⟨ns,hns⟩:=Option.isSome_iff_exists.1 h;rw[hns];exact Np hns
 obtain⟨d',cs',hd',hcl',hcb',hce',e2⟩:=Ya hl;have y1:=r29 d' hd'.b cs' hcb' hce' (by omega)
 have y2:=r30 d' hd'.b cs' hcb' hce' (by omega)
 rw[Zp] at y1 y2;obtain⟨p1,p2⟩:=Xc hd'.b hcb' hce';have hP:∀ p∈(prL d' cs' cs'.length 0).getD [],PfB p:=fun p hp=>⟨by have:=(p2 p hp).1;omega,fun n hn=>((p2 p hp).2 n hn).b⟩
 have y3:=r18 d' hd'.b cs' hcb' hce' (by omega) ((prL d' cs' cs'.length 0).getD []) hP (by omega)
 have hy3:0<((prL d' cs' cs'.length 0).getD []).length->Su d' cs' ((prL d' cs' cs'.length 0).getD [])=true/\((prL d' cs' cs'.length 0).getD []).length=cs'.length:=fun h=>by
  cases hp:prL d' cs' cs'.length 0 with
  |none=>rw[hp] at h;simp at h
  |some ps =>
   rw[hp] at h;have:=vf _ _ _ hp;simp only[Option.getD_some] at h ⊢;exact⟨Xg hp (by omega),this⟩
 generalize (prL d' cs' cs'.length 0).getD []=Q at y1 y2 y3 hy3;have fin:(bif !(decide (0<Q.length)) then some (0,[D.bool true]) else (rn ⟨18,0,0⟩ [.sl (d'.so.map ag),.sl (d'.op.map OpM.row),.sl (d'.ru.map RuM.row),.sl (d'.st.map StM.row),.sl (cs'.map bv),.sl (Q.map jh)]).bind fun r=>bif (nth r.2 0).B then some (0,[D.bool (decide (((Q.map jh).length:Int)=((cs'.map bv).length:Int)))]) else some (0,[D.bool false]):R)=some (0,[.bool true]):=by
  by_cases h:0<Q.length
  ·obtain⟨q1,q2⟩:=hy3 h
   rw[H7 h,y3,q1,List.length_map,List.length_map,q2];simp only[D4,H2,nv0,nvS,dvI,dvB,dvS,dvL,B5,H1,H3]
  ·rw[H8 h];rfl
 simp only[H2,e1,nv0,nvS,dvI,dvB,dvS,dvL,B5,x1,x2,hbb,D4,x3,x4];cases hS:(fpR d cs k).isSome with
 |true =>
  simp only[H1,hx4 hS,D4,H2,e2,nv0,nvS,dvI,dvB,dvS,dvL,B5,y1,y2,hbb];exact fin
 |false =>
  simp only[H2,e2,nv0,nvS,dvI,dvB,dvS,dvL,B5,y1,y2,hbb,H1];exact fin
theorem law5{x0:List D}(h0:WL H x0 L22):rn ⟨5,0,0⟩ x0=some (0,[.bool true]):=by
 obtain⟨a,rfl,_,hw⟩:=ae1 h0;exact law5r a
end Go.Q.S
namespace Go.Q.S
open Go Go.Q Go.Proofs
theorem ki5:H.ki ⟨5,0,0⟩=some ⟨[(0,zz ((H.ty 22).getD default))],[],[⟨.ret,[(0,.bool)],[]⟩]⟩:=by kernel_rfl
theorem ab0:Ex Tryz.prog H [5,22]=true:=by kernel_rfl
end Go.Q.S
namespace Go.Proofs.YtebeihhcaaaaiaaGreat.fnProved
open Go Go.Q Go.Q.S
open Go.ChangeShapes Go.WideShapes Go.ChangeAt Go.RowKit
open Go.ChangeMaps (open_string shut_string)
theorem own:ownKnob Tryz.prog.godebug=none:=by kernel_rfl
theorem Vs:laidOutB Tryz.prog=true:=by kernel_rfl
set_option maxRecDepth 100000 in
theorem lifted(os:Os)(started:os.Started)(H:Type)(enc:TypeId×Value->H) :
 ReturnsInHanded {} Tryz.checked os 5 .any (Rows.fnProvedSpec.pre6 enc Tryz.prog Tryz.f5 Rows.fnProvedRow.domain false) (Rows.fnProvedSpec.post enc Tryz.prog Tryz.f5 false true false false):=by
 refine returnsInHanded_of_change_sized (C:=Tryz.checked) own started (by kernel_rfl) Tryz.func5
  (ChangeSpec.witness6 (enc:=enc) (C:=Tryz.checked) false ⟨#[],#[.slice none 0 0],[]⟩ 8 (by kernel_rfl) (by kernel_rfl) (by kernel_rfl) (by kernel_rfl)) ?_
 intro W base args ds gs before hval0 hW hcnd hsz0 _;have hval:∀ (j:Nat) t v,Tryz.f5.params[j]?=some t->args[j]?=some v->Value.okWide Tryz.prog W .any base t v:=hval0;have hW':=hW;obtain⟨p,q,hA0,hV,rfl,hfz,hnd⟩:=hW;have hA:DataW.TrodAll enc Tryz.prog W 0 (fun _=>true) true Tryz.f5.params.toList args.toList ds p:=hA0
 rw[Tryz.params5] at hA hval;obtain⟨rfl,rfl⟩:=trodVars_none hV;have hB:=hA;obtain⟨v0,d0,rfl,rfl,h0⟩:=trodAll_one hA;obtain⟨dss,ha,hlen,hwl⟩:=Co (H:=Go.Q.S.H) ad0.ty ab0 _ _ _ _ hB (by decide) (fun j t v h h'=>hval j t v (by simpa using h) (by simpa using h'))
 obtain⟨x0,rfl⟩:∃ x0,dss=[x0]:=by
  match dss,hlen with
  | [x0],_=>exact⟨x0,rfl⟩
 obtain⟨t0,e0,w0⟩:=hwl 0 _ _ rfl rfl;rw[ae0] at e0;obtain rfl:=Option.some.inj e0;refine(Oo ad0 Tryz.func5 (by kernel_rfl) ki5 rfl rfl ha (b:=true) (by show rn _ _=_;simpa using law5 w0)).mono fun e W' ⟨he,bel⟩=>?_
 subst he;exact⟨_,rfl,_,_,_,[],p,_,hW',trodAll_mk1 (shut_bool Tryz.underlying4 _),qz Vs _ _ _ _ (Wl (by kernel_rfl)) hB bel (fun z hz=>hW'.lt z (by simp[hz])),rfl,bel.frame _,fun h=>by cases h⟩
theorem over:Rows.fnProvedRow.holds Tryz.pinned (OpenSpec.ofChange Rows.fnProvedSpec) :=
 OpenClaim.holds_of_wide 5 Tryz.f5 rfl rfl rfl rfl rfl rfl rfl ⟨rfl,rfl,rfl,rfl,rfl⟩ rfl rfl rfl rfl rfl ad1 Tryz.func5 vz
  (of_decide_eq_true (by kernel_rfl)) (by unfold Func.isWrapper;first |(rw[H5 (by decide +kernel)];kernel_rfl) |(rw[H6 (by decide +kernel)];exact⟨rfl,rfl⟩))
  (fun os started H enc _=>lifted os started H enc)
theorem proved:Rows.FnProvedSaid:=over
end Go.Proofs.YtebeihhcaaaaiaaGreat.fnProved
namespace Go.Proofs.YtebeihhcaaaaiaaGreat
theorem fnProved_holds:Rows.FnProvedSaid:=fnProved.proved
end Go.Proofs.YtebeihhcaaaaiaaGreat
