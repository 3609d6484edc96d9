/- For all arguments the law FnMatched answers true and leaves its arguments as they were; no condition. -/
import Derived.Test.YtddgnnhdjgjmnaaPA
import Derived.Test.YtddgnnhdjgjmnaaRows
import Derived.WalkKit
import Derived.ProofKit
import Derived.OpenShut
import Derived.ShutString
import Derived.ChangeOld
import Derived.Below
import Derived.SizedLaws
set_option linter.unusedVariables false
set_option linter.unusedSimpArgs false
open Bool renaming not_true->J1
open Option renaming bind_some->B6
namespace Go.Q.S
open Go Go.Q Go.Proofs
def L5:List CT:=[.int .u8]
theorem ty5:H.ty 5=some ⟨false,L5,[]⟩:=by kernel_rfl
theorem wl5 {ds:List D} (h:WL H ds L5):∃ a0,ds=[D.int a0]:=by
 unfold L5 at h;obtain ⟨a0,_,rfl,_,h⟩:=wl_int h;obtain rfl:=wl_nil h;exact ⟨a0,rfl⟩
def L22:List CT:=[.sl 5]
theorem ty22:H.ty 22=some ⟨false,L22,[]⟩:=by kernel_rfl
theorem wl22 {ds:List D} (h:WL H ds L22):∃ a0,ds=[D.sl a0]/\a0.length<=maxLen/\WRs H a0 L5:=by
 unfold L22 at h;obtain ⟨a0,_,rfl,b0,c0,h⟩:=wl_sl ty5 h;obtain rfl:=wl_nil h;exact ⟨a0,rfl,b0,c0⟩
theorem r10 (u t:Tm) (ht:t.nodes<=1048576) (hu:Small u):rn ⟨10,0,0⟩ [.int u.k,.int u.n,.str u.s,.sl (u.as.map Tm.row),.int t.k,.int t.n,.str t.s,.sl (t.as.map Tm.row)]=some (0,[.bool (mT t u []).isSome]):=by
 have h1:=mI1 t u [] hu (by simp) (by simpa using ht)
 rw [e10_0_0];simp only [List.map_nil] at h1;rw [h1];cases mT t u [] <;> rfl
theorem r14 (u t:Tm) (ht:t.nodes<=1048576) (hu:u.nodes<=1048576):rn ⟨14,0,0⟩ [.int u.k,.int u.n,.str u.s,.sl (u.as.map Tm.row),.int t.k,.int t.n,.str t.s,.sl (t.as.map Tm.row)]=some (0,[.bool ((mT t u []).isSome&&(mT u t []).isSome)]):=by
 rw [e14_0_0,r10 u t ht (small_of _ (by omega)),r10 t u hu (small_of _ (by omega))]
 simp only [nv0,nvS,dvI,dvB,dvS,dvL,B6];cases (mT t u []).isSome <;> rfl
theorem r20 (u t:Tm) (ht:t.nodes<=1048576) (hu:Small u):rn ⟨20,0,0⟩ [.int u.k,.int u.n,.str u.s,.sl (u.as.map Tm.row),.int t.k,.int t.n,.str t.s,.sl (t.as.map Tm.row)]=some (0,[.bool (mT t u []).isSome]):=by
 rw [e20_0_0,r8 t u ht hu];cases mT t u [] <;> rfl
theorem r15 (u t:Tm) (ht:t.nodes<=1048576) (hu:u.nodes<=1048576):rn ⟨15,0,0⟩ [.int u.k,.int u.n,.str u.s,.sl (u.as.map Tm.row),.int t.k,.int t.n,.str t.s,.sl (t.as.map Tm.row)]=some (0,[.bool ((mT t u []).isSome&&(mT u t []).isSome)]):=by
 rw [e15_0_0,r20 u t ht (small_of _ (by omega)),r20 t u hu (small_of _ (by omega))]
 simp only [nv0,nvS,dvI,dvB,dvS,dvL,B6];cases (mT t u []).isSome <;> rfl
theorem ints0:rn ⟨50,0,0⟩ [.sl [],.sl []]=some (0,[.bool true]):=by
 have h:rn ⟨50,0,1⟩ [.sl [],.sl [],.int 0]=some (0,[]):=by rw [e50_0_1]; rfl
 rw [e50_0_0];have h':rn ⟨50,0,1⟩ [.sl [],.sl [],.int 0]=some (0,[]):=h;simp only [List.length_nil,H3,J1,H2,h',nv0,nvS,dvI,dvB,dvS,dvL,B6,Nat.beq_refl,H1,H2]
theorem binds_ok (l:List Bnd) (hl:l.length<=1048576) (hs:∀ b∈l,Small b.2):rn ⟨51,0,0⟩ [.sl (l.map Bnd.row),.sl (l.map Bnd.row)]=some (0,[.bool true]):=by
 have key:∀ n i,i+n=l.length->rn ⟨51,0,1⟩ [.sl (l.map Bnd.row),.sl (l.map Bnd.row),.int (i:Int)]=some (0,[]):=by
  intro n;induction n with
  | zero =>
   intro i hi;obtain rfl:i=l.length:=by omega
   rw [e51_0_1];simp only [List.length_map,Int.ofNat_lt,Nat.lt_irrefl,H4,H2,List.drop_length]
  | succ n ih =>
   intro i hi;have hlt:i<l.length:=by omega
   have he:=r12 l[i].2 l[i].2 (hs _ (List.getElem_mem hlt));have h1:=ih (i+1) (by omega)
   rw [eqb_refl] at he;rw [e51_0_1];simp only [List.length_map,Int.ofNat_lt,hlt,H3,H1,inbN,Int.toNat_natCast,rowAt_map hlt,wrap_succ hlt (maxB (by omega)),bd_row,nv0,nvS,dvI,dvB,dvS,dvL,B6,J1,H2,he,h1]
 rw [e51_0_0];have h:=key l.length 0 (Nat.zero_add _);simp only [Int.natCast_zero] at h;simp only [H3,J1,H2,h,nv0,nvS,dvI,dvB,dvS,dvL,B6,Nat.beq_refl,H1,H2]
theorem sameBinds_ok (l:List Bnd) (hl:l.length<=1048576) (hs:∀ b∈l,Small b.2):rn ⟨9,0,0⟩ [.sl (l.map Bnd.row),.sl (l.map Bnd.row)]=some (0,[.bool true]):=by
 have h1:=binds_ok l hl hs;have h2:rn ⟨28,0,1⟩ [.int 1,.sl [[.int 0,.sl [],.int 0,.sl (l.map Bnd.row)]],.sl [[.int 0,.sl [],.int 0,.sl (l.map Bnd.row)]]]=some (0,[]):=by
  rw [e28_0_1]; rfl
 have h3:rn ⟨28,0,1⟩ [.int 0,.sl [[.int 0,.sl [],.int 0,.sl (l.map Bnd.row)]],.sl [[.int 0,.sl [],.int 0,.sl (l.map Bnd.row)]]]=some (0,[]):=by
  rw [e28_0_1];have hr:∀ x:List D,rowAt [x] (Int.toNat 0)=x:=fun _=>rfl
  have hi:inb 0 1=true:=rfl;have hw:IntKind.i64.wrap (0+1)=1:=rfl;simp only [List.length_cons,List.length_nil,Nat.zero_add,hr,hi,hw,nv0,nvS,dvI,dvB,dvS,dvL,B6,H3,J1,H2,H1,ints0,h1,h2,show decide ((0:Int)<((1:Nat):Int))=true from rfl]
 have h4:rn ⟨28,0,0⟩ [.sl [[.int 0,.sl [],.int 0,.sl (l.map Bnd.row)]],.sl [[.int 0,.sl [],.int 0,.sl (l.map Bnd.row)]]]=some (0,[.bool true]):=by
  rw [e28_0_0];simp only [H3,J1,H2,h3,nv0,nvS,dvI,dvB,dvS,dvL,B6,Nat.beq_refl,H1,H2]
 rw [e9_0_0,h4];rfl
theorem big_ok (code:Rows):rn ⟨5,0,0⟩ [.sl code]=some (0,[.bool (decide ((1048576:Int)<code.length))]):=by rw [e5_0_0]
theorem law3r (code:Rows):rn ⟨3,0,0⟩ [.sl code]=some (0,[.bool true]):=by
 rw [e3_0_0,big_ok];simp only [nv0,nvS,dvI,dvB,dvS,dvL,B6];by_cases hl:code.length<=1048576
 case neg=>rw [H7 (by omega:(1048576:Int)<code.length)]; rfl
 rw [H8 (by omega:¬(1048576:Int)<code.length)]
 obtain ⟨_,e1,p,t,d1,d2,n1,n2,rfl⟩:=dmatch_ok hl;obtain ⟨_,e2,a,b,m1,m2,rfl⟩:=dvar_ok hl;have hst:Small t:=small_of _ (by omega)
 have hsp:Small p:=small_of _ (by omega)
 have x1:=r7 p t (by omega) hst
 have x2:=r8 p t (by omega) hst
 have x3:=r10 t p (by omega) hst
 have x4:=r14 a b (by omega) (by omega)
 have x5:=r15 a b (by omega) (by omega)
 simp only [H2,e1,nv0,nvS,dvI,dvB,dvS,dvL,B6,x1,x2,x3,e2,x4,x5];cases hq:mT p t [] with
 | none =>
  have y1:=sameBinds_ok [] (by simp) (by simp)
  simp only [List.map_nil] at y1;simp only [Option.map_none,foI,nv0,nvS,dvI,dvB,dvS,dvL,B6,y1,beq_self_eq_true,J1,Bool.not_false,H2,H1,Option.isSome_none]
 | some l =>
  obtain ⟨q1,q2⟩:=rsl_ok (by omega) hst hq
  have y1:=sameBinds_ok (rsl p l) q1 q2;have y2:=r13 (rsl p l) q1 q2 p hsp;have y3:=r12 t t hst;rw [aS_rsB hq] at y2;rw [eqb_refl] at y3;simp only [rsl] at y1 y2;simp only [Option.map_some,rsl,foI,nv0,nvS,dvI,dvB,dvS,dvL,B6,y1,y2,y3,beq_self_eq_true,J1,Bool.not_false,H2,H1,Option.isSome_some]
theorem law3 {x0:List D} (h0:WL H x0 L22):rn ⟨3,0,0⟩ x0=some (0,[.bool true]):=by
 obtain ⟨a,rfl,_,_⟩:=wl22 h0;exact law3r a
end Go.Q.S
namespace Go.Q.S
open Go Go.Q Go.Proofs
theorem ki3:H.ki ⟨3,0,0⟩=some ⟨[(0,argSh ((H.ty 22).getD default))],[],[⟨.ret,[(0,.bool)],[]⟩]⟩:=by kernel_rfl
theorem plain3:plainB Try.prog H [5,22]=true:=by kernel_rfl
end Go.Q.S
namespace Go.Proofs.Ytddgnnhdjgjmnaa.fnMatched
open Go Go.Q Go.Q.S
open Go.ChangeShapes Go.WideShapes Go.ChangeAt Go.RowKit
open Go.ChangeMaps (open_string shut_string)
theorem own:ownKnob Try.prog.godebug=none:=by kernel_rfl
theorem laid:laidOutB Try.prog=true:=by kernel_rfl
set_option maxRecDepth 100000 in
theorem lifted (os:Os) (started:os.Started) (H:Type) (enc:TypeId × Value->H) :
 ReturnsInHanded {} Try.checked os 3 .any (Rows.fnMatchedSpec.pre6 enc Try.prog Try.f3 Rows.fnMatchedRow.domain false) (Rows.fnMatchedSpec.post enc Try.prog Try.f3 false true false false):=by
 refine returnsInHanded_of_change_sized (C:=Try.checked) own started (by kernel_rfl) Try.func3
  (ChangeSpec.witness6 (enc:=enc) (C:=Try.checked) false ⟨#[],#[.slice none 0 0],[]⟩ 8 (by kernel_rfl) (by kernel_rfl) (by kernel_rfl) (by kernel_rfl)) ?_
 intro W base args ds gs before hval0 hW hcnd hsz0 _;have hval:∀ (j:Nat) t v,Try.f3.params[j]?=some t->args[j]?=some v->Value.okWide Try.prog W .any base t v:=hval0;have hW':=hW;obtain ⟨p,q,hA0,hV,rfl,hfz,hnd⟩:=hW;have hA:DataW.TrodAll enc Try.prog W 0 (fun _=>true) true Try.f3.params.toList args.toList ds p:=hA0
 rw [Try.params3] at hA hval;obtain ⟨rfl,rfl⟩:=trodVars_none hV;have hB:=hA;obtain ⟨v0,d0,rfl,rfl,h0⟩:=trodAll_one hA;obtain ⟨dss,ha,hlen,hwl⟩:=args_data (H:=Go.Q.S.H) fits.ty plain3 _ _ _ _ hB (by decide) (fun j t v h h'=>hval j t v (by simpa using h) (by simpa using h'))
 obtain ⟨x0,rfl⟩:∃ x0,dss=[x0]:=by
  match dss,hlen with
  | [x0],_=>exact ⟨x0,rfl⟩
 obtain ⟨t0,e0,w0⟩:=hwl 0 _ _ rfl rfl;rw [ty22] at e0;obtain rfl:=Option.some.inj e0;refine (law_calls fits Try.func3 (by kernel_rfl) ki3 rfl rfl ha (b:=true) (by show rn _ _=_; simpa using law3 w0)).mono fun e W' ⟨he,bel⟩=>?_
 subst he;exact ⟨_,rfl,_,_,_,[],p,_,hW',trodAll_mk1 (shut_bool Try.underlying4 _),trodAll_below laid _ _ _ _ (read_of (by kernel_rfl)) hB bel (fun z hz=>hW'.lt z (by simp [hz])),rfl,bel.frame _,fun h=>by cases h⟩
theorem over:Rows.fnMatchedRow.holds Try.pinned (OpenSpec.ofChange Rows.fnMatchedSpec) :=
 OpenClaim.holds_of_wide 3 Try.f3 rfl rfl rfl rfl rfl rfl rfl ⟨rfl,rfl,rfl,rfl,rfl⟩ rfl rfl rfl rfl rfl (by kernel_rfl) Try.func3 (by kernel_rfl)
  (of_decide_eq_true (by kernel_rfl)) (by unfold Func.isWrapper; first | (rw [H5 (by decide +kernel)]; kernel_rfl) | (rw [H6 (by decide +kernel)]; exact ⟨rfl,rfl⟩))
  (fun os started H enc _=>lifted os started H enc)
theorem proved:Rows.FnMatchedSaid:=over
end Go.Proofs.Ytddgnnhdjgjmnaa.fnMatched
namespace Go.Proofs.Ytddgnnhdjgjmnaa
theorem fnMatched_holds:Rows.FnMatchedSaid:=fnMatched.proved
end Go.Proofs.Ytddgnnhdjgjmnaa
