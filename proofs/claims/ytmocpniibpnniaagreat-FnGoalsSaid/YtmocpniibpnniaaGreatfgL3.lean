/- For all arguments the law FnGoals answers true and leaves its arguments as they were; no condition. -/
import Derived.Test.YtmocpniibpnniaaGreatPB
import Derived.Test.YtmocpniibpnniaaGreatfgE5
import Derived.Test.YtmocpniibpnniaaGreatRows
import Derived.WalkKit
import Derived.ProofKit
import Derived.OpenShut
import Derived.ShutString
import Derived.ChangeOld
import Derived.Below
import Derived.SizedLaws
set_option linter.unusedVariables false
set_option linter.unusedSimpArgs false
open Bool renaming not_true->F4
open Int renaming ofNat_lt->D0,natCast_zero->D1
open List renaming length_map->B8,drop_length->D6
open Option renaming bind_some->B4
namespace Go.Q.S
open Go Go.Q Go.Proofs
def L5:List CT:=[.int .u8]
theorem ty5:H.ty 5=some ⟨false,L5,[]⟩:=by kernel_rfl
theorem wl5 {ds:List D} (h:WL H ds L5):∃ a0,ds=[D.int a0]:=by
 unfold L5 at h;obtain ⟨a0,_,rfl,_,h⟩:=wl_int h;obtain rfl:=wl_nil h;exact ⟨a0,rfl⟩
def L22:List CT:=[.sl 5]
theorem ty22:H.ty 22=some ⟨false,L22,[]⟩:=by kernel_rfl
theorem wl22 {ds:List D} (h:WL H ds L22):∃ a0,ds=[D.sl a0]/\a0.length<=maxLen/\WRs H a0 L5:=by
 unfold L22 at h;obtain ⟨a0,_,rfl,b0,c0,h⟩:=wl_sl ty5 h;obtain rfl:=wl_nil h;exact ⟨a0,rfl,b0,c0⟩
theorem big_ok (code:Rows):rn ⟨5,0,0⟩ [.sl code]=some (0,[.bool (decide ((1048576:Int)<code.length))]):=by rw [e5_0_0]
theorem sintsR (a:List Int) (ha:a.length<=1048576):rn ⟨11,0,0⟩ [.sl (a.map iRow),.sl (a.map iRow)]=some (0,[.bool true]):=by
 have key:∀ n i,i+n=a.length->rn ⟨11,0,1⟩ [.sl (a.map iRow),.sl (a.map iRow),.int (i:Int)]=some (0,[]):=by
  intro n;induction n with
  | zero =>
   intro i hi;obtain rfl:i=a.length:=by omega
   rw [e11_0_1];simp only [B8,D0,Nat.lt_irrefl,H4,H2,D6]
  | succ n ih =>
   intro i hi;have hlt:i<a.length:=by omega
   rw [e11_0_1];simp only [B8,D0,hlt,H3,H1,inbN,Int.toNat_natCast,rowAt_map hlt,wrap_succ hlt (maxB (by omega)),iRow,nv0,nvS,dvI,dvB,dvS,dvL,B4,H3,F4,H2,ih (i+1) (by omega)]
 have h:=key a.length 0 (Nat.zero_add _);simp only [D1] at h;rw [e11_0_0];simp only [H3,F4,H2,h,nv0,nvS,dvI,dvB,dvS,dvL,B4,Nat.beq_refl,H1,H2]
theorem sintsQ (a:List Int) (ha:a.length<=1048576):rn ⟨31,0,0⟩ [.sl (a.map iRow),.sl (a.map iRow)]=some (0,[.bool true]):=by
 have key:∀ n i,i+n=a.length->rn ⟨31,0,1⟩ [.sl (a.map iRow),.sl (a.map iRow),.int (i:Int)]=some (0,[]):=by
  intro n;induction n with
  | zero =>
   intro i hi;obtain rfl:i=a.length:=by omega
   rw [e31_0_1];simp only [B8,D0,Nat.lt_irrefl,H4,H2,D6]
  | succ n ih =>
   intro i hi;have hlt:i<a.length:=by omega
   rw [e31_0_1];simp only [B8,D0,hlt,H3,H1,inbN,Int.toNat_natCast,rowAt_map hlt,wrap_succ hlt (maxB (by omega)),iRow,nv0,nvS,dvI,dvB,dvS,dvL,B4,H3,F4,H2,ih (i+1) (by omega)]
 have h:=key a.length 0 (Nat.zero_add _);simp only [D1] at h;rw [e31_0_0];simp only [H3,F4,H2,h,nv0,nvS,dvI,dvB,dvS,dvL,B4,Nat.beq_refl,H1,H2]
theorem esymR (v:List ByteArray) (t:Tm) (c:List Int) (hv:v.length<=1048576) (ht:Small t) (hc:c.length<=1048576):rn ⟨9,0,0⟩ [.sl (v.map sRow),.int t.k,.int t.n,.str t.s,.sl (t.as.map Tm.row),.sl (c.map iRow),.sl (v.map sRow),.int t.k,.int t.n,.str t.s,.sl (t.as.map Tm.row),.sl (c.map iRow)]=some (0,[.bool true]):=by
 have h1:=r30 v v hv;have h2:=r13 t t ht;have h3:=sintsQ c hc;have h0:eqLs v v=true:=by unfold eqLs; exact H7 rfl
 rw [eqb_refl] at h2;rw [h0] at h1;rw [e9_0_0];simp only [h1,h2,h3,nv0,nvS,dvI,dvB,dvS,dvL,B4,H1]
theorem law3r (code:Rows):rn ⟨3,0,0⟩ [.sl code]=some (0,[.bool true]):=by
 rw [e3_0_0,big_ok];simp only [nv0,nvS,dvI,dvB,dvS,dvL,B4];by_cases hl:code.length<=1048576
 case neg=>rw [H7 (by omega:(1048576:Int)<code.length)]; rfl
 rw [H8 (by omega:¬(1048576:Int)<code.length)]
 obtain ⟨d,v,l,r,g,hd,hc,e0⟩:=args21_ok hl;obtain ⟨_,e3,i,h,rfl⟩:=new_ok hl;obtain ⟨_,e4,b,i',h',b0,b1,rfl⟩:=below_ok hl i h (n:=18) (by decide) (by decide)
 have e1:rn ⟨6,0,0⟩ [.sl code]=some (0,[.int l.k,.int l.n,.str l.s,.int r.k,.int r.n,.str r.s,.sl (v.map sRow),.sl (l.as.map Tm.row),.sl (r.as.map Tm.row),.sl (g.map Gu.row)]):=by
  rw [e6_0_0];simp only [e0,nv0,nvS,dvI,dvB,dvS,dvL,B4]
 have e2:rn ⟨8,0,0⟩ [.sl code]=some (0,[.int l.k,.int l.n,.str l.s,.int r.k,.int r.n,.str r.s,.int (IntKind.i64.wrap (b-1)),.sl (v.map sRow),.sl (l.as.map Tm.row),.sl (r.as.map Tm.row),.sl (g.map Gu.row)]):=by
  rw [e8_0_0];simp only [e0,e3,e4,nv0,nvS,dvI,dvB,dvS,dvL,B4]
 have hv:=hc.v;have hg:=hc.g;have hls:Small l:=hc.l.small (by decide)
 have hrs:Small r:=hc.r.small (by decide)
 have hgo:∀ x∈g,x.ok:=fun x hx=>⟨(hc.ga x hx).b.ln,(hc.ga x hx).b.rn⟩
 have hal:=allC_len v g;have x1:=r7 v (by omega) l r hls g (by omega) hgo
 have x2:=r10 v (by omega) l r hls g (by omega) hgo
 have x3:=r12 v g (by omega) hgo
 have eN:(allC v g).map nRow=((allC v g).map fun (i:Nat)=>(i:Int)).map iRow:=by rw [List.map_map]; rfl
 rw [eN] at x1 x2 x3;have x4:=esymR v l ((allC v g).map fun (i:Nat)=>(i:Int)) (by omega) hls (by rw [B8]; omega)
 have x5:=sintsR ((allC v g).map fun (i:Nat)=>(i:Int)) (by rw [B8]; omega)
 have x6:=r14 v l r hrs (g.map Gu.row) (IntKind.i64.wrap (b-1));have x7:=r15 v l r hrs (g.map Gu.row) (IntKind.i64.wrap (b-1));have x8:=r13 (S.instR v r (IntKind.i64.wrap (b-1))) (S.instR v r (IntKind.i64.wrap (b-1))) (S.instR_small hrs _);rw [eqb_refl] at x8;simp only [H2,e1,nv0,nvS,dvI,dvB,dvS,dvL,B4,x1,e2,x2,x4,H1,x3,x5,x6,x7,x8]
theorem law3 {x0:List D} (h0:WL H x0 L22):rn ⟨3,0,0⟩ x0=some (0,[.bool true]):=by
 obtain ⟨a,rfl,_,hw⟩:=wl22 h0;exact law3r a
end Go.Q.S
namespace Go.Q.S
open Go Go.Q Go.Proofs
theorem ki3:H.ki ⟨3,0,0⟩=some ⟨[(0,argSh ((H.ty 22).getD default))],[],[⟨.ret,[(0,.bool)],[]⟩]⟩:=by kernel_rfl
theorem plain3:plainB Tryz.prog H [5,22]=true:=by kernel_rfl
end Go.Q.S
namespace Go.Proofs.YtmocpniibpnniaaGreat.fnGoals
open Go Go.Q Go.Q.S
open Go.ChangeShapes Go.WideShapes Go.ChangeAt Go.RowKit
open Go.ChangeMaps (open_string shut_string)
theorem own:ownKnob Tryz.prog.godebug=none:=by kernel_rfl
theorem laid:laidOutB Tryz.prog=true:=by kernel_rfl
set_option maxRecDepth 100000 in
theorem lifted (os:Os) (started:os.Started) (H:Type) (enc:TypeId × Value->H) :
 ReturnsInHanded {} Tryz.checked os 3 .any (Rows.fnGoalsSpec.pre6 enc Tryz.prog Tryz.f3 Rows.fnGoalsRow.domain false) (Rows.fnGoalsSpec.post enc Tryz.prog Tryz.f3 false true false false):=by
 refine returnsInHanded_of_change_sized (C:=Tryz.checked) own started (by kernel_rfl) Tryz.func3
  (ChangeSpec.witness6 (enc:=enc) (C:=Tryz.checked) false ⟨#[],#[.slice none 0 0],[]⟩ 8 (by kernel_rfl) (by kernel_rfl) (by kernel_rfl) (by kernel_rfl)) ?_
 intro W base args ds gs before hval0 hW hcnd hsz0 _;have hval:∀ (j:Nat) t v,Tryz.f3.params[j]?=some t->args[j]?=some v->Value.okWide Tryz.prog W .any base t v:=hval0;have hW':=hW;obtain ⟨p,q,hA0,hV,rfl,hfz,hnd⟩:=hW;have hA:DataW.TrodAll enc Tryz.prog W 0 (fun _=>true) true Tryz.f3.params.toList args.toList ds p:=hA0
 rw [Tryz.params3] at hA hval;obtain ⟨rfl,rfl⟩:=trodVars_none hV;have hB:=hA;obtain ⟨v0,d0,rfl,rfl,h0⟩:=trodAll_one hA;obtain ⟨dss,ha,hlen,hwl⟩:=args_data (H:=Go.Q.S.H) fits.ty plain3 _ _ _ _ hB (by decide) (fun j t v h h'=>hval j t v (by simpa using h) (by simpa using h'))
 obtain ⟨x0,rfl⟩:∃ x0,dss=[x0]:=by
  match dss,hlen with
  | [x0],_=>exact ⟨x0,rfl⟩
 obtain ⟨t0,e0,w0⟩:=hwl 0 _ _ rfl rfl;rw [ty22] at e0;obtain rfl:=Option.some.inj e0;refine (law_calls fits Tryz.func3 (by kernel_rfl) ki3 rfl rfl ha (b:=true) (by show rn _ _=_; simpa using law3 w0)).mono fun e W' ⟨he,bel⟩=>?_
 subst he;exact ⟨_,rfl,_,_,_,[],p,_,hW',trodAll_mk1 (shut_bool Tryz.underlying4 _),trodAll_below laid _ _ _ _ (read_of (by kernel_rfl)) hB bel (fun z hz=>hW'.lt z (by simp [hz])),rfl,bel.frame _,fun h=>by cases h⟩
theorem over:Rows.fnGoalsRow.holds Tryz.pinned (OpenSpec.ofChange Rows.fnGoalsSpec) :=
 OpenClaim.holds_of_wide 3 Tryz.f3 rfl rfl rfl rfl rfl rfl rfl ⟨rfl,rfl,rfl,rfl,rfl⟩ rfl rfl rfl rfl rfl named Tryz.func3 closed
  (of_decide_eq_true (by kernel_rfl)) (by unfold Func.isWrapper; first | (rw [H5 (by decide +kernel)]; kernel_rfl) | (rw [H6 (by decide +kernel)]; exact ⟨rfl,rfl⟩))
  (fun os started H enc _=>lifted os started H enc)
theorem proved:Rows.FnGoalsSaid:=over
end Go.Proofs.YtmocpniibpnniaaGreat.fnGoals
namespace Go.Proofs.YtmocpniibpnniaaGreat
theorem fnGoals_holds:Rows.FnGoalsSaid:=fnGoals.proved
end Go.Proofs.YtmocpniibpnniaaGreat
