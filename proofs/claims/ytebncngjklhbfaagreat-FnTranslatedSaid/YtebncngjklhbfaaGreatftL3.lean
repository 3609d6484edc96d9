/- For all arguments the law FnTranslated answers true and leaves its arguments as they were; no condition. -/
import Derived.Test.YtebncngjklhbfaaGreatPA
import Derived.Test.YtebncngjklhbfaaGreatftE5
import Derived.Test.YtebncngjklhbfaaGreatRows
import Derived.WalkKit
import Derived.ProofKit
import Derived.OpenShut
import Derived.ShutString
import Derived.ChangeOld
import Derived.Below
import Derived.SizedLaws
set_option linter.unusedVariables false
set_option linter.unusedSimpArgs false
open Option renaming bind_some->B5
namespace Go.Q.S
open Go Go.Q Go.Proofs
def L5:List CT:=[.int .u8]
theorem ty5:H.ty 5=some ⟨false,L5,[]⟩:=by kernel_rfl
theorem wl5 {ds:List D} (h:WL H ds L5):∃ a0,ds=[D.int a0]:=by
 unfold L5 at h;obtain ⟨a0,_,rfl,_,h⟩:=wl_int h;obtain rfl:=wl_nil h;exact ⟨a0,rfl⟩
def L22:List CT:=[.sl 5]
theorem ty22:H.ty 22=some ⟨false,L22,[]⟩:=by kernel_rfl
theorem wl22 {ds:List D} (h:WL H ds L22):∃ a0,ds=[D.sl a0]/\a0.length<=maxLen/\WRs H a0 L5:=by
 unfold L22 at h;obtain ⟨a0,_,rfl,b0,c0,h⟩:=wl_sl ty5 h;obtain rfl:=wl_nil h;exact ⟨a0,rfl,b0,c0⟩
theorem big_ok (code:Rows):rn ⟨7,0,0⟩ [.sl code]=some (0,[.bool (decide ((1048576:Int)<code.length))]):=by rw [e7_0_0]
theorem tr_lack {d:DfM} {t:Tm} {s:ByteArray} (h:(trT d t s).isSome=true):cO s (trU (trT d t s))=false:=by
 unfold trT at h ⊢;cases hr:runT d (.mk 2 0 s [t]) 200 with
 | none=>rw [hr] at h; simp at h
 | some r =>
  rw [hr] at h;simp only at h ⊢;by_cases h1:r.o=1
  · rw [H5 h1] at h ⊢
    by_cases h2:cO s r.t=true
    · rw [H5 h2] at h; simp at h
    · rw [H6 h2]; simpa [trU] using h2
  · rw [H6 h1] at h; simp at h
theorem law3r (code:Rows):rn ⟨3,0,0⟩ [.sl code]=some (0,[.bool true]):=by
 rw [e3_0_0,big_ok];simp only [nv0,nvS,dvI,dvB,dvS,dvL,B5];by_cases hl:code.length<=1048576
 case neg=>rw [H7 (by omega:(1048576:Int)<code.length)]; rfl
 rw [H8 (by omega:¬(1048576:Int)<code.length)]
 have hd1:∃ d:DfM,∃ t:Tm,∃ s:ByteArray,DfB d/\Wn 3000 t/\s.size<=8/\rn ⟨8,0,0⟩ [.sl code]=some (0,[.int t.k,.int t.n,.str t.s,.str s,.sl (d.so.map sRow),.sl (d.op.map OpM.row),.sl (d.ru.map RuM.row),.sl (d.st.map StM.row),.sl (t.as.map Tm.row)]):=by
  obtain ⟨_,e1,d,t,hd,ht,rfl⟩:=args12_ok hl;obtain ⟨_,e2,i,h,rfl⟩:=new_ok hl;obtain ⟨_,e3,s,i',h',hs,rfl⟩:=pick_ok hl i h (l:=[[.str ⟨#[103]⟩],[.str ⟨#[116,111,112]⟩],[.str ⟨#[103]⟩],[.str ⟨#[102]⟩],[.str ⟨#[122,122]⟩]]) (by decide) (by decide) 8 (by decide)
  refine ⟨d,t,s,hd,ht,hs,?_⟩;rw [e8_0_0];simp only [e1,e2,e3,nv0,nvS,dvI,dvB,dvS,dvL,B5]
 have hd2:∃ t:Tm,∃ s:ByteArray,Wn 60 t/\rn ⟨11,0,0⟩ [.sl code]=some (0,[.int t.k,.int t.n,.str t.s,.str s,.sl (t.as.map Tm.row)]):=by
  obtain ⟨_,e2,i,h,rfl⟩:=new_ok hl;obtain ⟨_,e1,t,i',h',ht,rfl⟩:=bent_ok hl i h;obtain ⟨_,e3,s,i'',h'',hs,rfl⟩:=pick_ok hl i' h' (l:=[[.str ⟨#[102]⟩],[.str ⟨#[103]⟩],[.str ⟨#[97]⟩],[.str ⟨#[122,122]⟩]]) (by decide) (by decide) 8 (by decide)
  refine ⟨t,s,ht,?_⟩;rw [e11_0_0];simp only [e1,e2,e3,nv0,nvS,dvI,dvB,dvS,dvL,B5]
 obtain ⟨d,t,s,hd,ht,hs,e1⟩:=hd1;obtain ⟨u,z,hu,e2⟩:=hd2;have hsm:s.size<=maxLen:=by unfold maxLen; omega
 have x1:=r9 d hd t ht.w (by have:=ht.n; omega) s hsm
 have x2:=r10 d hd t ht.w (by have:=ht.n; omega) s hsm
 have x3:=r13 z u (by have:=hu.n; omega)
 have x4:=r14 z u (by have:=hu.n; omega)
 obtain ⟨g1,g2⟩:=tr_ok hd ht.w hsm;have x5:=r12 (trU (trT d t s)) (trU (trT d t s)) (small_of _ (by omega))
 have x6:=r13 s (trU (trT d t s)) (by omega)
 rw [eqb_refl] at x5;simp only [trR] at x1 x2;simp only [H2,e1,nv0,nvS,dvI,dvB,dvS,dvL,B5,x1,x2,e2,x5,beq_self_eq_true,H1,x3,x4,x6];cases hq:(trT d t s).isSome with
 | false=>rfl
 | true=>rw [tr_lack hq]; rfl
theorem law3 {x0:List D} (h0:WL H x0 L22):rn ⟨3,0,0⟩ x0=some (0,[.bool true]):=by
 obtain ⟨a,rfl,_,_⟩:=wl22 h0;exact law3r a
end Go.Q.S
namespace Go.Q.S
open Go Go.Q Go.Proofs
theorem ki3:H.ki ⟨3,0,0⟩=some ⟨[(0,argSh ((H.ty 22).getD default))],[],[⟨.ret,[(0,.bool)],[]⟩]⟩:=by kernel_rfl
theorem plain3:plainB Tryz.prog H [5,22]=true:=by kernel_rfl
end Go.Q.S
namespace Go.Proofs.YtebncngjklhbfaaGreat.fnTranslated
open Go Go.Q Go.Q.S
open Go.ChangeShapes Go.WideShapes Go.ChangeAt Go.RowKit
open Go.ChangeMaps (open_string shut_string)
theorem own:ownKnob Tryz.prog.godebug=none:=by kernel_rfl
theorem laid:laidOutB Tryz.prog=true:=by kernel_rfl
set_option maxRecDepth 100000 in
theorem lifted (os:Os) (started:os.Started) (H:Type) (enc:TypeId × Value->H) :
 ReturnsInHanded {} Tryz.checked os 3 .any (Rows.fnTranslatedSpec.pre6 enc Tryz.prog Tryz.f3 Rows.fnTranslatedRow.domain false) (Rows.fnTranslatedSpec.post enc Tryz.prog Tryz.f3 false true false false):=by
 refine returnsInHanded_of_change_sized (C:=Tryz.checked) own started (by kernel_rfl) Tryz.func3
  (ChangeSpec.witness6 (enc:=enc) (C:=Tryz.checked) false ⟨#[],#[.slice none 0 0],[]⟩ 8 (by kernel_rfl) (by kernel_rfl) (by kernel_rfl) (by kernel_rfl)) ?_
 intro W base args ds gs before hval0 hW hcnd hsz0 _;have hval:∀ (j:Nat) t v,Tryz.f3.params[j]?=some t->args[j]?=some v->Value.okWide Tryz.prog W .any base t v:=hval0;have hW':=hW;obtain ⟨p,q,hA0,hV,rfl,hfz,hnd⟩:=hW;have hA:DataW.TrodAll enc Tryz.prog W 0 (fun _=>true) true Tryz.f3.params.toList args.toList ds p:=hA0
 rw [Tryz.params3] at hA hval;obtain ⟨rfl,rfl⟩:=trodVars_none hV;have hB:=hA;obtain ⟨v0,d0,rfl,rfl,h0⟩:=trodAll_one hA;obtain ⟨dss,ha,hlen,hwl⟩:=args_data (H:=Go.Q.S.H) fits.ty plain3 _ _ _ _ hB (by decide) (fun j t v h h'=>hval j t v (by simpa using h) (by simpa using h'))
 obtain ⟨x0,rfl⟩:∃ x0,dss=[x0]:=by
  match dss,hlen with
  | [x0],_=>exact ⟨x0,rfl⟩
 obtain ⟨t0,e0,w0⟩:=hwl 0 _ _ rfl rfl;rw [ty22] at e0;obtain rfl:=Option.some.inj e0;refine (law_calls fits Tryz.func3 (by kernel_rfl) ki3 rfl rfl ha (b:=true) (by show rn _ _=_; simpa using law3 w0)).mono fun e W' ⟨he,bel⟩=>?_
 subst he;exact ⟨_,rfl,_,_,_,[],p,_,hW',trodAll_mk1 (shut_bool Tryz.underlying4 _),trodAll_below laid _ _ _ _ (read_of (by kernel_rfl)) hB bel (fun z hz=>hW'.lt z (by simp [hz])),rfl,bel.frame _,fun h=>by cases h⟩
theorem over:Rows.fnTranslatedRow.holds Tryz.pinned (OpenSpec.ofChange Rows.fnTranslatedSpec) :=
 OpenClaim.holds_of_wide 3 Tryz.f3 rfl rfl rfl rfl rfl rfl rfl ⟨rfl,rfl,rfl,rfl,rfl⟩ rfl rfl rfl rfl rfl named Tryz.func3 closed
  (of_decide_eq_true (by kernel_rfl)) (by unfold Func.isWrapper; first | (rw [H5 (by decide +kernel)]; kernel_rfl) | (rw [H6 (by decide +kernel)]; exact ⟨rfl,rfl⟩))
  (fun os started H enc _=>lifted os started H enc)
theorem proved:Rows.FnTranslatedSaid:=over
end Go.Proofs.YtebncngjklhbfaaGreat.fnTranslated
namespace Go.Proofs.YtebncngjklhbfaaGreat
theorem fnTranslated_holds:Rows.FnTranslatedSaid:=fnTranslated.proved
end Go.Proofs.YtebncngjklhbfaaGreat
