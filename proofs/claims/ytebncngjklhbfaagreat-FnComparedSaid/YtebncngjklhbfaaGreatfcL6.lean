/- For all arguments the law FnCompared answers true and leaves its arguments as they were; no condition. -/
import Derived.Test.YtebncngjklhbfaaGreatPB
import Derived.Test.YtebncngjklhbfaaGreatfcE5
import Derived.Test.YtebncngjklhbfaaGreatRows
import Derived.WalkKit
import Derived.ProofKit
import Derived.OpenShut
import Derived.ShutString
import Derived.ChangeOld
import Derived.Below
import Derived.SizedLaws
set_option linter.unusedVariables false
set_option linter.unusedSimpArgs false
open Bool renaming not_true->D8,not_false->J4
open Option renaming bind_some->B5
namespace Go.Q.S
open Go Go.Q Go.Proofs
def L5:List CT:=[.int .u8]
theorem ty5:H.ty 5=some ⟨false,L5,[]⟩:=by kernel_rfl
theorem wl5 {ds:List D} (h:WL H ds L5):∃ a0,ds=[D.int a0]:=by
 unfold L5 at h;obtain ⟨a0,_,rfl,_,h⟩:=wl_int h;obtain rfl:=wl_nil h;exact ⟨a0,rfl⟩
def L22:List CT:=[.sl 5]
theorem ty22:H.ty 22=some ⟨false,L22,[]⟩:=by kernel_rfl
theorem wl22 {ds:List D} (h:WL H ds L22):∃ a0,ds=[D.sl a0]/\a0.length<=maxLen/\WRs H a0 L5:=by
 unfold L22 at h;obtain ⟨a0,_,rfl,b0,c0,h⟩:=wl_sl ty5 h;obtain rfl:=wl_nil h;exact ⟨a0,rfl,b0,c0⟩
def DC (x:Nat × List D):Prop:=∃ a b:SyM,SyB a/\SyB b/\(∀ c∈a.c,S.i64ok c)/\x=(0,[.int a.t.k,.int a.t.n,.str a.t.s,.sl (b.d.st.map StM.row),.int b.t.k,.int b.t.n,.str b.t.s,.sl (a.d.so.map sRow),.sl (a.d.op.map OpM.row),.sl (a.d.ru.map RuM.row),.sl (a.d.st.map StM.row),.sl (a.v.map sRow),.sl (a.t.as.map Tm.row),.sl (a.c.map iRow),.sl (b.d.so.map sRow),.sl (b.d.op.map OpM.row),.sl (b.d.ru.map RuM.row),.sl (b.v.map sRow),.sl (b.t.as.map Tm.row),.sl (b.c.map iRow)])
theorem args25_ok {code:Rows} (hl:code.length<=1048576):Good (rn ⟨65,0,0⟩ [.sl code]) DC:=by
 rw [e65_0_0];refine Good.bind (new_ok hl) ?_
 rintro _ ⟨i,h,rfl⟩
 simp only [nv0,nvS,dvI,dvB,dvS,dvL,B5];refine Good.bind (ddef_ok hl _ _) ?_
 rintro _ ⟨d,i,h,hd,rfl⟩
 simp only [nv0,nvS,dvI,dvB,dvS,dvL,B5];refine Good.bind (dsym_ok hl _ _) ?_
 rintro _ ⟨v,t,c,i,h,hs,rfl⟩
 simp only [nv0,nvS,dvI,dvB,dvS,dvL,B5,dcopy_ok d hd,scopy_ok v t c hs];have hA:=hs.b hd.b;have fin:∀ (e:DfM),DfW e->∀ (v':List ByteArray) (t':Tm) (c':List Int),SyW v' t' c'->∀ (i:Nat) (h:Int),Good ((rn ⟨57,0,0⟩ [.int 12,.sl code,.int (i:Int),.int h]).bind fun r=>bif (nth r.2 0).B then (rn ⟨112,0,0⟩ [.sl (nth r.2 1).L,.int (nth r.2 2).I,.int (nth r.2 3).I]).bind fun r8=>some (0,[.int t.k,.int t.n,.str t.s,.sl (e.st.map StM.row),.int (nth r8.2 0).I,.int (nth r8.2 1).I,.str (nth r8.2 2).S,.sl (d.so.map sRow),.sl (d.op.map OpM.row),.sl (d.ru.map RuM.row),.sl (d.st.map StM.row),.sl (v.map sRow),.sl (t.as.map Tm.row),.sl (c.map iRow),.sl (e.so.map sRow),.sl (e.op.map OpM.row),.sl (e.ru.map RuM.row),.sl (nth r8.2 6).L,.sl (nth r8.2 7).L,.sl (nth r8.2 8).L])
  else some (0,[.int t.k,.int t.n,.str t.s,.sl (e.st.map StM.row),.int t'.k,.int t'.n,.str t'.s,.sl (d.so.map sRow),.sl (d.op.map OpM.row),.sl (d.ru.map RuM.row),.sl (d.st.map StM.row),.sl (v.map sRow),.sl (t.as.map Tm.row),.sl (c.map iRow),.sl (e.so.map sRow),.sl (e.op.map OpM.row),.sl (e.ru.map RuM.row),.sl (v'.map sRow),.sl (t'.as.map Tm.row),.sl (c'.map iRow)])) DC:=by
  intro e he v' t' c' hs' i h;refine Good.bind (once_ok hl _ _ (by decide) (by decide)) ?_
  rintro _ ⟨q,i,h,rfl⟩
  simp only [nv0,nvS,dvI,dvB,dvS,dvL,B5];refine Good.ite (fun _=>?_) (fun _=>?_)
  · refine Good.bind (dsbent_ok hl _ _) ?_
    rintro _ ⟨v2,t2,c2,i,h,g1,g2,g3,g4,g5,rfl⟩
    exact Good.ret ⟨⟨d,v,t,c⟩,⟨e,v2,t2,c2⟩,hA,⟨he.b,by show v2.length<=_; omega,fun x hx=>by have:=g2 x hx; unfold maxLen; omega,g3.w,by have:=g3.n; show t2.nodes<=_; omega,by show c2.length<=_; omega⟩,hs.ci,rfl⟩
  · exact Good.ret ⟨⟨d,v,t,c⟩,⟨e,v',t',c'⟩,hA,hs'.b he.b,hs.ci,rfl⟩
 refine Good.bind (below_ok hl _ _ (by decide) (by decide)) ?_
 rintro _ ⟨b,i,h,b0,b1,rfl⟩
 simp only [nv0,nvS,dvI,dvB,dvS,dvL,B5];refine Good.ite (fun _=>?_) (fun _=>?_)
 · refine Good.bind (ddef_ok hl _ _) ?_
   rintro _ ⟨e,i,h,he,rfl⟩
   simp only [nv0,nvS,dvI,dvB,dvS,dvL,B5];exact fin e he v t c hs i h
 refine Good.ite (fun _=>?_) (fun _=>?_)
 · refine Good.bind (dsym_ok hl _ _) ?_
   rintro _ ⟨v2,t2,c2,i,h,hs2,rfl⟩
   simp only [nv0,nvS,dvI,dvB,dvS,dvL,B5];exact fin d hd v2 t2 c2 hs2 i h
 refine Good.ite (fun _=>?_) (fun _=>?_)
 · cases hst:d.st with
   | nil =>
    have:=fin d hd v t c hs i h;rw [hst] at this;exact this
   | cons s0 ss =>
    have hst2:=hd.st;rw [hst] at hst2;have he:DfW ⟨d.so,d.op,d.ru,ss⟩:=⟨hd.so,hd.sos,hd.op,hd.opa,hd.ru,hd.rua,by simp at hst2; show ss.length<=10; omega⟩
    have:=fin ⟨d.so,d.op,d.ru,ss⟩ he v t c hs i h;have e0:decide ((0:Int)<(((s0::ss).map StM.row).length:Int))=true:=H7 (by simp only [List.length_map,List.length_cons]; omega)
    have e1:(decide ((0:Int)<=1)&&(decide ((1:Int)<=(((s0::ss).map StM.row).length:Int))&&decide ((((s0::ss).map StM.row).length:Int)<=(((s0::ss).map StM.row).length:Int))))=true:=by simp; omega
    have e2:(((s0::ss).map StM.row).take (Int.toNat (((s0::ss).map StM.row).length:Int))).drop (Int.toNat 1)=ss.map StM.row:=by rw [Int.toNat_natCast,List.take_length]; rfl
    rw [e0,e1,e2];rw [hst] at this;exact this
 · exact fin d hd v t c hs i h
theorem big_ok (code:Rows):rn ⟨7,0,0⟩ [.sl code]=some (0,[.bool (decide ((1048576:Int)<code.length))]):=by rw [e7_0_0]
theorem law6r (code:Rows):rn ⟨6,0,0⟩ [.sl code]=some (0,[.bool true]):=by
 rw [e6_0_0,big_ok];simp only [nv0,nvS,dvI,dvB,dvS,dvL,B5];by_cases hl:code.length<=1048576
 case neg=>rw [H7 (by omega:(1048576:Int)<code.length)]; rfl
 rw [H8 (by omega:¬(1048576:Int)<code.length)]
 obtain ⟨_,e0,a,b,ha,hb,hci,rfl⟩:=args25_ok hl;have e1:rn ⟨29,0,0⟩ [.sl code]=some (0,[.int a.t.k,.int a.t.n,.str a.t.s,.sl (b.d.st.map StM.row),.int b.t.k,.int b.t.n,.str b.t.s,.sl (a.d.so.map sRow),.sl (a.d.op.map OpM.row),.sl (a.d.ru.map RuM.row),.sl (a.d.st.map StM.row),.sl (a.v.map sRow),.sl (a.t.as.map Tm.row),.sl (a.c.map iRow),.sl (b.d.so.map sRow),.sl (b.d.op.map OpM.row),.sl (b.d.ru.map RuM.row),.sl (b.v.map sRow),.sl (b.t.as.map Tm.row),.sl (b.c.map iRow)]):=by
  rw [e29_0_0];simp only [e0,nv0,nvS,dvI,dvB,dvS,dvL,B5]
 have x1:=r30 a b ha hb;have x2:=r31 a b ha hb;have x3:=r30 a a ha ha;have x4:=r30 b a hb ha;obtain ⟨g1,g2,g3,⟨g4,g5⟩,g6,g7⟩:=cmpR_good ha hb hci;have sA:Small (cmpR a b).a:=small_of _ (by omega)
 have sB:Small (cmpR a b).b:=small_of _ (by omega)
 have x5:=r32 a b ha hb (cmpR a b).k (cmpR a b).c (cmpR a b).a sA (cmpR a b).b sB;have x6:=r12 (cmpR a b).a (cmpR a b).a sA;have x7:=r12 (cmpR a b).b (cmpR a b).b sB;have x8:=r12 (cmpR a b).a (cmpR a b).b sA;rw [eqb_refl] at x6 x7;have y1:=cmp_self a;have y2:=cmp_turn a b;have y3:ckR a b (cmpR a b).k (cmpR a b).c (cmpR a b).a (cmpR a b).b=!decide ((cmpR a b).k=0):=by
  unfold ckR; rw [eqb_refl,eqb_refl]; simp
 rw [y3] at x5;simp only [SyM.row,List.cons_append,List.nil_append,cmD] at x1 x2 x3 x4 x5;have hself:decide ((cmpR a a).k=1)=false:=H8 y1;have hnn:∀ p:Bool,(p==p)=true:=fun p=>by cases p <;> rfl
 simp only [H2,e1,nv0,nvS,dvI,dvB,dvS,dvL,B5,x1,x2,x3,x4,x5,x6,x7,H3,D8,H1,hself,hnn];by_cases hk:(cmpR a b).k=1
 · obtain ⟨p,hp1,hp2,hp3,hp4⟩:=cmp_diff hk
   have z1:=r33 a.v a.t (small_of _ ha.n) (a.c.map iRow) (cmpR a b).c;have hwi:=wt_instR ha.w (vars:=a.v) (cmpR a b).c;have hni:(S.instR a.v a.t (cmpR a b).c).nodes<=2097152:=by
    have:=S.instR_nodes (vars:=a.v) (t:=a.t) (cmpR a b).c;have:=ha.n;omega
   have z2:=r19 a.d ha.d (S.instR a.v a.t (cmpR a b).c) hwi hni 200;rw [hp2] at z2;simp only [rtD] at z2;rw [hp3] at x6 x8 hp4;have hx8:eqb p.t.row (cmpR a b).b.row=false:=eqb_tmF.2 hp4;rw [hx8] at x8;simp only [hk,H3,D8,H2,z1,z2,nv0,nvS,dvI,dvB,dvS,dvL,B5,hp3,x6,x8,H1,J4];cases decide ((cmpR b a).k=1) <;> rfl
 · have:=y2 hk
   simp only [this,H3,D8,H2,H8 hk,J4,H1]
theorem law6 {x0:List D} (h0:WL H x0 L22):rn ⟨6,0,0⟩ x0=some (0,[.bool true]):=by
 obtain ⟨a,rfl,_,_⟩:=wl22 h0;exact law6r a
end Go.Q.S
namespace Go.Q.S
open Go Go.Q Go.Proofs
theorem ki6:H.ki ⟨6,0,0⟩=some ⟨[(0,argSh ((H.ty 22).getD default))],[],[⟨.ret,[(0,.bool)],[]⟩]⟩:=by kernel_rfl
theorem plain6:plainB Tryz.prog H [5,22]=true:=by kernel_rfl
end Go.Q.S
namespace Go.Proofs.YtebncngjklhbfaaGreat.fnCompared
open Go Go.Q Go.Q.S
open Go.ChangeShapes Go.WideShapes Go.ChangeAt Go.RowKit
open Go.ChangeMaps (open_string shut_string)
theorem own:ownKnob Tryz.prog.godebug=none:=by kernel_rfl
theorem laid:laidOutB Tryz.prog=true:=by kernel_rfl
set_option maxRecDepth 100000 in
theorem lifted (os:Os) (started:os.Started) (H:Type) (enc:TypeId × Value->H) :
 ReturnsInHanded {} Tryz.checked os 6 .any (Rows.fnComparedSpec.pre6 enc Tryz.prog Tryz.f6 Rows.fnComparedRow.domain false) (Rows.fnComparedSpec.post enc Tryz.prog Tryz.f6 false true false false):=by
 refine returnsInHanded_of_change_sized (C:=Tryz.checked) own started (by kernel_rfl) Tryz.func6
  (ChangeSpec.witness6 (enc:=enc) (C:=Tryz.checked) false ⟨#[],#[.slice none 0 0],[]⟩ 8 (by kernel_rfl) (by kernel_rfl) (by kernel_rfl) (by kernel_rfl)) ?_
 intro W base args ds gs before hval0 hW hcnd hsz0 _;have hval:∀ (j:Nat) t v,Tryz.f6.params[j]?=some t->args[j]?=some v->Value.okWide Tryz.prog W .any base t v:=hval0;have hW':=hW;obtain ⟨p,q,hA0,hV,rfl,hfz,hnd⟩:=hW;have hA:DataW.TrodAll enc Tryz.prog W 0 (fun _=>true) true Tryz.f6.params.toList args.toList ds p:=hA0
 rw [Tryz.params6] at hA hval;obtain ⟨rfl,rfl⟩:=trodVars_none hV;have hB:=hA;obtain ⟨v0,d0,rfl,rfl,h0⟩:=trodAll_one hA;obtain ⟨dss,ha,hlen,hwl⟩:=args_data (H:=Go.Q.S.H) fits.ty plain6 _ _ _ _ hB (by decide) (fun j t v h h'=>hval j t v (by simpa using h) (by simpa using h'))
 obtain ⟨x0,rfl⟩:∃ x0,dss=[x0]:=by
  match dss,hlen with
  | [x0],_=>exact ⟨x0,rfl⟩
 obtain ⟨t0,e0,w0⟩:=hwl 0 _ _ rfl rfl;rw [ty22] at e0;obtain rfl:=Option.some.inj e0;refine (law_calls fits Tryz.func6 (by kernel_rfl) ki6 rfl rfl ha (b:=true) (by show rn _ _=_; simpa using law6 w0)).mono fun e W' ⟨he,bel⟩=>?_
 subst he;exact ⟨_,rfl,_,_,_,[],p,_,hW',trodAll_mk1 (shut_bool Tryz.underlying4 _),trodAll_below laid _ _ _ _ (read_of (by kernel_rfl)) hB bel (fun z hz=>hW'.lt z (by simp [hz])),rfl,bel.frame _,fun h=>by cases h⟩
theorem over:Rows.fnComparedRow.holds Tryz.pinned (OpenSpec.ofChange Rows.fnComparedSpec) :=
 OpenClaim.holds_of_wide 6 Tryz.f6 rfl rfl rfl rfl rfl rfl rfl ⟨rfl,rfl,rfl,rfl,rfl⟩ rfl rfl rfl rfl rfl named Tryz.func6 closed
  (of_decide_eq_true (by kernel_rfl)) (by unfold Func.isWrapper; first | (rw [H5 (by decide +kernel)]; kernel_rfl) | (rw [H6 (by decide +kernel)]; exact ⟨rfl,rfl⟩))
  (fun os started H enc _=>lifted os started H enc)
theorem proved:Rows.FnComparedSaid:=over
end Go.Proofs.YtebncngjklhbfaaGreat.fnCompared
namespace Go.Proofs.YtebncngjklhbfaaGreat
theorem fnCompared_holds:Rows.FnComparedSaid:=fnCompared.proved
end Go.Proofs.YtebncngjklhbfaaGreat
