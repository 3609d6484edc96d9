/- For all arguments the law FnRuns answers true and leaves its arguments as they were; no condition. -/
import Derived.Test.YtebncngjklhbfaaGreatPA
import Derived.Test.YtebncngjklhbfaaGreatPB
import Derived.Test.YtebncngjklhbfaaGreatfqE5
import Derived.Test.YtebncngjklhbfaaGreatRows
import Derived.WalkKit
import Derived.ProofKit
import Derived.OpenShut
import Derived.ShutString
import Derived.ChangeOld
import Derived.Below
import Derived.SizedLaws
set_option linter.unusedVariables false
set_option linter.unusedSimpArgs false
open Bool renaming not_true->D8
open Int renaming ofNat_lt->C0,natCast_zero->C7
open List renaming length_map->B6,drop_length->C8
open Option renaming bind_some->B5,some->C6
namespace Go.Q.S
open Go Go.Q Go.Proofs
def L5:List CT:=[.int .u8]
theorem ty5:H.ty 5=some ⟨false,L5,[]⟩:=by kernel_rfl
theorem wl5 {ds:List D} (h:WL H ds L5):∃ a0,ds=[D.int a0]:=by
 unfold L5 at h;obtain ⟨a0,_,rfl,_,h⟩:=wl_int h;obtain rfl:=wl_nil h;exact ⟨a0,rfl⟩
def L22:List CT:=[.sl 5]
theorem ty22:H.ty 22=some ⟨false,L22,[]⟩:=by kernel_rfl
theorem wl22 {ds:List D} (h:WL H ds L22):∃ a0,ds=[D.sl a0]/\a0.length<=maxLen/\WRs H a0 L5:=by
 unfold L22 at h;obtain ⟨a0,_,rfl,b0,c0,h⟩:=wl_sl ty5 h;obtain rfl:=wl_nil h;exact ⟨a0,rfl,b0,c0⟩
theorem big_ok (code:Rows):rn ⟨7,0,0⟩ [.sl code]=some (0,[.bool (decide ((1048576:Int)<code.length))]):=by rw [e7_0_0]
theorem args13_ok {code:Rows} (hl:code.length<=1048576):∃ d:DfM,∃ t:Tm,∃ f:Int,DfB d/\Wn 3000 t/\-1000<=f/\f<=1000/\rn ⟨42,0,0⟩ [.sl code]=some (0,[.int t.k,.int t.n,.str t.s,.int f,.sl (d.so.map sRow),.sl (d.op.map OpM.row),.sl (d.ru.map RuM.row),.sl (d.st.map StM.row),.sl (t.as.map Tm.row)]):=by
 obtain ⟨_,e1,d,t,hd,ht,rfl⟩:=args12_ok hl;obtain ⟨_,e2,i,h,rfl⟩:=new_ok hl;obtain ⟨_,e3,f,i',h',f0,f1,rfl⟩:=pickI_ok hl i h (l:=[[.int 200],[.int 50],[.int 10],[.int 3],[.int 1],[.int 0],[.int (-1)],[.int 201]]) (by decide) (by decide) (by decide)
 refine ⟨d,t,f,hd,ht,f0,f1,?_⟩;rw [e42_0_0];simp only [e1,e2,e3,nv0,nvS,dvI,dvB,dvS,dvL,B5]
theorem sintsR (a:List Int) (ha:a.length<=1048576):rn ⟨47,0,0⟩ [.sl (a.map iRow),.sl (a.map iRow)]=some (0,[.bool true]):=by
 have key:∀ n i,i+n=a.length->rn ⟨47,0,1⟩ [.sl (a.map iRow),.sl (a.map iRow),.int (i:Int)]=some (0,[]):=by
  intro n;induction n with
  | zero =>
   intro i hi;obtain rfl:i=a.length:=by omega
   rw [e47_0_1];simp only [B6,C0,Nat.lt_irrefl,H4,H2,C8]
  | succ n ih =>
   intro i hi;have hlt:i<a.length:=by omega
   rw [e47_0_1];simp only [B6,C0,hlt,H3,H1,inbN,Int.toNat_natCast,rowAt_map hlt,wrap_succ hlt (maxB (by omega)),iRow,nv0,nvS,dvI,dvB,dvS,dvL,B5,D8,H2,ih (i+1) (by omega)]
 have h:=key a.length 0 (Nat.zero_add _);simp only [C7] at h;rw [e47_0_0];simp only [H3,D8,H2,h,nv0,nvS,dvI,dvB,dvS,dvL,B5,Nat.beq_refl,H1,H2]
theorem sredR (l:List (Nat × List Int)) (hl:l.length<=1048576) (hp:∀ x∈l,x.2.length<=1048576):rn ⟨20,0,0⟩ [.sl (l.map rdRow),.sl (l.map rdRow)]=some (0,[.bool true]):=by
 have key:∀ n i,i+n=l.length->rn ⟨20,0,1⟩ [.sl (l.map rdRow),.sl (l.map rdRow),.int (i:Int)]=some (0,[]):=by
  intro n;induction n with
  | zero =>
   intro i hi;obtain rfl:i=l.length:=by omega
   rw [e20_0_1];simp only [B6,C0,Nat.lt_irrefl,H4,H2,C8]
  | succ n ih =>
   intro i hi;have hlt:i<l.length:=by omega
   have h1:=sintsR l[i].2 (hp _ (List.getElem_mem hlt));rw [e20_0_1];simp only [B6,C0,hlt,H3,H1,inbN,Int.toNat_natCast,rowAt_map hlt,wrap_succ hlt (maxB (by omega)),rdRow,nv0,nvS,dvI,dvB,dvS,dvL,B5,D8,H2,h1,ih (i+1) (by omega)]
 have h:=key l.length 0 (Nat.zero_add _);simp only [C7] at h;rw [e20_0_0];simp only [H3,D8,H2,h,nv0,nvS,dvI,dvB,dvS,dvL,B5,Nat.beq_refl,H1,H2]
theorem outI (a b:Int) (t:Tm) (ht:Small t):rn ⟨24,0,0⟩ [.int a,.int t.k,.int t.n,.str t.s,.sl (t.as.map Tm.row),.int b,.int a,.int t.k,.int t.n,.str t.s,.sl (t.as.map Tm.row),.int b]=some (0,[.bool true]):=by
 have h:=r56 t t ht;rw [eqb_refl] at h;rw [e24_0_0];simp only [H3,H1,h,nv0,nvS,dvI,dvB,dvS,dvL,B5]
theorem outS (a b:Int) (t:Tm) (ht:Small t):rn ⟨18,0,0⟩ [.int a,.int t.k,.int t.n,.str t.s,.sl (t.as.map Tm.row),.int b,.int a,.int t.k,.int t.n,.str t.s,.sl (t.as.map Tm.row),.int b]=some (0,[.bool true]):=by
 have h:=r12 t t ht;rw [eqb_refl] at h;rw [e18_0_0];simp only [H3,H1,h,nv0,nvS,dvI,dvB,dvS,dvL,B5]
theorem law4r (code:Rows):rn ⟨4,0,0⟩ [.sl code]=some (0,[.bool true]):=by
 rw [e4_0_0,big_ok];simp only [nv0,nvS,dvI,dvB,dvS,dvL,B5];by_cases hl:code.length<=1048576
 case neg=>rw [H7 (by omega:(1048576:Int)<code.length)]; rfl
 rw [H8 (by omega:¬(1048576:Int)<code.length)]
 obtain ⟨d,t,f,hd,ht,f0,f1,e0⟩:=args13_ok hl;have e1:rn ⟨15,0,0⟩ [.sl code]=some (0,[.int t.k,.int t.n,.str t.s,.int f,.sl (d.so.map sRow),.sl (d.op.map OpM.row),.sl (d.ru.map RuM.row),.sl (d.st.map StM.row),.sl (t.as.map Tm.row)]):=by
  rw [e15_0_0];simp only [e0,nv0,nvS,dvI,dvB,dvS,dvL,B5]
 have hn:t.nodes<=2097152:=by have:=ht.n; omega
 have x1:=r16 d hd t ht.w hn f;have x2:=r19 d hd t ht.w hn f;have x3:=r17 d hd t ht.w hn f;have x4:=r21 d hd t ht.w hn f;have x5:=r16 d hd t ht.w hn (f+1);have ew:IntKind.i64.wrap (f+1)=f+1:=IntWalk.i64_in _ (by omega)
 obtain ⟨g1,g2,g3,g4⟩:=rt_good hd ht.w f;obtain ⟨q1,q2⟩:=tr_good hd ht.w f;have sR:Small (rtT (runT d t f)):=small_of _ (by omega)
 have y1:=outS (rtO (runT d t f)) (rtN (runT d t f):Int) (rtT (runT d t f)) sR;have y2:=sredR (trL (runT d t f)) (by omega) (fun x hx=>by have:=(q2 x hx).2.1; omega)
 rw [rtD_eq] at x1 x2 x5;rw [trD_eq] at x3 x4;have eO:∀ r,rtO (some r)=r.o:=fun r=>id rfl
 have eT:∀ r,rtT (some r)=r.t:=fun r=>id rfl
 have eN:∀ r,rtN (some r)=r.rd.length:=fun r=>id rfl
 have eL:∀ r,trL (some r)=r.rd:=fun r=>id rfl
 simp only [H2,e1,nv0,nvS,dvI,dvB,dvS,dvL,B5,x1,x2,x3,x4,y1,y2,D8,ew,B6];cases hr:runT d t f with
 | none=>rfl
 | some r =>
  obtain ⟨hc,hr2⟩:(0<=f/\f<=200/\cfg d t=true)/\r=runF d f.toNat t:=by
   unfold runT at hr;split at hr
   · rename_i hc
     simp only [C6.injEq] at hr;exact ⟨hc,hr.symm⟩
   · simp at hr
  obtain ⟨g,_⟩:=runT_good hd ht.w hr;have sT:Small r.t:=small_of _ (by have:=g.tn; omega)
  have x6:=replayI d hd t ht.w hn r.rd (by have:=g.rl; omega) (fun x hx=>by have:=(g.rg x hx).2.1; omega)
  rw [H5 hc.2.2,hr2,rp_run,<- hr2] at x6;have x7:=r23 d hd t ht.w hn r.t f;have hreach:reachR (runT d t f) t r.t=true:=by
   rw [hr];simp only [reachR];rw [List.any_eq_true];exact ⟨r.t,by rw [hr2]; exact run_last _ _,eqb_refl _⟩
  rw [hreach] at x7;have x8:=r12 r.t r.t sT;rw [eqb_refl] at x8;have ho:¬ r.o=0:=by rcases g.o with e | e | e <;> omega
  simp only [rpD] at x6;simp only [eO,eT,eN,eL,H8 ho,H2,x6,nv0,nvS,dvI,dvB,dvS,dvL,B5,D8,x8,H3,x7];by_cases h200:f=200
  · simp only [H7 h200,H1]
  · simp only [H8 h200,H2]
    have hr3:runT d t (f+1)=some (runF d (f.toNat+1) t):=by
     unfold runT;rw [H5 ⟨by omega,by omega,hc.2.2⟩,show (f+1).toNat=f.toNat+1 by omega]
    rw [hr3] at x5;simp only [eO,eT,eN] at x5;simp only [x5,nv0,nvS,dvI,dvB,dvS,dvL,B5];obtain ⟨m1,m2⟩:=run_more (d:=d) f.toNat t;rw [<- hr2] at m1 m2;by_cases h2:r.o=2
    · obtain ⟨k1,k2,k3⟩:=m2 h2
      simp only [H7 h2,D8,H2];have e5:decide ((r.rd.length:Int)<=((runF d (f.toNat+1) t).rd.length:Int))=true:=H7 (by omega)
      simp only [e5,H1];rcases k3 with k3 | k3
      · simp only [H7 k3,H1]
      · by_cases h3:(runF d (f.toNat+1) t).o=3
        · simp only [H7 h3,H1]
        · simp only [H8 h3,H2]
          rw [H7 (by rw [k3]; omega)]
    · have z1:=outI r.o (r.rd.length:Int) r.t sT
      rw [m1 h2];simp only [H8 h2,Bool.not_false,H1,z1,nv0,nvS,dvI,dvB,dvS,dvL,B5]
theorem law4 {x0:List D} (h0:WL H x0 L22):rn ⟨4,0,0⟩ x0=some (0,[.bool true]):=by
 obtain ⟨a,rfl,_,_⟩:=wl22 h0;exact law4r a
end Go.Q.S
namespace Go.Q.S
open Go Go.Q Go.Proofs
theorem ki4:H.ki ⟨4,0,0⟩=some ⟨[(0,argSh ((H.ty 22).getD default))],[],[⟨.ret,[(0,.bool)],[]⟩]⟩:=by kernel_rfl
theorem plain4:plainB Tryz.prog H [5,22]=true:=by kernel_rfl
end Go.Q.S
namespace Go.Proofs.YtebncngjklhbfaaGreat.fnRuns
open Go Go.Q Go.Q.S
open Go.ChangeShapes Go.WideShapes Go.ChangeAt Go.RowKit
open Go.ChangeMaps (open_string shut_string)
theorem own:ownKnob Tryz.prog.godebug=none:=by kernel_rfl
theorem laid:laidOutB Tryz.prog=true:=by kernel_rfl
set_option maxRecDepth 100000 in
theorem lifted (os:Os) (started:os.Started) (H:Type) (enc:TypeId × Value->H) :
 ReturnsInHanded {} Tryz.checked os 4 .any (Rows.fnRunsSpec.pre6 enc Tryz.prog Tryz.f4 Rows.fnRunsRow.domain false) (Rows.fnRunsSpec.post enc Tryz.prog Tryz.f4 false true false false):=by
 refine returnsInHanded_of_change_sized (C:=Tryz.checked) own started (by kernel_rfl) Tryz.func4
  (ChangeSpec.witness6 (enc:=enc) (C:=Tryz.checked) false ⟨#[],#[.slice none 0 0],[]⟩ 8 (by kernel_rfl) (by kernel_rfl) (by kernel_rfl) (by kernel_rfl)) ?_
 intro W base args ds gs before hval0 hW hcnd hsz0 _;have hval:∀ (j:Nat) t v,Tryz.f4.params[j]?=some t->args[j]?=some v->Value.okWide Tryz.prog W .any base t v:=hval0;have hW':=hW;obtain ⟨p,q,hA0,hV,rfl,hfz,hnd⟩:=hW;have hA:DataW.TrodAll enc Tryz.prog W 0 (fun _=>true) true Tryz.f4.params.toList args.toList ds p:=hA0
 rw [Tryz.params4] at hA hval;obtain ⟨rfl,rfl⟩:=trodVars_none hV;have hB:=hA;obtain ⟨v0,d0,rfl,rfl,h0⟩:=trodAll_one hA;obtain ⟨dss,ha,hlen,hwl⟩:=args_data (H:=Go.Q.S.H) fits.ty plain4 _ _ _ _ hB (by decide) (fun j t v h h'=>hval j t v (by simpa using h) (by simpa using h'))
 obtain ⟨x0,rfl⟩:∃ x0,dss=[x0]:=by
  match dss,hlen with
  | [x0],_=>exact ⟨x0,rfl⟩
 obtain ⟨t0,e0,w0⟩:=hwl 0 _ _ rfl rfl;rw [ty22] at e0;obtain rfl:=C6.inj e0;refine (law_calls fits Tryz.func4 (by kernel_rfl) ki4 rfl rfl ha (b:=true) (by show rn _ _=_; simpa using law4 w0)).mono fun e W' ⟨he,bel⟩=>?_
 subst he;exact ⟨_,rfl,_,_,_,[],p,_,hW',trodAll_mk1 (shut_bool Tryz.underlying4 _),trodAll_below laid _ _ _ _ (read_of (by kernel_rfl)) hB bel (fun z hz=>hW'.lt z (by simp [hz])),rfl,bel.frame _,fun h=>by cases h⟩
theorem over:Rows.fnRunsRow.holds Tryz.pinned (OpenSpec.ofChange Rows.fnRunsSpec) :=
 OpenClaim.holds_of_wide 4 Tryz.f4 rfl rfl rfl rfl rfl rfl rfl ⟨rfl,rfl,rfl,rfl,rfl⟩ rfl rfl rfl rfl rfl named Tryz.func4 closed
  (of_decide_eq_true (by kernel_rfl)) (by unfold Func.isWrapper; first | (rw [H5 (by decide +kernel)]; kernel_rfl) | (rw [H6 (by decide +kernel)]; exact ⟨rfl,rfl⟩))
  (fun os started H enc _=>lifted os started H enc)
theorem proved:Rows.FnRunsSaid:=over
end Go.Proofs.YtebncngjklhbfaaGreat.fnRuns
namespace Go.Proofs.YtebncngjklhbfaaGreat
theorem fnRuns_holds:Rows.FnRunsSaid:=fnRuns.proved
end Go.Proofs.YtebncngjklhbfaaGreat
