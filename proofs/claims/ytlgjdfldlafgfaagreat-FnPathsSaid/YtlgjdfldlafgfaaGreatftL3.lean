/- For all arguments the law FnPaths answers true and leaves its arguments as they were; no condition. -/
import Derived.Test.YtlgjdfldlafgfaaGreatPB
import Derived.Test.YtlgjdfldlafgfaaGreatftE5
import Derived.Test.YtlgjdfldlafgfaaGreatRows
import Derived.WalkKit
import Derived.ProofKit
import Derived.OpenShut
import Derived.ShutString
import Derived.ChangeOld
import Derived.Below
import Derived.SizedLaws
set_option linter.unusedVariables false
set_option linter.unusedSimpArgs false
open Bool renaming not_true->D8,not_false->K0
open Int renaming toNat_natCast->B8,ofNat_lt->C0,natCast_zero->C3,tmod->N6
open List renaming length_map->B6,getElem_mem->C2,length_nil->C7,drop_length->C8,drop_zero->D1
open Nat renaming zero_add->D2,lt_irrefl->D5,beq_refl->E1
open Option renaming bind_some->B5
namespace Go.Q.S
open Go Go.Q Go.Proofs
def L5:List CT:=[.int .u8]
theorem ty5:H.ty 5=some ⟨false,L5,[]⟩:=by kernel_rfl
theorem wl5 {ds:List D} (h:WL H ds L5):∃ a0,ds=[D.int a0]:=by
 unfold L5 at h;obtain ⟨a0,_,rfl,_,h⟩:=wl_int h;obtain rfl:=wl_nil h;exact ⟨a0,rfl⟩
def L22:List CT:=[.sl 5]
theorem ty22:H.ty 22=some ⟨false,L22,[]⟩:=by kernel_rfl
theorem wl22 {ds:List D} (h:WL H ds L22):∃ a0,ds=[D.sl a0]/\a0.length<=maxLen/\WRs H a0 L5:=by
 unfold L22 at h;obtain ⟨a0,_,rfl,b0,c0,h⟩:=wl_sl ty5 h;obtain rfl:=wl_nil h;exact ⟨a0,rfl,b0,c0⟩
theorem big_ok (code:Rows):rn ⟨4,0,0⟩ [.sl code]=some (0,[.bool (decide ((1048576:Int)<code.length))]):=by rw [e4_0_0]
theorem args19_ok {code:Rows} (hl:code.length<=1048576):∃ s:SyM,SyB s/\rn ⟨27,0,0⟩ [.sl code]=some (0,[.int s.t.k,.int s.t.n,.str s.t.s,.sl (s.d.so.map sRow),.sl (s.d.op.map OpM.row),.sl (s.d.ru.map RuM.row),.sl (s.d.st.map StM.row),.sl (s.v.map sRow),.sl (s.t.as.map Tm.row),.sl (s.c.map iRow)]):=by
 obtain ⟨_,e1,i,h,rfl⟩:=new_ok hl;obtain ⟨_,e2,d,i,h,hd,rfl⟩:=ddef_ok hl i h;obtain ⟨_,e3,q,i,h,rfl⟩:=once_ok hl i h (n:=16) (by decide) (by decide)
 cases hq:q with
 | true =>
  obtain ⟨_,e4,e,i,h,he,rfl⟩:=dbent_ok hl i h;obtain ⟨_,e5,v,t,c,i,h,g1,g2,g3,g4,g5,rfl⟩:=dsbent_ok hl i h;refine ⟨⟨e,v,t,c⟩,⟨he,by show v.length<=_; omega,fun x hx=>by have:=g2 x hx; unfold maxLen; omega,g3.w,by have:=g3.n; show t.nodes<=_; omega,by show c.length<=_; omega⟩,?_⟩
  rw [e27_0_0];simp only [e1,e2,e3,hq,e4,e5,nv0,nvS,dvI,dvB,dvS,dvL,B5,H1]
 | false =>
  obtain ⟨_,e4,v,t,c,i,h,hs,rfl⟩:=dsym_ok hl i h;refine ⟨⟨d,v,t,c⟩,hs.b hd.b,?_⟩;rw [e27_0_0];simp only [e1,e2,e3,hq,e4,nv0,nvS,dvI,dvB,dvS,dvL,B5,H2]
theorem args20_ok {code:Rows} (hl:code.length<=1048576):∃ s:SyM,∃ f:Int,SyB s/\rn ⟨15,0,0⟩ [.sl code]=some (0,[.int s.t.k,.int s.t.n,.str s.t.s,.int f,.sl (s.d.so.map sRow),.sl (s.d.op.map OpM.row),.sl (s.d.ru.map RuM.row),.sl (s.d.st.map StM.row),.sl (s.v.map sRow),.sl (s.t.as.map Tm.row),.sl (s.c.map iRow)]):=by
 obtain ⟨s,hs,e1⟩:=args19_ok hl;obtain ⟨_,e2,i,h,rfl⟩:=new_ok hl;obtain ⟨_,e3,f,i',h',f0,f1,rfl⟩:=pickI_ok hl i h (l:=[[.int 12],[.int 6],[.int 3],[.int 1],[.int 0],[.int (-1)]]) (by decide) (by decide) (by decide)
 refine ⟨s,f,hs,?_⟩;rw [e15_0_0];simp only [e1,e2,e3,nv0,nvS,dvI,dvB,dvS,dvL,B5]
theorem sintsR (a:List Int) (ha:a.length<=1048576):rn ⟨24,0,0⟩ [.sl (a.map iRow),.sl (a.map iRow)]=some (0,[.bool true]):=by
 have key:∀ n i,i+n=a.length->rn ⟨24,0,1⟩ [.sl (a.map iRow),.sl (a.map iRow),.int (i:Int)]=some (0,[]):=by
  intro n;induction n with
  | zero =>
   intro i hi;obtain rfl:i=a.length:=by omega
   rw [e24_0_1];simp only [B6,C0,D5,H4,H2,C8]
  | succ n ih =>
   intro i hi;have hlt:i<a.length:=by omega
   rw [e24_0_1];simp only [B6,C0,hlt,H3,H1,inbN,B8,rowAt_map hlt,wrap_succ hlt (maxB (by omega)),iRow,nv0,nvS,dvI,dvB,dvS,dvL,B5,D8,H2,ih (i+1) (by omega)]
 have h:=key a.length 0 (D2 _);simp only [C3] at h;rw [e24_0_0];simp only [H3,D8,H2,h,nv0,nvS,dvI,dvB,dvS,dvL,B5,E1,H1,H2]
theorem sredR (l:List (Nat × List Int)) (hl:l.length<=1048576) (hp:∀ x∈l,x.2.length<=1048576):rn ⟨11,0,0⟩ [.sl (l.map rdRow),.sl (l.map rdRow)]=some (0,[.bool true]):=by
 have key:∀ n i,i+n=l.length->rn ⟨11,0,1⟩ [.sl (l.map rdRow),.sl (l.map rdRow),.int (i:Int)]=some (0,[]):=by
  intro n;induction n with
  | zero =>
   intro i hi;obtain rfl:i=l.length:=by omega
   rw [e11_0_1];simp only [B6,C0,D5,H4,H2,C8]
  | succ n ih =>
   intro i hi;have hlt:i<l.length:=by omega
   have h1:=sintsR l[i].2 (hp _ (C2 hlt));rw [e11_0_1];simp only [B6,C0,hlt,H3,H1,inbN,B8,rowAt_map hlt,wrap_succ hlt (maxB (by omega)),rdRow,nv0,nvS,dvI,dvB,dvS,dvL,B5,D8,H2,h1,ih (i+1) (by omega)]
 have h:=key l.length 0 (D2 _);simp only [C3] at h;rw [e11_0_0];simp only [H3,D8,H2,h,nv0,nvS,dvI,dvB,dvS,dvL,B5,E1,H1,H2]
theorem sintsQ (a:List Int) (ha:a.length<=1048576):rn ⟨53,0,0⟩ [.sl (a.map iRow),.sl (a.map iRow)]=some (0,[.bool true]):=by
 have key:∀ n i,i+n=a.length->rn ⟨53,0,1⟩ [.sl (a.map iRow),.sl (a.map iRow),.int (i:Int)]=some (0,[]):=by
  intro n;induction n with
  | zero =>
   intro i hi;obtain rfl:i=a.length:=by omega
   rw [e53_0_1];simp only [B6,C0,D5,H4,H2,C8]
  | succ n ih =>
   intro i hi;have hlt:i<a.length:=by omega
   rw [e53_0_1];simp only [B6,C0,hlt,H3,H1,inbN,B8,rowAt_map hlt,wrap_succ hlt (maxB (by omega)),iRow,nv0,nvS,dvI,dvB,dvS,dvL,B5,H3,D8,H2,ih (i+1) (by omega)]
 have h:=key a.length 0 (D2 _);simp only [C3] at h;rw [e53_0_0];simp only [H3,D8,H2,h,nv0,nvS,dvI,dvB,dvS,dvL,B5,E1,H1,H2]
theorem esymR (v:List ByteArray) (t:Tm) (c:List Int) (hv:v.length<=1048576) (ht:Small t) (hc:c.length<=1048576):rn ⟨21,0,0⟩ [.sl (v.map sRow),.int t.k,.int t.n,.str t.s,.sl (t.as.map Tm.row),.sl (c.map iRow),.sl (v.map sRow),.int t.k,.int t.n,.str t.s,.sl (t.as.map Tm.row),.sl (c.map iRow)]=some (0,[.bool true]):=by
 have h1:=r52 v v hv;have h2:=r13 t t ht;have h3:=sintsQ c hc;have h0:eqLs v v=true:=by unfold eqLs; exact H7 rfl
 rw [eqb_refl] at h2;rw [h0] at h1;rw [e21_0_0];simp only [h1,h2,h3,nv0,nvS,dvI,dvB,dvS,dvL,B5,H1]
theorem spathR (v:List ByteArray) (l:List PtM) (hl:l.length<=1048576) (hv:v.length<=1048576) (hp:∀ p∈l,Small p.t/\p.c.length<=1048576/\p.st.length<=1048576/\∀ x∈p.st,x.2.length<=1048576):rn ⟨8,0,0⟩ [.sl (l.map (PtM.row v)),.sl (l.map (PtM.row v))]=some (0,[.bool true]):=by
 have key:∀ n i,i+n=l.length->rn ⟨8,0,1⟩ [.sl (l.map (PtM.row v)),.sl (l.map (PtM.row v)),.int (i:Int)]=some (0,[]):=by
  intro n;induction n with
  | zero =>
   intro i hi;obtain rfl:i=l.length:=by omega
   rw [e8_0_1];simp only [B6,C0,D5,H4,H2,C8]
  | succ n ih =>
   intro i hi;have hlt:i<l.length:=by omega
   obtain ⟨g1,g2,g3,g4⟩:=hp _ (C2 hlt);have h1:=sredR l[i].st g3 g4;have h2:=esymR v l[i].t l[i].c hv g1 g2;rw [e8_0_1];simp only [B6,C0,hlt,H3,H1,inbN,B8,rowAt_map hlt,wrap_succ hlt (maxB (by omega)),PtM.row,nv0,nvS,dvI,dvB,dvS,dvL,B5,H3,D8,H2,h1,h2,ih (i+1) (by omega)]
 have h:=key l.length 0 (D2 _);simp only [C3] at h;rw [e8_0_0];simp only [H3,D8,H2,h,nv0,nvS,dvI,dvB,dvS,dvL,B5,E1,H1,H2]
theorem at0_ok {code:Rows} (hl:code.length<=1048576) (hb:∀ r∈code,∃ n:Int,r=[.int n]/\0<=n/\n<256) (k:Nat) (hk:k<=1048576):∃ n:Nat,rn ⟨9,0,0⟩ [.sl code,.int (k:Int)]=some (0,[.int (n:Int)]):=by
 rw [e9_0_0];by_cases h:k<code.length
 · obtain ⟨n,e,n0,n1⟩:=hb _ (C2 h)
   obtain ⟨m,rfl⟩:=Int.eq_ofNat_of_zero_le n0;have ew:IntKind.i64.wrap (m:Int)=(m:Int):=IntWalk.i64_in _ (by omega)
   have er:rowAt code k=[.int (m:Int)]:=(rowAt_eq h).trans e;refine ⟨m,?_⟩;simp only [C0,h,H3,H1,inbN,B8,er,nv0,nvS,dvI,dvB,dvS,dvL,B5,ew]
 · refine ⟨(k*7+code.length) % 256,?_⟩
   have ew:IntKind.i64.wrap ((k:Int)*7)=((k*7:Nat):Int):=by rw [IntWalk.i64_in _ (by omega)]; omega
   have ew2:IntKind.i64.wrap (((k*7:Nat):Int)+(code.length:Int))=((k*7+code.length:Nat):Int):=by rw [IntWalk.i64_in _ (by omega)]; omega
   have ew3:N6 ((k*7+code.length:Nat):Int) 256=(((k*7+code.length) % 256:Nat):Int):=(Int.ofNat_tmod _ 256).symm;simp only [C0,h,H4,H2,nv0,nvS,dvI,dvB,dvS,dvL,B5,ew,ew2,ew3];rfl
theorem law3r (code:Rows) (hb:∀ r∈code,∃ n:Int,r=[.int n]/\0<=n/\n<256):rn ⟨3,0,0⟩ [.sl code]=some (0,[.bool true]):=by
 rw [e3_0_0,big_ok];simp only [nv0,nvS,dvI,dvB,dvS,dvL,B5];by_cases hl:code.length<=1048576
 case neg=>rw [H7 (by omega:(1048576:Int)<code.length)]; rfl
 rw [H8 (by omega:¬(1048576:Int)<code.length)]
 obtain ⟨s,f,hs,e0⟩:=args20_ok hl;have e1:rn ⟨5,0,0⟩ [.sl code]=some (0,[.int s.t.k,.int s.t.n,.str s.t.s,.int f,.sl (s.d.so.map sRow),.sl (s.d.op.map OpM.row),.sl (s.d.ru.map RuM.row),.sl (s.d.st.map StM.row),.sl (s.v.map sRow),.sl (s.t.as.map Tm.row),.sl (s.c.map iRow)]):=by
  rw [e5_0_0];simp only [e0,nv0,nvS,dvI,dvB,dvS,dvL,B5]
 have x1:=r6 s hs f;have x2:=r7 s hs f;cases hq:ptR s f with
 | none =>
  rw [hq] at x1 x2;have x3:=spathR s.v [] (by simp) hs.v (by simp)
  simp only [ptD,List.map_nil] at x1 x2 x3;have hz:∀ b:Bool,rn ⟨3,0,1⟩ [.sl code,.bool b,.int 0,.int 0,.int s.t.k,.int s.t.n,.str s.t.s,.sl [],.sl (s.d.so.map sRow),.sl (s.d.op.map OpM.row),.sl (s.d.ru.map RuM.row),.sl (s.d.st.map StM.row),.sl (s.v.map sRow),.sl (s.t.as.map Tm.row),.sl (s.c.map iRow)]=some (0,[.bool b,.int 0,.int s.t.k,.int s.t.n,.str s.t.s,.sl (s.v.map sRow),.sl (s.t.as.map Tm.row),.sl (s.c.map iRow)]):=fun b=>by
   rw [e3_0_1];simp only [C7,C3,Int.lt_irrefl,H4,H2]
  simp only [H2,e1,nv0,nvS,dvI,dvB,dvS,dvL,B5,x1,x2,x3,hz,E1,H1,H2];rfl
 | some l =>
  obtain ⟨hpm,hall⟩:=ptR_run hs hq;obtain ⟨hlen,hok⟩:=ptR_good hs f;rw [hq] at x1 x2 hlen hok;simp only [Option.getD_some] at hlen hok;simp only [ptD] at x1 x2;have hsum:(l.flatMap (·.c)).length=s.c.length:=hpm.length_eq
  have hsc:=hs.c;have hsn:=hs.n;have hcl:∀ p∈l,p.c.length<=s.c.length:=fun p hp=>by
   rw [<- hsum];exact (List.sublist_flatten_of_mem (List.mem_map_of_mem hp)).length_le
  have hrd:∀ p∈l,∀ x∈p.st,x.2.length<=1048576:=fun p hp x hx=>by have:=(hall p hp).ps x hx; omega
  have x3:=spathR s.v l (by omega) hs.v (fun p hp=>⟨small_of _ (by have:=(hok p hp).n; omega),by have:=hcl p hp; omega,by have:=(hok p hp).l; omega,hrd p hp⟩)
  have key:∀ n i m,i+n=l.length->m+((l.drop i).flatMap (·.c)).length<=1048576->rn ⟨3,0,1⟩ [.sl code,.bool true,.int (m:Int),.int (i:Int),.int s.t.k,.int s.t.n,.str s.t.s,.sl (l.map (PtM.row s.v)),.sl (s.d.so.map sRow),.sl (s.d.op.map OpM.row),.sl (s.d.ru.map RuM.row),.sl (s.d.st.map StM.row),.sl (s.v.map sRow),.sl (s.t.as.map Tm.row),.sl (s.c.map iRow)]=some (0,[.bool true,.int ((m+((l.drop i).flatMap (·.c)).length:Nat):Int),.int s.t.k,.int s.t.n,.str s.t.s,.sl (s.v.map sRow),.sl (s.t.as.map Tm.row),.sl (s.c.map iRow)]):=by
   intro n;induction n with
   | zero =>
    intro i m hi hm;obtain rfl:i=l.length:=by omega
    rw [e3_0_1];simp only [B6,C0,D5,H4,H2,C8,List.flatMap_nil,C7,Nat.add_zero]
   | succ n ih =>
    intro i m hi hm;have hlt:i<l.length:=by omega
    have hx:=C2 hlt;have hg:=hall _ hx;have hk:=hok _ hx;rw [List.drop_eq_getElem_cons hlt,List.flatMap_cons,List.length_append] at hm ⊢;obtain ⟨b,hb0⟩:=at0_ok hl hb i (by omega)
    have hpos:0<l[i].c.length:=List.length_pos_iff.2 hg.ne;have hj:b % l[i].c.length<l[i].c.length:=Nat.mod_lt _ hpos;have ej:N6 (b:Int) (l[i].c.length:Int)=((b % l[i].c.length:Nat):Int):=(Int.ofNat_tmod _ _).symm;have hc:=C2 hj;generalize hcc:l[i].c[b % l[i].c.length]=c at hc;have y1:=r10 s.v s.t (small_of _ (by omega)) (s.c.map iRow) c
    have y2:=r10 s.v l[i].t (small_of _ (by have:=hk.n; omega)) (l[i].c.map iRow) c
    have hnI:=S.instR_nodes (vars:=s.v) (t:=s.t) c;have y3:=r12 s.d hs.d (S.instR s.v s.t c) (wt_instR hs.w _) (by omega) (l[i].st.length:Int)
    have y4:=r14 s.d hs.d (S.instR s.v s.t c) (wt_instR hs.w _) (by omega) 200
    have y5:=sredR l[i].st (by have:=hk.l; omega) (hrd _ hx)
    have hnJ:=S.instR_nodes (vars:=s.v) (t:=l[i].t) c;have hkn:=hk.n;have y6:=r13 (S.instR s.v l[i].t c) (S.instR s.v l[i].t c) (small_of _ (by omega))
    rw [eqb_refl] at y6;have ew:IntKind.i64.wrap ((m:Int)+(l[i].c.length:Int))=((m+l[i].c.length:Nat):Int):=by rw [IntWalk.i64_in _ (by omega)]; omega
    have y7:=ih (i+1) (m+l[i].c.length) (by omega) (by omega)
    rw [Nat.add_assoc] at y7;have h0:¬((l[i].c.length:Int)=0):=by omega
    rw [e3_0_1];simp only [B6,C0,hlt,H3,H1,inbN,B8,rowAt_map hlt,wrap_succ hlt (maxB (by omega)),PtM.row,nv0,nvS,dvI,dvB,dvS,dvL,B5,H8 h0,H2,hb0,K0,ej,hj,rowAt_map hj,iRow,hcc,y1]
    by_cases h3:l[i].k=3
    · have h1:¬ l[i].k=1:=by omega
      simp only [H7 h3,D8,H2,y2,nv0,nvS,dvI,dvB,dvS,dvL,B5,H8 h1,ew,y7]
    · obtain ⟨r,r1,r2⟩:=hg.tr h3 c hc
      rw [r1] at y3;simp only [trD,r2] at y3;simp only [H8 h3,K0,H1,y3,nv0,nvS,dvI,dvB,dvS,dvL,B5,y5,D8,H2,y2];by_cases h1:l[i].k=1
      · obtain ⟨r',q1,q2⟩:=hg.en h1 c hc
        rw [q1] at y4;simp only [rtD,q2] at y4;simp only [H7 h1,H1,y4,nv0,nvS,dvI,dvB,dvS,dvL,B5,y6,D8,H2,ew,y7]
      · simp only [H8 h1,H2,ew,y7]
  have k0:=key l.length 0 0 (D2 _) (by rw [D1,hsum]; omega)
  simp only [D1,D2,C3,hsum] at k0;simp only [H2,e1,nv0,nvS,dvI,dvB,dvS,dvL,B5,x1,x2,x3,k0,E1,H1,H2,D8,B6,H3];rfl
theorem wrsB:∀ {l:Rows},WRs H l L5->∀ r∈l,∃ n:Int,r=[.int n]/\0<=n/\n<256
 | [],_,r,hr=>by simp at hr
 | x::l,h,r,hr=>by
  obtain ⟨h1,h2⟩:=h;rcases List.mem_cons.1 hr with rfl | hr
  · unfold L5 at h1
    obtain ⟨n,_,rfl,hn,h3⟩:=wl_int h1;obtain rfl:=wl_nil h3;simp only [Lit.wf,Bool.and_eq_true,decide_eq_true_eq] at hn;have k1:IntKind.u8.min=0:=by decide
    have k2:IntKind.u8.max=255:=by decide
    rw [k1,k2] at hn;exact ⟨n,rfl,hn.1,by omega⟩
  · exact wrsB h2 r hr
theorem law3 {x0:List D} (h0:WL H x0 L22):rn ⟨3,0,0⟩ x0=some (0,[.bool true]):=by
 obtain ⟨a,rfl,_,hw⟩:=wl22 h0;exact law3r a (wrsB hw)
end Go.Q.S
namespace Go.Q.S
open Go Go.Q Go.Proofs
theorem ki3:H.ki ⟨3,0,0⟩=some ⟨[(0,argSh ((H.ty 22).getD default))],[],[⟨.ret,[(0,.bool)],[]⟩]⟩:=by kernel_rfl
theorem plain3:plainB Tryz.prog H [5,22]=true:=by kernel_rfl
end Go.Q.S
namespace Go.Proofs.YtlgjdfldlafgfaaGreat.fnPaths
open Go Go.Q Go.Q.S
open Go.ChangeShapes Go.WideShapes Go.ChangeAt Go.RowKit
open Go.ChangeMaps (open_string shut_string)
theorem own:ownKnob Tryz.prog.godebug=none:=by kernel_rfl
theorem laid:laidOutB Tryz.prog=true:=by kernel_rfl
set_option maxRecDepth 100000 in
theorem lifted (os:Os) (started:os.Started) (H:Type) (enc:TypeId × Value->H) :
 ReturnsInHanded {} Tryz.checked os 3 .any (Rows.fnPathsSpec.pre6 enc Tryz.prog Tryz.f3 Rows.fnPathsRow.domain false) (Rows.fnPathsSpec.post enc Tryz.prog Tryz.f3 false true false false):=by
 refine returnsInHanded_of_change_sized (C:=Tryz.checked) own started (by kernel_rfl) Tryz.func3
  (ChangeSpec.witness6 (enc:=enc) (C:=Tryz.checked) false ⟨#[],#[.slice none 0 0],[]⟩ 8 (by kernel_rfl) (by kernel_rfl) (by kernel_rfl) (by kernel_rfl)) ?_
 intro W base args ds gs before hval0 hW hcnd hsz0 _;have hval:∀ (j:Nat) t v,Tryz.f3.params[j]?=some t->args[j]?=some v->Value.okWide Tryz.prog W .any base t v:=hval0;have hW':=hW;obtain ⟨p,q,hA0,hV,rfl,hfz,hnd⟩:=hW;have hA:DataW.TrodAll enc Tryz.prog W 0 (fun _=>true) true Tryz.f3.params.toList args.toList ds p:=hA0
 rw [Tryz.params3] at hA hval;obtain ⟨rfl,rfl⟩:=trodVars_none hV;have hB:=hA;obtain ⟨v0,d0,rfl,rfl,h0⟩:=trodAll_one hA;obtain ⟨dss,ha,hlen,hwl⟩:=args_data (H:=Go.Q.S.H) fits.ty plain3 _ _ _ _ hB (by decide) (fun j t v h h'=>hval j t v (by simpa using h) (by simpa using h'))
 obtain ⟨x0,rfl⟩:∃ x0,dss=[x0]:=by
  match dss,hlen with
  | [x0],_=>exact ⟨x0,rfl⟩
 obtain ⟨t0,e0,w0⟩:=hwl 0 _ _ rfl rfl;rw [ty22] at e0;obtain rfl:=Option.some.inj e0;refine (law_calls fits Tryz.func3 (by kernel_rfl) ki3 rfl rfl ha (b:=true) (by show rn _ _=_; simpa using law3 w0)).mono fun e W' ⟨he,bel⟩=>?_
 subst he;exact ⟨_,rfl,_,_,_,[],p,_,hW',trodAll_mk1 (shut_bool Tryz.underlying4 _),trodAll_below laid _ _ _ _ (read_of (by kernel_rfl)) hB bel (fun z hz=>hW'.lt z (by simp [hz])),rfl,bel.frame _,fun h=>by cases h⟩
theorem over:Rows.fnPathsRow.holds Tryz.pinned (OpenSpec.ofChange Rows.fnPathsSpec) :=
 OpenClaim.holds_of_wide 3 Tryz.f3 rfl rfl rfl rfl rfl rfl rfl ⟨rfl,rfl,rfl,rfl,rfl⟩ rfl rfl rfl rfl rfl named Tryz.func3 closed
  (of_decide_eq_true (by kernel_rfl)) (by unfold Func.isWrapper; first | (rw [H5 (by decide +kernel)]; kernel_rfl) | (rw [H6 (by decide +kernel)]; exact ⟨rfl,rfl⟩))
  (fun os started H enc _=>lifted os started H enc)
theorem proved:Rows.FnPathsSaid:=over
end Go.Proofs.YtlgjdfldlafgfaaGreat.fnPaths
namespace Go.Proofs.YtlgjdfldlafgfaaGreat
theorem fnPaths_holds:Rows.FnPathsSaid:=fnPaths.proved
end Go.Proofs.YtlgjdfldlafgfaaGreat
