/- For all arguments the law FnTests answers true and leaves its arguments as they were; no condition. -/
import Derived.Test.YtfhbgobhfjoppaaGreatPB
import Derived.Test.YtfhbgobhfjoppaaGreatfsE5
import Derived.Test.YtfhbgobhfjoppaaGreatRows
import Derived.WalkKit
import Derived.ProofKit
import Derived.OpenShut
import Derived.ShutString
import Derived.ChangeOld
import Derived.Below
import Derived.SizedLaws
set_option linter.unusedVariables false
set_option linter.unusedSimpArgs false
open Bool renaming not_true->D8
open Int renaming toNat_natCast->B8,ofNat_lt->C0,natCast_zero->C6,eq_ofNat_of_zero_le->P1
open List renaming length_map->B6,drop_eq_getElem_cons->B9,getElem_mem->C2,drop_length->C8,cons->P5
open Option renaming bind_some->B5
namespace Go.Q.S
open Go Go.Q Go.Proofs
def L5:List CT:=[.int .u8]
theorem ty5:H.ty 5=some ⟨false,L5,[]⟩:=by kernel_rfl
theorem wl5 {ds:List D} (h:WL H ds L5):∃ a0,ds=[D.int a0]:=by
 unfold L5 at h;obtain ⟨a0,_,rfl,_,h⟩:=wl_int h;obtain rfl:=wl_nil h;exact ⟨a0,rfl⟩
def L22:List CT:=[.sl 5]
theorem ty22:H.ty 22=some ⟨false,L22,[]⟩:=by kernel_rfl
theorem wl22 {ds:List D} (h:WL H ds L22):∃ a0,ds=[D.sl a0]/\a0.length<=maxLen/\WRs H a0 L5:=by
 unfold L22 at h;obtain ⟨a0,_,rfl,b0,c0,h⟩:=wl_sl ty5 h;obtain rfl:=wl_nil h;exact ⟨a0,rfl,b0,c0⟩
theorem big_ok (code:Rows):rn ⟨4,0,0⟩ [.sl code]=some (0,[.bool (decide ((1048576:Int)<code.length))]):=by rw [e4_0_0]
theorem args19_ok {code:Rows} (hl:code.length<=1048576):∃ s:SyM,SyB s/\rn ⟨32,0,0⟩ [.sl code]=some (0,[.int s.t.k,.int s.t.n,.str s.t.s,.sl (s.d.so.map sRow),.sl (s.d.op.map OpM.row),.sl (s.d.ru.map RuM.row),.sl (s.d.st.map StM.row),.sl (s.v.map sRow),.sl (s.t.as.map Tm.row),.sl (s.c.map iRow)]):=by
 obtain ⟨_,e1,i,h,rfl⟩:=new_ok hl;obtain ⟨_,e2,d,i,h,hd,rfl⟩:=ddef_ok hl i h;obtain ⟨_,e3,q,i,h,rfl⟩:=once_ok hl i h (n:=16) (by decide) (by decide)
 cases hq:q with
 | true =>
  obtain ⟨_,e4,e,i,h,he,rfl⟩:=dbent_ok hl i h;obtain ⟨_,e5,v,t,c,i,h,g1,g2,g3,g4,g5,rfl⟩:=dsbent_ok hl i h;refine ⟨⟨e,v,t,c⟩,⟨he,by show v.length<=_; omega,fun x hx=>by have:=g2 x hx; unfold maxLen; omega,g3.w,by have:=g3.n; show t.nodes<=_; omega,by show c.length<=_; omega⟩,?_⟩
  rw [e32_0_0];simp only [e1,e2,e3,hq,e4,e5,nv0,nvS,dvI,dvB,dvS,dvL,B5,H1]
 | false =>
  obtain ⟨_,e4,v,t,c,i,h,hs,rfl⟩:=dsym_ok hl i h;refine ⟨⟨d,v,t,c⟩,hs.b hd.b,?_⟩;rw [e32_0_0];simp only [e1,e2,e3,hq,e4,nv0,nvS,dvI,dvB,dvS,dvL,B5,H2]
theorem args20_ok {code:Rows} (hl:code.length<=1048576):∃ s:SyM,∃ f:Int,SyB s/\rn ⟨16,0,0⟩ [.sl code]=some (0,[.int s.t.k,.int s.t.n,.str s.t.s,.int f,.sl (s.d.so.map sRow),.sl (s.d.op.map OpM.row),.sl (s.d.ru.map RuM.row),.sl (s.d.st.map StM.row),.sl (s.v.map sRow),.sl (s.t.as.map Tm.row),.sl (s.c.map iRow)]):=by
 obtain ⟨s,hs,e1⟩:=args19_ok hl;obtain ⟨_,e2,i,h,rfl⟩:=new_ok hl;obtain ⟨_,e3,f,i',h',f0,f1,rfl⟩:=pickI_ok hl i h (l:=[[.int 12],[.int 6],[.int 3],[.int 1],[.int 0],[.int (-1)]]) (by decide) (by decide) (by decide)
 refine ⟨s,f,hs,?_⟩;rw [e16_0_0];simp only [e1,e2,e3,nv0,nvS,dvI,dvB,dvS,dvL,B5]
theorem sintsD (a b:List Int) (ha:a.length<=1048576):rn ⟨10,0,0⟩ [.sl (a.map iRow),.sl (b.map iRow)]=some (0,[.bool (decide (a=b))]):=by
 rw [e10_0_0];simp only [B6];by_cases hl:a.length=b.length
 case neg=>rw [H8 (by omega:¬(a.length:Int)=(b.length:Int)),H8 (fun e=>hl (by rw [e]))]; rfl
 rw [H7 (by omega:(a.length:Int)=(b.length:Int))]
 have key:∀ n i,i+n=a.length->(a.drop i=b.drop i/\rn ⟨10,0,1⟩ [.sl (a.map iRow),.sl (b.map iRow),.int (i:Int)]=some (0,[]))\/(a.drop i≠b.drop i/\rn ⟨10,0,1⟩ [.sl (a.map iRow),.sl (b.map iRow),.int (i:Int)]=some (1,[])):=by
  intro n;induction n with
  | zero =>
   intro i hi;obtain rfl:i=a.length:=by omega
   rw [e10_0_1];exact .inl ⟨by rw [C8,hl,C8],by simp only [B6,C0,Nat.lt_irrefl,H4,H2,C8]⟩
  | succ n ih =>
   intro i hi;have h1:i<a.length:=by omega
   have h2:i<b.length:=by omega
   rw [e10_0_1,B9 h1,B9 h2];simp only [B6,C0,h1,H3,H1,inbN,B8,rowAt_map h1,wrap_succ h1 (maxB (by omega)),h2,rowAt_map h2,iRow,nv0,nvS,dvI,dvB,dvS,dvL,B5]
   by_cases e:a[i]=b[i]
   · simp only [H7 e,D8,H2]
     rcases ih (i+1) (by omega) with ⟨q1,q2⟩|⟨q1,q2⟩
     · exact .inl ⟨by rw [e,q1],q2⟩
     · exact .inr ⟨fun h=>q1 (by simp only [P5.injEq] at h; exact h.2),q2⟩
   · simp only [H8 e,Bool.not_false,H1]
     exact .inr ⟨fun h=>e (by simp only [P5.injEq] at h; exact h.1),trivial⟩
 have h:=key a.length 0 (Nat.zero_add _);simp only [List.drop_zero,C6] at h;rcases h with ⟨q1,q2⟩|⟨q1,q2⟩
 · simp only [D8,H2,q2,nv0,nvS,dvI,dvB,dvS,dvL,B5,Nat.beq_refl,H1,H2]; rw [H7 q1]
 · simp only [D8,H2,q2,nv0,nvS,dvI,dvB,dvS,dvL,B5,Nat.beq_refl,H1,H2]; rw [H8 q1]; rfl
theorem sameT (a:List Int) (ha:a.length<=1048576) (t u:Tm) (ht:Small t) (hu:Small u) (n:Int):rn ⟨8,0,0⟩ [.sl (a.map iRow),.int t.k,.int t.n,.str t.s,.sl (t.as.map Tm.row),.int u.k,.int u.n,.str u.s,.sl (u.as.map Tm.row),.int n,.sl (a.map iRow),.int t.k,.int t.n,.str t.s,.sl (t.as.map Tm.row),.int u.k,.int u.n,.str u.s,.sl (u.as.map Tm.row),.int n]=some (0,[.bool true]):=by
 have h1:=sintsD a a ha;have h2:=r21 t t ht;have h3:=r21 u u hu;rw [eqb_refl] at h2 h3;simp only [H3] at h1;rw [e8_0_0];simp only [h1,h2,h3,nv0,nvS,dvI,dvB,dvS,dvL,B5,H1,H3]
theorem dpass_ok {code:Rows} (hl:code.length<=1048576):∃ d:DfM,∃ a:Rows,∃ t g:Tm,∃ n:Int,DfB d/\Wt t/\t.nodes<=2097152/\rn ⟨14,0,0⟩ [.sl code]=some (0,[.int t.k,.int t.n,.str t.s,.int g.k,.int g.n,.str g.s,.int n,.sl (d.so.map sRow),.sl (d.op.map OpM.row),.sl (d.ru.map RuM.row),.sl (d.st.map StM.row),.sl a,.sl (t.as.map Tm.row),.sl (g.as.map Tm.row)]):=by
 obtain ⟨s,f,hs,e1⟩:=args20_ok hl;obtain ⟨_,e2,i,h,rfl⟩:=new_ok hl;have e3:=r7 s hs f;have hlen:=(teR_good hs f).1;generalize hL:teR s f=L at e3 hlen;by_cases h0:L.length=0
 · obtain ⟨_,e4,t,i,h,ht,rfl⟩:=dconf_ok hl i h
   refine ⟨s.d,[],t,tm0,0,hs.d,ht.w,by have:=ht.n; omega,?_⟩
   rw [e14_0_0];simp only [e1,e2,e3,nv0,nvS,dvI,dvB,dvS,dvL,B5,B6,H7 (show (L.length:Int)=0 by omega),H1,e4]
   rfl
 · obtain ⟨_,e4,b,i,h,b0,b1,rfl⟩:=below_ok hl i h (n:=(L.length:Int)) (by omega) (by omega)
   obtain ⟨m,rfl⟩:=P1 b0;have hm:m<L.length:=by omega
   obtain ⟨_,e5,q,i,h,rfl⟩:=once_ok hl i h (n:=4) (by decide) (by decide)
   have hbl:Nat.blt m L.length=true:=Nat.ble_eq_true_of_le hm;have hnI:=S.instR_nodes (vars:=s.v) (t:=s.t) L[m].2;have hsn:=hs.n;refine ⟨s.d,(vals s.v.length L[m].2).map iRow,S.instR s.v s.t L[m].2,S.instR s.v L[m].1.t L[m].2,if q=true then IntKind.i64.wrap ((L[m].1.st.length:Int)+1) else (L[m].1.st.length:Int),hs.d,wt_instR hs.w _,by omega,?_⟩
   rw [e14_0_0];simp only [e1,e2,e3,nv0,nvS,dvI,dvB,dvS,dvL,B5,B6,H8 (show ¬(L.length:Int)=0 by omega),H2,e4,inbN,hm,H3,H1,B8,rowAt_map hm,teRow,Bool.true_and,hbl,e5]
   cases q <;> rfl
theorem dtest_ok {code:Rows} (hl:code.length<=1048576):∃ v:List ByteArray,∃ p:PtM,Small p.t/\rn ⟨11,0,0⟩ [.sl code]=some (0,PtM.row v p):=by
 obtain ⟨s,f,hs,e1⟩:=args20_ok hl;obtain ⟨_,e2,i,h,rfl⟩:=new_ok hl;have e3:=r19 s hs f;obtain ⟨hlen,hok⟩:=ptR_good hs f;have e4:ptD s.v (ptR s f)=[.bool (ptR s f).isSome,.sl (((ptR s f).getD []).map (PtM.row s.v))]:=by cases ptR s f <;> rfl
 rw [e4] at e3;generalize (ptR s f).getD []=L at e3 hlen hok;by_cases h0:L.length=0
 · obtain ⟨_,e5,b,i,h,b0,b1,rfl⟩:=below_ok hl i h (n:=5) (by decide) (by decide)
   obtain ⟨_,e6,v,t,c,i,h,g1,g2,g3,g4,g5,rfl⟩:=dsbent_ok hl i h;refine ⟨v,⟨b,[],t,c⟩,g3.small (by decide),?_⟩
   rw [e11_0_0];simp only [e1,e2,e3,nv0,nvS,dvI,dvB,dvS,dvL,B5,B6,H7 (show (L.length:Int)=0 by omega),H1,e5,e6]
   rfl
 · obtain ⟨_,e5,b,i,h,b0,b1,rfl⟩:=below_ok hl i h (n:=(L.length:Int)) (by omega) (by omega)
   obtain ⟨m,rfl⟩:=P1 b0;have hm:m<L.length:=by omega
   refine ⟨s.v,L[m],small_of _ (by have:=(hok _ (C2 hm)).n; omega),?_⟩
   rw [e11_0_0];simp only [e1,e2,e3,nv0,nvS,dvI,dvB,dvS,dvL,B5,B6,H8 (show ¬(L.length:Int)=0 by omega),H2,e5,inbN,hm,H3,H1,B8,rowAt_map hm,PtM.row]
theorem law3r (code:Rows):rn ⟨3,0,0⟩ [.sl code]=some (0,[.bool true]):=by
 rw [e3_0_0,big_ok];simp only [nv0,nvS,dvI,dvB,dvS,dvL,B5];by_cases hl:code.length<=1048576
 case neg=>rw [H7 (by omega:(1048576:Int)<code.length)]; rfl
 rw [H8 (by omega:¬(1048576:Int)<code.length)]
 obtain ⟨s,f,hs,e0⟩:=args20_ok hl;have e1:rn ⟨5,0,0⟩ [.sl code]=some (0,[.int s.t.k,.int s.t.n,.str s.t.s,.int f,.sl (s.d.so.map sRow),.sl (s.d.op.map OpM.row),.sl (s.d.ru.map RuM.row),.sl (s.d.st.map StM.row),.sl (s.v.map sRow),.sl (s.t.as.map Tm.row),.sl (s.c.map iRow)]):=by
  rw [e5_0_0];simp only [e0,nv0,nvS,dvI,dvB,dvS,dvL,B5]
 have x1:=r6 s hs f;have x2:=r7 s hs f;obtain ⟨hlen,hgd⟩:=teR_good hs f;have hnd:=teR_nodup s f;have hrun:=fun x (hx:x∈teR s f)=>te_run hs hx
 have hmem:=fun x (hx:x∈teR s f)=>te_mem hx
 generalize teR s f=L at x1 x2 hlen hgd hnd hrun hmem;have hsn:=hs.n;have key:∀ n i,i+n=L.length->rn ⟨3,0,1⟩ [.sl code,.int (i:Int),.sl (L.map (teRow s.v s.t)),.sl (L.map (teRow s.v s.t)),.sl (s.d.so.map sRow),.sl (s.d.op.map OpM.row),.sl (s.d.ru.map RuM.row),.sl (s.d.st.map StM.row)]=some (0,[.sl code]):=by
  intro n;induction n with
  | zero =>
   intro i hi;obtain rfl:i=L.length:=by omega
   rw [e3_0_1];simp only [B6,C0,Nat.lt_irrefl,H4,H2,C8]
  | succ n ih =>
   intro i hi;have hlt:i<L.length:=by omega
   have hx:=C2 hlt;obtain ⟨g1,g2,g3⟩:=hgd _ hx;have hv:=vals_len s.v.length L[i].2;have hvv:=hs.v;have hnI:=S.instR_nodes (vars:=s.v) (t:=s.t) L[i].2;have hnJ:=S.instR_nodes (vars:=s.v) (t:=L[i].1.t) L[i].2;have y1:=sameT (vals s.v.length L[i].2) (by omega) (S.instR s.v s.t L[i].2) (S.instR s.v L[i].1.t L[i].2) (small_of _ (by omega)) (small_of _ (by omega)) (L[i].1.st.length:Int)
   have y2:=r9 s.d hs.d ((vals s.v.length L[i].2).map iRow) (S.instR s.v s.t L[i].2) (wt_instR hs.w _) (by omega) (S.instR s.v L[i].1.t L[i].2) (L[i].1.st.length:Int)
   have hp:passR s.d (S.instR s.v s.t L[i].2) (S.instR s.v L[i].1.t L[i].2) (L[i].1.st.length:Int)=true:=by
    obtain ⟨r,r1,r2,r3,r4⟩:=hrun _ hx;unfold passR;rw [r1];simp only [r2,r3,r4,eqb_refl,H3,Bool.and_self]
   rw [hp] at y2;have y3:=ih (i+1) (by omega)
   rw [e3_0_1];simp only [B6,C0,hlt,H3,H1,inbN,B8,rowAt_map hlt,wrap_succ hlt (maxB (by omega)),teRow,nv0,nvS,dvI,dvB,dvS,dvL,B5,y1,D8,H2,y2]
   by_cases h0:0<i
   · obtain ⟨j,rfl⟩:∃ j,i=j+1:=⟨i-1,by omega⟩
     have hj:j<L.length:=by omega
     have ew:IntKind.i64.wrap (((j+1:Nat):Int)-1)=(j:Int):=by rw [IntWalk.i64_in _ (by omega)]; omega
     have hne:vals s.v.length L[j+1].2≠vals s.v.length L[j].2:=fun e=>by
      have c1:=(teO_sm (hmem _ hx).2.2.2.2).2.2;have c2:=(teO_sm (hmem _ (C2 hj)).2.2.2.2).2.2;have e2:=vals_inj c1 c2 e;have hp:=List.pairwise_iff_getElem.1 hnd j (j+1) (by simpa using hj) (by simpa using hlt) (by omega)
      simp only [List.getElem_map] at hp;exact hp e2.symm
     have y4:=sintsD (vals s.v.length L[j+1].2) (vals s.v.length L[j].2) (by omega)
     rw [H8 hne] at y4;rw [H7 (show (0:Int)<((j+1:Nat):Int) by omega)]
     simp only [H1,ew,inbN,hj,H3,B8,rowAt_map hj,teRow,nv0,nvS,dvI,dvB,dvS,dvL,B5,y4,H2,y3]
   · rw [H8 (show ¬(0:Int)<(i:Int) by omega)]
     simp only [H2,y3]
 have k0:=key L.length 0 (Nat.zero_add _);simp only [C6] at k0;obtain ⟨v,p,hp,e2⟩:=dtest_ok hl;obtain ⟨d,a,t,g,n,hd,ht,hn,e3⟩:=dpass_ok hl;have z1:=r12 v p hp;have z2:=r13 v p hp;have z3:=r9 d hd a t ht hn g n;have z4:=r15 d hd a t ht hn g n;have hnn:∀ p:Bool,(p==p)=true:=fun p=>by cases p <;> rfl
 simp only [PtM.row] at e2;simp only [H2,e1,nv0,nvS,dvI,dvB,dvS,dvL,B5,x1,x2,B6,H3,D8,k0,Nat.beq_refl,H1,H2,e2,z1,z2,e3];unfold teD;cases hq:teO v p with
 | none =>
  have s1:=sameT [] (by simp) tm0 tm0 (small_of _ (by decide)) (small_of _ (by decide)) 0
  have s2:rn ⟨8,0,0⟩ [.sl [],.int 0,.int 0,.str ⟨#[]⟩,.sl [],.int 0,.int 0,.str ⟨#[]⟩,.sl [],.int 0,.sl [],.int 0,.int 0,.str ⟨#[]⟩,.sl [],.int 0,.int 0,.str ⟨#[]⟩,.sl [],.int 0]=some (0,[.bool true]):=s1;simp only [nv0,nvS,dvI,dvB,dvS,dvL,B5,hnn,H1,s2,z3,z4]
 | some c =>
  obtain ⟨_,_,hcC⟩:=teO_sm hq;have hv:=vals_len v.length c;have hv3:=vals_eq_len hcC;have hlv:(vals v.length c).length<=1048576:=by
   have h:=hcC;simp only [isC,Bool.and_eq_true,decide_eq_true_eq] at h;by_cases q:v.length<=3
   · omega
   · unfold cnt4 at h; rw [H6 q] at h; omega
  have s1:=sameT (vals v.length c) hlv tm0 (S.instR v p.t c) (small_of _ (by decide)) (S.instR_small hp c) (p.st.length:Int)
  have s2:rn ⟨8,0,0⟩ [.sl ((vals v.length c).map iRow),.int 0,.int 0,.str ⟨#[]⟩,.sl [],.int (S.instR v p.t c).k,.int (S.instR v p.t c).n,.str (S.instR v p.t c).s,.sl ((S.instR v p.t c).as.map Tm.row),.int (p.st.length:Int),.sl ((vals v.length c).map iRow),.int 0,.int 0,.str ⟨#[]⟩,.sl [],.int (S.instR v p.t c).k,.int (S.instR v p.t c).n,.str (S.instR v p.t c).s,.sl ((S.instR v p.t c).as.map Tm.row),.int (p.st.length:Int)]=some (0,[.bool true]):=s1;simp only [nv0,nvS,dvI,dvB,dvS,dvL,B5,hnn,H1,s2,z3,z4]
theorem law3 {x0:List D} (h0:WL H x0 L22):rn ⟨3,0,0⟩ x0=some (0,[.bool true]):=by
 obtain ⟨a,rfl,_,_⟩:=wl22 h0;exact law3r a
end Go.Q.S
namespace Go.Q.S
open Go Go.Q Go.Proofs
theorem ki3:H.ki ⟨3,0,0⟩=some ⟨[(0,argSh ((H.ty 22).getD default))],[],[⟨.ret,[(0,.bool)],[]⟩]⟩:=by kernel_rfl
theorem plain3:plainB Tryz.prog H [5,22]=true:=by kernel_rfl
end Go.Q.S
namespace Go.Proofs.YtfhbgobhfjoppaaGreat.fnTests
open Go Go.Q Go.Q.S
open Go.ChangeShapes Go.WideShapes Go.ChangeAt Go.RowKit
open Go.ChangeMaps (open_string shut_string)
theorem own:ownKnob Tryz.prog.godebug=none:=by kernel_rfl
theorem laid:laidOutB Tryz.prog=true:=by kernel_rfl
set_option maxRecDepth 100000 in
theorem lifted (os:Os) (started:os.Started) (H:Type) (enc:TypeId × Value->H) :
 ReturnsInHanded {} Tryz.checked os 3 .any (Rows.fnTestsSpec.pre6 enc Tryz.prog Tryz.f3 Rows.fnTestsRow.domain false) (Rows.fnTestsSpec.post enc Tryz.prog Tryz.f3 false true false false):=by
 refine returnsInHanded_of_change_sized (C:=Tryz.checked) own started (by kernel_rfl) Tryz.func3
  (ChangeSpec.witness6 (enc:=enc) (C:=Tryz.checked) false ⟨#[],#[.slice none 0 0],[]⟩ 8 (by kernel_rfl) (by kernel_rfl) (by kernel_rfl) (by kernel_rfl)) ?_
 intro W base args ds gs before hval0 hW hcnd hsz0 _;have hval:∀ (j:Nat) t v,Tryz.f3.params[j]?=some t->args[j]?=some v->Value.okWide Tryz.prog W .any base t v:=hval0;have hW':=hW;obtain ⟨p,q,hA0,hV,rfl,hfz,hnd⟩:=hW;have hA:DataW.TrodAll enc Tryz.prog W 0 (fun _=>true) true Tryz.f3.params.toList args.toList ds p:=hA0
 rw [Tryz.params3] at hA hval;obtain ⟨rfl,rfl⟩:=trodVars_none hV;have hB:=hA;obtain ⟨v0,d0,rfl,rfl,h0⟩:=trodAll_one hA;obtain ⟨dss,ha,hlen,hwl⟩:=args_data (H:=Go.Q.S.H) fits.ty plain3 _ _ _ _ hB (by decide) (fun j t v h h'=>hval j t v (by simpa using h) (by simpa using h'))
 obtain ⟨x0,rfl⟩:∃ x0,dss=[x0]:=by
  match dss,hlen with
  | [x0],_=>exact ⟨x0,rfl⟩
 obtain ⟨t0,e0,w0⟩:=hwl 0 _ _ rfl rfl;rw [ty22] at e0;obtain rfl:=Option.some.inj e0;refine (law_calls fits Tryz.func3 (by kernel_rfl) ki3 rfl rfl ha (b:=true) (by show rn _ _=_; simpa using law3 w0)).mono fun e W' ⟨he,bel⟩=>?_
 subst he;exact ⟨_,rfl,_,_,_,[],p,_,hW',trodAll_mk1 (shut_bool Tryz.underlying4 _),trodAll_below laid _ _ _ _ (read_of (by kernel_rfl)) hB bel (fun z hz=>hW'.lt z (by simp [hz])),rfl,bel.frame _,fun h=>by cases h⟩
theorem over:Rows.fnTestsRow.holds Tryz.pinned (OpenSpec.ofChange Rows.fnTestsSpec) :=
 OpenClaim.holds_of_wide 3 Tryz.f3 rfl rfl rfl rfl rfl rfl rfl ⟨rfl,rfl,rfl,rfl,rfl⟩ rfl rfl rfl rfl rfl named Tryz.func3 closed
  (of_decide_eq_true (by kernel_rfl)) (by unfold Func.isWrapper; first | (rw [H5 (by decide +kernel)]; kernel_rfl) | (rw [H6 (by decide +kernel)]; exact ⟨rfl,rfl⟩))
  (fun os started H enc _=>lifted os started H enc)
theorem proved:Rows.FnTestsSaid:=over
end Go.Proofs.YtfhbgobhfjoppaaGreat.fnTests
namespace Go.Proofs.YtfhbgobhfjoppaaGreat
theorem fnTests_holds:Rows.FnTestsSaid:=fnTests.proved
end Go.Proofs.YtfhbgobhfjoppaaGreat
