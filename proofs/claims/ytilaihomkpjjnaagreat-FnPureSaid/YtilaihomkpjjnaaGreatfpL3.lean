/- For all arguments the law FnPure answers true and leaves its arguments as they were; no condition. -/
import Derived.Test.YtilaihomkpjjnaaGreatPB
import Derived.Test.YtilaihomkpjjnaaGreatfpE5
import Derived.Test.YtilaihomkpjjnaaGreatRows
import Derived.WalkKit
import Derived.ProofKit
import Derived.OpenShut
import Derived.ShutString
import Derived.ChangeOld
import Derived.Below
import Derived.SizedLaws
set_option linter.unusedVariables false
set_option linter.unusedSimpArgs false
open Bool renaming not_true->E1
open Int renaming toNat_natCast->B8,ofNat_lt->C0,natCast_zero->C6
open List renaming length_map->B6,getElem_mem->C3,drop_length->C8,nil_append->D9,cons_append->F5
open Nat renaming zero_add->D4,beq_refl->E2
open Option renaming bind_some->B5
namespace Go.Q.S
open Go Go.Q Go.Proofs
def L5:List CT:=[.int .u8]
theorem ty5:H.ty 5=some ⟨false,L5,[]⟩:=by kernel_rfl
theorem wl5 {ds:List D} (h:WL H ds L5):∃ a0,ds=[D.int a0]:=by
 unfold L5 at h;obtain ⟨a0,_,rfl,_,h⟩:=Uk h;obtain rfl:=Pd h;exact ⟨a0,rfl⟩
def L22:List CT:=[.sl 5]
theorem Xh:H.ty 22=some ⟨false,L22,[]⟩:=by kernel_rfl
theorem Xi {ds:List D} (h:WL H ds L22):∃ a0,ds=[D.sl a0]/\a0.length<=maxLen/\WRs H a0 L5:=by
 unfold L22 at h;obtain ⟨a0,_,rfl,b0,c0,h⟩:=Vw ty5 h;obtain rfl:=Pd h;exact ⟨a0,rfl,b0,c0⟩
theorem Vp (code:aa):rn ⟨4,0,0⟩ [.sl code]=some (0,[.bool (decide ((1048576:Int)<code.length))]):=by rw [e4_0_0]
theorem Ni {code:aa} (hl:code.length<=1048576):∃ d:DfM,∃ t:Tm,∃ f:Int,DfB d/\Wn 3000 t/\-1000<=f/\f<=1000/\rn ⟨13,0,0⟩ [.sl code]=some (0,[.int t.k,.int t.n,.str t.s,.int f,.sl (d.so.map ai),.sl (d.op.map OpM.row),.sl (d.ru.map RuM.row),.sl (d.st.map StM.row),.sl (t.as.map Tm.row)]):=by
 obtain ⟨_,e1,d,t,hd,ht,rfl⟩:=Nf hl;obtain ⟨_,e2,i,h,rfl⟩:=Jm hl;obtain ⟨_,e3,f,i',h',f0,f1,rfl⟩:=zp hl i h (l:=[[.int 200],[.int 50],[.int 10],[.int 3],[.int 1],[.int 0],[.int (-1)],[.int 201]]) (by decide) (by decide) (by decide)
 refine ⟨d,t,f,hd,ht,f0,f1,?_⟩;rw [e13_0_0];simp only [e1,e2,e3,nv0,nvS,dvI,dvB,dvS,dvL,B5]
theorem Nj {code:aa} (hl:code.length<=1048576):∃ s:SyM,SyB s/\(∀ x∈s.c,S.i64ok x)/\rn ⟨18,0,0⟩ [.sl code]=some (0,[.int s.t.k,.int s.t.n,.str s.t.s,.sl (s.d.so.map ai),.sl (s.d.op.map OpM.row),.sl (s.d.ru.map RuM.row),.sl (s.d.st.map StM.row),.sl (s.v.map ai),.sl (s.t.as.map Tm.row),.sl (s.c.map am)]):=by
 obtain ⟨_,e1,i,h,rfl⟩:=Jm hl;obtain ⟨_,e2,d,i,h,hd,rfl⟩:=Eh hl i h;obtain ⟨_,e3,q,i,h,rfl⟩:=bv hl i h (n:=16) (by decide) (by decide)
 cases hq:q with
 | true =>
  obtain ⟨_,e4,e,i,h,he,rfl⟩:=Hv hl i h;obtain ⟨_,e5,v,t,c,i,h,g1,g2,g3,g4,g5,rfl⟩:=Nh hl i h;refine ⟨⟨e,v,t,c⟩,⟨he,by show v.length<=_; omega,fun x hx=>by have:=g2 x hx; unfold maxLen; omega,g3.w,by have:=g3.n; show t.nodes<=_; omega,by show c.length<=_; omega⟩,g5,?_⟩
  rw [e18_0_0];simp only [e1,e2,e3,hq,e4,e5,nv0,nvS,dvI,dvB,dvS,dvL,B5,H1]
 | false =>
  obtain ⟨_,e4,v,t,c,i,h,hs,rfl⟩:=Ll hl i h;refine ⟨⟨d,v,t,c⟩,hs.b hd.b,hs.ci,?_⟩;rw [e18_0_0];simp only [e1,e2,e3,hq,e4,nv0,nvS,dvI,dvB,dvS,dvL,B5,H2]
theorem Vq (a:List Int) (ha:a.length<=1048576):rn ⟨27,0,0⟩ [.sl (a.map am),.sl (a.map am)]=some (0,[.bool true]):=by
 have key:∀ n i,i+n=a.length->rn ⟨27,0,1⟩ [.sl (a.map am),.sl (a.map am),.int (i:Int)]=some (0,[]):=by
  intro n;induction n with
  | zero =>
   intro i hi;obtain rfl:i=a.length:=by omega
   rw [e27_0_1];simp only [B6,C0,Nat.lt_irrefl,H4,H2,C8]
  | succ n ih =>
   intro i hi;have hlt:i<a.length:=by omega
   rw [e27_0_1];simp only [B6,C0,hlt,H3,H1,ax,B8,ab hlt,af hlt (bg (by omega)),am,nv0,nvS,dvI,dvB,dvS,dvL,B5,H3,E1,H2,ih (i+1) (by omega)]
 have h:=key a.length 0 (D4 _);simp only [C6] at h;rw [e27_0_0];simp only [H3,E1,H2,h,nv0,nvS,dvI,dvB,dvS,dvL,B5,E2,H1,H2]
theorem Ws (v:List ByteArray) (t:Tm) (c:List Int) (hv:v.length<=1048576) (ht:bb t) (hc:c.length<=1048576):rn ⟨12,0,0⟩ [.sl (v.map ai),.int t.k,.int t.n,.str t.s,.sl (t.as.map Tm.row),.sl (c.map am),.sl (v.map ai),.int t.k,.int t.n,.str t.s,.sl (t.as.map Tm.row),.sl (c.map am)]=some (0,[.bool true]):=by
 have h1:=r26 v v hv;have h2:=r17 t t ht;have h3:=Vq c hc;have h0:Qc v v=true:=by unfold Qc; exact H7 rfl
 rw [yl] at h2;rw [h0] at h1;rw [e12_0_0];simp only [h1,h2,h3,nv0,nvS,dvI,dvB,dvS,dvL,B5,H1]
theorem Wu (code:aa) (d:DfM) (t:Tm) (xs rs:aa) (f:Int) (a b c e:Int) (s:ByteArray) (a' b' c' e':Int) (s':ByteArray):∀ (n k:Nat) (R:aa),k+n=R.length->R.length<=1048576->rn ⟨3,0,1⟩ [.sl code,.int f,.int (k:Int),.int t.k,.int t.n,.str t.s,.int a,.int b,.int c,.str s,.int e,.int a',.int b',.int c',.str s',.int e',.sl (d.so.map ai),.sl (d.op.map OpM.row),.sl (d.ru.map RuM.row),.sl (d.st.map StM.row),.sl xs,.sl rs,.sl R]=some (0,[.sl code,.int f,.int t.k,.int t.n,.str t.s,.int a,.int b,.int c,.str s,.int e,.sl (d.so.map ai),.sl (d.op.map OpM.row),.sl (d.ru.map RuM.row),.sl (d.st.map StM.row),.sl xs,.sl rs]):=by
 intro n;induction n with
 | zero =>
  intro k R hk hR;rw [e3_0_1,H8 (by omega:¬(k:Int)<(R.length:Int))]
  rfl
 | succ n ih =>
  intro k R hk hR;have hlt:k<R.length:=by omega
  have hw:IntKind.i64.wrap ((k:Int)+1)=((k+1:Nat):Int):=by rw [IntWalk.i64_in _ (by omega)]; omega
  rw [e3_0_1,H7 (by omega:(k:Int)<(R.length:Int))]
  simp only [H1,ax,hlt,H3,B8,hw];exact ih (k+1) _ (by rw [pk hlt]; omega) (by rw [pk hlt]; omega)
theorem Wv (s:SyM) (i:Nat):∀ (n k:Nat) (R:aa),i<R.length->(rowAt R i).length=9->k+n=((nth (rowAt R i) 3).L).length->((nth (rowAt R i) 3).L).length<=1048576->∃ R',RwI R R'/\rn ⟨3,0,5⟩ ([.int (i:Int),.int (k:Int),.int s.t.k,.int s.t.n,.str s.t.s,.sl R]++[.sl (s.d.so.map ai),.sl (s.d.op.map OpM.row),.sl (s.d.ru.map RuM.row),.sl (s.d.st.map StM.row),.sl (s.v.map ai),.sl (s.t.as.map Tm.row),.sl (s.c.map am)])=some (0,[.int (i:Int),.int s.t.k,.int s.t.n,.str s.t.s,.sl R',.sl (s.d.so.map ai),.sl (s.d.op.map OpM.row),.sl (s.d.ru.map RuM.row),.sl (s.d.st.map StM.row),.sl (s.v.map ai),.sl (s.t.as.map Tm.row),.sl (s.c.map am)]):=by
 intro n;simp only [F5,D9];induction n with
 | zero =>
  intro k R hi h9 hk hB;refine ⟨R,RwI.refl R,?_⟩;rw [e3_0_5];simp only [ax,hi,H3,H1,B8];rw [H8 (by omega:¬(k:Int)<(((nth (rowAt R i) 3).L).length:Int))]
  rfl
 | succ n ih =>
  intro k R hi h9 hk hB;have hlt:k<((nth (rowAt R i) 3).L).length:=by omega
  have hw:IntKind.i64.wrap ((k:Int)+1)=((k+1:Nat):Int):=by rw [IntWalk.i64_in _ (by omega)]; omega
  have hX:∀ x,RwI R (over i [over 3 [.sl (over k [x] ((nth (rowAt R i) 3).L))] (rowAt R i)] R):=fun x=>RwI.set hi (We h9 (pk hlt))
  rw [e3_0_5];simp only [ax,hi,H3,H1,B8];rw [H7 (by omega:(k:Int)<(((nth (rowAt R i) 3).L).length:Int))]
  simp only [H1,ax,hi,hlt,H3,B8,hw];have hY:=hX (over 0 [.str (⟨#[99,104,97,110,103,101,100]⟩:ByteArray)] (rowAt ((nth (rowAt R i) 3).L) k));have he:=hY.e i;have hl:=hY.l;generalize over i [over 3 [.sl (over k [over 0 [.str (⟨#[99,104,97,110,103,101,100]⟩:ByteArray)] (rowAt ((nth (rowAt R i) 3).L) k)] ((nth (rowAt R i) 3).L))] (rowAt R i)] R=R2 at hY he hl ⊢;simp only [uz,Prod.mk.injEq] at he;obtain ⟨R',g1,g2⟩:=ih (k+1) R2 (by omega) (by omega) (by omega) (by omega)
  exact ⟨R',hY.trans g1,g2⟩
theorem Ww (s:SyM) (i:Nat):∀ (n k:Nat) (R:aa),i<R.length->(rowAt R i).length=9->k+n=((nth (rowAt R i) 8).L).length->((nth (rowAt R i) 8).L).length<=1048576->∃ R',RwI R R'/\rn ⟨3,0,7⟩ ([.int (i:Int),.int (k:Int),.int s.t.k,.int s.t.n,.str s.t.s,.sl R]++[.sl (s.d.so.map ai),.sl (s.d.op.map OpM.row),.sl (s.d.ru.map RuM.row),.sl (s.d.st.map StM.row),.sl (s.v.map ai),.sl (s.t.as.map Tm.row),.sl (s.c.map am)])=some (0,[.int (i:Int),.int s.t.k,.int s.t.n,.str s.t.s,.sl R',.sl (s.d.so.map ai),.sl (s.d.op.map OpM.row),.sl (s.d.ru.map RuM.row),.sl (s.d.st.map StM.row),.sl (s.v.map ai),.sl (s.t.as.map Tm.row),.sl (s.c.map am)]):=by
 intro n;simp only [F5,D9];induction n with
 | zero =>
  intro k R hi h9 hk hB;refine ⟨R,RwI.refl R,?_⟩;rw [e3_0_7];simp only [ax,hi,H3,H1,B8];rw [H8 (by omega:¬(k:Int)<(((nth (rowAt R i) 8).L).length:Int))]
  rfl
 | succ n ih =>
  intro k R hi h9 hk hB;have hlt:k<((nth (rowAt R i) 8).L).length:=by omega
  have hw:IntKind.i64.wrap ((k:Int)+1)=((k+1:Nat):Int):=by rw [IntWalk.i64_in _ (by omega)]; omega
  have hX:∀ x,RwI R (over i [over 8 [.sl (over k [x] ((nth (rowAt R i) 8).L))] (rowAt R i)] R):=fun x=>RwI.set hi (Wf h9 (pk hlt))
  rw [e3_0_7];simp only [ax,hi,H3,H1,B8];rw [H7 (by omega:(k:Int)<(((nth (rowAt R i) 8).L).length:Int))]
  simp only [H1,ax,hi,hlt,H3,B8,hw];have hY:=hX (over 0 [.int (-1)] (rowAt ((nth (rowAt R i) 8).L) k));have he:=hY.e i;have hl:=hY.l;generalize over i [over 8 [.sl (over k [over 0 [.int (-1)] (rowAt ((nth (rowAt R i) 8).L) k)] ((nth (rowAt R i) 8).L))] (rowAt R i)] R=R2 at hY he hl ⊢;simp only [uz,Prod.mk.injEq] at he;obtain ⟨R',g1,g2⟩:=ih (k+1) R2 (by omega) (by omega) (by omega) (by omega)
  exact ⟨R',hY.trans g1,g2⟩
structure RwB (R:aa):Prop where
 l:R.length<=1048576
 b:∀ j,j<R.length->(rowAt R j).length=9/\((nth (rowAt R j) 3).L).length<=1048576/\((nth (rowAt R j) 8).L).length<=1048576
theorem RwB.of {R R':aa} (h:RwB R) (k:RwI R R'):RwB R':=⟨by rw [k.l]; exact h.l,fun j hj=>by
 have e:=k.e j;simp only [uz,Prod.mk.injEq] at e;rw [e.2.2,e.1,e.2.1];exact h.b j (by rw [<- k.l]; exact hj)⟩
theorem Wx (s:SyM):∀ (n i:Nat) (R:aa),i+n=R.length->RwB R->rn ⟨3,0,3⟩ ([.int (i:Int),.int s.t.k,.int s.t.n,.str s.t.s,.sl R]++[.sl (s.d.so.map ai),.sl (s.d.op.map OpM.row),.sl (s.d.ru.map RuM.row),.sl (s.d.st.map StM.row),.sl (s.v.map ai),.sl (s.t.as.map Tm.row),.sl (s.c.map am)])=some (0,[.int s.t.k,.int s.t.n,.str s.t.s,.sl (s.d.so.map ai),.sl (s.d.op.map OpM.row),.sl (s.d.ru.map RuM.row),.sl (s.d.st.map StM.row),.sl (s.v.map ai),.sl (s.t.as.map Tm.row),.sl (s.c.map am)]):=by
 intro n;simp only [F5,D9];induction n with
 | zero =>
  intro i R hi hB;rw [e3_0_3,H8 (by omega:¬(i:Int)<(R.length:Int))]
  rfl
 | succ n ih =>
  intro i R hi hB;have hlt:i<R.length:=by omega
  have hl:=hB.l;have hw:IntKind.i64.wrap ((i:Int)+1)=((i+1:Nat):Int):=by rw [IntWalk.i64_in _ (by omega)]; omega
  obtain ⟨b1,b2,b3⟩:=hB.b i hlt;obtain ⟨R1,g1,g2⟩:=Wv s i _ 0 R hlt b1 (D4 _) b2;have hB1:=hB.of g1;have hl1:=g1.l;obtain ⟨c1,c2,c3⟩:=hB1.b i (by omega)
  obtain ⟨R2,g3,g4⟩:=Ww s i _ 0 R1 (by omega) c1 (D4 _) c3
  have hB2:=hB1.of g3;have hl2:=g3.l;simp only [C6,F5,D9] at g2 g4;rw [e3_0_3,H7 (by omega:(i:Int)<(R.length:Int))]
  simp only [H1,g2,nv0,nvS,dvI,dvB,dvS,dvL,B5,E2,H1,H2,g4,hw];exact ih (i+1) R2 (by omega) hB2
theorem law3r (code:aa):rn ⟨3,0,0⟩ [.sl code]=some (0,[.bool true]):=by
 rw [e3_0_0,Vp];simp only [nv0,nvS,dvI,dvB,dvS,dvL,B5];by_cases hl:code.length<=1048576
 case neg=>rw [H7 (by omega:(1048576:Int)<code.length)]; rfl
 rw [H8 (by omega:¬(1048576:Int)<code.length)]
 obtain ⟨d,t,f,hd,ht,f0,f1,e0⟩:=Ni hl;have e1:rn ⟨5,0,0⟩ [.sl code]=some (0,[.int t.k,.int t.n,.str t.s,.int f,.sl (d.so.map ai),.sl (d.op.map OpM.row),.sl (d.ru.map RuM.row),.sl (d.st.map StM.row),.sl (t.as.map Tm.row)]):=by
  rw [e5_0_0];simp only [e0,nv0,nvS,dvI,dvB,dvS,dvL,B5]
 have hn:t.nodes<=2097152:=by have:=ht.n; omega
 have x1:=r7 d hd t ht.w hn f;have x2:=r6 d hd t ht.w hn f;obtain ⟨g1,g2,g3,g4⟩:=Sg hd ht.w f;have sR:bb (rtT (du d t f)):=aq _ (by omega)
 rw [Ur] at x1 x2;have x3:=r17 (rtT (du d t f)) (rtT (du d t f)) sR;have hal:(rtT (du d t f)).as.length<=1048576:=sR.len;have x4:=Wu code d t (t.as.map Tm.row) ((rtT (du d t f)).as.map Tm.row) f (rtO (du d t f)) (rtT (du d t f)).k (rtT (du d t f)).n (rtN (du d t f):Int) (rtT (du d t f)).s (rtO (du d t f)) (rtT (du d t f)).k (rtT (du d t f)).n (rtN (du d t f):Int) (rtT (du d t f)).s _ 0 ((rtT (du d t f)).as.map Tm.row) (D4 _) (by rw [B6]; exact hal)
 simp only [C6] at x4;have x5:rn ⟨8,0,0⟩ [.int (rtO (du d t f)),.int (rtT (du d t f)).k,.int (rtT (du d t f)).n,.str (rtT (du d t f)).s,.sl ((rtT (du d t f)).as.map Tm.row),.int (rtN (du d t f):Int),.int (rtO (du d t f)),.int (rtT (du d t f)).k,.int (rtT (du d t f)).n,.str (rtT (du d t f)).s,.sl ((rtT (du d t f)).as.map Tm.row),.int (rtN (du d t f):Int)]=some (0,[.bool true]):=by
  rw [yl] at x3;rw [e8_0_0];simp only [H3,H1,x3,nv0,nvS,dvI,dvB,dvS,dvL,B5]
 obtain ⟨s,hs,hci,e2⟩:=Nj hl;have e3:rn ⟨9,0,0⟩ [.sl code]=some (0,[.int s.t.k,.int s.t.n,.str s.t.s,.sl (s.d.so.map ai),.sl (s.d.op.map OpM.row),.sl (s.d.ru.map RuM.row),.sl (s.d.st.map StM.row),.sl (s.v.map ai),.sl (s.t.as.map Tm.row),.sl (s.c.map am)]):=by
  rw [e9_0_0];simp only [e2,nv0,nvS,dvI,dvB,dvS,dvL,B5]
 have y1:=r10 s hs;have y2:=r11 s hs;unfold SyM.row at y1 y2;obtain ⟨b1,b2⟩:=Sk hs hci;generalize brL s=L at y1 y2 b1 b2;have hvl:=hs.v;have y3:=Wx s _ 0 (L.map (bw s.d s.v s.t)) (D4 _) ⟨by rw [B6]; exact b1,fun j hj=>by
  rw [B6] at hj;rw [ab hj];have:=b2 _ (C3 hj);refine ⟨rfl,?_,?_⟩
  · show (s.v.map ai).length<=_; rw [B6]; omega
  · show (L[j].2.map am).length<=_; rw [B6]; exact this.c⟩
 simp only [C6,F5,D9] at y3;have y4:=Wd (F:=fun i=>rn ⟨3,0,9⟩ [.int (i:Int),.sl (L.map (bw s.d s.v s.t)),.sl (L.map (bw s.d s.v s.t))]) (n:=L.length) (A:=some (0,[.sl (L.map (bw s.d s.v s.t)),.sl (L.map (bw s.d s.v s.t))])) (fun i hlt=>by
  have hb:=b2 _ (C3 hlt);have z1:=Ws s.v (bT s.d s.t L[i].1) L[i].2 hvl (aq _ (by have:=hb.n; omega)) hb.c
  rw [e3_0_9,H8 (by rw [B6]; omega:¬(((L.map (bw s.d s.v s.t)).length:Nat):Int)<=(i:Int))]
  simp only [B6,C0,hlt,H3,H1,ax,B8,ab hlt,af hlt (bg (by omega)),bw,nv0,nvS,dvI,dvB,dvS,dvL,B5,H2,z1,E1]) (by
  rw [e3_0_9];simp only [B6,C0,Nat.lt_irrefl,H4,H2,C8])
 simp only [C6] at y4;simp only [H2,e1,nv0,nvS,dvI,dvB,dvS,dvL,B5,x2,x1,x4,E2,H1,H2,x5,E1,e3,y1,y3,y2,y4,H3]
theorem law3 {x0:List D} (h0:WL H x0 L22):rn ⟨3,0,0⟩ x0=some (0,[.bool true]):=by
 obtain ⟨a,rfl,_,hw⟩:=Xi h0;exact law3r a
end Go.Q.S
namespace Go.Q.S
open Go Go.Q Go.Proofs
theorem ki3:H.ki ⟨3,0,0⟩=some ⟨[(0,yk ((H.ty 22).getD default))],[],[⟨.ret,[(0,.bool)],[]⟩]⟩:=by kernel_rfl
theorem Vr:Dc Tryz.prog H [5,22]=true:=by kernel_rfl
end Go.Q.S
namespace Go.Proofs.YtilaihomkpjjnaaGreat.fnPure
open Go Go.Q Go.Q.S
open Go.ChangeShapes Go.WideShapes Go.ChangeAt Go.RowKit
open Go.ChangeMaps (open_string shut_string)
theorem own:ownKnob Tryz.prog.godebug=none:=by kernel_rfl
theorem Rc:laidOutB Tryz.prog=true:=by kernel_rfl
set_option maxRecDepth 100000 in
theorem lifted (os:Os) (started:os.Started) (H:Type) (enc:TypeId×Value->H) :
 ReturnsInHanded {} Tryz.checked os 3 .any (Rows.fnPureSpec.pre6 enc Tryz.prog Tryz.f3 Rows.fnPureRow.domain false) (Rows.fnPureSpec.post enc Tryz.prog Tryz.f3 false true false false):=by
 refine returnsInHanded_of_change_sized (C:=Tryz.checked) own started (by kernel_rfl) Tryz.func3
  (ChangeSpec.witness6 (enc:=enc) (C:=Tryz.checked) false ⟨#[],#[.slice none 0 0],[]⟩ 8 (by kernel_rfl) (by kernel_rfl) (by kernel_rfl) (by kernel_rfl)) ?_
 intro W base args ds gs before hval0 hW hcnd hsz0 _;have hval:∀ (j:Nat) t v,Tryz.f3.params[j]?=some t->args[j]?=some v->Value.okWide Tryz.prog W .any base t v:=hval0;have hW':=hW;obtain ⟨p,q,hA0,hV,rfl,hfz,hnd⟩:=hW;have hA:DataW.TrodAll enc Tryz.prog W 0 (fun _=>true) true Tryz.f3.params.toList args.toList ds p:=hA0
 rw [Tryz.params3] at hA hval;obtain ⟨rfl,rfl⟩:=trodVars_none hV;have hB:=hA;obtain ⟨v0,d0,rfl,rfl,h0⟩:=trodAll_one hA;obtain ⟨dss,ha,hlen,hwl⟩:=Ar (H:=Go.Q.S.H) Wq.ty Vr _ _ _ _ hB (by decide) (fun j t v h h'=>hval j t v (by simpa using h) (by simpa using h'))
 obtain ⟨x0,rfl⟩:∃ x0,dss=[x0]:=by
  match dss,hlen with
  | [x0],_=>exact ⟨x0,rfl⟩
 obtain ⟨t0,e0,w0⟩:=hwl 0 _ _ rfl rfl;rw [Xh] at e0;obtain rfl:=Option.some.inj e0;refine (Mg Wq Tryz.func3 (by kernel_rfl) ki3 rfl rfl ha (fun _ h=>by cases h) (b:=true) (by show rn _ _=_; simpa using law3 w0)).mono fun e W' ⟨he,bel⟩=>?_
 subst he;exact ⟨_,rfl,_,_,_,[],p,_,hW',trodAll_mk1 (shut_bool Tryz.underlying4 _),pp Rc _ _ _ _ (Rw (by kernel_rfl)) hB bel (fun z hz=>hW'.lt z (by simp [hz])),rfl,bel.frame _,fun h=>by cases h⟩
theorem over:Rows.fnPureRow.holds Tryz.pinned (OpenSpec.ofChange Rows.fnPureSpec) :=
 OpenClaim.holds_of_wide 3 Tryz.f3 rfl rfl rfl rfl rfl rfl rfl ⟨rfl,rfl,rfl,rfl,rfl⟩ rfl rfl rfl rfl rfl Wr Tryz.func3 uj
  (of_decide_eq_true (by kernel_rfl)) (by unfold Func.isWrapper; first | (rw [H5 (by decide +kernel)]; kernel_rfl) | (rw [H6 (by decide +kernel)]; exact ⟨rfl,rfl⟩))
  (fun os started H enc _=>lifted os started H enc)
theorem proved:Rows.FnPureSaid:=over
end Go.Proofs.YtilaihomkpjjnaaGreat.fnPure
namespace Go.Proofs.YtilaihomkpjjnaaGreat
theorem fnPure_holds:Rows.FnPureSaid:=fnPure.proved
end Go.Proofs.YtilaihomkpjjnaaGreat
