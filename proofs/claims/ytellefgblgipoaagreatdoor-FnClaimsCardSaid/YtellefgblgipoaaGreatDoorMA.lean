/- The plain laws of what the functions answer, part 1. -/
import Derived.Test.YtellefgblgipoaaGreatDoorQC
set_option linter.unusedVariables false
set_option linter.unusedSimpArgs false
open Bool renaming and_eq_true->B7,not_eq_true'->E8,or_eq_true->P4
open Int renaming tmod_lt_of_pos->O6,tmod_nonneg->P9
open List renaming length_map->B6,drop_eq_getElem_cons->B8,getElem_mem->C1,map_cons->C2,mem_cons_of_mem->C3,mem_cons_self->C4,length_cons->C5,length_nil->C8,drop_length->C9,mem_append->D0,map_nil->D2,mem_cons->D4,getElem?_eq_some_iff->D6,all_eq_true->D9,map_append->E0,append_assoc->E3,nil_append->E4,length_append->E9,length_eq_zero_iff->F1,mem_map->F2,mem_singleton->F8,cons_append->G8,append_nil->J3,sum_cons->J6,all_cons->J8,mem_flatMap->K2,map_map->K5,not_mem_nil->K9,map_congr_left->N1,find?_cons->O2,mem_or_eq_of_mem_set->O3,flatMap_cons->O4,getD->O5,filter_cons->O9,getElem?_map->P1,length_filter_le->P5,getElem_map->Q1,pairwise_cons->Q2,cons->Q7,mem_of_getElem?->Q9,any_eq_true->R3,mem_filterMap->R5,mem_filter->R7,mem_of_find?_eq_some->S6,set_cons_succ->S9,take_succ_eq_append_getElem->T2
open Nat renaming le_trans->F5,le_refl->G6,zero_le->K0,eq_of_beq_eq_true->Q5
open Option renaming some->C7,map_some->N2
open Prod renaming mk->G5
section
namespace Go.Q
open Go
inductive Tm where
 | mk (k n:Int) (s:ByteArray) (as:List Tm)
namespace Tm
def k:Tm->Int | mk k _ _ _=>k
def n:Tm->Int | mk _ n _ _=>n
def s:Tm->ByteArray | mk _ _ s _=>s
def as:Tm->List Tm | mk _ _ _ as=>as
mutual
def row:Tm->List D
 | mk k n s as=>[.int k,.int n,.str s,.sl (rows as)]
def rows:List Tm->List (List D)
 | []=>[]
 | t::ts=>row t::rows ts
end
theorem Gw:∀ ts:List Tm,rows ts=ts.map row
 | []=>rfl
 | t::ts=>by simp only [rows,C2,Gw ts]
theorem row_eq (t:Tm):t.row=[.int t.k,.int t.n,.str t.s,.sl (t.as.map row)]:=by
 cases t; simp only [row,Gw,Tm.k,Tm.n,Tm.s,Tm.as]
theorem ind {P:Tm->Prop} (h:∀ t,(∀ a∈t.as,P a)->P t):∀ t,P t:=by
 have key:∀ (N:Nat) (t:Tm),SizeOf.sizeOf t<N->P t:=by
  intro N;induction N with
  | zero=>intro t ht; omega
  | succ N ih =>
   intro t ht;refine h t fun a ha=>ih a ?_
   cases t with
   | mk k n s as =>
    simp only [Tm.as] at ha;have:=List.sizeOf_lt_of_mem ha;simp only [mk.sizeOf_spec] at ht;omega
 exact fun t=>key _ t (Nat.lt_succ_self _)
end Tm
inductive ax:Tm->Prop
 | mk {t:Tm}:t.as.length<=1048576->(∀ a∈t.as,ax a)->ax t
theorem ax.len {t:Tm} (h:ax t):t.as.length<=1048576:=by cases h; assumption
theorem ax.sub {t a:Tm} (h:ax t) (ha:a∈t.as):ax a:=by cases h with | mk _ h=>exact h a ha
theorem zt (n:Int) (s:ByteArray) (k:Int):ax (.mk k n s []):=.mk (by simp [Tm.as]) (by simp [Tm.as])
structure Ze (H:Tab) (e:TypeId) (lay:List CT):Prop where
 eq:lay=[.int .i64,.int .i64,.str,.sl e]
 ty:∃ ti,H.ty e=some ti/\ti.lay=lay
abbrev Bnd:=ByteArray×Tm
def Bnd.row (b:Bnd):List D:=.str b.1::b.2.row
theorem mf (b:Bnd):Bnd.row b=[.str b.1,.int b.2.k,.int b.2.n,.str b.2.s,.sl (b.2.as.map Tm.row)]:=by unfold Bnd.row; rw [Tm.row_eq]
def bnd:List Bnd->ByteArray->Option Tm
 | [],_=>none
 | b::r,s=>if b.1=s then some b.2 else bnd r s
def tm0:Tm:=.mk 0 0 ⟨#[]⟩ []
theorem ej {l:List Bnd} {s:ByteArray} {t:Tm} (h:bnd l s=some t):∃ b∈l,b.2=t:=by
 induction l with
 | nil=>simp [bnd] at h
 | cons b l ih =>
  simp only [bnd] at h;split at h
  · exact ⟨b,C4 ..,by simpa using h⟩
  · obtain ⟨b',h1,h2⟩:=ih h; exact ⟨b',C3 _ h1,h2⟩
mutual
def aS (l:List Bnd):Tm->Tm
 | .mk k n s as=>match (if k=1 then bnd l s else none) with
  | some u=>u
  | none=>.mk k n s (aSs l as)
def aSs (l:List Bnd):List Tm->List Tm
 | []=>[]
 | t::ts=>aS l t::aSs l ts
end
theorem Kr (l:List Bnd):∀ ts,aSs l ts=ts.map (aS l)
 | []=>rfl
 | t::ts=>by simp only [aSs,C2,Kr l ts]
theorem ee (l:List Bnd) (t:Tm):aS l t=match (if t.k=1 then bnd l t.s else none) with
 | some u=>u
 | none=>.mk t.k t.n t.s (t.as.map (aS l)):=by cases t; simp only [aS,Kr,Tm.k,Tm.n,Tm.s,Tm.as]; rfl
theorem sz {l:List Bnd} (hl:∀ b∈l,ax b.2):∀ t,ax t->ax (aS l t):=Tm.ind fun t ih h=>by
 rw [ee];split
 · rename_i u hu
   split at hu
   · obtain ⟨b,h1,rfl⟩:=ej hu; exact hl b h1
   · simp at hu
 · exact .mk (by simpa [Tm.as] using h.len) (fun a ha=>by
    simp only [Tm.as,F2] at ha;obtain ⟨x,hx,rfl⟩:=ha;exact ih x hx (h.sub hx))
def isW (t:Tm):Bool:=decide (t.k=3)&&(decide (0<=t.n)&&(decide (t.n<4)&&(decide (t.s=⟨#[]⟩)&&decide (t.as.length=0))))
def Ch:ByteArray:=⟨#[112,108,117,115]⟩
def vg:ByteArray:=⟨#[109,105,110,117,115]⟩
def Jk:ByteArray:=⟨#[116,105,109,101,115]⟩
def isB (s:ByteArray):Bool:=decide (s=Ch)||(decide (s=vg)||decide (s=Jk))
def cmp (s:ByteArray) (a b:Int):Int:=if s=Ch then (a+b).tmod 4 else if s=vg then (a-b+4).tmod 4 else (a*b).tmod 4
def rW1 (k n:Int) (s:ByteArray) (as:List Tm):Tm :=
 match as with
 | [x,y]=>if k=2/\n=0/\isB s=true/\isW x=true/\isW y=true then .mk 3 (cmp s x.n y.n) ⟨#[]⟩ [] else .mk k n s as
 | _=>.mk k n s as
mutual
def rW:Tm->Tm
 | .mk k n s as=>rW1 k n s (rWs as)
def rWs:List Tm->List Tm
 | []=>[]
 | t::ts=>rW t::rWs ts
end
theorem Ks:∀ ts,rWs ts=ts.map rW
 | []=>rfl
 | t::ts=>by simp only [rWs,C2,Ks ts]
theorem oq (t:Tm):rW t=rW1 t.k t.n t.s (t.as.map rW):=by cases t; simp only [rW,Ks,Tm.k,Tm.n,Tm.s,Tm.as]
theorem Ms {k n:Int} {s:ByteArray} {as:List Tm} (h:as.length<=1048576) (ha:∀ a∈as,ax a):ax (rW1 k n s as):=by
 unfold rW1;split
 · split
   · exact zt ..
   · exact .mk (by simp [Tm.as]) (by simpa [Tm.as] using ha)
 · exact .mk h ha
theorem Gx:∀ t,ax t->ax (rW t):=Tm.ind fun t ih h=>by
 rw [oq];exact Ms (by simpa using h.len) fun a ha=>by
  simp only [F2] at ha;obtain ⟨x,hx,rfl⟩:=ha;exact ih x hx (h.sub hx)
def ii (n:Nat):Int:=if n<=3 then 4 ^ n else 0
def isC (n:Nat) (c:Int):Bool:=decide (0<=c)&&decide (c<ii n)
def vals (n:Nat) (c:Int):List Int :=
 if isC n c then (match n with
  | 0=>[]
  | 1=>[c.tmod 4]
  | 2=>[(c.tdiv 4).tmod 4,c.tmod 4]
  | _=>[((c.tdiv 4).tdiv 4).tmod 4,(c.tdiv 4).tmod 4,c.tmod 4]) else []
def word (n:Int):Tm:=.mk 3 n ⟨#[]⟩ []
def cc (vars:List ByteArray) (c:Int):List Bnd:=(vars.zip (vals vars.length c)).map fun p=>(p.1,word p.2)
def jd (vars:List ByteArray) (t:Tm) (c:Int):Tm:=rW (aS (cc vars c) t)
theorem ja (vars:List ByteArray) (c:Int):∀ b∈cc vars c,ax b.2:=fun b hb=>by
 unfold cc at hb;simp only [F2] at hb;obtain ⟨p,_,rfl⟩:=hb;exact zt ..
theorem gy {α:Type} {F:Nat->aa->R} {xs:List α} (g:α->List D) {K:aa->R}
 (hs:∀ i (hi:i<xs.length) acc,acc.length=i->F i acc=F (i+1) (acc++[g xs[i]])) (he:∀ acc,F xs.length acc=K acc):F 0 []=K (xs.map g):=by
 have key:∀ (n i:Nat),i+n=xs.length->F i ((xs.take i).map g)=K (xs.map g):=by
  intro n;induction n with
  | zero =>
   intro i hi;have:i=xs.length:=by omega
   subst this;rw [he,List.take_length]
  | succ n ih =>
   intro i hi;have hlt:i<xs.length:=by omega
   rw [hs i hlt _ (by simp; omega),<- ih (i+1) (by omega),T2 hlt]
   simp only [E0,C2,D2]
 simpa using key xs.length 0 (by omega)
theorem Ci {α:Type} {F:Nat->R} {xs:List α} {p:α->Bool} {A:R} {B:Nat->α->R} (hs:∀ i (hi:i<xs.length),F i=bif p xs[i] then B i xs[i] else F (i+1)) (he:F xs.length=A) :
 (xs.find? p=none/\F 0=A)\/∃ i,∃ hi:i<xs.length,xs.find? p=some xs[i]/\F 0=B i xs[i]:=by
 have key:∀ (n i:Nat),i+n=xs.length->((xs.drop i).find? p=none/\F i=A)\/∃ j,∃ hj:j<xs.length,(xs.drop i).find? p=some xs[j]/\F i=B j xs[j]:=by
  intro n;induction n with
  | zero =>
   intro i hi;have:i=xs.length:=by omega
   subst this;left; rw [C9]; exact ⟨rfl,he⟩
  | succ n ih =>
   intro i hi;have hlt:i<xs.length:=by omega
   rw [hs i hlt,B8 hlt];simp only [O2];cases hp:p xs[i] with
   | true=>exact .inr ⟨i,hlt,by simp,by simp⟩
   | false=>simpa using ih (i+1) (by omega)
 simpa using key xs.length 0 (by omega)
theorem Gy (l:List Bnd) (s:ByteArray):bnd l s=(l.find? fun b=>decide (b.1=s)).map (·.2):=by
 induction l with
 | nil=>rfl
 | cons b l ih =>
  simp only [bnd,O2];by_cases h:b.1=s
  · simp [h]
  · simp [h,ih]
theorem ae {α:Type} {xs:List α} {g:α->List D} {i:Nat} (hi:i<xs.length):rowAt (xs.map g) i=g xs[i]:=by simp [rowAt,O5,hi]
end Go.Q
end
section
namespace Go.Q
open Go
def ai (s:ByteArray):List D:=[.str s]
def bu (n:Int):List D:=[.int n]
theorem ta (n:Nat) (c:Int):(vals n c).length<=n:=by
 unfold vals;split
 · rename_i h
   match n with
   | 0=>simp
   | 1=>simp
   | 2=>simp
   | n+3 =>
    simp
 · simp
theorem tc {n:Nat} (h:3<n):ii n=0:=by unfold ii; rw [H6 (by omega)]
theorem mg (n:Nat):0<=ii n/\ii n<=64:=by
 by_cases h:3<n
 · rw [tc h]; decide
 · obtain rfl | rfl | rfl | rfl:n=0\/n=1\/n=2\/n=3:=by omega
   all_goals decide
theorem mh {n:Nat} {c:Int} (h:isC n c=true):n<=3/\0<=c/\c<64:=by
 simp only [isC,B7,decide_eq_true_eq] at h;obtain ⟨h1,h2⟩:=h;have h3:=mg n;by_cases hn:3<n
 · rw [tc hn] at h2; omega
 · omega
end Go.Q
namespace Go.Q
end Go.Q
end
section
namespace Go.Q
open Go
namespace Tm
mutual
def names:Tm->List ByteArray
 | .mk k _ s as=>(if k=1 then [s] else [])++Dy as
def Dy:List Tm->List ByteArray
 | []=>[]
 | t::ts=>names t++Dy ts
end
theorem Cj:∀ ts,Dy ts=ts.flatMap names
 | []=>rfl
 | t::ts=>by simp only [Dy,O4,Cj ts]
theorem names_eq (t:Tm):t.names=(if t.k=1 then [t.s] else [])++t.as.flatMap names:=by cases t; simp only [names,Cj,Tm.k,Tm.s,Tm.as]; rfl
theorem as_mk (k n:Int) (s:ByteArray) (as:List Tm):(Tm.mk k n s as).as=as:=rfl
theorem k_mk (k n:Int) (s:ByteArray) (as:List Tm):(Tm.mk k n s as).k=k:=rfl
theorem s_mk (k n:Int) (s:ByteArray) (as:List Tm):(Tm.mk k n s as).s=s:=rfl
mutual
def nodes:Tm->Nat
 | .mk _ _ _ as=>1+nodesL as
def nodesL:List Tm->Nat
 | []=>0
 | t::ts=>nodes t+nodesL ts
end
theorem Ck:∀ ts,nodesL ts=(ts.map nodes).sum
 | []=>rfl
 | t::ts=>by simp only [nodesL,C2,J6,Ck ts]
theorem nodes_eq (t:Tm):t.nodes=1+(t.as.map nodes).sum:=by cases t; simp only [nodes,Ck,Tm.as]
end Tm
theorem Gz {α:Type} {xs:List α} {f:α->List ByteArray} {g:α->Nat} (h:∀ x∈xs,(f x).length<=g x):(xs.flatMap f).length<=(xs.map g).sum:=by
 induction xs with
 | nil=>simp
 | cons x xs ih =>
  simp only [O4,E9,C2,J6];have h1:=h x (C4 ..);have h2:=ih fun y hy=>h y (C3 _ hy)
  omega
theorem cq:∀ t:Tm,t.names.length<=t.nodes:=Tm.ind fun t ih=>by
 rw [Tm.names_eq,Tm.nodes_eq,E9];have:=Gz (xs:=t.as) (f:=Tm.names) (g:=Tm.nodes) ih;by_cases hk:t.k=1
 · simp only [H5 hk,C5,C8]; omega
 · simp only [H6 hk,C8]; omega
theorem Pv {α:Type} {xs:List α} {f g:α->Nat} (h:∀ x∈xs,f x<=g x):(xs.map f).sum<=(xs.map g).sum:=by
 induction xs with
 | nil=>simp
 | cons x xs ih =>
  simp only [C2,J6];have h1:=h x (C4 ..);have h2:=ih fun y hy=>h y (C3 _ hy)
  omega
theorem dl {α:Type} {xs:List α} {f:α->Nat} {x:α} (h:x∈xs):f x<=(xs.map f).sum:=by
 induction xs with
 | nil=>simp at h
 | cons y xs ih =>
  simp only [C2,J6];rcases D4.1 h with rfl | h
  · omega
  · have:=ih h; omega
theorem dr {xs:List Tm}:xs.length<=(xs.map Tm.nodes).sum:=by
 induction xs with
 | nil=>simp
 | cons x xs ih =>
  simp only [C2,J6,C5];have:=Tm.nodes_eq x; omega
theorem aq:∀ t:Tm,t.nodes<=1048577->ax t:=Tm.ind fun t ih h=>by
 have h1:=Tm.nodes_eq t;have h2:=dr (xs:=t.as);exact .mk (by omega) fun a ha=>ih a ha (by have:=dl (f:=Tm.nodes) ha; omega)
theorem th {l:List Bnd} (hl:∀ b∈l,b.2.nodes=1):∀ t,(aS l t).nodes<=t.nodes:=Tm.ind fun t ih=>by
 rw [ee];have h1:=Tm.nodes_eq t;split
 · rename_i u hu
   split at hu
   · obtain ⟨b,h1,rfl⟩:=ej hu; rw [hl b h1]; omega
   · simp at hu
 · rw [Tm.nodes_eq]
   simp only [Tm.as_mk,K5];have:=Pv (xs:=t.as) (f:=Tm.nodes ∘ aS l) (g:=Tm.nodes) ih;omega
theorem Mt (k n:Int) (s:ByteArray) (us:List Tm):(rW1 k n s us).nodes<=1+(us.map Tm.nodes).sum:=by
 unfold rW1;split
 · split
   · simp only [Tm.nodes,Tm.nodesL]; omega
   · rw [Tm.nodes_eq,Tm.as_mk]; omega
 · rw [Tm.nodes_eq,Tm.as_mk]; omega
theorem gz:∀ t,(rW t).nodes<=t.nodes:=Tm.ind fun t ih=>by
 have h1:=Tm.nodes_eq t;have h2:=Pv (xs:=t.as) (f:=Tm.nodes ∘ rW) (g:=Tm.nodes) ih;have h3:=Mt t.k t.n t.s (t.as.map rW);rw [K5] at h3;rw [oq];omega
theorem Cl {t:Tm} (h:isW t=true):t.names=[]:=by
 simp only [isW,B7,decide_eq_true_eq] at h;rw [Tm.names_eq,H6 (by omega),F1.1 h.2.2.2.2]
 rfl
theorem Mu (k n:Int) (s:ByteArray) (us:List Tm):(rW1 k n s us).names=(if k=1 then [s] else [])++us.flatMap Tm.names:=by
 unfold rW1;split
 · rename_i x y
   split
   · rename_i h
     have e1:=Cl h.2.2.2.1;have e2:=Cl h.2.2.2.2;obtain ⟨rfl,_⟩:=h;show ([]:List ByteArray)=([]:List ByteArray)++[x,y].flatMap Tm.names
     simp [e1,e2]
   · rw [Tm.names_eq]; rfl
 · rw [Tm.names_eq]; rfl
theorem zu {xs:List Tm} {f g:Tm->List ByteArray} (h:∀ x∈xs,f x=g x):xs.flatMap f=xs.flatMap g:=by
 induction xs with
 | nil=>rfl
 | cons x xs ih=>rw [O4,O4,h x (C4 ..),ih fun y hy=>h y (C3 _ hy)]
theorem zv:∀ t,(rW t).names=t.names:=Tm.ind fun t ih=>by
 have e:(t.as.map rW).flatMap Tm.names=t.as.flatMap Tm.names:=by
  rw [List.flatMap_map];exact zu fun x hx=>ih x hx
 rw [oq,Tm.names_eq t,<- e];exact Mu ..
def isG (t:Tm):Bool:=decide ((t.names.length:Int)=0)
theorem Pw (t:Tm):isG (rW t)=isG t:=by unfold isG; rw [zv]
structure Gu where
 k:Int
 l:Tm
 r:Tm
def Gu.row (g:Gu):List D:=[.int g.k,.int g.l.k,.int g.l.n,.str g.l.s,.sl (g.l.as.map Tm.row),.int g.r.k,.int g.r.n,.str g.r.s,.sl (g.r.as.map Tm.row)]
noncomputable def holds (g:Gu):Bool :=
 isG g.l&&(isG g.r&&(if g.k=1 then eqb (rW g.l).row (rW g.r).row else if g.k=2 then !eqb (rW g.l).row (rW g.r).row else if g.k=3 then isW (rW g.l)&&(isW (rW g.r)&&decide ((rW g.l).n<(rW g.r).n)) else false))
def dn (l:List Bnd) (g:Gu):Gu:=⟨g.k,aS l g.l,aS l g.r⟩
def Gu.ok (g:Gu):Prop:=g.l.nodes<=1048577/\g.r.nodes<=1048577
theorem Kt {l:List Bnd} (hl:∀ b∈l,b.2.nodes=1) {g:Gu} (h:g.ok):(dn l g).ok:=⟨F5 (th hl _) h.1,F5 (th hl _) h.2⟩
theorem ot (vars:List ByteArray) (c:Int):∀ b∈cc vars c,b.2.nodes=1:=fun b hb=>by
 unfold cc at hb;simp only [F2] at hb;obtain ⟨p,_,rfl⟩:=hb;simp [word,Tm.nodes,Tm.nodesL]
noncomputable def pu (vars:List ByteArray) (gs:List Gu) (c:Int):Bool:=gs.all fun g=>holds (dn (cc vars c) g)
noncomputable def fq (vars:List ByteArray) (gs:List Gu):List Nat:=(List.range (ii vars.length).toNat).filter fun c=>pu vars gs (c:Int)
theorem xe {F:Nat->aa->R} {N:Nat} {p:Nat->Bool} {g:Nat->List D} {K:aa->R} (hs:∀ i acc,i<N->acc.length<=i->F i acc=if p i then F (i+1) (acc++[g i]) else F (i+1) acc) (he:∀ acc,F N acc=K acc) :
 F 0 []=K (((List.range N).filter p).map g):=by
 have key:∀ (n i:Nat),i+n=N->F i (((List.range i).filter p).map g)=K (((List.range N).filter p).map g):=by
  intro n;induction n with
  | zero =>
   intro i hi;have:i=N:=by omega
   subst this;rw [he]
  | succ n ih =>
   intro i hi;have hl:(((List.range i).filter p).map g).length<=i:=by
    rw [B6];exact F5 (P5 _ _) (by simp)
   rw [hs i _ (by omega) hl,<- ih (i+1) (by omega),List.range_succ,List.filter_append]
   cases h:p i with
   | true=>simp [h]
   | false=>simp [h]
 simpa using key N 0 (by omega)
theorem Ha {α:Type} {F:Nat->R} {xs:List α} {p:α->Bool} {A B:R} (hs:∀ i (hi:i<xs.length),F i=bif p xs[i] then F (i+1) else B) (he:F xs.length=A):F 0=bif xs.all p then A else B:=by
 have key:∀ (n i:Nat),i+n=xs.length->F i=bif (xs.drop i).all p then A else B:=by
  intro n;induction n with
  | zero =>
   intro i hi;have:i=xs.length:=by omega
   subst this;rw [he,C9]; rfl
  | succ n ih =>
   intro i hi;have hlt:i<xs.length:=by omega
   rw [hs i hlt,ih (i+1) (by omega),B8 hlt,J8]
   cases p xs[i] <;> rfl
 simpa using key xs.length 0 (by omega)
theorem Mv {α:Type} {F:Nat->Bool->R} {xs:List α} {p:α->Bool} {A:Bool->R} (hs:∀ i (hi:i<xs.length) b,F i b=F (i+1) (b&&p xs[i])) (he:∀ b,F xs.length b=A b):F 0 true=A (xs.all p):=by
 have key:∀ (n i:Nat) (b:Bool),i+n=xs.length->F i b=A (b&&(xs.drop i).all p):=by
  intro n;induction n with
  | zero =>
   intro i b hi;have:i=xs.length:=by omega
   subst this;rw [he,C9]; simp
  | succ n ih =>
   intro i b hi;have hlt:i<xs.length:=by omega
   rw [hs i hlt,ih (i+1) _ (by omega),B8 hlt,J8,Bool.and_assoc]
 simpa using key xs.length 0 true (by omega)
def ak (r:R) (Q:Nat×List D->Prop):Prop:=∃ x,r=some x/\Q x
theorem ak.bind {r:R} {f:Nat×List D->R} {P Q:Nat×List D->Prop} (h:ak r P) (k:∀ x,P x->ak (f x) Q):ak (r.bind f) Q:=by
 obtain ⟨x,rfl,hx⟩:=h;exact k x hx
theorem ak.ite {c:Bool} {a b:R} {Q:Nat×List D->Prop} (h1:c=true->ak a Q) (h2:c=false->ak b Q):ak (bif c then a else b) Q:=by
 cases c
 · exact h2 rfl
 · exact h1 rfl
theorem ak.ret {x:Nat×List D} {Q:Nat×List D->Prop} (h:Q x):ak (some x) Q:=⟨x,rfl,h⟩
theorem ak.mono {r:R} {P Q:Nat×List D->Prop} (h:ak r P) (k:∀ x,P x->Q x):ak r Q:=by
 obtain ⟨x,h1,h2⟩:=h;exact ⟨x,h1,k x h2⟩
theorem Px (a:Int):0<=Av .i64 a 255/\Av .i64 a 255<=255:=by
 unfold Av;have h:(BitVec.ofInt IntKind.i64.bits a &&& BitVec.ofInt IntKind.i64.bits 255).toNat<=255:=by
  rw [BitVec.toNat_and];exact F5 Nat.and_le_right (by decide)
 rw [IntWalk.i64_in _ (by omega)]
 omega
end Go.Q
namespace Go.Q
open Go
theorem Hb {α:Type} {F:Nat->aa->R} {xs:List α} (g:α->aa) (a0:aa) {K:aa->R} (hs:∀ i (hi:i<xs.length) acc,(acc++g xs[i]).length<=a0.length+(xs.flatMap g).length->F i acc=F (i+1) (acc++g xs[i])) (he:∀ acc,F xs.length acc=K acc) :
 F 0 a0=K (a0++xs.flatMap g):=by
 have key:∀ (n i:Nat),i+n=xs.length->F i (a0++(xs.take i).flatMap g)=K (a0++xs.flatMap g):=by
  intro n;induction n with
  | zero =>
   intro i hi;have:i=xs.length:=by omega
   subst this;rw [he,List.take_length]
  | succ n ih =>
   intro i hi;have hlt:i<xs.length:=by omega
   have e:(xs.take (i+1)).flatMap g=(xs.take i).flatMap g++g xs[i]:=by
    rw [T2 hlt,List.flatMap_append,O4,List.flatMap_nil,J3]
   have hl:((xs.take (i+1)).flatMap g).length<=(xs.flatMap g).length:=by
    conv=>rhs; rw [<- List.take_append_drop (i+1) xs,List.flatMap_append,E9]
    omega
   rw [hs i hlt _ (by rw [E3,<- e,E9]; omega),E3,<- e]
   exact ih (i+1) (by omega)
 simpa using key xs.length 0 (by omega)
theorem rf (t:Tm):t.names.map ai=(if t.k=1 then [ai t.s] else [])++t.as.flatMap fun a=>a.names.map ai:=by
 rw [Tm.names_eq,E0,List.map_flatMap];split <;> rfl
theorem Cm (t:Tm):(t.as.flatMap fun a=>a.names.map ai).length<=(t.as.map Tm.nodes).sum:=by
 have:=Gz (xs:=t.as) (f:=Tm.names) (g:=Tm.nodes) fun x _=>cq x
 have e:(t.as.flatMap fun a=>a.names.map ai)=(t.as.flatMap Tm.names).map ai:=by rw [List.map_flatMap]
 rw [e,B6]; exact this
end Go.Q
end
section
namespace Go.Q.S
open Go Go.Q
theorem zw {d:Nat} (h:d<=64):IntKind.i64.wrap (((d+1:Nat):Int)-1)=(d:Int):=by
 unfold IntKind.wrap; simp [IntKind.bits,IntKind.signed]; omega
end Go.Q.S
end
section
/- Marks: numbers written into all that a row of data holds,and read again. -/
namespace Go.Q.S
open Go Go.Q
variable {mt:Int->ByteArray}
end Go.Q.S
end
section
/- Terms that are made are well typed; how many marks they bear. -/
namespace Go.Q.S
open Go Go.Q
def i64ok (n:Int):Prop:=(Lit.int .i64 n).wf=true
theorem i64ok_of {n:Int} (h:-9223372036854775808<=n) (h':n<=9223372036854775807):i64ok n:=by
 have h1:IntKind.i64.min=-9223372036854775808:=by decide
 have h2:IntKind.i64.max=9223372036854775807:=by decide
 unfold i64ok Lit.wf;simp only [h1,h2,B7,decide_eq_true_eq];exact ⟨h,h'⟩
section
variable {H:Tab} {e:TypeId} {lay:List CT} (hT:Ze H e lay)
include hT
omit hT in
theorem cmp_ok {s:ByteArray} {x y:Tm} (hx:isW x=true) (hy:isW y=true):i64ok (cmp s x.n y.n):=by
 simp only [isW,B7,decide_eq_true_eq] at hx hy;obtain ⟨_,a1,a2,_⟩:=hx;obtain ⟨_,b1,b2,_⟩:=hy;unfold cmp;split
 · have h1:=O6 (x.n+y.n) (show (0:Int)<4 by decide)
   have h2:=P9 4 (show 0<=x.n+y.n by omega)
   exact i64ok_of (by omega) (by omega)
 · split
   · have h1:=O6 (x.n-y.n+4) (show (0:Int)<4 by decide)
     have h2:=P9 4 (show 0<=x.n-y.n+4 by omega)
     exact i64ok_of (by omega) (by omega)
   · have h1:=O6 (x.n*y.n) (show (0:Int)<4 by decide)
     have h2:=P9 4 (show 0<=x.n*y.n from Int.mul_nonneg a1 b1)
     exact i64ok_of (by omega) (by omega)
end
def instR (vars:List ByteArray) (t:Tm) (c:Int):Tm:=if isC vars.length c then jd vars t c else tm0
theorem instR_nodes {vars:List ByteArray} {t:Tm} (c:Int):(instR vars t c).nodes<=t.nodes:=by
 unfold instR; split
 · exact F5 (gz _) (th (ot vars c) t)
 · have h1:tm0.nodes=1:=by rw [Tm.nodes_eq]; simp [tm0,Tm.as]
   have:=Tm.nodes_eq t; omega
end Go.Q.S
end
section
/- Cells laid together; filters that may break off. -/
namespace Go.Q.S
open Go Go.Q
section
variable {H:Tab} {ds:List D} {cts:List CT}
end
theorem vh (t:Tm):tm0.nodes<=t.nodes:=by
 have h1:tm0.nodes=1:=by rw [Tm.nodes_eq]; simp [tm0,Tm.as]
 have:=Tm.nodes_eq t;omega
end Go.Q.S
end
section
namespace Go.Q
open Go
theorem vi (a0:D) (l:List D):nth (a0::l) 0=a0:=rfl
theorem xq (a0 a1:D) (l:List D):nth (a0::a1::l) 1=a1:=rfl
theorem xt (a0 a1 a2:D) (l:List D):nth (a0::a1::a2::l) 2=a2:=rfl
theorem xu (a0 a1 a2 a3:D) (l:List D):nth (a0::a1::a2::a3::l) 3=a3:=rfl
theorem xv (a0 a1 a2 a3 a4:D) (l:List D):nth (a0::a1::a2::a3::a4::l) 4=a4:=rfl
theorem xw (a0 a1 a2 a3 a4 a5:D) (l:List D):nth (a0::a1::a2::a3::a4::a5::l) 5=a5:=rfl
theorem xy (a0 a1 a2 a3 a4 a5 a6:D) (l:List D):nth (a0::a1::a2::a3::a4::a5::a6::l) 6=a6:=rfl
theorem xz (a0 a1 a2 a3 a4 a5 a6 a7:D) (l:List D):nth (a0::a1::a2::a3::a4::a5::a6::a7::l) 7=a7:=rfl
theorem ya (a0 a1 a2 a3 a4 a5 a6 a7 a8:D) (l:List D):nth (a0::a1::a2::a3::a4::a5::a6::a7::a8::l) 8=a8:=rfl
theorem yb (a0 a1 a2 a3 a4 a5 a6 a7 a8 a9:D) (l:List D):nth (a0::a1::a2::a3::a4::a5::a6::a7::a8::a9::l) 9=a9:=rfl
theorem mo (a0 a1 a2 a3 a4 a5 a6 a7 a8 a9 a10:D) (l:List D):nth (a0::a1::a2::a3::a4::a5::a6::a7::a8::a9::a10::l) 10=a10:=rfl
theorem mq (a0 a1 a2 a3 a4 a5 a6 a7 a8 a9 a10 a11:D) (l:List D):nth (a0::a1::a2::a3::a4::a5::a6::a7::a8::a9::a10::a11::l) 11=a11:=rfl
theorem mr (a0 a1 a2 a3 a4 a5 a6 a7 a8 a9 a10 a11 a12:D) (l:List D):nth (a0::a1::a2::a3::a4::a5::a6::a7::a8::a9::a10::a11::a12::l) 12=a12:=rfl
theorem mu (a0 a1 a2 a3 a4 a5 a6 a7 a8 a9 a10 a11 a12 a13:D) (l:List D):nth (a0::a1::a2::a3::a4::a5::a6::a7::a8::a9::a10::a11::a12::a13::l) 13=a13:=rfl
theorem mv (a0 a1 a2 a3 a4 a5 a6 a7 a8 a9 a10 a11 a12 a13 a14:D) (l:List D):nth (a0::a1::a2::a3::a4::a5::a6::a7::a8::a9::a10::a11::a12::a13::a14::l) 14=a14:=rfl
theorem mw (a0 a1 a2 a3 a4 a5 a6 a7 a8 a9 a10 a11 a12 a13 a14 a15:D) (l:List D):nth (a0::a1::a2::a3::a4::a5::a6::a7::a8::a9::a10::a11::a12::a13::a14::a15::l) 15=a15:=rfl
theorem my (a0 a1 a2 a3 a4 a5 a6 a7 a8 a9 a10 a11 a12 a13 a14 a15 a16:D) (l:List D):nth (a0::a1::a2::a3::a4::a5::a6::a7::a8::a9::a10::a11::a12::a13::a14::a15::a16::l) 16=a16:=rfl
theorem mz (a0 a1 a2 a3 a4 a5 a6 a7 a8 a9 a10 a11 a12 a13 a14 a15 a16 a17:D) (l:List D):nth (a0::a1::a2::a3::a4::a5::a6::a7::a8::a9::a10::a11::a12::a13::a14::a15::a16::a17::l) 17=a17:=rfl
theorem na (a0 a1 a2 a3 a4 a5 a6 a7 a8 a9 a10 a11 a12 a13 a14 a15 a16 a17 a18:D) (l:List D):nth (a0::a1::a2::a3::a4::a5::a6::a7::a8::a9::a10::a11::a12::a13::a14::a15::a16::a17::a18::l) 18=a18:=rfl
theorem nc (a0 a1 a2 a3 a4 a5 a6 a7 a8 a9 a10 a11 a12 a13 a14 a15 a16 a17 a18 a19:D) (l:List D):nth (a0::a1::a2::a3::a4::a5::a6::a7::a8::a9::a10::a11::a12::a13::a14::a15::a16::a17::a18::a19::l) 19=a19:=rfl
theorem nd (a0 a1 a2 a3 a4 a5 a6 a7 a8 a9 a10 a11 a12 a13 a14 a15 a16 a17 a18 a19 a20:D) (l:List D):nth (a0::a1::a2::a3::a4::a5::a6::a7::a8::a9::a10::a11::a12::a13::a14::a15::a16::a17::a18::a19::a20::l) 20=a20:=rfl
theorem ne (a0 a1 a2 a3 a4 a5 a6 a7 a8 a9 a10 a11 a12 a13 a14 a15 a16 a17 a18 a19 a20 a21:D) (l:List D):nth (a0::a1::a2::a3::a4::a5::a6::a7::a8::a9::a10::a11::a12::a13::a14::a15::a16::a17::a18::a19::a20::a21::l) 21=a21:=rfl
theorem nf (a0 a1 a2 a3 a4 a5 a6 a7 a8 a9 a10 a11 a12 a13 a14 a15 a16 a17 a18 a19 a20 a21 a22:D) (l:List D):nth (a0::a1::a2::a3::a4::a5::a6::a7::a8::a9::a10::a11::a12::a13::a14::a15::a16::a17::a18::a19::a20::a21::a22::l) 22=a22:=rfl
theorem ng (a0 a1 a2 a3 a4 a5 a6 a7 a8 a9 a10 a11 a12 a13 a14 a15 a16 a17 a18 a19 a20 a21 a22 a23:D) (l:List D):nth (a0::a1::a2::a3::a4::a5::a6::a7::a8::a9::a10::a11::a12::a13::a14::a15::a16::a17::a18::a19::a20::a21::a22::a23::l) 23=a23:=rfl
theorem nj (a0 a1 a2 a3 a4 a5 a6 a7 a8 a9 a10 a11 a12 a13 a14 a15 a16 a17 a18 a19 a20 a21 a22 a23 a24:D) (l:List D):nth (a0::a1::a2::a3::a4::a5::a6::a7::a8::a9::a10::a11::a12::a13::a14::a15::a16::a17::a18::a19::a20::a21::a22::a23::a24::l) 24=a24:=rfl
theorem nk (a0 a1 a2 a3 a4 a5 a6 a7 a8 a9 a10 a11 a12 a13 a14 a15 a16 a17 a18 a19 a20 a21 a22 a23 a24 a25:D) (l:List D):nth (a0::a1::a2::a3::a4::a5::a6::a7::a8::a9::a10::a11::a12::a13::a14::a15::a16::a17::a18::a19::a20::a21::a22::a23::a24::a25::l) 25=a25:=rfl
theorem dI (n:Int):(D.int n).I=n:=rfl
theorem dB (b:Bool):(D.bool b).B=b:=rfl
theorem dS (s:ByteArray):(D.str s).S=s:=rfl
theorem dL (r:aa):(D.sl r).L=r:=rfl
abbrev Ky:=List UInt8
theorem yg {a b:ByteArray} (h:a.data.toList=b.data.toList):a=b:=by
 cases a; cases b; simp only at h; congr 1; exact Array.ext' h
theorem tj:∀ (x y:List UInt8),Op.bytesLess x y=decide (x<y)
 | x,[]=>by simp [Op.bytesLess]
 | [],y::ys=>by simp [Op.bytesLess]
 | a::x,b::y=>by
  unfold Op.bytesLess;rw [tj x y];rw [Bool.eq_iff_iff];simp only [P4,B7,decide_eq_true_eq,beq_iff_eq,List.cons_lt_cons_iff]
theorem Ud (a b:ByteArray):ltB a b=decide (a.data.toList<b.data.toList):=by
 unfold ltB;rw [tj,ByteArray.toList_eq,ByteArray.toList_eq]
theorem vj (a:Ky):¬ a<a:=List.lt_irrefl a
theorem zx {a b c:Ky} (h:a<b) (k:b<c):a<c:=List.lt_trans h k
theorem Jl (a b:Ky):a<b\/a=b\/b<a:=by
 by_cases h:a<b
 · exact .inl h
 · by_cases k:b<a
   · exact .inr (.inr k)
   · exact .inr (.inl (List.le_antisymm k h))
def Asc (l:List Ky):Prop:=l.Pairwise (· < ·)
theorem Dz:∀ {l m:List Ky},Asc l->Asc m->(∀ x,x∈l↔x∈m)->l=m
 | [],m,hl,hm,h=>by
  cases m with
  | nil=>rfl
  | cons y m=>exact absurd ((h y).2 (C4 ..)) (by simp)
 | x::l,[],hl,hm,h=>absurd ((h x).1 (C4 ..)) (by simp)
 | x::l,y::m,hl,hm,h=>by
  obtain ⟨h1,h2⟩:=Q2.1 hl;obtain ⟨h3,h4⟩:=Q2.1 hm;have e:x=y:=by
   rcases D4.1 ((h x).1 (C4 ..)) with e | hx
   · exact e
   · rcases D4.1 ((h y).2 (C4 ..)) with e | hy
     · exact e.symm
     · exact absurd (zx (h3 x hx) (h1 y hy)) (vj _)
  subst e;congr 1
  refine Dz h2 h4 fun z=>⟨fun hz=>?_,fun hz=>?_⟩
  · rcases D4.1 ((h z).1 (C3 _ hz)) with e | hz'
    · exact absurd (e▸h1 z hz) (vj _)
    · exact hz'
  · rcases D4.1 ((h z).2 (C3 _ hz)) with e | hz'
    · exact absurd (e▸h3 z hz) (vj _)
    · exact hz'
theorem Hc {l:List Ky} (h:l.Pairwise fun a b=>¬ b<a):Asc (Lib.compact l)/\∀ x,x∈Lib.compact l↔x∈l:=by
 have hg:∀ i j,i<j->j<l.length->¬ l.toArray[j]!<l.toArray[i]!:=fun i j hij hj=>by
  rw [getElem!_pos l.toArray j (by simpa using hj),getElem!_pos l.toArray i (by simp; omega)]
  simp only [List.getElem_toArray];exact List.pairwise_iff_getElem.1 h i j (by omega) hj hij
 unfold Lib.compact Lib.compactUpTo;constructor
 · unfold Asc
   rw [List.pairwise_map];have hp:((List.range l.length).filter (Lib.keeps l.toArray)).Pairwise fun i j=>i<j/\j<l.length/\Lib.keeps l.toArray j=true:=by
    have h1:(List.range l.length).Pairwise fun i j=>i<j:=List.pairwise_lt_range
    have h2:=h1.sublist (List.filter_sublist (p:=Lib.keeps l.toArray));refine List.Pairwise.imp_of_mem (fun {a b} ha hb hab=>?_) h2
    have hb':=R7.1 hb;exact ⟨hab,by simpa using hb'.1,hb'.2⟩
   refine hp.imp fun {i j} ⟨hij,hj,hk⟩=>?_
   simp only [Lib.keeps,decide_eq_true_eq] at hk;have hne:l.toArray[j]!≠l.toArray[j-1]!:=hk.resolve_left (by omega)
   have h1:l.toArray[j-1]!<l.toArray[j]!:=by
    rcases Jl l.toArray[j-1]! l.toArray[j]! with h | h | h
    · exact h
    · exact absurd h.symm hne
    · exact absurd h (hg (j-1) j (by omega) hj)
   by_cases hij':i=j-1
   · rw [hij']; exact h1
   · have h2:=hg i (j-1) (by omega) (by omega)
     rcases Jl l.toArray[i]! l.toArray[j-1]! with h | h | h
     · exact zx h h1
     · rw [h]; exact h1
     · exact absurd h h2
 · intro x
   simp only [F2,R7,List.mem_range];constructor
   · rintro ⟨j,⟨hj,_⟩,rfl⟩
     rw [getElem!_pos l.toArray j (by simpa using hj)]
     simp
   · intro hx
     obtain ⟨j,hj,rfl⟩:=List.mem_iff_getElem.1 hx;have key:∀ n j (hj:j<l.length),j<=n->∃ k,(k<l.length/\Lib.keeps l.toArray k=true)/\l.toArray[k]! = l[j]:=by
      intro n;induction n with
      | zero =>
       intro j hj hn;obtain rfl:j=0:=by omega
       exact ⟨0,⟨hj,by simp [Lib.keeps]⟩,by rw [getElem!_pos l.toArray 0 (by simpa using hj)]; simp⟩
      | succ n ih =>
       intro j hj hn;by_cases hk:Lib.keeps l.toArray j=true
       · exact ⟨j,⟨hj,hk⟩,by rw [getElem!_pos l.toArray j (by simpa using hj)]; simp⟩
       · simp only [Lib.keeps,decide_eq_true_eq] at hk
         have h0:j≠0:=fun e=>hk (.inl e)
         have he:l.toArray[j]! = l.toArray[j-1]!:=Classical.byContradiction fun hne=>hk (.inr hne)
         obtain ⟨k,hk1,hk2⟩:=ih (j-1) (by omega) (by omega)
         refine ⟨k,hk1,hk2.trans ?_⟩;rw [getElem!_pos l.toArray j (by simpa using hj),getElem!_pos l.toArray (j-1) (by simp; omega)] at he
         simpa using he.symm
     exact key j j hj (G6 _)
def ka (x:Ky):List Ky->List Ky
 | []=>[x]
 | y::r=>if y<x then y::ka x r else if y=x then y::r else x::y::r
theorem kd (x z:Ky):∀ l:List Ky,z∈ka x l↔z=x\/z∈l
 | []=>by simp [ka]
 | y::r=>by
  unfold ka;split
  · simp only [D4,kd x z r]; exact ⟨fun h=>by rcases h with h | h | h <;> simp [h],fun h=>by rcases h with h | h | h <;> simp [h]⟩
  · split
    · rename_i h; subst h; simp
    · simp
theorem tk (x:Ky):∀ {l:List Ky},Asc l->Asc (ka x l)
 | [],h=>by simp [ka,Asc]
 | y::r,h=>by
  obtain ⟨h1,h2⟩:=Q2.1 h;unfold ka;split
  · rename_i hyx
    refine Q2.2 ⟨fun z hz=>?_,tk x h2⟩
    rcases (kd x z r).1 hz with rfl | hz
    · exact hyx
    · exact h1 z hz
  · split
    · exact h
    · rename_i h3 h4
      have hxy:x<y:=(Jl x y).elim id fun h=>h.elim (fun h=>absurd h.symm h4) fun h=>absurd h h3
      refine Q2.2 ⟨fun z hz=>?_,h⟩
      rcases D4.1 hz with rfl | hz
      · exact hxy
      · exact zx hxy (h1 z hz)
def qe:List Ky->List Ky->List Ky
 | [],acc=>acc
 | x::r,acc=>qe r (ka x acc)
theorem pw:∀ (l:List Ky) {acc:List Ky},Asc acc->Asc (qe l acc)/\∀ z,z∈qe l acc↔z∈l\/z∈acc
 | [],acc,h=>⟨h,by simp [qe]⟩
 | x::r,acc,h=>by
  obtain ⟨h1,h2⟩:=pw r (tk x h);refine ⟨h1,fun z=>?_⟩
  simp only [qe,h2,kd,D4];exact ⟨fun h=>by rcases h with h | h | h <;> simp [h],fun h=>by rcases h with (h | h) | h <;> simp [h]⟩
theorem Mw (l:List Ky):(l.mergeSort fun x y=>decide (x<=y)).Pairwise fun a b=>¬ b<a:=by
 have h:=List.pairwise_mergeSort (le:=fun x y:Ky=>decide (x<=y)) (fun a b c h1 h2=>by
  simp only [decide_eq_true_eq] at *;exact List.le_trans h1 h2) (fun a b=>by
  simp only [P4,decide_eq_true_eq];exact List.le_total a b) l
 exact h.imp fun {a b} hab=>by simpa using hab
theorem Ea (l:List Ky):Lib.compact (l.mergeSort fun x y=>decide (x<=y))=qe l []:=by
 obtain ⟨h1,h2⟩:=Hc (Mw l);obtain ⟨h3,h4⟩:=pw l (acc:=[]) (by simp [Asc])
 refine Dz h1 h3 fun x=>?_
 rw [h2,h4,(List.mergeSort_perm l _).mem_iff];simp
def ofK (k:Ky):ByteArray:=⟨k.toArray⟩
def toK (b:ByteArray):Ky:=b.data.toList
theorem Eb (b:ByteArray):ofK (toK b)=b:=by simp [ofK,toK]
theorem Ku (k:Ky):toK (ofK k)=k:=by simp [ofK,toK]
def cu (l:List ByteArray):List ByteArray:=(qe (l.map toK) []).map ofK
theorem tp (l:List ByteArray) (x:ByteArray):x∈cu l↔x∈l:=by
 unfold cu;rw [F2];constructor
 · rintro ⟨k,hk,rfl⟩
   rcases ((pw (l.map toK) (acc:=[]) (by simp [Asc])).2 k).1 hk with hk | hk
   · obtain ⟨b,hb,rfl⟩:=F2.1 hk
     rw [Eb]; exact hb
   · simp at hk
 · intro hx
   exact ⟨toK x,((pw (l.map toK) (acc:=[]) (by simp [Asc])).2 _).2 (.inl (F2.2 ⟨x,hx,rfl⟩)),Eb x⟩
theorem zy:∀ (l acc:List Ky),(qe l acc).length<=l.length+acc.length
 | [],acc=>by simp [qe]
 | x::r,acc=>by
  have h1:∀ acc:List Ky,(ka x acc).length<=acc.length+1:=fun acc=>by
   induction acc with
   | nil=>simp [ka]
   | cons y acc ih =>
    unfold ka;by_cases h1:y<x
    · rw [H5 h1]; simp only [C5]; omega
    · rw [H6 h1]
      by_cases h2:y=x
      · rw [H5 h2]; exact Nat.le_succ _
      · rw [H6 h2]; simp
  have:=zy r (ka x acc);have:=h1 acc;simp only [qe,C5]; omega
theorem ia (l:List ByteArray):(cu l).length<=l.length:=by
 have:=zy (l.map toK) [];simpa [cu] using this
theorem px (k:Ky):et k=ai (ofK k):=rfl
theorem Hd (l:List Ky):l.map et=(l.map ofK).map ai:=by rw [K5]; rfl
theorem zz (l:List ByteArray):l.map ai=(l.map toK).map et:=by
 rw [K5];exact N1 fun b _=>by simp only [Function.comp,px,Eb]
theorem Ue {a b:Ky}:ofK a=ofK b↔a=b:=⟨fun h=>by rw [<- Ku a,h,Ku],fun h=>h▸rfl⟩
theorem Uf (a b:Ky):ltB (ofK a) (ofK b)=decide (a<b):=by rw [Ud]; rfl
theorem Py (v:Nat) (l:List ByteArray) (h:l.length<4611686018427387904):Cc v [.sl (l.map ai)]=some (0,[.sl (((l.map toK).mergeSort fun x y=>decide (x<=y)).map et)]):=by
 unfold Cc;simp only;rw [zz,sx];simp only;rw [show Nat.blt (l.map toK).length 4611686018427387904=true from Nat.ble_eq_true_of_le (by rw [B6]; exact h)]
 rfl
theorem Pz (v:Nat) (l:List Ky) (h:l.length<=9223372036854775807):Cd v [.sl (l.map et)]=some (0,[.sl ((Lib.compact l).map et)]):=by
 unfold Cd;simp only;rw [sx];simp only;rw [show Nat.ble l.length 9223372036854775807=true from Nat.ble_eq_true_of_le h]
 rfl
def ldK (x:Ky):List Ky->Nat
 | []=>0
 | y::r=>if y<x then ldK x r+1 else 0
theorem Qa (x:Ky):∀ l:List Ky,ldK x l<=l.length
 | []=>G6 _
 | y::r=>by unfold ldK; split; · have:=Qa x r; simp only [C5]; omega
            · exact K0 _
theorem Kv (x:Ky):∀ l:List Ky,ka x l=if l[ldK x l]?=some x then l else l.take (ldK x l)++[x]++l.drop (ldK x l)
 | []=>by simp [ka,ldK]
 | y::r=>by
  unfold ka ldK;by_cases h:y<x
  · rw [H5 h,H5 h,Kv x r]
    simp only [List.getElem?_cons_succ,List.take_succ_cons,List.drop_succ_cons,G8];split <;> rfl
  · rw [H6 h,H6 h]
    by_cases h2:y=x
    · rw [H5 h2]; simp [h2]
    · rw [H6 h2]; simp [h2]
theorem Qb (x:Ky) (l:List Ky) (a:Nat) (h:a<l.length):ldK x (l.drop a)=if l[a]<x then ldK x (l.drop (a+1))+1 else 0:=by
 rw [B8 h]; rfl
end Go.Q
end
section
/- Guards and other rows out of data. -/
namespace Go.Q.S
open Go Go.Q
end Go.Q.S
namespace Go.Q.S
open Go Go.Q
theorem allC_len (vars:List ByteArray) (gs:List Gu):(fq vars gs).length<=64:=by
 unfold fq;refine F5 (P5 _ _) ?_;have:=(mg vars.length).2;simp; omega
theorem Ug (vars:List ByteArray) (gs:List Gu):∀ x∈fq vars gs,i64ok (x:Int):=fun x hx=>by
 unfold fq at hx;have h1:=(R7.1 hx).1;have:=(mg vars.length).2;simp at h1;exact i64ok_of (by omega) (by omega)
def nRow (i:Nat):List D:=[.int (i:Int)]
end Go.Q.S
end
section
/- Names,terms,signatures,rules: what their checks compute. -/
namespace Go.Q
open Go
theorem py (s:ByteArray):s.size=s.data.toList.length:=by rw [Array.length_toList]; rfl
theorem ou {s:ByteArray} {i:Nat} (h:i<s.data.toList.length):s.get! i=s.data.toList[i]:=by
 have h':i<s.data.size:=by simpa using h
 show s.data[i]! = _
 rw [getElem!_pos s.data i h'];simp
def Bg (b:UInt8):Bool:=(decide (97<=b.toNat)&&decide (b.toNat<=122))||(decide (48<=b.toNat)&&decide (b.toNat<=57))
def qk (lo hi:Nat):List UInt8->Bool
 | []=>false
 | b::r=>decide ((b::r).length<=8)&&((decide (lo<=b.toNat)&&decide (b.toNat<=hi))&&r.all Bg)
def jh (s:ByteArray):Bool:=qk 97 122 s.data.toList
def qf (s:ByteArray):Bool:=qk 65 90 s.data.toList
theorem He (s:ByteArray):s=⟨#[]⟩↔s.data.toList=[]:=⟨fun h=>by rw [h],fun h=>yg h⟩
theorem Mx {lo hi:Nat} {l:List UInt8} (h:qk lo hi l=true):l.length<=8:=by
 cases l with
 | nil=>simp
 | cons b r=>simp only [qk,B7,decide_eq_true_eq] at h; exact h.1
theorem nv0 (a:D) (l:List D):nth (a::l) 0=a:=id rfl
theorem nvS (a:D) (l:List D) (i:Nat):nth (a::l) (i+1)=nth l i:=id rfl
theorem dvI (n:Int):(D.int n).I=n:=id rfl
theorem dvB (b:Bool):(D.bool b).B=b:=id rfl
theorem dvS (s:ByteArray):(D.str s).S=s:=id rfl
theorem dvL (r:aa):(D.sl r).L=r:=id rfl
namespace Tm
mutual
def depth:Tm->Nat
 | .mk _ _ _ as=>depthL as+1
def depthL:List Tm->Nat
 | []=>0
 | t::ts=>max (depth t) (depthL ts)
end
theorem depth_eq (t:Tm):t.depth=depthL t.as+1:=by cases t; rfl
theorem depth_nodes:∀ t:Tm,t.depth<=t.nodes:=Tm.ind fun t ih=>by
 have h:∀ l:List Tm,(∀ a∈l,a.depth<=a.nodes)->depthL l<=(l.map nodes).sum:=fun l=>by
  induction l with
  | nil=>intro _; exact G6 _
  | cons a l ih =>
   intro hl;have h1:=hl a (C4 ..);have h2:=ih fun b hb=>hl b (C3 _ hb)
   simp only [depthL,C2,J6]; omega
 have:=h t.as ih;rw [depth_eq,nodes_eq]; omega
def nodeN (t:Tm):Bool :=
 if t.k=1 then decide (t.n=0)&&(decide (t.as.length=0)&&qf t.s) else if t.k=3 then isW t else if t.k=2 then decide (t.n=0)&&jh t.s else false
mutual
def areN:Tm->Bool
 | .mk k n s as=>nodeN (.mk k n s as)&&areNL as
def areNL:List Tm->Bool
 | []=>true
 | t::ts=>areN t&&areNL ts
end
theorem areN_eq (t:Tm):t.areN=(nodeN t&&areNL t.as):=by cases t; rfl
theorem areNL_all:∀ l:List Tm,areNL l=l.all areN
 | []=>rfl
 | t::l=>by simp only [areNL,J8,areNL_all l]
def valid (t:Tm):Bool:=decide (t.nodes<=60)&&(decide (t.depth<=16)&&t.areN)
end Tm
inductive Wt:Tm->Prop
 | mk {t:Tm}:S.i64ok t.k->S.i64ok t.n->t.s.size<=maxLen->t.as.length<=maxLen->(∀ a∈t.as,Wt a)->Wt t
theorem Wt.k {t:Tm} (h:Wt t):S.i64ok t.k:=by cases h; assumption
theorem Wt.n {t:Tm} (h:Wt t):S.i64ok t.n:=by cases h; assumption
theorem Wt.s {t:Tm} (h:Wt t):t.s.size<=maxLen:=by cases h; assumption
theorem Wt.l {t:Tm} (h:Wt t):t.as.length<=maxLen:=by cases h; assumption
theorem Wt.sub {t a:Tm} (h:Wt t) (ha:a∈t.as):Wt a:=by cases h with | mk _ _ _ _ h=>exact h a ha
theorem Qc (l:List ByteArray):(cu l).length=l.length↔l.Nodup:=by
 have key:∀ (l acc:List Ky),Asc acc->((qe l acc).length=l.length+acc.length↔(l.Nodup/\∀ x∈l,x∉acc)):=by
  intro l;induction l with
  | nil=>intro acc _; simp [qe]
  | cons x l ih =>
   intro acc ha;have hl:=zy l (ka x acc);have hmem:x∈acc->ka x acc=acc:=fun hx=>Dz (tk x ha) ha fun z=>by
    rw [kd]; exact ⟨fun h=>h.elim (fun e=>e▸hx) id,.inr⟩
   have hlen:∀ acc:List Ky,x∉acc->(ka x acc).length=acc.length+1:=fun acc=>by
    induction acc with
    | nil=>intro _; rfl
    | cons y acc iha =>
     intro hx;have h1:y≠x:=fun e=>hx (e▸C4 ..)
     have h2:=iha fun h=>hx (C3 _ h)
     unfold ka;by_cases h3:y<x
     · rw [H5 h3]; simp only [C5,h2]
     · rw [H6 h3,H6 h1]; rfl
   have ih':=ih (ka x acc) (tk x ha);simp only [qe,C5,List.nodup_cons,List.forall_mem_cons];by_cases hx:x∈acc
   · rw [hmem hx] at hl ⊢
     constructor
     · intro h; omega
     · intro h; exact absurd hx h.2.1
   · have h1:=hlen acc hx
     rw [show l.length+1+acc.length=l.length+(ka x acc).length by omega,ih']
     constructor
     · rintro ⟨h2,h3⟩
       exact ⟨⟨fun hxl=>h3 x hxl ((kd ..).2 (.inl rfl)),h2⟩,hx,fun z hz hza=>h3 z hz ((kd ..).2 (.inr hza))⟩
     · rintro ⟨⟨h2,h3⟩,h4,h5⟩
       exact ⟨h3,fun z hz hza=>((kd ..).1 hza).elim (fun e=>h2 (e▸hz)) (h5 z hz)⟩
 have h:=key (l.map toK) [] (by simp [Asc])
 have hn:(l.map toK).Nodup↔l.Nodup:=by
  constructor
  · exact fun h=>(List.pairwise_map.1 h).imp fun {a b} (hab:toK a≠toK b) (e:a=b)=>hab (congrArg toK e)
  · exact fun h=>List.pairwise_map.2 (h.imp fun {a b} hab e=>hab (yg e))
 unfold cu;rw [B6];rw [<- hn];simpa using h
def dis (l:List ByteArray):Bool:=decide l.Nodup
def je (r:List ByteArray) (s:ByteArray):Bool:=r.any fun y=>decide (y=s)
theorem tq {r:List ByteArray} {s:ByteArray}:je r s=true↔s∈r:=by
 simp only [je,R3,decide_eq_true_eq];exact ⟨fun ⟨y,h,e⟩=>e▸h,fun h=>⟨s,h,rfl⟩⟩
def wo (l r:List ByteArray):List ByteArray:=l.filter fun s=>!je r s
abbrev cy:ByteArray:=⟨#[119,111,114,100]⟩
abbrev e0:ByteArray:=⟨#[]⟩
structure OpM where
 n:ByteArray
 a:List ByteArray
 r:ByteArray
def OpM.row (o:OpM):List D:=[.str o.n,.sl (o.a.map ai),.str o.r]
def OpM.ok (o:OpM):Prop:=o.a.length<=1048576
structure ow (ops:List OpM):Prop where
 l:ops.length<=1048576
 a:∀ o∈ops,o.ok
def ke:Option OpM->List D
 | some o=>[.str o.n,.str o.r,.bool true,.sl (o.a.map ai)]
 | none=>[.str e0,.str e0,.bool false,.sl []]
def dj (ops:List OpM) (s:ByteArray):Option OpM:=if isB s then some ⟨s,[cy,cy],cy⟩ else ops.find? fun o=>decide (o.n=s)
theorem Aa {ops:List OpM} (h:∀ o∈ops,o.ok) {s:ByteArray} {o:OpM} (hf:dj ops s=some o):o.ok:=by
 unfold dj at hf;split at hf
 · simp only [C7.injEq] at hf; subst hf; show 2<=1048576; decide
 · exact h o (S6 hf)
abbrev VS:=ByteArray×ByteArray
def VS.row (v:VS):List D:=[.str v.1,.str v.2]
def ql (vs:List VS) (s:ByteArray):ByteArray:=match vs.find? fun v=>decide (v.1=s) with | some v=>v.2 | none=>e0
mutual
def aw (ops:List OpM) (vs:List VS):Tm->ByteArray
 | .mk k n s as=>if k=3 then cy else if k=1 then ql vs s else if k=2 then (match dj ops s with
  | none=>e0
  | some o=>if o.a.length=as.length then (if bj ops vs as o.a then o.r else e0) else e0) else e0
def bj (ops:List OpM) (vs:List VS):List Tm->List ByteArray->Bool
 | [],_=>true
 | t::ts,[]=>true
 | t::ts,x::xs=>(!decide (aw ops vs t=e0)&&decide (aw ops vs t=x))&&bj ops vs ts xs
end
theorem ck (ops:List OpM) (vs:List VS) (t:Tm):aw ops vs t=if t.k=3 then cy else if t.k=1 then ql vs t.s else if t.k=2 then (match dj ops t.s with
 | none=>e0
 | some o=>if o.a.length=t.as.length then (if bj ops vs t.as o.a then o.r else e0) else e0) else e0:=by cases t; simp only [aw,Tm.k,Tm.s,Tm.as]; rfl
mutual
def gn (ops:List OpM):Tm->ByteArray->List VS->Option (List VS)
 | .mk k n s as,so,vs=>if k=1 then (match vs.find? fun v=>decide (v.1=s) with
  | some v=>if v.2=so then some vs else none
  | none=>some (vs++[(s,so)])) else em ops as (if k=2 then (match dj ops s with | some o=>o.a | none=>[]) else []) vs
def em (ops:List OpM):List Tm->List ByteArray->List VS->Option (List VS)
 | [],_,vs=>some vs
 | t::ts,[],vs=>match gn ops t e0 vs with | some vs'=>em ops ts [] vs' | none=>none
 | t::ts,x::xs,vs=>match gn ops t x vs with | some vs'=>em ops ts xs vs' | none=>none
end
theorem kr (ops:List OpM) (t:Tm) (so:ByteArray) (vs:List VS):gn ops t so vs=if t.k=1 then (match vs.find? fun v=>decide (v.1=t.s) with
 | some v=>if v.2=so then some vs else none
 | none=>some (vs++[(t.s,so)])) else em ops t.as (if t.k=2 then (match dj ops t.s with | some o=>o.a | none=>[]) else []) vs:=by cases t; simp only [gn,Tm.k,Tm.s,Tm.as]; rfl
def Bh (ops:List OpM) (t:Tm) (so:ByteArray) (vs:List VS):List D:=match gn ops t so vs with
 | some v=>[.bool true,.sl (v.map VS.row)]
 | none=>[.bool false,.sl (if t.k=1 then vs.map VS.row else [])]
def tu:Option (List VS)->List D
 | some v=>[.bool true,.sl (v.map VS.row)]
 | none=>[.bool false,.sl []]
theorem Hf (ops:List OpM):∀ (l:List Tm),(∀ t∈l,∀ x vs vs',gn ops t x vs=some vs'->vs'.length<=vs.length+t.nodes)->∀ xs vs vs',em ops l xs vs=some vs'->vs'.length<=vs.length+(l.map Tm.nodes).sum
 | [],_,xs,vs,vs',h=>by simp only [em,C7.injEq] at h; subst h; simp
 | t::l,ih,xs,vs,vs',h=>by
  have step:∀ x ys,(match gn ops t x vs with | some vs'=>em ops l ys vs' | none=>none)=some vs'->vs'.length<=vs.length+((t::l).map Tm.nodes).sum:=fun x ys h=>by
   cases hq:gn ops t x vs with
   | none=>rw [hq] at h; simp at h
   | some v =>
    rw [hq] at h;have h1:=ih t (C4 ..) x vs v hq;have h2:=Hf ops l (fun a ha=>ih a (C3 _ ha)) ys v vs' h
    simp only [C2,J6]; omega
  cases xs with
  | nil=>exact step _ _ (by simpa only [em] using h)
  | cons x ys=>exact step _ _ (by simpa only [em] using h)
theorem kf (ops:List OpM):∀ t:Tm,∀ x vs vs',gn ops t x vs=some vs'->vs'.length<=vs.length+t.nodes:=Tm.ind fun t ih x vs vs' h=>by
 rw [kr] at h;split at h
 · split at h
   · split at h
     · simp only [C7.injEq] at h; subst h; omega
     · simp at h
   · simp only [C7.injEq] at h; subst h
     rw [Tm.nodes_eq]; simp
 · have:=Hf ops t.as ih _ _ _ h
   rw [Tm.nodes_eq]; omega
def oz (ops:List OpM) (t:Tm) (so:ByteArray):Option (List VS):=match gn ops t so [] with
 | some vs=>if so=e0 then none else if aw ops vs t=so then some vs else none
 | none=>none
def Ab (so:List ByteArray) (ops:List OpM):Bool :=
 decide (so.length<=4)&&(dis so&&(decide (ops.length<=16)&&((so.all fun x=>jh x&&!decide (x=cy))&&((ops.all fun o=>jh o.n&&(!isB o.n&&(decide (o.a.length<=3)&&(o.a.all (fun x=>decide (x=cy)||je so x)&&(decide (o.r=cy)||je so o.r)))))&&dis (ops.map (·.n))))))
structure RuM where
 n:ByteArray
 l:Tm
 r:Tm
 g:List Gu
def RuM.row (r:RuM):List D:=[.str r.n,.int r.l.k,.int r.l.n,.str r.l.s,.sl (r.l.as.map Tm.row),.int r.r.k,.int r.r.n,.str r.r.s,.sl (r.r.as.map Tm.row),.sl (r.g.map Gu.row)]
def RuM.ok (r:RuM):Prop:=r.l.nodes<=1048577/\r.r.nodes<=1048577/\r.g.length<=1048576/\∀ g∈r.g,g.ok
mutual
def qm:Tm->Bool
 | .mk k n s as=>!(decide (k=2)&&isB s)&&kg as
def kg:List Tm->Bool
 | []=>true
 | t::ts=>qm t&&kg ts
end
theorem Hg (t:Tm):qm t=(!(decide (t.k=2)&&isB t.s)&&kg t.as):=by cases t; rfl
def fh (t:Tm) (names:List ByteArray):Bool:=t.names.all fun s=>je names s
def qg (ops:List OpM) (vs:List VS) (g:Gu):Bool :=
 (decide (1<=g.k)&&decide (g.k<=3))&&(g.l.valid&&(g.r.valid&&(!decide (aw ops vs g.l=e0)&&(decide (aw ops vs g.l=aw ops vs g.r)&&!(decide (g.k=3)&&!decide (aw ops vs g.l=cy))))))
def xf (ops:List OpM) (vs:List VS) (gs:List Gu):Bool:=gs.all (qg ops vs)&&decide (gs.length<=2)
def jg (ops:List OpM) (r:RuM):Bool :=
 jh r.n&&(r.l.valid&&(decide (r.l.k=2)&&(qm r.l&&(r.r.valid&&(match dj ops r.l.s with
  | none=>false
  | some o=>match oz ops r.l o.r with
   | none=>false
   | some vs=>decide (aw ops vs r.r=o.r)&&(fh r.r r.l.names&&xf ops vs r.g))))))
structure StM where
 o:ByteArray
 a:Int
def StM.row (s:StM):List D:=[.str s.o,.int s.a]
structure DfM where
 so:List ByteArray
 op:List OpM
 ru:List RuM
 st:List StM
structure DfM.ok (d:DfM):Prop where
 so:d.so.length<=1048576
 op:d.op.length<=1048576
 opa:∀ o∈d.op,o.ok
 ru:d.ru.length<=1048576
 rua:∀ r∈d.ru,r.ok
 st:d.st.length<=1048576
def My (ops:List OpM) (s:StM):Bool:=match dj ops s.o with
 | none=>false
 | some o=>!isB s.o&&(decide (0<=s.a)&&decide (s.a<o.a.length))
def kh (ops:List OpM):List StM->List StM->Bool
 | _,[]=>true
 | pre,x::r=>My ops x&&(!(pre.any fun y=>decide (y.o=x.o)&&decide (y.a=x.a))&&kh ops (pre++[x]) r)
def DfM.valid (d:DfM):Bool:=Ab d.so d.op&&(decide (d.ru.length<=16)&&(decide (d.st.length<=8)&&(d.ru.all (jg d.op)&&(kh d.op [] d.st&&dis (d.ru.map (·.n))))))
end Go.Q
end
section
namespace Go.Q
open Go
structure GuB (g:Gu):Prop where
 wl:Wt g.l
 wr:Wt g.r
 ln:g.l.nodes<=1048577
 rn:g.r.nodes<=1048577
structure RuB (r:RuM):Prop where
 n:r.n.size<=maxLen
 wl:Wt r.l
 wr:Wt r.r
 ln:r.l.nodes<=1048577
 rn:r.r.nodes<=1048577
 g:r.g.length<=1048576
 ga:∀ g∈r.g,GuB g
structure DfB (d:DfM):Prop where
 so:d.so.length<=1048576
 sos:∀ x∈d.so,x.size<=maxLen
 op:ow d.op
 opn:∀ o∈d.op,o.n.size<=maxLen
 ru:d.ru.length<=1048576
 rua:∀ r∈d.ru,RuB r
 st:d.st.length<=1048576
theorem lh (ops:List OpM) (vs:List VS):∀ (l:List Tm) (xs:List ByteArray),l.length<=xs.length->bj ops vs l xs=true->∀ t∈l,aw ops vs t≠e0
 | [],_,_,_,t,ht=>by simp at ht
 | t::l,[],hl,_,_,_=>by simp at hl
 | t::l,x::xs,hl,h,u,hu=>by
  simp only [bj,B7,E8,decide_eq_false_iff_not,decide_eq_true_eq] at h;rcases D4.1 hu with e | hu
  · exact e▸h.1.1
  · exact lh ops vs l xs (by simpa using hl) h.2 u hu
theorem Mz {vs:List VS} {s:ByteArray} (h:ql vs s≠e0):∃ v∈vs,v.1=s:=by
 unfold ql at h;cases hq:vs.find? (fun v=>decide (v.1=s)) with
 | none=>rw [hq] at h; exact absurd rfl h
 | some v=>exact ⟨v,S6 hq,by simpa using List.find?_some hq⟩
theorem xg (ops:List OpM) (vs:List VS):∀ t:Tm,t.areN=true->aw ops vs t≠e0->∀ x∈t.names,∃ v∈vs,v.1=x:=Tm.ind fun t ih hn hs x hx=>by
 rw [Tm.areN_eq,B7,Tm.areNL_all,D9] at hn;obtain ⟨h1,h2⟩:=hn;rw [Tm.names_eq] at hx;rw [ck] at hs;unfold Tm.nodeN at h1;by_cases hk1:t.k=1
 · rw [H5 hk1] at h1
   simp only [B7,decide_eq_true_eq] at h1;have ha:t.as=[]:=F1.1 h1.2.1;rw [ha] at hx;rw [H6 (by omega),H5 hk1] at hs
   simp only [hk1,if_true,List.flatMap_nil,J3,F8] at hx;subst hx;exact Mz hs
 · rw [H6 hk1] at hx
   obtain ⟨a,ha,hxa⟩:=K2.1 hx;by_cases hk3:t.k=3
   · rw [H6 hk1,H5 hk3] at h1
     have:t.as=[]:=by simp only [isW,B7,decide_eq_true_eq] at h1; exact F1.1 h1.2.2.2.2
     rw [this] at ha; simp at ha
   · rw [H6 hk3,H6 hk1] at hs
     by_cases hk2:t.k=2
     · rw [H5 hk2] at hs
       cases hf:dj ops t.s with
       | none=>rw [hf] at hs; exact absurd rfl hs
       | some o =>
        rw [hf] at hs;simp only at hs;by_cases hl:o.a.length=t.as.length
        · rw [H5 hl] at hs
          by_cases hss:bj ops vs t.as o.a=true
          · exact ih a ha (h2 a ha) (lh ops vs t.as o.a (by omega) hss a ha) x hxa
          · rw [H6 hss] at hs; exact absurd rfl hs
        · rw [H6 hl] at hs; exact absurd rfl hs
     · rw [H6 hk2] at hs; exact absurd rfl hs
theorem Ac (ops:List OpM):∀ (l:List Tm),(∀ t∈l,∀ x vs vs',gn ops t x vs=some vs'->∀ v∈vs',v∈vs\/v.1∈t.names)->∀ xs vs vs',em ops l xs vs=some vs'->∀ v∈vs',v∈vs\/v.1∈l.flatMap Tm.names
 | [],_,xs,vs,vs',h,v,hv=>by simp only [em,C7.injEq] at h; subst h; exact .inl hv
 | t::l,ih,xs,vs,vs',h,v,hv=>by
  have step:∀ x ys w,gn ops t x vs=some w->em ops l ys w=some vs'->v∈vs\/v.1∈(t::l).flatMap Tm.names:=fun x ys w hq h=>by
   simp only [O4,D0];rcases Ac ops l (fun a ha=>ih a (C3 _ ha)) ys w vs' h v hv with h1 | h1
   · rcases ih t (C4 ..) x vs w hq v h1 with h2 | h2
     · exact .inl h2
     · exact .inr (.inl h2)
   · exact .inr (.inr h1)
  cases xs with
  | nil =>
   simp only [em] at h;split at h
   · rename_i w hq; exact step _ _ w hq h
   · simp at h
  | cons x ys =>
   simp only [em] at h;split at h
   · rename_i w hq; exact step _ _ w hq h
   · simp at h
theorem Jm (ops:List OpM):∀ t:Tm,∀ x vs vs',gn ops t x vs=some vs'->∀ v∈vs',v∈vs\/v.1∈t.names:=Tm.ind fun t ih x vs vs' h v hv=>by
 rw [kr] at h;rw [Tm.names_eq];by_cases hk:t.k=1
 · rw [H5 hk] at h ⊢
   split at h
   · split at h
     · simp only [C7.injEq] at h; subst h; exact .inl hv
     · simp at h
   · simp only [C7.injEq] at h; subst h
     rcases D0.1 hv with h1 | h1
     · exact .inl h1
     · simp only [F8] at h1; subst h1; simp
 · rw [H6 hk] at h
   rcases Ac ops t.as ih _ _ _ h v hv with h1 | h1
   · exact .inl h1
   · exact .inr (D0.2 (.inr h1))
theorem tv {ops:List OpM} {t:Tm} {x:ByteArray} {vs:List VS} (h:oz ops t x=some vs):gn ops t x []=some vs:=by
 unfold oz at h;cases hq:gn ops t x [] with
 | none=>rw [hq] at h; simp at h
 | some w =>
  rw [hq] at h;simp only at h;split at h
  · simp at h
  · split at h
    · exact h
    · simp at h
theorem Jn {ops:List OpM} {t:Tm} {x:ByteArray} {vs:List VS} (h:oz ops t x=some vs):∀ v∈vs,v.1∈t.names:=fun v hv=>by
 rcases Jm ops t x [] vs (tv h) v hv with h1 | h1
 · simp at h1
 · exact h1
theorem Hh {ops:List OpM} {t:Tm} {x:ByteArray} {vs:List VS} (h:oz ops t x=some vs):vs.length<=t.nodes:=by
 have:=kf ops t x [] vs (tv h); simpa using this
theorem fj {t:Tm} {names:List ByteArray}:fh t names=true↔∀ x∈t.names,x∈names:=by
 simp only [fh,D9,tq]
theorem dk {t:Tm} (h:t.valid=true):t.areN=true:=by
 simp only [Tm.valid,B7] at h; exact h.2.2
theorem Hi {ops:List OpM} {vs:List VS} {g:Gu} {names:List ByteArray} (hv:∀ v∈vs,v.1∈names) (h:qg ops vs g=true):fh g.l names=true/\fh g.r names=true:=by
 simp only [qg,B7,E8,decide_eq_false_iff_not,decide_eq_true_eq] at h;obtain ⟨_,h1,h2,h3,h4,_⟩:=h;constructor
 · refine fj.2 fun x hx=>?_
   obtain ⟨v,hm,e⟩:=xg ops vs g.l (dk h1) h3 x hx;exact e▸hv v hm
 · refine fj.2 fun x hx=>?_
   obtain ⟨v,hm,e⟩:=xg ops vs g.r (dk h2) (h4▸h3) x hx;exact e▸hv v hm
theorem Jo (l r:List ByteArray):decide ((wo l r).length=0)=l.all fun s=>je r s:=by
 induction l with
 | nil=>rfl
 | cons x l ih =>
  unfold wo at ih ⊢;rw [O9,J8];cases h:je r x with
  | true=>simpa using ih
  | false=>simp
theorem Ww (t u:Tm):(wo (cu t.names) (cu u.names)).length=0↔fh t u.names=true:=by
 have:=Jo (cu t.names) (cu u.names);rw [<- decide_eq_true_iff (p:=(wo (cu t.names) (cu u.names)).length=0),this,fj];simp only [D9,tq,tp]
theorem Uh (t:Tm) (ns:List ByteArray):(wo (cu t.names) ns).length=0↔fh t ns=true:=by
 have:=Jo (cu t.names) ns;rw [<- decide_eq_true_iff (p:=(wo (cu t.names) ns).length=0),this,fj];simp only [D9,tq,tp]
end Go.Q
end
section
namespace Go.Q
open Go
def wv (vars:List ByteArray):List VS:=vars.map fun s=>(s,cy)
def mi (d:DfM) (vars:List ByteArray) (t:Tm):Bool :=
 d.valid&&(decide (vars.length<=3)&&(dis vars&&(vars.all qf&&(t.valid&&(fh t vars&&!decide (aw d.op (wv vars) t=e0))))))
structure ClM where
 d:DfM
 v:List ByteArray
 l:Tm
 r:Tm
 g:List Gu
def ClM.row (c:ClM):List D:=[.sl (c.d.so.map ai),.sl (c.d.op.map OpM.row),.sl (c.d.ru.map RuM.row),.sl (c.d.st.map StM.row),.sl (c.v.map ai),.int c.l.k,.int c.l.n,.str c.l.s,.sl (c.l.as.map Tm.row),.int c.r.k,.int c.r.n,.str c.r.s,.sl (c.r.as.map Tm.row),.sl (c.g.map Gu.row)]
structure ClB (c:ClM):Prop where
 d:DfB c.d
 v:c.v.length<=1048576
 vs:∀ x∈c.v,x.size<=maxLen
 wl:Wt c.l
 wr:Wt c.r
 ln:c.l.nodes<=1048577
 rn:c.r.nodes<=1048577
 g:c.g.length<=1048576
 ga:∀ g∈c.g,GuB g
def ClM.valid (c:ClM):Bool:=mi c.d c.v c.l&&(mi c.d c.v c.r&&(decide (aw c.d.op (wv c.v) c.l=aw c.d.op (wv c.v) c.r)&&xf c.d.op (wv c.v) c.g))
theorem Qd (vars:List ByteArray):∀ v∈wv vars,v.1∈vars:=fun v hv=>by
 obtain ⟨s,h,e⟩:=F2.1 hv;exact e▸h
end Go.Q
end
section
/- Definitions and claims out of data. -/
namespace Go.Q.S
open Go Go.Q
end Go.Q.S
end
section
/- Matching,firing,sorts along a step. -/
namespace Go.Q
open Go
theorem Ad {l l':List Bnd} (h:∀ s,bnd l s=bnd l' s):∀ t,aS l t=aS l' t:=Tm.ind fun t ih=>by
 have hm:t.as.map (aS l)=t.as.map (aS l'):=N1 fun a ha=>ih a ha
 rw [ee,ee l',h,hm]
theorem Jp {l l':List Bnd} (h:∀ s,bnd l s=bnd l' s) (g:Gu):dn l g=dn l' g:=by
 unfold dn; rw [Ad h,Ad h]
theorem Ec (l l':List Bnd) (s:ByteArray):bnd (l++l') s=match bnd l s with
 | some v=>some v
 | none=>bnd l' s:=by
 induction l with
 | nil=>rfl
 | cons b l ih =>
  simp only [G8,bnd];by_cases h:b.1=s
  · rw [H5 h,H5 h]
  · rw [H6 h,H6 h,ih]
mutual
noncomputable def mT:Tm->Tm->List Bnd->Option (List Bnd)
 | .mk k n s as,u,l =>
  if k=1 then (match bnd l s with
   | some v=>if eqb v.row u.row=true then some l else none
   | none=>some (l++[(s,u)]))
  else if k=u.k then (if n=u.n then (if s=u.s then (if as.length=u.as.length then mTs as u.as l else none) else none) else none) else none
noncomputable def mTs:List Tm->List Tm->List Bnd->Option (List Bnd)
 | [],_,l=>some l
 | _::_,[],_=>none
 | t::ts,u::us,l=>match mT t u l with
  | some l'=>mTs ts us l'
  | none=>none
end
theorem Kw (t u:Tm) (l:List Bnd):mT t u l=if t.k=1 then (match bnd l t.s with
 | some v=>if eqb v.row u.row=true then some l else none
 | none=>some (l++[(t.s,u)]))
 else if t.k=u.k then (if t.n=u.n then (if t.s=u.s then (if t.as.length=u.as.length then mTs t.as u.as l else none) else none) else none) else none:=by
 cases t; simp only [mT,Tm.k,Tm.n,Tm.s,Tm.as]; rfl
theorem ib {t u:Tm} {l l':List Bnd} (h:mT t u l=some l') :
 (t.k=1/\(∃ v,bnd l t.s=some v)/\l'=l)\/(t.k=1/\bnd l t.s=none/\l'=l++[(t.s,u)]) ∨
 (t.k≠1/\t.k=u.k/\t.n=u.n/\t.s=u.s/\t.as.length=u.as.length/\mTs t.as u.as l=some l'):=by
 rw [Kw] at h;by_cases h1:t.k=1
 · rw [H5 h1] at h
   cases hb:bnd l t.s with
   | some v =>
    rw [hb] at h;simp only at h;split at h
    · simp only [C7.injEq] at h; exact .inl ⟨h1,⟨v,rfl⟩,h.symm⟩
    · simp at h
   | none =>
    rw [hb] at h;simp only [C7.injEq] at h;exact .inr (.inl ⟨h1,rfl,h.symm⟩)
 · rw [H6 h1] at h
   split at h
   · split at h
     · split at h
       · split at h
         · exact .inr (.inr ⟨h1,by assumption,by assumption,by assumption,by assumption,h⟩)
         · simp at h
       · simp at h
     · simp at h
   · simp at h
theorem pa (P:Tm->Prop) (hP:∀ t a,P t->a∈t.as->P a):∀ t u l l',P u->(∀ b∈l,P b.2)->mT t u l=some l'->∀ b∈l',P b.2:=Tm.ind fun t ih u l l' hu hl h=>by
 rcases ib h with ⟨_,_,e⟩|⟨_,_,e⟩|⟨_,_,_,_,_,h⟩
 · subst e; exact hl
 · subst e
   intro b hb;rcases D0.1 hb with hb | hb
   · exact hl b hb
   · simp only [F8] at hb; subst hb; exact hu
 · have key:∀ (ts us:List Tm) (l l':List Bnd),(∀ a∈ts,a∈t.as)->(∀ a∈us,P a)->(∀ b∈l,P b.2)->mTs ts us l=some l'->∀ b∈l',P b.2:=by
    intro ts;induction ts with
    | nil=>intro us l l' _ _ hl h; simp only [mTs,C7.injEq] at h; subst h; exact hl
    | cons a ts ihs =>
     intro us l l' hts hus hl h;cases us with
     | nil=>simp [mTs] at h
     | cons b us =>
      simp only [mTs] at h;split at h
      · rename_i l1 h1
        exact ihs us l1 l' (fun x hx=>hts x (C3 _ hx)) (fun x hx=>hus x (C3 _ hx)) (ih a (hts a (C4 ..)) b l l1 (hus b (C4 ..)) hl h1) h
      · simp at h
   exact key _ _ _ _ (fun _ h=>h) (fun a ha=>hP u a hu ha) hl h
theorem Ae:∀ t u l l',mT t u l=some l'->l'.length<=l.length+t.nodes:=Tm.ind fun t ih u l l' h=>by
 have hn:=Tm.nodes_eq t;rcases ib h with ⟨_,_,e⟩|⟨_,_,e⟩|⟨_,_,_,_,_,h⟩
 · subst e; omega
 · subst e; simp; omega
 · have key:∀ (ts us:List Tm) (l l':List Bnd),(∀ a∈ts,a∈t.as)->mTs ts us l=some l'->l'.length<=l.length+(ts.map Tm.nodes).sum:=by
    intro ts;induction ts with
    | nil=>intro us l l' _ h; simp only [mTs,C7.injEq] at h; subst h; simp
    | cons a ts ihs =>
     intro us l l' hts h;cases us with
     | nil=>simp [mTs] at h
     | cons b us =>
      simp only [mTs] at h;split at h
      · rename_i l1 h1
        have q1:=ih a (hts a (C4 ..)) b l l1 h1;have q2:=ihs us l1 l' (fun x hx=>hts x (C3 _ hx)) h
        simp only [C2,J6]; omega
      · simp at h
   have:=key _ _ _ _ (fun _ h=>h) h
   omega
theorem Qe:∀ t u l l',mT t u l=some l'->∀ s,bnd l' s≠none->bnd l s≠none\/s∈t.names:=Tm.ind fun t ih u l l' h s hs=>by
 rw [Tm.names_eq];rcases ib h with ⟨_,_,e⟩|⟨hk,_,e⟩|⟨_,_,_,_,_,h⟩
 · subst e; exact .inl hs
 · subst e
   rw [Ec] at hs;cases hb:bnd l s with
   | some v=>exact .inl (by simp)
   | none =>
    rw [hb] at hs;simp only [bnd] at hs;by_cases e:t.s=s
    · right; rw [H5 hk,e]; simp
    · rw [H6 e] at hs; exact absurd rfl hs
 · have key:∀ (ts us:List Tm) (l l':List Bnd),(∀ a∈ts,a∈t.as)->mTs ts us l=some l'->bnd l' s≠none->bnd l s≠none\/s∈ts.flatMap Tm.names:=by
    intro ts;induction ts with
    | nil=>intro us l l' _ h hs; simp only [mTs,C7.injEq] at h; subst h; exact .inl hs
    | cons a ts ihs =>
     intro us l l' hts h hs;cases us with
     | nil=>simp [mTs] at h
     | cons b us =>
      simp only [mTs] at h;split at h
      · rename_i l1 h1
        simp only [O4,D0];rcases ihs us l1 l' (fun x hx=>hts x (C3 _ hx)) h hs with q | q
        · rcases ih a (hts a (C4 ..)) b l l1 h1 s q with q | q
          · exact .inl q
          · exact .inr (.inl q)
        · exact .inr (.inr q)
      · simp at h
   rcases key _ _ _ _ (fun _ h=>h) h hs with q | q
   · exact .inl q
   · exact .inr (D0.2 (.inr q))
def rsB (l:List Bnd) (ns:List ByteArray):List Bnd:=ns.filterMap fun s=>(bnd l s).map fun v=>(s,v)
open Classical in
theorem Kx (l:List Bnd) (s:ByteArray):∀ ns:List ByteArray,bnd (rsB l ns) s=if s∈ns then bnd l s else none
 | []=>by simp [rsB,bnd]
 | x::ns=>by
  have ih:=Kx l s ns;unfold rsB at ih ⊢;rw [List.filterMap_cons];cases hx:bnd l x with
  | none =>
   simp only [Option.map_none];rw [ih];by_cases h:s∈ns
   · rw [H5 h,H5 (C3 _ h)]
   · rw [H6 h]
     by_cases e:s=x
     · subst e; rw [H5 (C4 ..),hx]
     · rw [H6 (by simp [e,h])]
  | some v =>
   simp only [N2,bnd];by_cases e:x=s
   · subst e; rw [H5 rfl,H5 (C4 ..),hx]
   · rw [H6 e,ih]
     by_cases h:s∈ns
     · rw [H5 h,H5 (C3 _ h)]
     · rw [H6 h,H6 (by simp [h,Ne.symm e])]
theorem Na {t u:Tm} {l:List Bnd} (h:mT t u []=some l) (s:ByteArray):bnd (rsB l (cu (cu t.names))) s=bnd l s:=by
 rw [Kx];by_cases hs:s∈cu (cu t.names)
 · rw [H5 hs]
 · rw [H6 hs]
   cases hb:bnd l s with
   | none=>rfl
   | some v =>
    rcases Qe t u [] l h s (by rw [hb]; simp) with q | q
    · exact absurd rfl q
    · exact absurd ((tp _ _).2 ((tp _ _).2 q)) hs
noncomputable def fm (r:RuM) (u:Tm):Option Tm:=match mT r.l u [] with
 | none=>none
 | some l=>if (r.g.all fun g=>holds (dn l g))=true then some (rW (aS l r.r)) else none
def ex (vs:List VS) (s:ByteArray):Option VS:=vs.find? fun v=>decide (v.1=s)
theorem Hj (vs:List VS) (s:ByteArray):ql vs s=match ex vs s with | some v=>v.2 | none=>e0:=rfl
theorem vk (vs:List VS) (x:VS) (s:ByteArray):ex (vs++[x]) s=match ex vs s with
 | some v=>some v
 | none=>if x.1=s then some x else none:=by
 unfold ex;rw [List.find?_append];cases h:vs.find? fun v=>decide (v.1=s) with
 | some v=>rfl
 | none=>by_cases e:x.1=s <;> simp [e]
def pb (ops:List OpM) (vs:List VS) (l:List Bnd):Prop:=∀ s,match ex vs s,bnd l s with
 | none,none=>True
 | some v,some w=>aw ops [] w=v.2
 | _,_=>False
theorem pb.none {ops:List OpM} {vs:List VS} {l:List Bnd} (h:pb ops vs l) {s:ByteArray} (hv:ex vs s=Option.none):bnd l s=Option.none:=by
 have:=h s;rw [hv] at this;cases hb:bnd l s with
 | none=>rfl
 | some w=>rw [hb] at this; exact this.elim
theorem pb.some {ops:List OpM} {vs:List VS} {l:List Bnd} (h:pb ops vs l) {s:ByteArray} {v:VS} (hv:ex vs s=some v):∃ w,bnd l s=some w/\aw ops [] w=v.2:=by
 have:=h s;rw [hv] at this;cases hb:bnd l s with
 | none=>rw [hb] at this; exact this.elim
 | some w=>rw [hb] at this; exact ⟨w,rfl,this⟩
theorem ir {ops:List OpM} {vs:List VS} {t:Tm} (hk:t.k=2) (hs:aw ops vs t≠e0):∃ o,dj ops t.s=some o/\o.a.length=t.as.length/\bj ops vs t.as o.a=true/\aw ops vs t=o.r:=by
 rw [ck,H6 (by omega),H6 (by omega),H5 hk] at hs
 rw [ck,H6 (by omega),H6 (by omega),H5 hk]
 cases hf:dj ops t.s with
 | none=>rw [hf] at hs; exact absurd rfl hs
 | some o =>
  rw [hf] at hs;simp only at hs ⊢;by_cases hl:o.a.length=t.as.length
  · rw [H5 hl] at hs ⊢
    by_cases hq:bj ops vs t.as o.a=true
    · exact ⟨o,rfl,hl,hq,by rw [H5 hq]⟩
    · rw [H6 hq] at hs; exact absurd rfl hs
  · rw [H6 hl] at hs; exact absurd rfl hs
theorem kj {ops:List OpM} {vs:List VS} {t:Tm} (hk:t.k=2) {o:OpM} (hf:dj ops t.s=some o) (hl:o.a.length=t.as.length) (hq:bj ops vs t.as o.a=true):aw ops vs t=o.r:=by
 rw [ck,H6 (by omega),H6 (by omega),H5 hk,hf]
 simp only [H5 hl,H5 hq]
theorem dg {t:Tm} (h:t.areN=true):(t.k=1/\t.as=[])\/(t.k=3/\isW t=true/\t.as=[])\/t.k=2:=by
 rw [Tm.areN_eq,B7] at h;have h:=h.1;unfold Tm.nodeN at h;by_cases h1:t.k=1
 · rw [H5 h1] at h
   simp only [B7,decide_eq_true_eq] at h;exact .inl ⟨h1,F1.1 h.2.1⟩
 · rw [H6 h1] at h
   by_cases h3:t.k=3
   · rw [H5 h3] at h
     have h':=h;simp only [isW,B7,decide_eq_true_eq] at h';exact .inr (.inl ⟨h3,h,F1.1 h'.2.2.2.2⟩)
   · rw [H6 h3] at h
     by_cases h2:t.k=2
     · exact .inr (.inr h2)
     · rw [H6 h2] at h; simp at h
theorem dt {t a:Tm} (h:t.areN=true) (ha:a∈t.as):a.areN=true:=by
 rw [Tm.areN_eq,B7,Tm.areNL_all,D9] at h;exact h.2 a ha
theorem Hk (ops:List OpM):∀ t,t.areN=true->∀ u x vs vs' l l',aw ops [] u=x->x≠e0->pb ops vs l->gn ops t x vs=some vs'->mT t u l=some l'->pb ops vs' l':=Tm.ind fun t ih hn u x vs vs' l l' hu hx hA hi hm=>by
 rw [kr] at hi;by_cases h1:t.k=1
 · rw [H5 h1] at hi
   cases hv:ex vs t.s with
   | some v =>
    unfold ex at hv;rw [hv] at hi;simp only at hi;obtain ⟨w,hb,_⟩:=hA.some hv;split at hi
    · simp only [C7.injEq] at hi
      subst hi;rcases ib hm with ⟨_,_,e⟩|⟨_,q,_⟩|⟨q,_⟩
      · subst e; exact hA
      · rw [hb] at q; simp at q
      · exact absurd h1 q
    · simp at hi
   | none =>
    have hb:=hA.none hv;have hv':=hv;unfold ex at hv;rw [hv] at hi;simp only [C7.injEq] at hi;subst hi;rcases ib hm with ⟨_,⟨v,q⟩,_⟩|⟨_,_,e⟩|⟨q,_⟩
    · rw [hb] at q; simp at q
    · subst e
      intro s;have hs:=hA s;rw [vk,Ec];cases q1:ex vs s with
      | some v =>
       rw [q1] at hs;cases q2:bnd l s with
       | some w=>rw [q2] at hs; exact hs
       | none=>rw [q2] at hs; exact hs.elim
      | none =>
       rw [q1] at hs;cases q2:bnd l s with
       | some w=>rw [q2] at hs; exact hs.elim
       | none =>
        simp only [bnd];by_cases e:t.s=s
        · rw [H5 e,H5 e]; exact hu
        · rw [H6 e,H6 e]; trivial
    · exact absurd h1 q
 · rw [H6 h1] at hi
   rcases ib hm with ⟨q,_⟩|⟨q,_⟩|⟨_,e1,e2,e3,e4,hms⟩
   · exact absurd q h1
   · exact absurd q h1
   · rcases dg hn with ⟨q,_⟩|⟨_,_,q⟩ | h2
     · exact absurd q h1
     · rw [q] at hi hms
       simp only [em,mTs,C7.injEq] at hi hms;subst hi; subst hms; exact hA
     · obtain ⟨o,hf,hl,hss,_⟩:=ir (t:=u) (by omega) (by rw [hu]; exact hx)
       rw [H5 h2,e3,hf] at hi;simp only at hi;have key:∀ (ts us:List Tm) (xs:List ByteArray) (vs vs':List VS) (l l':List Bnd),(∀ a∈ts,a∈t.as)->us.length=xs.length->bj ops [] us xs=true->pb ops vs l->em ops ts xs vs=some vs'->mTs ts us l=some l'->pb ops vs' l':=by
        intro ts;induction ts with
        | nil =>
         intro us xs vs vs' l l' _ _ _ hA hi hm;simp only [em,mTs,C7.injEq] at hi hm;subst hi; subst hm; exact hA
        | cons a ts ihs =>
         intro us xs vs vs' l l' hts hlen hss hA hi hm;cases us with
         | nil=>simp [mTs] at hm
         | cons b us =>
          cases xs with
          | nil=>simp at hlen
          | cons y xs =>
           simp only [em] at hi;simp only [mTs] at hm;simp only [bj,B7,E8,decide_eq_false_iff_not,decide_eq_true_eq] at hss;split at hi
           · rename_i vs1 hi1
             split at hm
             · rename_i l1 hm1
               have:=ih a (hts a (C4 ..)) (dt hn (hts a (C4 ..))) b y vs vs1 l l1 hss.1.2 (hss.1.2▸hss.1.1) hA hi1 hm1;exact ihs us xs vs1 vs' l1 l' (fun z hz=>hts z (C3 _ hz)) (by simpa using hlen) hss.2 this hi hm
             · simp at hm
           · simp at hi
       exact key _ _ _ _ _ _ _ (fun _ h=>h) hl.symm hss hA hi hms
theorem Kz {ops:List OpM} {vs:List VS} {l:List Bnd} (hA:pb ops vs l):∀ t,t.areN=true->aw ops vs t≠e0->aw ops [] (aS l t)=aw ops vs t:=Tm.ind fun t ih hn hs=>by
 rcases dg hn with ⟨h1,ha⟩|⟨h3,_,ha⟩ | h2
 · have e:aw ops vs t=ql vs t.s:=by rw [ck,H6 (by omega),H5 h1]
   rw [e] at hs ⊢;rw [Hj] at hs ⊢;cases hv:ex vs t.s with
   | none=>rw [hv] at hs; exact absurd rfl hs
   | some v =>
    obtain ⟨w,hb,hw⟩:=hA.some hv;rw [ee,H5 h1,hb];exact hw
 · rw [ee,H6 (by omega)]
   rw [ck,ck ops vs,H5 (show (Tm.mk t.k t.n t.s _).k=3 from h3),H5 h3]
 · obtain ⟨o,hf,hl,hss,e⟩:=ir h2 hs
   rw [ee,H6 (by omega),e]
   have key:∀ (ts:List Tm) (xs:List ByteArray),(∀ a∈ts,a∈t.as)->bj ops vs ts xs=true->bj ops [] (ts.map (aS l)) xs=true:=by
    intro ts;induction ts with
    | nil=>intro xs _ _; rfl
    | cons a ts ihs =>
     intro xs hts h;cases xs with
     | nil=>rfl
     | cons y xs =>
      simp only [bj,B7,E8,decide_eq_false_iff_not,decide_eq_true_eq] at h;have q:=ih a (hts a (C4 ..)) (dt hn (hts a (C4 ..))) h.1.1;simp only [C2,bj,B7,E8,decide_eq_false_iff_not,decide_eq_true_eq,q];exact ⟨h.1,ihs xs (fun z hz=>hts z (C3 _ hz)) h.2⟩
   exact kj (t:=.mk t.k t.n t.s (t.as.map (aS l))) h2 hf (by simpa [Tm.as] using hl) (key _ _ (fun _ h=>h) hss)
theorem Ed (ops:List OpM) (vs:List VS):∀ t,t.areN=true->aw ops vs t≠e0->aw ops vs (rW t)=aw ops vs t:=Tm.ind fun t ih hn hs=>by
 have plain:aw ops vs (.mk t.k t.n t.s (t.as.map rW))=aw ops vs t:=by
  rcases dg hn with ⟨h1,ha⟩|⟨h3,_,ha⟩ | h2
  · rw [ck,ck ops vs t,H6 (show ¬(Tm.mk t.k t.n t.s _).k=3 by show ¬ t.k=3; omega),H5 (show (Tm.mk t.k t.n t.s _).k=1 from h1),H6 (by omega),H5 h1]; rfl
  · rw [ck,ck ops vs t,H5 (show (Tm.mk t.k t.n t.s _).k=3 from h3),H5 h3]
  · obtain ⟨o,hf,hl,hss,e⟩:=ir h2 hs
    rw [e];have key:∀ (ts:List Tm) (xs:List ByteArray),(∀ a∈ts,a∈t.as)->bj ops vs ts xs=true->bj ops vs (ts.map rW) xs=true:=by
     intro ts;induction ts with
     | nil=>intro xs _ _; rfl
     | cons a ts ihs =>
      intro xs hts h;cases xs with
      | nil=>rfl
      | cons y xs =>
       simp only [bj,B7,E8,decide_eq_false_iff_not,decide_eq_true_eq] at h;have q:=ih a (hts a (C4 ..)) (dt hn (hts a (C4 ..))) h.1.1;simp only [C2,bj,B7,E8,decide_eq_false_iff_not,decide_eq_true_eq,q];exact ⟨h.1,ihs xs (fun z hz=>hts z (C3 _ hz)) h.2⟩
    exact kj (t:=.mk t.k t.n t.s (t.as.map rW)) h2 hf (by simpa [Tm.as] using hl) (key _ _ (fun _ h=>h) hss)
 rw [oq];unfold rW1;split
 · rename_i x y hxy
   split
   · rename_i hc
     obtain ⟨hk,_,hB,_,_⟩:=hc;obtain ⟨o,hf,_,_,e⟩:=ir hk hs;rw [e];unfold dj at hf;rw [H5 hB] at hf;simp only [C7.injEq] at hf;subst hf;rw [ck]; rfl
   · exact plain
 · exact plain
end Go.Q
end
section
/- ak terms stay good along a step. -/
namespace Go.Q
open Go
theorem Wx {s:ByteArray} {x y:Tm} (hx:isW x=true) (hy:isW y=true):0<=cmp s x.n y.n/\cmp s x.n y.n<4:=by
 simp only [isW,B7,decide_eq_true_eq] at hx hy;obtain ⟨_,a1,a2,_⟩:=hx;obtain ⟨_,b1,b2,_⟩:=hy;unfold cmp;split
 · exact ⟨P9 4 (by omega),O6 _ (by decide)⟩
 · split
   · exact ⟨P9 4 (by omega),O6 _ (by decide)⟩
   · exact ⟨P9 4 (Int.mul_nonneg a1 b1),O6 _ (by decide)⟩
theorem Tm.n_mk (k n:Int) (s:ByteArray) (as:List Tm):(Tm.mk k n s as).n=n:=rfl
theorem yh {t:Tm} (h:t.areN=true) {as:List Tm} (hl:as.length=t.as.length) (ha:∀ a∈as,a.areN=true):(Tm.mk t.k t.n t.s as).areN=true:=by
 rw [Tm.areN_eq,B7] at h ⊢;refine ⟨?_,by rw [Tm.areNL_all,D9]; exact ha⟩
 have h:=h.1;unfold Tm.nodeN isW at h ⊢;simp only [Tm.k_mk,Tm.n_mk,Tm.s_mk,Tm.as_mk,hl];exact h
theorem Ee {l:List Bnd} (hl:∀ b∈l,b.2.areN=true):∀ t,t.areN=true->(aS l t).areN=true:=Tm.ind fun t ih h=>by
 rw [ee];split
 · rename_i u hu
   split at hu
   · obtain ⟨b,h1,rfl⟩:=ej hu; exact hl b h1
   · simp at hu
 · exact yh h (by simp) fun a ha=>by
    obtain ⟨x,hx,rfl⟩:=F2.1 ha;exact ih x hx (dt h hx)
theorem La:∀ t,t.areN=true->(rW t).areN=true:=Tm.ind fun t ih h=>by
 have plain:(Tm.mk t.k t.n t.s (t.as.map rW)).areN=true:=yh h (by simp) fun a ha=>by
  obtain ⟨x,hx,rfl⟩:=F2.1 ha;exact ih x hx (dt h hx)
 rw [oq];unfold rW1;split
 · rename_i x y hxy
   split
   · rename_i hc
     obtain ⟨c1,c2⟩:=Wx (s:=t.s) hc.2.2.2.1 hc.2.2.2.2;rw [Tm.areN_eq];unfold Tm.nodeN isW;simp only [Tm.k_mk,Tm.n_mk,Tm.s_mk,Tm.as_mk];simp [Tm.areNL,c1,c2]
   · exact plain
 · exact plain
theorem Lb {t:Tm} (h:Wt t) {as:List Tm} (hl:as.length=t.as.length) (ha:∀ a∈as,Wt a):Wt (.mk t.k t.n t.s as):=.mk h.k h.n h.s (by rw [Tm.as_mk,hl]; exact h.l) ha
theorem Lc {l:List Bnd} (hl:∀ b∈l,Wt b.2):∀ t,Wt t->Wt (aS l t):=Tm.ind fun t ih h=>by
 rw [ee];split
 · rename_i u hu
   split at hu
   · obtain ⟨b,h1,rfl⟩:=ej hu; exact hl b h1
   · simp at hu
 · exact Lb h (by simp) fun a ha=>by
    obtain ⟨x,hx,rfl⟩:=F2.1 ha;exact ih x hx (h.sub hx)
theorem Ld:∀ t,Wt t->Wt (rW t):=Tm.ind fun t ih h=>by
 have plain:Wt (Tm.mk t.k t.n t.s (t.as.map rW)):=Lb h (by simp) fun a ha=>by
  obtain ⟨x,hx,rfl⟩:=F2.1 ha;exact ih x hx (h.sub hx)
 rw [oq];unfold rW1;split
 · rename_i x y hxy
   split
   · rename_i hc
     exact .mk (show S.i64ok 3 from S.i64ok_of (by decide) (by decide)) (S.cmp_ok hc.2.2.2.1 hc.2.2.2.2) (show (⟨#[]⟩:ByteArray).size<=maxLen by decide) (K0 _) (by intro a ha; rw [Tm.as_mk] at ha; simp at ha)
   · exact plain
 · exact plain
theorem Ui {xs:List Tm} {f g:Tm->Nat} {m:Nat} (h:∀ x∈xs,f x<=m*g x):(xs.map f).sum<=m*(xs.map g).sum:=by
 induction xs with
 | nil=>simp
 | cons x xs ih =>
  have h1:=h x (C4 ..);have h2:=ih fun y hy=>h y (C3 _ hy)
  simp only [C2,J6,Nat.mul_add]; omega
theorem li {l:List Bnd} {m:Nat} (hm:1<=m) (hl:∀ b∈l,b.2.nodes<=m):∀ t,(aS l t).nodes<=m*t.nodes:=Tm.ind fun t ih=>by
 rw [ee];have h1:=Tm.nodes_eq t;split
 · rename_i u hu
   split at hu
   · obtain ⟨b,hb,rfl⟩:=ej hu
     have:=hl b hb;rw [h1,Nat.mul_add]; omega
   · simp at hu
 · rw [Tm.nodes_eq]
   simp only [Tm.as_mk,K5];have:=Ui (xs:=t.as) (f:=Tm.nodes ∘ aS l) (g:=Tm.nodes) ih;rw [h1,Nat.mul_add]; omega
structure Gt (ops:List OpM) (t:Tm):Prop where
 w:Wt t
 n:t.areN=true
 s:aw ops [] t≠e0
theorem Gt.arr {ops:List OpM} {t:Tm} (h:Gt ops t) (hk:t.k=2):∃ o,dj ops t.s=some o/\o.a.length=t.as.length/\bj ops [] t.as o.a=true/\aw ops [] t=o.r:=ir hk h.s
theorem Gt.sub {ops:List OpM} {t a:Tm} (h:Gt ops t) (ha:a∈t.as):Gt ops a:=by
 refine ⟨h.w.sub ha,dt h.n ha,?_⟩;rcases dg h.n with ⟨_,q⟩|⟨_,_,q⟩ | h2
 · rw [q] at ha; simp at ha
 · rw [q] at ha; simp at ha
 · obtain ⟨o,_,hl,hs,_⟩:=h.arr h2
   exact lh ops [] t.as o.a (by omega) hs a ha
structure RuG (ops:List OpM) (r:RuM):Prop where
 b:RuB r
 lv:r.l.valid=true
 lk:r.l.k=2
 rv:r.r.valid=true
 gl:∀ g∈r.g,g.l.valid=true/\g.r.valid=true
 inf:∃ o vs,dj ops r.l.s=some o/\oz ops r.l o.r=some vs/\aw ops vs r.r=o.r
theorem Wy {ops:List OpM} {r:RuM} (hb:RuB r) (h:jg ops r=true):RuG ops r:=by
 unfold jg at h;simp only [B7,decide_eq_true_eq] at h;obtain ⟨_,h1,h2,_,h3,h4⟩:=h;cases hf:dj ops r.l.s with
 | none=>rw [hf] at h4; simp at h4
 | some o =>
  rw [hf] at h4;simp only at h4;cases hi:oz ops r.l o.r with
  | none=>rw [hi] at h4; simp at h4
  | some vs =>
   rw [hi] at h4;simp only [B7,decide_eq_true_eq,xf,D9] at h4;refine ⟨hb,h1,h2,h3,fun g hg=>?_,o,vs,hf,hi,h4.1⟩
   have:=h4.2.2.1 g hg;simp only [qg,B7] at this;exact ⟨this.2.1,this.2.2.1⟩
theorem bb {t:Tm} (h:t.valid=true):t.nodes<=60:=by
 simp only [Tm.valid,B7,decide_eq_true_eq] at h; exact h.1
theorem Nb (ops:List OpM):pb ops [] []:=fun s=>by simp [ex,bnd]
theorem Nc {ops:List OpM} {r:RuM} (hr:RuG ops r) {u w:Tm} (hu:Gt ops u) (hn:u.nodes<=60) (h:fm r u=some w):Gt ops w/\aw ops [] w=aw ops [] u/\w.nodes<=3600:=by
 unfold fm at h;cases hm:mT r.l u [] with
 | none=>rw [hm] at h; simp at h
 | some l =>
  rw [hm] at h;simp only at h;split at h
  · simp only [C7.injEq] at h
    subst h;obtain ⟨o,vs,hf,hi,hs⟩:=hr.inf;have hk:u.k=2/\u.s=r.l.s:=by
     rcases ib hm with ⟨q,_⟩|⟨q,_⟩|⟨_,q1,_,q2,_⟩
     · have:=hr.lk; omega
     · have:=hr.lk; omega
     · exact ⟨by rw [<- q1]; exact hr.lk,q2.symm⟩
    obtain ⟨o',hf',_,_,he⟩:=hu.arr hk.1;rw [hk.2,hf] at hf';simp only [C7.injEq] at hf';subst hf';have hne:o.r≠e0:=he▸hu.s;have hA:=Hk ops r.l (dk hr.lv) u o.r [] vs [] l he hne (Nb ops) (tv hi) hm;have hw:∀ b∈l,Wt b.2/\(b.2.areN=true/\b.2.nodes<=60):=pa (fun t=>Wt t/\(t.areN=true/\t.nodes<=60)) (fun t a h ha=>⟨h.1.sub ha,dt h.2.1 ha,by
     have:=dl (f:=Tm.nodes) ha;have:=Tm.nodes_eq t;have:=h.2.2;omega⟩) r.l u [] l ⟨hu.w,hu.n,hn⟩ (by simp) hm
    have hn1:=Ee (fun b hb=>(hw b hb).2.1) r.r (dk hr.rv)
    have hs1:aw ops [] (aS l r.r)=aw ops vs r.r:=Kz hA r.r (dk hr.rv) (hs▸hne);have hs2:aw ops [] (rW (aS l r.r))=o.r:=by rw [Ed ops [] _ hn1 (by rw [hs1,hs]; exact hne),hs1,hs]
    have hm1:=li (m:=60) (by decide) (fun b hb=>(hw b hb).2.2) r.r
    have hm2:=gz (aS l r.r);have hm3:=bb hr.rv;refine ⟨⟨Ld _ (Lc (fun b hb=>(hw b hb).1) r.r hr.b.wr),La _ hn1,hs2▸hne⟩,by rw [hs2,he],by omega⟩
  · simp at h
def atT:Tm->List Int->Option Tm
 | t,[]=>some t
 | t,i::p=>if h:i.toNat<t.as.length then (if 0<=i then atT t.as[i.toNat] p else none) else none
def fg:Tm->List Int->Tm->Tm
 | _,[],w=>w
 | t,i::p,w=>if h:i.toNat<t.as.length then .mk t.k t.n t.s (t.as.set i.toNat (fg t.as[i.toNat] p w)) else t
theorem cr {t u:Tm} {i:Int} {p:List Int} (h:atT t (i::p)=some u):∃ hi:i.toNat<t.as.length,0<=i/\atT t.as[i.toNat] p=some u:=by
 simp only [atT] at h;split at h
 · rename_i hi
   split at h
   · exact ⟨hi,by assumption,h⟩
   · simp at h
 · simp at h
theorem rh {ops:List OpM} {vs:List VS}:∀ (l:List Tm) (xs:List ByteArray) (i:Nat) (hi:i<l.length) (x:Tm),aw ops vs x=aw ops vs l[i]->bj ops vs (l.set i x) xs=bj ops vs l xs
 | [],_,i,hi,_,_=>by simp at hi
 | a::l,xs,0,hi,x,h=>by
  cases xs with
  | nil=>rfl
  | cons y xs =>
   simp only [List.getElem_cons_zero] at h;simp only [List.set_cons_zero,bj,h]
 | a::l,xs,i+1,hi,x,h=>by
  cases xs with
  | nil=>rfl
  | cons y xs =>
   simp only [List.getElem_cons_succ] at h;simp only [S9,bj];rw [rh l xs i (by simpa using hi) x h]
theorem Hl {ops:List OpM}:∀ (p:List Int) (t u w:Tm),Gt ops t->atT t p=some u->Gt ops w->aw ops [] w=aw ops [] u->Gt ops (fg t p w)/\aw ops [] (fg t p w)=aw ops [] t
 | [],t,u,w,ht,h,hw,hs=>by
  simp only [atT,C7.injEq] at h;subst h;exact ⟨hw,hs⟩
 | i::p,t,u,w,ht,h,hw,hs=>by
  obtain ⟨hi,h0,h1⟩:=cr h;have hm:=C1 hi;obtain ⟨g1,g2⟩:=Hl p t.as[i.toNat] u w (ht.sub hm) h1 hw hs;simp only [fg,dif_pos hi];have h2:t.k=2:=by
   rcases dg ht.n with ⟨_,q⟩|⟨_,_,q⟩ | h2
   · rw [q] at hi; simp at hi
   · rw [q] at hi; simp at hi
   · exact h2
  obtain ⟨o,hf,hl,hss,e⟩:=ht.arr h2;have es:aw ops [] (.mk t.k t.n t.s (t.as.set i.toNat (fg t.as[i.toNat] p w)))=o.r:=by
   refine kj (t:=.mk t.k t.n t.s _) h2 hf (by rw [Tm.as_mk,List.length_set]; exact hl) ?_
   rw [Tm.as_mk,rh t.as o.a i.toNat hi _ g2]; exact hss
  refine ⟨⟨Lb ht.w (by simp) fun a ha=>?_,yh ht.n (by simp) fun a ha=>?_,by rw [es,<- e]; exact ht.s⟩,by rw [es,e]⟩
  · rcases O3 ha with q | q
    · exact ht.w.sub q
    · exact q▸g1.w
  · rcases O3 ha with q | q
    · exact dt ht.n q
    · exact q▸g1.n
theorem jn:∀ (p:List Int) (t u:Tm),atT t p=some u->u.nodes+p.length<=t.nodes
 | [],t,u,h=>by simp only [atT,C7.injEq] at h; subst h; simp
 | i::p,t,u,h=>by
  obtain ⟨hi,h0,h1⟩:=cr h;have h2:=jn p _ u h1;have:=dl (f:=Tm.nodes) (C1 hi);have:=Tm.nodes_eq t;simp only [C5]; omega
theorem Le:∀ (l:List Tm) (i:Nat) (hi:i<l.length) (x:Tm),((l.set i x).map Tm.nodes).sum<=(l.map Tm.nodes).sum+x.nodes
 | [],i,hi,_=>by simp at hi
 | a::l,0,hi,x=>by simp only [List.set_cons_zero,C2,J6]; omega
 | a::l,i+1,hi,x=>by
  have:=Le l i (by simpa using hi) x
  simp only [S9,C2,J6]; omega
theorem vn (w:Tm):∀ (p:List Int) (t:Tm),(fg t p w).nodes<=t.nodes*(p.length+1)+w.nodes
 | [],t=>by simp [fg]
 | i::p,t=>by
  simp only [fg];split
  · rename_i hi
    have h1:=vn w p t.as[i.toNat];have h2:=Le t.as i.toNat hi (fg t.as[i.toNat] p w);have h3:=dl (f:=Tm.nodes) (C1 hi);have h4:=Tm.nodes_eq t;rw [Tm.nodes_eq,Tm.as_mk];have h5:t.as[i.toNat].nodes*(p.length+1)<=t.nodes*(p.length+1):=Nat.mul_le_mul_right _ (by omega)
    have h6:t.nodes*((i::p).length+1)=t.nodes*(p.length+1)+t.nodes:=by rw [C5,Nat.mul_add _ _ 1,Nat.mul_one]
    omega
  · have:t.nodes<=t.nodes*((i::p).length+1):=Nat.le_mul_of_pos_right _ (by simp)
    omega
theorem Ef {P:Tm->Prop} (hP:∀ t a,P t->a∈t.as->P a):∀ (p:List Int) (t u:Tm),P t->atT t p=some u->P u
 | [],t,u,ht,h=>by simp only [atT,C7.injEq] at h; subst h; exact ht
 | i::p,t,u,ht,h=>by
  obtain ⟨hi,h0,h1⟩:=cr h;exact Ef hP p _ u (hP t _ ht (C1 hi)) h1
def km (st:List StM) (s:ByteArray):List Int:=(st.filter fun x=>decide (x.o=s)).map (·.a)
def stL (st:List StM) (t:Tm):List Int:=if t.k=2 then km st t.s else []
noncomputable def pc (ru:List RuM) (u:Tm):Option Nat:=ru.findIdx? fun r=>(fm r u).isSome
def nn (l:List Int) (rs:List (Option (Nat×List Int))):Option (Nat×List Int):=l.findSome? fun i=>if 0<=i then (match rs[i.toNat]? with | some (some x)=>some (x.1,i::x.2) | _=>none) else none
mutual
noncomputable def nx (d:DfM):Tm->Option (Nat×List Int)
 | .mk k n s as=>match nn (if k=2 then km d.st s else []) (nxs d as) with
  | some x=>some x
  | none=>(pc d.ru (.mk k n s as)).map fun i=>(i,[])
noncomputable def nxs (d:DfM):List Tm->List (Option (Nat×List Int))
 | []=>[]
 | t::ts=>nx d t::nxs d ts
end
theorem Lf (d:DfM):∀ ts,nxs d ts=ts.map (nx d)
 | []=>by simp only [nxs,D2]
 | t::ts=>by simp only [nxs,C2,Lf d ts]
theorem Qf (d:DfM) (t:Tm):nx d t=match nn (stL d.st t) (t.as.map (nx d)) with
 | some x=>some x
 | none=>(pc d.ru t).map fun i=>(i,[]):=by
 cases t
 simp only [nx,Lf,stL,Tm.k,Tm.s,Tm.as]; rfl
theorem Nd {ru:List RuM} {u:Tm} {i:Nat} (h:pc ru u=some i):∃ r w,ru[i]?=some r/\fm r u=some w:=by
 unfold pc at h;rw [List.findIdx?_eq_some_iff_getElem] at h;obtain ⟨hi,h1,_⟩:=h;cases hf:fm ru[i] u with
 | none=>rw [hf] at h1; simp at h1
 | some w=>exact ⟨ru[i],w,by simp [hi],hf⟩
theorem yi (d:DfM):∀ t i p,nx d t=some (i,p)->∃ u r w,atT t p=some u/\d.ru[i]?=some r/\fm r u=some w:=Tm.ind fun t ih i p h=>by
 rw [Qf] at h;cases hp:nn (stL d.st t) (t.as.map (nx d)) with
 | some x =>
  rw [hp] at h;simp only [C7.injEq] at h;subst h;unfold nn at hp;obtain ⟨j,hj,h1⟩:=List.exists_of_findSome?_eq_some hp;split at h1
  · rename_i h0
    split at h1
    · rename_i y hy
      simp only [C7.injEq,G5.injEq] at h1;obtain ⟨e1,e2⟩:=h1;subst e1; subst e2;rw [P1] at hy;cases hg:t.as[j.toNat]? with
      | none=>rw [hg] at hy; simp at hy
      | some a =>
       rw [hg] at hy;simp only [N2,C7.injEq] at hy;obtain ⟨hlt,he⟩:=D6.1 hg;obtain ⟨u,r,w,q1,q2,q3⟩:=ih a (he▸C1 hlt) y.1 y.2 hy;refine ⟨u,r,w,?_,q2,q3⟩;simp only [atT,dif_pos hlt,H5 h0,he];exact q1
    · simp at h1
  · simp at h1
 | none =>
  rw [hp] at h;simp only at h;cases hr:pc d.ru t with
  | none=>rw [hr] at h; simp at h
  | some j =>
   rw [hr] at h;simp only [N2,C7.injEq,G5.injEq] at h;obtain ⟨e1,e2⟩:=h;subst e1; subst e2;obtain ⟨r,w,q1,q2⟩:=Nd hr;exact ⟨t,r,w,rfl,q1,q2⟩
noncomputable def bz (d:DfM) (t:Tm) (i:Nat) (p:List Int):Tm:=match atT t p,d.ru[i]? with
 | some u,some r=>(match fm r u with | some w=>fg t p w | none=>t)
 | _,_=>t
structure vo where
 o:Int
 t:Tm
 st:List Tm
 rd:List (Nat×List Int)
noncomputable def dm (d:DfM):Nat->Tm->vo
 | 0,t=>match nx d t with
  | none=>⟨1,t,[],[]⟩
  | some _=>⟨2,t,[],[]⟩
 | n+1,t=>match nx d t with
  | none=>⟨1,t,[],[]⟩
  | some (i,p)=>if (bz d t i p).valid=true then ⟨(dm d n (bz d t i p)).o,(dm d n (bz d t i p)).t,bz d t i p::(dm d n (bz d t i p)).st,(i,p)::(dm d n (bz d t i p)).rd⟩ else ⟨3,t,[],[]⟩
structure DfG (d:DfM):Prop where
 b:DfB d
 v:d.valid=true
theorem DfG.ru {d:DfM} (h:DfG d) {r:RuM} (hr:r∈d.ru):RuG d.op r:=by
 have:=h.v;simp only [DfM.valid,B7,D9] at this;exact Wy (h.b.rua r hr) (this.2.2.2.1 r hr)
theorem Cn (ops:List OpM):∀ (l pre:List StM),kh ops pre l=true->∀ x∈l,My ops x=true
 | [],_,_,x,hx=>by simp at hx
 | y::l,pre,h,x,hx=>by
  simp only [kh,B7] at h;rcases D4.1 hx with e | hx
  · exact e▸h.1
  · exact Cn ops l _ h.2.2 x hx
theorem DfG.st {d:DfM} (h:DfG d) {x:StM} (hx:x∈d.st):My d.op x=true:=by
 have:=h.v;simp only [DfM.valid,B7] at this;exact Cn d.op d.st [] this.2.2.2.2.1 x hx
theorem Qg {d:DfM} (h:DfG d) {t:Tm} (ht:Gt d.op t) {i:Int} (hi:i∈stL d.st t):0<=i/\i.toNat<t.as.length:=by
 unfold stL at hi;split at hi
 · rename_i hk
   obtain ⟨x,hx,rfl⟩:=F2.1 hi;obtain ⟨h1,h2⟩:=R7.1 hx;have h3:=h.st h1;simp only [decide_eq_true_eq] at h2;obtain ⟨o,hf,hl,_⟩:=ht.arr hk;unfold My at h3;rw [h2,hf] at h3;simp only [B7,decide_eq_true_eq] at h3;omega
 · simp at hi
theorem lj {d:DfM} (h:DfG d) {t:Tm} (ht:Gt d.op t) (hn:t.nodes<=60) {i:Nat} {p:List Int} (hx:nx d t=some (i,p)) :
 ∃ u r w,atT t p=some u/\d.ru[i]?=some r/\fm r u=some w/\bz d t i p=fg t p w/\Gt d.op u/\u.nodes<=60/\Gt d.op w/\w.nodes<=3600/\Gt d.op (bz d t i p)/\(bz d t i p).nodes<=8000/\p.length<=60/\RuG d.op r:=by
 obtain ⟨u,r,w,h1,h2,h3⟩:=yi d t i p hx;obtain ⟨hi,he⟩:=D6.1 h2;have hr:RuG d.op r:=h.ru (he▸C1 hi);have hu:Gt d.op u:=Ef (P:=Gt d.op) (fun t a h ha=>h.sub ha) p t u ht h1
 have hun:=jn p t u h1;obtain ⟨g1,g2,g3⟩:=Nc hr hu (by omega) h3
 have e:bz d t i p=fg t p w:=by unfold bz; rw [h1,h2]; simp only [h3]
 obtain ⟨p1,_⟩:=Hl p t u w ht h1 g1 g2;have hpn:=vn w p t;have:t.nodes*(p.length+1)<=60*61:=Nat.mul_le_mul hn (by omega)
 refine ⟨u,r,w,h1,h2,h3,e,hu,by omega,g1,g3,e▸p1,by rw [e]; omega,by omega,hr⟩
end Go.Q
end
section
namespace Go.Q
open Go
theorem Lg {xs:List Tm} {i:Nat} (hi:i<xs.length) (w:Tm):over i [over 0 [.int w.k,.int w.n,.str w.s,.sl (w.as.map Tm.row)] (rowAt (xs.map Tm.row) i)] (xs.map Tm.row)=(xs.set i w).map Tm.row:=by
 rw [ae hi,Tm.row_eq];have e:over 0 [D.int w.k,.int w.n,.str w.s,.sl (w.as.map Tm.row)] [D.int xs[i].k,.int xs[i].n,.str xs[i].s,.sl (xs[i].as.map Tm.row)]=w.row:=by rw [Tm.row_eq]; rfl
 rw [e,cw _ _ _ (by simp; omega),List.map_set,List.set_eq_take_append_cons_drop,H5 (by simpa using hi)]
 simp
theorem Co (j:Int) (p:List Int):(((j::p).map bu).take ((j::p).map bu).length).drop (Int.toNat 1)=p.map bu:=by
 rw [List.take_length]; rfl
theorem Nf (xs:aa) (r w:List D) (h:r.length=w.length):over xs.length [over 0 w (rowAt (xs++[r]) xs.length)] (xs++[r])=xs++[w]:=by
 have e:rowAt (xs++[r]) xs.length=r:=by simp [rowAt,O5]
 rw [e,cw 0 w r (by omega),cw _ _ _ (by simp)]
 simp [h]
def foI:Option (List Bnd)->aa->List D
 | some l,_=>[.bool true,.sl (l.map Bnd.row)]
 | none,x=>[.bool false,.sl x]
theorem Cp (x:StM) (l:List StM) (s:ByteArray):km (x::l) s=if x.o=s then x.a::km l s else km l s:=by
 unfold km;rw [O9];by_cases h:x.o=s <;> simp [h]
theorem Hm (l:List StM) (s:ByteArray):(km l s).length<=l.length:=by
 unfold km;rw [B6];exact P5 _ _
end Go.Q
namespace Go.Q
open Go
theorem Qh (l:List Bnd) (x:ByteArray) (ns:List ByteArray):rsB l (x::ns)=match bnd l x with
 | some v=>(x,v)::rsB l ns
 | none=>rsB l ns:=by
 unfold rsB;rw [List.filterMap_cons];cases bnd l x <;> rfl
theorem Lh (l:List Bnd) (ns:List ByteArray):(rsB l ns).length<=ns.length:=List.length_filterMap_le ..
def frR:Option Tm->List D
 | some w=>[.int w.k,.int w.n,.str w.s,.bool true,.sl (w.as.map Tm.row)]
 | none=>[.int 0,.int 0,.str e0,.bool false,.sl []]
noncomputable def fiL (r:RuM) (u:Tm):List Bnd:=match mT r.l u [] with
 | some l=>rsB l (cu (cu r.l.names))
 | none=>[]
def Jq:Option Nat->Int
 | some i=>(i:Int)
 | none=>-1
theorem pz {m:Nat} (t a:Tm) (h:t.nodes<=m) (ha:a∈t.as):a.nodes<=m:=by
 have:=dl (f:=Tm.nodes) ha;have:=Tm.nodes_eq t;omega
theorem Cq {l:List Bnd} (hl:∀ b∈l,b.2.nodes<=60) {g:Gu} (h1:g.l.nodes<=60) (h2:g.r.nodes<=60):(dn l g).ok:=by
 have a1:=li (m:=60) (by decide) hl g.l
 have a2:=li (m:=60) (by decide) hl g.r
 exact ⟨by show (aS l g.l).nodes<=_; omega,by show (aS l g.r).nodes<=_; omega⟩
theorem tw {l:List Bnd} {P:Tm->Prop} (h:∀ b∈l,P b.2) {s:ByteArray} {v:Tm} (hb:bnd l s=some v):P v:=by
 obtain ⟨b,h1,rfl⟩:=ej hb; exact h b h1
theorem Li {l:List Bnd} {P:Tm->Prop} (h:∀ b∈l,P b.2) (ns:List ByteArray):∀ b∈rsB l ns,P b.2:=fun b hb=>by
 unfold rsB at hb;obtain ⟨s,_,hs⟩:=R5.1 hb;cases hv:bnd l s with
 | none=>rw [hv] at hs; simp at hs
 | some v =>
  rw [hv] at hs;simp only [N2,C7.injEq] at hs;subst hs;exact tw h hv
theorem Hn (r:RuM) (u:Tm):fm r u=if ((mT r.l u []).isSome&&r.g.all fun g=>holds (dn (fiL r u) g))=true then some (rW (aS (fiL r u) r.r)) else none:=by
 unfold fm fiL;cases h:mT r.l u [] with
 | none=>rfl
 | some l =>
  have hc:∀ s,bnd (rsB l (cu (cu r.l.names))) s=bnd l s:=Na h;have e:∀ g,dn (rsB l (cu (cu r.l.names))) g=dn l g:=fun g=>Jp hc g
  simp only [Option.isSome_some,Bool.true_and,e,Ad hc]
end Go.Q
end
section
namespace Go.Q
open Go
def nrR:Option (Nat×List Int)->List Int->List D
 | some x,acc=>[.int (x.1:Int),.bool true,.sl ((acc++x.2).map bu)]
 | none,_=>[.int 0,.bool false,.sl []]
def nrS:Option (Nat×List Int)->List D
 | some x=>[.int (x.1:Int),.bool true,.sl (x.2.map bu)]
 | none=>[.int 0,.bool false,.sl []]
theorem Af (rs:List (Option (Nat×List Int))):nn [] rs=none:=rfl
theorem Cr {f:Tm->Option (Nat×List Int)} {xs:List Tm} {m:Nat} (hm:m<xs.length) (q:List Int):nn ((m:Int)::q) (xs.map f)=match f xs[m] with
 | some x=>some (x.1,(m:Int)::x.2)
 | none=>nn q (xs.map f):=by
 unfold nn;rw [List.findSome?_cons];have h0:(0:Int)<=(m:Int):=by omega
 simp only [h0,if_true,Int.toNat_natCast,P1,List.getElem?_eq_getElem hm,N2];cases f xs[m] <;> rfl
theorem Uj (st:List StM) (t:Tm):(stL st t).length<=st.length:=by
 unfold stL;split
 · exact Hm st t.s
 · simp
noncomputable def cfg (d:DfM) (t:Tm):Bool:=d.valid&&(t.valid&&(isG t&&!decide (aw d.op [] t=e0)))
theorem Ag {d:DfM} {t:Tm} (hb:DfB d) (hw:Wt t) (h:cfg d t=true):DfG d/\Gt d.op t/\t.nodes<=60:=by
 simp only [cfg,B7,E8,decide_eq_false_iff_not] at h;exact ⟨⟨hb,h.1⟩,⟨hw,dk h.2.1,h.2.2.2⟩,bb h.2.1⟩
def pd (x:Nat×List Int):List D:=[.int (x.1:Int),.sl (x.2.map bu)]
noncomputable def jb (d:DfM) (t:Tm) (f:Int):Option vo:=if 0<=f/\f<=200/\cfg d t=true then some (dm d f.toNat t) else none
end Go.Q
namespace Go.Q
open Go
theorem jo {d:DfM} {t:Tm} (h:nx d t=none):∀ n,dm d n t=⟨1,t,[],[]⟩
 | 0=>by simp only [dm,h]
 | n+1=>by simp only [dm,h]
theorem vp {d:DfM} {t:Tm} {x:Nat×List Int} (h:nx d t=some x):dm d 0 t=⟨2,t,[],[]⟩:=by simp only [dm,h]
theorem Ah {d:DfM} {t:Tm} {x:Nat×List Int} (h:nx d t=some x) (hv:(bz d t x.1 x.2).valid=false) (n:Nat):dm d (n+1) t=⟨3,t,[],[]⟩:=by
 obtain ⟨i,p⟩:=x;simp only at hv;simp only [dm,h,hv,Bool.false_eq_true,if_false]
theorem Eg {d:DfM} {t:Tm} {x:Nat×List Int} (h:nx d t=some x) (hv:(bz d t x.1 x.2).valid=true) (n:Nat):dm d (n+1) t=⟨(dm d n (bz d t x.1 x.2)).o,(dm d n (bz d t x.1 x.2)).t,bz d t x.1 x.2::(dm d n (bz d t x.1 x.2)).st,x::(dm d n (bz d t x.1 x.2)).rd⟩:=by
 obtain ⟨i,p⟩:=x;simp only at hv;simp only [dm,h,hv,if_true]
theorem Ai (xs:aa) (k n k' n':Int) (s s':ByteArray) (a a':aa):over xs.length [over 0 [.int k,.int n,.str s,.sl a] (rowAt (xs++[[.int k',.int n',.str s',.sl a']]) xs.length)] (xs++[[.int k',.int n',.str s',.sl a']])=xs++[[.int k,.int n,.str s,.sl a]]:=Nf xs _ _ rfl
def Jr:Option vo->Tm->List D
 | some r,t=>[.int r.o,.int r.t.k,.int r.t.n,.str r.t.s,.int (r.rd.length:Int),.sl (r.t.as.map Tm.row),.sl ((t::r.st).map Tm.row),.sl (r.rd.map pd)]
 | none,_=>[.int 0,.int 0,.int 0,.str e0,.int 0,.sl [],.sl [],.sl []]
def Qi (r:vo) (t:Tm):List D:=[.int r.o,.int r.t.k,.int r.t.n,.str r.t.s,.int (r.rd.length:Int),.sl (r.t.as.map Tm.row),.sl (r.rd.map pd),.sl ((t::r.st).map Tm.row)]
end Go.Q
end
section
namespace Go.Q
open Go
def rtD:Option vo->List D
 | some r=>[.int r.o,.int r.t.k,.int r.t.n,.str r.t.s,.int (r.rd.length:Int),.sl (r.t.as.map Tm.row)]
 | none=>[.int 0,.int 0,.int 0,.str e0,.int 0,.sl []]
theorem Lj:∀ (p:List Int) (t u:Tm),atT t p=some u->t.nodes<=60->∀ j∈p,0<=j/\j<60
 | [],_,_,_,_,j,hj=>by simp at hj
 | i::p,t,u,h,hn,j,hj=>by
  obtain ⟨hi,h0,h1⟩:=cr h;have hls:=dr (xs:=t.as);have hnd:=Tm.nodes_eq t;rcases D4.1 hj with e | hj
  · subst e; omega
  · exact Lj p _ u h1 (pz t _ hn (C1 hi)) j hj
structure Yl (d:DfM) (n:Nat) (r:vo):Prop where
 t:Gt d.op r.t
 tn:r.t.nodes<=60
 o:r.o=1\/r.o=2\/r.o=3
 rl:r.rd.length<=n
 rg:∀ x∈r.rd,x.1<d.ru.length/\x.2.length<=60/\∀ j∈x.2,0<=j/\j<60
 sl:r.st.length<=n
 s:∀ x∈r.st,Gt d.op x/\x.nodes<=60
theorem Ng {d:DfM} (hd:DfG d):∀ n t,Gt d.op t->t.nodes<=60->Yl d n (dm d n t):=by
 intro n;induction n with
 | zero =>
  intro t ht hn;cases hx:nx d t with
  | none=>rw [jo hx]; exact ⟨ht,hn,.inl rfl,G6 _,by simp,G6 _,by simp⟩
  | some x=>rw [vp hx]; exact ⟨ht,hn,.inr (.inl rfl),G6 _,by simp,G6 _,by simp⟩
 | succ n ih =>
  intro t ht hn;cases hx:nx d t with
  | none=>rw [jo hx]; exact ⟨ht,hn,.inl rfl,K0 _,by simp,K0 _,by simp⟩
  | some x =>
   obtain ⟨u,r,w,h1,h2,_,_,_,_,_,_,hg,hgn,hp,_⟩:=lj hd ht hn hx;cases hv:(bz d t x.1 x.2).valid with
   | false=>rw [Ah hx hv]; exact ⟨ht,hn,.inr (.inr rfl),K0 _,by simp,K0 _,by simp⟩
   | true =>
    rw [Eg hx hv];have h:=ih _ hg (bb hv);obtain ⟨hi,_⟩:=D6.1 h2;refine ⟨h.t,h.tn,h.o,Nat.succ_le_succ h.rl,fun y hy=>?_,Nat.succ_le_succ h.sl,fun y hy=>?_⟩
    · rcases D4.1 hy with e | hy
      · subst e; exact ⟨hi,hp,Lj _ _ _ h1 hn⟩
      · exact h.rg y hy
    · rcases D4.1 hy with e | hy
      · subst e; exact ⟨hg,bb hv⟩
      · exact h.s y hy
theorem qa {d:DfM} (hb:DfB d) {t:Tm} (hw:Wt t) {f:Int} {r:vo} (h:jb d t f=some r):Yl d 200 r/\t.nodes<=60:=by
 unfold jb at h;split at h
 · rename_i hc
   simp only [C7.injEq] at h;subst h;obtain ⟨hd,ht,hn⟩:=Ag hb hw hc.2.2;have g:=Ng hd f.toNat t ht hn;exact ⟨⟨g.t,g.tn,g.o,by have:=g.rl; omega,g.rg,by have:=g.sl; omega,g.s⟩,hn⟩
 · simp at h
theorem Eh (d:DfM) (t:Tm) (f:Int):jb d t f=bif (cfg d t&&(decide (0<=f)&&decide (f<=200))) then some (dm d f.toNat t) else none:=by
 unfold jb;by_cases h:0<=f/\f<=200/\cfg d t=true
 · rw [H5 h]; simp [h.1,h.2.1,h.2.2]
 · rw [H6 h]
   have:(cfg d t&&(decide (0<=f)&&decide (f<=200)))=false:=by
    rw [Bool.eq_false_iff];intro hc;simp only [B7,decide_eq_true_eq] at hc;exact h ⟨hc.2.1,hc.2.2,hc.1⟩
   rw [this]; rfl
noncomputable def rj:Option vo->Tm->Tm->Bool
 | some r,t,g=>(t::r.st).any fun x=>eqb x.row g.row
 | none,_,_=>false
end Go.Q
namespace Go.Q
open Go
def rtO:Option vo->Int
 | some r=>r.o
 | none=>0
def rtT:Option vo->Tm
 | some r=>r.t
 | none=>tm0
def rtN:Option vo->Nat
 | some r=>r.rd.length
 | none=>0
theorem Wz (R:Option vo):rtD R=[.int (rtO R),.int (rtT R).k,.int (rtT R).n,.str (rtT R).s,.int (rtN R:Int),.sl ((rtT R).as.map Tm.row)]:=by cases R <;> rfl
theorem wt0:Wt tm0:=.mk (S.i64ok_of (by decide) (by decide)) (S.i64ok_of (by decide) (by decide)) (by decide) (by decide) (by intro a ha; simp [tm0,Tm.as] at ha)
theorem Uk {d:DfM} (hb:DfB d) {t:Tm} (hw:Wt t) (f:Int):Wt (rtT (jb d t f))/\(rtT (jb d t f)).nodes<=60/\(0<=rtO (jb d t f)/\rtO (jb d t f)<=3)/\rtN (jb d t f)<=200:=by
 cases h:jb d t f with
 | none=>exact ⟨wt0,by decide,by decide,by decide⟩
 | some r =>
  obtain ⟨g,_⟩:=qa hb hw h;refine ⟨g.t.w,g.tn,?_,g.rl⟩;rcases g.o with e | e | e <;> (show 0<=r.o/\r.o<=3; omega)
end Go.Q
end
section
/- Translations,instances that are configurations,refutations. -/
namespace Go.Q
open Go
theorem vq {f:Tm->Tm}:∀ (l:List Tm),(∀ a∈l,(f a).depth<=a.depth)->Tm.depthL (l.map f)<=Tm.depthL l
 | [],_=>G6 _
 | a::l,h=>by
  have h1:=h a (C4 ..);have h2:=vq l fun b hb=>h b (C3 _ hb)
  simp only [C2,Tm.depthL]; omega
theorem Qj {l:List Bnd} (hl:∀ b∈l,b.2.depth=1):∀ t,(aS l t).depth<=t.depth:=Tm.ind fun t ih=>by
 rw [ee];have h1:=Tm.depth_eq t;split
 · rename_i u hu
   split at hu
   · obtain ⟨b,hb,rfl⟩:=ej hu
     rw [hl b hb]; omega
   · simp at hu
 · rw [Tm.depth_eq,Tm.as_mk]
   have:=vq t.as ih;omega
theorem Qk:∀ t,(rW t).depth<=t.depth:=Tm.ind fun t ih=>by
 have h1:=Tm.depth_eq t;have plain:(Tm.mk t.k t.n t.s (t.as.map rW)).depth<=t.depth:=by
  rw [Tm.depth_eq,Tm.as_mk];have:=vq t.as ih;omega
 rw [oq];unfold rW1;split
 · rename_i x y hxy
   split
   · rw [Tm.depth_eq,Tm.as_mk]; simp only [Tm.depthL]; omega
   · exact plain
 · exact plain
theorem Ho {n:Nat} {c:Int} (h:isC n c=true):(vals n c).length=n:=by
 have h3:=(mh h).1;unfold vals;rw [H5 h]
 match n,h3 with
 | 0,_=>rfl
 | 1,_=>rfl
 | 2,_=>rfl
 | 3,_=>rfl
theorem Ql {n:Nat} {c:Int} (h:isC n c=true):∀ x∈vals n c,0<=x/\x<4:=fun x hx=>by
 obtain ⟨h3,h0,_⟩:=mh h;have hm:∀ a:Int,0<=a->0<=a.tmod 4/\a.tmod 4<4:=fun a ha=>⟨P9 4 ha,O6 _ (by decide)⟩
 have hd:∀ a:Int,0<=a->0<=a.tdiv 4:=fun a ha=>Int.tdiv_nonneg ha (by decide)
 unfold vals at hx;rw [H5 h] at hx
 match n,h3 with
 | 0,_=>simp at hx
 | 1,_ =>
  simp only [F8] at hx;subst hx; exact hm _ h0
 | 2,_ =>
  simp only [D4,K9,or_false] at hx;rcases hx with e | e
  · subst e; exact hm _ (hd _ h0)
  · subst e; exact hm _ h0
 | 3,_ =>
  simp only [D4,K9,or_false] at hx;rcases hx with e | e | e
  · subst e; exact hm _ (hd _ (hd _ h0))
  · subst e; exact hm _ (hd _ h0)
  · subst e; exact hm _ h0
theorem Nh (ops:List OpM) (n:Int):aw ops [] (word n)=cy:=by unfold word; rw [ck]; rfl
theorem Cs (ops:List OpM):∀ (vars:List ByteArray) (vs:List Int),vs.length=vars.length->pb ops (wv vars) ((vars.zip vs).map fun p=>(p.1,word p.2))
 | [],[],_=>by
  intro s; simp [wv,ex,bnd]
 | [],_::_,h=>by simp at h
 | _::_,[],h=>by simp at h
 | x::vars,v::vs,h=>by
  have ih:=Cs ops vars vs (by simpa using h)
  intro s;have hs:=ih s;unfold wv ex at hs ⊢;simp only [C2,List.zip_cons_cons,O2,bnd];by_cases e:x=s
  · simp only [e,H3,if_true]
    exact Nh ops v
  · simp only [e,H4,if_false]
    exact hs
theorem Lk:∀ (vars:List ByteArray) (vs:List Int) (s:ByteArray),vs.length=vars.length->s∈vars->∃ n∈vs,bnd ((vars.zip vs).map fun p=>(p.1,word p.2)) s=some (word n)
 | [],_,s,_,h=>by simp at h
 | _::_,[],_,h,_=>by simp at h
 | x::vars,v::vs,s,h,hs=>by
  simp only [List.zip_cons_cons,C2,bnd];by_cases e:x=s
  · exact ⟨v,C4 ..,by rw [H5 e]⟩
  · rw [H6 e]
    obtain ⟨n,h1,h2⟩:=Lk vars vs s (by simpa using h) (by
     rcases D4.1 hs with q | q
     · exact absurd q.symm e
     · exact q)
    exact ⟨n,C3 _ h1,h2⟩
theorem Ni {l:List Bnd} (hg:∀ b∈l,b.2.names=[]):∀ t,(∀ s∈t.names,bnd l s≠none)->(aS l t).names=[]:=Tm.ind fun t ih h=>by
 rw [Tm.names_eq] at h;rw [ee];by_cases hk:t.k=1
 · rw [H5 hk] at h ⊢
   cases hb:bnd l t.s with
   | some v =>
    obtain ⟨b,h1,rfl⟩:=ej hb;exact hg b h1
   | none=>exact absurd hb (h t.s (by simp))
 · rw [H6 hk] at h ⊢
   simp only;rw [Tm.names_eq,Tm.k_mk,Tm.as_mk,H6 hk,E4,List.flatMap_map];rw [zu (g:=fun _=>[]) fun a ha=>ih a ha fun s hs=>h s (D0.2 (.inr (K2.2 ⟨a,ha,hs⟩)))]
   induction t.as with
   | nil=>rfl
   | cons a l ih=>rw [O4,ih]; rfl
theorem Hp {d:DfM} {vars:List ByteArray} {t:Tm} (hs:mi d vars t=true) {c:Int} (hc:isC vars.length c=true):cfg d (jd vars t c)=true:=by
 simp only [mi,B7,E8,decide_eq_false_iff_not] at hs;obtain ⟨hv,_,_,_,htv,hwi,hso⟩:=hs;have hlen:=Ho hc;have hA:=Cs d.op vars (vals vars.length c) hlen;have htn:=dk htv;have hw:∀ b∈cc vars c,b.2.areN=true/\(b.2.names=[]/\(b.2.depth=1/\b.2.nodes=1)):=fun b hb=>by
  unfold cc at hb;simp only [F2] at hb;obtain ⟨p,hp,rfl⟩:=hb;obtain ⟨v1,v2⟩:=Ql hc _ (List.of_mem_zip hp).2;refine ⟨?_,rfl,rfl,rfl⟩;show (word p.2).areN=true
  unfold word;rw [Tm.areN_eq];unfold Tm.nodeN isW;simp only [Tm.k_mk,Tm.n_mk,Tm.s_mk,Tm.as_mk];simp [Tm.areNL,v1,v2]
 have hn1:=Ee (fun b hb=>(hw b hb).1) t htn
 have hs1:aw d.op [] (aS (cc vars c) t)=aw d.op (wv vars) t:=Kz hA t htn hso;have hs2:aw d.op [] (jd vars t c)=aw d.op (wv vars) t:=by unfold jd; rw [Ed d.op [] _ hn1 (by rw [hs1]; exact hso),hs1]
 simp only [cfg,B7,E8,decide_eq_false_iff_not];refine ⟨hv,?_,?_,by rw [hs2]; exact hso⟩
 · simp only [Tm.valid,B7,decide_eq_true_eq] at htv ⊢
   have a1:=th (fun b hb=>(hw b hb).2.2.2) t
   have a2:=gz (aS (cc vars c) t);have a3:=Qj (fun b hb=>(hw b hb).2.2.1) t
   have a4:=Qk (aS (cc vars c) t);exact ⟨by unfold jd; omega,by unfold jd; omega,La _ hn1⟩
 · unfold isG jd
   rw [zv,Ni (fun b hb=>(hw b hb).2.1) t fun s hs=>by
    obtain ⟨n,_,e⟩:=Lk vars (vals vars.length c) s hlen (fj.1 hwi s hs);show bnd (cc vars c) s≠none
    unfold cc;rw [e]; simp]
   rfl
theorem Qm {d:DfM} {t:Tm} (h:cfg d t=true):jb d t 200=some (dm d 200 t):=by
 unfold jb;rw [H5 ⟨by decide,by decide,h⟩]; rfl
noncomputable def vt (d:DfM) (u g:Tm):Bool:=match jb d u 200 with
 | some r=>decide (r.o=1)&&!rj (some r) u g
 | none=>false
noncomputable def Js (c:ClM):Option Nat:=if c.valid=true then (fq c.v c.g).find? fun i=>vt c.d (S.instR c.v c.l (i:Int)) (S.instR c.v c.r (i:Int)) else none
def Xa:Option Nat->List D
 | some i=>[.int (i:Int),.bool true]
 | none=>[.int 0,.bool false]
theorem Qn {vars:List ByteArray} {gs:List Gu} {i:Nat} (h:i∈fq vars gs):isC vars.length (i:Int)=true:=by
 unfold fq at h;have h1:=(R7.1 h).1;have h2:=mg vars.length;simp only [List.mem_range] at h1;simp only [isC,B7,decide_eq_true_eq];omega
theorem Ei {vars:List ByteArray} {t:Tm} {c:Int} (h:isC vars.length c=true):S.instR vars t c=jd vars t c:=by unfold S.instR; rw [H5 h]
end Go.Q
namespace Go.Q
open Go
theorem Ul {n:Int} (h0:0<=n) (h1:n<4):Wt (word n):=.mk (S.i64ok_of (by show _<=(3:Int); decide) (by show (3:Int)<=_; decide)) (S.i64ok_of (by show _<=n; omega) (by show n<=_; omega)) (by show (⟨#[]⟩:ByteArray).size<=maxLen; decide) (K0 _) (by intro a ha; simp [word,Tm.as] at ha)
theorem pf {vars:List ByteArray} {t:Tm} (h:Wt t) (c:Int):Wt (S.instR vars t c):=by
 unfold S.instR;split
 · rename_i hc
   refine Ld _ (Lc (fun b hb=>?_) t h)
   unfold cc at hb;simp only [F2] at hb;obtain ⟨p,hp,rfl⟩:=hb;obtain ⟨v1,v2⟩:=Ql hc _ (List.of_mem_zip hp).2;exact Ul v1 v2
 · exact wt0
def Ym:Option Nat->Int
 | some i=>(i:Int)
 | none=>0
theorem Um (R:Option Nat):Xa R=[.int (Ym R),.bool R.isSome]:=by cases R <;> rfl
end Go.Q
end
section
/- Symbolic terms with cases; comparison. -/
namespace Go.Q
open Go
def rk (n:Nat):Option Int->List Int->Bool
 | _,[]=>true
 | p,c::r=>isC n c&&((match p with | some q=>!decide (c<=q) | none=>true)&&rk n (some c) r)
theorem Hq {n:Nat}:∀ (cs:List Int) (p:Option Int),rk n p cs=true->∀ c∈cs,isC n c=true
 | [],_,_,c,hc=>by simp at hc
 | x::r,p,h,c,hc=>by
  simp only [rk,B7] at h;rcases D4.1 hc with e | hc
  · subst e; exact h.1
  · exact Hq r _ h.2.2 c hc
structure SyM where
 d:DfM
 v:List ByteArray
 t:Tm
 c:List Int
def SyM.row (s:SyM):List D:=[.sl (s.d.so.map ai),.sl (s.d.op.map OpM.row),.sl (s.d.ru.map RuM.row),.sl (s.d.st.map StM.row),.sl (s.v.map ai),.int s.t.k,.int s.t.n,.str s.t.s,.sl (s.t.as.map Tm.row),.sl (s.c.map bu)]
structure SyB (s:SyM):Prop where
 d:DfB s.d
 v:s.v.length<=1048576
 vs:∀ x∈s.v,x.size<=maxLen
 w:Wt s.t
 n:s.t.nodes<=1048577
 c:s.c.length<=1048576
end Go.Q
end
section
/- Places of terms,steps of symbolic terms,branches. -/
namespace Go.Q
open Go
def atO (t:Tm) (p:List Int):Tm:=(atT t p).getD tm0
theorem vh:tm0.nodes=1:=by rw [Tm.nodes_eq]; rfl
theorem Ct (t:Tm) (p:List Int) {m:Nat} (hm:1<=m) (h:t.nodes<=m):(atO t p).nodes<=m:=by
 unfold atO;cases ha:atT t p with
 | none=>rw [Option.getD_none,vh]; exact hm
 | some u=>have:=jn p t u ha; rw [Option.getD_some]; omega
theorem Qo {t:Tm} (h:Wt t) (p:List Int):Wt (atO t p):=by
 unfold atO;cases ha:atT t p with
 | none=>exact wt0
 | some u=>exact Ef (fun t a h ha=>h.sub ha) p t u h ha
theorem Qp {w:Tm} (hw:Wt w):∀ (p:List Int) (t:Tm),Wt t->Wt (fg t p w)
 | [],t,_=>hw
 | i::p,t,h=>by
  simp only [fg];split
  · rename_i hi
    refine Lb h (by simp) fun a ha=>?_
    rcases O3 ha with q | q
    · exact h.sub q
    · exact q▸Qp hw p _ (h.sub (C1 hi))
  · exact h
mutual
def Jt:Tm->List Int->List (List Int)
 | .mk _ _ _ as,p=>p::Nj as p 0
def Nj:List Tm->List Int->Nat->List (List Int)
 | [],_,_=>[]
 | a::r,p,i=>Jt a (p++[(i:Int)])++Nj r p (i+1)
end
theorem Ej (t:Tm) (p:List Int):Jt t p=p::Nj t.as p 0:=by cases t; simp only [Jt,Tm.as]
def cB1 (l u:Tm) (p:List Int):Option Bnd:=if (atO l p).k=1 then some ((atO l p).s,atO u p) else none
def vu (l u:Tm):List Bnd:=(Jt l []).filterMap (cB1 l u)
theorem Hr {l u:Tm} {P:Tm->Prop} (h:∀ p,P (atO u p)):∀ b∈vu l u,P b.2:=fun b hb=>by
 unfold vu at hb;obtain ⟨p,_,hp⟩:=R5.1 hb;unfold cB1 at hp;split at hp
 · simp only [C7.injEq] at hp; subst hp; exact h p
 · simp at hp
theorem Wa {t:Tm} {i:Nat} (h:i<(rW t).as.length):∃ hi:i<t.as.length,(rW t).as[i]=rW t.as[i]:=by
 have key:(rW t).as=[]\/(rW t).as=t.as.map rW:=by
  rw [oq];unfold rW1;split
  · split
    · exact .inl rfl
    · rename_i hxy _; rw [Tm.as_mk,hxy]; exact .inr rfl
  · exact .inr rfl
 rcases key with e | e
 · rw [e] at h; simp at h
 · have hi:i<t.as.length:=by rw [e] at h; simpa using h
   refine ⟨hi,?_⟩;simp only [e,Q1]
theorem Ll {l:List Bnd} (hl:∀ b∈l,b.2.as=[]):∀ (p:List Int) (t u:Tm),atT (rW (aS l t)) p=some u->∃ v,atT t p=some v
 | [],t,u,h=>⟨t,rfl⟩
 | i::p,t,u,h=>by
  obtain ⟨hi,h0,h1⟩:=cr h;obtain ⟨hi2,e2⟩:=Wa hi;have key:∃ hi3:i.toNat<t.as.length,(aS l t).as[i.toNat]=aS l t.as[i.toNat]:=by
   have hc:(aS l t).as=[]\/(aS l t).as=t.as.map (aS l):=by
    rw [ee];split
    · rename_i v hv
      split at hv
      · obtain ⟨b,hb,rfl⟩:=ej hv; exact .inl (hl b hb)
      · simp at hv
    · exact .inr rfl
   rcases hc with e | e
   · rw [e] at hi2; simp at hi2
   · have hi3:i.toNat<t.as.length:=by rw [e] at hi2; simpa using hi2
     exact ⟨hi3,by simp only [e,Q1]⟩
  obtain ⟨hi3,e3⟩:=key;rw [e2,e3] at h1;obtain ⟨v,hv⟩:=Ll hl p _ u h1;exact ⟨v,by simp only [atT,dif_pos hi3,H5 h0]; exact hv⟩
theorem Hs (vars:List ByteArray) (c:Int):∀ b∈cc vars c,b.2.as=[]:=fun b hb=>by
 unfold cc at hb;simp only [F2] at hb;obtain ⟨p,_,rfl⟩:=hb;rfl
def qh (d:DfM) (t:Tm) (x:Nat×List Int):Tm:=match d.ru[x.1]? with
 | some r=>rW (fg t x.2 (aS (vu r.l (atO t x.2)) r.r))
 | none=>tm0
abbrev Bk:=Option (Nat×List Int)
def bK (d:DfM) (t:Tm):Bk->Int
 | none=>1
 | some y=>if (qh d t y).valid=true then 2 else 3
def bT (d:DfM) (t:Tm):Bk->Tm
 | none=>t
 | some y=>if (qh d t y).valid=true then qh d t y else tm0
def Zf (out:List (Bk×List Int)) (x:Bk):Option Nat:=out.findIdx? fun b=>decide (b.1=x)
def Xb (out:List (Bk×List Int)) (x:Bk) (c:Int):List (Bk×List Int):=match Zf out x with
 | some i=>(match out[i]? with | some b=>out.set i (b.1,b.2++[c]) | none=>out)
 | none=>out++[(x,[c])]
noncomputable def brF (d:DfM) (v:List ByteArray) (t:Tm):List Int->List (Bk×List Int)->List (Bk×List Int)
 | [],out=>out
 | c::r,out=>brF d v t r (Xb out (nx d (jd v t c)) c)
theorem Xc {d:DfM} (hd:DfG d) {t:Tm} (hw:Wt t) (hn:t.nodes<=60) {x:Nat×List Int} (hp:x.2.length<=60):Wt (qh d t x)/\(qh d t x).nodes<=7260:=by
 unfold qh;cases hr:d.ru[x.1]? with
 | none=>exact ⟨wt0,by rw [vh]; decide⟩
 | some r =>
  have hrg:=hd.ru (Q9 hr);have a1:=li (m:=60) (by decide) (Hr (l:=r.l) (P:=fun t=>t.nodes<=60) fun p=>Ct (atO t x.2) p (by decide) (Ct t x.2 (by decide) hn)) r.r
  have a2:=bb hrg.rv;have a3:=vn (aS (vu r.l (atO t x.2)) r.r) x.2 t;have a4:=gz (fg t x.2 (aS (vu r.l (atO t x.2)) r.r));have a5:t.nodes*(x.2.length+1)<=60*61:=Nat.mul_le_mul hn (by omega)
  refine ⟨Ld _ (Qp (Lc (Hr (P:=Wt) fun p=>Qo (Qo hw x.2) p) r.r hrg.b.wr) x.2 t hw),?_⟩
  simp only;omega
theorem xh {α:Type}:∀ (i:Nat) (x:α) (l:List α),i<l.length->over i [x] l=l.set i x
 | i,x,[],h=>by simp at h
 | 0,x,a::l,_=>by cases l <;> rfl
 | i+1,x,a::l,h=>by simp only [over,S9,xh i x l (by simpa using h)]
structure BkG (d:DfM) (t:Tm) (x:Bk):Prop where
 i:∀ y,x=some y->y.1<d.ru.length/\y.2.length<=60/\∃ u,atT t y.2=some u
theorem Qq {d:DfM} {v:List ByteArray} {t:Tm} (hb:DfB d) (hw:Wt t) (hs:mi d v t=true) {c:Int} (hc:isC v.length c=true):DfG d/\t.nodes<=60/\Gt d.op (jd v t c)/\(jd v t c).nodes<=60/\BkG d t (nx d (jd v t c)):=by
 have hwi:Wt (jd v t c):=Ei hc▸pf hw c;obtain ⟨h1,h2,h3⟩:=Ag hb hwi (Hp hs hc);have htn:t.nodes<=60:=by
  simp only [mi,B7] at hs;exact bb hs.2.2.2.2.1
 refine ⟨h1,htn,h2,h3,⟨fun y hy=>?_⟩⟩
 obtain ⟨u,r,w,q1,q2,_⟩:=yi d (jd v t c) y.1 y.2 hy;have q3:=jn y.2 _ u q1;exact ⟨(D6.1 q2).1,by omega,Ll (Hs v c) y.2 t u q1⟩
end Go.Q
end
section
/- Branches: bounds of what is answered. -/
namespace Go.Q
open Go
end Go.Q
end
section
/- Symbolic terms stay symbolic along a step. -/
namespace Go.Q
open Go
theorem Ht:∀ {l:List Bnd} {s:ByteArray} {w:Tm},bnd l s=some w->(s,w)∈l
 | [],s,w,h=>by simp [bnd] at h
 | b::l,s,w,h=>by
  simp only [bnd] at h;split at h
  · rename_i e
    simp only [C7.injEq] at h;obtain ⟨b1,b2⟩:=b;simp only at e h;subst e; subst h;exact C4 ..
  · exact C3 _ (Ht h)
theorem Aj:∀ {l:List Bnd} {s:ByteArray} {w:Tm},(s,w)∈l->∃ w',bnd l s=some w'
 | [],s,w,h=>by simp at h
 | b::l,s,w,h=>by
  simp only [bnd];by_cases e:b.1=s
  · exact ⟨b.2,H5 e⟩
  · rw [H6 e]
    rcases D4.1 h with h | h
    · exact absurd (by rw [<- h]) e
    · exact Aj h
theorem Ak:∀ (as:List Tm) (p:List Int) (i:Nat) (q:List Int),q∈Nj as p i↔∃ j,∃ h:j<as.length,q∈Jt as[j] (p++[((i+j:Nat):Int)])
 | [],p,i,q=>by simp [Nj]
 | a::r,p,i,q=>by
  simp only [Nj,D0];rw [Ak r p (i+1) q];constructor
  · rintro (h | ⟨j,hj,h⟩)
    · exact ⟨0,by simp,by simpa using h⟩
    · exact ⟨j+1,by simpa using hj,by rw [show i+(j+1)=i+1+j by omega]; simpa using h⟩
  · rintro ⟨j,hj,h⟩
    cases j with
    | zero=>exact .inl (by simpa using h)
    | succ j=>exact .inr ⟨j,by simpa using hj,by rw [show i+1+j=i+(j+1) by omega]; simpa using h⟩
theorem Hu {t:Tm} {j:Nat} (h:j<t.as.length) (q:List Int):atT t ((j:Int)::q)=atT t.as[j] q:=by
 simp only [atT,Int.toNat_natCast,dif_pos h];rw [H5 (by omega)]
theorem Un:∀ t:Tm,∀ p q,q∈Jt t p->∃ q' a,q=p++q'/\atT t q'=some a:=Tm.ind fun t ih p q hq=>by
 rw [Ej] at hq;rcases D4.1 hq with e | hq
 · exact ⟨[],t,by simp [e],rfl⟩
 · obtain ⟨j,hj,h⟩:=(Ak t.as p 0 q).1 hq
   obtain ⟨q',a,e,h1⟩:=ih _ (C1 hj) _ q h;refine ⟨(j:Int)::q',a,?_,by rw [Hu hj]; exact h1⟩
   rw [e,Nat.zero_add]; simp
theorem Lm:∀ (q:List Int) (t:Tm) (p:List Int) (a:Tm),atT t q=some a->p++q∈Jt t p
 | [],t,p,a,_=>by rw [Ej]; simp
 | i::q,t,p,a,h=>by
  obtain ⟨hi,h0,h1⟩:=cr h;rw [Ej];refine C3 _ ((Ak t.as p 0 _).2 ⟨i.toNat,hi,?_⟩);have:=Lm q _ (p++[i]) a h1;rw [Nat.zero_add,show ((i.toNat:Nat):Int)=i by omega]
  simpa using this
theorem Qr:∀ t:Tm,∀ s∈t.names,∃ q a,atT t q=some a/\a.k=1/\a.s=s:=Tm.ind fun t ih s hs=>by
 rw [Tm.names_eq] at hs;rcases D0.1 hs with h | h
 · split at h
   · rename_i hk
     simp only [F8] at h;exact ⟨[],t,rfl,hk,h.symm⟩
   · simp at h
 · obtain ⟨x,hx,hs⟩:=K2.1 h
   obtain ⟨j,hj,e⟩:=List.getElem_of_mem hx;obtain ⟨q,a,h1,h2,h3⟩:=ih x hx s hs;exact ⟨(j:Int)::q,a,by rw [Hu hj,e]; exact h1,h2,h3⟩
theorem Al:∀ (q:List Int) (t u:Tm),atT t q=some u->∀ s∈u.names,s∈t.names
 | [],t,u,h,s,hs=>by simp only [atT,C7.injEq] at h; subst h; exact hs
 | i::q,t,u,h,s,hs=>by
  obtain ⟨hi,h0,h1⟩:=cr h;rw [Tm.names_eq];exact D0.2 (.inr (K2.2 ⟨_,C1 hi,Al q _ u h1 s hs⟩))
theorem Nk {l u:Tm} {s:ByteArray} {w:Tm} (h:(s,w)∈vu l u):∃ q a,atT l q=some a/\a.k=1/\a.s=s/\w=atO u q:=by
 unfold vu at h;obtain ⟨q,hq,h1⟩:=R5.1 h;obtain ⟨q',a,e,ha⟩:=Un l [] q hq;simp only [E4] at e;subst e;have e:atO l q=a:=by simp [atO,ha]
 unfold cB1 at h1;rw [e] at h1;split at h1
 · rename_i hk
   simp only [C7.injEq,G5.injEq] at h1;exact ⟨q,a,ha,hk,h1.1,h1.2.symm⟩
 · simp at h1
theorem Hv {l u:Tm} {s:ByteArray} (h:s∈l.names):∃ w,bnd (vu l u) s=some w:=by
 obtain ⟨q,a,h1,h2,h3⟩:=Qr l s h;have hq:=Lm q l [] a h1;simp only [E4] at hq;have e:atO l q=a:=by simp [atO,h1]
 refine Aj (w:=atO u q) (R5.2 ⟨q,hq,?_⟩);unfold cB1;rw [e,H5 h2,h3]
theorem Xd {k n:Int} {s:ByteArray} {as:List Tm} (h:(rW1 k n s as).k=2):k=2/\rW1 k n s as=.mk k n s as:=by
 unfold rW1 at h ⊢;split at h
 · split at h
   · exact absurd h (by show ¬(3:Int)=2; decide)
   · rename_i hc; rw [H6 hc]; exact ⟨h,rfl⟩
 · exact ⟨h,rfl⟩
theorem Hw {σ:List Bnd} (hσ:∀ b∈σ,b.2.as=[]/\b.2.k=3) {u:Tm} (hu:u.areN=true) (h:(rW (aS σ u)).k=2):u.k=2/\(rW (aS σ u)).s=u.s/\(rW (aS σ u)).as=u.as.map fun a=>rW (aS σ a):=by
 rw [oq] at h ⊢;obtain ⟨h1,h2⟩:=Xd h;rw [h2];have hk:u.k=2:=by
  rcases dg hu with ⟨q,_⟩|⟨q,_,_⟩ | q
  · rw [ee,H5 q] at h1
    cases hb:bnd σ u.s with
    | some w =>
     rw [hb] at h1;obtain ⟨b,hbm,rfl⟩:=ej hb;have:=(hσ b hbm).2;simp only at h1; omega
    | none=>rw [hb] at h1; simp only [Tm.k_mk] at h1; omega
  · rw [ee,H6 (by omega)] at h1; simp only [Tm.k_mk] at h1; omega
  · exact q
 have e:aS σ u=.mk u.k u.n u.s (u.as.map (aS σ)):=by rw [ee,H6 (by omega)]
 refine ⟨hk,?_,?_⟩
 · rw [e]; rfl
 · rw [e,Tm.as_mk,Tm.as_mk,K5]; rfl
theorem Hx {l:List Bnd} (hl:∀ b∈l,b.2.as=[]):∀ (p:List Int) (t u:Tm),atT (rW (aS l t)) p=some u->∃ v,atT t p=some v/\u=rW (aS l v)
 | [],t,u,h=>by simp only [atT,C7.injEq] at h; exact ⟨t,rfl,h.symm⟩
 | i::p,t,u,h=>by
  obtain ⟨hi,h0,h1⟩:=cr h;obtain ⟨hi2,e2⟩:=Wa hi;have key:∃ hi3:i.toNat<t.as.length,(aS l t).as[i.toNat]=aS l t.as[i.toNat]:=by
   have hc:(aS l t).as=[]\/(aS l t).as=t.as.map (aS l):=by
    rw [ee];split
    · rename_i v hv
      split at hv
      · obtain ⟨b,hb,rfl⟩:=ej hv; exact .inl (hl b hb)
      · simp at hv
    · exact .inr rfl
   rcases hc with e | e
   · rw [e] at hi2; simp at hi2
   · have hi3:i.toNat<t.as.length:=by rw [e] at hi2; simpa using hi2
     exact ⟨hi3,by simp only [e,Q1]⟩
  obtain ⟨hi3,e3⟩:=key;rw [e2,e3] at h1;obtain ⟨v,hv,e⟩:=Hx hl p _ u h1;exact ⟨v,by simp only [atT,dif_pos hi3,H5 h0]; exact hv,e⟩
def Uo (vs vs':List VS):Prop:=∀ s y,ex vs s=some y->ex vs' s=some y
theorem Am (ops:List OpM):∀ (l:List Tm),(∀ t∈l,∀ x vs vs',gn ops t x vs=some vs'->Uo vs vs')->∀ xs vs vs',em ops l xs vs=some vs'->Uo vs vs'
 | [],_,xs,vs,vs',h=>by simp only [em,C7.injEq] at h; subst h; exact fun _ _ h=>h
 | t::l,ih,xs,vs,vs',h=>by
  have step:∀ x ys v,gn ops t x vs=some v->em ops l ys v=some vs'->Uo vs vs':=fun x ys v hq h=>by
   have h1:=ih t (C4 ..) x vs v hq;have h2:=Am ops l (fun a ha=>ih a (C3 _ ha)) ys v vs' h
   exact fun s y hy=>h2 s y (h1 s y hy)
  cases xs with
  | nil =>
   simp only [em] at h;cases hq:gn ops t e0 vs with
   | none=>rw [hq] at h; simp at h
   | some v=>rw [hq] at h; exact step _ _ _ hq h
  | cons x ys =>
   simp only [em] at h;cases hq:gn ops t x vs with
   | none=>rw [hq] at h; simp at h
   | some v=>rw [hq] at h; exact step _ _ _ hq h
theorem Qs (ops:List OpM):∀ t:Tm,∀ x vs vs',gn ops t x vs=some vs'->Uo vs vs':=Tm.ind fun t ih x vs vs' h=>by
 rw [kr] at h;split at h
 · split at h
   · split at h
     · simp only [C7.injEq] at h; subst h; exact fun _ _ h=>h
     · simp at h
   · simp only [C7.injEq] at h; subst h
     intro s y hy;rw [vk,hy]
 · exact Am ops t.as ih _ _ _ h
theorem Qt (ops:List OpM) (wvs:List VS) {σ:List Bnd} (hσ:∀ b∈σ,b.2.as=[]/\b.2.k=3):∀ l:Tm,l.areN=true->∀ u x vs vs' acc acc',u.areN=true->aw ops wvs u=x->x≠e0->gn ops l x vs=some vs'->mT l (rW (aS σ u)) acc=some acc' →
 ∀ q a,atT l q=some a->a.k=1->∃ w y,atT u q=some w/\ex vs' a.s=some y/\aw ops wvs w=y.2:=Tm.ind fun l ih hn u x vs vs' acc acc' hun hu hx hi hm q a ha hk=>by
 rcases dg hn with ⟨h1,has⟩|⟨h3,_,has⟩ | h2
 · cases q with
   | cons i q=>obtain ⟨hlt,_,_⟩:=cr ha; rw [has] at hlt; simp at hlt
   | nil =>
    simp only [atT,C7.injEq] at ha;subst ha;rw [kr,H5 h1] at hi;cases hv:ex vs l.s with
    | some y =>
     have hv':=hv;unfold ex at hv;rw [hv] at hi;simp only at hi;split at hi
     · rename_i e
       simp only [C7.injEq] at hi;subst hi;exact ⟨u,y,rfl,hv',by rw [hu]; exact e.symm⟩
     · simp at hi
    | none =>
     have hv':=hv;unfold ex at hv;rw [hv] at hi;simp only [C7.injEq] at hi;subst hi;exact ⟨u,(l.s,x),rfl,by rw [vk,hv']; simp,hu⟩
 · cases q with
   | cons i q=>obtain ⟨hlt,_,_⟩:=cr ha; rw [has] at hlt; simp at hlt
   | nil=>simp only [atT,C7.injEq] at ha; subst ha; omega
 · cases q with
   | nil=>simp only [atT,C7.injEq] at ha; subst ha; omega
   | cons i q =>
    rcases ib hm with ⟨e,_⟩|⟨e,_⟩|⟨_,e1,_,e3,e4,hms⟩
    · omega
    · omega
    obtain ⟨b1,b2,b3⟩:=Hw hσ hun (by omega)
    obtain ⟨o,hf,hl,hss,_⟩:=ir (t:=u) b1 (by rw [hu]; exact hx)
    rw [kr,H6 (by omega),H5 h2,e3,b2,hf] at hi
    simp only at hi;rw [b3] at hms e4;rw [B6] at e4;obtain ⟨hlt,h0,h1⟩:=cr ha;have key:∀ (ts us:List Tm) (xs:List ByteArray) (vs:List VS) (acc:List Bnd),(∀ t∈ts,t∈l.as)->(∀ t∈us,t∈u.as)->us.length<=xs.length->bj ops wvs us xs=true->em ops ts xs vs=some vs'->mTs ts (us.map fun a=>rW (aS σ a)) acc=some acc' →
     ∀ j (hj:j<ts.length) (hj':j<us.length),atT ts[j] q=some a->∃ w y,atT us[j] q=some w/\ex vs' a.s=some y/\aw ops wvs w=y.2:=by
     intro ts;induction ts with
     | nil=>intro us xs vs acc _ _ _ _ _ _ j hj; simp at hj
     | cons t ts ihs =>
      intro us xs vs acc hts hus hlen hs hi hm j hj hj' hat;cases us with
      | nil=>simp at hj'
      | cons u1 us =>
       cases xs with
       | nil=>simp at hlen
       | cons y xs =>
        simp only [bj,B7,E8,decide_eq_false_iff_not,decide_eq_true_eq] at hs;simp only [em] at hi;simp only [C2,mTs] at hm;cases hi1:gn ops t y vs with
        | none=>rw [hi1] at hi; simp at hi
        | some vs1 =>
         rw [hi1] at hi;cases hm1:mT t (rW (aS σ u1)) acc with
         | none=>rw [hm1] at hm; simp at hm
         | some acc1 =>
          rw [hm1] at hm;simp only at hi hm;cases j with
          | zero =>
           obtain ⟨w,z,k1,k2,k3⟩:=ih t (hts t (C4 ..)) (dt hn (hts t (C4 ..))) u1 y vs vs1 acc acc1 (dt hun (hus u1 (C4 ..))) hs.1.2 (by rw [<- hs.1.2]; exact hs.1.1) hi1 hm1 q a hat hk
           exact ⟨w,z,k1,Am ops ts (fun t _=>Qs ops t) xs vs1 vs' hi _ _ k2,k3⟩
          | succ j =>
           exact ihs us xs vs1 acc1 (fun t ht=>hts t (C3 _ ht)) (fun t ht=>hus t (C3 _ ht)) (by simpa using hlen) hs.2 hi hm j (by simpa using hj) (by simpa using hj') hat
    have hlt':i.toNat<u.as.length:=by omega
    obtain ⟨w,y,k1,k2,k3⟩:=key l.as u.as o.a vs acc (fun _ h=>h) (fun _ h=>h) (by omega) hss hi hms i.toNat hlt hlt' h1
    exact ⟨w,y,by simp only [atT,dif_pos hlt',H5 h0]; exact k1,k2,k3⟩
theorem Qu {ops:List OpM} {vs vs1:List VS} {l:List Bnd}:∀ t:Tm,t.areN=true->aw ops vs t≠e0->(∀ s∈t.names,∃ w,bnd l s=some w/\∀ y,ex vs s=some y->aw ops vs1 w=y.2)->aw ops vs1 (aS l t)=aw ops vs t:=Tm.ind fun t ih hn hs hA=>by
 rw [Tm.names_eq] at hA;rcases dg hn with ⟨h1,ha⟩|⟨h3,_,ha⟩ | h2
 · have e:aw ops vs t=ql vs t.s:=by rw [ck,H6 (by omega),H5 h1]
   rw [e] at hs ⊢;rw [Hj] at hs ⊢;cases hv:ex vs t.s with
   | none=>rw [hv] at hs; exact absurd rfl hs
   | some v =>
    obtain ⟨w,hb,hw⟩:=hA t.s (by simp [h1])
    rw [ee,H5 h1,hb];exact hw v hv
 · rw [ee,H6 (by omega)]
   rw [ck,ck ops vs,H5 (show (Tm.mk t.k t.n t.s _).k=3 from h3),H5 h3]
 · obtain ⟨o,hf,hl,hss,e⟩:=ir h2 hs
   rw [ee,H6 (by omega),e]
   have key:∀ (ts:List Tm) (xs:List ByteArray),(∀ a∈ts,a∈t.as)->bj ops vs ts xs=true->bj ops vs1 (ts.map (aS l)) xs=true:=by
    intro ts;induction ts with
    | nil=>intro xs _ _; rfl
    | cons a ts ihs =>
     intro xs hts h;cases xs with
     | nil=>rfl
     | cons y xs =>
      simp only [bj,B7,E8,decide_eq_false_iff_not,decide_eq_true_eq] at h;have hm:=hts a (C4 ..);have q:=ih a hm (dt hn hm) h.1.1 fun s hs=>hA s (D0.2 (.inr (K2.2 ⟨a,hm,hs⟩)))
      simp only [C2,bj,B7,E8,decide_eq_false_iff_not,decide_eq_true_eq,q];exact ⟨h.1,ihs xs (fun z hz=>hts z (C3 _ hz)) h.2⟩
   exact kj (t:=.mk t.k t.n t.s (t.as.map (aS l))) h2 hf (by simpa [Tm.as] using hl) (key _ _ (fun _ h=>h) hss)
theorem Ek {ops:List OpM} {vs:List VS}:∀ (p:List Int) (t u:Tm),t.areN=true->aw ops vs t≠e0->atT t p=some u->u.areN=true/\aw ops vs u≠e0
 | [],t,u,hn,hs,h=>by simp only [atT,C7.injEq] at h; subst h; exact ⟨hn,hs⟩
 | i::p,t,u,hn,hs,h=>by
  obtain ⟨hi,h0,h1⟩:=cr h;have h2:t.k=2:=by
   rcases dg hn with ⟨_,q⟩|⟨_,_,q⟩ | h2
   · rw [q] at hi; simp at hi
   · rw [q] at hi; simp at hi
   · exact h2
  obtain ⟨o,hf,hl,hss,e⟩:=ir h2 hs;exact Ek p _ u (dt hn (C1 hi)) (lh ops vs t.as o.a (by omega) hss _ (C1 hi)) h1
theorem Hy {ops:List OpM} {vs:List VS} {w:Tm} (hw:w.areN=true):∀ (p:List Int) (t u:Tm),t.areN=true->aw ops vs t≠e0->atT t p=some u->aw ops vs w=aw ops vs u->(fg t p w).areN=true/\aw ops vs (fg t p w)=aw ops vs t
 | [],t,u,hn,hs,h,he=>by simp only [atT,C7.injEq] at h; subst h; exact ⟨hw,he⟩
 | i::p,t,u,hn,hs,h,he=>by
  obtain ⟨hi,h0,h1⟩:=cr h;have h2:t.k=2:=by
   rcases dg hn with ⟨_,q⟩|⟨_,_,q⟩ | h2
   · rw [q] at hi; simp at hi
   · rw [q] at hi; simp at hi
   · exact h2
  obtain ⟨o,hf,hl,hss,e⟩:=ir h2 hs;have hm:=C1 hi;obtain ⟨g1,g2⟩:=Hy hw p _ u (dt hn hm) (lh ops vs t.as o.a (by omega) hss _ hm) h1 he
  simp only [fg,dif_pos hi];refine ⟨yh hn (by simp) fun a ha=>?_,?_⟩
  · rcases O3 ha with q | q
    · exact dt hn q
    · exact q▸g1
  · rw [e]
    refine kj (t:=.mk t.k t.n t.s _) h2 hf (by rw [Tm.as_mk,List.length_set]; exact hl) ?_
    rw [Tm.as_mk,rh t.as o.a i.toNat hi _ g2]; exact hss
theorem Qv {l:List Bnd}:∀ t:Tm,∀ s∈(aS l t).names,(s∈t.names/\bnd l s=none)\/∃ b∈l,s∈b.2.names:=Tm.ind fun t ih s hs=>by
 rw [ee] at hs;by_cases hk:t.k=1
 · rw [H5 hk] at hs
   cases hb:bnd l t.s with
   | some v =>
    rw [hb] at hs;obtain ⟨b,h1,rfl⟩:=ej hb;exact .inr ⟨b,h1,hs⟩
   | none =>
    rw [hb] at hs;simp only at hs;rw [Tm.names_eq,Tm.k_mk,H5 hk] at hs;rcases D0.1 hs with h | h
    · simp only [F8] at h
      have h:s=t.s:=h;exact .inl ⟨by rw [Tm.names_eq,H5 hk]; simp [h],by rw [h]; exact hb⟩
    · obtain ⟨x,hx,hs⟩:=K2.1 h
      obtain ⟨a,ha,rfl⟩:=F2.1 hx;rcases ih a ha s hs with ⟨q1,q2⟩ | q
      · exact .inl ⟨by rw [Tm.names_eq]; exact D0.2 (.inr (K2.2 ⟨a,ha,q1⟩)),q2⟩
      · exact .inr q
 · rw [H6 hk] at hs
   simp only at hs;rw [Tm.names_eq,Tm.k_mk,H6 hk,E4] at hs;obtain ⟨x,hx,hs⟩:=K2.1 hs;obtain ⟨a,ha,rfl⟩:=F2.1 hx;rcases ih a ha s hs with ⟨q1,q2⟩ | q
   · exact .inl ⟨by rw [Tm.names_eq]; exact D0.2 (.inr (K2.2 ⟨a,ha,q1⟩)),q2⟩
   · exact .inr q
theorem Cu {w:Tm}:∀ (p:List Int) (t:Tm),∀ s∈(fg t p w).names,s∈t.names\/s∈w.names
 | [],t,s,hs=>.inr hs
 | i::p,t,s,hs=>by
  simp only [fg] at hs;split at hs
  · rename_i hi
    rw [Tm.names_eq,Tm.k_mk,Tm.as_mk] at hs;rw [Tm.names_eq];rcases D0.1 hs with h | h
    · exact .inl (D0.2 (.inl h))
    · obtain ⟨x,hx,hs⟩:=K2.1 h
      rcases O3 hx with q | q
      · exact .inl (D0.2 (.inr (K2.2 ⟨x,q,hs⟩)))
      · subst q
        rcases Cu p _ s hs with q | q
        · exact .inl (D0.2 (.inr (K2.2 ⟨_,C1 hi,q⟩)))
        · exact .inr q
  · exact .inl hs
theorem Ln {vars:List ByteArray} {c:Int}:∀ b∈cc vars c,b.2.as=[]/\b.2.k=3:=fun b hb=>by
 unfold cc at hb;simp only [F2] at hb;obtain ⟨p,_,rfl⟩:=hb;exact ⟨rfl,rfl⟩
theorem Ju {ops:List OpM} {r:RuM} (h:jg ops r=true):∀ s∈r.r.names,s∈r.l.names:=by
 unfold jg at h;simp only [B7,decide_eq_true_eq] at h;obtain ⟨_,_,_,_,_,h4⟩:=h;cases hf:dj ops r.l.s with
 | none=>rw [hf] at h4; simp at h4
 | some o =>
  rw [hf] at h4;simp only at h4;cases hi:oz ops r.l o.r with
  | none=>rw [hi] at h4; simp at h4
  | some vs =>
   rw [hi] at h4;simp only [B7] at h4;exact fj.1 h4.2.1
theorem Qw {d:DfM} {v:List ByteArray} {t:Tm} (hb:DfB d) (hw:Wt t) (hs:mi d v t=true) {c:Int} (hc:isC v.length c=true) {x:Nat×List Int} (hx:nx d (jd v t c)=some x) (hv:(qh d t x).valid=true):mi d v (qh d t x)=true:=by
 obtain ⟨hd,htn,hg,hgn,_⟩:=Qq hb hw hs hc;have hs':=hs;simp only [mi,B7,E8,decide_eq_false_iff_not] at hs' ⊢;obtain ⟨s1,s2,s3,s4,s5,s6,s7⟩:=hs';refine ⟨s1,s2,s3,s4,hv,?_⟩;have hna:=dk s5;obtain ⟨u',r,w',q1,q2,q3⟩:=yi d (jd v t c) x.1 x.2 hx;obtain ⟨u,hu,rfl⟩:=Hx (Hs v c) x.2 t u' q1;obtain ⟨hun,hus⟩:=Ek x.2 t u hna s7 hu;have hr:=hd.ru (Q9 q2);have hrw:∀ s∈r.r.names,s∈r.l.names:=by
  have:=hd.v;simp only [DfM.valid,B7,D9] at this;exact Ju (this.2.2.2.1 r (Q9 q2))
 unfold fm at q3;cases hm:mT r.l (rW (aS (cc v c) u)) [] with
 | none=>rw [hm] at q3; simp at q3
 | some l' =>
 obtain ⟨o,vs,hf,hi,hso⟩:=hr.inf;have hk:(rW (aS (cc v c) u)).k=2/\(rW (aS (cc v c) u)).s=r.l.s:=by
  rcases ib hm with ⟨q,_⟩|⟨q,_⟩|⟨_,q1,_,q2,_⟩
  · have:=hr.lk; omega
  · have:=hr.lk; omega
  · exact ⟨by rw [<- q1]; exact hr.lk,q2.symm⟩
 obtain ⟨b1,b2,b3⟩:=Hw Ln hun hk.1;obtain ⟨o',hf',hl',hss',he'⟩:=ir b1 hus;rw [<- b2,hk.2,hf] at hf';simp only [C7.injEq] at hf';subst hf';have hne:o.r≠e0:=he'▸hus;have hP:=Qt d.op (wv v) Ln r.l (dk hr.lv) u o.r [] vs [] l' hun he' hne (tv hi) hm
 -- bindings
 have hB:∀ b∈vu r.l (atO t x.2),∃ q a y,atT r.l q=some a/\a.k=1/\a.s=b.1/\atT u q=some b.2/\ex vs b.1=some y/\aw d.op (wv v) b.2=y.2:=fun b hb'=>by
  obtain ⟨s,w⟩:=b;obtain ⟨q,a,k1,k2,k3,k4⟩:=Nk hb';have eu:atO t x.2=u:=by simp [atO,hu]
  obtain ⟨w2,y,m1,m2,m3⟩:=hP q a k1 k2;have ew:w=w2:=by rw [k4,eu]; simp [atO,m1]
  subst ew;exact ⟨q,a,y,k1,k2,k3,m1,by rw [<- k3]; exact m2,m3⟩
 have hBn:∀ b∈vu r.l (atO t x.2),b.2.areN=true:=fun b hb'=>by
  obtain ⟨q,a,y,_,_,_,m1,_⟩:=hB b hb';exact (Ek q u b.2 hun hus m1).1
 have hBw:∀ b∈vu r.l (atO t x.2),∀ s∈b.2.names,s∈t.names:=fun b hb' s hs=>by
  obtain ⟨q,a,y,_,_,_,m1,_⟩:=hB b hb';exact Al x.2 t u hu s (Al q u b.2 m1 s hs)
 have hrn:=Ee hBn r.r (dk hr.rv);have hrs:aw d.op (wv v) (aS (vu r.l (atO t x.2)) r.r)=o.r:=by
  rw [<- hso];refine Qu r.r (dk hr.rv) (by rw [hso]; exact hne) fun s hs=>?_
  obtain ⟨w,hbw⟩:=Hv (u:=atO t x.2) (hrw s hs);refine ⟨w,hbw,fun y hy=>?_⟩
  obtain ⟨q,a,y',_,_,_,_,m2,m3⟩:=hB _ (Ht hbw);rw [hy] at m2;simp only [C7.injEq] at m2;rw [m2]; exact m3
 obtain ⟨p1,p2⟩:=Hy hrn x.2 t u hna s7 hu (by rw [hrs,he'])
 have ec:qh d t x=rW (fg t x.2 (aS (vu r.l (atO t x.2)) r.r)):=by
  unfold qh; rw [q2]
 rw [ec];refine ⟨fj.2 fun s hs=>?_,by rw [Ed d.op (wv v) _ p1 (by rw [p2]; exact s7),p2]; exact s7⟩
 rw [zv] at hs;refine fj.1 s6 s ?_;rcases Cu x.2 t s hs with h | h
 · exact h
 · rcases Qv r.r s h with ⟨h1,h2⟩|⟨b,h1,h2⟩
   · obtain ⟨w,hbw⟩:=Hv (u:=atO t x.2) (hrw s h1)
     rw [hbw] at h2; simp at h2
   · exact hBw b h1 s h2
end Go.Q
end
section
/- Proofs of claims. -/
namespace Go.Q
open Go
structure PnM where
 k:Int
 nx:List Int
 c:Int
 s:List Bnd
def PnM.row (n:PnM):List D:=[.int n.k,.sl (n.nx.map bu),.int n.c,.sl (n.s.map Bnd.row)]
structure PnB (n:PnM):Prop where
 nx:n.nx.length<=1048576
 s:n.s.length<=1048576
 b:∀ b∈n.s,ax b.2
theorem Nl {n:Nat} {c:Int}:∀ (r:List Int) (p:Option Int),(∀ q,p=some q->q<=c)->rk n (some c) r=true->rk n p r=true
 | [],_,_,_=>rfl
 | x::r,p,hp,h=>by
  simp only [rk,B7,E8,decide_eq_false_iff_not] at h ⊢;refine ⟨h.1,?_,h.2.2⟩;cases p with
  | none=>rfl
  | some q=>simp only [E8,decide_eq_false_iff_not]; have:=hp q rfl; omega
theorem Nm {n:Nat} {p:Option Int} {c:Int} {r:List Int} (h:rk n p (c::r)=true):rk n p r=true:=by
 simp only [rk,B7] at h;refine Nl r p (fun q hq=>?_) h.2.2
 subst hq;have:=h.2.1;simp only [E8,decide_eq_false_iff_not] at this;omega
theorem Hz {n:Nat} {l cl:List Int} (h:l.Sublist cl):∀ p,rk n p cl=true->rk n p l=true:=by
 induction h with
 | slnil=>intro p h; exact h
 | cons a _ ih=>intro p h; exact ih p (Nm h)
 | cons_cons a _ ih =>
  intro p h;simp only [rk,B7] at h ⊢;exact ⟨h.1,h.2.1,ih _ h.2.2⟩
def pvI:Option Int->Int
 | some q=>if 0<=q then q+1 else 0
 | none=>0
theorem Ia {n:Nat}:∀ (cl:List Int) (p:Option Int),rk n p cl=true->(cl.length:Int)<=64-pvI p\/cl=[]
 | [],p,_=>.inr rfl
 | c::r,p,h=>by
  simp only [rk,B7] at h;have hc:=mh h.1;left;have h1:=Ia r (some c) h.2.2;have hpc:pvI p<=c:=by
   cases p with
   | none=>exact hc.2.1
   | some q =>
    have:=h.2.1;simp only [E8,decide_eq_false_iff_not] at this;show (if 0<=q then q+1 else 0)<=c
    split <;> omega
  simp only [C5];rcases h1 with h1 | h1
  · have e:pvI (some c)=c+1:=by show (if 0<=c then c+1 else 0)=c+1; rw [H5 hc.2.1]
    rw [e] at h1; omega
  · subst h1; simp only [C8]; omega
theorem Lo {d:DfM} {v:List ByteArray} {t:Tm}:∀ (l P:List Int) (out:List (Bk×List Int)),(∀ b∈out,b.2.Sublist P/\∃ c∈P,nx d (jd v t c)=b.1)->∀ b∈brF d v t l out,b.2.Sublist (P++l)/\∃ c∈P++l,nx d (jd v t c)=b.1
 | [],P,out,h=>by simpa only [brF,J3] using h
 | c::r,P,out,h=>by
  have h1:∀ b∈Xb out (nx d (jd v t c)) c,b.2.Sublist (P++[c])/\∃ c'∈P++[c],nx d (jd v t c')=b.1:=fun b hb=>by
   have old:∀ b∈out,b.2.Sublist (P++[c])/\∃ c'∈P++[c],nx d (jd v t c')=b.1:=fun b hb=>by
    obtain ⟨k1,c',k2,k3⟩:=h b hb;exact ⟨k1.trans (List.sublist_append_left ..),c',D0.2 (.inl k2),k3⟩
   unfold Xb at hb;split at hb
   · split at hb
     · rename_i q hq
       rcases O3 hb with hb | hb
       · exact old b hb
       · subst hb
         obtain ⟨k1,c',k2,k3⟩:=h q (Q9 hq);exact ⟨List.Sublist.append k1 (List.Sublist.refl _),c',D0.2 (.inl k2),k3⟩
     · exact old b hb
   · rcases D0.1 hb with hb | hb
     · exact old b hb
     · simp only [F8] at hb; subst hb
       exact ⟨List.sublist_append_right ..,c,by simp,rfl⟩
  have:=Lo r (P++[c]) _ h1;simpa only [brF,E3,G8,E4] using this
structure StG (d:DfM) (v:List ByteArray) (t:Tm) (cl:List Int):Prop where
 w:Wt t
 s:mi d v t=true
 c:rk v.length none cl=true
theorem StG.n {d:DfM} {v:List ByteArray} {t:Tm} {cl:List Int} (h:StG d v t cl):t.nodes<=60:=by
 have:=h.s;simp only [mi,B7] at this;exact bb this.2.2.2.2.1
theorem StG.l {d:DfM} {v:List ByteArray} {t:Tm} {cl:List Int} (h:StG d v t cl):cl.length<=64:=by
 rcases Ia cl none h.c with k | k
 · simp only [pvI] at k; omega
 · subst k; simp
theorem StG.op {d:DfM} {v:List ByteArray} {t:Tm} {cl:List Int} (h:StG d v t cl) {l:List Int} (hl:l.Sublist cl):StG d v t l:=⟨h.w,h.s,Hz hl none h.c⟩
theorem StG.next {d:DfM} (hb:DfB d) {v:List ByteArray} {t:Tm} {cl:List Int} (h:StG d v t cl) {b:Bk×List Int} (hm:b∈brF d v t cl []) (hk:bK d t b.1=2):StG d v (bT d t b.1) b.2:=by
 obtain ⟨h1,c,h2,h3⟩:=Lo (d:=d) (v:=v) (t:=t) cl [] [] (by simp) b hm
 simp only [E4] at h1 h2;have hc:=Hq cl none h.c c h2;obtain ⟨bk,bl⟩:=b;simp only at h3 hk h1 ⊢;cases bk with
 | none=>exact absurd hk (by show ¬(1:Int)=2; decide)
 | some y =>
  have hv:(qh d t y).valid=true:=by
   cases hq:(qh d t y).valid with
   | true=>rfl
   | false =>
    have:bK d t (some y)=3:=by show (if (qh d t y).valid=true then (2:Int) else 3)=3; rw [hq]; rfl
    omega
  have e:bT d t (some y)=qh d t y:=by show (if (qh d t y).valid=true then qh d t y else tm0)=_; rw [H5 hv]
  rw [e];obtain ⟨hd,_,_,_,hx⟩:=Qq hb h.w h.s hc;rw [h3] at hx;exact ⟨(Xc hd h.w h.n (hx.i y rfl).2.1).1,Qw hb h.w h.s hc h3 hv,Hz h1 none h.c⟩
end Go.Q
namespace Go.Q.S
open Go Go.Q
end Go.Q.S
end
section
/- Starts of claims; rows of claims. -/
namespace Go.Q
open Go
end Go.Q
namespace Go.Q.S
open Go Go.Q
end Go.Q.S
end
section
/- Lists of proofs; verdicts. -/
namespace Go.Q
open Go
end Go.Q
namespace Go.Q.S
open Go Go.Q
end Go.Q.S
end
section
/- The search for proofs. -/
namespace Go.Q
open Go
structure Yn (n:PnM):Prop where
 k:0<=n.k/\n.k<=3
 nl:n.nx.length<=64
 ni:∀ j∈n.nx,0<=j/\j<=60
 c:0<=n.c/\n.c<=3
 sl:n.s.length<=60
 sb:∀ b∈n.s,b.1.size<=maxLen/\Wt b.2/\b.2.nodes<=60
end Go.Q
namespace Go.Q
open Go
end Go.Q
namespace Go.Q
open Go
end Go.Q
end
section
/- The rows of the proofs that are found. -/
namespace Go.Q
open Go
end Go.Q
end
section
/- Paths and tests of symbolic terms. -/
namespace Go.Q
open Go
abbrev Stp:=Nat×List Int
structure PtM where
 k:Int
 st:List Stp
 t:Tm
 c:List Int
def PtM.row (v:List ByteArray) (p:PtM):List D:=[.int p.k,.sl (p.st.map pd),.sl (v.map ai),.int p.t.k,.int p.t.n,.str p.t.s,.sl (p.t.as.map Tm.row),.sl (p.c.map bu)]
end Go.Q
end
section
/- One step of a symbolic term. -/
namespace Go.Q
open Go
end Go.Q
end
section
/- A match makes the pattern equal to the term; drawn terms. -/
namespace Go.Q
open Go
theorem Up:∀ t u:Tm,t.row=u.row->t=u:=Tm.ind fun t ih u h=>by
 rw [Tm.row_eq,Tm.row_eq u] at h;simp only [Q7.injEq,D.int.injEq,D.str.injEq,D.sl.injEq,and_true] at h;obtain ⟨h1,h2,h3,h4⟩:=h;have key:∀ (xs ys:List Tm),(∀ a∈xs,a∈t.as)->xs.map Tm.row=ys.map Tm.row->xs=ys:=by
  intro xs;induction xs with
  | nil=>intro ys _ h; cases ys with
   | nil=>rfl
   | cons y ys=>simp at h
  | cons x xs ihx =>
   intro ys hm h;cases ys with
   | nil=>simp at h
   | cons y ys =>
    simp only [C2,Q7.injEq] at h;rw [ih x (hm x (C4 ..)) y h.1,ihx ys (fun a ha=>hm a (C3 _ ha)) h.2]
 have e:=key t.as u.as (fun _ h=>h) h4
 cases t; cases u
 simp only [Tm.k,Tm.n,Tm.s,Tm.as] at h1 h2 h3 e;rw [h1,h2,h3,e]
theorem Xe {t u:Tm}:eqb t.row u.row=true↔t=u:=by
 rw [iq]; exact ⟨Up t u,fun h=>by rw [h]⟩
def Ext (l l':List Bnd):Prop:=∀ s v,bnd l s=some v->bnd l' s=some v
theorem Ext.refl (l:List Bnd):Ext l l:=fun _ _ h=>h
theorem Ext.trans {a b c:List Bnd} (h:Ext a b) (k:Ext b c):Ext a c:=fun s v e=>k s v (h s v e)
inductive Dt (m:Nat):Tm->Prop
 | var {s:ByteArray}:s.size<=m->Dt m (.mk 1 0 s [])
 | word {n:Int}:0<=n->n<=255->Dt m (.mk 3 n ⟨#[]⟩ [])
 | app {s:ByteArray} {as:List Tm}:s.size<=m->as.length<=2->(∀ a∈as,Dt m a)->Dt m (.mk 2 0 s as)
theorem Dt.sub {m:Nat} {t a:Tm} (h:Dt m t) (ha:a∈t.as):Dt m a:=by
 cases h with
 | var _=>simp [Tm.as] at ha
 | word=>simp [Tm.as] at ha
 | app _ _ h=>exact h a ha
theorem Dt.mono {m n:Nat} {t:Tm} (h:Dt m t) (hn:m<=n):Dt n t:=by
 induction h with
 | var h=>exact .var (F5 h hn)
 | word h1 h2=>exact .word h1 h2
 | app h1 h2 _ ih=>exact .app (F5 h1 hn) h2 ih
theorem Dt.aS {m:Nat} {l:List Bnd} (hl:∀ b∈l,Dt m b.2):∀ t,Dt m t->Dt m (aS l t):=Tm.ind fun t ih h=>by
 rw [ee];split
 · rename_i u hu
   split at hu
   · obtain ⟨b,h1,rfl⟩:=ej hu; exact hl b h1
   · simp at hu
 · cases h with
   | var h=>exact .var h
   | word h1 h2=>exact .word h1 h2
   | @app s as h1 h2 h3 =>
    refine .app h1 (by simpa [Tm.as] using h2) fun a ha=>?_
    simp only [Tm.as,F2] at ha;obtain ⟨b,hb,rfl⟩:=ha;exact ih b hb (h3 b hb)
/- Variables get an ending. -/
end Go.Q
end
section
/- Compositions of substitutions; unification. -/
namespace Go.Q
open Go
theorem pg {l:List Bnd} {t v:Tm} (hk:t.k=1) (h:bnd l t.s=some v):aS l t=v:=by
 rw [ee,H5 hk,h]
theorem ji {l:List Bnd} {t:Tm} (h:t.k=1->bnd l t.s=none):aS l t=.mk t.k t.n t.s (t.as.map (aS l)):=by
 rw [ee];by_cases hk:t.k=1
 · rw [H5 hk,h hk]
 · rw [H6 hk]
def cmS (a b:List Bnd):List Bnd:=a.map (fun x=>(x.1,aS b x.2))++b.filter fun x=>(bnd a x.1).isNone
theorem Lp (f:Tm->Tm) (s:ByteArray):∀ a:List Bnd,bnd (a.map fun x=>(x.1,f x.2)) s=(bnd a s).map f
 | []=>rfl
 | b::a=>by
  simp only [C2,bnd];by_cases h:b.1=s
  · rw [H5 h,H5 h]; rfl
  · rw [H6 h,H6 h,Lp f s a]
theorem Ao (a:List Bnd) (s:ByteArray) (h:bnd a s=none):∀ b:List Bnd,bnd (b.filter fun x=>(bnd a x.1).isNone) s=bnd b s
 | []=>rfl
 | x::b=>by
  have ih:=Ao a s h b;rw [O9];by_cases e:x.1=s
  · rw [H5 (by rw [e,h]; rfl)]
    simp only [bnd,H5 e]
  · split
    · simp only [bnd,H6 e,ih]
    · simp only [bnd,H6 e,ih]
theorem qb (a b:List Bnd) (s:ByteArray):bnd (cmS a b) s=match bnd a s with
 | some u=>some (aS b u)
 | none=>bnd b s:=by
 unfold cmS;rw [Ec,Lp];cases h:bnd a s with
 | some u=>rfl
 | none=>simp only [Option.map_none]; exact Ao a s h b
theorem El (a b:List Bnd):∀ t,aS (cmS a b) t=aS b (aS a t):=Tm.ind fun t ih=>by
 have hm:t.as.map (aS (cmS a b))=(t.as.map (aS a)).map (aS b):=by
  rw [K5]; exact N1 fun x hx=>ih x hx
 have hc:=qb a b t.s;by_cases hk:t.k=1
 · cases ha:bnd a t.s with
   | some u =>
    rw [ha] at hc;rw [pg hk hc,pg hk ha]
   | none =>
    rw [ha] at hc;rw [ji (l:=a) fun _=>ha]
    cases hb:bnd b t.s with
    | some u =>
     rw [pg hk (hc.trans hb),pg (t:=.mk t.k t.n t.s (t.as.map (aS a))) hk hb]
    | none =>
     rw [ji fun _=>hc.trans hb,ji (t:=.mk t.k t.n t.s (t.as.map (aS a))) fun _=>hb,hm]; rfl
 · rw [ji fun h=>absurd h hk,ji (l:=a) fun h=>absurd h hk,ji (t:=.mk t.k t.n t.s (t.as.map (aS a))) fun h=>absurd h hk,hm]; rfl
theorem Tm.mk_eta (t:Tm):Tm.mk t.k t.n t.s t.as=t:=by cases t; rfl
theorem fa (t:Tm) (w:ByteArray):w∈t.names↔(t.k=1/\w=t.s)\/∃ a∈t.as,w∈a.names:=by
 rw [Tm.names_eq,D0,K2];by_cases hk:t.k=1
 · rw [H5 hk]; simp [hk]
 · rw [H6 hk]; simp [hk]
theorem Qx (k n:Int) (s:ByteArray) (as:List Tm) (w:ByteArray):w∈(Tm.mk k n s as).names↔(k=1/\w=s)\/∃ a∈as,w∈a.names:=fa _ w
theorem Jv (l:List Bnd) (w:ByteArray):∀ t,w∈(aS l t).names->(w∈t.names/\bnd l w=none)\/∃ s v,s∈t.names/\bnd l s=some v/\w∈v.names:=Tm.ind fun t ih h=>by
 by_cases hb:∃ v,t.k=1/\bnd l t.s=some v
 · obtain ⟨v,hk,hb⟩:=hb
   rw [pg hk hb] at h;exact .inr ⟨t.s,v,(fa t _).2 (.inl ⟨hk,rfl⟩),hb,h⟩
 · have hf:t.k=1->bnd l t.s=none:=fun hk=>by
    cases hq:bnd l t.s with
    | none=>rfl
    | some v=>exact absurd ⟨v,hk,hq⟩ hb
   rw [ji hf,Qx] at h;rcases h with ⟨hk,rfl⟩|⟨a,ha,hw⟩
   · exact .inl ⟨(fa t _).2 (.inl ⟨hk,rfl⟩),hf hk⟩
   · obtain ⟨c,hc,rfl⟩:=F2.1 ha
     rcases ih c hc hw with ⟨h1,h2⟩|⟨s,v,h1,h2,h3⟩
     · exact .inl ⟨(fa t _).2 (.inr ⟨c,hc,h1⟩),h2⟩
     · exact .inr ⟨s,v,(fa t _).2 (.inr ⟨c,hc,h1⟩),h2,h3⟩
def Fx (l:List Bnd) (t:Tm):Prop:=∀ w∈t.names,bnd l w=none
theorem Fx.sub {l:List Bnd} {t a:Tm} (h:Fx l t) (ha:a∈t.as):Fx l a:=fun w hw=>h w ((fa t w).2 (.inr ⟨a,ha,hw⟩))
theorem Xf {l:List Bnd}:∀ t,Fx l t->aS l t=t:=Tm.ind fun t ih h=>by
 rw [ji fun hk=>h _ ((fa t _).2 (.inl ⟨hk,rfl⟩))]
 have:t.as.map (aS l)=t.as:=by
  conv=>rhs; rw [<- List.map_id t.as]
  exact N1 fun a ha=>ih a ha (h.sub ha)
 rw [this,Tm.mk_eta]
def Idm (l:List Bnd):Prop:=∀ s v,bnd l s=some v->Fx l v
theorem Wb {l:List Bnd} (h:Idm l) (t:Tm):Fx l (aS l t):=fun w hw=>by
 rcases Jv l w t hw with ⟨_,h1⟩|⟨s,v,_,h2,h3⟩
 · exact h1
 · exact h s v h2 w h3
theorem qc (s w:ByteArray) (y:Tm):bnd [(s,y)] w=if s=w then some y else none:=by simp [bnd]
theorem Cv {s w:ByteArray} {y t:Tm} (hs:s∉y.names) (hw:w∈(aS [(s,y)] t).names):w≠s/\(w∈t.names\/w∈y.names):=by
 rcases Jv _ w t hw with ⟨h1,h2⟩|⟨s',v,h1,h2,h3⟩
 · rw [qc] at h2
   refine ⟨fun e=>?_,.inl h1⟩
   rw [H5 e.symm] at h2; exact absurd h2 (by simp)
 · rw [qc] at h2
   split at h2
   · rename_i e
     simp only [C7.injEq] at h2;subst h2;exact ⟨fun e=>hs (e▸h3),.inr h3⟩
   · simp at h2
theorem Xg {l:List Bnd} (h:Idm l) {s:ByteArray} {y:Tm} (hy:Fx l y) (hs:s∉y.names):Idm (cmS l [(s,y)]):=by
 have key:∀ w,bnd l w=none->w≠s->bnd (cmS l [(s,y)]) w=none:=fun w h1 h2=>by
  rw [qb,h1]; simp only; rw [qc,H6 (Ne.symm h2)]
 intro s' v hv w hw;rw [qb] at hv;cases hq:bnd l s' with
 | some u =>
  rw [hq] at hv;simp only [C7.injEq] at hv;subst hv;obtain ⟨h1,h2⟩:=Cv hs hw;exact key w (by rcases h2 with h2 | h2; exact h s' u hq w h2; exact hy w h2) h1
 | none =>
  rw [hq] at hv;simp only at hv;rw [qc] at hv;split at hv
  · simp only [C7.injEq] at hv
    subst hv;exact key w (hy w hw) (fun e=>hs (e▸hw))
  · simp at hv
inductive Cov:List Tm->Tm->Prop
 | one {t:Tm}:Cov [t] t
 | drop {x:Tm} {xs:List Tm} {t:Tm}:Cov (x::xs) t->Cov xs t
 | args {x:Tm} {xs:List Tm} {t:Tm}:Cov (x::xs) t->x.k≠1->Cov (x.as++xs) t
theorem Cov.nodes {xs:List Tm} {t:Tm} (h:Cov xs t):(xs.map Tm.nodes).sum<=t.nodes:=by
 induction h with
 | one=>simp
 | drop _ ih=>simp only [C2,J6] at ih; omega
 | @args x xs t _ _ ih =>
  simp only [C2,J6] at ih;rw [E0,List.sum_append];have:=Tm.nodes_eq x;omega
theorem Cov.names {xs:List Tm} {t:Tm} (h:Cov xs t):∀ x∈xs,∀ w∈x.names,w∈t.names:=by
 induction h with
 | one=>intro x hx w hw; rw [F8.1 hx] at hw; exact hw
 | drop _ ih=>exact fun x hx=>ih x (C3 _ hx)
 | @args x xs t _ _ ih =>
  intro z hz w hw;rcases D0.1 hz with hz | hz
  · exact ih x (C4 ..) w ((fa x w).2 (.inr ⟨z,hz,hw⟩))
  · exact ih z (C3 _ hz) w hw
theorem Cov.sub {xs:List Tm} {t:Tm} (r:List Bnd) (h:Cov xs t):Cov (xs.map (aS r)) (aS r t):=by
 induction h with
 | one=>exact .one
 | drop _ ih=>exact .drop ih
 | @args x xs t _ hk ih =>
  have e:aS r x=.mk x.k x.n x.s (x.as.map (aS r)):=ji fun h=>absurd h hk
  rw [C2,e] at ih;rw [E0];exact ih.args hk
open Classical in
noncomputable def trt (x y:Tm) (l:List Bnd):Option (List Bnd×List (Tm×Tm)) :=
 if eqb x.row y.row=true then some (l,[]) else
 if x.k=1 then (if x.s∈y.names then none else some (cmS l [(x.s,y)],[])) else
 if y.k=1 then (if y.s∈x.names then none else some (cmS l [(y.s,x)],[])) else
 if x.k=2/\y.k=2/\x.s=y.s/\x.as.length=y.as.length then some (l,x.as.zip y.as) else none
def lrg (l:List Bnd):Bool:=l.any fun b=>decide (400<b.2.nodes)
theorem Nn {x y:Tm} {l l1:List Bnd} {m:List (Tm×Tm)} (h:trt x y l=some (l1,m)) :
 (x=y/\l1=l/\m=[])\/(∃ v u,(x.k=1/\v=x.s/\u=y\/y.k=1/\v=y.s/\u=x)/\v∉u.names/\l1=cmS l [(v,u)]/\m=[]) ∨
 (x.k=2/\y.k=2/\x.s=y.s/\x.as.length=y.as.length/\l1=l/\m=x.as.zip y.as):=by
 unfold trt at h;split at h
 · rename_i e
   simp only [C7.injEq,G5.injEq] at h;exact .inl ⟨Xe.1 e,h.1.symm,h.2.symm⟩
 split at h
 · rename_i hk
   split at h
   · simp at h
   · rename_i hn
     simp only [C7.injEq,G5.injEq] at h;exact .inr (.inl ⟨x.s,y,.inl ⟨hk,rfl,rfl⟩,hn,h.1.symm,h.2.symm⟩)
 split at h
 · rename_i hk
   split at h
   · simp at h
   · rename_i hn
     simp only [C7.injEq,G5.injEq] at h;exact .inr (.inl ⟨y.s,x,.inr ⟨hk,rfl,rfl⟩,hn,h.1.symm,h.2.symm⟩)
 split at h
 · rename_i hc
   simp only [C7.injEq,G5.injEq] at h;exact .inr (.inr ⟨hc.1,hc.2.1,hc.2.2.1,hc.2.2.2,h.1.symm,h.2.symm⟩)
 · simp at h
def ub (V:List ByteArray) (l:List Bnd):Nat:=(V.filter fun w=>(bnd l w).isNone).length
theorem Yo {V:List ByteArray} {l:List Bnd} {s:ByteArray} {y:Tm} (hs:s∈V) (hb:bnd l s=none):ub V (cmS l [(s,y)])<ub V l:=by
 unfold ub;have hle:∀ w,(bnd (cmS l [(s,y)]) w).isNone=true->(bnd l w).isNone=true:=fun w h=>by
  rw [qb] at h;cases hq:bnd l w with
  | none=>rfl
  | some u=>rw [hq] at h; simp at h
 have hS:bnd (cmS l [(s,y)]) s=some y:=by
  rw [qb,hb]; simp only; rw [qc,H5 rfl]
 have hgen:∀ V:List ByteArray,(V.filter fun w=>(bnd (cmS l [(s,y)]) w).isNone).length<=(V.filter fun w=>(bnd l w).isNone).length:=by
  intro V;induction V with
  | nil=>simp
  | cons w V ih =>
   rw [O9,O9];by_cases h:(bnd (cmS l [(s,y)]) w).isNone=true
   · rw [H5 h,H5 (hle w h)]; simp; exact ih
   · rw [H6 h]; split
     · simp; omega
     · exact ih
 induction V with
 | nil=>simp at hs
 | cons w V ih =>
  rw [O9,O9];rcases D4.1 hs with e | hs
  · subst e
    rw [H6 (by rw [hS]; simp),H5 (by rw [hb]; rfl)]
    have:=hgen V;simp; omega
  · have:=ih hs
    by_cases h:(bnd (cmS l [(s,y)]) w).isNone=true
    · rw [H5 h,H5 (hle w h)]; simp; exact this
    · rw [H6 h]; split
      · simp; omega
      · exact this
theorem Uq (l:List Bnd) (b:Bnd):(cmS l [b]).length<=l.length+1:=by
 unfold cmS;rw [E9,B6];have:=P5 (fun x:Bnd=>(bnd l x.1).isNone) [b]
 simp only [C5,C8] at this;omega
theorem Xh {m:Nat} {l b:List Bnd} (hl:∀ x∈l,Dt m x.2) (hb:∀ x∈b,Dt m x.2):∀ x∈cmS l b,Dt m x.2:=fun x hx=>by
 unfold cmS at hx;rcases D0.1 hx with hx | hx
 · obtain ⟨z,hz,rfl⟩:=F2.1 hx
   exact (hl z hz).aS hb
 · exact hb x (R7.1 hx).1
structure Uni (A B:Tm) (l:List Bnd) (r:List (Tm×Tm)):Prop where
 idm:Idm l
 nm:∀ s v,bnd l s=some v->∀ w∈v.names,w∈A.names++B.names
 ld:∀ b∈l,Dt 2 b.2
 ln:∀ b∈l,b.2.nodes<=400
 ll:l.length+ub (A.names++B.names) l<=(A.names++B.names).length
 rd:∀ e∈r,Dt 2 e.1/\Dt 2 e.2
 ca:Cov (r.map fun e=>aS l e.1) (aS l A)
 cb:Cov (r.map fun e=>aS l e.2) (aS l B)
theorem Cw {V:List ByteArray} {l:List Bnd} (hn:∀ s v,bnd l s=some v->∀ w∈v.names,w∈V) {t:Tm} (ht:∀ w∈t.names,w∈V):∀ w∈(aS l t).names,w∈V:=fun w hw=>by
 rcases Jv l w t hw with ⟨h1,_⟩|⟨s,v,_,h2,h3⟩
 · exact ht w h1
 · exact hn s v h2 w h3
theorem Xi {l:List Bnd} (h:lrg l=false):∀ b∈l,b.2.nodes<=400:=fun b hb=>by
 unfold lrg at h;have:=List.any_eq_false.1 h b hb;simp only [decide_eq_true_eq] at this;omega
theorem xi {xs ys:List Tm} (h:xs.length=ys.length) (f:Tm->Tm):(xs.zip ys).map (fun e=>f e.1)=xs.map f:=by
 have:(xs.zip ys).map (fun e=>f e.1)=((xs.zip ys).map Prod.fst).map f:=by rw [K5]; rfl
 rw [this,List.map_fst_zip (by omega)]
theorem Ib {xs ys:List Tm} (h:xs.length=ys.length) (f:Tm->Tm):(xs.zip ys).map (fun e=>f e.2)=ys.map f:=by
 have:(xs.zip ys).map (fun e=>f e.2)=((xs.zip ys).map Prod.snd).map f:=by rw [K5]; rfl
 rw [this,List.map_snd_zip (by omega)]
theorem Em {l:List Bnd} {xs:List Tm} (h:∀ x∈xs,Fx l x):xs.map (aS l)=xs:=by
 conv=>rhs; rw [<- List.map_id xs]
 exact N1 fun a ha=>Xf a (h a ha)
theorem Uni.next {A B:Tm} {l l1:List Bnd} {x y:Tm} {r m:List (Tm×Tm)} (h:Uni A B l ((x,y)::r)) (ht:trt (aS l x) (aS l y) l=some (l1,m)) (hl:lrg l1=false) :
 Uni A B l1 (m++r)/\(ub (A.names++B.names) l1<ub (A.names++B.names) l\/l1=l/\((m++r).map fun e=>(aS l e.1).nodes).sum<(((x,y)::r).map fun e=>(aS l e.1).nodes).sum):=by
 have hca:=h.ca;have hcb:=h.cb;simp only [C2] at hca hcb;have nA:=Cw h.nm (t:=A) fun w hw=>List.mem_append_left _ hw
 have nB:=Cw h.nm (t:=B) fun w hw=>List.mem_append_right _ hw
 have nx:∀ w∈(aS l x).names,w∈A.names++B.names:=fun w hw=>nA w (hca.names _ (C4 ..) w hw)
 have ny:∀ w∈(aS l y).names,w∈A.names++B.names:=fun w hw=>nB w (hcb.names _ (C4 ..) w hw)
 have dx:=(h.rd _ (C4 ..)).1.aS h.ld;have dy:=(h.rd _ (C4 ..)).2.aS h.ld;have fx:=Wb h.idm x;have fy:=Wb h.idm y;have hrd:∀ e∈r,Dt 2 e.1/\Dt 2 e.2:=fun e he=>h.rd e (C3 _ he)
 rcases Nn ht with ⟨_,rfl,rfl⟩|⟨v,u,hvu,hn,rfl,rfl⟩|⟨k1,k2,hs,hlen,rfl,rfl⟩
 · refine ⟨⟨h.idm,h.nm,h.ld,h.ln,h.ll,hrd,hca.drop,hcb.drop⟩,.inr ⟨rfl,?_⟩⟩
   simp only [E4,C2,J6];have:=Tm.nodes_eq (aS l1 x);omega
 · have hv:v∈A.names++B.names/\bnd l v=none/\Fx l u/\(∀ w∈u.names,w∈A.names++B.names)/\Dt 2 u:=by
    rcases hvu with ⟨hk,rfl,rfl⟩|⟨hk,rfl,rfl⟩
    · have hm:=(fa (aS l x) _).2 (.inl ⟨hk,rfl⟩)
      exact ⟨nx _ hm,fx _ hm,fy,ny,dy⟩
    · have hm:=(fa (aS l y) _).2 (.inl ⟨hk,rfl⟩)
      exact ⟨ny _ hm,fy _ hm,fx,nx,dx⟩
   obtain ⟨hv1,hv2,hv3,hv4,hv5⟩:=hv;have hub:=Yo (y:=u) hv1 hv2;refine ⟨⟨Xg h.idm hv3 hn,?_,Xh h.ld (by simpa using hv5),Xi hl,?_,hrd,?_,?_⟩,.inl hub⟩
   · intro s w hw z hz
     rw [qb] at hw;cases hq:bnd l s with
     | some q =>
      rw [hq] at hw;simp only [C7.injEq] at hw;subst hw;rcases (Cv hn hz).2 with e | e
      · exact h.nm s q hq z e
      · exact hv4 z e
     | none =>
      rw [hq] at hw;simp only at hw;rw [qc] at hw;split at hw
      · simp only [C7.injEq] at hw; subst hw; exact hv4 z hz
      · simp at hw
   · have h1:=Uq l (v,u)
     have h2:=h.ll;omega
   · have:=(hca.sub [(v,u)]).drop
     rw [K5] at this;rw [E4,El];have e:(r.map fun e=>aS (cmS l [(v,u)]) e.1)=r.map ((aS [(v,u)]) ∘ fun e=>aS l e.1):=N1 fun e _=>El ..
     rw [e]; exact this
   · have:=(hcb.sub [(v,u)]).drop
     rw [K5] at this;rw [E4,El];have e:(r.map fun e=>aS (cmS l [(v,u)]) e.2)=r.map ((aS [(v,u)]) ∘ fun e=>aS l e.2):=N1 fun e _=>El ..
     rw [e]; exact this
 · have fxs:=fun a (ha:a∈(aS l1 x).as)=>fx.sub ha
   have fys:=fun a (ha:a∈(aS l1 y).as)=>fy.sub ha
   refine ⟨⟨h.idm,h.nm,h.ld,h.ln,h.ll,?_,?_,?_⟩,.inr ⟨rfl,?_⟩⟩
   · intro e he
     rcases D0.1 he with he | he
     · obtain ⟨q1,q2⟩:=List.of_mem_zip (a:=e.1) (b:=e.2) he
       exact ⟨dx.sub q1,dy.sub q2⟩
     · exact hrd e he
   · rw [E0,xi hlen,Em fxs]
     exact hca.args (by omega)
   · rw [E0,Ib hlen,Em fys]
     exact hcb.args (by omega)
   · have e:(((aS l1 x).as.zip (aS l1 y).as).map fun e=>(aS l1 e.1).nodes)=(aS l1 x).as.map Tm.nodes:=by
      have:(((aS l1 x).as.zip (aS l1 y).as).map fun e=>(aS l1 e.1).nodes)=(((aS l1 x).as.zip (aS l1 y).as).map fun e=>aS l1 e.1).map Tm.nodes:=by rw [K5]; rfl
      rw [this,xi hlen,Em fxs]
     rw [E0,List.sum_append,e,C2,J6];have:=Tm.nodes_eq (aS l1 x);simp only;omega
end Go.Q
end
section
/- What unification gives. -/
namespace Go.Q
open Go
end Go.Q
end
section
namespace Go.Q
open Go
theorem Dt.small {m:Nat}:∀ t:Tm,Dt m t->ax t:=Tm.ind fun t ih h=>by
 refine .mk ?_ fun a ha=>ih a ha (h.sub ha)
 cases h with
 | var _=>exact K0 _
 | word=>exact K0 _
 | app _ h _=>exact F5 h (by decide)
end Go.Q
end
section
/- Comparisons: a program with itself,turned about,and what a difference says. -/
namespace Go.Q
open Go
noncomputable def rnA (x:SyM) (c:Int):Option vo:=jb x.d (S.instR x.v x.t c) 200
def opn (x y:SyM) (c:Int):Prop:=¬ ∃ p q,rnA x c=some p/\rnA y c=some q/\p.o=1/\q.o=1
end Go.Q
end
section
/- Drawn terms,rules and definitions: their bounds. -/
namespace Go.Q
open Go
structure Wn (m:Nat) (t:Tm):Prop where
 w:Wt t
 n:t.nodes<=m
theorem Wn.mono {m k:Nat} {t:Tm} (h:Wn m t) (hm:m<=k):Wn k t:=⟨h.w,F5 h.n hm⟩
theorem Wn.small {m:Nat} {t:Tm} (h:Wn m t) (hm:m<=1048576):ax t:=aq _ (by have:=h.n; omega)
theorem np {k n:Int} {s:ByteArray} {as:List Tm} (hk:-1000<=k) (hk':k<=1000) (hn:-1000<=n) (hn':n<=1000) (hs:s.size<=1000) (hl:as.length<=1000) (h:∀ a∈as,Wt a):Wt (.mk k n s as) :=
 .mk (S.i64ok_of (by show _<=k; omega) (by show k<=_; omega)) (S.i64ok_of (by show _<=n; omega) (by show n<=_; omega)) (by show s.size<=maxLen; unfold maxLen; omega) (by show as.length<=maxLen; unfold maxLen; omega) h
theorem Dt.wt {m:Nat} (hm:m<=1000):∀ t:Tm,Dt m t->Wt t:=Tm.ind fun t ih h=>by
 have hs:∀ a∈t.as,Wt a:=fun a ha=>ih a ha (h.sub ha)
 cases h with
 | var h=>exact np (by decide) (by decide) (by decide) (by decide) (by omega) (by simp) hs
 | word h1 h2=>exact np (by decide) (by decide) (by omega) (by omega) (by decide) (by simp) hs
 | app h1 h2 _=>exact np (by decide) (by decide) (by decide) (by decide) (by omega) (by omega) hs
theorem Dt.wn {k m:Nat} {t:Tm} (h:Dt k t) (hk:k<=1000) (hm:t.nodes<=m):Wn m t:=⟨Dt.wt hk t h,hm⟩
def tV (s:ByteArray):Tm:=.mk 1 0 s []
def tW (n:Int):Tm:=.mk 3 n ⟨#[]⟩ []
def tC (s:ByteArray):Tm:=.mk 2 0 s []
def tO (s:ByteArray) (t:Tm):Tm:=.mk 2 0 s [t]
def tP (s:ByteArray) (t u:Tm):Tm:=.mk 2 0 s [t,u]
theorem Aq {s:ByteArray} (h:s.size<=1000):Wn 1 (tV s):=⟨np (by decide) (by decide) (by decide) (by decide) h (by simp) (by simp),by simp [tV,Tm.nodes,Tm.nodesL]⟩
theorem rm {n:Int} (h:0<=n) (h1:n<=255):Wn 1 (tW n):=⟨np (by decide) (by decide) (by omega) (by omega) (by decide) (by simp) (by simp),by simp [tW,Tm.nodes,Tm.nodesL]⟩
theorem Qy {s:ByteArray} (h:s.size<=1000):Wn 1 (tC s):=⟨np (by decide) (by decide) (by decide) (by decide) h (by simp) (by simp),by simp [tC,Tm.nodes,Tm.nodesL]⟩
theorem mj {s:ByteArray} {m:Nat} {t:Tm} (h:s.size<=1000) (ht:Wn m t):Wn (m+1) (tO s t):=⟨np (by decide) (by decide) (by decide) (by decide) h (by simp) (by simpa using ht.w),by have:=ht.n; simp [tO,Tm.nodes,Tm.nodesL]; omega⟩
theorem ft {s:ByteArray} {m k:Nat} {t u:Tm} (h:s.size<=1000) (ht:Wn m t) (hu:Wn k u):Wn (m+k+1) (tP s t u):=⟨np (by decide) (by decide) (by decide) (by decide) h (by simp) (by simp [ht.w,hu.w]),by have:=ht.n; have:=hu.n; simp [tP,Tm.nodes,Tm.nodesL]; omega⟩
theorem Yp {m:Nat} {t:Tm} (h:Wn m t):Wn m (rW t):=⟨Ld t h.w,F5 (gz t) h.n⟩
structure GuW (g:Gu):Prop where
 k:0<=g.k/\g.k<=5
 l:Wn 3000 g.l
 r:Wn 3000 g.r
theorem GuW.b {g:Gu} (h:GuW g):GuB g:=⟨h.l.w,h.r.w,by have:=h.l.n; omega,by have:=h.r.n; omega⟩
structure RuW (u:RuM):Prop where
 n:u.n.size<=1000
 l:Wn 3000 u.l
 r:Wn 3000 u.r
 g:u.g.length<=10
 ga:∀ g∈u.g,GuW g
theorem RuW.b {r:RuM} (h:RuW r):RuB r:=⟨by have:=h.n; unfold maxLen; omega,h.l.w,h.r.w,by have:=h.l.n; omega,by have:=h.r.n; omega,by have:=h.g; omega,fun g hg=>(h.ga g hg).b⟩
structure DfW (d:DfM):Prop where
 so:d.so.length<=10
 sos:∀ x∈d.so,x.size<=1000
 op:d.op.length<=10
 opa:∀ o∈d.op,o.n.size<=1000/\o.a.length<=10/\(∀ x∈o.a,x.size<=1000)/\o.r.size<=1000
 ru:d.ru.length<=10
 rua:∀ r∈d.ru,RuW r
 st:d.st.length<=10
theorem DfW.sig {d:DfM} (h:DfW d):ow d.op:=⟨by have:=h.op; omega,fun o ho=>by have:=(h.opa o ho).2.1; show o.a.length<=_; omega⟩
theorem DfW.b {d:DfM} (h:DfW d):DfB d:=⟨by have:=h.so; omega,fun x hx=>by have:=h.sos x hx; unfold maxLen; omega,h.sig,fun o ho=>by have:=(h.opa o ho).1; unfold maxLen; omega,by have:=h.ru; omega,fun r hr=>(h.rua r hr).b,by have:=h.st; omega⟩
def jf:List ByteArray:=[⟨#[101]⟩,⟨#[107]⟩]
def ic:List OpM:=[⟨⟨#[97]⟩,[],⟨#[101]⟩⟩,⟨⟨#[98]⟩,[],⟨#[101]⟩⟩,⟨⟨#[103]⟩,[⟨#[101]⟩],⟨#[101]⟩⟩,⟨⟨#[102]⟩,[⟨#[101]⟩,⟨#[101]⟩],⟨#[101]⟩⟩,⟨⟨#[104]⟩,[⟨#[101]⟩,⟨#[119,111,114,100]⟩],⟨#[101]⟩⟩,⟨⟨#[110,117,109]⟩,[⟨#[119,111,114,100]⟩],⟨#[101]⟩⟩,⟨⟨#[116,111,112]⟩,[⟨#[101]⟩],⟨#[107]⟩⟩]
def opW (o:OpM):Bool:=decide (o.n.size<=1000)&&(decide (o.a.length<=10)&&(o.a.all (fun x=>decide (x.size<=1000))&&decide (o.r.size<=1000)))
theorem Qz {o:OpM} (h:opW o=true):o.n.size<=1000/\o.a.length<=10/\(∀ x∈o.a,x.size<=1000)/\o.r.size<=1000:=by
 simp only [opW,B7,decide_eq_true_eq,D9] at h;exact ⟨h.1,h.2.1,h.2.2.1,h.2.2.2⟩
theorem vv:∀ o∈ic,o.n.size<=1000/\o.a.length<=10/\(∀ x∈o.a,x.size<=1000)/\o.r.size<=1000:=fun o ho=>Qz (D9.1 (show ic.all opW=true from by decide) o ho)
theorem Cx:∀ x∈jf,x.size<=1000:=fun x hx=>by
 have:=D9.1 (show jf.all (fun x=>decide (x.size<=1000))=true from by decide) x hx
 simpa using this
end Go.Q
end
section
/- All steps of a term; a trace replayed; runs and traces. -/
namespace Go.Q
open Go
end Go.Q
end
section
/- A symbolic step stands for the step of every case; the tests of a symbolic term. -/
namespace Go.Q
open Go
end Go.Q
end
section
/- The runs of the cases of a path; the tests of different paths. -/
namespace Go.Q
open Go
end Go.Q
end
section
/- Paths: their traces,and that none is without a case. -/
namespace Go.Q
open Go
end Go.Q
end
section
/- Runs that are computed: an evaluator of shallow functions is Pn. Open cases where a case may be none. -/
namespace Go.Q
open Go
def pS (f:ByteArray->List D->R):List D->R
 | .str x::l=>f x l
 | _=>none
def pI (f:Int->List D->R):List D->R
 | .int x::l=>f x l
 | _=>none
def pB (f:Bool->List D->R):List D->R
 | .bool x::l=>f x l
 | _=>none
def pL (f:aa->List D->R):List D->R
 | .sl x::l=>f x l
 | _=>none
def pE (b:R):List D->R
 | []=>b
 | _=>none
def Sd (H:Tab) (P:Program) (c:Key->List D->R) (k:Key) (pre:List D->List D) (v:List D->R):Prop:=∀ l r,v l=some r->step H c P k (pre l)=some r
section
variable {H:Tab} {P:Program} {c:Key->List D->R} {k:Key} {pre:List D->List D}
theorem Sd.S {f:ByteArray->List D->R} (h:∀ x,Sd H P c k (fun l=>pre (.str x::l)) (f x)):Sd H P c k pre (pS f):=fun l r e=>by
 unfold pS at e;split at e
 · exact h _ _ _ e
 · simp at e
theorem Sd.I {f:Int->List D->R} (h:∀ x,Sd H P c k (fun l=>pre (.int x::l)) (f x)):Sd H P c k pre (pI f):=fun l r e=>by
 unfold pI at e;split at e
 · exact h _ _ _ e
 · simp at e
theorem Sd.B {f:Bool->List D->R} (h:∀ x,Sd H P c k (fun l=>pre (.bool x::l)) (f x)):Sd H P c k pre (pB f):=fun l r e=>by
 unfold pB at e;split at e
 · exact h _ _ _ e
 · simp at e
theorem Sd.L {f:aa->List D->R} (h:∀ x,Sd H P c k (fun l=>pre (.sl x::l)) (f x)):Sd H P c k pre (pL f):=fun l r e=>by
 unfold pL at e;split at e
 · exact h _ _ _ e
 · simp at e
theorem Sd.E {b:R} (h:step H c P k (pre [])=b):Sd H P c k pre (pE b):=fun l r e=>by
 unfold pE at e;split at e
 · exact h.trans e
 · simp at e
end
theorem cnd {b:Bool} {x y:R} {r:Nat×List D} {Q:Prop} (h:(bif b then x else y)=some r) (h1:b=true->x=some r->Q) (h2:b=false->y=some r->Q):Q:=by
 cases b
 · exact h2 rfl h
 · exact h1 rfl h
def tNn:Tm:=tV ⟨#[78]⟩
def tMm:Tm:=tV ⟨#[77]⟩
def ij:DfM:=⟨[⟨#[99]⟩],[⟨⟨#[108,111,111,112]⟩,[⟨#[119,111,114,100]⟩,⟨#[119,111,114,100]⟩],⟨#[99]⟩⟩,⟨⟨#[100,111,110,101]⟩,[⟨#[119,111,114,100]⟩],⟨#[99]⟩⟩],
 [⟨⟨#[116,117,114,110]⟩,tP ⟨#[108,111,111,112]⟩ tNn tMm,tP ⟨#[108,111,111,112]⟩ (tP ⟨#[109,105,110,117,115]⟩ tNn (tW 1)) (tP ⟨#[112,108,117,115]⟩ tMm (tW 1)),[⟨3,tW 0,tNn⟩]⟩,⟨⟨#[101,110,100]⟩,tP ⟨#[108,111,111,112]⟩ (tW 0) tMm,tO ⟨#[100,111,110,101]⟩ tMm,[]⟩],[]⟩
theorem ph:DfW ij:=by
 have n1:Wn 1 tNn:=Aq (by decide)
 have m1:Wn 1 tMm:=Aq (by decide)
 have w0:Wn 1 (tW 0):=rm (by decide) (by decide)
 have w1:Wn 1 (tW 1):=rm (by decide) (by decide)
 refine ⟨by decide,fun x hx=>?_,by decide,fun o ho=>Qz (D9.1 (show ij.op.all opW=true from by decide) o ho),by decide,fun r hr=>?_,by decide⟩
 · have:=D9.1 (show ij.so.all (fun x:ByteArray=>decide (x.size<=1000))=true from by decide) x hx
   simpa using this
 · simp only [ij,D4,K9,or_false] at hr
   rcases hr with rfl | rfl
   · refine ⟨by decide,(ft (by decide) n1 m1).mono (by decide),(ft (by decide) (ft (by decide) n1 w1) (ft (by decide) m1 w1)).mono (by decide),by simp,fun g hg=>?_⟩
     rw [F8.1 hg];exact ⟨by decide,w0.mono (by decide),n1.mono (by decide)⟩
   · exact ⟨by decide,(ft (by decide) w0 m1).mono (by decide),(mj (by decide) m1).mono (by decide),by simp,by simp⟩
structure ClW (vl:List ByteArray) (lt rt:Tm) (gl:List Gu):Prop where
 v:vl.length<=20
 vs:∀ x∈vl,x.size<=1000
 l:Wn 3000 lt
 r:Wn 3000 rt
 g:gl.length<=20
 ga:∀ x∈gl,GuW x
theorem ClW.b {v:List ByteArray} {l r:Tm} {g:List Gu} (h:ClW v l r g) {d:DfM} (hd:DfB d):ClB ⟨d,v,l,r,g⟩ :=
 ⟨hd,by have:=h.v; show v.length<=_; omega,fun x hx=>by have:=h.vs x hx; unfold maxLen; omega,h.l.w,h.r.w,by have:=h.l.n; show l.nodes<=_; omega,by have:=h.r.n; show r.nodes<=_; omega,by have:=h.g; show g.length<=_; omega,fun x hx=>(h.ga x hx).b⟩
end Go.Q
end
section
/- Proofs that are found are right; claims that are Th have no refutation. -/
namespace Go.Q
open Go
def At (ns:List PnM) (b:Nat) (l:List PnM):Prop:=∃ pre post,ns=pre++(l++post)/\pre.length=b
theorem At.fst {ns:List PnM} {b:Nat} {x:PnM} {l:List PnM} (h:At ns b (x::l)):ns[b]?=some x/\b<ns.length/\At ns (b+1) l:=by
 obtain ⟨pre,post,rfl,rfl⟩:=h;refine ⟨by simp,by simp,pre++[x],post,by simp,by simp⟩
theorem At.app {ns:List PnM} {b:Nat} {l m:List PnM} (h:At ns b (l++m)):At ns b l/\At ns (b+l.length) m:=by
 obtain ⟨pre,post,rfl,rfl⟩:=h;exact ⟨⟨pre,m++post,by simp,rfl⟩,⟨pre++l,post,by simp,by simp⟩⟩
end Go.Q
end
section
/- aa of proofs that are changed; loops that go through. -/
namespace Go.Q
open Go
section
variable {L:List PnM} {m:Nat}
end
theorem Yn.b {n:PnM} (h:Yn n):PnB n:=⟨by have:=h.nl; omega,by have:=h.sl; omega,fun b hb=>aq _ (by have:=(h.sb b hb).2.2; omega)⟩
theorem Ra {c:ClM} {k:Nat} (h:Js c=some k):k∈fq c.v c.g/\vt c.d (S.instR c.v c.l (k:Int)) (S.instR c.v c.r (k:Int))=true:=by
 unfold Js at h;split at h
 · exact ⟨S6 h,by simpa using List.find?_some h⟩
 · simp at h
end Go.Q
end
section
/- An evaluator that asks Th summaries. -/
namespace Go.Q
open Go
mutual
def dqD:D->D->Bool
 | .int a,.int b=>decide (a=b)
 | .bool a,.bool b=>decide (a=b)
 | .str a,.str b=>decide (a=b)
 | .sl a,.sl b=>dqR a b
 | _,_=>false
def dqL:List D->List D->Bool
 | [],[]=>true
 | x::xs,y::ys=>dqD x y&&dqL xs ys
 | _,_=>false
def dqR:List (List D)->List (List D)->Bool
 | [],[]=>true
 | x::xs,y::ys=>dqL x y&&dqR xs ys
 | _,_=>false
end
mutual
theorem Xj:∀ a b,dqD a b=true->a=b
 | .int a,b,h=>by cases b <;> simp [dqD] at h ⊢; exact h
 | .bool a,b,h=>by cases b <;> simp [dqD] at h ⊢; exact h
 | .str a,b,h=>by cases b <;> simp [dqD] at h ⊢; exact h
 | .sl a,b,h=>by
  cases b with
  | sl b=>rw [dqD] at h; rw [Rb a b h]
  | _=>simp [dqD] at h
theorem Jw:∀ a b,dqL a b=true->a=b
 | [],b,h=>by cases b with
  | nil=>rfl
  | cons y ys=>simp [dqL] at h
 | x::xs,b,h=>by
  cases b with
  | nil=>simp [dqL] at h
  | cons y ys =>
   rw [dqL,B7] at h;rw [Xj x y h.1,Jw xs ys h.2]
theorem Rb:∀ a b,dqR a b=true->a=b
 | [],b,h=>by cases b with
  | nil=>rfl
  | cons y ys=>simp [dqR] at h
 | x::xs,b,h=>by
  cases b with
  | nil=>simp [dqR] at h
  | cons y ys =>
   rw [dqR,B7] at h;rw [Jw x y h.1,Rb xs ys h.2]
end
def orc (T:List (List D)) (l:List D):R:=bif T.any (dqL l) then some (0,[.bool true]) else none
theorem Rc {H:Tab} {P:Program} {k:Key} {T:List (List D)} {l:List D} {r:Nat×List D} (h:∀ x∈T,run H P k x=some (0,[.bool true])) (e:orc T l=some r):run H P k l=some r:=by
 unfold orc at e;cases ha:T.any (dqL l) with
 | false=>rw [ha] at e; simp at e
 | true =>
  rw [ha] at e;obtain ⟨x,hx,hq⟩:=R3.1 ha;rw [Jw _ _ hq];exact (h x hx).trans e
theorem Sd.rn {H:Tab} {P:Program} {c:Key->List D->R} {k:Key} {v:List D->R} (hc:∀ k l r,c k l=some r->run H P k l=some r) (h:Sd H P c k (fun l=>l) v) {l:List D} {r:Nat×List D} (e:v l=some r):run H P k l=some r:=Iy (pp hc (h l r e))
structure En (H:Tab) (P:Program) where
 k:Key
 v:List D->R
 h:∀ l r,v l=some r->run H P k l=some r
def OkC (H:Tab) (P:Program) (c:Key->List D->R):Prop:=∀ k l r,c k l=some r->run H P k l=some r
theorem Sd.en {H:Tab} {P:Program} {c:Key->List D->R} {k:Key} {v:List D->R} (hc:OkC H P c) (h:Sd H P c k (fun l=>l) v):∀ l r,v l=some r->run H P k l=some r:=fun l r e=>Sd.rn hc h e
def lkE {H:Tab} {P:Program} (k:Key) (l:List D):List (En H P)->R
 | []=>none
 | e::t=>bif Nat.beq k.f e.k.f&&(Nat.beq k.n e.k.n&&Nat.beq k.v e.k.v) then e.v l else lkE k l t
theorem Rd {H:Tab} {P:Program} {k:Key} {l:List D} {r:Nat×List D}:∀ T:List (En H P),lkE k l T=some r->run H P k l=some r
 | [],h=>by simp [lkE] at h
 | e::t,h=>cnd h (fun a b=>by
  simp only [B7] at a;have e1:k=e.k:=by
   obtain ⟨f,v,n⟩:=k;have a1:=Q5 a.1;have a2:=Q5 a.2.1;have a3:=Q5 a.2.2;simp only at a1 a2 a3;rw [a1,a2,a3]
  rw [e1];exact e.h l r b) fun _ b=>Rd t b
def evE {H:Tab} {P:Program} (T:(c:Key->List D->R)->OkC H P c->List (En H P)):Nat->{c:Key->List D->R // OkC H P c}
 | 0=>⟨fun _ _=>none,fun k l r h=>by simp at h⟩
 | n+1=>⟨fun k l=>lkE k l (T (evE T n).1 (evE T n).2),fun k l r h=>Rd _ h⟩
def lpT:List Tm:=[tP ⟨#[108,111,111,112]⟩ tNn tMm,tP ⟨#[108,111,111,112]⟩ (tP ⟨#[109,105,110,117,115]⟩ tNn (tW 1)) (tP ⟨#[112,108,117,115]⟩ tMm (tW 1)),tW 0,tNn,tP ⟨#[108,111,111,112]⟩ (tW 0) tMm,tO ⟨#[100,111,110,101]⟩ tMm]
theorem Xk:∀ t∈lpT,Wn 9 t:=fun t ht=>by
 have n1:Wn 1 tNn:=Aq (by decide)
 have m1:Wn 1 tMm:=Aq (by decide)
 have w0:Wn 1 (tW 0):=rm (by decide) (by decide)
 have w1:Wn 1 (tW 1):=rm (by decide) (by decide)
 simp only [lpT,D4,K9,or_false] at ht;rcases ht with rfl | rfl | rfl | rfl | rfl | rfl
 · exact (ft (by decide) n1 m1).mono (by decide)
 · exact (ft (by decide) (ft (by decide) n1 w1) (ft (by decide) m1 w1)).mono (by decide)
 · exact w0.mono (by decide)
 · exact n1.mono (by decide)
 · exact (ft (by decide) w0 m1).mono (by decide)
 · exact (mj (by decide) m1).mono (by decide)
end Go.Q
end
section
/- aa that are written over. -/
namespace Go.Q
open Go
def Ur (r:List D):Nat×Nat×Nat:=(((nth r 3).L).length,((nth r 8).L).length,r.length)
theorem Np {R:aa} {i j:Nat} {x:List D} (hi:i<R.length):rowAt (R.set i x) j=if i=j then x else rowAt R j:=by
 unfold rowAt;simp only [List.getD_eq_getElem?_getD,List.getElem?_set];by_cases h:i=j
 · subst h; simp [hi]
 · simp [h]
structure RwI (R R':aa):Prop where
 l:R'.length=R.length
 e:∀ j,Ur (rowAt R' j)=Ur (rowAt R j)
theorem RwI.refl (R:aa):RwI R R:=⟨rfl,fun _=>rfl⟩
theorem RwI.trans {A B C:aa} (h:RwI A B) (k:RwI B C):RwI A C:=⟨k.l.trans h.l,fun j=>(k.e j).trans (h.e j)⟩
theorem RwI.set {R:aa} {i:Nat} (hi:i<R.length) {x:List D} (hx:Ur x=Ur (rowAt R i)):RwI R (over i [x] R):=by
 rw [xh _ _ _ hi];refine ⟨by simp,fun j=>?_⟩
 rw [Np hi];split
 · rename_i h; subst h; exact hx
 · rfl
end Go.Q
end
section
/- Texts of terms,guards and claims. -/
namespace Go.Q
open Go
def dgS (n:Int):ByteArray:=⟨(Lib.decDigits n.toNat).toArray⟩
def Bi:ByteArray:=⟨#[44,32]⟩
def Eo:ByteArray:=⟨#[40]⟩
def Jx:ByteArray:=⟨#[41]⟩
def kt:List ByteArray->ByteArray->ByteArray
 | [],a=>a
 | y::l,a=>kt l ((a++Bi)++y)
def yc (s:ByteArray):List ByteArray->ByteArray
 | []=>s
 | x::l=>kt l ((s++Eo)++x)++Jx
mutual
def Tm.txt:Tm->ByteArray
 | .mk k n s as=>if k=3 then dgS n else yc s (Tm.txts as)
def Tm.txts:List Tm->List ByteArray
 | []=>[]
 | t::ts=>Tm.txt t::Tm.txts ts
end
theorem Tm.txts_map:∀ ts:List Tm,Tm.txts ts=ts.map Tm.txt
 | []=>rfl
 | t::ts=>by simp only [Tm.txts,C2,Tm.txts_map ts]
theorem Tm.txt_eq (t:Tm):t.txt=if t.k=3 then dgS t.n else yc t.s (t.as.map Tm.txt):=by
 cases t; simp only [Tm.txt,Tm.txts_map,Tm.k,Tm.n,Tm.s,Tm.as]; rfl
theorem au (a b:ByteArray):(a++b).size=a.size+b.size:=ByteArray.size_append
theorem ik:∀ (l:List ByteArray) (a:ByteArray),(kt l a).size=a.size+(l.map fun y=>y.size+2).sum
 | [],a=>by simp [kt]
 | y::l,a=>by
  simp only [kt,ik l,C2,J6,au];have:Bi.size=2:=rfl;omega
theorem ro:∀ (l:List ByteArray) (a:ByteArray),(kt l a).data.toList=a.data.toList++Lib.joinTail Bi.data.toList (l.map fun y=>y.data.toList)
 | [],a=>by simp [kt,Lib.joinTail]
 | y::l,a=>by
  rw [kt,ro l];simp only [Lib.joinTail,C2,List.flatten_cons,ByteArray.data_append,Array.toList_append,E3]
theorem Nq (s x:ByteArray) (l:List ByteArray):yc s (x::l)=((s++Eo)++⟨(Lib.join ((x::l).map fun y=>y.data.toList) Bi.data.toList).toArray⟩)++Jx:=by
 simp only [yc];congr 1
 refine yg ?_;rw [ro,C2,Lib.join_cons];simp only [ByteArray.data_append,Array.toList_append,E3,List.toList_toArray]
theorem yj {t:Tm} (h:t.nodeN=true):t.s.size<=8/\(t.k=3->t.s=⟨#[]⟩/\0<=t.n/\t.n<4)/\(t.k≠3->t.s≠⟨#[]⟩):=by
 unfold Tm.nodeN at h;have hsz:∀ {lo hi:Nat},qk lo hi t.s.data.toList=true->t.s.size<=8/\t.s≠⟨#[]⟩:=fun {lo hi} h=>by
  refine ⟨by have:=Mx h; rw [Array.length_toList] at this; exact this,fun e=>?_⟩
  have h':qk lo hi []=true:=by rw [e] at h; exact h
  exact Bool.noConfusion h'
 by_cases h1:t.k=1
 · rw [H5 h1] at h
   simp only [B7,qf] at h;obtain ⟨a,b⟩:=hsz h.2.2;exact ⟨a,fun e=>by omega,fun _=>b⟩
 · rw [H6 h1] at h
   by_cases h3:t.k=3
   · rw [H5 h3] at h
     unfold isW at h;simp only [B7,decide_eq_true_eq] at h;obtain ⟨_,a,b,c,_⟩:=h;exact ⟨by rw [c]; decide,fun _=>⟨c,a,b⟩,fun e=>absurd h3 e⟩
   · rw [H6 h3] at h
     by_cases h2:t.k=2
     · rw [H5 h2] at h
       simp only [B7,jh] at h;obtain ⟨a,b⟩:=hsz h.2;exact ⟨a,fun e=>by omega,fun _=>b⟩
     · rw [H6 h2] at h; simp at h
theorem Ic {n:Int} (h0:0<=n) (h1:n<4):(dgS n).size=1:=by
 unfold dgS;rw [Lib.decDigits_one (by omega)]
 rfl
theorem Ar:∀ t:Tm,t.areN=true->t.txt.size+2<=16*t.nodes:=Tm.ind fun t ih h=>by
 rw [Tm.areN_eq,B7,Tm.areNL_all] at h;obtain ⟨hn,ha⟩:=h;obtain ⟨h1,h2,h3⟩:=yj hn;have hnd:=Tm.nodes_eq t;rw [Tm.txt_eq];by_cases hk:t.k=3
 · obtain ⟨_,a,b⟩:=h2 hk
   rw [H5 hk,Ic a b]; omega
 · rw [H6 hk]
   have key:∀ l:List Tm,(∀ a∈l,a.txt.size+2<=16*a.nodes)->((l.map Tm.txt).map fun y=>y.size+2).sum<=16*(l.map Tm.nodes).sum:=fun l=>by
    induction l with
    | nil=>simp
    | cons a l ih =>
     intro h;have:=ih fun b hb=>h b (C3 _ hb)
     have h0:=h a (C4 ..);simp only [C2,J6]; omega
   have hs:=key t.as fun a hm=>ih a hm (D9.1 ha a hm)
   cases hl:t.as.map Tm.txt with
   | nil=>simp only [yc]; omega
   | cons x l =>
    rw [hl] at hs;simp only [C2,J6] at hs;simp only [yc,au,ik];have o1:Eo.size=1:=rfl;have o2:Jx.size=1:=rfl;omega
theorem Xl {t:Tm} (h:t.areN=true):t.txt≠⟨#[]⟩:=by
 rw [Tm.areN_eq,B7] at h;obtain ⟨h1,h2,h3⟩:=yj h.1;intro e;have e:=congrArg ByteArray.size e;rw [Tm.txt_eq] at e;by_cases hk:t.k=3
 · obtain ⟨_,a,b⟩:=h2 hk
   rw [H5 hk,Ic a b] at e;exact absurd e (by decide)
 · rw [H6 hk] at e
   cases hl:t.as.map Tm.txt with
   | nil =>
    rw [hl] at e;refine h3 hk (yg (F1.1 ?_));have e':t.s.data.size=0:=e;simpa using e'
   | cons x l =>
    rw [hl] at e;simp only [yc,au] at e;have o2:Jx.size=1:=rfl;have o0:(⟨#[]⟩:ByteArray).size=0:=rfl;omega
def tF (t:Tm):ByteArray:=if t.valid then t.txt else ⟨#[]⟩
theorem ge (t:Tm):(tF t).size<=960:=by
 unfold tF;split
 · rename_i h
   unfold Tm.valid at h;simp only [B7,decide_eq_true_eq] at h;have:=Ar t h.2.2;omega
 · exact K0 _
theorem Wc {t:Tm} (h:t.valid=true):tF t≠⟨#[]⟩:=by
 unfold tF;rw [H5 h];unfold Tm.valid at h;simp only [B7] at h;exact Xl h.2.2
def vw (k:Int):ByteArray:=if k=1 then ⟨#[32,61,61,32]⟩ else if k=2 then ⟨#[32,33,61,32]⟩ else ⟨#[32,60,32]⟩
def gF (g:Gu):ByteArray:=if (decide (1<=g.k)&&decide (g.k<=3))&&(g.l.valid&&g.r.valid) then (tF g.l++vw g.k)++tF g.r else ⟨#[]⟩
theorem Ep (g:Gu):(gF g).size<=2000:=by
 unfold gF;split
 · have h1:=ge g.l
   have h2:=ge g.r;have h3:(vw g.k).size<=4:=by unfold vw; (repeat' split) <;> decide
   simp only [au]; omega
 · exact K0 _
def Jy:ByteArray:=⟨#[32,105,102,32]⟩
def Jz:ByteArray:=⟨#[32,38,32]⟩
def Er:ByteArray:=⟨#[32,61,62,32]⟩
def gsF:List Gu->Bool->ByteArray->ByteArray
 | [],_,a=>a
 | g::l,b,a=>gsF l false ((a++bif b then Jy else Jz)++gF g)
theorem Lq (p:ByteArray):∀ (l:List Gu) (b:Bool) (a:ByteArray),gsF l b (p++a)=p++gsF l b a
 | [],_,a=>rfl
 | g::l,b,a=>by
  simp only [gsF];rw [<- Lq p l];congr 1
  simp only [ByteArray.append_assoc]
theorem Ie:∀ (l:List Gu) (b:Bool) (a:ByteArray),(gsF l b a).size<=a.size+2004*l.length
 | [],_,a=>by simp [gsF]
 | g::l,b,a=>by
  have h:=Ie l false ((a++bif b then Jy else Jz)++gF g)
  have h2:=Ep g;have h3:(bif b then Jy else Jz).size<=4:=by cases b <;> decide
  simp only [gsF,C5,au] at h ⊢;omega
def sdF (l r:Tm) (g:List Gu):ByteArray:=gsF g true ((tF l++Er)++tF r)
theorem If (l r:Tm) (g:List Gu):(sdF l r g).size<=2000+2004*g.length:=by
 have h:=Ie g true ((tF l++Er)++tF r);have h1:=ge l;have h2:=ge r;have h3:Er.size=4:=rfl;simp only [au] at h;unfold sdF;omega
theorem Us (p a:ByteArray) {n m:Nat} (hn:n=p.size) (hm:m=(p++a).size):(p++a).extract n m=a:=by
 exact ByteArray.extract_append_eq_right hn (by rw [hm,ByteArray.size_append])
end Go.Q
end
