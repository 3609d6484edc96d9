/- The plain laws of what the functions answer, part 1. -/
import Derived.Test.YtilaihomkpjjnaaGreatQC
set_option linter.unusedVariables false
set_option linter.unusedSimpArgs false
open Bool renaming and_eq_true->B7,not_eq_true'->F1,true_and->F4,or_eq_true->P3
open Int renaming tmod_lt_of_pos->O4,tmod_nonneg->P8
open List renaming length_map->B6,drop_eq_getElem_cons->B9,length_cons->C1,map_cons->C2,getElem_mem->C3,mem_cons_self->C4,mem_cons_of_mem->C5,length_nil->C7,drop_length->C8,mem_append->D0,map_nil->D1,map_append->D5,getElem?_eq_some_iff->D7,nil_append->D9,mem_cons->E0,append_assoc->E3,all_eq_true->E4,length_append->E5,mem_singleton->E8,getElem?_eq_getElem->F2,cons_append->F5,length_eq_zero_iff->F8,mem_map->G5,append_nil->G9,all_cons->J6,sum_cons->J7,mem_flatMap->K3,mem_or_eq_of_mem_set->K5,map_map->K6,map_congr_left->N1,mem_of_getElem?->O0,getD->O1,flatMap_cons->O3,filter_cons->O8,cons->P2,find?_cons->P4,length_set->P7,not_mem_nil->Q1,getElem_map->Q2,pairwise_cons->Q3,length_filter_le->Q7,getElem?_map->Q8,filterMap_cons->R3,mem_filterMap->R4,mem_filter->S5,set_cons_succ->S6,findIdx?_eq_some_iff_getElem->S7,getElem?_set->T0,take_succ_eq_append_getElem->T2
open Nat renaming le_refl->F7,ble_eq_true_of_le->F9,le_trans->G8,zero_le->K0,mul_le_mul->T1
open Option renaming some->C9,map_some->K7,isSome_some->P6
open Prod renaming mk->G7
section
namespace Go.Q
open Go
inductive Tm where
 | mk (k n:Int) (s:ByteArray) (as:List Tm)
namespace Tm
def k:Tm->Int | mk k _ _ _=>k
def n:Tm->Int | mk _ n _ _=>n
def s:Tm->ByteArray | mk _ _ s _=>s
def as:Tm->List Tm | mk _ _ _ as=>as
mutual
def row:Tm->List D
 | mk k n s as=>[.int k,.int n,.str s,.sl (rows as)]
def rows:List Tm->List (List D)
 | []=>[]
 | t::ts=>row t::rows ts
end
theorem Fy:∀ ts:List Tm,rows ts=ts.map row
 | []=>rfl
 | t::ts=>by simp only [rows,C2,Fy ts]
theorem row_eq (t:Tm):t.row=[.int t.k,.int t.n,.str t.s,.sl (t.as.map row)]:=by
 cases t; simp only [row,Fy,Tm.k,Tm.n,Tm.s,Tm.as]
theorem ind {P:Tm->Prop} (h:∀ t,(∀ a∈t.as,P a)->P t):∀ t,P t:=by
 have key:∀ (N:Nat) (t:Tm),SizeOf.sizeOf t<N->P t:=by
  intro N;induction N with
  | zero=>intro t ht; omega
  | succ N ih =>
   intro t ht;refine h t fun a ha=>ih a ?_
   cases t with
   | mk k n s as =>
    simp only [Tm.as] at ha;have:=List.sizeOf_lt_of_mem ha;simp only [mk.sizeOf_spec] at ht;omega
 exact fun t=>key _ t (Nat.lt_succ_self _)
end Tm
inductive bb:Tm->Prop
 | mk {t:Tm}:t.as.length<=1048576->(∀ a∈t.as,bb a)->bb t
theorem bb.len {t:Tm} (h:bb t):t.as.length<=1048576:=by cases h; assumption
theorem bb.sub {t a:Tm} (h:bb t) (ha:a∈t.as):bb a:=by cases h with | mk _ h=>exact h a ha
theorem yo (n:Int) (s:ByteArray) (k:Int):bb (.mk k n s []):=.mk (by simp [Tm.as]) (by simp [Tm.as])
structure Xa (H:Tab) (e:TypeId) (lay:List CT):Prop where
 eq:lay=[.int .i64,.int .i64,.str,.sl e]
 ty:∃ ti,H.ty e=some ti/\ti.lay=lay
abbrev Bnd:=ByteArray×Tm
def Bnd.row (b:Bnd):List D:=.str b.1::b.2.row
theorem ii (b:Bnd):Bnd.row b=[.str b.1,.int b.2.k,.int b.2.n,.str b.2.s,.sl (b.2.as.map Tm.row)]:=by unfold Bnd.row; rw [Tm.row_eq]
def bnd:List Bnd->ByteArray->Option Tm
 | [],_=>none
 | b::r,s=>if b.1=s then some b.2 else bnd r s
def tm0:Tm:=.mk 0 0 ⟨#[]⟩ []
theorem et {l:List Bnd} {s:ByteArray} {t:Tm} (h:bnd l s=some t):∃ b∈l,b.2=t:=by
 induction l with
 | nil=>simp [bnd] at h
 | cons b l ih =>
  simp only [bnd] at h;split at h
  · exact ⟨b,C4 ..,by simpa using h⟩
  · obtain ⟨b',h1,h2⟩:=ih h; exact ⟨b',C5 _ h1,h2⟩
mutual
def aS (l:List Bnd):Tm->Tm
 | .mk k n s as=>match (if k=1 then bnd l s else none) with
  | some u=>u
  | none=>.mk k n s (aSs l as)
def aSs (l:List Bnd):List Tm->List Tm
 | []=>[]
 | t::ts=>aS l t::aSs l ts
end
theorem Ke (l:List Bnd):∀ ts,aSs l ts=ts.map (aS l)
 | []=>rfl
 | t::ts=>by simp only [aSs,C2,Ke l ts]
theorem ej (l:List Bnd) (t:Tm):aS l t=match (if t.k=1 then bnd l t.s else none) with
 | some u=>u
 | none=>.mk t.k t.n t.s (t.as.map (aS l)):=by cases t; simp only [aS,Ke,Tm.k,Tm.n,Tm.s,Tm.as]; rfl
theorem rm {l:List Bnd} (hl:∀ b∈l,bb b.2):∀ t,bb t->bb (aS l t):=Tm.ind fun t ih h=>by
 rw [ej];split
 · rename_i u hu
   split at hu
   · obtain ⟨b,h1,rfl⟩:=et hu; exact hl b h1
   · simp at hu
 · exact .mk (by simpa [Tm.as] using h.len) (fun a ha=>by
    simp only [Tm.as,G5] at ha;obtain ⟨x,hx,rfl⟩:=ha;exact ih x hx (h.sub hx))
def isW (t:Tm):Bool:=decide (t.k=3)&&(decide (0<=t.n)&&(decide (t.n<4)&&(decide (t.s=⟨#[]⟩)&&decide (t.as.length=0))))
def Be:ByteArray:=⟨#[112,108,117,115]⟩
def un:ByteArray:=⟨#[109,105,110,117,115]⟩
def Ix:ByteArray:=⟨#[116,105,109,101,115]⟩
def isB (s:ByteArray):Bool:=decide (s=Be)||(decide (s=un)||decide (s=Ix))
def cmp (s:ByteArray) (a b:Int):Int:=if s=Be then (a+b).tmod 4 else if s=un then (a-b+4).tmod 4 else (a*b).tmod 4
def rW1 (k n:Int) (s:ByteArray) (as:List Tm):Tm :=
 match as with
 | [x,y]=>if k=2/\n=0/\isB s=true/\isW x=true/\isW y=true then .mk 3 (cmp s x.n y.n) ⟨#[]⟩ [] else .mk k n s as
 | _=>.mk k n s as
mutual
def rW:Tm->Tm
 | .mk k n s as=>rW1 k n s (rWs as)
def rWs:List Tm->List Tm
 | []=>[]
 | t::ts=>rW t::rWs ts
end
theorem Kf:∀ ts,rWs ts=ts.map rW
 | []=>rfl
 | t::ts=>by simp only [rWs,C2,Kf ts]
theorem ja (t:Tm):rW t=rW1 t.k t.n t.s (t.as.map rW):=by cases t; simp only [rW,Kf,Tm.k,Tm.n,Tm.s,Tm.as]
theorem Mh {k n:Int} {s:ByteArray} {as:List Tm} (h:as.length<=1048576) (ha:∀ a∈as,bb a):bb (rW1 k n s as):=by
 unfold rW1;split
 · split
   · exact yo ..
   · exact .mk (by simp [Tm.as]) (by simpa [Tm.as] using ha)
 · exact .mk h ha
theorem Ge:∀ t,bb t->bb (rW t):=Tm.ind fun t ih h=>by
 rw [ja];exact Mh (by simpa using h.len) fun a ha=>by
  simp only [G5] at ha;obtain ⟨x,hx,rfl⟩:=ha;exact ih x hx (h.sub hx)
def jg (n:Nat):Int:=if n<=3 then 4 ^ n else 0
def isC (n:Nat) (c:Int):Bool:=decide (0<=c)&&decide (c<jg n)
def vals (n:Nat) (c:Int):List Int :=
 if isC n c then (match n with
  | 0=>[]
  | 1=>[c.tmod 4]
  | 2=>[(c.tdiv 4).tmod 4,c.tmod 4]
  | _=>[((c.tdiv 4).tdiv 4).tmod 4,(c.tdiv 4).tmod 4,c.tmod 4]) else []
def word (n:Int):Tm:=.mk 3 n ⟨#[]⟩ []
def cf (vars:List ByteArray) (c:Int):List Bnd:=(vars.zip (vals vars.length c)).map fun p=>(p.1,word p.2)
def fo (vars:List ByteArray) (t:Tm) (c:Int):Tm:=rW (aS (cf vars c) t)
theorem jb (vars:List ByteArray) (c:Int):∀ b∈cf vars c,bb b.2:=fun b hb=>by
 unfold cf at hb;simp only [G5] at hb;obtain ⟨p,_,rfl⟩:=hb;exact yo ..
theorem jc {α:Type} {F:Nat->aa->R} {xs:List α} (g:α->List D) {K:aa->R}
 (hs:∀ i (hi:i<xs.length) acc,acc.length=i->F i acc=F (i+1) (acc++[g xs[i]])) (he:∀ acc,F xs.length acc=K acc):F 0 []=K (xs.map g):=by
 have key:∀ (n i:Nat),i+n=xs.length->F i ((xs.take i).map g)=K (xs.map g):=by
  intro n;induction n with
  | zero =>
   intro i hi;have:i=xs.length:=by omega
   subst this;rw [he,List.take_length]
  | succ n ih =>
   intro i hi;have hlt:i<xs.length:=by omega
   rw [hs i hlt _ (by simp; omega),<- ih (i+1) (by omega),T2 hlt]
   simp only [D5,C2,D1]
 simpa using key xs.length 0 (by omega)
theorem Bf {α:Type} {F:Nat->R} {xs:List α} {p:α->Bool} {A:R} {B:Nat->α->R} (hs:∀ i (hi:i<xs.length),F i=bif p xs[i] then B i xs[i] else F (i+1)) (he:F xs.length=A) :
 (xs.find? p=none/\F 0=A)\/∃ i,∃ hi:i<xs.length,xs.find? p=some xs[i]/\F 0=B i xs[i]:=by
 have key:∀ (n i:Nat),i+n=xs.length->((xs.drop i).find? p=none/\F i=A)\/∃ j,∃ hj:j<xs.length,(xs.drop i).find? p=some xs[j]/\F i=B j xs[j]:=by
  intro n;induction n with
  | zero =>
   intro i hi;have:i=xs.length:=by omega
   subst this;left; rw [C8]; exact ⟨rfl,he⟩
  | succ n ih =>
   intro i hi;have hlt:i<xs.length:=by omega
   rw [hs i hlt,B9 hlt];simp only [P4];cases hp:p xs[i] with
   | true=>exact .inr ⟨i,hlt,by simp,by simp⟩
   | false=>simpa using ih (i+1) (by omega)
 simpa using key xs.length 0 (by omega)
theorem Gf (l:List Bnd) (s:ByteArray):bnd l s=(l.find? fun b=>decide (b.1=s)).map (·.2):=by
 induction l with
 | nil=>rfl
 | cons b l ih =>
  simp only [bnd,P4];by_cases h:b.1=s
  · simp [h]
  · simp [h,ih]
theorem ab {α:Type} {xs:List α} {g:α->List D} {i:Nat} (hi:i<xs.length):rowAt (xs.map g) i=g xs[i]:=by simp [rowAt,O1,hi]
end Go.Q
end
section
namespace Go.Q
open Go
def ai (s:ByteArray):List D:=[.str s]
def am (n:Int):List D:=[.int n]
theorem ro (n:Nat) (c:Int):(vals n c).length<=n:=by
 unfold vals;split
 · rename_i h
   match n with
   | 0=>simp
   | 1=>simp
   | 2=>simp
   | n+3 =>
    simp
 · simp
theorem rp {n:Nat} (h:3<n):jg n=0:=by unfold jg; rw [H6 (by omega)]
theorem rq (n:Nat):0<=jg n/\jg n<=64:=by
 by_cases h:3<n
 · rw [rp h]; decide
 · obtain rfl | rfl | rfl | rfl:n=0\/n=1\/n=2\/n=3:=by omega
   all_goals decide
theorem mg {n:Nat} {c:Int} (h:isC n c=true):n<=3/\0<=c/\c<64:=by
 simp only [isC,B7,decide_eq_true_eq] at h;obtain ⟨h1,h2⟩:=h;have h3:=rq n;by_cases hn:3<n
 · rw [rp hn] at h2; omega
 · omega
end Go.Q
namespace Go.Q
end Go.Q
end
section
namespace Go.Q
open Go
namespace Tm
mutual
def names:Tm->List ByteArray
 | .mk k _ s as=>(if k=1 then [s] else [])++Df as
def Df:List Tm->List ByteArray
 | []=>[]
 | t::ts=>names t++Df ts
end
theorem Bg:∀ ts,Df ts=ts.flatMap names
 | []=>rfl
 | t::ts=>by simp only [Df,O3,Bg ts]
theorem names_eq (t:Tm):t.names=(if t.k=1 then [t.s] else [])++t.as.flatMap names:=by cases t; simp only [names,Bg,Tm.k,Tm.s,Tm.as]; rfl
theorem as_mk (k n:Int) (s:ByteArray) (as:List Tm):(Tm.mk k n s as).as=as:=rfl
theorem k_mk (k n:Int) (s:ByteArray) (as:List Tm):(Tm.mk k n s as).k=k:=rfl
theorem s_mk (k n:Int) (s:ByteArray) (as:List Tm):(Tm.mk k n s as).s=s:=rfl
mutual
def nodes:Tm->Nat
 | .mk _ _ _ as=>1+nodesL as
def nodesL:List Tm->Nat
 | []=>0
 | t::ts=>nodes t+nodesL ts
end
theorem Bh:∀ ts,nodesL ts=(ts.map nodes).sum
 | []=>rfl
 | t::ts=>by simp only [nodesL,C2,J7,Bh ts]
theorem nodes_eq (t:Tm):t.nodes=1+(t.as.map nodes).sum:=by cases t; simp only [nodes,Bh,Tm.as]
end Tm
theorem Gg {α:Type} {xs:List α} {f:α->List ByteArray} {g:α->Nat} (h:∀ x∈xs,(f x).length<=g x):(xs.flatMap f).length<=(xs.map g).sum:=by
 induction xs with
 | nil=>simp
 | cons x xs ih =>
  simp only [O3,E5,C2,J7];have h1:=h x (C4 ..);have h2:=ih fun y hy=>h y (C5 _ hy)
  omega
theorem cg:∀ t:Tm,t.names.length<=t.nodes:=Tm.ind fun t ih=>by
 rw [Tm.names_eq,Tm.nodes_eq,E5];have:=Gg (xs:=t.as) (f:=Tm.names) (g:=Tm.nodes) ih;by_cases hk:t.k=1
 · simp only [H5 hk,C1,C7]; omega
 · simp only [H6 hk,C7]; omega
theorem Ph {α:Type} {xs:List α} {f g:α->Nat} (h:∀ x∈xs,f x<=g x):(xs.map f).sum<=(xs.map g).sum:=by
 induction xs with
 | nil=>simp
 | cons x xs ih =>
  simp only [C2,J7];have h1:=h x (C4 ..);have h2:=ih fun y hy=>h y (C5 _ hy)
  omega
theorem dh {α:Type} {xs:List α} {f:α->Nat} {x:α} (h:x∈xs):f x<=(xs.map f).sum:=by
 induction xs with
 | nil=>simp at h
 | cons y xs ih =>
  simp only [C2,J7];rcases E0.1 h with rfl | h
  · omega
  · have:=ih h; omega
theorem cw {xs:List Tm}:xs.length<=(xs.map Tm.nodes).sum:=by
 induction xs with
 | nil=>simp
 | cons x xs ih =>
  simp only [C2,J7,C1];have:=Tm.nodes_eq x; omega
theorem aq:∀ t:Tm,t.nodes<=1048577->bb t:=Tm.ind fun t ih h=>by
 have h1:=Tm.nodes_eq t;have h2:=cw (xs:=t.as);exact .mk (by omega) fun a ha=>ih a ha (by have:=dh (f:=Tm.nodes) ha; omega)
theorem yp {l:List Bnd} (hl:∀ b∈l,b.2.nodes=1):∀ t,(aS l t).nodes<=t.nodes:=Tm.ind fun t ih=>by
 rw [ej];have h1:=Tm.nodes_eq t;split
 · rename_i u hu
   split at hu
   · obtain ⟨b,h1,rfl⟩:=et hu; rw [hl b h1]; omega
   · simp at hu
 · rw [Tm.nodes_eq]
   simp only [Tm.as_mk,K6];have:=Ph (xs:=t.as) (f:=Tm.nodes ∘ aS l) (g:=Tm.nodes) ih;omega
theorem Mi (k n:Int) (s:ByteArray) (us:List Tm):(rW1 k n s us).nodes<=1+(us.map Tm.nodes).sum:=by
 unfold rW1;split
 · split
   · simp only [Tm.nodes,Tm.nodesL]; omega
   · rw [Tm.nodes_eq,Tm.as_mk]; omega
 · rw [Tm.nodes_eq,Tm.as_mk]; omega
theorem ia:∀ t,(rW t).nodes<=t.nodes:=Tm.ind fun t ih=>by
 have h1:=Tm.nodes_eq t;have h2:=Ph (xs:=t.as) (f:=Tm.nodes ∘ rW) (g:=Tm.nodes) ih;have h3:=Mi t.k t.n t.s (t.as.map rW);rw [K6] at h3;rw [ja];omega
theorem Bi {t:Tm} (h:isW t=true):t.names=[]:=by
 simp only [isW,B7,decide_eq_true_eq] at h;rw [Tm.names_eq,H6 (by omega),F8.1 h.2.2.2.2]
 rfl
theorem Mj (k n:Int) (s:ByteArray) (us:List Tm):(rW1 k n s us).names=(if k=1 then [s] else [])++us.flatMap Tm.names:=by
 unfold rW1;split
 · rename_i x y
   split
   · rename_i h
     have e1:=Bi h.2.2.2.1;have e2:=Bi h.2.2.2.2;obtain ⟨rfl,_⟩:=h;show ([]:List ByteArray)=([]:List ByteArray)++[x,y].flatMap Tm.names
     simp [e1,e2]
   · rw [Tm.names_eq]; rfl
 · rw [Tm.names_eq]; rfl
theorem yq {xs:List Tm} {f g:Tm->List ByteArray} (h:∀ x∈xs,f x=g x):xs.flatMap f=xs.flatMap g:=by
 induction xs with
 | nil=>rfl
 | cons x xs ih=>rw [O3,O3,h x (C4 ..),ih fun y hy=>h y (C5 _ hy)]
theorem yr:∀ t,(rW t).names=t.names:=Tm.ind fun t ih=>by
 have e:(t.as.map rW).flatMap Tm.names=t.as.flatMap Tm.names:=by
  rw [List.flatMap_map];exact yq fun x hx=>ih x hx
 rw [ja,Tm.names_eq t,<- e];exact Mj ..
def isG (t:Tm):Bool:=decide ((t.names.length:Int)=0)
theorem Pi (t:Tm):isG (rW t)=isG t:=by unfold isG; rw [yr]
structure Gu where
 k:Int
 l:Tm
 r:Tm
def Gu.row (g:Gu):List D:=[.int g.k,.int g.l.k,.int g.l.n,.str g.l.s,.sl (g.l.as.map Tm.row),.int g.r.k,.int g.r.n,.str g.r.s,.sl (g.r.as.map Tm.row)]
noncomputable def holds (g:Gu):Bool :=
 isG g.l&&(isG g.r&&(if g.k=1 then eqb (rW g.l).row (rW g.r).row else if g.k=2 then !eqb (rW g.l).row (rW g.r).row else if g.k=3 then isW (rW g.l)&&(isW (rW g.r)&&decide ((rW g.l).n<(rW g.r).n)) else false))
def ex (l:List Bnd) (g:Gu):Gu:=⟨g.k,aS l g.l,aS l g.r⟩
def Gu.ok (g:Gu):Prop:=g.l.nodes<=1048577/\g.r.nodes<=1048577
theorem Rx {l:List Bnd} (hl:∀ b∈l,b.2.nodes=1) {g:Gu} (h:g.ok):(ex l g).ok:=⟨G8 (yp hl _) h.1,G8 (yp hl _) h.2⟩
theorem Gi (vars:List ByteArray) (c:Int):∀ b∈cf vars c,b.2.nodes=1:=fun b hb=>by
 unfold cf at hb;simp only [G5] at hb;obtain ⟨p,_,rfl⟩:=hb;simp [word,Tm.nodes,Tm.nodesL]
noncomputable def xa (vars:List ByteArray) (gs:List Gu) (c:Int):Bool:=gs.all fun g=>holds (ex (cf vars c) g)
noncomputable def Mk (vars:List ByteArray) (gs:List Gu):List Nat:=(List.range (jg vars.length).toNat).filter fun c=>xa vars gs (c:Int)
theorem Gj {F:Nat->aa->R} {N:Nat} {p:Nat->Bool} {g:Nat->List D} {K:aa->R} (hs:∀ i acc,i<N->acc.length<=i->F i acc=if p i then F (i+1) (acc++[g i]) else F (i+1) acc) (he:∀ acc,F N acc=K acc) :
 F 0 []=K (((List.range N).filter p).map g):=by
 have key:∀ (n i:Nat),i+n=N->F i (((List.range i).filter p).map g)=K (((List.range N).filter p).map g):=by
  intro n;induction n with
  | zero =>
   intro i hi;have:i=N:=by omega
   subst this;rw [he]
  | succ n ih =>
   intro i hi;have hl:(((List.range i).filter p).map g).length<=i:=by
    rw [B6];exact G8 (Q7 _ _) (by simp)
   rw [hs i _ (by omega) hl,<- ih (i+1) (by omega),List.range_succ,List.filter_append]
   cases h:p i with
   | true=>simp [h]
   | false=>simp [h]
 simpa using key N 0 (by omega)
theorem Pj {α:Type} {F:Nat->R} {xs:List α} {p:α->Bool} {A B:R} (hs:∀ i (hi:i<xs.length),F i=bif p xs[i] then F (i+1) else B) (he:F xs.length=A):F 0=bif xs.all p then A else B:=by
 have key:∀ (n i:Nat),i+n=xs.length->F i=bif (xs.drop i).all p then A else B:=by
  intro n;induction n with
  | zero =>
   intro i hi;have:i=xs.length:=by omega
   subst this;rw [he,C8]; rfl
  | succ n ih =>
   intro i hi;have hlt:i<xs.length:=by omega
   rw [hs i hlt,ih (i+1) (by omega),B9 hlt,J6]
   cases p xs[i] <;> rfl
 simpa using key xs.length 0 (by omega)
theorem Ml {α:Type} {F:Nat->Bool->R} {xs:List α} {p:α->Bool} {A:Bool->R} (hs:∀ i (hi:i<xs.length) b,F i b=F (i+1) (b&&p xs[i])) (he:∀ b,F xs.length b=A b):F 0 true=A (xs.all p):=by
 have key:∀ (n i:Nat) (b:Bool),i+n=xs.length->F i b=A (b&&(xs.drop i).all p):=by
  intro n;induction n with
  | zero =>
   intro i b hi;have:i=xs.length:=by omega
   subst this;rw [he,C8]; simp
  | succ n ih =>
   intro i b hi;have hlt:i<xs.length:=by omega
   rw [hs i hlt,ih (i+1) _ (by omega),B9 hlt,J6,Bool.and_assoc]
 simpa using key xs.length 0 true (by omega)
def aj (r:R) (Q:Nat×List D->Prop):Prop:=∃ x,r=some x/\Q x
theorem aj.bind {r:R} {f:Nat×List D->R} {P Q:Nat×List D->Prop} (h:aj r P) (k:∀ x,P x->aj (f x) Q):aj (r.bind f) Q:=by
 obtain ⟨x,rfl,hx⟩:=h;exact k x hx
theorem aj.ite {c:Bool} {a b:R} {Q:Nat×List D->Prop} (h1:c=true->aj a Q) (h2:c=false->aj b Q):aj (bif c then a else b) Q:=by
 cases c
 · exact h2 rfl
 · exact h1 rfl
theorem aj.ret {x:Nat×List D} {Q:Nat×List D->Prop} (h:Q x):aj (some x) Q:=⟨x,rfl,h⟩
theorem aj.mono {r:R} {P Q:Nat×List D->Prop} (h:aj r P) (k:∀ x,P x->Q x):aj r Q:=by
 obtain ⟨x,h1,h2⟩:=h;exact ⟨x,h1,k x h2⟩
theorem Pk (a:Int):0<=zq .i64 a 255/\zq .i64 a 255<=255:=by
 unfold zq;have h:(BitVec.ofInt IntKind.i64.bits a &&& BitVec.ofInt IntKind.i64.bits 255).toNat<=255:=by
  rw [BitVec.toNat_and];exact G8 Nat.and_le_right (by decide)
 rw [IntWalk.i64_in _ (by omega)]
 omega
end Go.Q
namespace Go.Q
open Go
theorem Gk {α:Type} {F:Nat->aa->R} {xs:List α} (g:α->aa) (a0:aa) {K:aa->R} (hs:∀ i (hi:i<xs.length) acc,(acc++g xs[i]).length<=a0.length+(xs.flatMap g).length->F i acc=F (i+1) (acc++g xs[i])) (he:∀ acc,F xs.length acc=K acc) :
 F 0 a0=K (a0++xs.flatMap g):=by
 have key:∀ (n i:Nat),i+n=xs.length->F i (a0++(xs.take i).flatMap g)=K (a0++xs.flatMap g):=by
  intro n;induction n with
  | zero =>
   intro i hi;have:i=xs.length:=by omega
   subst this;rw [he,List.take_length]
  | succ n ih =>
   intro i hi;have hlt:i<xs.length:=by omega
   have e:(xs.take (i+1)).flatMap g=(xs.take i).flatMap g++g xs[i]:=by
    rw [T2 hlt,List.flatMap_append,O3,List.flatMap_nil,G9]
   have hl:((xs.take (i+1)).flatMap g).length<=(xs.flatMap g).length:=by
    conv=>rhs; rw [<- List.take_append_drop (i+1) xs,List.flatMap_append,E5]
    omega
   rw [hs i hlt _ (by rw [E3,<- e,E5]; omega),E3,<- e]
   exact ih (i+1) (by omega)
 simpa using key xs.length 0 (by omega)
theorem qk (t:Tm):t.names.map ai=(if t.k=1 then [ai t.s] else [])++t.as.flatMap fun a=>a.names.map ai:=by
 rw [Tm.names_eq,D5,List.map_flatMap];split <;> rfl
theorem Bj (t:Tm):(t.as.flatMap fun a=>a.names.map ai).length<=(t.as.map Tm.nodes).sum:=by
 have:=Gg (xs:=t.as) (f:=Tm.names) (g:=Tm.nodes) fun x _=>cg x
 have e:(t.as.flatMap fun a=>a.names.map ai)=(t.as.flatMap Tm.names).map ai:=by rw [List.map_flatMap]
 rw [e,B6]; exact this
end Go.Q
end
section
namespace Go.Q.S
open Go Go.Q
theorem yt {d:Nat} (h:d<=64):IntKind.i64.wrap (((d+1:Nat):Int)-1)=(d:Int):=by
 unfold IntKind.wrap; simp [IntKind.bits,IntKind.signed]; omega
end Go.Q.S
end
section
/- Marks: numbers written into all that a row of data holds,and read again. -/
namespace Go.Q.S
open Go Go.Q
variable {mt:Int->ByteArray}
end Go.Q.S
end
section
/- Terms that are made are well typed; how many marks they bear. -/
namespace Go.Q.S
open Go Go.Q
def i64ok (n:Int):Prop:=(Lit.int .i64 n).wf=true
theorem i64ok_of {n:Int} (h:-9223372036854775808<=n) (h':n<=9223372036854775807):i64ok n:=by
 have h1:IntKind.i64.min=-9223372036854775808:=by decide
 have h2:IntKind.i64.max=9223372036854775807:=by decide
 unfold i64ok Lit.wf;simp only [h1,h2,B7,decide_eq_true_eq];exact ⟨h,h'⟩
section
variable {H:Tab} {e:TypeId} {lay:List CT} (hT:Xa H e lay)
include hT
omit hT in
theorem cmp_ok {s:ByteArray} {x y:Tm} (hx:isW x=true) (hy:isW y=true):i64ok (cmp s x.n y.n):=by
 simp only [isW,B7,decide_eq_true_eq] at hx hy;obtain ⟨_,a1,a2,_⟩:=hx;obtain ⟨_,b1,b2,_⟩:=hy;unfold cmp;split
 · have h1:=O4 (x.n+y.n) (show (0:Int)<4 by decide)
   have h2:=P8 4 (show 0<=x.n+y.n by omega)
   exact i64ok_of (by omega) (by omega)
 · split
   · have h1:=O4 (x.n-y.n+4) (show (0:Int)<4 by decide)
     have h2:=P8 4 (show 0<=x.n-y.n+4 by omega)
     exact i64ok_of (by omega) (by omega)
   · have h1:=O4 (x.n*y.n) (show (0:Int)<4 by decide)
     have h2:=P8 4 (show 0<=x.n*y.n from Int.mul_nonneg a1 b1)
     exact i64ok_of (by omega) (by omega)
end
def instR (vars:List ByteArray) (t:Tm) (c:Int):Tm:=if isC vars.length c then fo vars t c else tm0
end Go.Q.S
end
section
/- Cells Rc together; filters that may break off. -/
namespace Go.Q.S
open Go Go.Q
section
variable {H:Tab} {ds:List D} {cts:List CT}
end
theorem pb (t:Tm):tm0.nodes<=t.nodes:=by
 have h1:tm0.nodes=1:=by rw [Tm.nodes_eq]; simp [tm0,Tm.as]
 have:=Tm.nodes_eq t;omega
end Go.Q.S
end
section
namespace Go.Q
open Go
theorem zy (a0:D) (l:List D):nth (a0::l) 0=a0:=rfl
theorem Dg (a0 a1:D) (l:List D):nth (a0::a1::l) 1=a1:=rfl
theorem Dh (a0 a1 a2:D) (l:List D):nth (a0::a1::a2::l) 2=a2:=rfl
theorem Di (a0 a1 a2 a3:D) (l:List D):nth (a0::a1::a2::a3::l) 3=a3:=rfl
theorem Dj (a0 a1 a2 a3 a4:D) (l:List D):nth (a0::a1::a2::a3::a4::l) 4=a4:=rfl
theorem Dk (a0 a1 a2 a3 a4 a5:D) (l:List D):nth (a0::a1::a2::a3::a4::a5::l) 5=a5:=rfl
theorem Dl (a0 a1 a2 a3 a4 a5 a6:D) (l:List D):nth (a0::a1::a2::a3::a4::a5::a6::l) 6=a6:=rfl
theorem Dm (a0 a1 a2 a3 a4 a5 a6 a7:D) (l:List D):nth (a0::a1::a2::a3::a4::a5::a6::a7::l) 7=a7:=rfl
theorem Dn (a0 a1 a2 a3 a4 a5 a6 a7 a8:D) (l:List D):nth (a0::a1::a2::a3::a4::a5::a6::a7::a8::l) 8=a8:=rfl
theorem Do (a0 a1 a2 a3 a4 a5 a6 a7 a8 a9:D) (l:List D):nth (a0::a1::a2::a3::a4::a5::a6::a7::a8::a9::l) 9=a9:=rfl
theorem rr (a0 a1 a2 a3 a4 a5 a6 a7 a8 a9 a10:D) (l:List D):nth (a0::a1::a2::a3::a4::a5::a6::a7::a8::a9::a10::l) 10=a10:=rfl
theorem rx (a0 a1 a2 a3 a4 a5 a6 a7 a8 a9 a10 a11:D) (l:List D):nth (a0::a1::a2::a3::a4::a5::a6::a7::a8::a9::a10::a11::l) 11=a11:=rfl
theorem ry (a0 a1 a2 a3 a4 a5 a6 a7 a8 a9 a10 a11 a12:D) (l:List D):nth (a0::a1::a2::a3::a4::a5::a6::a7::a8::a9::a10::a11::a12::l) 12=a12:=rfl
theorem rz (a0 a1 a2 a3 a4 a5 a6 a7 a8 a9 a10 a11 a12 a13:D) (l:List D):nth (a0::a1::a2::a3::a4::a5::a6::a7::a8::a9::a10::a11::a12::a13::l) 13=a13:=rfl
theorem sa (a0 a1 a2 a3 a4 a5 a6 a7 a8 a9 a10 a11 a12 a13 a14:D) (l:List D):nth (a0::a1::a2::a3::a4::a5::a6::a7::a8::a9::a10::a11::a12::a13::a14::l) 14=a14:=rfl
theorem sc (a0 a1 a2 a3 a4 a5 a6 a7 a8 a9 a10 a11 a12 a13 a14 a15:D) (l:List D):nth (a0::a1::a2::a3::a4::a5::a6::a7::a8::a9::a10::a11::a12::a13::a14::a15::l) 15=a15:=rfl
theorem sd (a0 a1 a2 a3 a4 a5 a6 a7 a8 a9 a10 a11 a12 a13 a14 a15 a16:D) (l:List D):nth (a0::a1::a2::a3::a4::a5::a6::a7::a8::a9::a10::a11::a12::a13::a14::a15::a16::l) 16=a16:=rfl
theorem se (a0 a1 a2 a3 a4 a5 a6 a7 a8 a9 a10 a11 a12 a13 a14 a15 a16 a17:D) (l:List D):nth (a0::a1::a2::a3::a4::a5::a6::a7::a8::a9::a10::a11::a12::a13::a14::a15::a16::a17::l) 17=a17:=rfl
theorem sf (a0 a1 a2 a3 a4 a5 a6 a7 a8 a9 a10 a11 a12 a13 a14 a15 a16 a17 a18:D) (l:List D):nth (a0::a1::a2::a3::a4::a5::a6::a7::a8::a9::a10::a11::a12::a13::a14::a15::a16::a17::a18::l) 18=a18:=rfl
theorem si (a0 a1 a2 a3 a4 a5 a6 a7 a8 a9 a10 a11 a12 a13 a14 a15 a16 a17 a18 a19:D) (l:List D):nth (a0::a1::a2::a3::a4::a5::a6::a7::a8::a9::a10::a11::a12::a13::a14::a15::a16::a17::a18::a19::l) 19=a19:=rfl
theorem sj (a0 a1 a2 a3 a4 a5 a6 a7 a8 a9 a10 a11 a12 a13 a14 a15 a16 a17 a18 a19 a20:D) (l:List D):nth (a0::a1::a2::a3::a4::a5::a6::a7::a8::a9::a10::a11::a12::a13::a14::a15::a16::a17::a18::a19::a20::l) 20=a20:=rfl
theorem sk (a0 a1 a2 a3 a4 a5 a6 a7 a8 a9 a10 a11 a12 a13 a14 a15 a16 a17 a18 a19 a20 a21:D) (l:List D):nth (a0::a1::a2::a3::a4::a5::a6::a7::a8::a9::a10::a11::a12::a13::a14::a15::a16::a17::a18::a19::a20::a21::l) 21=a21:=rfl
theorem sm (a0 a1 a2 a3 a4 a5 a6 a7 a8 a9 a10 a11 a12 a13 a14 a15 a16 a17 a18 a19 a20 a21 a22:D) (l:List D):nth (a0::a1::a2::a3::a4::a5::a6::a7::a8::a9::a10::a11::a12::a13::a14::a15::a16::a17::a18::a19::a20::a21::a22::l) 22=a22:=rfl
theorem sn (a0 a1 a2 a3 a4 a5 a6 a7 a8 a9 a10 a11 a12 a13 a14 a15 a16 a17 a18 a19 a20 a21 a22 a23:D) (l:List D):nth (a0::a1::a2::a3::a4::a5::a6::a7::a8::a9::a10::a11::a12::a13::a14::a15::a16::a17::a18::a19::a20::a21::a22::a23::l) 23=a23:=rfl
theorem sq (a0 a1 a2 a3 a4 a5 a6 a7 a8 a9 a10 a11 a12 a13 a14 a15 a16 a17 a18 a19 a20 a21 a22 a23 a24:D) (l:List D):nth (a0::a1::a2::a3::a4::a5::a6::a7::a8::a9::a10::a11::a12::a13::a14::a15::a16::a17::a18::a19::a20::a21::a22::a23::a24::l) 24=a24:=rfl
theorem su (a0 a1 a2 a3 a4 a5 a6 a7 a8 a9 a10 a11 a12 a13 a14 a15 a16 a17 a18 a19 a20 a21 a22 a23 a24 a25:D) (l:List D):nth (a0::a1::a2::a3::a4::a5::a6::a7::a8::a9::a10::a11::a12::a13::a14::a15::a16::a17::a18::a19::a20::a21::a22::a23::a24::a25::l) 25=a25:=rfl
theorem dI (n:Int):(D.int n).I=n:=rfl
theorem dB (b:Bool):(D.bool b).B=b:=rfl
theorem dS (s:ByteArray):(D.str s).S=s:=rfl
theorem dL (r:aa):(D.sl r).L=r:=rfl
abbrev Ky:=List UInt8
theorem Kg {a b:ByteArray} (h:a.data.toList=b.data.toList):a=b:=by
 cases a; cases b; simp only at h; congr 1; exact Array.ext' h
theorem sv:∀ (x y:List UInt8),Op.bytesLess x y=decide (x<y)
 | x,[]=>by simp [Op.bytesLess]
 | [],y::ys=>by simp [Op.bytesLess]
 | a::x,b::y=>by
  unfold Op.bytesLess;rw [sv x y];rw [Bool.eq_iff_iff];simp only [P3,B7,decide_eq_true_eq,beq_iff_eq,List.cons_lt_cons_iff]
theorem Ry (a b:ByteArray):ltB a b=decide (a.data.toList<b.data.toList):=by
 unfold ltB;rw [sv,ByteArray.toList_eq,ByteArray.toList_eq]
theorem uo (a:Ky):¬ a<a:=List.lt_irrefl a
theorem yu {a b c:Ky} (h:a<b) (k:b<c):a<c:=List.lt_trans h k
theorem Iy (a b:Ky):a<b\/a=b\/b<a:=by
 by_cases h:a<b
 · exact .inl h
 · by_cases k:b<a
   · exact .inr (.inr k)
   · exact .inr (.inl (List.le_antisymm k h))
def Asc (l:List Ky):Prop:=l.Pairwise (· < ·)
theorem Dp:∀ {l m:List Ky},Asc l->Asc m->(∀ x,x∈l↔x∈m)->l=m
 | [],m,hl,hm,h=>by
  cases m with
  | nil=>rfl
  | cons y m=>exact absurd ((h y).2 (C4 ..)) (by simp)
 | x::l,[],hl,hm,h=>absurd ((h x).1 (C4 ..)) (by simp)
 | x::l,y::m,hl,hm,h=>by
  obtain ⟨h1,h2⟩:=Q3.1 hl;obtain ⟨h3,h4⟩:=Q3.1 hm;have e:x=y:=by
   rcases E0.1 ((h x).1 (C4 ..)) with e | hx
   · exact e
   · rcases E0.1 ((h y).2 (C4 ..)) with e | hy
     · exact e.symm
     · exact absurd (yu (h3 x hx) (h1 y hy)) (uo _)
  subst e;congr 1
  refine Dp h2 h4 fun z=>⟨fun hz=>?_,fun hz=>?_⟩
  · rcases E0.1 ((h z).1 (C5 _ hz)) with e | hz'
    · exact absurd (e▸h1 z hz) (uo _)
    · exact hz'
  · rcases E0.1 ((h z).2 (C5 _ hz)) with e | hz'
    · exact absurd (e▸h3 z hz) (uo _)
    · exact hz'
theorem Gl {l:List Ky} (h:l.Pairwise fun a b=>¬ b<a):Asc (Lib.compact l)/\∀ x,x∈Lib.compact l↔x∈l:=by
 have hg:∀ i j,i<j->j<l.length->¬ l.toArray[j]!<l.toArray[i]!:=fun i j hij hj=>by
  rw [getElem!_pos l.toArray j (by simpa using hj),getElem!_pos l.toArray i (by simp; omega)]
  simp only [List.getElem_toArray];exact List.pairwise_iff_getElem.1 h i j (by omega) hj hij
 unfold Lib.compact Lib.compactUpTo;constructor
 · unfold Asc
   rw [List.pairwise_map];have hp:((List.range l.length).filter (Lib.keeps l.toArray)).Pairwise fun i j=>i<j/\j<l.length/\Lib.keeps l.toArray j=true:=by
    have h1:(List.range l.length).Pairwise fun i j=>i<j:=List.pairwise_lt_range
    have h2:=h1.sublist (List.filter_sublist (p:=Lib.keeps l.toArray));refine List.Pairwise.imp_of_mem (fun {a b} ha hb hab=>?_) h2
    have hb':=S5.1 hb;exact ⟨hab,by simpa using hb'.1,hb'.2⟩
   refine hp.imp fun {i j} ⟨hij,hj,hk⟩=>?_
   simp only [Lib.keeps,decide_eq_true_eq] at hk;have hne:l.toArray[j]!≠l.toArray[j-1]!:=hk.resolve_left (by omega)
   have h1:l.toArray[j-1]!<l.toArray[j]!:=by
    rcases Iy l.toArray[j-1]! l.toArray[j]! with h | h | h
    · exact h
    · exact absurd h.symm hne
    · exact absurd h (hg (j-1) j (by omega) hj)
   by_cases hij':i=j-1
   · rw [hij']; exact h1
   · have h2:=hg i (j-1) (by omega) (by omega)
     rcases Iy l.toArray[i]! l.toArray[j-1]! with h | h | h
     · exact yu h h1
     · rw [h]; exact h1
     · exact absurd h h2
 · intro x
   simp only [G5,S5,List.mem_range];constructor
   · rintro ⟨j,⟨hj,_⟩,rfl⟩
     rw [getElem!_pos l.toArray j (by simpa using hj)]
     simp
   · intro hx
     obtain ⟨j,hj,rfl⟩:=List.mem_iff_getElem.1 hx;have key:∀ n j (hj:j<l.length),j<=n->∃ k,(k<l.length/\Lib.keeps l.toArray k=true)/\l.toArray[k]! = l[j]:=by
      intro n;induction n with
      | zero =>
       intro j hj hn;obtain rfl:j=0:=by omega
       exact ⟨0,⟨hj,by simp [Lib.keeps]⟩,by rw [getElem!_pos l.toArray 0 (by simpa using hj)]; simp⟩
      | succ n ih =>
       intro j hj hn;by_cases hk:Lib.keeps l.toArray j=true
       · exact ⟨j,⟨hj,hk⟩,by rw [getElem!_pos l.toArray j (by simpa using hj)]; simp⟩
       · simp only [Lib.keeps,decide_eq_true_eq] at hk
         have h0:j≠0:=fun e=>hk (.inl e)
         have he:l.toArray[j]! = l.toArray[j-1]!:=Classical.byContradiction fun hne=>hk (.inr hne)
         obtain ⟨k,hk1,hk2⟩:=ih (j-1) (by omega) (by omega)
         refine ⟨k,hk1,hk2.trans ?_⟩;rw [getElem!_pos l.toArray j (by simpa using hj),getElem!_pos l.toArray (j-1) (by simp; omega)] at he
         simpa using he.symm
     exact key j j hj (F7 _)
def jz (x:Ky):List Ky->List Ky
 | []=>[x]
 | y::r=>if y<x then y::jz x r else if y=x then y::r else x::y::r
theorem ka (x z:Ky):∀ l:List Ky,z∈jz x l↔z=x\/z∈l
 | []=>by simp [jz]
 | y::r=>by
  unfold jz;split
  · simp only [E0,ka x z r]; exact ⟨fun h=>by rcases h with h | h | h <;> simp [h],fun h=>by rcases h with h | h | h <;> simp [h]⟩
  · split
    · rename_i h; subst h; simp
    · simp
theorem sw (x:Ky):∀ {l:List Ky},Asc l->Asc (jz x l)
 | [],h=>by simp [jz,Asc]
 | y::r,h=>by
  obtain ⟨h1,h2⟩:=Q3.1 h;unfold jz;split
  · rename_i hyx
    refine Q3.2 ⟨fun z hz=>?_,sw x h2⟩
    rcases (ka x z r).1 hz with rfl | hz
    · exact hyx
    · exact h1 z hz
  · split
    · exact h
    · rename_i h3 h4
      have hxy:x<y:=(Iy x y).elim id fun h=>h.elim (fun h=>absurd h.symm h4) fun h=>absurd h h3
      refine Q3.2 ⟨fun z hz=>?_,h⟩
      rcases E0.1 hz with rfl | hz
      · exact hxy
      · exact yu hxy (h1 z hz)
def pm:List Ky->List Ky->List Ky
 | [],acc=>acc
 | x::r,acc=>pm r (jz x acc)
theorem pc:∀ (l:List Ky) {acc:List Ky},Asc acc->Asc (pm l acc)/\∀ z,z∈pm l acc↔z∈l\/z∈acc
 | [],acc,h=>⟨h,by simp [pm]⟩
 | x::r,acc,h=>by
  obtain ⟨h1,h2⟩:=pc r (sw x h);refine ⟨h1,fun z=>?_⟩
  simp only [pm,h2,ka,E0];exact ⟨fun h=>by rcases h with h | h | h <;> simp [h],fun h=>by rcases h with (h | h) | h <;> simp [h]⟩
theorem Mm (l:List Ky):(l.mergeSort fun x y=>decide (x<=y)).Pairwise fun a b=>¬ b<a:=by
 have h:=List.pairwise_mergeSort (le:=fun x y:Ky=>decide (x<=y)) (fun a b c h1 h2=>by
  simp only [decide_eq_true_eq] at *;exact List.le_trans h1 h2) (fun a b=>by
  simp only [P3,decide_eq_true_eq];exact List.le_total a b) l
 exact h.imp fun {a b} hab=>by simpa using hab
theorem Dq (l:List Ky):Lib.compact (l.mergeSort fun x y=>decide (x<=y))=pm l []:=by
 obtain ⟨h1,h2⟩:=Gl (Mm l);obtain ⟨h3,h4⟩:=pc l (acc:=[]) (by simp [Asc])
 refine Dp h1 h3 fun x=>?_
 rw [h2,h4,(List.mergeSort_perm l _).mem_iff];simp
def ofK (k:Ky):ByteArray:=⟨k.toArray⟩
def toK (b:ByteArray):Ky:=b.data.toList
theorem Dr (b:ByteArray):ofK (toK b)=b:=by simp [ofK,toK]
theorem Kh (k:Ky):toK (ofK k)=k:=by simp [ofK,toK]
def cm (l:List ByteArray):List ByteArray:=(pm (l.map toK) []).map ofK
theorem sx (l:List ByteArray) (x:ByteArray):x∈cm l↔x∈l:=by
 unfold cm;rw [G5];constructor
 · rintro ⟨k,hk,rfl⟩
   rcases ((pc (l.map toK) (acc:=[]) (by simp [Asc])).2 k).1 hk with hk | hk
   · obtain ⟨b,hb,rfl⟩:=G5.1 hk
     rw [Dr]; exact hb
   · simp at hk
 · intro hx
   exact ⟨toK x,((pc (l.map toK) (acc:=[]) (by simp [Asc])).2 _).2 (.inl (G5.2 ⟨x,hx,rfl⟩)),Dr x⟩
theorem yv:∀ (l acc:List Ky),(pm l acc).length<=l.length+acc.length
 | [],acc=>by simp [pm]
 | x::r,acc=>by
  have h1:∀ acc:List Ky,(jz x acc).length<=acc.length+1:=fun acc=>by
   induction acc with
   | nil=>simp [jz]
   | cons y acc ih =>
    unfold jz;by_cases h1:y<x
    · rw [H5 h1]; simp only [C1]; omega
    · rw [H6 h1]
      by_cases h2:y=x
      · rw [H5 h2]; exact Nat.le_succ _
      · rw [H6 h2]; simp
  have:=yv r (jz x acc);have:=h1 acc;simp only [pm,C1]; omega
theorem gf (l:List ByteArray):(cm l).length<=l.length:=by
 have:=yv (l.map toK) [];simpa [cm] using this
theorem pd (k:Ky):fm k=ai (ofK k):=rfl
theorem Gm (l:List Ky):l.map fm=(l.map ofK).map ai:=by rw [K6]; rfl
theorem Gn (l:List ByteArray):l.map ai=(l.map toK).map fm:=by
 rw [K6];exact N1 fun b _=>by simp only [Function.comp,pd,Dr]
theorem Rz {a b:Ky}:ofK a=ofK b↔a=b:=⟨fun h=>by rw [<- Kh a,h,Kh],fun h=>h▸rfl⟩
theorem Sa (a b:Ky):ltB (ofK a) (ofK b)=decide (a<b):=by rw [Ry]; rfl
theorem Pm (v:Nat) (l:List ByteArray) (h:l.length<4611686018427387904):Au v [.sl (l.map ai)]=some (0,[.sl (((l.map toK).mergeSort fun x y=>decide (x<=y)).map fm)]):=by
 unfold Au;simp only;rw [Gn,yn];simp only;rw [show Nat.blt (l.map toK).length 4611686018427387904=true from F9 (by rw [B6]; exact h)]
 rfl
theorem Pn (v:Nat) (l:List Ky) (h:l.length<=9223372036854775807):Av v [.sl (l.map fm)]=some (0,[.sl ((Lib.compact l).map fm)]):=by
 unfold Av;simp only;rw [yn];simp only;rw [show Nat.ble l.length 9223372036854775807=true from F9 h]
 rfl
def ldK (x:Ky):List Ky->Nat
 | []=>0
 | y::r=>if y<x then ldK x r+1 else 0
theorem Po (x:Ky):∀ l:List Ky,ldK x l<=l.length
 | []=>F7 _
 | y::r=>by unfold ldK; split; · have:=Po x r; simp only [C1]; omega
            · exact K0 _
theorem Ki (x:Ky):∀ l:List Ky,jz x l=if l[ldK x l]?=some x then l else l.take (ldK x l)++[x]++l.drop (ldK x l)
 | []=>by simp [jz,ldK]
 | y::r=>by
  unfold jz ldK;by_cases h:y<x
  · rw [H5 h,H5 h,Ki x r]
    simp only [List.getElem?_cons_succ,List.take_succ_cons,List.drop_succ_cons,F5];split <;> rfl
  · rw [H6 h,H6 h]
    by_cases h2:y=x
    · rw [H5 h2]; simp [h2]
    · rw [H6 h2]; simp [h2]
theorem Pp (x:Ky) (l:List Ky) (a:Nat) (h:a<l.length):ldK x (l.drop a)=if l[a]<x then ldK x (l.drop (a+1))+1 else 0:=by
 rw [B9 h]; rfl
end Go.Q
end
section
/- Guards and other rows out of data. -/
namespace Go.Q.S
open Go Go.Q
end Go.Q.S
namespace Go.Q.S
open Go Go.Q
theorem Pq (vars:List ByteArray) (gs:List Gu):(Mk vars gs).length<=64:=by
 unfold Mk;refine G8 (Q7 _ _) ?_;have:=(rq vars.length).2;simp; omega
theorem Sb (vars:List ByteArray) (gs:List Gu):∀ x∈Mk vars gs,i64ok (x:Int):=fun x hx=>by
 unfold Mk at hx;have h1:=(S5.1 hx).1;have:=(rq vars.length).2;simp at h1;exact i64ok_of (by omega) (by omega)
def Vy (i:Nat):List D:=[.int (i:Int)]
end Go.Q.S
end
section
/- Names,terms,signatures,rules: what their checks compute. -/
namespace Go.Q
open Go
theorem pf (s:ByteArray):s.size=s.data.toList.length:=by rw [Array.length_toList]; rfl
theorem nu {s:ByteArray} {i:Nat} (h:i<s.data.toList.length):s.get! i=s.data.toList[i]:=by
 have h':i<s.data.size:=by simpa using h
 show s.data[i]! = _
 rw [getElem!_pos s.data i h'];simp
def zz (b:UInt8):Bool:=(decide (97<=b.toNat)&&decide (b.toNat<=122))||(decide (48<=b.toNat)&&decide (b.toNat<=57))
def Bl (lo hi:Nat):List UInt8->Bool
 | []=>false
 | b::r=>decide ((b::r).length<=8)&&((decide (lo<=b.toNat)&&decide (b.toNat<=hi))&&r.all zz)
def kd (s:ByteArray):Bool:=Bl 97 122 s.data.toList
def mh (s:ByteArray):Bool:=Bl 65 90 s.data.toList
theorem Gp (s:ByteArray):s=⟨#[]⟩↔s.data.toList=[]:=⟨fun h=>by rw [h],fun h=>Kg h⟩
theorem nv0 (a:D) (l:List D):nth (a::l) 0=a:=id rfl
theorem nvS (a:D) (l:List D) (i:Nat):nth (a::l) (i+1)=nth l i:=id rfl
theorem dvI (n:Int):(D.int n).I=n:=id rfl
theorem dvB (b:Bool):(D.bool b).B=b:=id rfl
theorem dvS (s:ByteArray):(D.str s).S=s:=id rfl
theorem dvL (r:aa):(D.sl r).L=r:=id rfl
namespace Tm
mutual
def depth:Tm->Nat
 | .mk _ _ _ as=>depthL as+1
def depthL:List Tm->Nat
 | []=>0
 | t::ts=>max (depth t) (depthL ts)
end
theorem depth_eq (t:Tm):t.depth=depthL t.as+1:=by cases t; rfl
theorem depth_nodes:∀ t:Tm,t.depth<=t.nodes:=Tm.ind fun t ih=>by
 have h:∀ l:List Tm,(∀ a∈l,a.depth<=a.nodes)->depthL l<=(l.map nodes).sum:=fun l=>by
  induction l with
  | nil=>intro _; exact F7 _
  | cons a l ih =>
   intro hl;have h1:=hl a (C4 ..);have h2:=ih fun b hb=>hl b (C5 _ hb)
   simp only [depthL,C2,J7]; omega
 have:=h t.as ih;rw [depth_eq,nodes_eq]; omega
def nodeN (t:Tm):Bool :=
 if t.k=1 then decide (t.n=0)&&(decide (t.as.length=0)&&mh t.s) else if t.k=3 then isW t else if t.k=2 then decide (t.n=0)&&kd t.s else false
mutual
def areN:Tm->Bool
 | .mk k n s as=>nodeN (.mk k n s as)&&areNL as
def areNL:List Tm->Bool
 | []=>true
 | t::ts=>areN t&&areNL ts
end
theorem areN_eq (t:Tm):t.areN=(nodeN t&&areNL t.as):=by cases t; rfl
theorem areNL_all:∀ l:List Tm,areNL l=l.all areN
 | []=>rfl
 | t::l=>by simp only [areNL,J6,areNL_all l]
def valid (t:Tm):Bool:=decide (t.nodes<=60)&&(decide (t.depth<=16)&&t.areN)
end Tm
inductive Wt:Tm->Prop
 | mk {t:Tm}:S.i64ok t.k->S.i64ok t.n->t.s.size<=maxLen->t.as.length<=maxLen->(∀ a∈t.as,Wt a)->Wt t
theorem Wt.k {t:Tm} (h:Wt t):S.i64ok t.k:=by cases h; assumption
theorem Wt.n {t:Tm} (h:Wt t):S.i64ok t.n:=by cases h; assumption
theorem Wt.s {t:Tm} (h:Wt t):t.s.size<=maxLen:=by cases h; assumption
theorem Wt.l {t:Tm} (h:Wt t):t.as.length<=maxLen:=by cases h; assumption
theorem Wt.sub {t a:Tm} (h:Wt t) (ha:a∈t.as):Wt a:=by cases h with | mk _ _ _ _ h=>exact h a ha
theorem Pr (l:List ByteArray):(cm l).length=l.length↔l.Nodup:=by
 have key:∀ (l acc:List Ky),Asc acc->((pm l acc).length=l.length+acc.length↔(l.Nodup/\∀ x∈l,x∉acc)):=by
  intro l;induction l with
  | nil=>intro acc _; simp [pm]
  | cons x l ih =>
   intro acc ha;have hl:=yv l (jz x acc);have hmem:x∈acc->jz x acc=acc:=fun hx=>Dp (sw x ha) ha fun z=>by
    rw [ka]; exact ⟨fun h=>h.elim (fun e=>e▸hx) id,.inr⟩
   have hlen:∀ acc:List Ky,x∉acc->(jz x acc).length=acc.length+1:=fun acc=>by
    induction acc with
    | nil=>intro _; rfl
    | cons y acc iha =>
     intro hx;have h1:y≠x:=fun e=>hx (e▸C4 ..)
     have h2:=iha fun h=>hx (C5 _ h)
     unfold jz;by_cases h3:y<x
     · rw [H5 h3]; simp only [C1,h2]
     · rw [H6 h3,H6 h1]; rfl
   have ih':=ih (jz x acc) (sw x ha);simp only [pm,C1,List.nodup_cons,List.forall_mem_cons];by_cases hx:x∈acc
   · rw [hmem hx] at hl ⊢
     constructor
     · intro h; omega
     · intro h; exact absurd hx h.2.1
   · have h1:=hlen acc hx
     rw [show l.length+1+acc.length=l.length+(jz x acc).length by omega,ih']
     constructor
     · rintro ⟨h2,h3⟩
       exact ⟨⟨fun hxl=>h3 x hxl ((ka ..).2 (.inl rfl)),h2⟩,hx,fun z hz hza=>h3 z hz ((ka ..).2 (.inr hza))⟩
     · rintro ⟨⟨h2,h3⟩,h4,h5⟩
       exact ⟨h3,fun z hz hza=>((ka ..).1 hza).elim (fun e=>h2 (e▸hz)) (h5 z hz)⟩
 have h:=key (l.map toK) [] (by simp [Asc])
 have hn:(l.map toK).Nodup↔l.Nodup:=by
  constructor
  · exact fun h=>(List.pairwise_map.1 h).imp fun {a b} (hab:toK a≠toK b) (e:a=b)=>hab (congrArg toK e)
  · exact fun h=>List.pairwise_map.2 (h.imp fun {a b} hab e=>hab (Kg e))
 unfold cm;rw [B6];rw [<- hn];simpa using h
def dis (l:List ByteArray):Bool:=decide l.Nodup
def je (r:List ByteArray) (s:ByteArray):Bool:=r.any fun y=>decide (y=s)
theorem sy {r:List ByteArray} {s:ByteArray}:je r s=true↔s∈r:=by
 simp only [je,List.any_eq_true,decide_eq_true_eq];exact ⟨fun ⟨y,h,e⟩=>e▸h,fun h=>⟨s,h,rfl⟩⟩
def wo (l r:List ByteArray):List ByteArray:=l.filter fun s=>!je r s
abbrev cz:ByteArray:=⟨#[119,111,114,100]⟩
abbrev e0:ByteArray:=⟨#[]⟩
structure OpM where
 n:ByteArray
 a:List ByteArray
 r:ByteArray
def OpM.row (o:OpM):List D:=[.str o.n,.sl (o.a.map ai),.str o.r]
def OpM.ok (o:OpM):Prop:=o.a.length<=1048576
structure nv (ops:List OpM):Prop where
 l:ops.length<=1048576
 a:∀ o∈ops,o.ok
def ke:Option OpM->List D
 | some o=>[.str o.n,.str o.r,.bool true,.sl (o.a.map ai)]
 | none=>[.str e0,.str e0,.bool false,.sl []]
def dm (ops:List OpM) (s:ByteArray):Option OpM:=if isB s then some ⟨s,[cz,cz],cz⟩ else ops.find? fun o=>decide (o.n=s)
theorem yw {ops:List OpM} (h:∀ o∈ops,o.ok) {s:ByteArray} {o:OpM} (hf:dm ops s=some o):o.ok:=by
 unfold dm at hf;split at hf
 · simp only [C9.injEq] at hf; subst hf; show 2<=1048576; decide
 · exact h o (List.mem_of_find?_eq_some hf)
abbrev VS:=ByteArray×ByteArray
def VS.row (v:VS):List D:=[.str v.1,.str v.2]
def pq (vs:List VS) (s:ByteArray):ByteArray:=match vs.find? fun v=>decide (v.1=s) with | some v=>v.2 | none=>e0
mutual
def av (ops:List OpM) (vs:List VS):Tm->ByteArray
 | .mk k n s as=>if k=3 then cz else if k=1 then pq vs s else if k=2 then (match dm ops s with
  | none=>e0
  | some o=>if o.a.length=as.length then (if bj ops vs as o.a then o.r else e0) else e0) else e0
def bj (ops:List OpM) (vs:List VS):List Tm->List ByteArray->Bool
 | [],_=>true
 | t::ts,[]=>true
 | t::ts,x::xs=>(!decide (av ops vs t=e0)&&decide (av ops vs t=x))&&bj ops vs ts xs
end
theorem cn (ops:List OpM) (vs:List VS) (t:Tm):av ops vs t=if t.k=3 then cz else if t.k=1 then pq vs t.s else if t.k=2 then (match dm ops t.s with
 | none=>e0
 | some o=>if o.a.length=t.as.length then (if bj ops vs t.as o.a then o.r else e0) else e0) else e0:=by cases t; simp only [av,Tm.k,Tm.s,Tm.as]; rfl
mutual
def gq (ops:List OpM):Tm->ByteArray->List VS->Option (List VS)
 | .mk k n s as,so,vs=>if k=1 then (match vs.find? fun v=>decide (v.1=s) with
  | some v=>if v.2=so then some vs else none
  | none=>some (vs++[(s,so)])) else ey ops as (if k=2 then (match dm ops s with | some o=>o.a | none=>[]) else []) vs
def ey (ops:List OpM):List Tm->List ByteArray->List VS->Option (List VS)
 | [],_,vs=>some vs
 | t::ts,[],vs=>match gq ops t e0 vs with | some vs'=>ey ops ts [] vs' | none=>none
 | t::ts,x::xs,vs=>match gq ops t x vs with | some vs'=>ey ops ts xs vs' | none=>none
end
theorem kv (ops:List OpM) (t:Tm) (so:ByteArray) (vs:List VS):gq ops t so vs=if t.k=1 then (match vs.find? fun v=>decide (v.1=t.s) with
 | some v=>if v.2=so then some vs else none
 | none=>some (vs++[(t.s,so)])) else ey ops t.as (if t.k=2 then (match dm ops t.s with | some o=>o.a | none=>[]) else []) vs:=by cases t; simp only [gq,Tm.k,Tm.s,Tm.as]; rfl
def Aa (ops:List OpM) (t:Tm) (so:ByteArray) (vs:List VS):List D:=match gq ops t so vs with
 | some v=>[.bool true,.sl (v.map VS.row)]
 | none=>[.bool false,.sl (if t.k=1 then vs.map VS.row else [])]
def sz:Option (List VS)->List D
 | some v=>[.bool true,.sl (v.map VS.row)]
 | none=>[.bool false,.sl []]
theorem Gq (ops:List OpM):∀ (l:List Tm),(∀ t∈l,∀ x vs vs',gq ops t x vs=some vs'->vs'.length<=vs.length+t.nodes)->∀ xs vs vs',ey ops l xs vs=some vs'->vs'.length<=vs.length+(l.map Tm.nodes).sum
 | [],_,xs,vs,vs',h=>by simp only [ey,C9.injEq] at h; subst h; simp
 | t::l,ih,xs,vs,vs',h=>by
  have step:∀ x ys,(match gq ops t x vs with | some vs'=>ey ops l ys vs' | none=>none)=some vs'->vs'.length<=vs.length+((t::l).map Tm.nodes).sum:=fun x ys h=>by
   cases hq:gq ops t x vs with
   | none=>rw [hq] at h; simp at h
   | some v =>
    rw [hq] at h;have h1:=ih t (C4 ..) x vs v hq;have h2:=Gq ops l (fun a ha=>ih a (C5 _ ha)) ys v vs' h
    simp only [C2,J7]; omega
  cases xs with
  | nil=>exact step _ _ (by simpa only [ey] using h)
  | cons x ys=>exact step _ _ (by simpa only [ey] using h)
theorem kf (ops:List OpM):∀ t:Tm,∀ x vs vs',gq ops t x vs=some vs'->vs'.length<=vs.length+t.nodes:=Tm.ind fun t ih x vs vs' h=>by
 rw [kv] at h;split at h
 · split at h
   · split at h
     · simp only [C9.injEq] at h; subst h; omega
     · simp at h
   · simp only [C9.injEq] at h; subst h
     rw [Tm.nodes_eq]; simp
 · have:=Gq ops t.as ih _ _ _ h
   rw [Tm.nodes_eq]; omega
def nz (ops:List OpM) (t:Tm) (so:ByteArray):Option (List VS):=match gq ops t so [] with
 | some vs=>if so=e0 then none else if av ops vs t=so then some vs else none
 | none=>none
def yx (so:List ByteArray) (ops:List OpM):Bool :=
 decide (so.length<=4)&&(dis so&&(decide (ops.length<=16)&&((so.all fun x=>kd x&&!decide (x=cz))&&((ops.all fun o=>kd o.n&&(!isB o.n&&(decide (o.a.length<=3)&&(o.a.all (fun x=>decide (x=cz)||je so x)&&(decide (o.r=cz)||je so o.r)))))&&dis (ops.map (·.n))))))
structure RuM where
 n:ByteArray
 l:Tm
 r:Tm
 g:List Gu
def RuM.row (r:RuM):List D:=[.str r.n,.int r.l.k,.int r.l.n,.str r.l.s,.sl (r.l.as.map Tm.row),.int r.r.k,.int r.r.n,.str r.r.s,.sl (r.r.as.map Tm.row),.sl (r.g.map Gu.row)]
def RuM.ok (r:RuM):Prop:=r.l.nodes<=1048577/\r.r.nodes<=1048577/\r.g.length<=1048576/\∀ g∈r.g,g.ok
mutual
def pr:Tm->Bool
 | .mk k n s as=>!(decide (k=2)&&isB s)&&kg as
def kg:List Tm->Bool
 | []=>true
 | t::ts=>pr t&&kg ts
end
theorem Gs (t:Tm):pr t=(!(decide (t.k=2)&&isB t.s)&&kg t.as):=by cases t; rfl
def ez (t:Tm) (names:List ByteArray):Bool:=t.names.all fun s=>je names s
def uq (ops:List OpM) (vs:List VS) (g:Gu):Bool :=
 (decide (1<=g.k)&&decide (g.k<=3))&&(g.l.valid&&(g.r.valid&&(!decide (av ops vs g.l=e0)&&(decide (av ops vs g.l=av ops vs g.r)&&!(decide (g.k=3)&&!decide (av ops vs g.l=cz))))))
def yy (ops:List OpM) (vs:List VS) (gs:List Gu):Bool:=gs.all (uq ops vs)&&decide (gs.length<=2)
def jf (ops:List OpM) (r:RuM):Bool :=
 kd r.n&&(r.l.valid&&(decide (r.l.k=2)&&(pr r.l&&(r.r.valid&&(match dm ops r.l.s with
  | none=>false
  | some o=>match nz ops r.l o.r with
   | none=>false
   | some vs=>decide (av ops vs r.r=o.r)&&(ez r.r r.l.names&&yy ops vs r.g))))))
structure StM where
 o:ByteArray
 a:Int
def StM.row (s:StM):List D:=[.str s.o,.int s.a]
structure DfM where
 so:List ByteArray
 op:List OpM
 ru:List RuM
 st:List StM
structure DfM.ok (d:DfM):Prop where
 so:d.so.length<=1048576
 op:d.op.length<=1048576
 opa:∀ o∈d.op,o.ok
 ru:d.ru.length<=1048576
 rua:∀ r∈d.ru,r.ok
 st:d.st.length<=1048576
def Mn (ops:List OpM) (s:StM):Bool:=match dm ops s.o with
 | none=>false
 | some o=>!isB s.o&&(decide (0<=s.a)&&decide (s.a<o.a.length))
def kh (ops:List OpM):List StM->List StM->Bool
 | _,[]=>true
 | pre,x::r=>Mn ops x&&(!(pre.any fun y=>decide (y.o=x.o)&&decide (y.a=x.a))&&kh ops (pre++[x]) r)
def DfM.valid (d:DfM):Bool:=yx d.so d.op&&(decide (d.ru.length<=16)&&(decide (d.st.length<=8)&&(d.ru.all (jf d.op)&&(kh d.op [] d.st&&dis (d.ru.map (·.n))))))
end Go.Q
end
section
namespace Go.Q
open Go
structure GuB (g:Gu):Prop where
 wl:Wt g.l
 wr:Wt g.r
 ln:g.l.nodes<=1048577
 rn:g.r.nodes<=1048577
structure RuB (r:RuM):Prop where
 n:r.n.size<=maxLen
 wl:Wt r.l
 wr:Wt r.r
 ln:r.l.nodes<=1048577
 rn:r.r.nodes<=1048577
 g:r.g.length<=1048576
 ga:∀ g∈r.g,GuB g
structure DfB (d:DfM):Prop where
 so:d.so.length<=1048576
 sos:∀ x∈d.so,x.size<=maxLen
 op:nv d.op
 opn:∀ o∈d.op,o.n.size<=maxLen
 ru:d.ru.length<=1048576
 rua:∀ r∈d.ru,RuB r
 st:d.st.length<=1048576
theorem lj (ops:List OpM) (vs:List VS):∀ (l:List Tm) (xs:List ByteArray),l.length<=xs.length->bj ops vs l xs=true->∀ t∈l,av ops vs t≠e0
 | [],_,_,_,t,ht=>by simp at ht
 | t::l,[],hl,_,_,_=>by simp at hl
 | t::l,x::xs,hl,h,u,hu=>by
  simp only [bj,B7,F1,decide_eq_false_iff_not,decide_eq_true_eq] at h;rcases E0.1 hu with e | hu
  · exact e▸h.1.1
  · exact lj ops vs l xs (by simpa using hl) h.2 u hu
theorem Mo {vs:List VS} {s:ByteArray} (h:pq vs s≠e0):∃ v∈vs,v.1=s:=by
 unfold pq at h;cases hq:vs.find? (fun v=>decide (v.1=s)) with
 | none=>rw [hq] at h; exact absurd rfl h
 | some v=>exact ⟨v,List.mem_of_find?_eq_some hq,by simpa using List.find?_some hq⟩
theorem we (ops:List OpM) (vs:List VS):∀ t:Tm,t.areN=true->av ops vs t≠e0->∀ x∈t.names,∃ v∈vs,v.1=x:=Tm.ind fun t ih hn hs x hx=>by
 rw [Tm.areN_eq,B7,Tm.areNL_all,E4] at hn;obtain ⟨h1,h2⟩:=hn;rw [Tm.names_eq] at hx;rw [cn] at hs;unfold Tm.nodeN at h1;by_cases hk1:t.k=1
 · rw [H5 hk1] at h1
   simp only [B7,decide_eq_true_eq] at h1;have ha:t.as=[]:=F8.1 h1.2.1;rw [ha] at hx;rw [H6 (by omega),H5 hk1] at hs
   simp only [hk1,if_true,List.flatMap_nil,G9,E8] at hx;subst hx;exact Mo hs
 · rw [H6 hk1] at hx
   obtain ⟨a,ha,hxa⟩:=K3.1 hx;by_cases hk3:t.k=3
   · rw [H6 hk1,H5 hk3] at h1
     have:t.as=[]:=by simp only [isW,B7,decide_eq_true_eq] at h1; exact F8.1 h1.2.2.2.2
     rw [this] at ha; simp at ha
   · rw [H6 hk3,H6 hk1] at hs
     by_cases hk2:t.k=2
     · rw [H5 hk2] at hs
       cases hf:dm ops t.s with
       | none=>rw [hf] at hs; exact absurd rfl hs
       | some o =>
        rw [hf] at hs;simp only at hs;by_cases hl:o.a.length=t.as.length
        · rw [H5 hl] at hs
          by_cases hss:bj ops vs t.as o.a=true
          · exact ih a ha (h2 a ha) (lj ops vs t.as o.a (by omega) hss a ha) x hxa
          · rw [H6 hss] at hs; exact absurd rfl hs
        · rw [H6 hl] at hs; exact absurd rfl hs
     · rw [H6 hk2] at hs; exact absurd rfl hs
theorem yz (ops:List OpM):∀ (l:List Tm),(∀ t∈l,∀ x vs vs',gq ops t x vs=some vs'->∀ v∈vs',v∈vs\/v.1∈t.names)->∀ xs vs vs',ey ops l xs vs=some vs'->∀ v∈vs',v∈vs\/v.1∈l.flatMap Tm.names
 | [],_,xs,vs,vs',h,v,hv=>by simp only [ey,C9.injEq] at h; subst h; exact .inl hv
 | t::l,ih,xs,vs,vs',h,v,hv=>by
  have step:∀ x ys w,gq ops t x vs=some w->ey ops l ys w=some vs'->v∈vs\/v.1∈(t::l).flatMap Tm.names:=fun x ys w hq h=>by
   simp only [O3,D0];rcases yz ops l (fun a ha=>ih a (C5 _ ha)) ys w vs' h v hv with h1 | h1
   · rcases ih t (C4 ..) x vs w hq v h1 with h2 | h2
     · exact .inl h2
     · exact .inr (.inl h2)
   · exact .inr (.inr h1)
  cases xs with
  | nil =>
   simp only [ey] at h;split at h
   · rename_i w hq; exact step _ _ w hq h
   · simp at h
  | cons x ys =>
   simp only [ey] at h;split at h
   · rename_i w hq; exact step _ _ w hq h
   · simp at h
theorem Iz (ops:List OpM):∀ t:Tm,∀ x vs vs',gq ops t x vs=some vs'->∀ v∈vs',v∈vs\/v.1∈t.names:=Tm.ind fun t ih x vs vs' h v hv=>by
 rw [kv] at h;rw [Tm.names_eq];by_cases hk:t.k=1
 · rw [H5 hk] at h ⊢
   split at h
   · split at h
     · simp only [C9.injEq] at h; subst h; exact .inl hv
     · simp at h
   · simp only [C9.injEq] at h; subst h
     rcases D0.1 hv with h1 | h1
     · exact .inl h1
     · simp only [E8] at h1; subst h1; simp
 · rw [H6 hk] at h
   rcases yz ops t.as ih _ _ _ h v hv with h1 | h1
   · exact .inl h1
   · exact .inr (D0.2 (.inr h1))
theorem ta {ops:List OpM} {t:Tm} {x:ByteArray} {vs:List VS} (h:nz ops t x=some vs):gq ops t x []=some vs:=by
 unfold nz at h;cases hq:gq ops t x [] with
 | none=>rw [hq] at h; simp at h
 | some w =>
  rw [hq] at h;simp only at h;split at h
  · simp at h
  · split at h
    · exact h
    · simp at h
theorem Ja {ops:List OpM} {t:Tm} {x:ByteArray} {vs:List VS} (h:nz ops t x=some vs):∀ v∈vs,v.1∈t.names:=fun v hv=>by
 rcases Iz ops t x [] vs (ta h) v hv with h1 | h1
 · simp at h1
 · exact h1
theorem Gv {ops:List OpM} {t:Tm} {x:ByteArray} {vs:List VS} (h:nz ops t x=some vs):vs.length<=t.nodes:=by
 have:=kf ops t x [] vs (ta h); simpa using this
theorem fq {t:Tm} {names:List ByteArray}:ez t names=true↔∀ x∈t.names,x∈names:=by
 simp only [ez,E4,sy]
theorem dn {t:Tm} (h:t.valid=true):t.areN=true:=by
 simp only [Tm.valid,B7] at h; exact h.2.2
theorem Gw {ops:List OpM} {vs:List VS} {g:Gu} {names:List ByteArray} (hv:∀ v∈vs,v.1∈names) (h:uq ops vs g=true):ez g.l names=true/\ez g.r names=true:=by
 simp only [uq,B7,F1,decide_eq_false_iff_not,decide_eq_true_eq] at h;obtain ⟨_,h1,h2,h3,h4,_⟩:=h;constructor
 · refine fq.2 fun x hx=>?_
   obtain ⟨v,hm,e⟩:=we ops vs g.l (dn h1) h3 x hx;exact e▸hv v hm
 · refine fq.2 fun x hx=>?_
   obtain ⟨v,hm,e⟩:=we ops vs g.r (dn h2) (h4▸h3) x hx;exact e▸hv v hm
theorem Jb (l r:List ByteArray):decide ((wo l r).length=0)=l.all fun s=>je r s:=by
 induction l with
 | nil=>rfl
 | cons x l ih =>
  unfold wo at ih ⊢;rw [O8,J6];cases h:je r x with
  | true=>simpa using ih
  | false=>simp
theorem Un (t u:Tm):(wo (cm t.names) (cm u.names)).length=0↔ez t u.names=true:=by
 have:=Jb (cm t.names) (cm u.names);rw [<- decide_eq_true_iff (p:=(wo (cm t.names) (cm u.names)).length=0),this,fq];simp only [E4,sy,sx]
theorem Kj (t:Tm) (ns:List ByteArray):(wo (cm t.names) ns).length=0↔ez t ns=true:=by
 have:=Jb (cm t.names) ns;rw [<- decide_eq_true_iff (p:=(wo (cm t.names) ns).length=0),this,fq];simp only [E4,sy,sx]
end Go.Q
end
section
namespace Go.Q
open Go
def wv (vars:List ByteArray):List VS:=vars.map fun s=>(s,cz)
def kn (d:DfM) (vars:List ByteArray) (t:Tm):Bool :=
 d.valid&&(decide (vars.length<=3)&&(dis vars&&(vars.all mh&&(t.valid&&(ez t vars&&!decide (av d.op (wv vars) t=e0))))))
structure ClM where
 d:DfM
 v:List ByteArray
 l:Tm
 r:Tm
 g:List Gu
def ClM.row (c:ClM):List D:=[.sl (c.d.so.map ai),.sl (c.d.op.map OpM.row),.sl (c.d.ru.map RuM.row),.sl (c.d.st.map StM.row),.sl (c.v.map ai),.int c.l.k,.int c.l.n,.str c.l.s,.sl (c.l.as.map Tm.row),.int c.r.k,.int c.r.n,.str c.r.s,.sl (c.r.as.map Tm.row),.sl (c.g.map Gu.row)]
structure ClB (c:ClM):Prop where
 d:DfB c.d
 v:c.v.length<=1048576
 vs:∀ x∈c.v,x.size<=maxLen
 wl:Wt c.l
 wr:Wt c.r
 ln:c.l.nodes<=1048577
 rn:c.r.nodes<=1048577
 g:c.g.length<=1048576
 ga:∀ g∈c.g,GuB g
def ClM.valid (c:ClM):Bool:=kn c.d c.v c.l&&(kn c.d c.v c.r&&(decide (av c.d.op (wv c.v) c.l=av c.d.op (wv c.v) c.r)&&yy c.d.op (wv c.v) c.g))
end Go.Q
end
section
/- Definitions and claims out of data. -/
namespace Go.Q.S
open Go Go.Q
end Go.Q.S
end
section
/- Matching,firing,sorts along a step. -/
namespace Go.Q
open Go
theorem tb {l l':List Bnd} (h:∀ s,bnd l s=bnd l' s):∀ t,aS l t=aS l' t:=Tm.ind fun t ih=>by
 have hm:t.as.map (aS l)=t.as.map (aS l'):=N1 fun a ha=>ih a ha
 rw [ej,ej l',h,hm]
theorem Jc {l l':List Bnd} (h:∀ s,bnd l s=bnd l' s) (g:Gu):ex l g=ex l' g:=by
 unfold ex; rw [tb h,tb h]
theorem Ds (l l':List Bnd) (s:ByteArray):bnd (l++l') s=match bnd l s with
 | some v=>some v
 | none=>bnd l' s:=by
 induction l with
 | nil=>rfl
 | cons b l ih =>
  simp only [F5,bnd];by_cases h:b.1=s
  · rw [H5 h,H5 h]
  · rw [H6 h,H6 h,ih]
mutual
noncomputable def mT:Tm->Tm->List Bnd->Option (List Bnd)
 | .mk k n s as,u,l =>
  if k=1 then (match bnd l s with
   | some v=>if eqb v.row u.row=true then some l else none
   | none=>some (l++[(s,u)]))
  else if k=u.k then (if n=u.n then (if s=u.s then (if as.length=u.as.length then mTs as u.as l else none) else none) else none) else none
noncomputable def mTs:List Tm->List Tm->List Bnd->Option (List Bnd)
 | [],_,l=>some l
 | _::_,[],_=>none
 | t::ts,u::us,l=>match mT t u l with
  | some l'=>mTs ts us l'
  | none=>none
end
theorem Kk (t u:Tm) (l:List Bnd):mT t u l=if t.k=1 then (match bnd l t.s with
 | some v=>if eqb v.row u.row=true then some l else none
 | none=>some (l++[(t.s,u)]))
 else if t.k=u.k then (if t.n=u.n then (if t.s=u.s then (if t.as.length=u.as.length then mTs t.as u.as l else none) else none) else none) else none:=by
 cases t; simp only [mT,Tm.k,Tm.n,Tm.s,Tm.as]; rfl
theorem ib {t u:Tm} {l l':List Bnd} (h:mT t u l=some l') :
 (t.k=1/\(∃ v,bnd l t.s=some v)/\l'=l)\/(t.k=1/\bnd l t.s=none/\l'=l++[(t.s,u)]) ∨
 (t.k≠1/\t.k=u.k/\t.n=u.n/\t.s=u.s/\t.as.length=u.as.length/\mTs t.as u.as l=some l'):=by
 rw [Kk] at h;by_cases h1:t.k=1
 · rw [H5 h1] at h
   cases hb:bnd l t.s with
   | some v =>
    rw [hb] at h;simp only at h;split at h
    · simp only [C9.injEq] at h; exact .inl ⟨h1,⟨v,rfl⟩,h.symm⟩
    · simp at h
   | none =>
    rw [hb] at h;simp only [C9.injEq] at h;exact .inr (.inl ⟨h1,rfl,h.symm⟩)
 · rw [H6 h1] at h
   split at h
   · split at h
     · split at h
       · split at h
         · exact .inr (.inr ⟨h1,by assumption,by assumption,by assumption,by assumption,h⟩)
         · simp at h
       · simp at h
     · simp at h
   · simp at h
theorem oa (P:Tm->Prop) (hP:∀ t a,P t->a∈t.as->P a):∀ t u l l',P u->(∀ b∈l,P b.2)->mT t u l=some l'->∀ b∈l',P b.2:=Tm.ind fun t ih u l l' hu hl h=>by
 rcases ib h with ⟨_,_,e⟩|⟨_,_,e⟩|⟨_,_,_,_,_,h⟩
 · subst e; exact hl
 · subst e
   intro b hb;rcases D0.1 hb with hb | hb
   · exact hl b hb
   · simp only [E8] at hb; subst hb; exact hu
 · have key:∀ (ts us:List Tm) (l l':List Bnd),(∀ a∈ts,a∈t.as)->(∀ a∈us,P a)->(∀ b∈l,P b.2)->mTs ts us l=some l'->∀ b∈l',P b.2:=by
    intro ts;induction ts with
    | nil=>intro us l l' _ _ hl h; simp only [mTs,C9.injEq] at h; subst h; exact hl
    | cons a ts ihs =>
     intro us l l' hts hus hl h;cases us with
     | nil=>simp [mTs] at h
     | cons b us =>
      simp only [mTs] at h;split at h
      · rename_i l1 h1
        exact ihs us l1 l' (fun x hx=>hts x (C5 _ hx)) (fun x hx=>hus x (C5 _ hx)) (ih a (hts a (C4 ..)) b l l1 (hus b (C4 ..)) hl h1) h
      · simp at h
   exact key _ _ _ _ (fun _ h=>h) (fun a ha=>hP u a hu ha) hl h
theorem za:∀ t u l l',mT t u l=some l'->l'.length<=l.length+t.nodes:=Tm.ind fun t ih u l l' h=>by
 have hn:=Tm.nodes_eq t;rcases ib h with ⟨_,_,e⟩|⟨_,_,e⟩|⟨_,_,_,_,_,h⟩
 · subst e; omega
 · subst e; simp; omega
 · have key:∀ (ts us:List Tm) (l l':List Bnd),(∀ a∈ts,a∈t.as)->mTs ts us l=some l'->l'.length<=l.length+(ts.map Tm.nodes).sum:=by
    intro ts;induction ts with
    | nil=>intro us l l' _ h; simp only [mTs,C9.injEq] at h; subst h; simp
    | cons a ts ihs =>
     intro us l l' hts h;cases us with
     | nil=>simp [mTs] at h
     | cons b us =>
      simp only [mTs] at h;split at h
      · rename_i l1 h1
        have q1:=ih a (hts a (C4 ..)) b l l1 h1;have q2:=ihs us l1 l' (fun x hx=>hts x (C5 _ hx)) h
        simp only [C2,J7]; omega
      · simp at h
   have:=key _ _ _ _ (fun _ h=>h) h
   omega
theorem Ps:∀ t u l l',mT t u l=some l'->∀ s,bnd l' s≠none->bnd l s≠none\/s∈t.names:=Tm.ind fun t ih u l l' h s hs=>by
 rw [Tm.names_eq];rcases ib h with ⟨_,_,e⟩|⟨hk,_,e⟩|⟨_,_,_,_,_,h⟩
 · subst e; exact .inl hs
 · subst e
   rw [Ds] at hs;cases hb:bnd l s with
   | some v=>exact .inl (by simp)
   | none =>
    rw [hb] at hs;simp only [bnd] at hs;by_cases e:t.s=s
    · right; rw [H5 hk,e]; simp
    · rw [H6 e] at hs; exact absurd rfl hs
 · have key:∀ (ts us:List Tm) (l l':List Bnd),(∀ a∈ts,a∈t.as)->mTs ts us l=some l'->bnd l' s≠none->bnd l s≠none\/s∈ts.flatMap Tm.names:=by
    intro ts;induction ts with
    | nil=>intro us l l' _ h hs; simp only [mTs,C9.injEq] at h; subst h; exact .inl hs
    | cons a ts ihs =>
     intro us l l' hts h hs;cases us with
     | nil=>simp [mTs] at h
     | cons b us =>
      simp only [mTs] at h;split at h
      · rename_i l1 h1
        simp only [O3,D0];rcases ihs us l1 l' (fun x hx=>hts x (C5 _ hx)) h hs with q | q
        · rcases ih a (hts a (C4 ..)) b l l1 h1 s q with q | q
          · exact .inl q
          · exact .inr (.inl q)
        · exact .inr (.inr q)
      · simp at h
   rcases key _ _ _ _ (fun _ h=>h) h hs with q | q
   · exact .inl q
   · exact .inr (D0.2 (.inr q))
def rsB (l:List Bnd) (ns:List ByteArray):List Bnd:=ns.filterMap fun s=>(bnd l s).map fun v=>(s,v)
open Classical in
theorem Kl (l:List Bnd) (s:ByteArray):∀ ns:List ByteArray,bnd (rsB l ns) s=if s∈ns then bnd l s else none
 | []=>by simp [rsB,bnd]
 | x::ns=>by
  have ih:=Kl l s ns;unfold rsB at ih ⊢;rw [R3];cases hx:bnd l x with
  | none =>
   simp only [Option.map_none];rw [ih];by_cases h:s∈ns
   · rw [H5 h,H5 (C5 _ h)]
   · rw [H6 h]
     by_cases e:s=x
     · subst e; rw [H5 (C4 ..),hx]
     · rw [H6 (by simp [e,h])]
  | some v =>
   simp only [K7,bnd];by_cases e:x=s
   · subst e; rw [H5 rfl,H5 (C4 ..),hx]
   · rw [H6 e,ih]
     by_cases h:s∈ns
     · rw [H5 h,H5 (C5 _ h)]
     · rw [H6 h,H6 (by simp [h,Ne.symm e])]
theorem Mp {t u:Tm} {l:List Bnd} (h:mT t u []=some l) (s:ByteArray):bnd (rsB l (cm (cm t.names))) s=bnd l s:=by
 rw [Kl];by_cases hs:s∈cm (cm t.names)
 · rw [H5 hs]
 · rw [H6 hs]
   cases hb:bnd l s with
   | none=>rfl
   | some v =>
    rcases Ps t u [] l h s (by rw [hb]; simp) with q | q
    · exact absurd rfl q
    · exact absurd ((sx _ _).2 ((sx _ _).2 q)) hs
noncomputable def fv (r:RuM) (u:Tm):Option Tm:=match mT r.l u [] with
 | none=>none
 | some l=>if (r.g.all fun g=>holds (ex l g))=true then some (rW (aS l r.r)) else none
def fe (vs:List VS) (s:ByteArray):Option VS:=vs.find? fun v=>decide (v.1=s)
theorem Gx (vs:List VS) (s:ByteArray):pq vs s=match fe vs s with | some v=>v.2 | none=>e0:=rfl
theorem ut (vs:List VS) (x:VS) (s:ByteArray):fe (vs++[x]) s=match fe vs s with
 | some v=>some v
 | none=>if x.1=s then some x else none:=by
 unfold fe;rw [List.find?_append];cases h:vs.find? fun v=>decide (v.1=s) with
 | some v=>rfl
 | none=>by_cases e:x.1=s <;> simp [e]
def oc (ops:List OpM) (vs:List VS) (l:List Bnd):Prop:=∀ s,match fe vs s,bnd l s with
 | none,none=>True
 | some v,some w=>av ops [] w=v.2
 | _,_=>False
theorem oc.none {ops:List OpM} {vs:List VS} {l:List Bnd} (h:oc ops vs l) {s:ByteArray} (hv:fe vs s=Option.none):bnd l s=Option.none:=by
 have:=h s;rw [hv] at this;cases hb:bnd l s with
 | none=>rfl
 | some w=>rw [hb] at this; exact this.elim
theorem oc.some {ops:List OpM} {vs:List VS} {l:List Bnd} (h:oc ops vs l) {s:ByteArray} {v:VS} (hv:fe vs s=some v):∃ w,bnd l s=some w/\av ops [] w=v.2:=by
 have:=h s;rw [hv] at this;cases hb:bnd l s with
 | none=>rw [hb] at this; exact this.elim
 | some w=>rw [hb] at this; exact ⟨w,rfl,this⟩
theorem iv {ops:List OpM} {vs:List VS} {t:Tm} (hk:t.k=2) (hs:av ops vs t≠e0):∃ o,dm ops t.s=some o/\o.a.length=t.as.length/\bj ops vs t.as o.a=true/\av ops vs t=o.r:=by
 rw [cn,H6 (by omega),H6 (by omega),H5 hk] at hs
 rw [cn,H6 (by omega),H6 (by omega),H5 hk]
 cases hf:dm ops t.s with
 | none=>rw [hf] at hs; exact absurd rfl hs
 | some o =>
  rw [hf] at hs;simp only at hs ⊢;by_cases hl:o.a.length=t.as.length
  · rw [H5 hl] at hs ⊢
    by_cases hq:bj ops vs t.as o.a=true
    · exact ⟨o,rfl,hl,hq,by rw [H5 hq]⟩
    · rw [H6 hq] at hs; exact absurd rfl hs
  · rw [H6 hl] at hs; exact absurd rfl hs
theorem kj {ops:List OpM} {vs:List VS} {t:Tm} (hk:t.k=2) {o:OpM} (hf:dm ops t.s=some o) (hl:o.a.length=t.as.length) (hq:bj ops vs t.as o.a=true):av ops vs t=o.r:=by
 rw [cn,H6 (by omega),H6 (by omega),H5 hk,hf]
 simp only [H5 hl,H5 hq]
theorem dj {t:Tm} (h:t.areN=true):(t.k=1/\t.as=[])\/(t.k=3/\isW t=true/\t.as=[])\/t.k=2:=by
 rw [Tm.areN_eq,B7] at h;have h:=h.1;unfold Tm.nodeN at h;by_cases h1:t.k=1
 · rw [H5 h1] at h
   simp only [B7,decide_eq_true_eq] at h;exact .inl ⟨h1,F8.1 h.2.1⟩
 · rw [H6 h1] at h
   by_cases h3:t.k=3
   · rw [H5 h3] at h
     have h':=h;simp only [isW,B7,decide_eq_true_eq] at h';exact .inr (.inl ⟨h3,h,F8.1 h'.2.2.2.2⟩)
   · rw [H6 h3] at h
     by_cases h2:t.k=2
     · exact .inr (.inr h2)
     · rw [H6 h2] at h; simp at h
theorem dr {t a:Tm} (h:t.areN=true) (ha:a∈t.as):a.areN=true:=by
 rw [Tm.areN_eq,B7,Tm.areNL_all,E4] at h;exact h.2 a ha
theorem Gy (ops:List OpM):∀ t,t.areN=true->∀ u x vs vs' l l',av ops [] u=x->x≠e0->oc ops vs l->gq ops t x vs=some vs'->mT t u l=some l'->oc ops vs' l':=Tm.ind fun t ih hn u x vs vs' l l' hu hx hA hi hm=>by
 rw [kv] at hi;by_cases h1:t.k=1
 · rw [H5 h1] at hi
   cases hv:fe vs t.s with
   | some v =>
    unfold fe at hv;rw [hv] at hi;simp only at hi;obtain ⟨w,hb,_⟩:=hA.some hv;split at hi
    · simp only [C9.injEq] at hi
      subst hi;rcases ib hm with ⟨_,_,e⟩|⟨_,q,_⟩|⟨q,_⟩
      · subst e; exact hA
      · rw [hb] at q; simp at q
      · exact absurd h1 q
    · simp at hi
   | none =>
    have hb:=hA.none hv;have hv':=hv;unfold fe at hv;rw [hv] at hi;simp only [C9.injEq] at hi;subst hi;rcases ib hm with ⟨_,⟨v,q⟩,_⟩|⟨_,_,e⟩|⟨q,_⟩
    · rw [hb] at q; simp at q
    · subst e
      intro s;have hs:=hA s;rw [ut,Ds];cases q1:fe vs s with
      | some v =>
       rw [q1] at hs;cases q2:bnd l s with
       | some w=>rw [q2] at hs; exact hs
       | none=>rw [q2] at hs; exact hs.elim
      | none =>
       rw [q1] at hs;cases q2:bnd l s with
       | some w=>rw [q2] at hs; exact hs.elim
       | none =>
        simp only [bnd];by_cases e:t.s=s
        · rw [H5 e,H5 e]; exact hu
        · rw [H6 e,H6 e]; trivial
    · exact absurd h1 q
 · rw [H6 h1] at hi
   rcases ib hm with ⟨q,_⟩|⟨q,_⟩|⟨_,e1,e2,e3,e4,hms⟩
   · exact absurd q h1
   · exact absurd q h1
   · rcases dj hn with ⟨q,_⟩|⟨_,_,q⟩ | h2
     · exact absurd q h1
     · rw [q] at hi hms
       simp only [ey,mTs,C9.injEq] at hi hms;subst hi; subst hms; exact hA
     · obtain ⟨o,hf,hl,hss,_⟩:=iv (t:=u) (by omega) (by rw [hu]; exact hx)
       rw [H5 h2,e3,hf] at hi;simp only at hi;have key:∀ (ts us:List Tm) (xs:List ByteArray) (vs vs':List VS) (l l':List Bnd),(∀ a∈ts,a∈t.as)->us.length=xs.length->bj ops [] us xs=true->oc ops vs l->ey ops ts xs vs=some vs'->mTs ts us l=some l'->oc ops vs' l':=by
        intro ts;induction ts with
        | nil =>
         intro us xs vs vs' l l' _ _ _ hA hi hm;simp only [ey,mTs,C9.injEq] at hi hm;subst hi; subst hm; exact hA
        | cons a ts ihs =>
         intro us xs vs vs' l l' hts hlen hss hA hi hm;cases us with
         | nil=>simp [mTs] at hm
         | cons b us =>
          cases xs with
          | nil=>simp at hlen
          | cons y xs =>
           simp only [ey] at hi;simp only [mTs] at hm;simp only [bj,B7,F1,decide_eq_false_iff_not,decide_eq_true_eq] at hss;split at hi
           · rename_i vs1 hi1
             split at hm
             · rename_i l1 hm1
               have:=ih a (hts a (C4 ..)) (dr hn (hts a (C4 ..))) b y vs vs1 l l1 hss.1.2 (hss.1.2▸hss.1.1) hA hi1 hm1;exact ihs us xs vs1 vs' l1 l' (fun z hz=>hts z (C5 _ hz)) (by simpa using hlen) hss.2 this hi hm
             · simp at hm
           · simp at hi
       exact key _ _ _ _ _ _ _ (fun _ h=>h) hl.symm hss hA hi hms
theorem Km {ops:List OpM} {vs:List VS} {l:List Bnd} (hA:oc ops vs l):∀ t,t.areN=true->av ops vs t≠e0->av ops [] (aS l t)=av ops vs t:=Tm.ind fun t ih hn hs=>by
 rcases dj hn with ⟨h1,ha⟩|⟨h3,_,ha⟩ | h2
 · have e:av ops vs t=pq vs t.s:=by rw [cn,H6 (by omega),H5 h1]
   rw [e] at hs ⊢;rw [Gx] at hs ⊢;cases hv:fe vs t.s with
   | none=>rw [hv] at hs; exact absurd rfl hs
   | some v =>
    obtain ⟨w,hb,hw⟩:=hA.some hv;rw [ej,H5 h1,hb];exact hw
 · rw [ej,H6 (by omega)]
   rw [cn,cn ops vs,H5 (show (Tm.mk t.k t.n t.s _).k=3 from h3),H5 h3]
 · obtain ⟨o,hf,hl,hss,e⟩:=iv h2 hs
   rw [ej,H6 (by omega),e]
   have key:∀ (ts:List Tm) (xs:List ByteArray),(∀ a∈ts,a∈t.as)->bj ops vs ts xs=true->bj ops [] (ts.map (aS l)) xs=true:=by
    intro ts;induction ts with
    | nil=>intro xs _ _; rfl
    | cons a ts ihs =>
     intro xs hts h;cases xs with
     | nil=>rfl
     | cons y xs =>
      simp only [bj,B7,F1,decide_eq_false_iff_not,decide_eq_true_eq] at h;have q:=ih a (hts a (C4 ..)) (dr hn (hts a (C4 ..))) h.1.1;simp only [C2,bj,B7,F1,decide_eq_false_iff_not,decide_eq_true_eq,q];exact ⟨h.1,ihs xs (fun z hz=>hts z (C5 _ hz)) h.2⟩
   exact kj (t:=.mk t.k t.n t.s (t.as.map (aS l))) h2 hf (by simpa [Tm.as] using hl) (key _ _ (fun _ h=>h) hss)
theorem Du (ops:List OpM) (vs:List VS):∀ t,t.areN=true->av ops vs t≠e0->av ops vs (rW t)=av ops vs t:=Tm.ind fun t ih hn hs=>by
 have plain:av ops vs (.mk t.k t.n t.s (t.as.map rW))=av ops vs t:=by
  rcases dj hn with ⟨h1,ha⟩|⟨h3,_,ha⟩ | h2
  · rw [cn,cn ops vs t,H6 (show ¬(Tm.mk t.k t.n t.s _).k=3 by show ¬ t.k=3; omega),H5 (show (Tm.mk t.k t.n t.s _).k=1 from h1),H6 (by omega),H5 h1]; rfl
  · rw [cn,cn ops vs t,H5 (show (Tm.mk t.k t.n t.s _).k=3 from h3),H5 h3]
  · obtain ⟨o,hf,hl,hss,e⟩:=iv h2 hs
    rw [e];have key:∀ (ts:List Tm) (xs:List ByteArray),(∀ a∈ts,a∈t.as)->bj ops vs ts xs=true->bj ops vs (ts.map rW) xs=true:=by
     intro ts;induction ts with
     | nil=>intro xs _ _; rfl
     | cons a ts ihs =>
      intro xs hts h;cases xs with
      | nil=>rfl
      | cons y xs =>
       simp only [bj,B7,F1,decide_eq_false_iff_not,decide_eq_true_eq] at h;have q:=ih a (hts a (C4 ..)) (dr hn (hts a (C4 ..))) h.1.1;simp only [C2,bj,B7,F1,decide_eq_false_iff_not,decide_eq_true_eq,q];exact ⟨h.1,ihs xs (fun z hz=>hts z (C5 _ hz)) h.2⟩
    exact kj (t:=.mk t.k t.n t.s (t.as.map rW)) h2 hf (by simpa [Tm.as] using hl) (key _ _ (fun _ h=>h) hss)
 rw [ja];unfold rW1;split
 · rename_i x y hxy
   split
   · rename_i hc
     obtain ⟨hk,_,hB,_,_⟩:=hc;obtain ⟨o,hf,_,_,e⟩:=iv hk hs;rw [e];unfold dm at hf;rw [H5 hB] at hf;simp only [C9.injEq] at hf;subst hf;rw [cn]; rfl
   · exact plain
 · exact plain
end Go.Q
end
section
/- aj terms stay good along a step. -/
namespace Go.Q
open Go
theorem Uo {s:ByteArray} {x y:Tm} (hx:isW x=true) (hy:isW y=true):0<=cmp s x.n y.n/\cmp s x.n y.n<4:=by
 simp only [isW,B7,decide_eq_true_eq] at hx hy;obtain ⟨_,a1,a2,_⟩:=hx;obtain ⟨_,b1,b2,_⟩:=hy;unfold cmp;split
 · exact ⟨P8 4 (by omega),O4 _ (by decide)⟩
 · split
   · exact ⟨P8 4 (by omega),O4 _ (by decide)⟩
   · exact ⟨P8 4 (Int.mul_nonneg a1 b1),O4 _ (by decide)⟩
theorem Tm.n_mk (k n:Int) (s:ByteArray) (as:List Tm):(Tm.mk k n s as).n=n:=rfl
theorem xb {t:Tm} (h:t.areN=true) {as:List Tm} (hl:as.length=t.as.length) (ha:∀ a∈as,a.areN=true):(Tm.mk t.k t.n t.s as).areN=true:=by
 rw [Tm.areN_eq,B7] at h ⊢;refine ⟨?_,by rw [Tm.areNL_all,E4]; exact ha⟩
 have h:=h.1;unfold Tm.nodeN isW at h ⊢;simp only [Tm.k_mk,Tm.n_mk,Tm.s_mk,Tm.as_mk,hl];exact h
theorem Dv {l:List Bnd} (hl:∀ b∈l,b.2.areN=true):∀ t,t.areN=true->(aS l t).areN=true:=Tm.ind fun t ih h=>by
 rw [ej];split
 · rename_i u hu
   split at hu
   · obtain ⟨b,h1,rfl⟩:=et hu; exact hl b h1
   · simp at hu
 · exact xb h (by simp) fun a ha=>by
    obtain ⟨x,hx,rfl⟩:=G5.1 ha;exact ih x hx (dr h hx)
theorem Kn:∀ t,t.areN=true->(rW t).areN=true:=Tm.ind fun t ih h=>by
 have plain:(Tm.mk t.k t.n t.s (t.as.map rW)).areN=true:=xb h (by simp) fun a ha=>by
  obtain ⟨x,hx,rfl⟩:=G5.1 ha;exact ih x hx (dr h hx)
 rw [ja];unfold rW1;split
 · rename_i x y hxy
   split
   · rename_i hc
     obtain ⟨c1,c2⟩:=Uo (s:=t.s) hc.2.2.2.1 hc.2.2.2.2;rw [Tm.areN_eq];unfold Tm.nodeN isW;simp only [Tm.k_mk,Tm.n_mk,Tm.s_mk,Tm.as_mk];simp [Tm.areNL,c1,c2]
   · exact plain
 · exact plain
theorem Ko {t:Tm} (h:Wt t) {as:List Tm} (hl:as.length=t.as.length) (ha:∀ a∈as,Wt a):Wt (.mk t.k t.n t.s as):=.mk h.k h.n h.s (by rw [Tm.as_mk,hl]; exact h.l) ha
theorem Kp {l:List Bnd} (hl:∀ b∈l,Wt b.2):∀ t,Wt t->Wt (aS l t):=Tm.ind fun t ih h=>by
 rw [ej];split
 · rename_i u hu
   split at hu
   · obtain ⟨b,h1,rfl⟩:=et hu; exact hl b h1
   · simp at hu
 · exact Ko h (by simp) fun a ha=>by
    obtain ⟨x,hx,rfl⟩:=G5.1 ha;exact ih x hx (h.sub hx)
theorem Kq:∀ t,Wt t->Wt (rW t):=Tm.ind fun t ih h=>by
 have plain:Wt (Tm.mk t.k t.n t.s (t.as.map rW)):=Ko h (by simp) fun a ha=>by
  obtain ⟨x,hx,rfl⟩:=G5.1 ha;exact ih x hx (h.sub hx)
 rw [ja];unfold rW1;split
 · rename_i x y hxy
   split
   · rename_i hc
     exact .mk (show S.i64ok 3 from S.i64ok_of (by decide) (by decide)) (S.cmp_ok hc.2.2.2.1 hc.2.2.2.2) (show (⟨#[]⟩:ByteArray).size<=maxLen by decide) (K0 _) (by intro a ha; rw [Tm.as_mk] at ha; simp at ha)
   · exact plain
 · exact plain
theorem Sc {xs:List Tm} {f g:Tm->Nat} {m:Nat} (h:∀ x∈xs,f x<=m*g x):(xs.map f).sum<=m*(xs.map g).sum:=by
 induction xs with
 | nil=>simp
 | cons x xs ih =>
  have h1:=h x (C4 ..);have h2:=ih fun y hy=>h y (C5 _ hy)
  simp only [C2,J7,Nat.mul_add]; omega
theorem ij {l:List Bnd} {m:Nat} (hm:1<=m) (hl:∀ b∈l,b.2.nodes<=m):∀ t,(aS l t).nodes<=m*t.nodes:=Tm.ind fun t ih=>by
 rw [ej];have h1:=Tm.nodes_eq t;split
 · rename_i u hu
   split at hu
   · obtain ⟨b,hb,rfl⟩:=et hu
     have:=hl b hb;rw [h1,Nat.mul_add]; omega
   · simp at hu
 · rw [Tm.nodes_eq]
   simp only [Tm.as_mk,K6];have:=Sc (xs:=t.as) (f:=Tm.nodes ∘ aS l) (g:=Tm.nodes) ih;rw [h1,Nat.mul_add]; omega
structure Gt (ops:List OpM) (t:Tm):Prop where
 w:Wt t
 n:t.areN=true
 s:av ops [] t≠e0
theorem Gt.arr {ops:List OpM} {t:Tm} (h:Gt ops t) (hk:t.k=2):∃ o,dm ops t.s=some o/\o.a.length=t.as.length/\bj ops [] t.as o.a=true/\av ops [] t=o.r:=iv hk h.s
theorem Gt.sub {ops:List OpM} {t a:Tm} (h:Gt ops t) (ha:a∈t.as):Gt ops a:=by
 refine ⟨h.w.sub ha,dr h.n ha,?_⟩;rcases dj h.n with ⟨_,q⟩|⟨_,_,q⟩ | h2
 · rw [q] at ha; simp at ha
 · rw [q] at ha; simp at ha
 · obtain ⟨o,_,hl,hs,_⟩:=h.arr h2
   exact lj ops [] t.as o.a (by omega) hs a ha
structure RuG (ops:List OpM) (r:RuM):Prop where
 b:RuB r
 lv:r.l.valid=true
 lk:r.l.k=2
 rv:r.r.valid=true
 gl:∀ g∈r.g,g.l.valid=true/\g.r.valid=true
 inf:∃ o vs,dm ops r.l.s=some o/\nz ops r.l o.r=some vs/\av ops vs r.r=o.r
theorem Up {ops:List OpM} {r:RuM} (hb:RuB r) (h:jf ops r=true):RuG ops r:=by
 unfold jf at h;simp only [B7,decide_eq_true_eq] at h;obtain ⟨_,h1,h2,_,h3,h4⟩:=h;cases hf:dm ops r.l.s with
 | none=>rw [hf] at h4; simp at h4
 | some o =>
  rw [hf] at h4;simp only at h4;cases hi:nz ops r.l o.r with
  | none=>rw [hi] at h4; simp at h4
  | some vs =>
   rw [hi] at h4;simp only [B7,decide_eq_true_eq,yy,E4] at h4;refine ⟨hb,h1,h2,h3,fun g hg=>?_,o,vs,hf,hi,h4.1⟩
   have:=h4.2.2.1 g hg;simp only [uq,B7] at this;exact ⟨this.2.1,this.2.2.1⟩
theorem aw {t:Tm} (h:t.valid=true):t.nodes<=60:=by
 simp only [Tm.valid,B7,decide_eq_true_eq] at h; exact h.1
theorem Mq (ops:List OpM):oc ops [] []:=fun s=>by simp [fe,bnd]
theorem Mr {ops:List OpM} {r:RuM} (hr:RuG ops r) {u w:Tm} (hu:Gt ops u) (hn:u.nodes<=60) (h:fv r u=some w):Gt ops w/\av ops [] w=av ops [] u/\w.nodes<=3600:=by
 unfold fv at h;cases hm:mT r.l u [] with
 | none=>rw [hm] at h; simp at h
 | some l =>
  rw [hm] at h;simp only at h;split at h
  · simp only [C9.injEq] at h
    subst h;obtain ⟨o,vs,hf,hi,hs⟩:=hr.inf;have hk:u.k=2/\u.s=r.l.s:=by
     rcases ib hm with ⟨q,_⟩|⟨q,_⟩|⟨_,q1,_,q2,_⟩
     · have:=hr.lk; omega
     · have:=hr.lk; omega
     · exact ⟨by rw [<- q1]; exact hr.lk,q2.symm⟩
    obtain ⟨o',hf',_,_,he⟩:=hu.arr hk.1;rw [hk.2,hf] at hf';simp only [C9.injEq] at hf';subst hf';have hne:o.r≠e0:=he▸hu.s;have hA:=Gy ops r.l (dn hr.lv) u o.r [] vs [] l he hne (Mq ops) (ta hi) hm;have hw:∀ b∈l,Wt b.2/\(b.2.areN=true/\b.2.nodes<=60):=oa (fun t=>Wt t/\(t.areN=true/\t.nodes<=60)) (fun t a h ha=>⟨h.1.sub ha,dr h.2.1 ha,by
     have:=dh (f:=Tm.nodes) ha;have:=Tm.nodes_eq t;have:=h.2.2;omega⟩) r.l u [] l ⟨hu.w,hu.n,hn⟩ (by simp) hm
    have hn1:=Dv (fun b hb=>(hw b hb).2.1) r.r (dn hr.rv)
    have hs1:av ops [] (aS l r.r)=av ops vs r.r:=Km hA r.r (dn hr.rv) (hs▸hne);have hs2:av ops [] (rW (aS l r.r))=o.r:=by rw [Du ops [] _ hn1 (by rw [hs1,hs]; exact hne),hs1,hs]
    have hm1:=ij (m:=60) (by decide) (fun b hb=>(hw b hb).2.2) r.r
    have hm2:=ia (aS l r.r);have hm3:=aw hr.rv;refine ⟨⟨Kq _ (Kp (fun b hb=>(hw b hb).1) r.r hr.b.wr),Kn _ hn1,hs2▸hne⟩,by rw [hs2,he],by omega⟩
  · simp at h
def atT:Tm->List Int->Option Tm
 | t,[]=>some t
 | t,i::p=>if h:i.toNat<t.as.length then (if 0<=i then atT t.as[i.toNat] p else none) else none
def dt:Tm->List Int->Tm->Tm
 | _,[],w=>w
 | t,i::p,w=>if h:i.toNat<t.as.length then .mk t.k t.n t.s (t.as.set i.toNat (dt t.as[i.toNat] p w)) else t
theorem co {t u:Tm} {i:Int} {p:List Int} (h:atT t (i::p)=some u):∃ hi:i.toNat<t.as.length,0<=i/\atT t.as[i.toNat] p=some u:=by
 simp only [atT] at h;split at h
 · rename_i hi
   split at h
   · exact ⟨hi,by assumption,h⟩
   · simp at h
 · simp at h
theorem ql {ops:List OpM} {vs:List VS}:∀ (l:List Tm) (xs:List ByteArray) (i:Nat) (hi:i<l.length) (x:Tm),av ops vs x=av ops vs l[i]->bj ops vs (l.set i x) xs=bj ops vs l xs
 | [],_,i,hi,_,_=>by simp at hi
 | a::l,xs,0,hi,x,h=>by
  cases xs with
  | nil=>rfl
  | cons y xs =>
   simp only [List.getElem_cons_zero] at h;simp only [List.set_cons_zero,bj,h]
 | a::l,xs,i+1,hi,x,h=>by
  cases xs with
  | nil=>rfl
  | cons y xs =>
   simp only [List.getElem_cons_succ] at h;simp only [S6,bj];rw [ql l xs i (by simpa using hi) x h]
theorem Gz {ops:List OpM}:∀ (p:List Int) (t u w:Tm),Gt ops t->atT t p=some u->Gt ops w->av ops [] w=av ops [] u->Gt ops (dt t p w)/\av ops [] (dt t p w)=av ops [] t
 | [],t,u,w,ht,h,hw,hs=>by
  simp only [atT,C9.injEq] at h;subst h;exact ⟨hw,hs⟩
 | i::p,t,u,w,ht,h,hw,hs=>by
  obtain ⟨hi,h0,h1⟩:=co h;have hm:=C3 hi;obtain ⟨g1,g2⟩:=Gz p t.as[i.toNat] u w (ht.sub hm) h1 hw hs;simp only [dt,dif_pos hi];have h2:t.k=2:=by
   rcases dj ht.n with ⟨_,q⟩|⟨_,_,q⟩ | h2
   · rw [q] at hi; simp at hi
   · rw [q] at hi; simp at hi
   · exact h2
  obtain ⟨o,hf,hl,hss,e⟩:=ht.arr h2;have es:av ops [] (.mk t.k t.n t.s (t.as.set i.toNat (dt t.as[i.toNat] p w)))=o.r:=by
   refine kj (t:=.mk t.k t.n t.s _) h2 hf (by rw [Tm.as_mk,P7]; exact hl) ?_
   rw [Tm.as_mk,ql t.as o.a i.toNat hi _ g2]; exact hss
  refine ⟨⟨Ko ht.w (by simp) fun a ha=>?_,xb ht.n (by simp) fun a ha=>?_,by rw [es,<- e]; exact ht.s⟩,by rw [es,e]⟩
  · rcases K5 ha with q | q
    · exact ht.w.sub q
    · exact q▸g1.w
  · rcases K5 ha with q | q
    · exact dr ht.n q
    · exact q▸g1.n
theorem ik:∀ (p:List Int) (t u:Tm),atT t p=some u->u.nodes+p.length<=t.nodes
 | [],t,u,h=>by simp only [atT,C9.injEq] at h; subst h; simp
 | i::p,t,u,h=>by
  obtain ⟨hi,h0,h1⟩:=co h;have h2:=ik p _ u h1;have:=dh (f:=Tm.nodes) (C3 hi);have:=Tm.nodes_eq t;simp only [C1]; omega
theorem Kr:∀ (l:List Tm) (i:Nat) (hi:i<l.length) (x:Tm),((l.set i x).map Tm.nodes).sum<=(l.map Tm.nodes).sum+x.nodes
 | [],i,hi,_=>by simp at hi
 | a::l,0,hi,x=>by simp only [List.set_cons_zero,C2,J7]; omega
 | a::l,i+1,hi,x=>by
  have:=Kr l i (by simpa using hi) x
  simp only [S6,C2,J7]; omega
theorem lp (w:Tm):∀ (p:List Int) (t:Tm),(dt t p w).nodes<=t.nodes*(p.length+1)+w.nodes
 | [],t=>by simp [dt]
 | i::p,t=>by
  simp only [dt];split
  · rename_i hi
    have h1:=lp w p t.as[i.toNat];have h2:=Kr t.as i.toNat hi (dt t.as[i.toNat] p w);have h3:=dh (f:=Tm.nodes) (C3 hi);have h4:=Tm.nodes_eq t;rw [Tm.nodes_eq,Tm.as_mk];have h5:t.as[i.toNat].nodes*(p.length+1)<=t.nodes*(p.length+1):=Nat.mul_le_mul_right _ (by omega)
    have h6:t.nodes*((i::p).length+1)=t.nodes*(p.length+1)+t.nodes:=by rw [C1,Nat.mul_add _ _ 1,Nat.mul_one]
    omega
  · have:t.nodes<=t.nodes*((i::p).length+1):=Nat.le_mul_of_pos_right _ (by simp)
    omega
theorem Dw {P:Tm->Prop} (hP:∀ t a,P t->a∈t.as->P a):∀ (p:List Int) (t u:Tm),P t->atT t p=some u->P u
 | [],t,u,ht,h=>by simp only [atT,C9.injEq] at h; subst h; exact ht
 | i::p,t,u,ht,h=>by
  obtain ⟨hi,h0,h1⟩:=co h;exact Dw hP p _ u (hP t _ ht (C3 hi)) h1
def ko (st:List StM) (s:ByteArray):List Int:=(st.filter fun x=>decide (x.o=s)).map (·.a)
def stL (st:List StM) (t:Tm):List Int:=if t.k=2 then ko st t.s else []
noncomputable def od (ru:List RuM) (u:Tm):Option Nat:=ru.findIdx? fun r=>(fv r u).isSome
def mo (l:List Int) (rs:List (Option (Nat×List Int))):Option (Nat×List Int):=l.findSome? fun i=>if 0<=i then (match rs[i.toNat]? with | some (some x)=>some (x.1,i::x.2) | _=>none) else none
mutual
noncomputable def nx (d:DfM):Tm->Option (Nat×List Int)
 | .mk k n s as=>match mo (if k=2 then ko d.st s else []) (nxs d as) with
  | some x=>some x
  | none=>(od d.ru (.mk k n s as)).map fun i=>(i,[])
noncomputable def nxs (d:DfM):List Tm->List (Option (Nat×List Int))
 | []=>[]
 | t::ts=>nx d t::nxs d ts
end
theorem Ks (d:DfM):∀ ts,nxs d ts=ts.map (nx d)
 | []=>by simp only [nxs,D1]
 | t::ts=>by simp only [nxs,C2,Ks d ts]
theorem Pt (d:DfM) (t:Tm):nx d t=match mo (stL d.st t) (t.as.map (nx d)) with
 | some x=>some x
 | none=>(od d.ru t).map fun i=>(i,[]):=by
 cases t
 simp only [nx,Ks,stL,Tm.k,Tm.s,Tm.as]; rfl
theorem Ms {ru:List RuM} {u:Tm} {i:Nat} (h:od ru u=some i):∃ r w,ru[i]?=some r/\fv r u=some w:=by
 unfold od at h;rw [S7] at h;obtain ⟨hi,h1,_⟩:=h;cases hf:fv ru[i] u with
 | none=>rw [hf] at h1; simp at h1
 | some w=>exact ⟨ru[i],w,by simp [hi],hf⟩
theorem xc (d:DfM):∀ t i p,nx d t=some (i,p)->∃ u r w,atT t p=some u/\d.ru[i]?=some r/\fv r u=some w:=Tm.ind fun t ih i p h=>by
 rw [Pt] at h;cases hp:mo (stL d.st t) (t.as.map (nx d)) with
 | some x =>
  rw [hp] at h;simp only [C9.injEq] at h;subst h;unfold mo at hp;obtain ⟨j,hj,h1⟩:=List.exists_of_findSome?_eq_some hp;split at h1
  · rename_i h0
    split at h1
    · rename_i y hy
      simp only [C9.injEq,G7.injEq] at h1;obtain ⟨e1,e2⟩:=h1;subst e1; subst e2;rw [Q8] at hy;cases hg:t.as[j.toNat]? with
      | none=>rw [hg] at hy; simp at hy
      | some a =>
       rw [hg] at hy;simp only [K7,C9.injEq] at hy;obtain ⟨hlt,he⟩:=D7.1 hg;obtain ⟨u,r,w,q1,q2,q3⟩:=ih a (he▸C3 hlt) y.1 y.2 hy;refine ⟨u,r,w,?_,q2,q3⟩;simp only [atT,dif_pos hlt,H5 h0,he];exact q1
    · simp at h1
  · simp at h1
 | none =>
  rw [hp] at h;simp only at h;cases hr:od d.ru t with
  | none=>rw [hr] at h; simp at h
  | some j =>
   rw [hr] at h;simp only [K7,C9.injEq,G7.injEq] at h;obtain ⟨e1,e2⟩:=h;subst e1; subst e2;obtain ⟨r,w,q1,q2⟩:=Ms hr;exact ⟨t,r,w,rfl,q1,q2⟩
noncomputable def bz (d:DfM) (t:Tm) (i:Nat) (p:List Int):Tm:=match atT t p,d.ru[i]? with
 | some u,some r=>(match fv r u with | some w=>dt t p w | none=>t)
 | _,_=>t
structure ww where
 o:Int
 t:Tm
 st:List Tm
 rd:List (Nat×List Int)
noncomputable def eg (d:DfM):Nat->Tm->ww
 | 0,t=>match nx d t with
  | none=>⟨1,t,[],[]⟩
  | some _=>⟨2,t,[],[]⟩
 | n+1,t=>match nx d t with
  | none=>⟨1,t,[],[]⟩
  | some (i,p)=>if (bz d t i p).valid=true then ⟨(eg d n (bz d t i p)).o,(eg d n (bz d t i p)).t,bz d t i p::(eg d n (bz d t i p)).st,(i,p)::(eg d n (bz d t i p)).rd⟩ else ⟨3,t,[],[]⟩
structure DfG (d:DfM):Prop where
 b:DfB d
 v:d.valid=true
theorem DfG.ru {d:DfM} (h:DfG d) {r:RuM} (hr:r∈d.ru):RuG d.op r:=by
 have:=h.v;simp only [DfM.valid,B7,E4] at this;exact Up (h.b.rua r hr) (this.2.2.2.1 r hr)
theorem Bo (ops:List OpM):∀ (l pre:List StM),kh ops pre l=true->∀ x∈l,Mn ops x=true
 | [],_,_,x,hx=>by simp at hx
 | y::l,pre,h,x,hx=>by
  simp only [kh,B7] at h;rcases E0.1 hx with e | hx
  · exact e▸h.1
  · exact Bo ops l _ h.2.2 x hx
theorem DfG.st {d:DfM} (h:DfG d) {x:StM} (hx:x∈d.st):Mn d.op x=true:=by
 have:=h.v;simp only [DfM.valid,B7] at this;exact Bo d.op d.st [] this.2.2.2.2.1 x hx
theorem Pu {d:DfM} (h:DfG d) {t:Tm} (ht:Gt d.op t) {i:Int} (hi:i∈stL d.st t):0<=i/\i.toNat<t.as.length:=by
 unfold stL at hi;split at hi
 · rename_i hk
   obtain ⟨x,hx,rfl⟩:=G5.1 hi;obtain ⟨h1,h2⟩:=S5.1 hx;have h3:=h.st h1;simp only [decide_eq_true_eq] at h2;obtain ⟨o,hf,hl,_⟩:=ht.arr hk;unfold Mn at h3;rw [h2,hf] at h3;simp only [B7,decide_eq_true_eq] at h3;omega
 · simp at hi
theorem lq {d:DfM} (h:DfG d) {t:Tm} (ht:Gt d.op t) (hn:t.nodes<=60) {i:Nat} {p:List Int} (hx:nx d t=some (i,p)) :
 ∃ u r w,atT t p=some u/\d.ru[i]?=some r/\fv r u=some w/\bz d t i p=dt t p w/\Gt d.op u/\u.nodes<=60/\Gt d.op w/\w.nodes<=3600/\Gt d.op (bz d t i p)/\(bz d t i p).nodes<=8000/\p.length<=60/\RuG d.op r:=by
 obtain ⟨u,r,w,h1,h2,h3⟩:=xc d t i p hx;obtain ⟨hi,he⟩:=D7.1 h2;have hr:RuG d.op r:=h.ru (he▸C3 hi);have hu:Gt d.op u:=Dw (P:=Gt d.op) (fun t a h ha=>h.sub ha) p t u ht h1
 have hun:=ik p t u h1;obtain ⟨g1,g2,g3⟩:=Mr hr hu (by omega) h3
 have e:bz d t i p=dt t p w:=by unfold bz; rw [h1,h2]; simp only [h3]
 obtain ⟨p1,_⟩:=Gz p t u w ht h1 g1 g2;have hpn:=lp w p t;have:t.nodes*(p.length+1)<=60*61:=T1 hn (by omega)
 refine ⟨u,r,w,h1,h2,h3,e,hu,by omega,g1,g3,e▸p1,by rw [e]; omega,by omega,hr⟩
end Go.Q
end
section
namespace Go.Q
open Go
theorem Kt {xs:List Tm} {i:Nat} (hi:i<xs.length) (w:Tm):over i [over 0 [.int w.k,.int w.n,.str w.s,.sl (w.as.map Tm.row)] (rowAt (xs.map Tm.row) i)] (xs.map Tm.row)=(xs.set i w).map Tm.row:=by
 rw [ab hi,Tm.row_eq];have e:over 0 [D.int w.k,.int w.n,.str w.s,.sl (w.as.map Tm.row)] [D.int xs[i].k,.int xs[i].n,.str xs[i].s,.sl (xs[i].as.map Tm.row)]=w.row:=by rw [Tm.row_eq]; rfl
 rw [e,cx _ _ _ (by simp; omega),List.map_set,List.set_eq_take_append_cons_drop,H5 (by simpa using hi)]
 simp
theorem Bp (j:Int) (p:List Int):(((j::p).map am).take ((j::p).map am).length).drop (Int.toNat 1)=p.map am:=by
 rw [List.take_length]; rfl
theorem Mt (xs:aa) (r w:List D) (h:r.length=w.length):over xs.length [over 0 w (rowAt (xs++[r]) xs.length)] (xs++[r])=xs++[w]:=by
 have e:rowAt (xs++[r]) xs.length=r:=by simp [rowAt,O1]
 rw [e,cx 0 w r (by omega),cx _ _ _ (by simp)]
 simp [h]
def foI:Option (List Bnd)->aa->List D
 | some l,_=>[.bool true,.sl (l.map Bnd.row)]
 | none,x=>[.bool false,.sl x]
theorem Bq (x:StM) (l:List StM) (s:ByteArray):ko (x::l) s=if x.o=s then x.a::ko l s else ko l s:=by
 unfold ko;rw [O8];by_cases h:x.o=s <;> simp [h]
theorem Ha (l:List StM) (s:ByteArray):(ko l s).length<=l.length:=by
 unfold ko;rw [B6];exact Q7 _ _
end Go.Q
namespace Go.Q
open Go
theorem Pv (l:List Bnd) (x:ByteArray) (ns:List ByteArray):rsB l (x::ns)=match bnd l x with
 | some v=>(x,v)::rsB l ns
 | none=>rsB l ns:=by
 unfold rsB;rw [R3];cases bnd l x <;> rfl
theorem Ku (l:List Bnd) (ns:List ByteArray):(rsB l ns).length<=ns.length:=List.length_filterMap_le ..
def frR:Option Tm->List D
 | some w=>[.int w.k,.int w.n,.str w.s,.bool true,.sl (w.as.map Tm.row)]
 | none=>[.int 0,.int 0,.str e0,.bool false,.sl []]
noncomputable def fiL (r:RuM) (u:Tm):List Bnd:=match mT r.l u [] with
 | some l=>rsB l (cm (cm r.l.names))
 | none=>[]
def Jd:Option Nat->Int
 | some i=>(i:Int)
 | none=>-1
theorem pg {m:Nat} (t a:Tm) (h:t.nodes<=m) (ha:a∈t.as):a.nodes<=m:=by
 have:=dh (f:=Tm.nodes) ha;have:=Tm.nodes_eq t;omega
theorem Br {l:List Bnd} (hl:∀ b∈l,b.2.nodes<=60) {g:Gu} (h1:g.l.nodes<=60) (h2:g.r.nodes<=60):(ex l g).ok:=by
 have a1:=ij (m:=60) (by decide) hl g.l
 have a2:=ij (m:=60) (by decide) hl g.r
 exact ⟨by show (aS l g.l).nodes<=_; omega,by show (aS l g.r).nodes<=_; omega⟩
theorem tc {l:List Bnd} {P:Tm->Prop} (h:∀ b∈l,P b.2) {s:ByteArray} {v:Tm} (hb:bnd l s=some v):P v:=by
 obtain ⟨b,h1,rfl⟩:=et hb; exact h b h1
theorem Kv {l:List Bnd} {P:Tm->Prop} (h:∀ b∈l,P b.2) (ns:List ByteArray):∀ b∈rsB l ns,P b.2:=fun b hb=>by
 unfold rsB at hb;obtain ⟨s,_,hs⟩:=R4.1 hb;cases hv:bnd l s with
 | none=>rw [hv] at hs; simp at hs
 | some v =>
  rw [hv] at hs;simp only [K7,C9.injEq] at hs;subst hs;exact tc h hv
theorem Hb (r:RuM) (u:Tm):fv r u=if ((mT r.l u []).isSome&&r.g.all fun g=>holds (ex (fiL r u) g))=true then some (rW (aS (fiL r u) r.r)) else none:=by
 unfold fv fiL;cases h:mT r.l u [] with
 | none=>rfl
 | some l =>
  have hc:∀ s,bnd (rsB l (cm (cm r.l.names))) s=bnd l s:=Mp h;have e:∀ g,ex (rsB l (cm (cm r.l.names))) g=ex l g:=fun g=>Jc hc g
  simp only [P6,F4,e,tb hc]
end Go.Q
end
section
namespace Go.Q
open Go
def nrR:Option (Nat×List Int)->List Int->List D
 | some x,acc=>[.int (x.1:Int),.bool true,.sl ((acc++x.2).map am)]
 | none,_=>[.int 0,.bool false,.sl []]
def nrS:Option (Nat×List Int)->List D
 | some x=>[.int (x.1:Int),.bool true,.sl (x.2.map am)]
 | none=>[.int 0,.bool false,.sl []]
theorem zb (rs:List (Option (Nat×List Int))):mo [] rs=none:=rfl
theorem Bs {f:Tm->Option (Nat×List Int)} {xs:List Tm} {m:Nat} (hm:m<xs.length) (q:List Int):mo ((m:Int)::q) (xs.map f)=match f xs[m] with
 | some x=>some (x.1,(m:Int)::x.2)
 | none=>mo q (xs.map f):=by
 unfold mo;rw [List.findSome?_cons];have h0:(0:Int)<=(m:Int):=by omega
 simp only [h0,if_true,Int.toNat_natCast,Q8,F2 hm,K7];cases f xs[m] <;> rfl
theorem Se (st:List StM) (t:Tm):(stL st t).length<=st.length:=by
 unfold stL;split
 · exact Ha st t.s
 · simp
noncomputable def cfg (d:DfM) (t:Tm):Bool:=d.valid&&(t.valid&&(isG t&&!decide (av d.op [] t=e0)))
theorem Dx {d:DfM} {t:Tm} (hb:DfB d) (hw:Wt t) (h:cfg d t=true):DfG d/\Gt d.op t/\t.nodes<=60:=by
 simp only [cfg,B7,F1,decide_eq_false_iff_not] at h;exact ⟨⟨hb,h.1⟩,⟨hw,dn h.2.1,h.2.2.2⟩,aw h.2.1⟩
def oe (x:Nat×List Int):List D:=[.int (x.1:Int),.sl (x.2.map am)]
noncomputable def du (d:DfM) (t:Tm) (f:Int):Option ww:=if 0<=f/\f<=200/\cfg d t=true then some (eg d f.toNat t) else none
end Go.Q
namespace Go.Q
open Go
theorem jo {d:DfM} {t:Tm} (h:nx d t=none):∀ n,eg d n t=⟨1,t,[],[]⟩
 | 0=>by simp only [eg,h]
 | n+1=>by simp only [eg,h]
theorem uu {d:DfM} {t:Tm} {x:Nat×List Int} (h:nx d t=some x):eg d 0 t=⟨2,t,[],[]⟩:=by simp only [eg,h]
theorem zd {d:DfM} {t:Tm} {x:Nat×List Int} (h:nx d t=some x) (hv:(bz d t x.1 x.2).valid=false) (n:Nat):eg d (n+1) t=⟨3,t,[],[]⟩:=by
 obtain ⟨i,p⟩:=x;simp only at hv;simp only [eg,h,hv,Bool.false_eq_true,if_false]
theorem Dy {d:DfM} {t:Tm} {x:Nat×List Int} (h:nx d t=some x) (hv:(bz d t x.1 x.2).valid=true) (n:Nat):eg d (n+1) t=⟨(eg d n (bz d t x.1 x.2)).o,(eg d n (bz d t x.1 x.2)).t,bz d t x.1 x.2::(eg d n (bz d t x.1 x.2)).st,x::(eg d n (bz d t x.1 x.2)).rd⟩:=by
 obtain ⟨i,p⟩:=x;simp only at hv;simp only [eg,h,hv,if_true]
theorem ze (xs:aa) (k n k' n':Int) (s s':ByteArray) (a a':aa):over xs.length [over 0 [.int k,.int n,.str s,.sl a] (rowAt (xs++[[.int k',.int n',.str s',.sl a']]) xs.length)] (xs++[[.int k',.int n',.str s',.sl a']])=xs++[[.int k,.int n,.str s,.sl a]]:=Mt xs _ _ rfl
def Pw:Option ww->Tm->List D
 | some r,t=>[.int r.o,.int r.t.k,.int r.t.n,.str r.t.s,.int (r.rd.length:Int),.sl (r.t.as.map Tm.row),.sl ((t::r.st).map Tm.row),.sl (r.rd.map oe)]
 | none,_=>[.int 0,.int 0,.int 0,.str e0,.int 0,.sl [],.sl [],.sl []]
def Uq (r:ww) (t:Tm):List D:=[.int r.o,.int r.t.k,.int r.t.n,.str r.t.s,.int (r.rd.length:Int),.sl (r.t.as.map Tm.row),.sl (r.rd.map oe),.sl ((t::r.st).map Tm.row)]
end Go.Q
end
section
namespace Go.Q
open Go
def rtD:Option ww->List D
 | some r=>[.int r.o,.int r.t.k,.int r.t.n,.str r.t.s,.int (r.rd.length:Int),.sl (r.t.as.map Tm.row)]
 | none=>[.int 0,.int 0,.int 0,.str e0,.int 0,.sl []]
theorem Kw:∀ (p:List Int) (t u:Tm),atT t p=some u->t.nodes<=60->∀ j∈p,0<=j/\j<60
 | [],_,_,_,_,j,hj=>by simp at hj
 | i::p,t,u,h,hn,j,hj=>by
  obtain ⟨hi,h0,h1⟩:=co h;have hls:=cw (xs:=t.as);have hnd:=Tm.nodes_eq t;rcases E0.1 hj with e | hj
  · subst e; omega
  · exact Kw p _ u h1 (pg t _ hn (C3 hi)) j hj
structure Vz (d:DfM) (n:Nat) (r:ww):Prop where
 t:Gt d.op r.t
 tn:r.t.nodes<=60
 o:r.o=1\/r.o=2\/r.o=3
 rl:r.rd.length<=n
 rg:∀ x∈r.rd,x.1<d.ru.length/\x.2.length<=60/\∀ j∈x.2,0<=j/\j<60
 sl:r.st.length<=n
 s:∀ x∈r.st,Gt d.op x/\x.nodes<=60
theorem Mu {d:DfM} (hd:DfG d):∀ n t,Gt d.op t->t.nodes<=60->Vz d n (eg d n t):=by
 intro n;induction n with
 | zero =>
  intro t ht hn;cases hx:nx d t with
  | none=>rw [jo hx]; exact ⟨ht,hn,.inl rfl,F7 _,by simp,F7 _,by simp⟩
  | some x=>rw [uu hx]; exact ⟨ht,hn,.inr (.inl rfl),F7 _,by simp,F7 _,by simp⟩
 | succ n ih =>
  intro t ht hn;cases hx:nx d t with
  | none=>rw [jo hx]; exact ⟨ht,hn,.inl rfl,K0 _,by simp,K0 _,by simp⟩
  | some x =>
   obtain ⟨u,r,w,h1,h2,_,_,_,_,_,_,hg,hgn,hp,_⟩:=lq hd ht hn hx;cases hv:(bz d t x.1 x.2).valid with
   | false=>rw [zd hx hv]; exact ⟨ht,hn,.inr (.inr rfl),K0 _,by simp,K0 _,by simp⟩
   | true =>
    rw [Dy hx hv];have h:=ih _ hg (aw hv);obtain ⟨hi,_⟩:=D7.1 h2;refine ⟨h.t,h.tn,h.o,Nat.succ_le_succ h.rl,fun y hy=>?_,Nat.succ_le_succ h.sl,fun y hy=>?_⟩
    · rcases E0.1 hy with e | hy
      · subst e; exact ⟨hi,hp,Kw _ _ _ h1 hn⟩
      · exact h.rg y hy
    · rcases E0.1 hy with e | hy
      · subst e; exact ⟨hg,aw hv⟩
      · exact h.s y hy
theorem Mv {d:DfM} (hb:DfB d) {t:Tm} (hw:Wt t) {f:Int} {r:ww} (h:du d t f=some r):Vz d 200 r/\t.nodes<=60:=by
 unfold du at h;split at h
 · rename_i hc
   simp only [C9.injEq] at h;subst h;obtain ⟨hd,ht,hn⟩:=Dx hb hw hc.2.2;have g:=Mu hd f.toNat t ht hn;exact ⟨⟨g.t,g.tn,g.o,by have:=g.rl; omega,g.rg,by have:=g.sl; omega,g.s⟩,hn⟩
 · simp at h
theorem Sf (d:DfM) (t:Tm) (f:Int):du d t f=bif (cfg d t&&(decide (0<=f)&&decide (f<=200))) then some (eg d f.toNat t) else none:=by
 unfold du;by_cases h:0<=f/\f<=200/\cfg d t=true
 · rw [H5 h]; simp [h.1,h.2.1,h.2.2]
 · rw [H6 h]
   have:(cfg d t&&(decide (0<=f)&&decide (f<=200)))=false:=by
    rw [Bool.eq_false_iff];intro hc;simp only [B7,decide_eq_true_eq] at hc;exact h ⟨hc.2.1,hc.2.2,hc.1⟩
   rw [this]; rfl
end Go.Q
namespace Go.Q
open Go
def rtO:Option ww->Int
 | some r=>r.o
 | none=>0
def rtT:Option ww->Tm
 | some r=>r.t
 | none=>tm0
def rtN:Option ww->Nat
 | some r=>r.rd.length
 | none=>0
theorem Ur (R:Option ww):rtD R=[.int (rtO R),.int (rtT R).k,.int (rtT R).n,.str (rtT R).s,.int (rtN R:Int),.sl ((rtT R).as.map Tm.row)]:=by cases R <;> rfl
theorem wt0:Wt tm0:=.mk (S.i64ok_of (by decide) (by decide)) (S.i64ok_of (by decide) (by decide)) (by decide) (by decide) (by intro a ha; simp [tm0,Tm.as] at ha)
theorem Sg {d:DfM} (hb:DfB d) {t:Tm} (hw:Wt t) (f:Int):Wt (rtT (du d t f))/\(rtT (du d t f)).nodes<=60/\(0<=rtO (du d t f)/\rtO (du d t f)<=3)/\rtN (du d t f)<=200:=by
 cases h:du d t f with
 | none=>exact ⟨wt0,by decide,by decide,by decide⟩
 | some r =>
  obtain ⟨g,_⟩:=Mv hb hw h;refine ⟨g.t.w,g.tn,?_,g.rl⟩;rcases g.o with e | e | e <;> (show 0<=r.o/\r.o<=3; omega)
end Go.Q
end
section
/- Translations,instances that are configurations,refutations. -/
namespace Go.Q
open Go
theorem uw {f:Tm->Tm}:∀ (l:List Tm),(∀ a∈l,(f a).depth<=a.depth)->Tm.depthL (l.map f)<=Tm.depthL l
 | [],_=>F7 _
 | a::l,h=>by
  have h1:=h a (C4 ..);have h2:=uw l fun b hb=>h b (C5 _ hb)
  simp only [C2,Tm.depthL]; omega
theorem Px {l:List Bnd} (hl:∀ b∈l,b.2.depth=1):∀ t,(aS l t).depth<=t.depth:=Tm.ind fun t ih=>by
 rw [ej];have h1:=Tm.depth_eq t;split
 · rename_i u hu
   split at hu
   · obtain ⟨b,hb,rfl⟩:=et hu
     rw [hl b hb]; omega
   · simp at hu
 · rw [Tm.depth_eq,Tm.as_mk]
   have:=uw t.as ih;omega
theorem Py:∀ t,(rW t).depth<=t.depth:=Tm.ind fun t ih=>by
 have h1:=Tm.depth_eq t;have plain:(Tm.mk t.k t.n t.s (t.as.map rW)).depth<=t.depth:=by
  rw [Tm.depth_eq,Tm.as_mk];have:=uw t.as ih;omega
 rw [ja];unfold rW1;split
 · rename_i x y hxy
   split
   · rw [Tm.depth_eq,Tm.as_mk]; simp only [Tm.depthL]; omega
   · exact plain
 · exact plain
theorem Hc {n:Nat} {c:Int} (h:isC n c=true):(vals n c).length=n:=by
 have h3:=(mg h).1;unfold vals;rw [H5 h]
 match n,h3 with
 | 0,_=>rfl
 | 1,_=>rfl
 | 2,_=>rfl
 | 3,_=>rfl
theorem Pz {n:Nat} {c:Int} (h:isC n c=true):∀ x∈vals n c,0<=x/\x<4:=fun x hx=>by
 obtain ⟨h3,h0,_⟩:=mg h;have hm:∀ a:Int,0<=a->0<=a.tmod 4/\a.tmod 4<4:=fun a ha=>⟨P8 4 ha,O4 _ (by decide)⟩
 have hd:∀ a:Int,0<=a->0<=a.tdiv 4:=fun a ha=>Int.tdiv_nonneg ha (by decide)
 unfold vals at hx;rw [H5 h] at hx
 match n,h3 with
 | 0,_=>simp at hx
 | 1,_ =>
  simp only [E8] at hx;subst hx; exact hm _ h0
 | 2,_ =>
  simp only [E0,Q1,or_false] at hx;rcases hx with e | e
  · subst e; exact hm _ (hd _ h0)
  · subst e; exact hm _ h0
 | 3,_ =>
  simp only [E0,Q1,or_false] at hx;rcases hx with e | e | e
  · subst e; exact hm _ (hd _ (hd _ h0))
  · subst e; exact hm _ (hd _ h0)
  · subst e; exact hm _ h0
theorem Mw (ops:List OpM) (n:Int):av ops [] (word n)=cz:=by unfold word; rw [cn]; rfl
theorem Bt (ops:List OpM):∀ (vars:List ByteArray) (vs:List Int),vs.length=vars.length->oc ops (wv vars) ((vars.zip vs).map fun p=>(p.1,word p.2))
 | [],[],_=>by
  intro s; simp [wv,fe,bnd]
 | [],_::_,h=>by simp at h
 | _::_,[],h=>by simp at h
 | x::vars,v::vs,h=>by
  have ih:=Bt ops vars vs (by simpa using h)
  intro s;have hs:=ih s;unfold wv fe at hs ⊢;simp only [C2,List.zip_cons_cons,P4,bnd];by_cases e:x=s
  · simp only [e,H3,if_true]
    exact Mw ops v
  · simp only [e,H4,if_false]
    exact hs
theorem Kx:∀ (vars:List ByteArray) (vs:List Int) (s:ByteArray),vs.length=vars.length->s∈vars->∃ n∈vs,bnd ((vars.zip vs).map fun p=>(p.1,word p.2)) s=some (word n)
 | [],_,s,_,h=>by simp at h
 | _::_,[],_,h,_=>by simp at h
 | x::vars,v::vs,s,h,hs=>by
  simp only [List.zip_cons_cons,C2,bnd];by_cases e:x=s
  · exact ⟨v,C4 ..,by rw [H5 e]⟩
  · rw [H6 e]
    obtain ⟨n,h1,h2⟩:=Kx vars vs s (by simpa using h) (by
     rcases E0.1 hs with q | q
     · exact absurd q.symm e
     · exact q)
    exact ⟨n,C5 _ h1,h2⟩
theorem Mx {l:List Bnd} (hg:∀ b∈l,b.2.names=[]):∀ t,(∀ s∈t.names,bnd l s≠none)->(aS l t).names=[]:=Tm.ind fun t ih h=>by
 rw [Tm.names_eq] at h;rw [ej];by_cases hk:t.k=1
 · rw [H5 hk] at h ⊢
   cases hb:bnd l t.s with
   | some v =>
    obtain ⟨b,h1,rfl⟩:=et hb;exact hg b h1
   | none=>exact absurd hb (h t.s (by simp))
 · rw [H6 hk] at h ⊢
   simp only;rw [Tm.names_eq,Tm.k_mk,Tm.as_mk,H6 hk,D9,List.flatMap_map];rw [yq (g:=fun _=>[]) fun a ha=>ih a ha fun s hs=>h s (D0.2 (.inr (K3.2 ⟨a,ha,hs⟩)))]
   induction t.as with
   | nil=>rfl
   | cons a l ih=>rw [O3,ih]; rfl
theorem Qa {d:DfM} {vars:List ByteArray} {t:Tm} (hs:kn d vars t=true) {c:Int} (hc:isC vars.length c=true):cfg d (fo vars t c)=true:=by
 simp only [kn,B7,F1,decide_eq_false_iff_not] at hs;obtain ⟨hv,_,_,_,htv,hwi,hso⟩:=hs;have hlen:=Hc hc;have hA:=Bt d.op vars (vals vars.length c) hlen;have htn:=dn htv;have hw:∀ b∈cf vars c,b.2.areN=true/\(b.2.names=[]/\(b.2.depth=1/\b.2.nodes=1)):=fun b hb=>by
  unfold cf at hb;simp only [G5] at hb;obtain ⟨p,hp,rfl⟩:=hb;obtain ⟨v1,v2⟩:=Pz hc _ (List.of_mem_zip hp).2;refine ⟨?_,rfl,rfl,rfl⟩;show (word p.2).areN=true
  unfold word;rw [Tm.areN_eq];unfold Tm.nodeN isW;simp only [Tm.k_mk,Tm.n_mk,Tm.s_mk,Tm.as_mk];simp [Tm.areNL,v1,v2]
 have hn1:=Dv (fun b hb=>(hw b hb).1) t htn
 have hs1:av d.op [] (aS (cf vars c) t)=av d.op (wv vars) t:=Km hA t htn hso;have hs2:av d.op [] (fo vars t c)=av d.op (wv vars) t:=by unfold fo; rw [Du d.op [] _ hn1 (by rw [hs1]; exact hso),hs1]
 simp only [cfg,B7,F1,decide_eq_false_iff_not];refine ⟨hv,?_,?_,by rw [hs2]; exact hso⟩
 · simp only [Tm.valid,B7,decide_eq_true_eq] at htv ⊢
   have a1:=yp (fun b hb=>(hw b hb).2.2.2) t
   have a2:=ia (aS (cf vars c) t);have a3:=Px (fun b hb=>(hw b hb).2.2.1) t
   have a4:=Py (aS (cf vars c) t);exact ⟨by unfold fo; omega,by unfold fo; omega,Kn _ hn1⟩
 · unfold isG fo
   rw [yr,Mx (fun b hb=>(hw b hb).2.1) t fun s hs=>by
    obtain ⟨n,_,e⟩:=Kx vars (vals vars.length c) s hlen (fq.1 hwi s hs);show bnd (cf vars c) s≠none
    unfold cf;rw [e]; simp]
   rfl
theorem Kz {vars:List ByteArray} {t:Tm} {c:Int} (h:isC vars.length c=true):S.instR vars t c=fo vars t c:=by unfold S.instR; rw [H5 h]
end Go.Q
namespace Go.Q
open Go
theorem Si {n:Int} (h0:0<=n) (h1:n<4):Wt (word n):=.mk (S.i64ok_of (by show _<=(3:Int); decide) (by show (3:Int)<=_; decide)) (S.i64ok_of (by show _<=n; omega) (by show n<=_; omega)) (by show (⟨#[]⟩:ByteArray).size<=maxLen; decide) (K0 _) (by intro a ha; simp [word,Tm.as] at ha)
theorem Qb {vars:List ByteArray} {t:Tm} (h:Wt t) (c:Int):Wt (S.instR vars t c):=by
 unfold S.instR;split
 · rename_i hc
   refine Kq _ (Kp (fun b hb=>?_) t h)
   unfold cf at hb;simp only [G5] at hb;obtain ⟨p,hp,rfl⟩:=hb;obtain ⟨v1,v2⟩:=Pz hc _ (List.of_mem_zip hp).2;exact Si v1 v2
 · exact wt0
end Go.Q
end
section
/- Symbolic terms with cases; comparison. -/
namespace Go.Q
open Go
def jh (n:Nat):Option Int->List Int->Bool
 | _,[]=>true
 | p,c::r=>isC n c&&((match p with | some q=>!decide (c<=q) | none=>true)&&jh n (some c) r)
def prv (cs:List Int):Nat->Option Int
 | 0=>none
 | i+1=>cs[i]?
def wx (d:DfM) (vars:List ByteArray) (t:Tm) (cs:List Int):Bool:=kn d vars t&&jh vars.length none cs
theorem og {n:Nat}:∀ (cs:List Int) (p:Option Int),jh n p cs=true->∀ c∈cs,isC n c=true
 | [],_,_,c,hc=>by simp at hc
 | x::r,p,h,c,hc=>by
  simp only [jh,B7] at h;rcases E0.1 hc with e | hc
  · subst e; exact h.1
  · exact og r _ h.2.2 c hc
structure SyM where
 d:DfM
 v:List ByteArray
 t:Tm
 c:List Int
def SyM.row (s:SyM):List D:=[.sl (s.d.so.map ai),.sl (s.d.op.map OpM.row),.sl (s.d.ru.map RuM.row),.sl (s.d.st.map StM.row),.sl (s.v.map ai),.int s.t.k,.int s.t.n,.str s.t.s,.sl (s.t.as.map Tm.row),.sl (s.c.map am)]
structure SyB (s:SyM):Prop where
 d:DfB s.d
 v:s.v.length<=1048576
 vs:∀ x∈s.v,x.size<=maxLen
 w:Wt s.t
 n:s.t.nodes<=1048577
 c:s.c.length<=1048576
def Qc (a b:List ByteArray):Bool:=decide (a=b)
end Go.Q
end
section
/- Places of terms,steps of symbolic terms,branches. -/
namespace Go.Q
open Go
def atO (t:Tm) (p:List Int):Tm:=(atT t p).getD tm0
theorem pb:tm0.nodes=1:=by rw [Tm.nodes_eq]; rfl
theorem il (t:Tm) (p:List Int) {m:Nat} (hm:1<=m) (h:t.nodes<=m):(atO t p).nodes<=m:=by
 unfold atO;cases ha:atT t p with
 | none=>rw [Option.getD_none,pb]; exact hm
 | some u=>have:=ik p t u ha; rw [Option.getD_some]; omega
theorem Qd {t:Tm} (h:Wt t) (p:List Int):Wt (atO t p):=by
 unfold atO;cases ha:atT t p with
 | none=>exact wt0
 | some u=>exact Dw (fun t a h ha=>h.sub ha) p t u h ha
theorem Qe {w:Tm} (hw:Wt w):∀ (p:List Int) (t:Tm),Wt t->Wt (dt t p w)
 | [],t,_=>hw
 | i::p,t,h=>by
  simp only [dt];split
  · rename_i hi
    refine Ko h (by simp) fun a ha=>?_
    rcases K5 ha with q | q
    · exact h.sub q
    · exact q▸Qe hw p _ (h.sub (C3 hi))
  · exact h
mutual
def gb:Tm->List Int->List (List Int)
 | .mk _ _ _ as,p=>p::mv as p 0
def mv:List Tm->List Int->Nat->List (List Int)
 | [],_,_=>[]
 | a::r,p,i=>gb a (p++[(i:Int)])++mv r p (i+1)
end
theorem mi (t:Tm) (p:List Int):gb t p=p::mv t.as p 0:=by cases t; simp only [gb,Tm.as]
theorem Bu {as:List Tm} {p:List Int} {i:Nat} (h:i<as.length):mv (as.drop i) p i=gb as[i] (p++[(i:Int)])++mv (as.drop (i+1)) p (i+1):=by
 rw [B9 h]; simp only [mv]
theorem Qf (as:List Tm) (h:∀ a∈as,∀ p,(gb a p).length=a.nodes):∀ p i,(mv as p i).length=(as.map Tm.nodes).sum:=by
 induction as with
 | nil=>intro p i; rfl
 | cons a r ih =>
  intro p i;simp only [mv,E5,C2,J7,h a (C4 ..),ih (fun b hb=>h b (C5 _ hb))]
theorem oh:∀ t:Tm,∀ p,(gb t p).length=t.nodes:=Tm.ind fun t ih p=>by
 rw [mi,C1,Qf t.as ih,Tm.nodes_eq]; omega
theorem Qg (as:List Tm) (h:∀ a∈as,∀ p q,q∈gb a p->q.length<=p.length+a.nodes):∀ p i q,q∈mv as p i->q.length<=p.length+1+(as.map Tm.nodes).sum:=by
 induction as with
 | nil=>intro p i q hq; simp [mv] at hq
 | cons a r ih =>
  intro p i q hq;simp only [mv,D0,C2,J7] at hq ⊢;rcases hq with hq | hq
  · have:=h a (C4 ..) _ q hq
    simp only [E5,C1,C7] at this;omega
  · have:=ih (fun b hb=>h b (C5 _ hb)) p (i+1) q hq
    omega
theorem Hd:∀ t:Tm,∀ p q,q∈gb t p->q.length<=p.length+t.nodes:=Tm.ind fun t ih p q hq=>by
 rw [mi] at hq;have hn:=Tm.nodes_eq t;rcases E0.1 hq with e | hq
 · subst e; omega
 · have:=Qg t.as ih p 0 q hq; omega
def cB1 (l u:Tm) (p:List Int):Option Bnd:=if (atO l p).k=1 then some ((atO l p).s,atO u p) else none
def ji (l u:Tm):List Bnd:=(gb l []).filterMap (cB1 l u)
def mj (l u:Tm):List (List Int)->List Bnd->List Bnd
 | [],acc=>acc
 | p::r,acc=>mj l u r (if (atO l p).k=1/\bnd acc (atO l p).s=none then acc++[((atO l p).s,atO u p)] else acc)
theorem zf (a b:List Bnd) (s:ByteArray):bnd (a++b) s=(match bnd a s with | some v=>some v | none=>bnd b s):=by
 induction a with
 | nil=>rfl
 | cons x a ih =>
  simp only [F5,bnd];split
  · rfl
  · exact ih
theorem He (l u:Tm) (s:ByteArray):∀ (ps:List (List Int)) (acc:List Bnd),bnd (mj l u ps acc) s=bnd (acc++ps.filterMap (cB1 l u)) s
 | [],acc=>by simp [mj]
 | p::r,acc=>by
  simp only [mj,He l u s r];by_cases hk:(atO l p).k=1
  · have e1:(p::r).filterMap (cB1 l u)=((atO l p).s,atO u p)::r.filterMap (cB1 l u):=by rw [R3,cB1,H5 hk]
    rw [e1];cases hb:bnd acc (atO l p).s with
    | none=>rw [H5 ⟨hk,rfl⟩,E3]; rfl
    | some v =>
     rw [H6 (by simp)]
     rw [zf,zf];cases ha:bnd acc s with
     | some w=>rfl
     | none =>
      simp only [bnd];rw [H6 fun e=>by rw [e,ha] at hb; simp at hb]
  · have e1:(p::r).filterMap (cB1 l u)=r.filterMap (cB1 l u):=by rw [R3,cB1,H6 hk]
    rw [e1,H6 fun h=>hk h.1]
theorem Sj (l u t:Tm):aS (mj l u (gb l []) []) t=aS (ji l u) t:=tb (fun s=>by rw [He,D9]; rfl) t
theorem zg {l u:Tm} {P:Tm->Prop} (h:∀ p,P (atO u p)):∀ b∈ji l u,P b.2:=fun b hb=>by
 unfold ji at hb;obtain ⟨p,_,hp⟩:=R4.1 hb;unfold cB1 at hp;split at hp
 · simp only [C9.injEq] at hp; subst hp; exact h p
 · simp at hp
theorem Hf {l u:Tm} {P:Tm->Prop} (h:∀ p,P (atO u p)):∀ (ps:List (List Int)) (acc:List Bnd),(∀ b∈acc,P b.2)->∀ b∈mj l u ps acc,P b.2
 | [],acc,ha=>ha
 | p::r,acc,ha=>by
  simp only [mj];refine Hf h r _ ?_;split
  · intro b hb
    rcases D0.1 hb with hb | hb
    · exact ha b hb
    · simp only [E8] at hb; subst hb; exact h p
  · exact ha
theorem Hg (l u:Tm):∀ (ps:List (List Int)) (acc:List Bnd),(mj l u ps acc).length<=acc.length+ps.length
 | [],acc=>F7 _
 | p::r,acc=>by
  simp only [mj];refine G8 (Hg l u r _) ?_;split <;> simp <;> omega
theorem Wa:∀ t:Tm,rW (rW t)=rW t:=Tm.ind fun t ih=>by
 have e:(t.as.map rW).map rW=t.as.map rW:=by
  rw [K6]; exact N1 fun a ha=>ih a ha
 rw [ja t];unfold rW1;split
 · rename_i x y hxy
   split
   · rename_i hc
     rw [ja]; rfl
   · rename_i hc
     rw [ja,Tm.k_mk,Tm.n_mk,Tm.s_mk,Tm.as_mk,e,hxy];unfold rW1;exact H6 hc
 · rename_i hne
   rw [ja,Tm.k_mk,Tm.n_mk,Tm.s_mk,Tm.as_mk,e];unfold rW1;split
   · rename_i x y hxy; exact absurd hxy (hne x y)
   · rfl
theorem Qh (a:Tm):∀ (p:List Int) (t:Tm),rW (dt t p (rW a))=rW (dt t p a)
 | [],t=>Wa a
 | i::p,t=>by
  simp only [dt];split
  · rename_i hi
    rw [ja,ja (.mk t.k t.n t.s (t.as.set i.toNat (dt t.as[i.toNat] p a)))];simp only [Tm.k_mk,Tm.n_mk,Tm.s_mk,Tm.as_mk,List.map_set,Qh a p]
  · rfl
theorem Ts {t:Tm} {i:Nat} (h:i<(rW t).as.length):∃ hi:i<t.as.length,(rW t).as[i]=rW t.as[i]:=by
 have key:(rW t).as=[]\/(rW t).as=t.as.map rW:=by
  rw [ja];unfold rW1;split
  · split
    · exact .inl rfl
    · rename_i hxy _; rw [Tm.as_mk,hxy]; exact .inr rfl
  · exact .inr rfl
 rcases key with e | e
 · rw [e] at h; simp at h
 · have hi:i<t.as.length:=by rw [e] at h; simpa using h
   refine ⟨hi,?_⟩;simp only [e,Q2]
theorem La {l:List Bnd} (hl:∀ b∈l,b.2.as=[]):∀ (p:List Int) (t u:Tm),atT (rW (aS l t)) p=some u->∃ v,atT t p=some v
 | [],t,u,h=>⟨t,rfl⟩
 | i::p,t,u,h=>by
  obtain ⟨hi,h0,h1⟩:=co h;obtain ⟨hi2,e2⟩:=Ts hi;have key:∃ hi3:i.toNat<t.as.length,(aS l t).as[i.toNat]=aS l t.as[i.toNat]:=by
   have hc:(aS l t).as=[]\/(aS l t).as=t.as.map (aS l):=by
    rw [ej];split
    · rename_i v hv
      split at hv
      · obtain ⟨b,hb,rfl⟩:=et hv; exact .inl (hl b hb)
      · simp at hv
    · exact .inr rfl
   rcases hc with e | e
   · rw [e] at hi2; simp at hi2
   · have hi3:i.toNat<t.as.length:=by rw [e] at hi2; simpa using hi2
     exact ⟨hi3,by simp only [e,Q2]⟩
  obtain ⟨hi3,e3⟩:=key;rw [e2,e3] at h1;obtain ⟨v,hv⟩:=La hl p _ u h1;exact ⟨v,by simp only [atT,dif_pos hi3,H5 h0]; exact hv⟩
theorem Hh (vars:List ByteArray) (c:Int):∀ b∈cf vars c,b.2.as=[]:=fun b hb=>by
 unfold cf at hb;simp only [G5] at hb;obtain ⟨p,_,rfl⟩:=hb;rfl
def db (d:DfM) (t:Tm) (x:Nat×List Int):Tm:=match d.ru[x.1]? with
 | some r=>rW (dt t x.2 (aS (ji r.l (atO t x.2)) r.r))
 | none=>tm0
abbrev Bk:=Option (Nat×List Int)
def bK (d:DfM) (t:Tm):Bk->Int
 | none=>1
 | some y=>if (db d t y).valid=true then 2 else 3
def bT (d:DfM) (t:Tm):Bk->Tm
 | none=>t
 | some y=>if (db d t y).valid=true then db d t y else tm0
def bR:Bk->Int
 | none=>0
 | some y=>(y.1:Int)
def bP:Bk->List Int
 | none=>[]
 | some y=>y.2
def bw (d:DfM) (v:List ByteArray) (t:Tm) (b:Bk×List Int):List D:=[.int (bK d t b.1),.int (bR b.1),.sl ((bP b.1).map am),.sl (v.map ai),.int (bT d t b.1).k,.int (bT d t b.1).n,.str (bT d t b.1).s,.sl ((bT d t b.1).as.map Tm.row),.sl (b.2.map am)]
def Dz (out:List (Bk×List Int)) (x:Bk):Option Nat:=out.findIdx? fun b=>decide (b.1=x)
def pn (out:List (Bk×List Int)) (x:Bk) (c:Int):List (Bk×List Int):=match Dz out x with
 | some i=>(match out[i]? with | some b=>out.set i (b.1,b.2++[c]) | none=>out)
 | none=>out++[(x,[c])]
noncomputable def brF (d:DfM) (v:List ByteArray) (t:Tm):List Int->List (Bk×List Int)->List (Bk×List Int)
 | [],out=>out
 | c::r,out=>brF d v t r (pn out (nx d (fo v t c)) c)
noncomputable def brL (s:SyM):List (Bk×List Int):=if wx s.d s.v s.t s.c=true then brF s.d s.v s.t s.c [] else []
theorem Lb {out:List (Bk×List Int)} {x:Bk} {i:Nat} (h:Dz out x=some i):∃ hi:i<out.length,out[i].1=x:=by
 unfold Dz at h;rw [S7] at h;obtain ⟨hi,h1,_⟩:=h;exact ⟨hi,by simpa using h1⟩
structure BrB (n:Nat) (out:List (Bk×List Int)):Prop where
 l:out.length<=n
 c:∀ b∈out,b.2.length<=n
theorem Je {n:Nat} {out:List (Bk×List Int)} (h:BrB n out) (x:Bk) (c:Int):BrB (n+1) (pn out x c):=by
 unfold pn;split
 · split
   · rename_i b hb
     refine ⟨by rw [P7]; have:=h.l; omega,fun q hq=>?_⟩
     rcases K5 hq with hq | hq
     · have:=h.c q hq; omega
     · subst hq
       have:=h.c b (O0 hb);simp only [E5,C1,C7]; omega
   · exact ⟨by have:=h.l; omega,fun b hb=>by have:=h.c b hb; omega⟩
 · refine ⟨by have:=h.l; simp; omega,fun b hb=>?_⟩
   rcases D0.1 hb with hb | hb
   · have:=h.c b hb; omega
   · simp only [E8] at hb; subst hb; simp
theorem Bv {α:Type} (p:α->Bool) (l:List α) {i:Nat} (h:i<l.length):(l.drop i).findIdx? p=if p l[i]=true then some 0 else ((l.drop (i+1)).findIdx? p).map (·+1):=by
 rw [B9 h,List.findIdx?_cons]
theorem Ea {d:DfM} (hd:DfG d) {t:Tm} (hw:Wt t) (hn:t.nodes<=60) {x:Nat×List Int} (hp:x.2.length<=60):Wt (db d t x)/\(db d t x).nodes<=7260:=by
 unfold db;cases hr:d.ru[x.1]? with
 | none=>exact ⟨wt0,by rw [pb]; decide⟩
 | some r =>
  have hrg:=hd.ru (O0 hr);have a1:=ij (m:=60) (by decide) (zg (l:=r.l) (P:=fun t=>t.nodes<=60) fun p=>il (atO t x.2) p (by decide) (il t x.2 (by decide) hn)) r.r
  have a2:=aw hrg.rv;have a3:=lp (aS (ji r.l (atO t x.2)) r.r) x.2 t;have a4:=ia (dt t x.2 (aS (ji r.l (atO t x.2)) r.r));have a5:t.nodes*(x.2.length+1)<=60*61:=T1 hn (by omega)
  refine ⟨Kq _ (Qe (Kp (zg (P:=Wt) fun p=>Qd (Qd hw x.2) p) r.r hrg.b.wr) x.2 t hw),?_⟩
  simp only;omega
def oi (p:List Int):List D:=[.sl (p.map am)]
def Hi (out:List (Bk×List Int)) (x:Bk):Int:=match Dz out x with | some i=>(i:Int) | none=>-1
theorem ft {α:Type}:∀ (i:Nat) (x:α) (l:List α),i<l.length->over i [x] l=l.set i x
 | i,x,[],h=>by simp at h
 | 0,x,a::l,_=>by cases l <;> rfl
 | i+1,x,a::l,h=>by simp only [over,S6,ft i x l (by simpa using h)]
theorem Jf {d:DfM} {v:List ByteArray} {t:Tm} {out:List (Bk×List Int)} {j:Nat} (hj:j<out.length) (cs:aa) (e:List Int) (he:cs=e.map am) :
 over j [over 8 [.sl cs] (rowAt (over j [over 8 [.sl []] (rowAt (out.map (bw d v t)) j)] (out.map (bw d v t))) j)] (over j [over 8 [.sl []] (rowAt (out.map (bw d v t)) j)] (out.map (bw d v t)))=(out.set j (out[j].1,e)).map (bw d v t):=by
 subst he;have hl:j<(out.map (bw d v t)).length:=by rw [B6]; exact hj
 rw [ab hj,ft j _ _ hl,ft j _ _ (by rw [P7]; exact hl),List.set_set,List.map_set]
 congr 1
 rw [show rowAt ((out.map (bw d v t)).set j (over 8 [.sl []] (bw d v t out[j]))) j=over 8 [.sl []] (bw d v t out[j]) by simp [rowAt,O1,hj]]
 rfl
theorem Jg {d:DfM} {v:List ByteArray} {t:Tm} {out:List (Bk×List Int)} {j:Nat} (hj:j<out.length):(over j [over 8 [.sl []] (rowAt (out.map (bw d v t)) j)] (out.map (bw d v t))).length=out.length:=by
 rw [ft _ _ _ (by rw [B6]; exact hj),P7,B6]
theorem Bw {out:List (Bk×List Int)} {x:Bk} {j:Nat} (h:Dz out x=some j) (hj:j<out.length) (c:Int):pn out x c=out.set j (out[j].1,out[j].2++[c]):=by
 unfold pn; rw [h]; simp only [F2 hj]
theorem By {out:List (Bk×List Int)} {x:Bk} (h:Dz out x=none) (c:Int):pn out x c=out++[(x,[c])]:=by
 unfold pn; rw [h]
theorem Tt (d:DfM) (t:Tm) (y x:Bk):((decide (bK d t y=1)==!x.isSome)&&(decide (bR y=bR x)&&decide (bP y=bP x)))=decide (y=x):=by
 have h2:∀ z,¬ bK d t (some z)=1:=fun z=>by show ¬(if (db d t z).valid=true then (2:Int) else 3)=1; by_cases q:(db d t z).valid=true <;> simp [q]
 cases y with
 | none =>
  cases x with
  | none=>simp [bK,bR,bP]
  | some z=>simp [bK]
 | some w =>
  cases x with
  | none=>simp [h2]
  | some z =>
   obtain ⟨a,b⟩:=w;obtain ⟨a',b'⟩:=z;simp only [h2,bR,bP,H4,P6,Bool.not_true,BEq.rfl,F4,C9.injEq,G7.injEq,Int.ofNat_inj];by_cases e1:a=a' <;> by_cases e2:b=b' <;> simp [e1,e2]
structure BkG (d:DfM) (t:Tm) (x:Bk):Prop where
 i:∀ y,x=some y->y.1<d.ru.length/\y.2.length<=60/\∃ u,atT t y.2=some u
theorem Us (x:Bk):nrR x []=[.int (bR x),.bool x.isSome,.sl ((bP x).map am)]:=by cases x <;> rfl
theorem Ut (x:Bk):nrS x=[.int (bR x),.bool x.isSome,.sl ((bP x).map am)]:=by cases x <;> rfl
theorem zh {d:DfM} {v:List ByteArray} {t:Tm} (hb:DfB d) (hw:Wt t) (hs:kn d v t=true) {c:Int} (hc:isC v.length c=true):DfG d/\t.nodes<=60/\Gt d.op (fo v t c)/\(fo v t c).nodes<=60/\BkG d t (nx d (fo v t c)):=by
 have hwi:Wt (fo v t c):=Kz hc▸Qb hw c;obtain ⟨h1,h2,h3⟩:=Dx hb hwi (Qa hs hc);have htn:t.nodes<=60:=by
  simp only [kn,B7] at hs;exact aw hs.2.2.2.2.1
 refine ⟨h1,htn,h2,h3,⟨fun y hy=>?_⟩⟩
 obtain ⟨u,r,w,q1,q2,_⟩:=xc d (fo v t c) y.1 y.2 hy;have q3:=ik y.2 _ u q1;exact ⟨(D7.1 q2).1,by omega,La (Hh v c) y.2 t u q1⟩
theorem Qi {α:Type} (l:List α) (a b:α):(l++[a]).set l.length b=l++[b]:=by
 rw [List.set_append_right _ _ (F7 _)]; simp
theorem Jh {d:DfM} {t:Tm} {out:List (Bk×List Int)} (h:∀ b∈out,BkG d t b.1) {x:Bk} (hx:BkG d t x) {c:Int}:∀ b∈pn out x c,BkG d t b.1:=fun b hb=>by
 unfold pn at hb;split at hb
 · split at hb
   · rename_i q hq
     rcases K5 hb with hb | hb
     · exact h b hb
     · subst hb; exact h q (O0 hq)
   · exact h b hb
 · rcases D0.1 hb with hb | hb
   · exact h b hb
   · simp only [E8] at hb; subst hb; exact hx
end Go.Q
end
section
/- Branches: bounds of what is answered. -/
namespace Go.Q
open Go
theorem Hj:∀ (p:List Int) (t u:Tm),atT t p=some u->∀ j∈p,0<=j/\j<(t.nodes:Int)
 | [],_,_,_,j,hj=>by simp at hj
 | i::p,t,u,h,j,hj=>by
  obtain ⟨hi,h0,h1⟩:=co h;have h2:=Tm.nodes_eq t;have h3:=dh (f:=Tm.nodes) (C3 hi);have h4:=cw (xs:=t.as);rcases E0.1 hj with e | hj
  · subst e; omega
  · have:=Hj p _ u h1 j hj; omega
theorem Uu {P:Int->Prop} {out:List (Bk×List Int)} (h:∀ b∈out,∀ c∈b.2,P c) {x:Bk} {c:Int} (hc:P c):∀ b∈pn out x c,∀ c∈b.2,P c:=fun b hb=>by
 unfold pn at hb;split at hb
 · split at hb
   · rename_i q hq
     rcases K5 hb with hb | hb
     · exact h b hb
     · subst hb
       intro c' hc';rcases D0.1 hc' with hc' | hc'
       · exact h q (O0 hq) c' hc'
       · simp only [E8] at hc'; subst hc'; exact hc
   · exact h b hb
 · rcases D0.1 hb with hb | hb
   · exact h b hb
   · simp only [E8] at hb; subst hb
     intro c' hc';simp only [E8] at hc'; subst hc'; exact hc
theorem Lc {d:DfM} (hb:DfB d) {v:List ByteArray} {t:Tm} (hw:Wt t) (hs:kn d v t=true) {P:Int->Prop}:∀ (l:List Int) (n:Nat) (out:List (Bk×List Int)),(∀ c∈l,isC v.length c=true/\P c)->BrB n out->(∀ b∈out,BkG d t b.1)->(∀ b∈out,∀ c∈b.2,P c) →
 BrB (n+l.length) (brF d v t l out)/\(∀ b∈brF d v t l out,BkG d t b.1)/\∀ b∈brF d v t l out,∀ c∈b.2,P c
 | [],n,out,_,h1,h2,h3=>⟨h1,h2,h3⟩
 | c::r,n,out,hc,h1,h2,h3=>by
  obtain ⟨_,_,_,_,hx⟩:=zh hb hw hs (hc c (C4 ..)).1;have:=Lc hb hw hs r (n+1) (pn out (nx d (fo v t c)) c) (fun c' h=>hc c' (C5 _ h)) (Je h1 _ c) (Jh h2 hx) (Uu h3 (hc c (C4 ..)).2)
  simp only [brF,C1];rwa [show n+(r.length+1)=n+1+r.length by omega]
structure Xb (d:DfM) (t:Tm) (b:Bk×List Int):Prop where
 k:0<=bK d t b.1/\bK d t b.1<=3
 r:0<=bR b.1/\bR b.1<=1048576
 p:(bP b.1).length<=60
 pi:∀ j∈bP b.1,0<=j/\j<1048577
 w:Wt (bT d t b.1)
 n:(bT d t b.1).nodes<=7260
 c:b.2.length<=1048576
 ci:∀ c∈b.2,S.i64ok c
theorem Sk {s:SyM} (hs:SyB s) (hci:∀ c∈s.c,S.i64ok c):(brL s).length<=1048576/\∀ b∈brL s,Xb s.d s.t b:=by
 unfold brL;split
 · rename_i h
   have h':=h;simp only [wx,B7] at h';have hcs:=og s.c none h'.2;obtain ⟨h1,h2,h3⟩:=Lc hs.d hs.w h'.1 (P:=S.i64ok) s.c 0 [] (fun c hc=>⟨hcs c hc,hci c hc⟩) ⟨F7 _,by simp⟩ (by simp) (by simp)
   have hcl:=hs.c;have hdg:DfG s.d:=⟨hs.d,by have:=h'.1; simp only [kn,B7] at this; exact this.1⟩
   have htn:s.t.nodes<=60:=by
    have:=h'.1;simp only [kn,B7] at this;exact aw this.2.2.2.2.1
   refine ⟨by have:=h1.l; omega,fun b hb=>?_⟩
   have hg:=(h2 b hb).i;have hc:=h1.c b hb;have key:∀ x:Bk,(∀ y,x=some y->y.1<s.d.ru.length/\y.2.length<=60/\∃ u,atT s.t y.2=some u)->(0<=bK s.d s.t x/\bK s.d s.t x<=3)/\(0<=bR x/\bR x<=1048576)/\(bP x).length<=60/\(∀ j∈bP x,0<=j/\j<1048577)/\Wt (bT s.d s.t x)/\(bT s.d s.t x).nodes<=7260:=fun x hx=>by
    cases x with
    | none=>exact ⟨⟨by show (0:Int)<=1; decide,by show (1:Int)<=3; decide⟩,⟨by show (0:Int)<=0; decide,by show (0:Int)<=1048576; decide⟩,K0 _,by intro j hj; simp [bP] at hj,hs.w,by show s.t.nodes<=_; omega⟩
    | some y =>
     obtain ⟨y1,y2,u,y3⟩:=hx y rfl;obtain ⟨c1,c2⟩:=Ea hdg hs.w htn (x:=y) y2;have hru:=hs.d.ru;refine ⟨?_,⟨by show (0:Int)<=(y.1:Int); omega,by show (y.1:Int)<=1048576; omega⟩,y2,fun j hj=>?_,?_⟩
     · show 0<=(if (db s.d s.t y).valid=true then (2:Int) else 3)/\(if (db s.d s.t y).valid=true then (2:Int) else 3)<=3
       split <;> decide
     · have:=Hj y.2 s.t u y3 j hj; omega
     · show Wt (if (db s.d s.t y).valid=true then db s.d s.t y else tm0)/\(if (db s.d s.t y).valid=true then db s.d s.t y else tm0).nodes<=7260
       split
       · exact ⟨c1,c2⟩
       · exact ⟨wt0,by rw [pb]; decide⟩
   obtain ⟨k1,k2,k3,k4,k5,k6⟩:=key b.1 hg;exact ⟨k1,k2,k3,k4,k5,k6,by omega,h3 b hb⟩
 · exact ⟨by simp,by simp⟩
end Go.Q
end
section
/- Symbolic terms stay symbolic along a step. -/
namespace Go.Q
open Go
theorem Hk:∀ {l:List Bnd} {s:ByteArray} {w:Tm},bnd l s=some w->(s,w)∈l
 | [],s,w,h=>by simp [bnd] at h
 | b::l,s,w,h=>by
  simp only [bnd] at h;split at h
  · rename_i e
    simp only [C9.injEq] at h;obtain ⟨b1,b2⟩:=b;simp only at e h;subst e; subst h;exact C4 ..
  · exact C5 _ (Hk h)
theorem zj:∀ {l:List Bnd} {s:ByteArray} {w:Tm},(s,w)∈l->∃ w',bnd l s=some w'
 | [],s,w,h=>by simp at h
 | b::l,s,w,h=>by
  simp only [bnd];by_cases e:b.1=s
  · exact ⟨b.2,H5 e⟩
  · rw [H6 e]
    rcases E0.1 h with h | h
    · exact absurd (by rw [<- h]) e
    · exact zj h
theorem zk:∀ (as:List Tm) (p:List Int) (i:Nat) (q:List Int),q∈mv as p i↔∃ j,∃ h:j<as.length,q∈gb as[j] (p++[((i+j:Nat):Int)])
 | [],p,i,q=>by simp [mv]
 | a::r,p,i,q=>by
  simp only [mv,D0];rw [zk r p (i+1) q];constructor
  · rintro (h | ⟨j,hj,h⟩)
    · exact ⟨0,by simp,by simpa using h⟩
    · exact ⟨j+1,by simpa using hj,by rw [show i+(j+1)=i+1+j by omega]; simpa using h⟩
  · rintro ⟨j,hj,h⟩
    cases j with
    | zero=>exact .inl (by simpa using h)
    | succ j=>exact .inr ⟨j,by simpa using hj,by rw [show i+1+j=i+(j+1) by omega]; simpa using h⟩
theorem Hl {t:Tm} {j:Nat} (h:j<t.as.length) (q:List Int):atT t ((j:Int)::q)=atT t.as[j] q:=by
 simp only [atT,Int.toNat_natCast,dif_pos h];rw [H5 (by omega)]
theorem Sl:∀ t:Tm,∀ p q,q∈gb t p->∃ q' a,q=p++q'/\atT t q'=some a:=Tm.ind fun t ih p q hq=>by
 rw [mi] at hq;rcases E0.1 hq with e | hq
 · exact ⟨[],t,by simp [e],rfl⟩
 · obtain ⟨j,hj,h⟩:=(zk t.as p 0 q).1 hq
   obtain ⟨q',a,e,h1⟩:=ih _ (C3 hj) _ q h;refine ⟨(j:Int)::q',a,?_,by rw [Hl hj]; exact h1⟩
   rw [e,Nat.zero_add]; simp
theorem Ld:∀ (q:List Int) (t:Tm) (p:List Int) (a:Tm),atT t q=some a->p++q∈gb t p
 | [],t,p,a,_=>by rw [mi]; simp
 | i::q,t,p,a,h=>by
  obtain ⟨hi,h0,h1⟩:=co h;rw [mi];refine C5 _ ((zk t.as p 0 _).2 ⟨i.toNat,hi,?_⟩);have:=Ld q _ (p++[i]) a h1;rw [Nat.zero_add,show ((i.toNat:Nat):Int)=i by omega]
  simpa using this
theorem Qj:∀ t:Tm,∀ s∈t.names,∃ q a,atT t q=some a/\a.k=1/\a.s=s:=Tm.ind fun t ih s hs=>by
 rw [Tm.names_eq] at hs;rcases D0.1 hs with h | h
 · split at h
   · rename_i hk
     simp only [E8] at h;exact ⟨[],t,rfl,hk,h.symm⟩
   · simp at h
 · obtain ⟨x,hx,hs⟩:=K3.1 h
   obtain ⟨j,hj,e⟩:=List.getElem_of_mem hx;obtain ⟨q,a,h1,h2,h3⟩:=ih x hx s hs;exact ⟨(j:Int)::q,a,by rw [Hl hj,e]; exact h1,h2,h3⟩
theorem zl:∀ (q:List Int) (t u:Tm),atT t q=some u->∀ s∈u.names,s∈t.names
 | [],t,u,h,s,hs=>by simp only [atT,C9.injEq] at h; subst h; exact hs
 | i::q,t,u,h,s,hs=>by
  obtain ⟨hi,h0,h1⟩:=co h;rw [Tm.names_eq];exact D0.2 (.inr (K3.2 ⟨_,C3 hi,zl q _ u h1 s hs⟩))
theorem My {l u:Tm} {s:ByteArray} {w:Tm} (h:(s,w)∈ji l u):∃ q a,atT l q=some a/\a.k=1/\a.s=s/\w=atO u q:=by
 unfold ji at h;obtain ⟨q,hq,h1⟩:=R4.1 h;obtain ⟨q',a,e,ha⟩:=Sl l [] q hq;simp only [D9] at e;subst e;have e:atO l q=a:=by simp [atO,ha]
 unfold cB1 at h1;rw [e] at h1;split at h1
 · rename_i hk
   simp only [C9.injEq,G7.injEq] at h1;exact ⟨q,a,ha,hk,h1.1,h1.2.symm⟩
 · simp at h1
theorem Hm {l u:Tm} {s:ByteArray} (h:s∈l.names):∃ w,bnd (ji l u) s=some w:=by
 obtain ⟨q,a,h1,h2,h3⟩:=Qj l s h;have hq:=Ld q l [] a h1;simp only [D9] at hq;have e:atO l q=a:=by simp [atO,h1]
 refine zj (w:=atO u q) (R4.2 ⟨q,hq,?_⟩);unfold cB1;rw [e,H5 h2,h3]
theorem Uv {k n:Int} {s:ByteArray} {as:List Tm} (h:(rW1 k n s as).k=2):k=2/\rW1 k n s as=.mk k n s as:=by
 unfold rW1 at h ⊢;split at h
 · split at h
   · exact absurd h (by show ¬(3:Int)=2; decide)
   · rename_i hc; rw [H6 hc]; exact ⟨h,rfl⟩
 · exact ⟨h,rfl⟩
theorem Hn {σ:List Bnd} (hσ:∀ b∈σ,b.2.as=[]/\b.2.k=3) {u:Tm} (hu:u.areN=true) (h:(rW (aS σ u)).k=2):u.k=2/\(rW (aS σ u)).s=u.s/\(rW (aS σ u)).as=u.as.map fun a=>rW (aS σ a):=by
 rw [ja] at h ⊢;obtain ⟨h1,h2⟩:=Uv h;rw [h2];have hk:u.k=2:=by
  rcases dj hu with ⟨q,_⟩|⟨q,_,_⟩ | q
  · rw [ej,H5 q] at h1
    cases hb:bnd σ u.s with
    | some w =>
     rw [hb] at h1;obtain ⟨b,hbm,rfl⟩:=et hb;have:=(hσ b hbm).2;simp only at h1; omega
    | none=>rw [hb] at h1; simp only [Tm.k_mk] at h1; omega
  · rw [ej,H6 (by omega)] at h1; simp only [Tm.k_mk] at h1; omega
  · exact q
 have e:aS σ u=.mk u.k u.n u.s (u.as.map (aS σ)):=by rw [ej,H6 (by omega)]
 refine ⟨hk,?_,?_⟩
 · rw [e]; rfl
 · rw [e,Tm.as_mk,Tm.as_mk,K6]; rfl
theorem Ho {l:List Bnd} (hl:∀ b∈l,b.2.as=[]):∀ (p:List Int) (t u:Tm),atT (rW (aS l t)) p=some u->∃ v,atT t p=some v/\u=rW (aS l v)
 | [],t,u,h=>by simp only [atT,C9.injEq] at h; exact ⟨t,rfl,h.symm⟩
 | i::p,t,u,h=>by
  obtain ⟨hi,h0,h1⟩:=co h;obtain ⟨hi2,e2⟩:=Ts hi;have key:∃ hi3:i.toNat<t.as.length,(aS l t).as[i.toNat]=aS l t.as[i.toNat]:=by
   have hc:(aS l t).as=[]\/(aS l t).as=t.as.map (aS l):=by
    rw [ej];split
    · rename_i v hv
      split at hv
      · obtain ⟨b,hb,rfl⟩:=et hv; exact .inl (hl b hb)
      · simp at hv
    · exact .inr rfl
   rcases hc with e | e
   · rw [e] at hi2; simp at hi2
   · have hi3:i.toNat<t.as.length:=by rw [e] at hi2; simpa using hi2
     exact ⟨hi3,by simp only [e,Q2]⟩
  obtain ⟨hi3,e3⟩:=key;rw [e2,e3] at h1;obtain ⟨v,hv,e⟩:=Ho hl p _ u h1;exact ⟨v,by simp only [atT,dif_pos hi3,H5 h0]; exact hv,e⟩
def Sm (vs vs':List VS):Prop:=∀ s y,fe vs s=some y->fe vs' s=some y
theorem zm (ops:List OpM):∀ (l:List Tm),(∀ t∈l,∀ x vs vs',gq ops t x vs=some vs'->Sm vs vs')->∀ xs vs vs',ey ops l xs vs=some vs'->Sm vs vs'
 | [],_,xs,vs,vs',h=>by simp only [ey,C9.injEq] at h; subst h; exact fun _ _ h=>h
 | t::l,ih,xs,vs,vs',h=>by
  have step:∀ x ys v,gq ops t x vs=some v->ey ops l ys v=some vs'->Sm vs vs':=fun x ys v hq h=>by
   have h1:=ih t (C4 ..) x vs v hq;have h2:=zm ops l (fun a ha=>ih a (C5 _ ha)) ys v vs' h
   exact fun s y hy=>h2 s y (h1 s y hy)
  cases xs with
  | nil =>
   simp only [ey] at h;cases hq:gq ops t e0 vs with
   | none=>rw [hq] at h; simp at h
   | some v=>rw [hq] at h; exact step _ _ _ hq h
  | cons x ys =>
   simp only [ey] at h;cases hq:gq ops t x vs with
   | none=>rw [hq] at h; simp at h
   | some v=>rw [hq] at h; exact step _ _ _ hq h
theorem Qk (ops:List OpM):∀ t:Tm,∀ x vs vs',gq ops t x vs=some vs'->Sm vs vs':=Tm.ind fun t ih x vs vs' h=>by
 rw [kv] at h;split at h
 · split at h
   · split at h
     · simp only [C9.injEq] at h; subst h; exact fun _ _ h=>h
     · simp at h
   · simp only [C9.injEq] at h; subst h
     intro s y hy;rw [ut,hy]
 · exact zm ops t.as ih _ _ _ h
theorem Ql (ops:List OpM) (wvs:List VS) {σ:List Bnd} (hσ:∀ b∈σ,b.2.as=[]/\b.2.k=3):∀ l:Tm,l.areN=true->∀ u x vs vs' acc acc',u.areN=true->av ops wvs u=x->x≠e0->gq ops l x vs=some vs'->mT l (rW (aS σ u)) acc=some acc' →
 ∀ q a,atT l q=some a->a.k=1->∃ w y,atT u q=some w/\fe vs' a.s=some y/\av ops wvs w=y.2:=Tm.ind fun l ih hn u x vs vs' acc acc' hun hu hx hi hm q a ha hk=>by
 rcases dj hn with ⟨h1,has⟩|⟨h3,_,has⟩ | h2
 · cases q with
   | cons i q=>obtain ⟨hlt,_,_⟩:=co ha; rw [has] at hlt; simp at hlt
   | nil =>
    simp only [atT,C9.injEq] at ha;subst ha;rw [kv,H5 h1] at hi;cases hv:fe vs l.s with
    | some y =>
     have hv':=hv;unfold fe at hv;rw [hv] at hi;simp only at hi;split at hi
     · rename_i e
       simp only [C9.injEq] at hi;subst hi;exact ⟨u,y,rfl,hv',by rw [hu]; exact e.symm⟩
     · simp at hi
    | none =>
     have hv':=hv;unfold fe at hv;rw [hv] at hi;simp only [C9.injEq] at hi;subst hi;exact ⟨u,(l.s,x),rfl,by rw [ut,hv']; simp,hu⟩
 · cases q with
   | cons i q=>obtain ⟨hlt,_,_⟩:=co ha; rw [has] at hlt; simp at hlt
   | nil=>simp only [atT,C9.injEq] at ha; subst ha; omega
 · cases q with
   | nil=>simp only [atT,C9.injEq] at ha; subst ha; omega
   | cons i q =>
    rcases ib hm with ⟨e,_⟩|⟨e,_⟩|⟨_,e1,_,e3,e4,hms⟩
    · omega
    · omega
    obtain ⟨b1,b2,b3⟩:=Hn hσ hun (by omega)
    obtain ⟨o,hf,hl,hss,_⟩:=iv (t:=u) b1 (by rw [hu]; exact hx)
    rw [kv,H6 (by omega),H5 h2,e3,b2,hf] at hi
    simp only at hi;rw [b3] at hms e4;rw [B6] at e4;obtain ⟨hlt,h0,h1⟩:=co ha;have key:∀ (ts us:List Tm) (xs:List ByteArray) (vs:List VS) (acc:List Bnd),(∀ t∈ts,t∈l.as)->(∀ t∈us,t∈u.as)->us.length<=xs.length->bj ops wvs us xs=true->ey ops ts xs vs=some vs'->mTs ts (us.map fun a=>rW (aS σ a)) acc=some acc' →
     ∀ j (hj:j<ts.length) (hj':j<us.length),atT ts[j] q=some a->∃ w y,atT us[j] q=some w/\fe vs' a.s=some y/\av ops wvs w=y.2:=by
     intro ts;induction ts with
     | nil=>intro us xs vs acc _ _ _ _ _ _ j hj; simp at hj
     | cons t ts ihs =>
      intro us xs vs acc hts hus hlen hs hi hm j hj hj' hat;cases us with
      | nil=>simp at hj'
      | cons u1 us =>
       cases xs with
       | nil=>simp at hlen
       | cons y xs =>
        simp only [bj,B7,F1,decide_eq_false_iff_not,decide_eq_true_eq] at hs;simp only [ey] at hi;simp only [C2,mTs] at hm;cases hi1:gq ops t y vs with
        | none=>rw [hi1] at hi; simp at hi
        | some vs1 =>
         rw [hi1] at hi;cases hm1:mT t (rW (aS σ u1)) acc with
         | none=>rw [hm1] at hm; simp at hm
         | some acc1 =>
          rw [hm1] at hm;simp only at hi hm;cases j with
          | zero =>
           obtain ⟨w,z,k1,k2,k3⟩:=ih t (hts t (C4 ..)) (dr hn (hts t (C4 ..))) u1 y vs vs1 acc acc1 (dr hun (hus u1 (C4 ..))) hs.1.2 (by rw [<- hs.1.2]; exact hs.1.1) hi1 hm1 q a hat hk
           exact ⟨w,z,k1,zm ops ts (fun t _=>Qk ops t) xs vs1 vs' hi _ _ k2,k3⟩
          | succ j =>
           exact ihs us xs vs1 acc1 (fun t ht=>hts t (C5 _ ht)) (fun t ht=>hus t (C5 _ ht)) (by simpa using hlen) hs.2 hi hm j (by simpa using hj) (by simpa using hj') hat
    have hlt':i.toNat<u.as.length:=by omega
    obtain ⟨w,y,k1,k2,k3⟩:=key l.as u.as o.a vs acc (fun _ h=>h) (fun _ h=>h) (by omega) hss hi hms i.toNat hlt hlt' h1
    exact ⟨w,y,by simp only [atT,dif_pos hlt',H5 h0]; exact k1,k2,k3⟩
theorem Qm {ops:List OpM} {vs vs1:List VS} {l:List Bnd}:∀ t:Tm,t.areN=true->av ops vs t≠e0->(∀ s∈t.names,∃ w,bnd l s=some w/\∀ y,fe vs s=some y->av ops vs1 w=y.2)->av ops vs1 (aS l t)=av ops vs t:=Tm.ind fun t ih hn hs hA=>by
 rw [Tm.names_eq] at hA;rcases dj hn with ⟨h1,ha⟩|⟨h3,_,ha⟩ | h2
 · have e:av ops vs t=pq vs t.s:=by rw [cn,H6 (by omega),H5 h1]
   rw [e] at hs ⊢;rw [Gx] at hs ⊢;cases hv:fe vs t.s with
   | none=>rw [hv] at hs; exact absurd rfl hs
   | some v =>
    obtain ⟨w,hb,hw⟩:=hA t.s (by simp [h1])
    rw [ej,H5 h1,hb];exact hw v hv
 · rw [ej,H6 (by omega)]
   rw [cn,cn ops vs,H5 (show (Tm.mk t.k t.n t.s _).k=3 from h3),H5 h3]
 · obtain ⟨o,hf,hl,hss,e⟩:=iv h2 hs
   rw [ej,H6 (by omega),e]
   have key:∀ (ts:List Tm) (xs:List ByteArray),(∀ a∈ts,a∈t.as)->bj ops vs ts xs=true->bj ops vs1 (ts.map (aS l)) xs=true:=by
    intro ts;induction ts with
    | nil=>intro xs _ _; rfl
    | cons a ts ihs =>
     intro xs hts h;cases xs with
     | nil=>rfl
     | cons y xs =>
      simp only [bj,B7,F1,decide_eq_false_iff_not,decide_eq_true_eq] at h;have hm:=hts a (C4 ..);have q:=ih a hm (dr hn hm) h.1.1 fun s hs=>hA s (D0.2 (.inr (K3.2 ⟨a,hm,hs⟩)))
      simp only [C2,bj,B7,F1,decide_eq_false_iff_not,decide_eq_true_eq,q];exact ⟨h.1,ihs xs (fun z hz=>hts z (C5 _ hz)) h.2⟩
   exact kj (t:=.mk t.k t.n t.s (t.as.map (aS l))) h2 hf (by simpa [Tm.as] using hl) (key _ _ (fun _ h=>h) hss)
theorem Eb {ops:List OpM} {vs:List VS}:∀ (p:List Int) (t u:Tm),t.areN=true->av ops vs t≠e0->atT t p=some u->u.areN=true/\av ops vs u≠e0
 | [],t,u,hn,hs,h=>by simp only [atT,C9.injEq] at h; subst h; exact ⟨hn,hs⟩
 | i::p,t,u,hn,hs,h=>by
  obtain ⟨hi,h0,h1⟩:=co h;have h2:t.k=2:=by
   rcases dj hn with ⟨_,q⟩|⟨_,_,q⟩ | h2
   · rw [q] at hi; simp at hi
   · rw [q] at hi; simp at hi
   · exact h2
  obtain ⟨o,hf,hl,hss,e⟩:=iv h2 hs;exact Eb p _ u (dr hn (C3 hi)) (lj ops vs t.as o.a (by omega) hss _ (C3 hi)) h1
theorem Hp {ops:List OpM} {vs:List VS} {w:Tm} (hw:w.areN=true):∀ (p:List Int) (t u:Tm),t.areN=true->av ops vs t≠e0->atT t p=some u->av ops vs w=av ops vs u->(dt t p w).areN=true/\av ops vs (dt t p w)=av ops vs t
 | [],t,u,hn,hs,h,he=>by simp only [atT,C9.injEq] at h; subst h; exact ⟨hw,he⟩
 | i::p,t,u,hn,hs,h,he=>by
  obtain ⟨hi,h0,h1⟩:=co h;have h2:t.k=2:=by
   rcases dj hn with ⟨_,q⟩|⟨_,_,q⟩ | h2
   · rw [q] at hi; simp at hi
   · rw [q] at hi; simp at hi
   · exact h2
  obtain ⟨o,hf,hl,hss,e⟩:=iv h2 hs;have hm:=C3 hi;obtain ⟨g1,g2⟩:=Hp hw p _ u (dr hn hm) (lj ops vs t.as o.a (by omega) hss _ hm) h1 he
  simp only [dt,dif_pos hi];refine ⟨xb hn (by simp) fun a ha=>?_,?_⟩
  · rcases K5 ha with q | q
    · exact dr hn q
    · exact q▸g1
  · rw [e]
    refine kj (t:=.mk t.k t.n t.s _) h2 hf (by rw [Tm.as_mk,P7]; exact hl) ?_
    rw [Tm.as_mk,ql t.as o.a i.toNat hi _ g2]; exact hss
theorem Qn {l:List Bnd}:∀ t:Tm,∀ s∈(aS l t).names,(s∈t.names/\bnd l s=none)\/∃ b∈l,s∈b.2.names:=Tm.ind fun t ih s hs=>by
 rw [ej] at hs;by_cases hk:t.k=1
 · rw [H5 hk] at hs
   cases hb:bnd l t.s with
   | some v =>
    rw [hb] at hs;obtain ⟨b,h1,rfl⟩:=et hb;exact .inr ⟨b,h1,hs⟩
   | none =>
    rw [hb] at hs;simp only at hs;rw [Tm.names_eq,Tm.k_mk,H5 hk] at hs;rcases D0.1 hs with h | h
    · simp only [E8] at h
      have h:s=t.s:=h;exact .inl ⟨by rw [Tm.names_eq,H5 hk]; simp [h],by rw [h]; exact hb⟩
    · obtain ⟨x,hx,hs⟩:=K3.1 h
      obtain ⟨a,ha,rfl⟩:=G5.1 hx;rcases ih a ha s hs with ⟨q1,q2⟩ | q
      · exact .inl ⟨by rw [Tm.names_eq]; exact D0.2 (.inr (K3.2 ⟨a,ha,q1⟩)),q2⟩
      · exact .inr q
 · rw [H6 hk] at hs
   simp only at hs;rw [Tm.names_eq,Tm.k_mk,H6 hk,D9] at hs;obtain ⟨x,hx,hs⟩:=K3.1 hs;obtain ⟨a,ha,rfl⟩:=G5.1 hx;rcases ih a ha s hs with ⟨q1,q2⟩ | q
   · exact .inl ⟨by rw [Tm.names_eq]; exact D0.2 (.inr (K3.2 ⟨a,ha,q1⟩)),q2⟩
   · exact .inr q
theorem Bz {w:Tm}:∀ (p:List Int) (t:Tm),∀ s∈(dt t p w).names,s∈t.names\/s∈w.names
 | [],t,s,hs=>.inr hs
 | i::p,t,s,hs=>by
  simp only [dt] at hs;split at hs
  · rename_i hi
    rw [Tm.names_eq,Tm.k_mk,Tm.as_mk] at hs;rw [Tm.names_eq];rcases D0.1 hs with h | h
    · exact .inl (D0.2 (.inl h))
    · obtain ⟨x,hx,hs⟩:=K3.1 h
      rcases K5 hx with q | q
      · exact .inl (D0.2 (.inr (K3.2 ⟨x,q,hs⟩)))
      · subst q
        rcases Bz p _ s hs with q | q
        · exact .inl (D0.2 (.inr (K3.2 ⟨_,C3 hi,q⟩)))
        · exact .inr q
  · exact .inl hs
theorem Le {vars:List ByteArray} {c:Int}:∀ b∈cf vars c,b.2.as=[]/\b.2.k=3:=fun b hb=>by
 unfold cf at hb;simp only [G5] at hb;obtain ⟨p,_,rfl⟩:=hb;exact ⟨rfl,rfl⟩
theorem Ji {ops:List OpM} {r:RuM} (h:jf ops r=true):∀ s∈r.r.names,s∈r.l.names:=by
 unfold jf at h;simp only [B7,decide_eq_true_eq] at h;obtain ⟨_,_,_,_,_,h4⟩:=h;cases hf:dm ops r.l.s with
 | none=>rw [hf] at h4; simp at h4
 | some o =>
  rw [hf] at h4;simp only at h4;cases hi:nz ops r.l o.r with
  | none=>rw [hi] at h4; simp at h4
  | some vs =>
   rw [hi] at h4;simp only [B7] at h4;exact fq.1 h4.2.1
theorem Qo {d:DfM} {v:List ByteArray} {t:Tm} (hb:DfB d) (hw:Wt t) (hs:kn d v t=true) {c:Int} (hc:isC v.length c=true) {x:Nat×List Int} (hx:nx d (fo v t c)=some x) (hv:(db d t x).valid=true):kn d v (db d t x)=true:=by
 obtain ⟨hd,htn,hg,hgn,_⟩:=zh hb hw hs hc;have hs':=hs;simp only [kn,B7,F1,decide_eq_false_iff_not] at hs' ⊢;obtain ⟨s1,s2,s3,s4,s5,s6,s7⟩:=hs';refine ⟨s1,s2,s3,s4,hv,?_⟩;have hna:=dn s5;obtain ⟨u',r,w',q1,q2,q3⟩:=xc d (fo v t c) x.1 x.2 hx;obtain ⟨u,hu,rfl⟩:=Ho (Hh v c) x.2 t u' q1;obtain ⟨hun,hus⟩:=Eb x.2 t u hna s7 hu;have hr:=hd.ru (O0 q2);have hrw:∀ s∈r.r.names,s∈r.l.names:=by
  have:=hd.v;simp only [DfM.valid,B7,E4] at this;exact Ji (this.2.2.2.1 r (O0 q2))
 unfold fv at q3;cases hm:mT r.l (rW (aS (cf v c) u)) [] with
 | none=>rw [hm] at q3; simp at q3
 | some l' =>
 obtain ⟨o,vs,hf,hi,hso⟩:=hr.inf;have hk:(rW (aS (cf v c) u)).k=2/\(rW (aS (cf v c) u)).s=r.l.s:=by
  rcases ib hm with ⟨q,_⟩|⟨q,_⟩|⟨_,q1,_,q2,_⟩
  · have:=hr.lk; omega
  · have:=hr.lk; omega
  · exact ⟨by rw [<- q1]; exact hr.lk,q2.symm⟩
 obtain ⟨b1,b2,b3⟩:=Hn Le hun hk.1;obtain ⟨o',hf',hl',hss',he'⟩:=iv b1 hus;rw [<- b2,hk.2,hf] at hf';simp only [C9.injEq] at hf';subst hf';have hne:o.r≠e0:=he'▸hus;have hP:=Ql d.op (wv v) Le r.l (dn hr.lv) u o.r [] vs [] l' hun he' hne (ta hi) hm
 -- bindings
 have hB:∀ b∈ji r.l (atO t x.2),∃ q a y,atT r.l q=some a/\a.k=1/\a.s=b.1/\atT u q=some b.2/\fe vs b.1=some y/\av d.op (wv v) b.2=y.2:=fun b hb'=>by
  obtain ⟨s,w⟩:=b;obtain ⟨q,a,k1,k2,k3,k4⟩:=My hb';have eu:atO t x.2=u:=by simp [atO,hu]
  obtain ⟨w2,y,m1,m2,m3⟩:=hP q a k1 k2;have ew:w=w2:=by rw [k4,eu]; simp [atO,m1]
  subst ew;exact ⟨q,a,y,k1,k2,k3,m1,by rw [<- k3]; exact m2,m3⟩
 have hBn:∀ b∈ji r.l (atO t x.2),b.2.areN=true:=fun b hb'=>by
  obtain ⟨q,a,y,_,_,_,m1,_⟩:=hB b hb';exact (Eb q u b.2 hun hus m1).1
 have hBw:∀ b∈ji r.l (atO t x.2),∀ s∈b.2.names,s∈t.names:=fun b hb' s hs=>by
  obtain ⟨q,a,y,_,_,_,m1,_⟩:=hB b hb';exact zl x.2 t u hu s (zl q u b.2 m1 s hs)
 have hrn:=Dv hBn r.r (dn hr.rv);have hrs:av d.op (wv v) (aS (ji r.l (atO t x.2)) r.r)=o.r:=by
  rw [<- hso];refine Qm r.r (dn hr.rv) (by rw [hso]; exact hne) fun s hs=>?_
  obtain ⟨w,hbw⟩:=Hm (u:=atO t x.2) (hrw s hs);refine ⟨w,hbw,fun y hy=>?_⟩
  obtain ⟨q,a,y',_,_,_,_,m2,m3⟩:=hB _ (Hk hbw);rw [hy] at m2;simp only [C9.injEq] at m2;rw [m2]; exact m3
 obtain ⟨p1,p2⟩:=Hp hrn x.2 t u hna s7 hu (by rw [hrs,he'])
 have ec:db d t x=rW (dt t x.2 (aS (ji r.l (atO t x.2)) r.r)):=by
  unfold db; rw [q2]
 rw [ec];refine ⟨fq.2 fun s hs=>?_,by rw [Du d.op (wv v) _ p1 (by rw [p2]; exact s7),p2]; exact s7⟩
 rw [yr] at hs;refine fq.1 s6 s ?_;rcases Bz x.2 t s hs with h | h
 · exact h
 · rcases Qn r.r s h with ⟨h1,h2⟩|⟨b,h1,h2⟩
   · obtain ⟨w,hbw⟩:=Hm (u:=atO t x.2) (hrw s h1)
     rw [hbw] at h2; simp at h2
   · exact hBw b h1 s h2
end Go.Q
end
section
/- Proofs of claims. -/
namespace Go.Q
open Go
structure PnM where
 k:Int
 nx:List Int
 c:Int
 s:List Bnd
def PnM.row (n:PnM):List D:=[.int n.k,.sl (n.nx.map am),.int n.c,.sl (n.s.map Bnd.row)]
structure PnB (n:PnM):Prop where
 nx:n.nx.length<=1048576
 s:n.s.length<=1048576
 b:∀ b∈n.s,bb b.2
theorem Mz {n:Nat} {c:Int}:∀ (r:List Int) (p:Option Int),(∀ q,p=some q->q<=c)->jh n (some c) r=true->jh n p r=true
 | [],_,_,_=>rfl
 | x::r,p,hp,h=>by
  simp only [jh,B7,F1,decide_eq_false_iff_not] at h ⊢;refine ⟨h.1,?_,h.2.2⟩;cases p with
  | none=>rfl
  | some q=>simp only [F1,decide_eq_false_iff_not]; have:=hp q rfl; omega
theorem Na {n:Nat} {p:Option Int} {c:Int} {r:List Int} (h:jh n p (c::r)=true):jh n p r=true:=by
 simp only [jh,B7] at h;refine Mz r p (fun q hq=>?_) h.2.2
 subst hq;have:=h.2.1;simp only [F1,decide_eq_false_iff_not] at this;omega
theorem Hq {n:Nat} {l cl:List Int} (h:l.Sublist cl):∀ p,jh n p cl=true->jh n p l=true:=by
 induction h with
 | slnil=>intro p h; exact h
 | cons a _ ih=>intro p h; exact ih p (Na h)
 | cons_cons a _ ih =>
  intro p h;simp only [jh,B7] at h ⊢;exact ⟨h.1,h.2.1,ih _ h.2.2⟩
def pvI:Option Int->Int
 | some q=>if 0<=q then q+1 else 0
 | none=>0
theorem Hr {n:Nat}:∀ (cl:List Int) (p:Option Int),jh n p cl=true->(cl.length:Int)<=64-pvI p\/cl=[]
 | [],p,_=>.inr rfl
 | c::r,p,h=>by
  simp only [jh,B7] at h;have hc:=mg h.1;left;have h1:=Hr r (some c) h.2.2;have hpc:pvI p<=c:=by
   cases p with
   | none=>exact hc.2.1
   | some q =>
    have:=h.2.1;simp only [F1,decide_eq_false_iff_not] at this;show (if 0<=q then q+1 else 0)<=c
    split <;> omega
  simp only [C1];rcases h1 with h1 | h1
  · have e:pvI (some c)=c+1:=by show (if 0<=c then c+1 else 0)=c+1; rw [H5 hc.2.1]
    rw [e] at h1; omega
  · subst h1; simp only [C7]; omega
theorem Lf {d:DfM} {v:List ByteArray} {t:Tm}:∀ (l P:List Int) (out:List (Bk×List Int)),(∀ b∈out,b.2.Sublist P/\∃ c∈P,nx d (fo v t c)=b.1)->∀ b∈brF d v t l out,b.2.Sublist (P++l)/\∃ c∈P++l,nx d (fo v t c)=b.1
 | [],P,out,h=>by simpa only [brF,G9] using h
 | c::r,P,out,h=>by
  have h1:∀ b∈pn out (nx d (fo v t c)) c,b.2.Sublist (P++[c])/\∃ c'∈P++[c],nx d (fo v t c')=b.1:=fun b hb=>by
   have old:∀ b∈out,b.2.Sublist (P++[c])/\∃ c'∈P++[c],nx d (fo v t c')=b.1:=fun b hb=>by
    obtain ⟨k1,c',k2,k3⟩:=h b hb;exact ⟨k1.trans (List.sublist_append_left ..),c',D0.2 (.inl k2),k3⟩
   unfold pn at hb;split at hb
   · split at hb
     · rename_i q hq
       rcases K5 hb with hb | hb
       · exact old b hb
       · subst hb
         obtain ⟨k1,c',k2,k3⟩:=h q (O0 hq);exact ⟨List.Sublist.append k1 (List.Sublist.refl _),c',D0.2 (.inl k2),k3⟩
     · exact old b hb
   · rcases D0.1 hb with hb | hb
     · exact old b hb
     · simp only [E8] at hb; subst hb
       exact ⟨List.sublist_append_right ..,c,by simp,rfl⟩
  have:=Lf r (P++[c]) _ h1;simpa only [brF,E3,F5,D9] using this
structure StG (d:DfM) (v:List ByteArray) (t:Tm) (cl:List Int):Prop where
 w:Wt t
 s:kn d v t=true
 c:jh v.length none cl=true
theorem StG.n {d:DfM} {v:List ByteArray} {t:Tm} {cl:List Int} (h:StG d v t cl):t.nodes<=60:=by
 have:=h.s;simp only [kn,B7] at this;exact aw this.2.2.2.2.1
theorem StG.l {d:DfM} {v:List ByteArray} {t:Tm} {cl:List Int} (h:StG d v t cl):cl.length<=64:=by
 rcases Hr cl none h.c with k | k
 · simp only [pvI] at k; omega
 · subst k; simp
theorem StG.op {d:DfM} {v:List ByteArray} {t:Tm} {cl:List Int} (h:StG d v t cl) {l:List Int} (hl:l.Sublist cl):StG d v t l:=⟨h.w,h.s,Hq hl none h.c⟩
theorem StG.next {d:DfM} (hb:DfB d) {v:List ByteArray} {t:Tm} {cl:List Int} (h:StG d v t cl) {b:Bk×List Int} (hm:b∈brF d v t cl []) (hk:bK d t b.1=2):StG d v (bT d t b.1) b.2:=by
 obtain ⟨h1,c,h2,h3⟩:=Lf (d:=d) (v:=v) (t:=t) cl [] [] (by simp) b hm
 simp only [D9] at h1 h2;have hc:=og cl none h.c c h2;obtain ⟨bk,bl⟩:=b;simp only at h3 hk h1 ⊢;cases bk with
 | none=>exact absurd hk (by show ¬(1:Int)=2; decide)
 | some y =>
  have hv:(db d t y).valid=true:=by
   cases hq:(db d t y).valid with
   | true=>rfl
   | false =>
    have:bK d t (some y)=3:=by show (if (db d t y).valid=true then (2:Int) else 3)=3; rw [hq]; rfl
    omega
  have e:bT d t (some y)=db d t y:=by show (if (db d t y).valid=true then db d t y else tm0)=_; rw [H5 hv]
  rw [e];obtain ⟨hd,_,_,_,hx⟩:=zh hb h.w h.s hc;rw [h3] at hx;exact ⟨(Ea hd h.w h.n (hx.i y rfl).2.1).1,Qo hb h.w h.s hc h3 hv,Hq h1 none h.c⟩
end Go.Q
namespace Go.Q.S
open Go Go.Q
end Go.Q.S
end
section
/- Starts of claims; rows of claims. -/
namespace Go.Q
open Go
end Go.Q
namespace Go.Q.S
open Go Go.Q
end Go.Q.S
end
section
/- Lists of proofs; verdicts. -/
namespace Go.Q
open Go
end Go.Q
namespace Go.Q.S
open Go Go.Q
end Go.Q.S
end
section
/- The search for proofs. -/
namespace Go.Q
open Go
structure Wb (n:PnM):Prop where
 k:0<=n.k/\n.k<=3
 nl:n.nx.length<=64
 ni:∀ j∈n.nx,0<=j/\j<=60
 c:0<=n.c/\n.c<=3
 sl:n.s.length<=60
 sb:∀ b∈n.s,b.1.size<=maxLen/\Wt b.2/\b.2.nodes<=60
end Go.Q
namespace Go.Q
open Go
end Go.Q
namespace Go.Q
open Go
end Go.Q
end
section
/- The rows of the proofs that are found. -/
namespace Go.Q
open Go
end Go.Q
end
section
/- Paths and tests of symbolic terms. -/
namespace Go.Q
open Go
abbrev Stp:=Nat×List Int
structure PtM where
 k:Int
 st:List Stp
 t:Tm
 c:List Int
def PtM.row (v:List ByteArray) (p:PtM):List D:=[.int p.k,.sl (p.st.map oe),.sl (v.map ai),.int p.t.k,.int p.t.n,.str p.t.s,.sl (p.t.as.map Tm.row),.sl (p.c.map am)]
end Go.Q
end
section
/- One step of a symbolic term. -/
namespace Go.Q
open Go
end Go.Q
end
section
/- A match makes the pattern equal to the term; drawn terms. -/
namespace Go.Q
open Go
theorem Sn:∀ t u:Tm,t.row=u.row->t=u:=Tm.ind fun t ih u h=>by
 rw [Tm.row_eq,Tm.row_eq u] at h;simp only [P2.injEq,D.int.injEq,D.str.injEq,D.sl.injEq,and_true] at h;obtain ⟨h1,h2,h3,h4⟩:=h;have key:∀ (xs ys:List Tm),(∀ a∈xs,a∈t.as)->xs.map Tm.row=ys.map Tm.row->xs=ys:=by
  intro xs;induction xs with
  | nil=>intro ys _ h; cases ys with
   | nil=>rfl
   | cons y ys=>simp at h
  | cons x xs ihx =>
   intro ys hm h;cases ys with
   | nil=>simp at h
   | cons y ys =>
    simp only [C2,P2.injEq] at h;rw [ih x (hm x (C4 ..)) y h.1,ihx ys (fun a ha=>hm a (C5 _ ha)) h.2]
 have e:=key t.as u.as (fun _ h=>h) h4
 cases t; cases u
 simp only [Tm.k,Tm.n,Tm.s,Tm.as] at h1 h2 h3 e;rw [h1,h2,h3,e]
theorem Uw {t u:Tm}:eqb t.row u.row=true↔t=u:=by
 rw [iu]; exact ⟨Sn t u,fun h=>by rw [h]⟩
def Ext (l l':List Bnd):Prop:=∀ s v,bnd l s=some v->bnd l' s=some v
theorem Ext.refl (l:List Bnd):Ext l l:=fun _ _ h=>h
theorem Ext.trans {a b c:List Bnd} (h:Ext a b) (k:Ext b c):Ext a c:=fun s v e=>k s v (h s v e)
inductive Dt (m:Nat):Tm->Prop
 | var {s:ByteArray}:s.size<=m->Dt m (.mk 1 0 s [])
 | word {n:Int}:0<=n->n<=255->Dt m (.mk 3 n ⟨#[]⟩ [])
 | app {s:ByteArray} {as:List Tm}:s.size<=m->as.length<=2->(∀ a∈as,Dt m a)->Dt m (.mk 2 0 s as)
theorem Dt.sub {m:Nat} {t a:Tm} (h:Dt m t) (ha:a∈t.as):Dt m a:=by
 cases h with
 | var _=>simp [Tm.as] at ha
 | word=>simp [Tm.as] at ha
 | app _ _ h=>exact h a ha
theorem Dt.mono {m n:Nat} {t:Tm} (h:Dt m t) (hn:m<=n):Dt n t:=by
 induction h with
 | var h=>exact .var (G8 h hn)
 | word h1 h2=>exact .word h1 h2
 | app h1 h2 _ ih=>exact .app (G8 h1 hn) h2 ih
theorem Dt.aS {m:Nat} {l:List Bnd} (hl:∀ b∈l,Dt m b.2):∀ t,Dt m t->Dt m (aS l t):=Tm.ind fun t ih h=>by
 rw [ej];split
 · rename_i u hu
   split at hu
   · obtain ⟨b,h1,rfl⟩:=et hu; exact hl b h1
   · simp at hu
 · cases h with
   | var h=>exact .var h
   | word h1 h2=>exact .word h1 h2
   | @app s as h1 h2 h3 =>
    refine .app h1 (by simpa [Tm.as] using h2) fun a ha=>?_
    simp only [Tm.as,G5] at ha;obtain ⟨b,hb,rfl⟩:=ha;exact ih b hb (h3 b hb)
/- Variables get an ending. -/
end Go.Q
end
section
/- Compositions of substitutions; unification. -/
namespace Go.Q
open Go
theorem oj {l:List Bnd} {t v:Tm} (hk:t.k=1) (h:bnd l t.s=some v):aS l t=v:=by
 rw [ej,H5 hk,h]
theorem jj {l:List Bnd} {t:Tm} (h:t.k=1->bnd l t.s=none):aS l t=.mk t.k t.n t.s (t.as.map (aS l)):=by
 rw [ej];by_cases hk:t.k=1
 · rw [H5 hk,h hk]
 · rw [H6 hk]
def cmS (a b:List Bnd):List Bnd:=a.map (fun x=>(x.1,aS b x.2))++b.filter fun x=>(bnd a x.1).isNone
theorem Lg (f:Tm->Tm) (s:ByteArray):∀ a:List Bnd,bnd (a.map fun x=>(x.1,f x.2)) s=(bnd a s).map f
 | []=>rfl
 | b::a=>by
  simp only [C2,bnd];by_cases h:b.1=s
  · rw [H5 h,H5 h]; rfl
  · rw [H6 h,H6 h,Lg f s a]
theorem zn (a:List Bnd) (s:ByteArray) (h:bnd a s=none):∀ b:List Bnd,bnd (b.filter fun x=>(bnd a x.1).isNone) s=bnd b s
 | []=>rfl
 | x::b=>by
  have ih:=zn a s h b;rw [O8];by_cases e:x.1=s
  · rw [H5 (by rw [e,h]; rfl)]
    simp only [bnd,H5 e]
  · split
    · simp only [bnd,H6 e,ih]
    · simp only [bnd,H6 e,ih]
theorem ph (a b:List Bnd) (s:ByteArray):bnd (cmS a b) s=match bnd a s with
 | some u=>some (aS b u)
 | none=>bnd b s:=by
 unfold cmS;rw [Ds,Lg];cases h:bnd a s with
 | some u=>rfl
 | none=>simp only [Option.map_none]; exact zn a s h b
theorem Ec (a b:List Bnd):∀ t,aS (cmS a b) t=aS b (aS a t):=Tm.ind fun t ih=>by
 have hm:t.as.map (aS (cmS a b))=(t.as.map (aS a)).map (aS b):=by
  rw [K6]; exact N1 fun x hx=>ih x hx
 have hc:=ph a b t.s;by_cases hk:t.k=1
 · cases ha:bnd a t.s with
   | some u =>
    rw [ha] at hc;rw [oj hk hc,oj hk ha]
   | none =>
    rw [ha] at hc;rw [jj (l:=a) fun _=>ha]
    cases hb:bnd b t.s with
    | some u =>
     rw [oj hk (hc.trans hb),oj (t:=.mk t.k t.n t.s (t.as.map (aS a))) hk hb]
    | none =>
     rw [jj fun _=>hc.trans hb,jj (t:=.mk t.k t.n t.s (t.as.map (aS a))) fun _=>hb,hm]; rfl
 · rw [jj fun h=>absurd h hk,jj (l:=a) fun h=>absurd h hk,jj (t:=.mk t.k t.n t.s (t.as.map (aS a))) fun h=>absurd h hk,hm]; rfl
theorem Tm.mk_eta (t:Tm):Tm.mk t.k t.n t.s t.as=t:=by cases t; rfl
theorem fj (t:Tm) (w:ByteArray):w∈t.names↔(t.k=1/\w=t.s)\/∃ a∈t.as,w∈a.names:=by
 rw [Tm.names_eq,D0,K3];by_cases hk:t.k=1
 · rw [H5 hk]; simp [hk]
 · rw [H6 hk]; simp [hk]
theorem Qp (k n:Int) (s:ByteArray) (as:List Tm) (w:ByteArray):w∈(Tm.mk k n s as).names↔(k=1/\w=s)\/∃ a∈as,w∈a.names:=fj _ w
theorem Jj (l:List Bnd) (w:ByteArray):∀ t,w∈(aS l t).names->(w∈t.names/\bnd l w=none)\/∃ s v,s∈t.names/\bnd l s=some v/\w∈v.names:=Tm.ind fun t ih h=>by
 by_cases hb:∃ v,t.k=1/\bnd l t.s=some v
 · obtain ⟨v,hk,hb⟩:=hb
   rw [oj hk hb] at h;exact .inr ⟨t.s,v,(fj t _).2 (.inl ⟨hk,rfl⟩),hb,h⟩
 · have hf:t.k=1->bnd l t.s=none:=fun hk=>by
    cases hq:bnd l t.s with
    | none=>rfl
    | some v=>exact absurd ⟨v,hk,hq⟩ hb
   rw [jj hf,Qp] at h;rcases h with ⟨hk,rfl⟩|⟨a,ha,hw⟩
   · exact .inl ⟨(fj t _).2 (.inl ⟨hk,rfl⟩),hf hk⟩
   · obtain ⟨c,hc,rfl⟩:=G5.1 ha
     rcases ih c hc hw with ⟨h1,h2⟩|⟨s,v,h1,h2,h3⟩
     · exact .inl ⟨(fj t _).2 (.inr ⟨c,hc,h1⟩),h2⟩
     · exact .inr ⟨s,v,(fj t _).2 (.inr ⟨c,hc,h1⟩),h2,h3⟩
def Fx (l:List Bnd) (t:Tm):Prop:=∀ w∈t.names,bnd l w=none
theorem Fx.sub {l:List Bnd} {t a:Tm} (h:Fx l t) (ha:a∈t.as):Fx l a:=fun w hw=>h w ((fj t w).2 (.inr ⟨a,ha,hw⟩))
theorem Ux {l:List Bnd}:∀ t,Fx l t->aS l t=t:=Tm.ind fun t ih h=>by
 rw [jj fun hk=>h _ ((fj t _).2 (.inl ⟨hk,rfl⟩))]
 have:t.as.map (aS l)=t.as:=by
  conv=>rhs; rw [<- List.map_id t.as]
  exact N1 fun a ha=>ih a ha (h.sub ha)
 rw [this,Tm.mk_eta]
def Idm (l:List Bnd):Prop:=∀ s v,bnd l s=some v->Fx l v
theorem Tu {l:List Bnd} (h:Idm l) (t:Tm):Fx l (aS l t):=fun w hw=>by
 rcases Jj l w t hw with ⟨_,h1⟩|⟨s,v,_,h2,h3⟩
 · exact h1
 · exact h s v h2 w h3
theorem pj (s w:ByteArray) (y:Tm):bnd [(s,y)] w=if s=w then some y else none:=by simp [bnd]
theorem Ca {s w:ByteArray} {y t:Tm} (hs:s∉y.names) (hw:w∈(aS [(s,y)] t).names):w≠s/\(w∈t.names\/w∈y.names):=by
 rcases Jj _ w t hw with ⟨h1,h2⟩|⟨s',v,h1,h2,h3⟩
 · rw [pj] at h2
   refine ⟨fun e=>?_,.inl h1⟩
   rw [H5 e.symm] at h2; exact absurd h2 (by simp)
 · rw [pj] at h2
   split at h2
   · rename_i e
     simp only [C9.injEq] at h2;subst h2;exact ⟨fun e=>hs (e▸h3),.inr h3⟩
   · simp at h2
theorem Uy {l:List Bnd} (h:Idm l) {s:ByteArray} {y:Tm} (hy:Fx l y) (hs:s∉y.names):Idm (cmS l [(s,y)]):=by
 have key:∀ w,bnd l w=none->w≠s->bnd (cmS l [(s,y)]) w=none:=fun w h1 h2=>by
  rw [ph,h1]; simp only; rw [pj,H6 (Ne.symm h2)]
 intro s' v hv w hw;rw [ph] at hv;cases hq:bnd l s' with
 | some u =>
  rw [hq] at hv;simp only [C9.injEq] at hv;subst hv;obtain ⟨h1,h2⟩:=Ca hs hw;exact key w (by rcases h2 with h2 | h2; exact h s' u hq w h2; exact hy w h2) h1
 | none =>
  rw [hq] at hv;simp only at hv;rw [pj] at hv;split at hv
  · simp only [C9.injEq] at hv
    subst hv;exact key w (hy w hw) (fun e=>hs (e▸hw))
  · simp at hv
inductive Cov:List Tm->Tm->Prop
 | one {t:Tm}:Cov [t] t
 | drop {x:Tm} {xs:List Tm} {t:Tm}:Cov (x::xs) t->Cov xs t
 | args {x:Tm} {xs:List Tm} {t:Tm}:Cov (x::xs) t->x.k≠1->Cov (x.as++xs) t
theorem Cov.nodes {xs:List Tm} {t:Tm} (h:Cov xs t):(xs.map Tm.nodes).sum<=t.nodes:=by
 induction h with
 | one=>simp
 | drop _ ih=>simp only [C2,J7] at ih; omega
 | @args x xs t _ _ ih =>
  simp only [C2,J7] at ih;rw [D5,List.sum_append];have:=Tm.nodes_eq x;omega
theorem Cov.names {xs:List Tm} {t:Tm} (h:Cov xs t):∀ x∈xs,∀ w∈x.names,w∈t.names:=by
 induction h with
 | one=>intro x hx w hw; rw [E8.1 hx] at hw; exact hw
 | drop _ ih=>exact fun x hx=>ih x (C5 _ hx)
 | @args x xs t _ _ ih =>
  intro z hz w hw;rcases D0.1 hz with hz | hz
  · exact ih x (C4 ..) w ((fj x w).2 (.inr ⟨z,hz,hw⟩))
  · exact ih z (C5 _ hz) w hw
theorem Cov.sub {xs:List Tm} {t:Tm} (r:List Bnd) (h:Cov xs t):Cov (xs.map (aS r)) (aS r t):=by
 induction h with
 | one=>exact .one
 | drop _ ih=>exact .drop ih
 | @args x xs t _ hk ih =>
  have e:aS r x=.mk x.k x.n x.s (x.as.map (aS r)):=jj fun h=>absurd h hk
  rw [C2,e] at ih;rw [D5];exact ih.args hk
open Classical in
noncomputable def trt (x y:Tm) (l:List Bnd):Option (List Bnd×List (Tm×Tm)) :=
 if eqb x.row y.row=true then some (l,[]) else
 if x.k=1 then (if x.s∈y.names then none else some (cmS l [(x.s,y)],[])) else
 if y.k=1 then (if y.s∈x.names then none else some (cmS l [(y.s,x)],[])) else
 if x.k=2/\y.k=2/\x.s=y.s/\x.as.length=y.as.length then some (l,x.as.zip y.as) else none
def lrg (l:List Bnd):Bool:=l.any fun b=>decide (400<b.2.nodes)
theorem Nb {x y:Tm} {l l1:List Bnd} {m:List (Tm×Tm)} (h:trt x y l=some (l1,m)) :
 (x=y/\l1=l/\m=[])\/(∃ v u,(x.k=1/\v=x.s/\u=y\/y.k=1/\v=y.s/\u=x)/\v∉u.names/\l1=cmS l [(v,u)]/\m=[]) ∨
 (x.k=2/\y.k=2/\x.s=y.s/\x.as.length=y.as.length/\l1=l/\m=x.as.zip y.as):=by
 unfold trt at h;split at h
 · rename_i e
   simp only [C9.injEq,G7.injEq] at h;exact .inl ⟨Uw.1 e,h.1.symm,h.2.symm⟩
 split at h
 · rename_i hk
   split at h
   · simp at h
   · rename_i hn
     simp only [C9.injEq,G7.injEq] at h;exact .inr (.inl ⟨x.s,y,.inl ⟨hk,rfl,rfl⟩,hn,h.1.symm,h.2.symm⟩)
 split at h
 · rename_i hk
   split at h
   · simp at h
   · rename_i hn
     simp only [C9.injEq,G7.injEq] at h;exact .inr (.inl ⟨y.s,x,.inr ⟨hk,rfl,rfl⟩,hn,h.1.symm,h.2.symm⟩)
 split at h
 · rename_i hc
   simp only [C9.injEq,G7.injEq] at h;exact .inr (.inr ⟨hc.1,hc.2.1,hc.2.2.1,hc.2.2.2,h.1.symm,h.2.symm⟩)
 · simp at h
def ub (V:List ByteArray) (l:List Bnd):Nat:=(V.filter fun w=>(bnd l w).isNone).length
theorem Wc {V:List ByteArray} {l:List Bnd} {s:ByteArray} {y:Tm} (hs:s∈V) (hb:bnd l s=none):ub V (cmS l [(s,y)])<ub V l:=by
 unfold ub;have hle:∀ w,(bnd (cmS l [(s,y)]) w).isNone=true->(bnd l w).isNone=true:=fun w h=>by
  rw [ph] at h;cases hq:bnd l w with
  | none=>rfl
  | some u=>rw [hq] at h; simp at h
 have hS:bnd (cmS l [(s,y)]) s=some y:=by
  rw [ph,hb]; simp only; rw [pj,H5 rfl]
 have hgen:∀ V:List ByteArray,(V.filter fun w=>(bnd (cmS l [(s,y)]) w).isNone).length<=(V.filter fun w=>(bnd l w).isNone).length:=by
  intro V;induction V with
  | nil=>simp
  | cons w V ih =>
   rw [O8,O8];by_cases h:(bnd (cmS l [(s,y)]) w).isNone=true
   · rw [H5 h,H5 (hle w h)]; simp; exact ih
   · rw [H6 h]; split
     · simp; omega
     · exact ih
 induction V with
 | nil=>simp at hs
 | cons w V ih =>
  rw [O8,O8];rcases E0.1 hs with e | hs
  · subst e
    rw [H6 (by rw [hS]; simp),H5 (by rw [hb]; rfl)]
    have:=hgen V;simp; omega
  · have:=ih hs
    by_cases h:(bnd (cmS l [(s,y)]) w).isNone=true
    · rw [H5 h,H5 (hle w h)]; simp; exact this
    · rw [H6 h]; split
      · simp; omega
      · exact this
theorem So (l:List Bnd) (b:Bnd):(cmS l [b]).length<=l.length+1:=by
 unfold cmS;rw [E5,B6];have:=Q7 (fun x:Bnd=>(bnd l x.1).isNone) [b]
 simp only [C1,C7] at this;omega
theorem Uz {m:Nat} {l b:List Bnd} (hl:∀ x∈l,Dt m x.2) (hb:∀ x∈b,Dt m x.2):∀ x∈cmS l b,Dt m x.2:=fun x hx=>by
 unfold cmS at hx;rcases D0.1 hx with hx | hx
 · obtain ⟨z,hz,rfl⟩:=G5.1 hx
   exact (hl z hz).aS hb
 · exact hb x (S5.1 hx).1
structure Uni (A B:Tm) (l:List Bnd) (r:List (Tm×Tm)):Prop where
 idm:Idm l
 nm:∀ s v,bnd l s=some v->∀ w∈v.names,w∈A.names++B.names
 ld:∀ b∈l,Dt 2 b.2
 ln:∀ b∈l,b.2.nodes<=400
 ll:l.length+ub (A.names++B.names) l<=(A.names++B.names).length
 rd:∀ e∈r,Dt 2 e.1/\Dt 2 e.2
 ca:Cov (r.map fun e=>aS l e.1) (aS l A)
 cb:Cov (r.map fun e=>aS l e.2) (aS l B)
theorem Cb {V:List ByteArray} {l:List Bnd} (hn:∀ s v,bnd l s=some v->∀ w∈v.names,w∈V) {t:Tm} (ht:∀ w∈t.names,w∈V):∀ w∈(aS l t).names,w∈V:=fun w hw=>by
 rcases Jj l w t hw with ⟨h1,_⟩|⟨s,v,_,h2,h3⟩
 · exact ht w h1
 · exact hn s v h2 w h3
theorem Va {l:List Bnd} (h:lrg l=false):∀ b∈l,b.2.nodes<=400:=fun b hb=>by
 unfold lrg at h;have:=List.any_eq_false.1 h b hb;simp only [decide_eq_true_eq] at this;omega
theorem wg {xs ys:List Tm} (h:xs.length=ys.length) (f:Tm->Tm):(xs.zip ys).map (fun e=>f e.1)=xs.map f:=by
 have:(xs.zip ys).map (fun e=>f e.1)=((xs.zip ys).map Prod.fst).map f:=by rw [K6]; rfl
 rw [this,List.map_fst_zip (by omega)]
theorem Hs {xs ys:List Tm} (h:xs.length=ys.length) (f:Tm->Tm):(xs.zip ys).map (fun e=>f e.2)=ys.map f:=by
 have:(xs.zip ys).map (fun e=>f e.2)=((xs.zip ys).map Prod.snd).map f:=by rw [K6]; rfl
 rw [this,List.map_snd_zip (by omega)]
theorem Ed {l:List Bnd} {xs:List Tm} (h:∀ x∈xs,Fx l x):xs.map (aS l)=xs:=by
 conv=>rhs; rw [<- List.map_id xs]
 exact N1 fun a ha=>Ux a (h a ha)
theorem Uni.next {A B:Tm} {l l1:List Bnd} {x y:Tm} {r m:List (Tm×Tm)} (h:Uni A B l ((x,y)::r)) (ht:trt (aS l x) (aS l y) l=some (l1,m)) (hl:lrg l1=false) :
 Uni A B l1 (m++r)/\(ub (A.names++B.names) l1<ub (A.names++B.names) l\/l1=l/\((m++r).map fun e=>(aS l e.1).nodes).sum<(((x,y)::r).map fun e=>(aS l e.1).nodes).sum):=by
 have hca:=h.ca;have hcb:=h.cb;simp only [C2] at hca hcb;have nA:=Cb h.nm (t:=A) fun w hw=>List.mem_append_left _ hw
 have nB:=Cb h.nm (t:=B) fun w hw=>List.mem_append_right _ hw
 have nx:∀ w∈(aS l x).names,w∈A.names++B.names:=fun w hw=>nA w (hca.names _ (C4 ..) w hw)
 have ny:∀ w∈(aS l y).names,w∈A.names++B.names:=fun w hw=>nB w (hcb.names _ (C4 ..) w hw)
 have dx:=(h.rd _ (C4 ..)).1.aS h.ld;have dy:=(h.rd _ (C4 ..)).2.aS h.ld;have fx:=Tu h.idm x;have fy:=Tu h.idm y;have hrd:∀ e∈r,Dt 2 e.1/\Dt 2 e.2:=fun e he=>h.rd e (C5 _ he)
 rcases Nb ht with ⟨_,rfl,rfl⟩|⟨v,u,hvu,hn,rfl,rfl⟩|⟨k1,k2,hs,hlen,rfl,rfl⟩
 · refine ⟨⟨h.idm,h.nm,h.ld,h.ln,h.ll,hrd,hca.drop,hcb.drop⟩,.inr ⟨rfl,?_⟩⟩
   simp only [D9,C2,J7];have:=Tm.nodes_eq (aS l1 x);omega
 · have hv:v∈A.names++B.names/\bnd l v=none/\Fx l u/\(∀ w∈u.names,w∈A.names++B.names)/\Dt 2 u:=by
    rcases hvu with ⟨hk,rfl,rfl⟩|⟨hk,rfl,rfl⟩
    · have hm:=(fj (aS l x) _).2 (.inl ⟨hk,rfl⟩)
      exact ⟨nx _ hm,fx _ hm,fy,ny,dy⟩
    · have hm:=(fj (aS l y) _).2 (.inl ⟨hk,rfl⟩)
      exact ⟨ny _ hm,fy _ hm,fx,nx,dx⟩
   obtain ⟨hv1,hv2,hv3,hv4,hv5⟩:=hv;have hub:=Wc (y:=u) hv1 hv2;refine ⟨⟨Uy h.idm hv3 hn,?_,Uz h.ld (by simpa using hv5),Va hl,?_,hrd,?_,?_⟩,.inl hub⟩
   · intro s w hw z hz
     rw [ph] at hw;cases hq:bnd l s with
     | some q =>
      rw [hq] at hw;simp only [C9.injEq] at hw;subst hw;rcases (Ca hn hz).2 with e | e
      · exact h.nm s q hq z e
      · exact hv4 z e
     | none =>
      rw [hq] at hw;simp only at hw;rw [pj] at hw;split at hw
      · simp only [C9.injEq] at hw; subst hw; exact hv4 z hz
      · simp at hw
   · have h1:=So l (v,u)
     have h2:=h.ll;omega
   · have:=(hca.sub [(v,u)]).drop
     rw [K6] at this;rw [D9,Ec];have e:(r.map fun e=>aS (cmS l [(v,u)]) e.1)=r.map ((aS [(v,u)]) ∘ fun e=>aS l e.1):=N1 fun e _=>Ec ..
     rw [e]; exact this
   · have:=(hcb.sub [(v,u)]).drop
     rw [K6] at this;rw [D9,Ec];have e:(r.map fun e=>aS (cmS l [(v,u)]) e.2)=r.map ((aS [(v,u)]) ∘ fun e=>aS l e.2):=N1 fun e _=>Ec ..
     rw [e]; exact this
 · have fxs:=fun a (ha:a∈(aS l1 x).as)=>fx.sub ha
   have fys:=fun a (ha:a∈(aS l1 y).as)=>fy.sub ha
   refine ⟨⟨h.idm,h.nm,h.ld,h.ln,h.ll,?_,?_,?_⟩,.inr ⟨rfl,?_⟩⟩
   · intro e he
     rcases D0.1 he with he | he
     · obtain ⟨q1,q2⟩:=List.of_mem_zip (a:=e.1) (b:=e.2) he
       exact ⟨dx.sub q1,dy.sub q2⟩
     · exact hrd e he
   · rw [D5,wg hlen,Ed fxs]
     exact hca.args (by omega)
   · rw [D5,Hs hlen,Ed fys]
     exact hcb.args (by omega)
   · have e:(((aS l1 x).as.zip (aS l1 y).as).map fun e=>(aS l1 e.1).nodes)=(aS l1 x).as.map Tm.nodes:=by
      have:(((aS l1 x).as.zip (aS l1 y).as).map fun e=>(aS l1 e.1).nodes)=(((aS l1 x).as.zip (aS l1 y).as).map fun e=>aS l1 e.1).map Tm.nodes:=by rw [K6]; rfl
      rw [this,wg hlen,Ed fxs]
     rw [D5,List.sum_append,e,C2,J7];have:=Tm.nodes_eq (aS l1 x);simp only;omega
end Go.Q
end
section
/- What unification gives. -/
namespace Go.Q
open Go
end Go.Q
end
section
namespace Go.Q
open Go
theorem Dt.small {m:Nat}:∀ t:Tm,Dt m t->bb t:=Tm.ind fun t ih h=>by
 refine .mk ?_ fun a ha=>ih a ha (h.sub ha)
 cases h with
 | var _=>exact K0 _
 | word=>exact K0 _
 | app _ h _=>exact G8 h (by decide)
end Go.Q
end
section
/- Comparisons: a program with itself,turned about,and what a difference says. -/
namespace Go.Q
open Go
noncomputable def rnA (x:SyM) (c:Int):Option ww:=du x.d (S.instR x.v x.t c) 200
def opn (x y:SyM) (c:Int):Prop:=¬ ∃ p q,rnA x c=some p/\rnA y c=some q/\p.o=1/\q.o=1
end Go.Q
end
section
/- Drawn terms,rules and definitions: their bounds. -/
namespace Go.Q
open Go
structure Wn (m:Nat) (t:Tm):Prop where
 w:Wt t
 n:t.nodes<=m
theorem Wn.mono {m k:Nat} {t:Tm} (h:Wn m t) (hm:m<=k):Wn k t:=⟨h.w,G8 h.n hm⟩
theorem Wn.small {m:Nat} {t:Tm} (h:Wn m t) (hm:m<=1048576):bb t:=aq _ (by have:=h.n; omega)
theorem mq {k n:Int} {s:ByteArray} {as:List Tm} (hk:-1000<=k) (hk':k<=1000) (hn:-1000<=n) (hn':n<=1000) (hs:s.size<=1000) (hl:as.length<=1000) (h:∀ a∈as,Wt a):Wt (.mk k n s as) :=
 .mk (S.i64ok_of (by show _<=k; omega) (by show k<=_; omega)) (S.i64ok_of (by show _<=n; omega) (by show n<=_; omega)) (by show s.size<=maxLen; unfold maxLen; omega) (by show as.length<=maxLen; unfold maxLen; omega) h
theorem Dt.wt {m:Nat} (hm:m<=1000):∀ t:Tm,Dt m t->Wt t:=Tm.ind fun t ih h=>by
 have hs:∀ a∈t.as,Wt a:=fun a ha=>ih a ha (h.sub ha)
 cases h with
 | var h=>exact mq (by decide) (by decide) (by decide) (by decide) (by omega) (by simp) hs
 | word h1 h2=>exact mq (by decide) (by decide) (by omega) (by omega) (by decide) (by simp) hs
 | app h1 h2 _=>exact mq (by decide) (by decide) (by decide) (by decide) (by omega) (by omega) hs
theorem Dt.wn {k m:Nat} {t:Tm} (h:Dt k t) (hk:k<=1000) (hm:t.nodes<=m):Wn m t:=⟨Dt.wt hk t h,hm⟩
def tV (s:ByteArray):Tm:=.mk 1 0 s []
def tW (n:Int):Tm:=.mk 3 n ⟨#[]⟩ []
def tC (s:ByteArray):Tm:=.mk 2 0 s []
def tO (s:ByteArray) (t:Tm):Tm:=.mk 2 0 s [t]
def tP (s:ByteArray) (t u:Tm):Tm:=.mk 2 0 s [t,u]
theorem Qq {s:ByteArray} (h:s.size<=1000):Wn 1 (tV s):=⟨mq (by decide) (by decide) (by decide) (by decide) h (by simp) (by simp),by simp [tV,Tm.nodes,Tm.nodesL]⟩
theorem Jk {n:Int} (h:0<=n) (h1:n<=255):Wn 1 (tW n):=⟨mq (by decide) (by decide) (by omega) (by omega) (by decide) (by simp) (by simp),by simp [tW,Tm.nodes,Tm.nodesL]⟩
theorem Sp {s:ByteArray} (h:s.size<=1000):Wn 1 (tC s):=⟨mq (by decide) (by decide) (by decide) (by decide) h (by simp) (by simp),by simp [tC,Tm.nodes,Tm.nodesL]⟩
theorem ol {s:ByteArray} {m:Nat} {t:Tm} (h:s.size<=1000) (ht:Wn m t):Wn (m+1) (tO s t):=⟨mq (by decide) (by decide) (by decide) (by decide) h (by simp) (by simpa using ht.w),by have:=ht.n; simp [tO,Tm.nodes,Tm.nodesL]; omega⟩
theorem mw {s:ByteArray} {m k:Nat} {t u:Tm} (h:s.size<=1000) (ht:Wn m t) (hu:Wn k u):Wn (m+k+1) (tP s t u):=⟨mq (by decide) (by decide) (by decide) (by decide) h (by simp) (by simp [ht.w,hu.w]),by have:=ht.n; have:=hu.n; simp [tP,Tm.nodes,Tm.nodesL]; omega⟩
theorem Tv {m:Nat} {t:Tm} (h:Wn m t):Wn m (rW t):=⟨Kq t h.w,G8 (ia t) h.n⟩
structure GuW (g:Gu):Prop where
 k:0<=g.k/\g.k<=5
 l:Wn 3000 g.l
 r:Wn 3000 g.r
theorem GuW.b {g:Gu} (h:GuW g):GuB g:=⟨h.l.w,h.r.w,by have:=h.l.n; omega,by have:=h.r.n; omega⟩
structure RuW (u:RuM):Prop where
 n:u.n.size<=1000
 l:Wn 3000 u.l
 r:Wn 3000 u.r
 g:u.g.length<=10
 ga:∀ g∈u.g,GuW g
theorem RuW.b {r:RuM} (h:RuW r):RuB r:=⟨by have:=h.n; unfold maxLen; omega,h.l.w,h.r.w,by have:=h.l.n; omega,by have:=h.r.n; omega,by have:=h.g; omega,fun g hg=>(h.ga g hg).b⟩
structure DfW (d:DfM):Prop where
 so:d.so.length<=10
 sos:∀ x∈d.so,x.size<=1000
 op:d.op.length<=10
 opa:∀ o∈d.op,o.n.size<=1000/\o.a.length<=10/\(∀ x∈o.a,x.size<=1000)/\o.r.size<=1000
 ru:d.ru.length<=10
 rua:∀ r∈d.ru,RuW r
 st:d.st.length<=10
theorem DfW.sig {d:DfM} (h:DfW d):nv d.op:=⟨by have:=h.op; omega,fun o ho=>by have:=(h.opa o ho).2.1; show o.a.length<=_; omega⟩
theorem DfW.b {d:DfM} (h:DfW d):DfB d:=⟨by have:=h.so; omega,fun x hx=>by have:=h.sos x hx; unfold maxLen; omega,h.sig,fun o ho=>by have:=(h.opa o ho).1; unfold maxLen; omega,by have:=h.ru; omega,fun r hr=>(h.rua r hr).b,by have:=h.st; omega⟩
def eh:List ByteArray:=[⟨#[101]⟩,⟨#[107]⟩]
def dc:List OpM:=[⟨⟨#[97]⟩,[],⟨#[101]⟩⟩,⟨⟨#[98]⟩,[],⟨#[101]⟩⟩,⟨⟨#[103]⟩,[⟨#[101]⟩],⟨#[101]⟩⟩,⟨⟨#[102]⟩,[⟨#[101]⟩,⟨#[101]⟩],⟨#[101]⟩⟩,⟨⟨#[104]⟩,[⟨#[101]⟩,⟨#[119,111,114,100]⟩],⟨#[101]⟩⟩,⟨⟨#[110,117,109]⟩,[⟨#[119,111,114,100]⟩],⟨#[101]⟩⟩,⟨⟨#[116,111,112]⟩,[⟨#[101]⟩],⟨#[107]⟩⟩]
def opW (o:OpM):Bool:=decide (o.n.size<=1000)&&(decide (o.a.length<=10)&&(o.a.all (fun x=>decide (x.size<=1000))&&decide (o.r.size<=1000)))
theorem Qr {o:OpM} (h:opW o=true):o.n.size<=1000/\o.a.length<=10/\(∀ x∈o.a,x.size<=1000)/\o.r.size<=1000:=by
 simp only [opW,B7,decide_eq_true_eq,E4] at h;exact ⟨h.1,h.2.1,h.2.2.1,h.2.2.2⟩
theorem io:∀ o∈dc,o.n.size<=1000/\o.a.length<=10/\(∀ x∈o.a,x.size<=1000)/\o.r.size<=1000:=fun o ho=>Qr (E4.1 (show dc.all opW=true from by decide) o ho)
theorem jp:∀ x∈eh,x.size<=1000:=fun x hx=>by
 have:=E4.1 (show eh.all (fun x=>decide (x.size<=1000))=true from by decide) x hx
 simpa using this
end Go.Q
end
section
/- All steps of a term; a trace replayed; runs and traces. -/
namespace Go.Q
open Go
end Go.Q
end
section
/- A symbolic step stands for the step of every case; the tests of a symbolic term. -/
namespace Go.Q
open Go
end Go.Q
end
section
/- The runs of the cases of a path; the tests of different paths. -/
namespace Go.Q
open Go
end Go.Q
end
section
/- Paths: their traces,and that none is without a case. -/
namespace Go.Q
open Go
end Go.Q
end
section
/- Runs that are computed: an evaluator of shallow functions is Pa. Open cases where a case may be none. -/
namespace Go.Q
open Go
def pS (f:ByteArray->List D->R):List D->R
 | .str x::l=>f x l
 | _=>none
def pI (f:Int->List D->R):List D->R
 | .int x::l=>f x l
 | _=>none
def pB (f:Bool->List D->R):List D->R
 | .bool x::l=>f x l
 | _=>none
def pL (f:aa->List D->R):List D->R
 | .sl x::l=>f x l
 | _=>none
def pE (b:R):List D->R
 | []=>b
 | _=>none
def Sd (H:Tab) (P:Program) (c:Key->List D->R) (k:Key) (pre:List D->List D) (v:List D->R):Prop:=∀ l r,v l=some r->step H c P k (pre l)=some r
section
variable {H:Tab} {P:Program} {c:Key->List D->R} {k:Key} {pre:List D->List D}
theorem Sd.S {f:ByteArray->List D->R} (h:∀ x,Sd H P c k (fun l=>pre (.str x::l)) (f x)):Sd H P c k pre (pS f):=fun l r e=>by
 unfold pS at e;split at e
 · exact h _ _ _ e
 · simp at e
theorem Sd.I {f:Int->List D->R} (h:∀ x,Sd H P c k (fun l=>pre (.int x::l)) (f x)):Sd H P c k pre (pI f):=fun l r e=>by
 unfold pI at e;split at e
 · exact h _ _ _ e
 · simp at e
theorem Sd.B {f:Bool->List D->R} (h:∀ x,Sd H P c k (fun l=>pre (.bool x::l)) (f x)):Sd H P c k pre (pB f):=fun l r e=>by
 unfold pB at e;split at e
 · exact h _ _ _ e
 · simp at e
theorem Sd.L {f:aa->List D->R} (h:∀ x,Sd H P c k (fun l=>pre (.sl x::l)) (f x)):Sd H P c k pre (pL f):=fun l r e=>by
 unfold pL at e;split at e
 · exact h _ _ _ e
 · simp at e
theorem Sd.E {b:R} (h:step H c P k (pre [])=b):Sd H P c k pre (pE b):=fun l r e=>by
 unfold pE at e;split at e
 · exact h.trans e
 · simp at e
end
structure ClW (vl:List ByteArray) (lt rt:Tm) (gl:List Gu):Prop where
 v:vl.length<=20
 vs:∀ x∈vl,x.size<=1000
 l:Wn 3000 lt
 r:Wn 3000 rt
 g:gl.length<=20
 ga:∀ x∈gl,GuW x
theorem ClW.b {v:List ByteArray} {l r:Tm} {g:List Gu} (h:ClW v l r g) {d:DfM} (hd:DfB d):ClB ⟨d,v,l,r,g⟩ :=
 ⟨hd,by have:=h.v; show v.length<=_; omega,fun x hx=>by have:=h.vs x hx; unfold maxLen; omega,h.l.w,h.r.w,by have:=h.l.n; show l.nodes<=_; omega,by have:=h.r.n; show r.nodes<=_; omega,by have:=h.g; show g.length<=_; omega,fun x hx=>(h.ga x hx).b⟩
end Go.Q
end
section
/- Proofs that are found are right; claims that are proved have no refutation. -/
namespace Go.Q
open Go
def At (ns:List PnM) (b:Nat) (l:List PnM):Prop:=∃ pre post,ns=pre++(l++post)/\pre.length=b
theorem At.fst {ns:List PnM} {b:Nat} {x:PnM} {l:List PnM} (h:At ns b (x::l)):ns[b]?=some x/\b<ns.length/\At ns (b+1) l:=by
 obtain ⟨pre,post,rfl,rfl⟩:=h;refine ⟨by simp,by simp,pre++[x],post,by simp,by simp⟩
theorem At.app {ns:List PnM} {b:Nat} {l m:List PnM} (h:At ns b (l++m)):At ns b l/\At ns (b+l.length) m:=by
 obtain ⟨pre,post,rfl,rfl⟩:=h;exact ⟨⟨pre,m++post,by simp,rfl⟩,⟨pre++l,post,by simp,by simp⟩⟩
end Go.Q
end
section
/- aa of proofs that are changed; loops that go through. -/
namespace Go.Q
open Go
section
variable {L:List PnM} {m:Nat}
end
theorem Wb.b {n:PnM} (h:Wb n):PnB n:=⟨by have:=h.nl; omega,by have:=h.sl; omega,fun b hb=>aq _ (by have:=(h.sb b hb).2.2; omega)⟩
theorem Wd {F:Nat->R} {n:Nat} {A:R} (hs:∀ i,i<n->F i=F (i+1)) (he:F n=A):F 0=A:=by
 have key:∀ k i,i+k=n->F i=A:=by
  intro k;induction k with
  | zero =>
   intro i hi;have e:i=n:=by omega
   rw [e]; exact he
  | succ k ih=>intro i hi; rw [hs i (by omega)]; exact ih (i+1) (by omega)
 exact key n 0 (Nat.zero_add n)
end Go.Q
end
section
/- An evaluator that asks proved summaries. -/
namespace Go.Q
open Go
theorem Sd.rn {H:Tab} {P:Program} {c:Key->List D->R} {k:Key} {v:List D->R} (hc:∀ k l r,c k l=some r->run H P k l=some r) (h:Sd H P c k (fun l=>l) v) {l:List D} {r:Nat×List D} (e:v l=some r):run H P k l=some r:=Ik (ow hc (h l r e))
def OkC (H:Tab) (P:Program) (c:Key->List D->R):Prop:=∀ k l r,c k l=some r->run H P k l=some r
theorem Sd.en {H:Tab} {P:Program} {c:Key->List D->R} {k:Key} {v:List D->R} (hc:OkC H P c) (h:Sd H P c k (fun l=>l) v):∀ l r,v l=some r->run H P k l=some r:=fun l r e=>Sd.rn hc h e
end Go.Q
end
section
/- aa that are written over. -/
namespace Go.Q
open Go
def uz (r:List D):Nat×Nat×Nat:=(((nth r 3).L).length,((nth r 8).L).length,r.length)
theorem Nc {R:aa} {i j:Nat} {x:List D} (hi:i<R.length):rowAt (R.set i x) j=if i=j then x else rowAt R j:=by
 unfold rowAt;simp only [List.getD_eq_getElem?_getD,T0];by_cases h:i=j
 · subst h; simp [hi]
 · simp [h]
structure RwI (R R':aa):Prop where
 l:R'.length=R.length
 e:∀ j,uz (rowAt R' j)=uz (rowAt R j)
theorem RwI.refl (R:aa):RwI R R:=⟨rfl,fun _=>rfl⟩
theorem RwI.trans {A B C:aa} (h:RwI A B) (k:RwI B C):RwI A C:=⟨k.l.trans h.l,fun j=>(k.e j).trans (h.e j)⟩
theorem RwI.set {R:aa} {i:Nat} (hi:i<R.length) {x:List D} (hx:uz x=uz (rowAt R i)):RwI R (over i [x] R):=by
 rw [ft _ _ _ hi];refine ⟨by simp,fun j=>?_⟩
 rw [Nc hi];split
 · rename_i h; subst h; exact hx
 · rfl
theorem xd {r:List D} {i j:Nat} {x:D} (hi:i<r.length):nth (r.set i x) j=if i=j then x else nth r j:=by
 unfold nth;simp only [List.getD_eq_getElem?_getD,T0];by_cases h:i=j
 · subst h; simp [hi]
 · simp [h]
theorem We {r:List D} (h:r.length=9) {L:aa} (hL:L.length=((nth r 3).L).length):uz (over 3 [.sl L] r)=uz r:=by
 rw [ft _ _ _ (by omega)]
 unfold uz;rw [xd (by omega),xd (by omega),H5 rfl,H6 (by decide),P7]
 exact Prod.ext hL rfl
theorem Wf {r:List D} (h:r.length=9) {L:aa} (hL:L.length=((nth r 8).L).length):uz (over 8 [.sl L] r)=uz r:=by
 rw [ft _ _ _ (by omega)]
 unfold uz;rw [xd (by omega),xd (by omega),H6 (by decide),H5 rfl,P7]
 exact Prod.ext rfl (Prod.ext hL rfl)
theorem pk {R:aa} {k:Nat} {x:List D} (hk:k<R.length):(over k [x] R).length=R.length:=bd _ _ _ (by simp; omega)
end Go.Q
end
