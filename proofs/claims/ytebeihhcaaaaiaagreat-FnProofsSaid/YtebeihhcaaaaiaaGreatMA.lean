/- The plain laws of what the functions answer, part 1. -/
import Derived.Test.YtebeihhcaaaaiaaGreatQC
set_option linter.unusedVariables false
set_option linter.unusedSimpArgs false
open Bool renaming and_eq_true->B8,true_and->E1,not_eq_true'->E8,or_eq_true->P9
open Int renaming toNat_natCast->B7,tmod_lt_of_pos->P2,tmod_nonneg->R4
open List renaming length_map->B6,drop_eq_getElem_cons->B9,getElem_mem->C0,length_cons->C2,map_cons->C4,mem_cons_self->C5,mem_cons_of_mem->C6,drop_length->C7,length_nil->C8,map_nil->D3,mem_append->D4,map_append->D7,mem_cons->D9,nil_append->E2,all_eq_true->E3,getElem?_eq_some_iff->E4,append_assoc->E5,length_append->E6,mem_singleton->E7,getElem?_eq_getElem->F4,length_eq_zero_iff->F7,mem_map->F8,cons_append->F9,append_nil->J0,all_cons->J3,length_set->K0,sum_cons->K1,map_map->K2,mem_flatMap->K3,mem_or_eq_of_mem_set->K4,map_congr_left->K9,mem_of_getElem?->N1,not_mem_nil->N2,flatMap_cons->N8,filter_cons->O1,getElem_map->O2,getD->O7,filter_sublist->O8,find?_cons->P0,mem_filter->P1,take_append_drop->Q2,length_filter_le->Q3,any_eq_true->Q4,getElem?_map->Q9,cons->R0,mem_filterMap->R8,pairwise_cons->R9,length_filterMap_le->S5,flatMap_append->S6,filterMap_cons->S7,getElem_of_mem->T6,set_cons_succ->U0,zip_cons_cons->U1,range->U2,findIdx?_eq_some_iff_getElem->U3,set_eq_take_append_cons_drop->U4,take_succ_eq_append_getElem->U9,exists_of_findSome?_eq_some->V0,map_set->V1
open Nat renaming le_refl->F2,le_trans->G8,zero_le->J1,mul_le_mul->U8
open Option renaming some->C9,map_some->K7,isSome_some->P3
open Prod renaming mk->G9
section
namespace Go.Q
open Go
inductive Tm where
 |mk (k n:Int) (s:ByteArray) (as:List Tm)
namespace Tm
def k:Tm->Int |mk k _ _ _=>k
def n:Tm->Int |mk _ n _ _=>n
def s:Tm->ByteArray |mk _ _ s _=>s
def as:Tm->List Tm |mk _ _ _ as=>as
mutual
def row:Tm->List D
 |mk k n s as=>[.int k,.int n,.str s,.sl (rows as)]
def rows:List Tm->List (List D)
 | []=>[]
 |t::ts=>row t::rows ts
end
theorem Il:∀ ts:List Tm,rows ts=ts.map row
 | []=>rfl
 |t::ts=>by simp only[rows,C4,Il ts]
theorem row_eq(t:Tm):t.row=[.int t.k,.int t.n,.str t.s,.sl (t.as.map row)]:=by
 cases t;simp only[row,Il,Tm.k,Tm.n,Tm.s,Tm.as]
theorem ind{P:Tm->Prop}(h:∀ t,(∀ a∈t.as,P a)->P t):∀ t,P t:=by
 have key:∀ (N:Nat) (t:Tm),SizeOf.sizeOf t<N->P t:=by
  intro N;induction N with
  |zero=>intro t ht;omega
  |succ N ih =>
   intro t ht;refine h t fun a ha=>ih a ?_
   cases t with
   |mk k n s as =>
    simp only[Tm.as] at ha;have:=List.sizeOf_lt_of_mem ha;simp only[mk.sizeOf_spec] at ht;omega
 exact fun t=>key _ t (Nat.lt_succ_self _)
end Tm
inductive aw:Tm->Prop
 |mk {t:Tm}:t.as.length<=1048576->(∀ a∈t.as,aw a)->aw t
theorem aw.len{t:Tm}(h:aw t):t.as.length<=1048576:=by cases h;assumption
theorem aw.sub{t a:Tm}(h:aw t)(ha:a∈t.as):aw a:=by cases h with |mk _ h=>exact h a ha
theorem nc(n:Int)(s:ByteArray)(k:Int):aw (.mk k n s []):=.mk (by simp[Tm.as]) (by simp[Tm.as])
structure ag5(H:Tab)(e:TypeId)(lay:List CT):Prop where
 eq:lay=[.int .i64,.int .i64,.str,.sl e]
 ty:∃ ti,H.ty e=some ti/\ti.lay=lay
abbrev Bnd:=ByteArray×Tm
def Bnd.row(b:Bnd):List D:=.str b.1::b.2.row
theorem ja(b:Bnd):Bnd.row b=[.str b.1,.int b.2.k,.int b.2.n,.str b.2.s,.sl (b.2.as.map Tm.row)]:=by unfold Bnd.row;rw[Tm.row_eq]
def bnd:List Bnd->ByteArray->Option Tm
 | [],_=>none
 |b::r,s=>if b.1=s then some b.2 else bnd r s
def tm0:Tm:=.mk 0 0 ⟨#[]⟩ []
theorem eh{l:List Bnd}{s:ByteArray}{t:Tm}(h:bnd l s=some t):∃ b∈l,b.2=t:=by
 induction l with
 |nil=>simp[bnd] at h
 |cons b l ih =>
  simp only[bnd] at h;split at h
  ·exact⟨b,C5 ..,by simpa using h⟩
  ·obtain⟨b',h1,h2⟩:=ih h;exact⟨b',C6 _ h1,h2⟩
mutual
def aS(l:List Bnd):Tm->Tm
 |.mk k n s as=>match (if k=1 then bnd l s else none) with
  |some u=>u
  |none=>.mk k n s (aSs l as)
def aSs(l:List Bnd):List Tm->List Tm
 | []=>[]
 |t::ts=>aS l t::aSs l ts
end
theorem Mu(l:List Bnd):∀ ts,aSs l ts=ts.map (aS l)
 | []=>rfl
 |t::ts=>by simp only[aSs,C4,Mu l ts]
theorem eo(l:List Bnd)(t:Tm):aS l t=match (if t.k=1 then bnd l t.s else none) with
 |some u=>u
 |none=>.mk t.k t.n t.s (t.as.map (aS l)):=by cases t;simp only[aS,Mu,Tm.k,Tm.n,Tm.s,Tm.as];rfl
theorem mg{l:List Bnd}(hl:∀ b∈l,aw b.2):∀ t,aw t->aw (aS l t):=Tm.ind fun t ih h=>by
 rw[eo];split
 ·rename_i u hu
  split at hu
  ·obtain⟨b,h1,rfl⟩:=eh hu;exact hl b h1
  ·simp at hu
 ·exact .mk (by simpa[Tm.as] using h.len) (fun a ha=>by
   simp only[Tm.as,F8] at ha;obtain⟨x,hx,rfl⟩:=ha;exact ih x hx (h.sub hx))
def isW(t:Tm):Bool:=decide (t.k=3)&&(decide (0<=t.n)&&(decide (t.n<4)&&(decide (t.s=⟨#[]⟩)&&decide (t.as.length=0))))
def Dm:ByteArray:=⟨#[112,108,117,115]⟩
def wk:ByteArray:=⟨#[109,105,110,117,115]⟩
def Lg:ByteArray:=⟨#[116,105,109,101,115]⟩
def isB(s:ByteArray):Bool:=decide (s=Dm)||(decide (s=wk)||decide (s=Lg))
def cmp(s:ByteArray)(a b:Int):Int:=if s=Dm then (a+b).tmod 4 else if s=wk then (a-b+4).tmod 4 else (a*b).tmod 4
def rW1(k n:Int)(s:ByteArray)(as:List Tm):Tm :=
 match as with
 | [x,y]=>if k=2/\n=0/\isB s=true/\isW x=true/\isW y=true then .mk 3 (cmp s x.n y.n) ⟨#[]⟩ [] else .mk k n s as
 |_=>.mk k n s as
mutual
def rW:Tm->Tm
 |.mk k n s as=>rW1 k n s (rWs as)
def rWs:List Tm->List Tm
 | []=>[]
 |t::ts=>rW t::rWs ts
end
theorem Mv:∀ ts,rWs ts=ts.map rW
 | []=>rfl
 |t::ts=>by simp only[rWs,C4,Mv ts]
theorem ez(t:Tm):rW t=rW1 t.k t.n t.s (t.as.map rW):=by cases t;simp only[rW,Mv,Tm.k,Tm.n,Tm.s,Tm.as]
theorem Pc{k n:Int}{s:ByteArray}{as:List Tm}(h:as.length<=1048576)(ha:∀ a∈as,aw a):aw (rW1 k n s as):=by
 unfold rW1;split
 ·split
  ·exact nc ..
  ·exact .mk (by simp[Tm.as]) (by simpa[Tm.as] using ha)
 ·exact .mk h ha
theorem Ar:∀ t,aw t->aw (rW t):=Tm.ind fun t ih h=>by
 rw[ez];exact Pc (by simpa using h.len) fun a ha=>by
  simp only[F8] at ha;obtain⟨x,hx,rfl⟩:=ha;exact ih x hx (h.sub hx)
def gt(n:Nat):Int:=if n<=3 then 4 ^ n else 0
def isC(n:Nat)(c:Int):Bool:=decide (0<=c)&&decide (c<gt n)
def vals(n:Nat)(c:Int):List Int :=
 if isC n c then (match n with
  |0=>[]
  |1=>[c.tmod 4]
  |2=>[(c.tdiv 4).tmod 4,c.tmod 4]
  |_=>[((c.tdiv 4).tdiv 4).tmod 4,(c.tdiv 4).tmod 4,c.tmod 4]) else []
def word(n:Int):Tm:=.mk 3 n ⟨#[]⟩ []
def bi(vars:List ByteArray)(c:Int):List Bnd:=(vars.zip (vals vars.length c)).map fun p=>(p.1,word p.2)
def bt(vars:List ByteArray)(t:Tm)(c:Int):Tm:=rW (aS (bi vars c) t)
theorem fa(vars:List ByteArray)(c:Int):∀ b∈bi vars c,aw b.2:=fun b hb=>by
 unfold bi at hb;simp only[F8] at hb;obtain⟨p,_,rfl⟩:=hb;exact nc ..
theorem Au{vars:List ByteArray}{t:Tm}(h:aw t)(c:Int):aw (bt vars t c):=Ar _ (mg (fa vars c) t h)
theorem jm{α:Type}{F:Nat->aa->R}{xs:List α}(g:α->List D){K:aa->R}
 (hs:∀ i (hi:i<xs.length) acc,acc.length=i->F i acc=F (i+1) (acc++[g xs[i]])) (he:∀ acc,F xs.length acc=K acc):F 0 []=K (xs.map g):=by
 have key:∀ (n i:Nat),i+n=xs.length->F i ((xs.take i).map g)=K (xs.map g):=by
  intro n;induction n with
  |zero =>
   intro i hi;have:i=xs.length:=by omega
   subst this;rw[he,List.take_length]
  |succ n ih =>
   intro i hi;have hlt:i<xs.length:=by omega
   rw[hs i hlt _ (by simp;omega),<-ih (i+1) (by omega),U9 hlt]
   simp only[D7,C4,D3]
 simpa using key xs.length 0 (by omega)
theorem Dn{α:Type}{F:Nat->R}{xs:List α}{p:α->Bool}{A:R}{B:Nat->α->R}(hs:∀ i (hi:i<xs.length),F i=bif p xs[i] then B i xs[i] else F (i+1))(he:F xs.length=A) :
 (xs.find? p=none/\F 0=A)\/∃ i,∃ hi:i<xs.length,xs.find? p=some xs[i]/\F 0=B i xs[i]:=by
 have key:∀ (n i:Nat),i+n=xs.length->((xs.drop i).find? p=none/\F i=A)\/∃ j,∃ hj:j<xs.length,(xs.drop i).find? p=some xs[j]/\F i=B j xs[j]:=by
  intro n;induction n with
  |zero =>
   intro i hi;have:i=xs.length:=by omega
   subst this;left;rw[C7];exact⟨rfl,he⟩
  |succ n ih =>
   intro i hi;have hlt:i<xs.length:=by omega
   rw[hs i hlt,B9 hlt];simp only[P0];cases hp:p xs[i] with
   |true=>exact .inr ⟨i,hlt,by simp,by simp⟩
   |false=>simpa using ih (i+1) (by omega)
 simpa using key xs.length 0 (by omega)
theorem Im(l:List Bnd)(s:ByteArray):bnd l s=(l.find? fun b=>decide (b.1=s)).map (·.2):=by
 induction l with
 |nil=>rfl
 |cons b l ih =>
  simp only[bnd,P0];by_cases h:b.1=s
  ·simp[h]
  ·simp[h,ih]
theorem ab{α:Type}{xs:List α}{g:α->List D}{i:Nat}(hi:i<xs.length):rowAt (xs.map g) i=g xs[i]:=by simp[rowAt,O7,hi]
end Go.Q
end
section
namespace Go.Q
open Go
def ag(s:ByteArray):List D:=[.str s]
def am(n:Int):List D:=[.int n]
def mh{α σ:Type}(step:α->σ->Option σ):List α->σ->Option σ
 | [],s=>some s
 |x::xs,s=>match step x s with
  |some s'=>mh step xs s'
  |none=>none
theorem Do{α σ:Type}{F:Nat->σ->R}{xs:List α}(step:α->σ->Option σ){A:σ->R}{B:R}(hs:∀ i (hi:i<xs.length) s,F i s=match step xs[i] s with |some s'=>F (i+1) s' |none=>B)(he:∀ s,F xs.length s=A s)(s:σ) :
 F 0 s=match mh step xs s with |some r=>A r |none=>B:=by
 have key:∀ (n i:Nat) (s:σ),i+n=xs.length->F i s=match mh step (xs.drop i) s with |some r=>A r |none=>B:=by
  intro n;induction n with
  |zero =>
   intro i s hi;have:i=xs.length:=by omega
   subst this;rw[C7,he];rfl
  |succ n ih =>
   intro i s hi;have hlt:i<xs.length:=by omega
   rw[hs i hlt,B9 hlt];simp only[mh];cases step xs[i] s with
   |none=>rfl
   |some s'=>exact ih (i+1) s' (by omega)
 simpa using key xs.length 0 s (by omega)
theorem uf(n:Nat)(c:Int):(vals n c).length<=n:=by
 unfold vals;split
 ·rename_i h
  match n with
  |0=>simp
  |1=>simp
  |2=>simp
  |n+3 =>
   simp
 ·simp
theorem ug{n:Nat}(h:3<n):gt n=0:=by unfold gt;rw[H6 (by omega)]
theorem kz(n:Nat):0<=gt n/\gt n<=64:=by
 by_cases h:3<n
 ·rw[ug h];decide
 ·obtain rfl |rfl |rfl |rfl:n=0\/n=1\/n=2\/n=3:=by omega
  all_goals decide
theorem lg{n:Nat}{c:Int}(h:isC n c=true):n<=3/\0<=c/\c<64:=by
 simp only[isC,B8,decide_eq_true_eq] at h;obtain⟨h1,h2⟩:=h;have h3:=kz n;by_cases hn:3<n
 ·rw[ug hn] at h2;omega
 ·omega
def gj(vars:List ByteArray)(c:Int)(l:List Bnd)(s:ByteArray)(out:Int):Option Int :=
 match bnd l s with
 |none=>none
 |some t=>if isW (bt vars t c) then some (IntKind.i64.wrap (IntKind.i64.wrap (4*out)+(bt vars t c).n)) else none
end Go.Q
namespace Go.Q
def fw(vars:List ByteArray)(c:Int)(target:List ByteArray)(l:List Bnd):Int×Bool :=
 if isC vars.length c=true/\target.length<=3 then (match mh (gj vars c l) target 0 with |some r=>(r,true) |none=>(0,false)) else (0,false)
theorem Dp(vars:List ByteArray)(c:Int)(target:List ByteArray)(l:List Bnd):(if isC vars.length c=true/\target.length<=3 then (match mh (gj vars c l) target 0 with |some r=>(some (0,[.int r,.bool true]):R) |none=>some (0,[.int 0,.bool false])) else some (0,[.int 0,.bool false])) =
 some (0,[.int (fw vars c target l).1,.bool (fw vars c target l).2]):=by
 unfold fw;split
 ·cases mh (gj vars c l) target 0<;>rfl
 ·rfl
end Go.Q
end
section
namespace Go.Q
open Go
namespace Tm
mutual
def names:Tm->List ByteArray
 |.mk k _ s as=>(if k=1 then [s] else [])++Fq as
def Fq:List Tm->List ByteArray
 | []=>[]
 |t::ts=>names t++Fq ts
end
theorem Dq:∀ ts,Fq ts=ts.flatMap names
 | []=>rfl
 |t::ts=>by simp only[Fq,N8,Dq ts]
theorem names_eq(t:Tm):t.names=(if t.k=1 then [t.s] else [])++t.as.flatMap names:=by cases t;simp only[names,Dq,Tm.k,Tm.s,Tm.as];rfl
theorem as_mk(k n:Int)(s:ByteArray)(as:List Tm):(Tm.mk k n s as).as=as:=rfl
theorem k_mk(k n:Int)(s:ByteArray)(as:List Tm):(Tm.mk k n s as).k=k:=rfl
theorem s_mk(k n:Int)(s:ByteArray)(as:List Tm):(Tm.mk k n s as).s=s:=rfl
mutual
def nodes:Tm->Nat
 |.mk _ _ _ as=>1+nodesL as
def nodesL:List Tm->Nat
 | []=>0
 |t::ts=>nodes t+nodesL ts
end
theorem Dr:∀ ts,nodesL ts=(ts.map nodes).sum
 | []=>rfl
 |t::ts=>by simp only[nodesL,C4,K1,Dr ts]
theorem nodes_eq(t:Tm):t.nodes=1+(t.as.map nodes).sum:=by cases t;simp only[nodes,Dr,Tm.as]
end Tm
theorem Io{α:Type}{xs:List α}{f:α->List ByteArray}{g:α->Nat}(h:∀ x∈xs,(f x).length<=g x):(xs.flatMap f).length<=(xs.map g).sum:=by
 induction xs with
 |nil=>simp
 |cons x xs ih =>
  simp only[N8,E6,C4,K1];have h1:=h x (C5 ..);have h2:=ih fun y hy=>h y (C6 _ hy)
  omega
theorem bz:∀ t:Tm,t.names.length<=t.nodes:=Tm.ind fun t ih=>by
 rw[Tm.names_eq,Tm.nodes_eq,E6];have:=Io (xs:=t.as) (f:=Tm.names) (g:=Tm.nodes) ih;by_cases hk:t.k=1
 ·simp only[H5 hk,C2,C8];omega
 ·simp only[H6 hk,C8];omega
theorem Rz{α:Type}{xs:List α}{f g:α->Nat}(h:∀ x∈xs,f x<=g x):(xs.map f).sum<=(xs.map g).sum:=by
 induction xs with
 |nil=>simp
 |cons x xs ih =>
  simp only[C4,K1];have h1:=h x (C5 ..);have h2:=ih fun y hy=>h y (C6 _ hy)
  omega
theorem dw{α:Type}{xs:List α}{f:α->Nat}{x:α}(h:x∈xs):f x<=(xs.map f).sum:=by
 induction xs with
 |nil=>simp at h
 |cons y xs ih =>
  simp only[C4,K1];rcases D9.1 h with rfl |h
  ·omega
  ·have:=ih h;omega
theorem dc{xs:List Tm}:xs.length<=(xs.map Tm.nodes).sum:=by
 induction xs with
 |nil=>simp
 |cons x xs ih =>
  simp only[C4,K1,C2];have:=Tm.nodes_eq x;omega
theorem ao:∀ t:Tm,t.nodes<=1048577->aw t:=Tm.ind fun t ih h=>by
 have h1:=Tm.nodes_eq t;have h2:=dc (xs:=t.as);exact .mk (by omega) fun a ha=>ih a ha (by have:=dw (f:=Tm.nodes) ha;omega)
theorem uj{l:List Bnd}(hl:∀ b∈l,b.2.nodes=1):∀ t,(aS l t).nodes<=t.nodes:=Tm.ind fun t ih=>by
 rw[eo];have h1:=Tm.nodes_eq t;split
 ·rename_i u hu
  split at hu
  ·obtain⟨b,h1,rfl⟩:=eh hu;rw[hl b h1];omega
  ·simp at hu
 ·rw[Tm.nodes_eq]
  simp only[Tm.as_mk,K2];have:=Rz (xs:=t.as) (f:=Tm.nodes ∘ aS l) (g:=Tm.nodes) ih;omega
theorem Pd(k n:Int)(s:ByteArray)(us:List Tm):(rW1 k n s us).nodes<=1+(us.map Tm.nodes).sum:=by
 unfold rW1;split
 ·split
  ·simp only[Tm.nodes,Tm.nodesL];omega
  ·rw[Tm.nodes_eq,Tm.as_mk];omega
 ·rw[Tm.nodes_eq,Tm.as_mk];omega
theorem gu:∀ t,(rW t).nodes<=t.nodes:=Tm.ind fun t ih=>by
 have h1:=Tm.nodes_eq t;have h2:=Rz (xs:=t.as) (f:=Tm.nodes ∘ rW) (g:=Tm.nodes) ih;have h3:=Pd t.k t.n t.s (t.as.map rW);rw[K2] at h3;rw[ez];omega
theorem wm{t:Tm}(h:isW t=true):t.names=[]:=by
 simp only[isW,B8,decide_eq_true_eq] at h;rw[Tm.names_eq,H6 (by omega),F7.1 h.2.2.2.2]
 rfl
theorem Pe(k n:Int)(s:ByteArray)(us:List Tm):(rW1 k n s us).names=(if k=1 then [s] else [])++us.flatMap Tm.names:=by
 unfold rW1;split
 ·rename_i x y
  split
  ·rename_i h
   have e1:=wm h.2.2.2.1;have e2:=wm h.2.2.2.2;obtain⟨rfl,_⟩:=h;show([]:List ByteArray)=([]:List ByteArray)++[x,y].flatMap Tm.names
   simp[e1,e2]
  ·rw[Tm.names_eq];rfl
 ·rw[Tm.names_eq];rfl
theorem Av{xs:List Tm}{f g:Tm->List ByteArray}(h:∀ x∈xs,f x=g x):xs.flatMap f=xs.flatMap g:=by
 induction xs with
 |nil=>rfl
 |cons x xs ih=>rw[N8,N8,h x (C5 ..),ih fun y hy=>h y (C6 _ hy)]
theorem Aw:∀ t,(rW t).names=t.names:=Tm.ind fun t ih=>by
 have e:(t.as.map rW).flatMap Tm.names=t.as.flatMap Tm.names:=by
  rw[List.flatMap_map];exact Av fun x hx=>ih x hx
 rw[ez,Tm.names_eq t,<-e];exact Pe ..
def isG(t:Tm):Bool:=decide ((t.names.length:Int)=0)
theorem Sa(t:Tm):isG (rW t)=isG t:=by unfold isG;rw[Aw]
structure Gu where
 k:Int
 l:Tm
 r:Tm
def Gu.row(g:Gu):List D:=[.int g.k,.int g.l.k,.int g.l.n,.str g.l.s,.sl (g.l.as.map Tm.row),.int g.r.k,.int g.r.n,.str g.r.s,.sl (g.r.as.map Tm.row)]
noncomputable def holds(g:Gu):Bool :=
 isG g.l&&(isG g.r&&(if g.k=1 then eqb (rW g.l).row (rW g.r).row else if g.k=2 then !eqb (rW g.l).row (rW g.r).row else if g.k=3 then isW (rW g.l)&&(isW (rW g.r)&&decide ((rW g.l).n<(rW g.r).n)) else false))
def dp(l:List Bnd)(g:Gu):Gu:=⟨g.k,aS l g.l,aS l g.r⟩
def Gu.ok(g:Gu):Prop:=g.l.nodes<=1048577/\g.r.nodes<=1048577
theorem Mw{l:List Bnd}(hl:∀ b∈l,b.2.nodes=1){g:Gu}(h:g.ok):(dp l g).ok:=⟨G8 (uj hl _) h.1,G8 (uj hl _) h.2⟩
theorem pq(vars:List ByteArray)(c:Int):∀ b∈bi vars c,b.2.nodes=1:=fun b hb=>by
 unfold bi at hb;simp only[F8] at hb;obtain⟨p,_,rfl⟩:=hb;simp[word,Tm.nodes,Tm.nodesL]
noncomputable def qk(vars:List ByteArray)(gs:List Gu)(c:Int):Bool:=gs.all fun g=>holds (dp (bi vars c) g)
noncomputable def gf(vars:List ByteArray)(gs:List Gu):List Nat:=(U2 (gt vars.length).toNat).filter fun c=>qk vars gs (c:Int)
theorem yh{F:Nat->aa->R}{N:Nat}{p:Nat->Bool}{g:Nat->List D}{K:aa->R}(hs:∀ i acc,i<N->acc.length<=i->F i acc=if p i then F (i+1) (acc++[g i]) else F (i+1) acc)(he:∀ acc,F N acc=K acc) :
 F 0 []=K (((U2 N).filter p).map g):=by
 have key:∀ (n i:Nat),i+n=N->F i (((U2 i).filter p).map g)=K (((U2 N).filter p).map g):=by
  intro n;induction n with
  |zero =>
   intro i hi;have:i=N:=by omega
   subst this;rw[he]
  |succ n ih =>
   intro i hi;have hl:(((U2 i).filter p).map g).length<=i:=by
    rw[B6];exact G8 (Q3 _ _) (by simp)
   rw[hs i _ (by omega) hl,<-ih (i+1) (by omega),List.range_succ,List.filter_append]
   cases h:p i with
   |true=>simp[h]
   |false=>simp[h]
 simpa using key N 0 (by omega)
theorem Ip{α:Type}{F:Nat->R}{xs:List α}{p:α->Bool}{A B:R}(hs:∀ i (hi:i<xs.length),F i=bif p xs[i] then F (i+1) else B)(he:F xs.length=A):F 0=bif xs.all p then A else B:=by
 have key:∀ (n i:Nat),i+n=xs.length->F i=bif (xs.drop i).all p then A else B:=by
  intro n;induction n with
  |zero =>
   intro i hi;have:i=xs.length:=by omega
   subst this;rw[he,C7];rfl
  |succ n ih =>
   intro i hi;have hlt:i<xs.length:=by omega
   rw[hs i hlt,ih (i+1) (by omega),B9 hlt,J3]
   cases p xs[i]<;>rfl
 simpa using key xs.length 0 (by omega)
theorem Pf{α:Type}{F:Nat->Bool->R}{xs:List α}{p:α->Bool}{A:Bool->R}(hs:∀ i (hi:i<xs.length) b,F i b=F (i+1) (b&&p xs[i]))(he:∀ b,F xs.length b=A b):F 0 true=A (xs.all p):=by
 have key:∀ (n i:Nat) (b:Bool),i+n=xs.length->F i b=A (b&&(xs.drop i).all p):=by
  intro n;induction n with
  |zero =>
   intro i b hi;have:i=xs.length:=by omega
   subst this;rw[he,C7];simp
  |succ n ih =>
   intro i b hi;have hlt:i<xs.length:=by omega
   rw[hs i hlt,ih (i+1) _ (by omega),B9 hlt,J3,Bool.and_assoc]
 simpa using key xs.length 0 true (by omega)
def aj(r:R)(Q:Nat×List D->Prop):Prop:=∃ x,r=some x/\Q x
theorem aj.bind{r:R}{f:Nat×List D->R}{P Q:Nat×List D->Prop}(h:aj r P)(k:∀ x,P x->aj (f x) Q):aj (r.bind f) Q:=by
 obtain⟨x,rfl,hx⟩:=h;exact k x hx
theorem aj.ite{c:Bool}{a b:R}{Q:Nat×List D->Prop}(h1:c=true->aj a Q)(h2:c=false->aj b Q):aj (bif c then a else b) Q:=by
 cases c
 ·exact h2 rfl
 ·exact h1 rfl
theorem aj.ret{x:Nat×List D}{Q:Nat×List D->Prop}(h:Q x):aj (some x) Q:=⟨x,rfl,h⟩
theorem aj.mono{r:R}{P Q:Nat×List D->Prop}(h:aj r P)(k:∀ x,P x->Q x):aj r Q:=by
 obtain⟨x,h1,h2⟩:=h;exact⟨x,h1,k x h2⟩
theorem Sb(a:Int):0<=Cf .i64 a 255/\Cf .i64 a 255<=255:=by
 unfold Cf;have h:(BitVec.ofInt IntKind.i64.bits a &&& BitVec.ofInt IntKind.i64.bits 255).toNat<=255:=by
  rw[BitVec.toNat_and];exact G8 Nat.and_le_right (by decide)
 rw[IntWalk.i64_in _ (by omega)]
 omega
end Go.Q
namespace Go.Q
open Go
theorem Iq{α:Type}{F:Nat->aa->R}{xs:List α}(g:α->aa)(a0:aa){K:aa->R}(hs:∀ i (hi:i<xs.length) acc,(acc++g xs[i]).length<=a0.length+(xs.flatMap g).length->F i acc=F (i+1) (acc++g xs[i]))(he:∀ acc,F xs.length acc=K acc) :
 F 0 a0=K (a0++xs.flatMap g):=by
 have key:∀ (n i:Nat),i+n=xs.length->F i (a0++(xs.take i).flatMap g)=K (a0++xs.flatMap g):=by
  intro n;induction n with
  |zero =>
   intro i hi;have:i=xs.length:=by omega
   subst this;rw[he,List.take_length]
  |succ n ih =>
   intro i hi;have hlt:i<xs.length:=by omega
   have e:(xs.take (i+1)).flatMap g=(xs.take i).flatMap g++g xs[i]:=by
    rw[U9 hlt,S6,N8,List.flatMap_nil,J0]
   have hl:((xs.take (i+1)).flatMap g).length<=(xs.flatMap g).length:=by
    conv=>rhs;rw[<-Q2 (i+1) xs,S6,E6]
    omega
   rw[hs i hlt _ (by rw[E5,<-e,E6];omega),E5,<-e]
   exact ih (i+1) (by omega)
 simpa using key xs.length 0 (by omega)
theorem si(t:Tm):t.names.map ag=(if t.k=1 then [ag t.s] else [])++t.as.flatMap fun a=>a.names.map ag:=by
 rw[Tm.names_eq,D7,List.map_flatMap];split<;>rfl
theorem Ds(t:Tm):(t.as.flatMap fun a=>a.names.map ag).length<=(t.as.map Tm.nodes).sum:=by
 have:=Io (xs:=t.as) (f:=Tm.names) (g:=Tm.nodes) fun x _=>bz x
 have e:(t.as.flatMap fun a=>a.names.map ag)=(t.as.flatMap Tm.names).map ag:=by rw[List.map_flatMap]
 rw[e,B6];exact this
end Go.Q
end
section
namespace Go.Q.S
open Go Go.Q
theorem Ir{d:Nat}(h:d<=64):IntKind.i64.wrap (((d+1:Nat):Int)-1)=(d:Int):=by
 unfold IntKind.wrap;simp[IntKind.bits,IntKind.signed];omega
end Go.Q.S
end
section
/- Marks: numbers written into all that a row of data holds,and read again. -/
namespace Go.Q.S
open Go Go.Q
variable{mt:Int->ByteArray}
theorem over_row_at{rows:aa}{i:Nat}{r:List D}(hi:i<rows.length):rowAt (over i [r] rows) i=r:=yd hi
theorem over_row_len{rows:aa}{i:Nat}{r:List D}(hi:i<rows.length):(over i [r] rows).length=rows.length:=bx _ _ _ (by simp;omega)
theorem over_row_two{rows:aa}{i:Nat}{x y:List D}(hi:i<rows.length):over i [y] (over i [x] rows)=over i [y] rows:=wh hi
end Go.Q.S
end
section
/- Terms that are made are well typed;how many marks they bear. -/
namespace Go.Q.S
open Go Go.Q
def i64ok(n:Int):Prop:=(Lit.int .i64 n).wf=true
theorem i64ok_of{n:Int}(h:-9223372036854775808<=n)(h':n<=9223372036854775807):i64ok n:=by
 have h1:IntKind.i64.min=-9223372036854775808:=by decide
 have h2:IntKind.i64.max=9223372036854775807:=by decide
 unfold i64ok Lit.wf;simp only[h1,h2,B8,decide_eq_true_eq];exact⟨h,h'⟩
section
variable{H:Tab}{e:TypeId}{lay:List CT}(hT:ag5 H e lay)
include hT
omit hT in
theorem cmp_ok{s:ByteArray}{x y:Tm}(hx:isW x=true)(hy:isW y=true):i64ok (cmp s x.n y.n):=by
 simp only[isW,B8,decide_eq_true_eq] at hx hy;obtain⟨_,a1,a2,_⟩:=hx;obtain⟨_,b1,b2,_⟩:=hy;unfold cmp;split
 ·have h1:=P2 (x.n+y.n) (show(0:Int)<4 by decide)
  have h2:=R4 4 (show 0<=x.n+y.n by omega)
  exact i64ok_of (by omega) (by omega)
 ·split
  ·have h1:=P2 (x.n-y.n+4) (show(0:Int)<4 by decide)
   have h2:=R4 4 (show 0<=x.n-y.n+4 by omega)
   exact i64ok_of (by omega) (by omega)
  ·have h1:=P2 (x.n*y.n) (show(0:Int)<4 by decide)
   have h2:=R4 4 (show 0<=x.n*y.n from Int.mul_nonneg a1 b1)
   exact i64ok_of (by omega) (by omega)
end
def instR(vars:List ByteArray)(t:Tm)(c:Int):Tm:=if isC vars.length c then bt vars t c else tm0
theorem instR_small{vars:List ByteArray}{t:Tm}(h:aw t)(c:Int):aw (instR vars t c):=by
 unfold instR;split
 ·exact Au h c
 ·exact nc ..
theorem instR_nodes{vars:List ByteArray}{t:Tm}(c:Int):(instR vars t c).nodes<=t.nodes:=by
 unfold instR;split
 ·exact G8 (gu _) (uj (pq vars c) t)
 ·have h1:tm0.nodes=1:=by rw[Tm.nodes_eq];simp[tm0,Tm.as]
  have:=Tm.nodes_eq t;omega
end Go.Q.S
end
section
/- Cells Wo together;filters that may break off. -/
namespace Go.Q.S
open Go Go.Q
section
variable{H:Tab}{ds:List D}{cts:List CT}
end
theorem wq(t:Tm):tm0.nodes<=t.nodes:=by
 have h1:tm0.nodes=1:=by rw[Tm.nodes_eq];simp[tm0,Tm.as]
 have:=Tm.nodes_eq t;omega
end Go.Q.S
end
section
namespace Go.Q
open Go
theorem wu(a0:D)(l:List D):nth (a0::l) 0=a0:=rfl
theorem yt(a0 a1:D)(l:List D):nth (a0::a1::l) 1=a1:=rfl
theorem yu(a0 a1 a2:D)(l:List D):nth (a0::a1::a2::l) 2=a2:=rfl
theorem yv(a0 a1 a2 a3:D)(l:List D):nth (a0::a1::a2::a3::l) 3=a3:=rfl
theorem yw(a0 a1 a2 a3 a4:D)(l:List D):nth (a0::a1::a2::a3::a4::l) 4=a4:=rfl
theorem yx(a0 a1 a2 a3 a4 a5:D)(l:List D):nth (a0::a1::a2::a3::a4::a5::l) 5=a5:=rfl
theorem yy(a0 a1 a2 a3 a4 a5 a6:D)(l:List D):nth (a0::a1::a2::a3::a4::a5::a6::l) 6=a6:=rfl
theorem yz(a0 a1 a2 a3 a4 a5 a6 a7:D)(l:List D):nth (a0::a1::a2::a3::a4::a5::a6::a7::l) 7=a7:=rfl
theorem za(a0 a1 a2 a3 a4 a5 a6 a7 a8:D)(l:List D):nth (a0::a1::a2::a3::a4::a5::a6::a7::a8::l) 8=a8:=rfl
theorem zb(a0 a1 a2 a3 a4 a5 a6 a7 a8 a9:D)(l:List D):nth (a0::a1::a2::a3::a4::a5::a6::a7::a8::a9::l) 9=a9:=rfl
theorem nk(a0 a1 a2 a3 a4 a5 a6 a7 a8 a9 a10:D)(l:List D):nth (a0::a1::a2::a3::a4::a5::a6::a7::a8::a9::a10::l) 10=a10:=rfl
theorem nn(a0 a1 a2 a3 a4 a5 a6 a7 a8 a9 a10 a11:D)(l:List D):nth (a0::a1::a2::a3::a4::a5::a6::a7::a8::a9::a10::a11::l) 11=a11:=rfl
theorem np(a0 a1 a2 a3 a4 a5 a6 a7 a8 a9 a10 a11 a12:D)(l:List D):nth (a0::a1::a2::a3::a4::a5::a6::a7::a8::a9::a10::a11::a12::l) 12=a12:=rfl
theorem nq(a0 a1 a2 a3 a4 a5 a6 a7 a8 a9 a10 a11 a12 a13:D)(l:List D):nth (a0::a1::a2::a3::a4::a5::a6::a7::a8::a9::a10::a11::a12::a13::l) 13=a13:=rfl
theorem nr(a0 a1 a2 a3 a4 a5 a6 a7 a8 a9 a10 a11 a12 a13 a14:D)(l:List D):nth (a0::a1::a2::a3::a4::a5::a6::a7::a8::a9::a10::a11::a12::a13::a14::l) 14=a14:=rfl
theorem nu(a0 a1 a2 a3 a4 a5 a6 a7 a8 a9 a10 a11 a12 a13 a14 a15:D)(l:List D):nth (a0::a1::a2::a3::a4::a5::a6::a7::a8::a9::a10::a11::a12::a13::a14::a15::l) 15=a15:=rfl
theorem nv(a0 a1 a2 a3 a4 a5 a6 a7 a8 a9 a10 a11 a12 a13 a14 a15 a16:D)(l:List D):nth (a0::a1::a2::a3::a4::a5::a6::a7::a8::a9::a10::a11::a12::a13::a14::a15::a16::l) 16=a16:=rfl
theorem nz(a0 a1 a2 a3 a4 a5 a6 a7 a8 a9 a10 a11 a12 a13 a14 a15 a16 a17:D)(l:List D):nth (a0::a1::a2::a3::a4::a5::a6::a7::a8::a9::a10::a11::a12::a13::a14::a15::a16::a17::l) 17=a17:=rfl
theorem oa(a0 a1 a2 a3 a4 a5 a6 a7 a8 a9 a10 a11 a12 a13 a14 a15 a16 a17 a18:D)(l:List D):nth (a0::a1::a2::a3::a4::a5::a6::a7::a8::a9::a10::a11::a12::a13::a14::a15::a16::a17::a18::l) 18=a18:=rfl
theorem oc(a0 a1 a2 a3 a4 a5 a6 a7 a8 a9 a10 a11 a12 a13 a14 a15 a16 a17 a18 a19:D)(l:List D):nth (a0::a1::a2::a3::a4::a5::a6::a7::a8::a9::a10::a11::a12::a13::a14::a15::a16::a17::a18::a19::l) 19=a19:=rfl
theorem od(a0 a1 a2 a3 a4 a5 a6 a7 a8 a9 a10 a11 a12 a13 a14 a15 a16 a17 a18 a19 a20:D)(l:List D):nth (a0::a1::a2::a3::a4::a5::a6::a7::a8::a9::a10::a11::a12::a13::a14::a15::a16::a17::a18::a19::a20::l) 20=a20:=rfl
theorem oe(a0 a1 a2 a3 a4 a5 a6 a7 a8 a9 a10 a11 a12 a13 a14 a15 a16 a17 a18 a19 a20 a21:D)(l:List D):nth (a0::a1::a2::a3::a4::a5::a6::a7::a8::a9::a10::a11::a12::a13::a14::a15::a16::a17::a18::a19::a20::a21::l) 21=a21:=rfl
theorem og(a0 a1 a2 a3 a4 a5 a6 a7 a8 a9 a10 a11 a12 a13 a14 a15 a16 a17 a18 a19 a20 a21 a22:D)(l:List D):nth (a0::a1::a2::a3::a4::a5::a6::a7::a8::a9::a10::a11::a12::a13::a14::a15::a16::a17::a18::a19::a20::a21::a22::l) 22=a22:=rfl
theorem oh(a0 a1 a2 a3 a4 a5 a6 a7 a8 a9 a10 a11 a12 a13 a14 a15 a16 a17 a18 a19 a20 a21 a22 a23:D)(l:List D):nth (a0::a1::a2::a3::a4::a5::a6::a7::a8::a9::a10::a11::a12::a13::a14::a15::a16::a17::a18::a19::a20::a21::a22::a23::l) 23=a23:=rfl
theorem oi(a0 a1 a2 a3 a4 a5 a6 a7 a8 a9 a10 a11 a12 a13 a14 a15 a16 a17 a18 a19 a20 a21 a22 a23 a24:D)(l:List D):nth (a0::a1::a2::a3::a4::a5::a6::a7::a8::a9::a10::a11::a12::a13::a14::a15::a16::a17::a18::a19::a20::a21::a22::a23::a24::l) 24=a24:=rfl
theorem oj(a0 a1 a2 a3 a4 a5 a6 a7 a8 a9 a10 a11 a12 a13 a14 a15 a16 a17 a18 a19 a20 a21 a22 a23 a24 a25:D)(l:List D):nth (a0::a1::a2::a3::a4::a5::a6::a7::a8::a9::a10::a11::a12::a13::a14::a15::a16::a17::a18::a19::a20::a21::a22::a23::a24::a25::l) 25=a25:=rfl
theorem dI(n:Int):(D.int n).I=n:=rfl
theorem dB(b:Bool):(D.bool b).B=b:=rfl
theorem dS(s:ByteArray):(D.str s).S=s:=rfl
theorem dL(r:aa):(D.sl r).L=r:=rfl
abbrev Ky:=List UInt8
theorem Mx{a b:ByteArray}(h:a.data.toList=b.data.toList):a=b:=by
 cases a;cases b;simp only at h;congr 1;exact Array.ext' h
theorem uk:∀ (x y:List UInt8),Op.bytesLess x y=decide (x<y)
 |x,[]=>by simp[Op.bytesLess]
 | [],y::ys=>by simp[Op.bytesLess]
 |a::x,b::y=>by
  unfold Op.bytesLess;rw[uk x y];rw[Bool.eq_iff_iff];simp only[P9,B8,decide_eq_true_eq,beq_iff_eq,List.cons_lt_cons_iff]
theorem Xj(a b:ByteArray):ltB a b=decide (a.data.toList<b.data.toList):=by
 unfold ltB;rw[uk,ByteArray.toList_eq,ByteArray.toList_eq]
theorem ww(a:Ky):¬ a<a:=List.lt_irrefl a
theorem Ax{a b c:Ky}(h:a<b)(k:b<c):a<c:=List.lt_trans h k
theorem Lh(a b:Ky):a<b\/a=b\/b<a:=by
 by_cases h:a<b
 ·exact .inl h
 ·by_cases k:b<a
  ·exact .inr (.inr k)
  ·exact .inr (.inl (List.le_antisymm k h))
def Asc(l:List Ky):Prop:=l.Pairwise (·< ·)
theorem Fr:∀ {l m:List Ky},Asc l->Asc m->(∀ x,x∈l↔x∈m)->l=m
 | [],m,hl,hm,h=>by
  cases m with
  |nil=>rfl
  |cons y m=>exact absurd ((h y).2 (C5 ..)) (by simp)
 |x::l,[],hl,hm,h=>absurd ((h x).1 (C5 ..)) (by simp)
 |x::l,y::m,hl,hm,h=>by
  obtain⟨h1,h2⟩:=R9.1 hl;obtain⟨h3,h4⟩:=R9.1 hm;have e:x=y:=by
   rcases D9.1 ((h x).1 (C5 ..)) with e |hx
   ·exact e
   ·rcases D9.1 ((h y).2 (C5 ..)) with e |hy
    ·exact e.symm
    ·exact absurd (Ax (h3 x hx) (h1 y hy)) (ww _)
  subst e;congr 1
  refine Fr h2 h4 fun z=>⟨fun hz=>?_,fun hz=>?_⟩
  ·rcases D9.1 ((h z).1 (C6 _ hz)) with e |hz'
   ·exact absurd (e▸h1 z hz) (ww _)
   ·exact hz'
  ·rcases D9.1 ((h z).2 (C6 _ hz)) with e |hz'
   ·exact absurd (e▸h3 z hz) (ww _)
   ·exact hz'
theorem It{l:List Ky}(h:l.Pairwise fun a b=>¬ b<a):Asc (Lib.compact l)/\∀ x,x∈Lib.compact l↔x∈l:=by
 have hg:∀ i j,i<j->j<l.length->¬ l.toArray[j]!<l.toArray[i]!:=fun i j hij hj=>by
  rw[getElem!_pos l.toArray j (by simpa using hj),getElem!_pos l.toArray i (by simp;omega)]
  simp only[List.getElem_toArray];exact List.pairwise_iff_getElem.1 h i j (by omega) hj hij
 unfold Lib.compact Lib.compactUpTo;constructor
 ·unfold Asc
  rw[List.pairwise_map];have hp:((U2 l.length).filter (Lib.keeps l.toArray)).Pairwise fun i j=>i<j/\j<l.length/\Lib.keeps l.toArray j=true:=by
   have h1:(U2 l.length).Pairwise fun i j=>i<j:=List.pairwise_lt_range
   have h2:=h1.sublist (O8 (p:=Lib.keeps l.toArray));refine List.Pairwise.imp_of_mem (fun {a b} ha hb hab=>?_) h2
   have hb':=P1.1 hb;exact⟨hab,by simpa using hb'.1,hb'.2⟩
  refine hp.imp fun {i j} ⟨hij,hj,hk⟩=>?_
  simp only[Lib.keeps,decide_eq_true_eq] at hk;have hne:l.toArray[j]!≠l.toArray[j-1]!:=hk.resolve_left (by omega)
  have h1:l.toArray[j-1]!<l.toArray[j]!:=by
   rcases Lh l.toArray[j-1]! l.toArray[j]! with h |h |h
   ·exact h
   ·exact absurd h.symm hne
   ·exact absurd h (hg (j-1) j (by omega) hj)
  by_cases hij':i=j-1
  ·rw[hij'];exact h1
  ·have h2:=hg i (j-1) (by omega) (by omega)
   rcases Lh l.toArray[i]! l.toArray[j-1]! with h |h |h
   ·exact Ax h h1
   ·rw[h];exact h1
   ·exact absurd h h2
 ·intro x
  simp only[F8,P1,List.mem_range];constructor
  ·rintro⟨j,⟨hj,_⟩,rfl⟩
   rw[getElem!_pos l.toArray j (by simpa using hj)]
   simp
  ·intro hx
   obtain⟨j,hj,rfl⟩:=List.mem_iff_getElem.1 hx;have key:∀ n j (hj:j<l.length),j<=n->∃ k,(k<l.length/\Lib.keeps l.toArray k=true)/\l.toArray[k]! = l[j]:=by
    intro n;induction n with
    |zero =>
     intro j hj hn;obtain rfl:j=0:=by omega
     exact⟨0,⟨hj,by simp[Lib.keeps]⟩,by rw[getElem!_pos l.toArray 0 (by simpa using hj)];simp⟩
    |succ n ih =>
     intro j hj hn;by_cases hk:Lib.keeps l.toArray j=true
     ·exact⟨j,⟨hj,hk⟩,by rw[getElem!_pos l.toArray j (by simpa using hj)];simp⟩
     ·simp only[Lib.keeps,decide_eq_true_eq] at hk
      have h0:j≠0:=fun e=>hk (.inl e)
      have he:l.toArray[j]! = l.toArray[j-1]!:=Classical.byContradiction fun hne=>hk (.inr hne)
      obtain⟨k,hk1,hk2⟩:=ih (j-1) (by omega) (by omega)
      refine⟨k,hk1,hk2.trans ?_⟩;rw[getElem!_pos l.toArray j (by simpa using hj),getElem!_pos l.toArray (j-1) (by simp;omega)] at he
      simpa using he.symm
   exact key j j hj (F2 _)
def kh(x:Ky):List Ky->List Ky
 | []=>[x]
 |y::r=>if y<x then y::kh x r else if y=x then y::r else x::y::r
theorem kj(x z:Ky):∀ l:List Ky,z∈kh x l↔z=x\/z∈l
 | []=>by simp[kh]
 |y::r=>by
  unfold kh;split
  ·simp only[D9,kj x z r];exact⟨fun h=>by rcases h with h |h |h<;>simp[h],fun h=>by rcases h with h |h |h<;>simp[h]⟩
  ·split
   ·rename_i h;subst h;simp
   ·simp
theorem un(x:Ky):∀ {l:List Ky},Asc l->Asc (kh x l)
 | [],h=>by simp[kh,Asc]
 |y::r,h=>by
  obtain⟨h1,h2⟩:=R9.1 h;unfold kh;split
  ·rename_i hyx
   refine R9.2 ⟨fun z hz=>?_,un x h2⟩
   rcases(kj x z r).1 hz with rfl |hz
   ·exact hyx
   ·exact h1 z hz
  ·split
   ·exact h
   ·rename_i h3 h4
    have hxy:x<y:=(Lh x y).elim id fun h=>h.elim (fun h=>absurd h.symm h4) fun h=>absurd h h3
    refine R9.2 ⟨fun z hz=>?_,h⟩
    rcases D9.1 hz with rfl |hz
    ·exact hxy
    ·exact Ax hxy (h1 z hz)
def qx:List Ky->List Ky->List Ky
 | [],acc=>acc
 |x::r,acc=>qx r (kh x acc)
theorem ql:∀ (l:List Ky) {acc:List Ky},Asc acc->Asc (qx l acc)/\∀ z,z∈qx l acc↔z∈l\/z∈acc
 | [],acc,h=>⟨h,by simp[qx]⟩
 |x::r,acc,h=>by
  obtain⟨h1,h2⟩:=ql r (un x h);refine⟨h1,fun z=>?_⟩
  simp only[qx,h2,kj,D9];exact⟨fun h=>by rcases h with h |h |h<;>simp[h],fun h=>by rcases h with (h |h) |h<;>simp[h]⟩
theorem Pg(l:List Ky):(l.mergeSort fun x y=>decide (x<=y)).Pairwise fun a b=>¬ b<a:=by
 have h:=List.pairwise_mergeSort (le:=fun x y:Ky=>decide (x<=y)) (fun a b c h1 h2=>by
  simp only[decide_eq_true_eq] at *;exact List.le_trans h1 h2) (fun a b=>by
  simp only[P9,decide_eq_true_eq];exact List.le_total a b) l
 exact h.imp fun {a b} hab=>by simpa using hab
theorem Fs(l:List Ky):Lib.compact (l.mergeSort fun x y=>decide (x<=y))=qx l []:=by
 obtain⟨h1,h2⟩:=It (Pg l);obtain⟨h3,h4⟩:=ql l (acc:=[]) (by simp[Asc])
 refine Fr h1 h3 fun x=>?_
 rw[h2,h4,(List.mergeSort_perm l _).mem_iff];simp
def ofK(k:Ky):ByteArray:=⟨k.toArray⟩
def toK(b:ByteArray):Ky:=b.data.toList
theorem Ft(b:ByteArray):ofK (toK b)=b:=by simp[ofK,toK]
theorem My(k:Ky):toK (ofK k)=k:=by simp[ofK,toK]
def cc(l:List ByteArray):List ByteArray:=(qx (l.map toK) []).map ofK
theorem pr(l:List ByteArray)(x:ByteArray):x∈cc l↔x∈l:=by
 unfold cc;rw[F8];constructor
 ·rintro⟨k,hk,rfl⟩
  rcases((ql (l.map toK) (acc:=[]) (by simp[Asc])).2 k).1 hk with hk |hk
  ·obtain⟨b,hb,rfl⟩:=F8.1 hk
   rw[Ft];exact hb
  ·simp at hk
 ·intro hx
  exact⟨toK x,((ql (l.map toK) (acc:=[]) (by simp[Asc])).2 _).2 (.inl (F8.2 ⟨x,hx,rfl⟩)),Ft x⟩
theorem Ay:∀ (l acc:List Ky),(qx l acc).length<=l.length+acc.length
 | [],acc=>by simp[qx]
 |x::r,acc=>by
  have h1:∀ acc:List Ky,(kh x acc).length<=acc.length+1:=fun acc=>by
   induction acc with
   |nil=>simp[kh]
   |cons y acc ih =>
    unfold kh;by_cases h1:y<x
    ·rw[H5 h1];simp only[C2];omega
    ·rw[H6 h1]
     by_cases h2:y=x
     ·rw[H5 h2];exact Nat.le_succ _
     ·rw[H6 h2];simp
  have:=Ay r (kh x acc);have:=h1 acc;simp only[qx,C2];omega
theorem ei(l:List ByteArray):(cc l).length<=l.length:=by
 have:=Ay (l.map toK) [];simpa[cc] using this
theorem qm(k:Ky):fv k=ag (ofK k):=rfl
theorem Iu(l:List Ky):l.map fv=(l.map ofK).map ag:=by rw[K2];rfl
theorem Iv(l:List ByteArray):l.map ag=(l.map toK).map fv:=by
 rw[K2];exact K9 fun b _=>by simp only[Function.comp,qm,Ft]
theorem Xk{a b:Ky}:ofK a=ofK b↔a=b:=⟨fun h=>by rw[<-My a,h,My],fun h=>h▸rfl⟩
theorem Xl(a b:Ky):ltB (ofK a) (ofK b)=decide (a<b):=by rw[Xj];rfl
theorem Sc(v:Nat)(l:List ByteArray)(h:l.length<4611686018427387904):Dg v [.sl (l.map ag)]=some (0,[.sl (((l.map toK).mergeSort fun x y=>decide (x<=y)).map fv)]):=by
 unfold Dg;simp only;rw[Iv,Aq];simp only;rw[show Nat.blt (l.map toK).length 4611686018427387904=true from Nat.ble_eq_true_of_le (by rw[B6];exact h)]
 rfl
theorem Se(v:Nat)(l:List Ky)(h:l.length<=9223372036854775807):Dh v [.sl (l.map fv)]=some (0,[.sl ((Lib.compact l).map fv)]):=by
 unfold Dh;simp only;rw[Aq];simp only;rw[show Nat.ble l.length 9223372036854775807=true from Nat.ble_eq_true_of_le h]
 rfl
def ldK(x:Ky):List Ky->Nat
 | []=>0
 |y::r=>if y<x then ldK x r+1 else 0
theorem Sf(x:Ky):∀ l:List Ky,ldK x l<=l.length
 | []=>F2 _
 |y::r=>by unfold ldK;split;·have:=Sf x r;simp only[C2];omega
           ·exact J1 _
theorem Mz(x:Ky):∀ l:List Ky,kh x l=if l[ldK x l]?=some x then l else l.take (ldK x l)++[x]++l.drop (ldK x l)
 | []=>by simp[kh,ldK]
 |y::r=>by
  unfold kh ldK;by_cases h:y<x
  ·rw[H5 h,H5 h,Mz x r]
   simp only[List.getElem?_cons_succ,List.take_succ_cons,List.drop_succ_cons,F9];split<;>rfl
  ·rw[H6 h,H6 h]
   by_cases h2:y=x
   ·rw[H5 h2];simp[h2]
   ·rw[H6 h2];simp[h2]
theorem Sg(x:Ky)(l:List Ky)(a:Nat)(h:a<l.length):ldK x (l.drop a)=if l[a]<x then ldK x (l.drop (a+1))+1 else 0:=by
 rw[B9 h];rfl
end Go.Q
end
section
/- Guards and other rows out of data. -/
namespace Go.Q.S
open Go Go.Q
end Go.Q.S
namespace Go.Q.S
open Go Go.Q
theorem allC_len(vars:List ByteArray)(gs:List Gu):(gf vars gs).length<=64:=by
 unfold gf;refine G8 (Q3 _ _) ?_;have:=(kz vars.length).2;simp;omega
theorem Xm(vars:List ByteArray)(gs:List Gu):∀ x∈gf vars gs,i64ok (x:Int):=fun x hx=>by
 unfold gf at hx;have h1:=(P1.1 hx).1;have:=(kz vars.length).2;simp at h1;exact i64ok_of (by omega) (by omega)
def nRow(i:Nat):List D:=[.int (i:Int)]
end Go.Q.S
end
section
/- Names,terms,signatures,rules: what their checks compute. -/
namespace Go.Q
open Go
theorem qn(s:ByteArray):s.size=s.data.toList.length:=by rw[Array.length_toList];rfl
theorem pt{s:ByteArray}{i:Nat}(h:i<s.data.toList.length):s.get! i=s.data.toList[i]:=by
 have h':i<s.data.size:=by simpa using h
 show s.data[i]! = _
 rw[getElem!_pos s.data i h'];simp
def Cn(b:UInt8):Bool:=(decide (97<=b.toNat)&&decide (b.toNat<=122))||(decide (48<=b.toNat)&&decide (b.toNat<=57))
def Du(lo hi:Nat):List UInt8->Bool
 | []=>false
 |b::r=>decide ((b::r).length<=8)&&((decide (lo<=b.toNat)&&decide (b.toNat<=hi))&&r.all Cn)
def kk(s:ByteArray):Bool:=Du 97 122 s.data.toList
def qy(s:ByteArray):Bool:=Du 65 90 s.data.toList
theorem Iw(s:ByteArray):s=⟨#[]⟩↔s.data.toList=[]:=⟨fun h=>by rw[h],fun h=>Mx h⟩
theorem nv0(a:D)(l:List D):nth (a::l) 0=a:=id rfl
theorem nvS(a:D)(l:List D)(i:Nat):nth (a::l) (i+1)=nth l i:=id rfl
theorem dvI(n:Int):(D.int n).I=n:=id rfl
theorem dvB(b:Bool):(D.bool b).B=b:=id rfl
theorem dvS(s:ByteArray):(D.str s).S=s:=id rfl
theorem dvL(r:aa):(D.sl r).L=r:=id rfl
namespace Tm
mutual
def depth:Tm->Nat
 |.mk _ _ _ as=>depthL as+1
def depthL:List Tm->Nat
 | []=>0
 |t::ts=>max (depth t) (depthL ts)
end
theorem depth_eq(t:Tm):t.depth=depthL t.as+1:=by cases t;rfl
theorem depth_nodes:∀ t:Tm,t.depth<=t.nodes:=Tm.ind fun t ih=>by
 have h:∀ l:List Tm,(∀ a∈l,a.depth<=a.nodes)->depthL l<=(l.map nodes).sum:=fun l=>by
  induction l with
  |nil=>intro _;exact F2 _
  |cons a l ih =>
   intro hl;have h1:=hl a (C5 ..);have h2:=ih fun b hb=>hl b (C6 _ hb)
   simp only[depthL,C4,K1];omega
 have:=h t.as ih;rw[depth_eq,nodes_eq];omega
def nodeN(t:Tm):Bool :=
 if t.k=1 then decide (t.n=0)&&(decide (t.as.length=0)&&qy t.s) else if t.k=3 then isW t else if t.k=2 then decide (t.n=0)&&kk t.s else false
mutual
def areN:Tm->Bool
 |.mk k n s as=>nodeN (.mk k n s as)&&areNL as
def areNL:List Tm->Bool
 | []=>true
 |t::ts=>areN t&&areNL ts
end
theorem areN_eq(t:Tm):t.areN=(nodeN t&&areNL t.as):=by cases t;rfl
theorem areNL_all:∀ l:List Tm,areNL l=l.all areN
 | []=>rfl
 |t::l=>by simp only[areNL,J3,areNL_all l]
def valid(t:Tm):Bool:=decide (t.nodes<=60)&&(decide (t.depth<=16)&&t.areN)
end Tm
inductive Wt:Tm->Prop
 |mk {t:Tm}:S.i64ok t.k->S.i64ok t.n->t.s.size<=maxLen->t.as.length<=maxLen->(∀ a∈t.as,Wt a)->Wt t
theorem Wt.k{t:Tm}(h:Wt t):S.i64ok t.k:=by cases h;assumption
theorem Wt.n{t:Tm}(h:Wt t):S.i64ok t.n:=by cases h;assumption
theorem Wt.s{t:Tm}(h:Wt t):t.s.size<=maxLen:=by cases h;assumption
theorem Wt.l{t:Tm}(h:Wt t):t.as.length<=maxLen:=by cases h;assumption
theorem Wt.sub{t a:Tm}(h:Wt t)(ha:a∈t.as):Wt a:=by cases h with |mk _ _ _ _ h=>exact h a ha
theorem Li:∀ t:Tm,Wt t->∀ x∈t.names,x.size<=maxLen:=Tm.ind fun t ih h x hx=>by
 rw[Tm.names_eq] at hx;rcases D4.1 hx with hx |hx
 ·split at hx
  ·simp at hx;rw[hx];exact h.s
  ·simp at hx
 ·obtain⟨a,ha,hx⟩:=K3.1 hx
  exact ih a ha (h.sub ha) x hx
theorem Si(l:List ByteArray):(cc l).length=l.length↔l.Nodup:=by
 have key:∀ (l acc:List Ky),Asc acc->((qx l acc).length=l.length+acc.length↔(l.Nodup/\∀ x∈l,x∉acc)):=by
  intro l;induction l with
  |nil=>intro acc _;simp[qx]
  |cons x l ih =>
   intro acc ha;have hl:=Ay l (kh x acc);have hmem:x∈acc->kh x acc=acc:=fun hx=>Fr (un x ha) ha fun z=>by
    rw[kj];exact⟨fun h=>h.elim (fun e=>e▸hx) id,.inr⟩
   have hlen:∀ acc:List Ky,x∉acc->(kh x acc).length=acc.length+1:=fun acc=>by
    induction acc with
    |nil=>intro _;rfl
    |cons y acc iha =>
     intro hx;have h1:y≠x:=fun e=>hx (e▸C5 ..)
     have h2:=iha fun h=>hx (C6 _ h)
     unfold kh;by_cases h3:y<x
     ·rw[H5 h3];simp only[C2,h2]
     ·rw[H6 h3,H6 h1];rfl
   have ih':=ih (kh x acc) (un x ha);simp only[qx,C2,List.nodup_cons,List.forall_mem_cons];by_cases hx:x∈acc
   ·rw[hmem hx] at hl ⊢
    constructor
    ·intro h;omega
    ·intro h;exact absurd hx h.2.1
   ·have h1:=hlen acc hx
    rw[show l.length+1+acc.length=l.length+(kh x acc).length by omega,ih']
    constructor
    ·rintro⟨h2,h3⟩
     exact⟨⟨fun hxl=>h3 x hxl ((kj ..).2 (.inl rfl)),h2⟩,hx,fun z hz hza=>h3 z hz ((kj ..).2 (.inr hza))⟩
    ·rintro⟨⟨h2,h3⟩,h4,h5⟩
     exact⟨h3,fun z hz hza=>((kj ..).1 hza).elim (fun e=>h2 (e▸hz)) (h5 z hz)⟩
 have h:=key (l.map toK) [] (by simp[Asc])
 have hn:(l.map toK).Nodup↔l.Nodup:=by
  constructor
  ·exact fun h=>(List.pairwise_map.1 h).imp fun {a b} (hab:toK a≠toK b) (e:a=b)=>hab (congrArg toK e)
  ·exact fun h=>List.pairwise_map.2 (h.imp fun {a b} hab e=>hab (Mx e))
 unfold cc;rw[B6];rw[<-hn];simpa using h
def dis(l:List ByteArray):Bool:=decide l.Nodup
def jp(r:List ByteArray)(s:ByteArray):Bool:=r.any fun y=>decide (y=s)
theorem uo{r:List ByteArray}{s:ByteArray}:jp r s=true↔s∈r:=by
 simp only[jp,Q4,decide_eq_true_eq];exact⟨fun ⟨y,h,e⟩=>e▸h,fun h=>⟨s,h,rfl⟩⟩
def wo(l r:List ByteArray):List ByteArray:=l.filter fun s=>!jp r s
abbrev de:ByteArray:=⟨#[119,111,114,100]⟩
abbrev e0:ByteArray:=⟨#[]⟩
structure OpM where
 n:ByteArray
 a:List ByteArray
 r:ByteArray
def OpM.row(o:OpM):List D:=[.str o.n,.sl (o.a.map ag),.str o.r]
def OpM.ok(o:OpM):Prop:=o.a.length<=1048576
structure pu(ops:List OpM):Prop where
 l:ops.length<=1048576
 a:∀ o∈ops,o.ok
def km:Option OpM->List D
 |some o=>[.str o.n,.str o.r,.bool true,.sl (o.a.map ag)]
 |none=>[.str e0,.str e0,.bool false,.sl []]
def dv(ops:List OpM)(s:ByteArray):Option OpM:=if isB s then some ⟨s,[de,de],de⟩ else ops.find? fun o=>decide (o.n=s)
theorem Az{ops:List OpM}(h:∀ o∈ops,o.ok){s:ByteArray}{o:OpM}(hf:dv ops s=some o):o.ok:=by
 unfold dv at hf;split at hf
 ·simp only[C9.injEq] at hf;subst hf;show 2<=1048576;decide
 ·exact h o (List.mem_of_find?_eq_some hf)
abbrev VS:=ByteArray×ByteArray
def VS.row(v:VS):List D:=[.str v.1,.str v.2]
def re(vs:List VS)(s:ByteArray):ByteArray:=match vs.find? fun v=>decide (v.1=s) with |some v=>v.2 |none=>e0
mutual
def ax(ops:List OpM)(vs:List VS):Tm->ByteArray
 |.mk k n s as=>if k=3 then de else if k=1 then re vs s else if k=2 then (match dv ops s with
  |none=>e0
  |some o=>if o.a.length=as.length then (if bn ops vs as o.a then o.r else e0) else e0) else e0
def bn(ops:List OpM)(vs:List VS):List Tm->List ByteArray->Bool
 | [],_=>true
 |t::ts,[]=>true
 |t::ts,x::xs=>(!decide (ax ops vs t=e0)&&decide (ax ops vs t=x))&&bn ops vs ts xs
end
theorem cq(ops:List OpM)(vs:List VS)(t:Tm):ax ops vs t=if t.k=3 then de else if t.k=1 then re vs t.s else if t.k=2 then (match dv ops t.s with
 |none=>e0
 |some o=>if o.a.length=t.as.length then (if bn ops vs t.as o.a then o.r else e0) else e0) else e0:=by cases t;simp only[ax,Tm.k,Tm.s,Tm.as];rfl
mutual
def ik(ops:List OpM):Tm->ByteArray->List VS->Option (List VS)
 |.mk k n s as,so,vs=>if k=1 then (match vs.find? fun v=>decide (v.1=s) with
  |some v=>if v.2=so then some vs else none
  |none=>some (vs++[(s,so)])) else fk ops as (if k=2 then (match dv ops s with |some o=>o.a |none=>[]) else []) vs
def fk(ops:List OpM):List Tm->List ByteArray->List VS->Option (List VS)
 | [],_,vs=>some vs
 |t::ts,[],vs=>match ik ops t e0 vs with |some vs'=>fk ops ts [] vs' |none=>none
 |t::ts,x::xs,vs=>match ik ops t x vs with |some vs'=>fk ops ts xs vs' |none=>none
end
theorem la(ops:List OpM)(t:Tm)(so:ByteArray)(vs:List VS):ik ops t so vs=if t.k=1 then (match vs.find? fun v=>decide (v.1=t.s) with
 |some v=>if v.2=so then some vs else none
 |none=>some (vs++[(t.s,so)])) else fk ops t.as (if t.k=2 then (match dv ops t.s with |some o=>o.a |none=>[]) else []) vs:=by cases t;simp only[ik,Tm.k,Tm.s,Tm.as];rfl
def Co(ops:List OpM)(t:Tm)(so:ByteArray)(vs:List VS):List D:=match ik ops t so vs with
 |some v=>[.bool true,.sl (v.map VS.row)]
 |none=>[.bool false,.sl (if t.k=1 then vs.map VS.row else [])]
def uq:Option (List VS)->List D
 |some v=>[.bool true,.sl (v.map VS.row)]
 |none=>[.bool false,.sl []]
theorem Ix(ops:List OpM):∀ (l:List Tm),(∀ t∈l,∀ x vs vs',ik ops t x vs=some vs'->vs'.length<=vs.length+t.nodes)->∀ xs vs vs',fk ops l xs vs=some vs'->vs'.length<=vs.length+(l.map Tm.nodes).sum
 | [],_,xs,vs,vs',h=>by simp only[fk,C9.injEq] at h;subst h;simp
 |t::l,ih,xs,vs,vs',h=>by
  have step:∀ x ys,(match ik ops t x vs with |some vs'=>fk ops l ys vs' |none=>none)=some vs'->vs'.length<=vs.length+((t::l).map Tm.nodes).sum:=fun x ys h=>by
   cases hq:ik ops t x vs with
   |none=>rw[hq] at h;simp at h
   |some v =>
    rw[hq] at h;have h1:=ih t (C5 ..) x vs v hq;have h2:=Ix ops l (fun a ha=>ih a (C6 _ ha)) ys v vs' h
    simp only[C4,K1];omega
  cases xs with
  |nil=>exact step _ _ (by simpa only[fk] using h)
  |cons x ys=>exact step _ _ (by simpa only[fk] using h)
theorem kn(ops:List OpM):∀ t:Tm,∀ x vs vs',ik ops t x vs=some vs'->vs'.length<=vs.length+t.nodes:=Tm.ind fun t ih x vs vs' h=>by
 rw[la] at h;split at h
 ·split at h
  ·split at h
   ·simp only[C9.injEq] at h;subst h;omega
   ·simp at h
  ·simp only[C9.injEq] at h;subst h
   rw[Tm.nodes_eq];simp
 ·have:=Ix ops t.as ih _ _ _ h
  rw[Tm.nodes_eq];omega
def pw(ops:List OpM)(t:Tm)(so:ByteArray):Option (List VS):=match ik ops t so [] with
 |some vs=>if so=e0 then none else if ax ops vs t=so then some vs else none
 |none=>none
def Be(so:List ByteArray)(ops:List OpM):Bool :=
 decide (so.length<=4)&&(dis so&&(decide (ops.length<=16)&&((so.all fun x=>kk x&&!decide (x=de))&&((ops.all fun o=>kk o.n&&(!isB o.n&&(decide (o.a.length<=3)&&(o.a.all (fun x=>decide (x=de)||jp so x)&&(decide (o.r=de)||jp so o.r)))))&&dis (ops.map (·.n))))))
structure RuM where
 n:ByteArray
 l:Tm
 r:Tm
 g:List Gu
def RuM.row(r:RuM):List D:=[.str r.n,.int r.l.k,.int r.l.n,.str r.l.s,.sl (r.l.as.map Tm.row),.int r.r.k,.int r.r.n,.str r.r.s,.sl (r.r.as.map Tm.row),.sl (r.g.map Gu.row)]
def RuM.ok(r:RuM):Prop:=r.l.nodes<=1048577/\r.r.nodes<=1048577/\r.g.length<=1048576/\∀ g∈r.g,g.ok
mutual
def rf:Tm->Bool
 |.mk k n s as=>!(decide (k=2)&&isB s)&&ko as
def ko:List Tm->Bool
 | []=>true
 |t::ts=>rf t&&ko ts
end
theorem Iy(t:Tm):rf t=(!(decide (t.k=2)&&isB t.s)&&ko t.as):=by cases t;rfl
def gb(t:Tm)(names:List ByteArray):Bool:=t.names.all fun s=>jp names s
def qz(ops:List OpM)(vs:List VS)(g:Gu):Bool :=
 (decide (1<=g.k)&&decide (g.k<=3))&&(g.l.valid&&(g.r.valid&&(!decide (ax ops vs g.l=e0)&&(decide (ax ops vs g.l=ax ops vs g.r)&&!(decide (g.k=3)&&!decide (ax ops vs g.l=de))))))
def yi(ops:List OpM)(vs:List VS)(gs:List Gu):Bool:=gs.all (qz ops vs)&&decide (gs.length<=2)
def js(ops:List OpM)(r:RuM):Bool :=
 kk r.n&&(r.l.valid&&(decide (r.l.k=2)&&(rf r.l&&(r.r.valid&&(match dv ops r.l.s with
  |none=>false
  |some o=>match pw ops r.l o.r with
   |none=>false
   |some vs=>decide (ax ops vs r.r=o.r)&&(gb r.r r.l.names&&yi ops vs r.g))))))
structure StM where
 o:ByteArray
 a:Int
def StM.row(s:StM):List D:=[.str s.o,.int s.a]
structure DfM where
 so:List ByteArray
 op:List OpM
 ru:List RuM
 st:List StM
structure DfM.ok(d:DfM):Prop where
 so:d.so.length<=1048576
 op:d.op.length<=1048576
 opa:∀ o∈d.op,o.ok
 ru:d.ru.length<=1048576
 rua:∀ r∈d.ru,r.ok
 st:d.st.length<=1048576
def Lj(ops:List OpM)(s:StM):Bool:=match dv ops s.o with
 |none=>false
 |some o=>!isB s.o&&(decide (0<=s.a)&&decide (s.a<o.a.length))
def kp(ops:List OpM):List StM->List StM->Bool
 |_,[]=>true
 |pre,x::r=>Lj ops x&&(!(pre.any fun y=>decide (y.o=x.o)&&decide (y.a=x.a))&&kp ops (pre++[x]) r)
def DfM.valid(d:DfM):Bool:=Be d.so d.op&&(decide (d.ru.length<=16)&&(decide (d.st.length<=8)&&(d.ru.all (js d.op)&&(kp d.op [] d.st&&dis (d.ru.map (·.n))))))
end Go.Q
end
section
namespace Go.Q
open Go
structure GuB(g:Gu):Prop where
 wl:Wt g.l
 wr:Wt g.r
 ln:g.l.nodes<=1048577
 rn:g.r.nodes<=1048577
structure RuB(r:RuM):Prop where
 n:r.n.size<=maxLen
 wl:Wt r.l
 wr:Wt r.r
 ln:r.l.nodes<=1048577
 rn:r.r.nodes<=1048577
 g:r.g.length<=1048576
 ga:∀ g∈r.g,GuB g
structure DfB(d:DfM):Prop where
 so:d.so.length<=1048576
 sos:∀ x∈d.so,x.size<=maxLen
 op:pu d.op
 opn:∀ o∈d.op,o.n.size<=maxLen
 ru:d.ru.length<=1048576
 rua:∀ r∈d.ru,RuB r
 st:d.st.length<=1048576
theorem mi(ops:List OpM)(vs:List VS):∀ (l:List Tm) (xs:List ByteArray),l.length<=xs.length->bn ops vs l xs=true->∀ t∈l,ax ops vs t≠e0
 | [],_,_,_,t,ht=>by simp at ht
 |t::l,[],hl,_,_,_=>by simp at hl
 |t::l,x::xs,hl,h,u,hu=>by
  simp only[bn,B8,E8,decide_eq_false_iff_not,decide_eq_true_eq] at h;rcases D9.1 hu with e |hu
  ·exact e▸h.1.1
  ·exact mi ops vs l xs (by simpa using hl) h.2 u hu
theorem Ph{vs:List VS}{s:ByteArray}(h:re vs s≠e0):∃ v∈vs,v.1=s:=by
 unfold re at h;cases hq:vs.find? (fun v=>decide (v.1=s)) with
 |none=>rw[hq] at h;exact absurd rfl h
 |some v=>exact⟨v,List.mem_of_find?_eq_some hq,by simpa using List.find?_some hq⟩
theorem yj(ops:List OpM)(vs:List VS):∀ t:Tm,t.areN=true->ax ops vs t≠e0->∀ x∈t.names,∃ v∈vs,v.1=x:=Tm.ind fun t ih hn hs x hx=>by
 rw[Tm.areN_eq,B8,Tm.areNL_all,E3] at hn;obtain⟨h1,h2⟩:=hn;rw[Tm.names_eq] at hx;rw[cq] at hs;unfold Tm.nodeN at h1;by_cases hk1:t.k=1
 ·rw[H5 hk1] at h1
  simp only[B8,decide_eq_true_eq] at h1;have ha:t.as=[]:=F7.1 h1.2.1;rw[ha] at hx;rw[H6 (by omega),H5 hk1] at hs
  simp only[hk1,if_true,List.flatMap_nil,J0,E7] at hx;subst hx;exact Ph hs
 ·rw[H6 hk1] at hx
  obtain⟨a,ha,hxa⟩:=K3.1 hx;by_cases hk3:t.k=3
  ·rw[H6 hk1,H5 hk3] at h1
   have:t.as=[]:=by simp only[isW,B8,decide_eq_true_eq] at h1;exact F7.1 h1.2.2.2.2
   rw[this] at ha;simp at ha
  ·rw[H6 hk3,H6 hk1] at hs
   by_cases hk2:t.k=2
   ·rw[H5 hk2] at hs
    cases hf:dv ops t.s with
    |none=>rw[hf] at hs;exact absurd rfl hs
    |some o =>
     rw[hf] at hs;simp only at hs;by_cases hl:o.a.length=t.as.length
     ·rw[H5 hl] at hs
      by_cases hss:bn ops vs t.as o.a=true
      ·exact ih a ha (h2 a ha) (mi ops vs t.as o.a (by omega) hss a ha) x hxa
      ·rw[H6 hss] at hs;exact absurd rfl hs
     ·rw[H6 hl] at hs;exact absurd rfl hs
   ·rw[H6 hk2] at hs;exact absurd rfl hs
theorem Bf(ops:List OpM):∀ (l:List Tm),(∀ t∈l,∀ x vs vs',ik ops t x vs=some vs'->∀ v∈vs',v∈vs\/v.1∈t.names)->∀ xs vs vs',fk ops l xs vs=some vs'->∀ v∈vs',v∈vs\/v.1∈l.flatMap Tm.names
 | [],_,xs,vs,vs',h,v,hv=>by simp only[fk,C9.injEq] at h;subst h;exact .inl hv
 |t::l,ih,xs,vs,vs',h,v,hv=>by
  have step:∀ x ys w,ik ops t x vs=some w->fk ops l ys w=some vs'->v∈vs\/v.1∈(t::l).flatMap Tm.names:=fun x ys w hq h=>by
   simp only[N8,D4];rcases Bf ops l (fun a ha=>ih a (C6 _ ha)) ys w vs' h v hv with h1 |h1
   ·rcases ih t (C5 ..) x vs w hq v h1 with h2 |h2
    ·exact .inl h2
    ·exact .inr (.inl h2)
   ·exact .inr (.inr h1)
  cases xs with
  |nil =>
   simp only[fk] at h;split at h
   ·rename_i w hq;exact step _ _ w hq h
   ·simp at h
  |cons x ys =>
   simp only[fk] at h;split at h
   ·rename_i w hq;exact step _ _ w hq h
   ·simp at h
theorem Lk(ops:List OpM):∀ t:Tm,∀ x vs vs',ik ops t x vs=some vs'->∀ v∈vs',v∈vs\/v.1∈t.names:=Tm.ind fun t ih x vs vs' h v hv=>by
 rw[la] at h;rw[Tm.names_eq];by_cases hk:t.k=1
 ·rw[H5 hk] at h ⊢
  split at h
  ·split at h
   ·simp only[C9.injEq] at h;subst h;exact .inl hv
   ·simp at h
  ·simp only[C9.injEq] at h;subst h
   rcases D4.1 hv with h1 |h1
   ·exact .inl h1
   ·simp only[E7] at h1;subst h1;simp
 ·rw[H6 hk] at h
  rcases Bf ops t.as ih _ _ _ h v hv with h1 |h1
  ·exact .inl h1
  ·exact .inr (D4.2 (.inr h1))
theorem ut{ops:List OpM}{t:Tm}{x:ByteArray}{vs:List VS}(h:pw ops t x=some vs):ik ops t x []=some vs:=by
 unfold pw at h;cases hq:ik ops t x [] with
 |none=>rw[hq] at h;simp at h
 |some w =>
  rw[hq] at h;simp only at h;split at h
  ·simp at h
  ·split at h
   ·exact h
   ·simp at h
theorem Ll{ops:List OpM}{t:Tm}{x:ByteArray}{vs:List VS}(h:pw ops t x=some vs):∀ v∈vs,v.1∈t.names:=fun v hv=>by
 rcases Lk ops t x [] vs (ut h) v hv with h1 |h1
 ·simp at h1
 ·exact h1
theorem Iz{ops:List OpM}{t:Tm}{x:ByteArray}{vs:List VS}(h:pw ops t x=some vs):vs.length<=t.nodes:=by
 have:=kn ops t x [] vs (ut h);simpa using this
theorem gg{t:Tm}{names:List ByteArray}:gb t names=true↔∀ x∈t.names,x∈names:=by
 simp only[gb,E3,uo]
theorem cm{t:Tm}(h:t.valid=true):t.areN=true:=by
 simp only[Tm.valid,B8] at h;exact h.2.2
theorem Ja{ops:List OpM}{vs:List VS}{g:Gu}{names:List ByteArray}(hv:∀ v∈vs,v.1∈names)(h:qz ops vs g=true):gb g.l names=true/\gb g.r names=true:=by
 simp only[qz,B8,E8,decide_eq_false_iff_not,decide_eq_true_eq] at h;obtain⟨_,h1,h2,h3,h4,_⟩:=h;constructor
 ·refine gg.2 fun x hx=>?_
  obtain⟨v,hm,e⟩:=yj ops vs g.l (cm h1) h3 x hx;exact e▸hv v hm
 ·refine gg.2 fun x hx=>?_
  obtain⟨v,hm,e⟩:=yj ops vs g.r (cm h2) (h4▸h3) x hx;exact e▸hv v hm
theorem Lm(l r:List ByteArray):decide ((wo l r).length=0)=l.all fun s=>jp r s:=by
 induction l with
 |nil=>rfl
 |cons x l ih =>
  unfold wo at ih ⊢;rw[O1,J3];cases h:jp r x with
  |true=>simpa using ih
  |false=>simp
theorem aa2(t u:Tm):(wo (cc t.names) (cc u.names)).length=0↔gb t u.names=true:=by
 have:=Lm (cc t.names) (cc u.names);rw[<-decide_eq_true_iff (p:=(wo (cc t.names) (cc u.names)).length=0),this,gg];simp only[E3,uo,pr]
theorem Na(t:Tm)(ns:List ByteArray):(wo (cc t.names) ns).length=0↔gb t ns=true:=by
 have:=Lm (cc t.names) ns;rw[<-decide_eq_true_iff (p:=(wo (cc t.names) ns).length=0),this,gg];simp only[E3,uo,pr]
def wv(vars:List ByteArray):List VS:=vars.map fun s=>(s,de)
def jn(d:DfM)(vars:List ByteArray)(t:Tm):Bool :=
 d.valid&&(decide (vars.length<=3)&&(dis vars&&(vars.all qy&&(t.valid&&(gb t vars&&!decide (ax d.op (wv vars) t=e0))))))
structure ClM where
 d:DfM
 v:List ByteArray
 l:Tm
 r:Tm
 g:List Gu
def ClM.row(c:ClM):List D:=[.sl (c.d.so.map ag),.sl (c.d.op.map OpM.row),.sl (c.d.ru.map RuM.row),.sl (c.d.st.map StM.row),.sl (c.v.map ag),.int c.l.k,.int c.l.n,.str c.l.s,.sl (c.l.as.map Tm.row),.int c.r.k,.int c.r.n,.str c.r.s,.sl (c.r.as.map Tm.row),.sl (c.g.map Gu.row)]
structure ClB(c:ClM):Prop where
 d:DfB c.d
 v:c.v.length<=1048576
 vs:∀ x∈c.v,x.size<=maxLen
 wl:Wt c.l
 wr:Wt c.r
 ln:c.l.nodes<=1048577
 rn:c.r.nodes<=1048577
 g:c.g.length<=1048576
 ga:∀ g∈c.g,GuB g
def ClM.valid(c:ClM):Bool:=jn c.d c.v c.l&&(jn c.d c.v c.r&&(decide (ax c.d.op (wv c.v) c.l=ax c.d.op (wv c.v) c.r)&&yi c.d.op (wv c.v) c.g))
theorem Sj(vars:List ByteArray):∀ v∈wv vars,v.1∈vars:=fun v hv=>by
 obtain⟨s,h,e⟩:=F8.1 hv;exact e▸h
end Go.Q
end
section
/- Definitions and claims out of data. -/
namespace Go.Q.S
open Go Go.Q
end Go.Q.S
end
section
/- Matching,firing,sorts along a step. -/
namespace Go.Q
open Go
theorem uu{l l':List Bnd}(h:∀ s,bnd l s=bnd l' s):∀ t,aS l t=aS l' t:=Tm.ind fun t ih=>by
 have hm:t.as.map (aS l)=t.as.map (aS l'):=K9 fun a ha=>ih a ha
 rw[eo,eo l',h,hm]
theorem Ln{l l':List Bnd}(h:∀ s,bnd l s=bnd l' s)(g:Gu):dp l g=dp l' g:=by
 unfold dp;rw[uu h,uu h]
theorem uw(l l':List Bnd)(s:ByteArray):bnd (l++l') s=match bnd l s with
 |some v=>some v
 |none=>bnd l' s:=by
 induction l with
 |nil=>rfl
 |cons b l ih =>
  simp only[F9,bnd];by_cases h:b.1=s
  ·rw[H5 h,H5 h]
  ·rw[H6 h,H6 h,ih]
mutual
noncomputable def mT:Tm->Tm->List Bnd->Option (List Bnd)
 |.mk k n s as,u,l =>
  if k=1 then (match bnd l s with
   |some v=>if eqb v.row u.row=true then some l else none
   |none=>some (l++[(s,u)]))
  else if k=u.k then (if n=u.n then (if s=u.s then (if as.length=u.as.length then mTs as u.as l else none) else none) else none) else none
noncomputable def mTs:List Tm->List Tm->List Bnd->Option (List Bnd)
 | [],_,l=>some l
 |_::_,[],_=>none
 |t::ts,u::us,l=>match mT t u l with
  |some l'=>mTs ts us l'
  |none=>none
end
theorem Jb(t u:Tm)(l:List Bnd):mT t u l=if t.k=1 then (match bnd l t.s with
 |some v=>if eqb v.row u.row=true then some l else none
 |none=>some (l++[(t.s,u)]))
 else if t.k=u.k then (if t.n=u.n then (if t.s=u.s then (if t.as.length=u.as.length then mTs t.as u.as l else none) else none) else none) else none:=by
 cases t;simp only[mT,Tm.k,Tm.n,Tm.s,Tm.as];rfl
theorem fo{t u:Tm}{l l':List Bnd}(h:mT t u l=some l') :
 (t.k=1/\(∃ v,bnd l t.s=some v)/\l'=l)\/(t.k=1/\bnd l t.s=none/\l'=l++[(t.s,u)]) ∨
 (t.k≠1/\t.k=u.k/\t.n=u.n/\t.s=u.s/\t.as.length=u.as.length/\mTs t.as u.as l=some l'):=by
 rw[Jb] at h;by_cases h1:t.k=1
 ·rw[H5 h1] at h
  cases hb:bnd l t.s with
  |some v =>
   rw[hb] at h;simp only at h;split at h
   ·simp only[C9.injEq] at h;exact .inl ⟨h1,⟨v,rfl⟩,h.symm⟩
   ·simp at h
  |none =>
   rw[hb] at h;simp only[C9.injEq] at h;exact .inr (.inl ⟨h1,rfl,h.symm⟩)
 ·rw[H6 h1] at h
  split at h
  ·split at h
   ·split at h
    ·split at h
     ·exact .inr (.inr ⟨h1,by assumption,by assumption,by assumption,by assumption,h⟩)
     ·simp at h
    ·simp at h
   ·simp at h
  ·simp at h
theorem zg{P:Tm->Tm->List Bnd->List Bnd->Prop}{Q:List Tm->List Tm->List Bnd->List Bnd->Prop}(h0:∀ us l,Q [] us l l)
 (hc:∀ t u l l1 ts us l2,P t u l l1->Q ts us l1 l2->Q (t::ts) (u::us) l l2) :
 ∀ (ts us:List Tm) (l l':List Bnd),(∀ t∈ts,∀ u∈us,∀ l l',mT t u l=some l'->P t u l l')->mTs ts us l=some l'->Q ts us l l'
 | [],us,l,l',_,h=>by simp only[mTs,C9.injEq] at h;subst h;exact h0 us l
 |t::ts,[],l,l',_,h=>by simp[mTs] at h
 |t::ts,u::us,l,l',ih,h=>by
  simp only[mTs] at h;split at h
  ·rename_i l1 h1
   exact hc _ _ _ _ _ _ _ (ih t (C5 ..) u (C5 ..) l l1 h1) (zg h0 hc ts us l1 l' (fun t ht u hu=>ih t (C6 _ ht) u (C6 _ hu)) h)
  ·simp at h
theorem lh(P:Tm->Prop)(hP:∀ t a,P t->a∈t.as->P a):∀ t u l l',P u->(∀ b∈l,P b.2)->mT t u l=some l'->∀ b∈l',P b.2:=Tm.ind fun t ih u l l' hu hl h=>by
 rcases fo h with ⟨_,_,e⟩|⟨_,_,e⟩|⟨_,_,_,_,_,h⟩
 ·subst e;exact hl
 ·subst e
  intro b hb;rcases D4.1 hb with hb |hb
  ·exact hl b hb
  ·simp only[E7] at hb;subst hb;exact hu
 ·have key:∀ (ts us:List Tm) (l l':List Bnd),(∀ a∈ts,a∈t.as)->(∀ a∈us,P a)->(∀ b∈l,P b.2)->mTs ts us l=some l'->∀ b∈l',P b.2:=by
   intro ts;induction ts with
   |nil=>intro us l l' _ _ hl h;simp only[mTs,C9.injEq] at h;subst h;exact hl
   |cons a ts ihs =>
    intro us l l' hts hus hl h;cases us with
    |nil=>simp[mTs] at h
    |cons b us =>
     simp only[mTs] at h;split at h
     ·rename_i l1 h1
      exact ihs us l1 l' (fun x hx=>hts x (C6 _ hx)) (fun x hx=>hus x (C6 _ hx)) (ih a (hts a (C5 ..)) b l l1 (hus b (C5 ..)) hl h1) h
     ·simp at h
  exact key _ _ _ _ (fun _ h=>h) (fun a ha=>hP u a hu ha) hl h
theorem Bg:∀ t u l l',mT t u l=some l'->l'.length<=l.length+t.nodes:=Tm.ind fun t ih u l l' h=>by
 have hn:=Tm.nodes_eq t;rcases fo h with ⟨_,_,e⟩|⟨_,_,e⟩|⟨_,_,_,_,_,h⟩
 ·subst e;omega
 ·subst e;simp;omega
 ·have key:∀ (ts us:List Tm) (l l':List Bnd),(∀ a∈ts,a∈t.as)->mTs ts us l=some l'->l'.length<=l.length+(ts.map Tm.nodes).sum:=by
   intro ts;induction ts with
   |nil=>intro us l l' _ h;simp only[mTs,C9.injEq] at h;subst h;simp
   |cons a ts ihs =>
    intro us l l' hts h;cases us with
    |nil=>simp[mTs] at h
    |cons b us =>
     simp only[mTs] at h;split at h
     ·rename_i l1 h1
      have q1:=ih a (hts a (C5 ..)) b l l1 h1;have q2:=ihs us l1 l' (fun x hx=>hts x (C6 _ hx)) h
      simp only[C4,K1];omega
     ·simp at h
  have:=key _ _ _ _ (fun _ h=>h) h
  omega
theorem Sk:∀ t u l l',mT t u l=some l'->∀ s,bnd l' s≠none->bnd l s≠none\/s∈t.names:=Tm.ind fun t ih u l l' h s hs=>by
 rw[Tm.names_eq];rcases fo h with ⟨_,_,e⟩|⟨hk,_,e⟩|⟨_,_,_,_,_,h⟩
 ·subst e;exact .inl hs
 ·subst e
  rw[uw] at hs;cases hb:bnd l s with
  |some v=>exact .inl (by simp)
  |none =>
   rw[hb] at hs;simp only[bnd] at hs;by_cases e:t.s=s
   ·right;rw[H5 hk,e];simp
   ·rw[H6 e] at hs;exact absurd rfl hs
 ·have key:∀ (ts us:List Tm) (l l':List Bnd),(∀ a∈ts,a∈t.as)->mTs ts us l=some l'->bnd l' s≠none->bnd l s≠none\/s∈ts.flatMap Tm.names:=by
   intro ts;induction ts with
   |nil=>intro us l l' _ h hs;simp only[mTs,C9.injEq] at h;subst h;exact .inl hs
   |cons a ts ihs =>
    intro us l l' hts h hs;cases us with
    |nil=>simp[mTs] at h
    |cons b us =>
     simp only[mTs] at h;split at h
     ·rename_i l1 h1
      simp only[N8,D4];rcases ihs us l1 l' (fun x hx=>hts x (C6 _ hx)) h hs with q |q
      ·rcases ih a (hts a (C5 ..)) b l l1 h1 s q with q |q
       ·exact .inl q
       ·exact .inr (.inl q)
      ·exact .inr (.inr q)
     ·simp at h
  rcases key _ _ _ _ (fun _ h=>h) h hs with q |q
  ·exact .inl q
  ·exact .inr (D4.2 (.inr q))
def rsB(l:List Bnd)(ns:List ByteArray):List Bnd:=ns.filterMap fun s=>(bnd l s).map fun v=>(s,v)
open Classical in
theorem Nb(l:List Bnd)(s:ByteArray):∀ ns:List ByteArray,bnd (rsB l ns) s=if s∈ns then bnd l s else none
 | []=>by simp[rsB,bnd]
 |x::ns=>by
  have ih:=Nb l s ns;unfold rsB at ih ⊢;rw[S7];cases hx:bnd l x with
  |none =>
   simp only[Option.map_none];rw[ih];by_cases h:s∈ns
   ·rw[H5 h,H5 (C6 _ h)]
   ·rw[H6 h]
    by_cases e:s=x
    ·subst e;rw[H5 (C5 ..),hx]
    ·rw[H6 (by simp[e,h])]
  |some v =>
   simp only[K7,bnd];by_cases e:x=s
   ·subst e;rw[H5 rfl,H5 (C5 ..),hx]
   ·rw[H6 e,ih]
    by_cases h:s∈ns
    ·rw[H5 h,H5 (C6 _ h)]
    ·rw[H6 h,H6 (by simp[h,Ne.symm e])]
theorem Pi{t u:Tm}{l:List Bnd}(h:mT t u []=some l)(s:ByteArray):bnd (rsB l (cc (cc t.names))) s=bnd l s:=by
 rw[Nb];by_cases hs:s∈cc (cc t.names)
 ·rw[H5 hs]
 ·rw[H6 hs]
  cases hb:bnd l s with
  |none=>rfl
  |some v =>
   rcases Sk t u [] l h s (by rw[hb];simp) with q |q
   ·exact absurd rfl q
   ·exact absurd ((pr _ _).2 ((pr _ _).2 q)) hs
noncomputable def gh(r:RuM)(u:Tm):Option Tm:=match mT r.l u [] with
 |none=>none
 |some l=>if (r.g.all fun g=>holds (dp l g))=true then some (rW (aS l r.r)) else none
def fq(vs:List VS)(s:ByteArray):Option VS:=vs.find? fun v=>decide (v.1=s)
theorem Jc(vs:List VS)(s:ByteArray):re vs s=match fq vs s with |some v=>v.2 |none=>e0:=rfl
theorem wx(vs:List VS)(x:VS)(s:ByteArray):fq (vs++[x]) s=match fq vs s with
 |some v=>some v
 |none=>if x.1=s then some x else none:=by
 unfold fq;rw[List.find?_append];cases h:vs.find? fun v=>decide (v.1=s) with
 |some v=>rfl
 |none=>by_cases e:x.1=s<;>simp[e]
def px(ops:List OpM)(vs:List VS)(l:List Bnd):Prop:=∀ s,match fq vs s,bnd l s with
 |none,none=>True
 |some v,some w=>ax ops [] w=v.2
 |_,_=>False
theorem px.none{ops:List OpM}{vs:List VS}{l:List Bnd}(h:px ops vs l){s:ByteArray}(hv:fq vs s=Option.none):bnd l s=Option.none:=by
 have:=h s;rw[hv] at this;cases hb:bnd l s with
 |none=>rfl
 |some w=>rw[hb] at this;exact this.elim
theorem px.some{ops:List OpM}{vs:List VS}{l:List Bnd}(h:px ops vs l){s:ByteArray}{v:VS}(hv:fq vs s=some v):∃ w,bnd l s=some w/\ax ops [] w=v.2:=by
 have:=h s;rw[hv] at this;cases hb:bnd l s with
 |none=>rw[hb] at this;exact this.elim
 |some w=>rw[hb] at this;exact⟨w,rfl,this⟩
theorem jj{ops:List OpM}{vs:List VS}{t:Tm}(hk:t.k=2)(hs:ax ops vs t≠e0):∃ o,dv ops t.s=some o/\o.a.length=t.as.length/\bn ops vs t.as o.a=true/\ax ops vs t=o.r:=by
 rw[cq,H6 (by omega),H6 (by omega),H5 hk] at hs
 rw[cq,H6 (by omega),H6 (by omega),H5 hk]
 cases hf:dv ops t.s with
 |none=>rw[hf] at hs;exact absurd rfl hs
 |some o =>
  rw[hf] at hs;simp only at hs ⊢;by_cases hl:o.a.length=t.as.length
  ·rw[H5 hl] at hs ⊢
   by_cases hq:bn ops vs t.as o.a=true
   ·exact⟨o,rfl,hl,hq,by rw[H5 hq]⟩
   ·rw[H6 hq] at hs;exact absurd rfl hs
  ·rw[H6 hl] at hs;exact absurd rfl hs
theorem kq{ops:List OpM}{vs:List VS}{t:Tm}(hk:t.k=2){o:OpM}(hf:dv ops t.s=some o)(hl:o.a.length=t.as.length)(hq:bn ops vs t.as o.a=true):ax ops vs t=o.r:=by
 rw[cq,H6 (by omega),H6 (by omega),H5 hk,hf]
 simp only[H5 hl,H5 hq]
theorem ce{t:Tm}(h:t.areN=true):(t.k=1/\t.as=[])\/(t.k=3/\isW t=true/\t.as=[])\/t.k=2:=by
 rw[Tm.areN_eq,B8] at h;have h:=h.1;unfold Tm.nodeN at h;by_cases h1:t.k=1
 ·rw[H5 h1] at h
  simp only[B8,decide_eq_true_eq] at h;exact .inl ⟨h1,F7.1 h.2.1⟩
 ·rw[H6 h1] at h
  by_cases h3:t.k=3
  ·rw[H5 h3] at h
   have h':=h;simp only[isW,B8,decide_eq_true_eq] at h';exact .inr (.inl ⟨h3,h,F7.1 h'.2.2.2.2⟩)
  ·rw[H6 h3] at h
   by_cases h2:t.k=2
   ·exact .inr (.inr h2)
   ·rw[H6 h2] at h;simp at h
theorem cr{t a:Tm}(h:t.areN=true)(ha:a∈t.as):a.areN=true:=by
 rw[Tm.areN_eq,B8,Tm.areNL_all,E3] at h;exact h.2 a ha
theorem Jd(ops:List OpM):∀ t,t.areN=true->∀ u x vs vs' l l',ax ops [] u=x->x≠e0->px ops vs l->ik ops t x vs=some vs'->mT t u l=some l'->px ops vs' l':=Tm.ind fun t ih hn u x vs vs' l l' hu hx hA hi hm=>by
 rw[la] at hi;by_cases h1:t.k=1
 ·rw[H5 h1] at hi
  cases hv:fq vs t.s with
  |some v =>
   unfold fq at hv;rw[hv] at hi;simp only at hi;obtain⟨w,hb,_⟩:=hA.some hv;split at hi
   ·simp only[C9.injEq] at hi
    subst hi;rcases fo hm with ⟨_,_,e⟩|⟨_,q,_⟩|⟨q,_⟩
    ·subst e;exact hA
    ·rw[hb] at q;simp at q
    ·exact absurd h1 q
   ·simp at hi
  |none =>
   have hb:=hA.none hv;have hv':=hv;unfold fq at hv;rw[hv] at hi;simp only[C9.injEq] at hi;subst hi;rcases fo hm with ⟨_,⟨v,q⟩,_⟩|⟨_,_,e⟩|⟨q,_⟩
   ·rw[hb] at q;simp at q
   ·subst e
    intro s;have hs:=hA s;rw[wx,uw];cases q1:fq vs s with
    |some v =>
     rw[q1] at hs;cases q2:bnd l s with
     |some w=>rw[q2] at hs;exact hs
     |none=>rw[q2] at hs;exact hs.elim
    |none =>
     rw[q1] at hs;cases q2:bnd l s with
     |some w=>rw[q2] at hs;exact hs.elim
     |none =>
      simp only[bnd];by_cases e:t.s=s
      ·rw[H5 e,H5 e];exact hu
      ·rw[H6 e,H6 e];trivial
   ·exact absurd h1 q
 ·rw[H6 h1] at hi
  rcases fo hm with ⟨q,_⟩|⟨q,_⟩|⟨_,e1,e2,e3,e4,hms⟩
  ·exact absurd q h1
  ·exact absurd q h1
  ·rcases ce hn with ⟨q,_⟩|⟨_,_,q⟩ |h2
   ·exact absurd q h1
   ·rw[q] at hi hms
    simp only[fk,mTs,C9.injEq] at hi hms;subst hi;subst hms;exact hA
   ·obtain⟨o,hf,hl,hss,_⟩:=jj (t:=u) (by omega) (by rw[hu];exact hx)
    rw[H5 h2,e3,hf] at hi;simp only at hi;have key:∀ (ts us:List Tm) (xs:List ByteArray) (vs vs':List VS) (l l':List Bnd),(∀ a∈ts,a∈t.as)->us.length=xs.length->bn ops [] us xs=true->px ops vs l->fk ops ts xs vs=some vs'->mTs ts us l=some l'->px ops vs' l':=by
     intro ts;induction ts with
     |nil =>
      intro us xs vs vs' l l' _ _ _ hA hi hm;simp only[fk,mTs,C9.injEq] at hi hm;subst hi;subst hm;exact hA
     |cons a ts ihs =>
      intro us xs vs vs' l l' hts hlen hss hA hi hm;cases us with
      |nil=>simp[mTs] at hm
      |cons b us =>
       cases xs with
       |nil=>simp at hlen
       |cons y xs =>
        simp only[fk] at hi;simp only[mTs] at hm;simp only[bn,B8,E8,decide_eq_false_iff_not,decide_eq_true_eq] at hss;split at hi
        ·rename_i vs1 hi1
         split at hm
         ·rename_i l1 hm1
          have:=ih a (hts a (C5 ..)) (cr hn (hts a (C5 ..))) b y vs vs1 l l1 hss.1.2 (hss.1.2▸hss.1.1) hA hi1 hm1;exact ihs us xs vs1 vs' l1 l' (fun z hz=>hts z (C6 _ hz)) (by simpa using hlen) hss.2 this hi hm
         ·simp at hm
        ·simp at hi
    exact key _ _ _ _ _ _ _ (fun _ h=>h) hl.symm hss hA hi hms
theorem Nc{ops:List OpM}{vs:List VS}{l:List Bnd}(hA:px ops vs l):∀ t,t.areN=true->ax ops vs t≠e0->ax ops [] (aS l t)=ax ops vs t:=Tm.ind fun t ih hn hs=>by
 rcases ce hn with ⟨h1,ha⟩|⟨h3,_,ha⟩ |h2
 ·have e:ax ops vs t=re vs t.s:=by rw[cq,H6 (by omega),H5 h1]
  rw[e] at hs ⊢;rw[Jc] at hs ⊢;cases hv:fq vs t.s with
  |none=>rw[hv] at hs;exact absurd rfl hs
  |some v =>
   obtain⟨w,hb,hw⟩:=hA.some hv;rw[eo,H5 h1,hb];exact hw
 ·rw[eo,H6 (by omega)]
  rw[cq,cq ops vs,H5 (show(Tm.mk t.k t.n t.s _).k=3 from h3),H5 h3]
 ·obtain⟨o,hf,hl,hss,e⟩:=jj h2 hs
  rw[eo,H6 (by omega),e]
  have key:∀ (ts:List Tm) (xs:List ByteArray),(∀ a∈ts,a∈t.as)->bn ops vs ts xs=true->bn ops [] (ts.map (aS l)) xs=true:=by
   intro ts;induction ts with
   |nil=>intro xs _ _;rfl
   |cons a ts ihs =>
    intro xs hts h;cases xs with
    |nil=>rfl
    |cons y xs =>
     simp only[bn,B8,E8,decide_eq_false_iff_not,decide_eq_true_eq] at h;have q:=ih a (hts a (C5 ..)) (cr hn (hts a (C5 ..))) h.1.1;simp only[C4,bn,B8,E8,decide_eq_false_iff_not,decide_eq_true_eq,q];exact⟨h.1,ihs xs (fun z hz=>hts z (C6 _ hz)) h.2⟩
  exact kq (t:=.mk t.k t.n t.s (t.as.map (aS l))) h2 hf (by simpa[Tm.as] using hl) (key _ _ (fun _ h=>h) hss)
theorem Fu(ops:List OpM)(vs:List VS):∀ t,t.areN=true->ax ops vs t≠e0->ax ops vs (rW t)=ax ops vs t:=Tm.ind fun t ih hn hs=>by
 have plain:ax ops vs (.mk t.k t.n t.s (t.as.map rW))=ax ops vs t:=by
  rcases ce hn with ⟨h1,ha⟩|⟨h3,_,ha⟩ |h2
  ·rw[cq,cq ops vs t,H6 (show ¬(Tm.mk t.k t.n t.s _).k=3 by show ¬ t.k=3;omega),H5 (show(Tm.mk t.k t.n t.s _).k=1 from h1),H6 (by omega),H5 h1];rfl
  ·rw[cq,cq ops vs t,H5 (show(Tm.mk t.k t.n t.s _).k=3 from h3),H5 h3]
  ·obtain⟨o,hf,hl,hss,e⟩:=jj h2 hs
   rw[e];have key:∀ (ts:List Tm) (xs:List ByteArray),(∀ a∈ts,a∈t.as)->bn ops vs ts xs=true->bn ops vs (ts.map rW) xs=true:=by
    intro ts;induction ts with
    |nil=>intro xs _ _;rfl
    |cons a ts ihs =>
     intro xs hts h;cases xs with
     |nil=>rfl
     |cons y xs =>
      simp only[bn,B8,E8,decide_eq_false_iff_not,decide_eq_true_eq] at h;have q:=ih a (hts a (C5 ..)) (cr hn (hts a (C5 ..))) h.1.1;simp only[C4,bn,B8,E8,decide_eq_false_iff_not,decide_eq_true_eq,q];exact⟨h.1,ihs xs (fun z hz=>hts z (C6 _ hz)) h.2⟩
   exact kq (t:=.mk t.k t.n t.s (t.as.map rW)) h2 hf (by simpa[Tm.as] using hl) (key _ _ (fun _ h=>h) hss)
 rw[ez];unfold rW1;split
 ·rename_i x y hxy
  split
  ·rename_i hc
   obtain⟨hk,_,hB,_,_⟩:=hc;obtain⟨o,hf,_,_,e⟩:=jj hk hs;rw[e];unfold dv at hf;rw[H5 hB] at hf;simp only[C9.injEq] at hf;subst hf;rw[cq];rfl
  ·exact plain
 ·exact plain
end Go.Q
end
section
/- aj terms stay good along a step. -/
namespace Go.Q
open Go
theorem aa3{s:ByteArray}{x y:Tm}(hx:isW x=true)(hy:isW y=true):0<=cmp s x.n y.n/\cmp s x.n y.n<4:=by
 simp only[isW,B8,decide_eq_true_eq] at hx hy;obtain⟨_,a1,a2,_⟩:=hx;obtain⟨_,b1,b2,_⟩:=hy;unfold cmp;split
 ·exact⟨R4 4 (by omega),P2 _ (by decide)⟩
 ·split
  ·exact⟨R4 4 (by omega),P2 _ (by decide)⟩
  ·exact⟨R4 4 (Int.mul_nonneg a1 b1),P2 _ (by decide)⟩
theorem Tm.n_mk(k n:Int)(s:ByteArray)(as:List Tm):(Tm.mk k n s as).n=n:=rfl
theorem zh{t:Tm}(h:t.areN=true){as:List Tm}(hl:as.length=t.as.length)(ha:∀ a∈as,a.areN=true):(Tm.mk t.k t.n t.s as).areN=true:=by
 rw[Tm.areN_eq,B8] at h ⊢;refine⟨?_,by rw[Tm.areNL_all,E3];exact ha⟩
 have h:=h.1;unfold Tm.nodeN isW at h ⊢;simp only[Tm.k_mk,Tm.n_mk,Tm.s_mk,Tm.as_mk,hl];exact h
theorem Fv{l:List Bnd}(hl:∀ b∈l,b.2.areN=true):∀ t,t.areN=true->(aS l t).areN=true:=Tm.ind fun t ih h=>by
 rw[eo];split
 ·rename_i u hu
  split at hu
  ·obtain⟨b,h1,rfl⟩:=eh hu;exact hl b h1
  ·simp at hu
 ·exact zh h (by simp) fun a ha=>by
   obtain⟨x,hx,rfl⟩:=F8.1 ha;exact ih x hx (cr h hx)
theorem Nd:∀ t,t.areN=true->(rW t).areN=true:=Tm.ind fun t ih h=>by
 have plain:(Tm.mk t.k t.n t.s (t.as.map rW)).areN=true:=zh h (by simp) fun a ha=>by
  obtain⟨x,hx,rfl⟩:=F8.1 ha;exact ih x hx (cr h hx)
 rw[ez];unfold rW1;split
 ·rename_i x y hxy
  split
  ·rename_i hc
   obtain⟨c1,c2⟩:=aa3 (s:=t.s) hc.2.2.2.1 hc.2.2.2.2;rw[Tm.areN_eq];unfold Tm.nodeN isW;simp only[Tm.k_mk,Tm.n_mk,Tm.s_mk,Tm.as_mk];simp[Tm.areNL,c1,c2]
  ·exact plain
 ·exact plain
theorem Nf{t:Tm}(h:Wt t){as:List Tm}(hl:as.length=t.as.length)(ha:∀ a∈as,Wt a):Wt (.mk t.k t.n t.s as):=.mk h.k h.n h.s (by rw[Tm.as_mk,hl];exact h.l) ha
theorem Ng{l:List Bnd}(hl:∀ b∈l,Wt b.2):∀ t,Wt t->Wt (aS l t):=Tm.ind fun t ih h=>by
 rw[eo];split
 ·rename_i u hu
  split at hu
  ·obtain⟨b,h1,rfl⟩:=eh hu;exact hl b h1
  ·simp at hu
 ·exact Nf h (by simp) fun a ha=>by
   obtain⟨x,hx,rfl⟩:=F8.1 ha;exact ih x hx (h.sub hx)
theorem Nh:∀ t,Wt t->Wt (rW t):=Tm.ind fun t ih h=>by
 have plain:Wt (Tm.mk t.k t.n t.s (t.as.map rW)):=Nf h (by simp) fun a ha=>by
  obtain⟨x,hx,rfl⟩:=F8.1 ha;exact ih x hx (h.sub hx)
 rw[ez];unfold rW1;split
 ·rename_i x y hxy
  split
  ·rename_i hc
   exact .mk (show S.i64ok 3 from S.i64ok_of (by decide) (by decide)) (S.cmp_ok hc.2.2.2.1 hc.2.2.2.2) (show(⟨#[]⟩:ByteArray).size<=maxLen by decide) (J1 _) (by intro a ha;rw[Tm.as_mk] at ha;simp at ha)
  ·exact plain
 ·exact plain
theorem Xn{xs:List Tm}{f g:Tm->Nat}{m:Nat}(h:∀ x∈xs,f x<=m*g x):(xs.map f).sum<=m*(xs.map g).sum:=by
 induction xs with
 |nil=>simp
 |cons x xs ih =>
  have h1:=h x (C5 ..);have h2:=ih fun y hy=>h y (C6 _ hy)
  simp only[C4,K1,Nat.mul_add];omega
theorem jf{l:List Bnd}{m:Nat}(hm:1<=m)(hl:∀ b∈l,b.2.nodes<=m):∀ t,(aS l t).nodes<=m*t.nodes:=Tm.ind fun t ih=>by
 rw[eo];have h1:=Tm.nodes_eq t;split
 ·rename_i u hu
  split at hu
  ·obtain⟨b,hb,rfl⟩:=eh hu
   have:=hl b hb;rw[h1,Nat.mul_add];omega
  ·simp at hu
 ·rw[Tm.nodes_eq]
  simp only[Tm.as_mk,K2];have:=Xn (xs:=t.as) (f:=Tm.nodes ∘ aS l) (g:=Tm.nodes) ih;rw[h1,Nat.mul_add];omega
structure Gt(ops:List OpM)(t:Tm):Prop where
 w:Wt t
 n:t.areN=true
 s:ax ops [] t≠e0
theorem Gt.arr{ops:List OpM}{t:Tm}(h:Gt ops t)(hk:t.k=2):∃ o,dv ops t.s=some o/\o.a.length=t.as.length/\bn ops [] t.as o.a=true/\ax ops [] t=o.r:=jj hk h.s
theorem Gt.sub{ops:List OpM}{t a:Tm}(h:Gt ops t)(ha:a∈t.as):Gt ops a:=by
 refine⟨h.w.sub ha,cr h.n ha,?_⟩;rcases ce h.n with ⟨_,q⟩|⟨_,_,q⟩ |h2
 ·rw[q] at ha;simp at ha
 ·rw[q] at ha;simp at ha
 ·obtain⟨o,_,hl,hs,_⟩:=h.arr h2
  exact mi ops [] t.as o.a (by omega) hs a ha
structure RuG(ops:List OpM)(r:RuM):Prop where
 b:RuB r
 lv:r.l.valid=true
 lk:r.l.k=2
 rv:r.r.valid=true
 gl:∀ g∈r.g,g.l.valid=true/\g.r.valid=true
 inf:∃ o vs,dv ops r.l.s=some o/\pw ops r.l o.r=some vs/\ax ops vs r.r=o.r
theorem aa4{ops:List OpM}{r:RuM}(hb:RuB r)(h:js ops r=true):RuG ops r:=by
 unfold js at h;simp only[B8,decide_eq_true_eq] at h;obtain⟨_,h1,h2,_,h3,h4⟩:=h;cases hf:dv ops r.l.s with
 |none=>rw[hf] at h4;simp at h4
 |some o =>
  rw[hf] at h4;simp only at h4;cases hi:pw ops r.l o.r with
  |none=>rw[hi] at h4;simp at h4
  |some vs =>
   rw[hi] at h4;simp only[B8,decide_eq_true_eq,yi,E3] at h4;refine⟨hb,h1,h2,h3,fun g hg=>?_,o,vs,hf,hi,h4.1⟩
   have:=h4.2.2.1 g hg;simp only[qz,B8] at this;exact⟨this.2.1,this.2.2.1⟩
theorem az{t:Tm}(h:t.valid=true):t.nodes<=60:=by
 simp only[Tm.valid,B8,decide_eq_true_eq] at h;exact h.1
theorem Pj(ops:List OpM):px ops [] []:=fun s=>by simp[fq,bnd]
theorem Pk{ops:List OpM}{r:RuM}(hr:RuG ops r){u w:Tm}(hu:Gt ops u)(hn:u.nodes<=60)(h:gh r u=some w):Gt ops w/\ax ops [] w=ax ops [] u/\w.nodes<=3600:=by
 unfold gh at h;cases hm:mT r.l u [] with
 |none=>rw[hm] at h;simp at h
 |some l =>
  rw[hm] at h;simp only at h;split at h
  ·simp only[C9.injEq] at h
   subst h;obtain⟨o,vs,hf,hi,hs⟩:=hr.inf;have hk:u.k=2/\u.s=r.l.s:=by
    rcases fo hm with ⟨q,_⟩|⟨q,_⟩|⟨_,q1,_,q2,_⟩
    ·have:=hr.lk;omega
    ·have:=hr.lk;omega
    ·exact⟨by rw[<-q1];exact hr.lk,q2.symm⟩
   obtain⟨o',hf',_,_,he⟩:=hu.arr hk.1;rw[hk.2,hf] at hf';simp only[C9.injEq] at hf';subst hf';have hne:o.r≠e0:=he▸hu.s;have hA:=Jd ops r.l (cm hr.lv) u o.r [] vs [] l he hne (Pj ops) (ut hi) hm;have hw:∀ b∈l,Wt b.2/\(b.2.areN=true/\b.2.nodes<=60):=lh (fun t=>Wt t/\(t.areN=true/\t.nodes<=60)) (fun t a h ha=>⟨h.1.sub ha,cr h.2.1 ha,by
    have:=dw (f:=Tm.nodes) ha;have:=Tm.nodes_eq t;have:=h.2.2;omega⟩) r.l u [] l ⟨hu.w,hu.n,hn⟩ (by simp) hm
   have hn1:=Fv (fun b hb=>(hw b hb).2.1) r.r (cm hr.rv)
   have hs1:ax ops [] (aS l r.r)=ax ops vs r.r:=Nc hA r.r (cm hr.rv) (hs▸hne);have hs2:ax ops [] (rW (aS l r.r))=o.r:=by rw[Fu ops [] _ hn1 (by rw[hs1,hs];exact hne),hs1,hs]
   have hm1:=jf (m:=60) (by decide) (fun b hb=>(hw b hb).2.2) r.r
   have hm2:=gu (aS l r.r);have hm3:=az hr.rv;refine⟨⟨Nh _ (Ng (fun b hb=>(hw b hb).1) r.r hr.b.wr),Nd _ hn1,hs2▸hne⟩,by rw[hs2,he],by omega⟩
  ·simp at h
def atT:Tm->List Int->Option Tm
 |t,[]=>some t
 |t,i::p=>if h:i.toNat<t.as.length then (if 0<=i then atT t.as[i.toNat] p else none) else none
def co:Tm->List Int->Tm->Tm
 |_,[],w=>w
 |t,i::p,w=>if h:i.toNat<t.as.length then .mk t.k t.n t.s (t.as.set i.toNat (co t.as[i.toNat] p w)) else t
theorem cu{t u:Tm}{i:Int}{p:List Int}(h:atT t (i::p)=some u):∃ hi:i.toNat<t.as.length,0<=i/\atT t.as[i.toNat] p=some u:=by
 simp only[atT] at h;split at h
 ·rename_i hi
  split at h
  ·exact⟨hi,by assumption,h⟩
  ·simp at h
 ·simp at h
theorem sj{ops:List OpM}{vs:List VS}:∀ (l:List Tm) (xs:List ByteArray) (i:Nat) (hi:i<l.length) (x:Tm),ax ops vs x=ax ops vs l[i]->bn ops vs (l.set i x) xs=bn ops vs l xs
 | [],_,i,hi,_,_=>by simp at hi
 |a::l,xs,0,hi,x,h=>by
  cases xs with
  |nil=>rfl
  |cons y xs =>
   simp only[List.getElem_cons_zero] at h;simp only[List.set_cons_zero,bn,h]
 |a::l,xs,i+1,hi,x,h=>by
  cases xs with
  |nil=>rfl
  |cons y xs =>
   simp only[List.getElem_cons_succ] at h;simp only[U0,bn];rw[sj l xs i (by simpa using hi) x h]
theorem Je{ops:List OpM}:∀ (p:List Int) (t u w:Tm),Gt ops t->atT t p=some u->Gt ops w->ax ops [] w=ax ops [] u->Gt ops (co t p w)/\ax ops [] (co t p w)=ax ops [] t
 | [],t,u,w,ht,h,hw,hs=>by
  simp only[atT,C9.injEq] at h;subst h;exact⟨hw,hs⟩
 |i::p,t,u,w,ht,h,hw,hs=>by
  obtain⟨hi,h0,h1⟩:=cu h;have hm:=C0 hi;obtain⟨g1,g2⟩:=Je p t.as[i.toNat] u w (ht.sub hm) h1 hw hs;simp only[co,dif_pos hi];have h2:t.k=2:=by
   rcases ce ht.n with ⟨_,q⟩|⟨_,_,q⟩ |h2
   ·rw[q] at hi;simp at hi
   ·rw[q] at hi;simp at hi
   ·exact h2
  obtain⟨o,hf,hl,hss,e⟩:=ht.arr h2;have es:ax ops [] (.mk t.k t.n t.s (t.as.set i.toNat (co t.as[i.toNat] p w)))=o.r:=by
   refine kq (t:=.mk t.k t.n t.s _) h2 hf (by rw[Tm.as_mk,K0];exact hl) ?_
   rw[Tm.as_mk,sj t.as o.a i.toNat hi _ g2];exact hss
  refine⟨⟨Nf ht.w (by simp) fun a ha=>?_,zh ht.n (by simp) fun a ha=>?_,by rw[es,<-e];exact ht.s⟩,by rw[es,e]⟩
  ·rcases K4 ha with q |q
   ·exact ht.w.sub q
   ·exact q▸g1.w
  ·rcases K4 ha with q |q
   ·exact cr ht.n q
   ·exact q▸g1.n
theorem jg:∀ (p:List Int) (t u:Tm),atT t p=some u->u.nodes+p.length<=t.nodes
 | [],t,u,h=>by simp only[atT,C9.injEq] at h;subst h;simp
 |i::p,t,u,h=>by
  obtain⟨hi,h0,h1⟩:=cu h;have h2:=jg p _ u h1;have:=dw (f:=Tm.nodes) (C0 hi);have:=Tm.nodes_eq t;simp only[C2];omega
theorem Ni:∀ (l:List Tm) (i:Nat) (hi:i<l.length) (x:Tm),((l.set i x).map Tm.nodes).sum<=(l.map Tm.nodes).sum+x.nodes
 | [],i,hi,_=>by simp at hi
 |a::l,0,hi,x=>by simp only[List.set_cons_zero,C4,K1];omega
 |a::l,i+1,hi,x=>by
  have:=Ni l i (by simpa using hi) x
  simp only[U0,C4,K1];omega
theorem mj(w:Tm):∀ (p:List Int) (t:Tm),(co t p w).nodes<=t.nodes*(p.length+1)+w.nodes
 | [],t=>by simp[co]
 |i::p,t=>by
  simp only[co];split
  ·rename_i hi
   have h1:=mj w p t.as[i.toNat];have h2:=Ni t.as i.toNat hi (co t.as[i.toNat] p w);have h3:=dw (f:=Tm.nodes) (C0 hi);have h4:=Tm.nodes_eq t;rw[Tm.nodes_eq,Tm.as_mk];have h5:t.as[i.toNat].nodes*(p.length+1)<=t.nodes*(p.length+1):=Nat.mul_le_mul_right _ (by omega)
   have h6:t.nodes*((i::p).length+1)=t.nodes*(p.length+1)+t.nodes:=by rw[C2,Nat.mul_add _ _ 1,Nat.mul_one]
   omega
  ·have:t.nodes<=t.nodes*((i::p).length+1):=Nat.le_mul_of_pos_right _ (by simp)
   omega
theorem Fw{P:Tm->Prop}(hP:∀ t a,P t->a∈t.as->P a):∀ (p:List Int) (t u:Tm),P t->atT t p=some u->P u
 | [],t,u,ht,h=>by simp only[atT,C9.injEq] at h;subst h;exact ht
 |i::p,t,u,ht,h=>by
  obtain⟨hi,h0,h1⟩:=cu h;exact Fw hP p _ u (hP t _ ht (C0 hi)) h1
def kr(st:List StM)(s:ByteArray):List Int:=(st.filter fun x=>decide (x.o=s)).map (·.a)
def stL(st:List StM)(t:Tm):List Int:=if t.k=2 then kr st t.s else []
noncomputable def ol(ru:List RuM)(u:Tm):Option Nat:=ru.findIdx? fun r=>(gh r u).isSome
def lb(l:List Int)(rs:List (Option (Nat×List Int))):Option (Nat×List Int):=l.findSome? fun i=>if 0<=i then (match rs[i.toNat]? with |some (some x)=>some (x.1,i::x.2) |_=>none) else none
mutual
noncomputable def nx(d:DfM):Tm->Option (Nat×List Int)
 |.mk k n s as=>match lb (if k=2 then kr d.st s else []) (nxs d as) with
  |some x=>some x
  |none=>(ol d.ru (.mk k n s as)).map fun i=>(i,[])
noncomputable def nxs(d:DfM):List Tm->List (Option (Nat×List Int))
 | []=>[]
 |t::ts=>nx d t::nxs d ts
end
theorem Nj(d:DfM):∀ ts,nxs d ts=ts.map (nx d)
 | []=>by simp only[nxs,D3]
 |t::ts=>by simp only[nxs,C4,Nj d ts]
theorem Nk(d:DfM)(t:Tm):nx d t=match lb (stL d.st t) (t.as.map (nx d)) with
 |some x=>some x
 |none=>(ol d.ru t).map fun i=>(i,[]):=by
 cases t
 simp only[nx,Nj,stL,Tm.k,Tm.s,Tm.as];rfl
theorem Pm{ru:List RuM}{u:Tm}{i:Nat}(h:ol ru u=some i):∃ r w,ru[i]?=some r/\gh r u=some w:=by
 unfold ol at h;rw[U3] at h;obtain⟨hi,h1,_⟩:=h;cases hf:gh ru[i] u with
 |none=>rw[hf] at h1;simp at h1
 |some w=>exact⟨ru[i],w,by simp[hi],hf⟩
theorem uz(d:DfM):∀ t i p,nx d t=some (i,p)->∃ u r w,atT t p=some u/\d.ru[i]?=some r/\gh r u=some w:=Tm.ind fun t ih i p h=>by
 rw[Nk] at h;cases hp:lb (stL d.st t) (t.as.map (nx d)) with
 |some x =>
  rw[hp] at h;simp only[C9.injEq] at h;subst h;unfold lb at hp;obtain⟨j,hj,h1⟩:=V0 hp;split at h1
  ·rename_i h0
   split at h1
   ·rename_i y hy
    simp only[C9.injEq,G9.injEq] at h1;obtain⟨e1,e2⟩:=h1;subst e1;subst e2;rw[Q9] at hy;cases hg:t.as[j.toNat]? with
    |none=>rw[hg] at hy;simp at hy
    |some a =>
     rw[hg] at hy;simp only[K7,C9.injEq] at hy;obtain⟨hlt,he⟩:=E4.1 hg;obtain⟨u,r,w,q1,q2,q3⟩:=ih a (he▸C0 hlt) y.1 y.2 hy;refine⟨u,r,w,?_,q2,q3⟩;simp only[atT,dif_pos hlt,H5 h0,he];exact q1
   ·simp at h1
  ·simp at h1
 |none =>
  rw[hp] at h;simp only at h;cases hr:ol d.ru t with
  |none=>rw[hr] at h;simp at h
  |some j =>
   rw[hr] at h;simp only[K7,C9.injEq,G9.injEq] at h;obtain⟨e1,e2⟩:=h;subst e1;subst e2;obtain⟨r,w,q1,q2⟩:=Pm hr;exact⟨t,r,w,rfl,q1,q2⟩
noncomputable def di(d:DfM)(t:Tm)(i:Nat)(p:List Int):Tm:=match atT t p,d.ru[i]? with
 |some u,some r=>(match gh r u with |some w=>co t p w |none=>t)
 |_,_=>t
structure zd where
 o:Int
 t:Tm
 st:List Tm
 rd:List (Nat×List Int)
noncomputable def ft(d:DfM):Nat->Tm->zd
 |0,t=>match nx d t with
  |none=>⟨1,t,[],[]⟩
  |some _=>⟨2,t,[],[]⟩
 |n+1,t=>match nx d t with
  |none=>⟨1,t,[],[]⟩
  |some (i,p)=>if (di d t i p).valid=true then ⟨(ft d n (di d t i p)).o,(ft d n (di d t i p)).t,di d t i p::(ft d n (di d t i p)).st,(i,p)::(ft d n (di d t i p)).rd⟩ else ⟨3,t,[],[]⟩
structure DfG(d:DfM):Prop where
 b:DfB d
 v:d.valid=true
theorem DfG.ru{d:DfM}(h:DfG d){r:RuM}(hr:r∈d.ru):RuG d.op r:=by
 have:=h.v;simp only[DfM.valid,B8,E3] at this;exact aa4 (h.b.rua r hr) (this.2.2.2.1 r hr)
theorem wy(ops:List OpM):∀ (l pre:List StM),kp ops pre l=true->∀ x∈l,Lj ops x=true
 | [],_,_,x,hx=>by simp at hx
 |y::l,pre,h,x,hx=>by
  simp only[kp,B8] at h;rcases D9.1 hx with e |hx
  ·exact e▸h.1
  ·exact wy ops l _ h.2.2 x hx
theorem DfG.st{d:DfM}(h:DfG d){x:StM}(hx:x∈d.st):Lj d.op x=true:=by
 have:=h.v;simp only[DfM.valid,B8] at this;exact wy d.op d.st [] this.2.2.2.2.1 x hx
theorem Sl{d:DfM}(h:DfG d){t:Tm}(ht:Gt d.op t){i:Int}(hi:i∈stL d.st t):0<=i/\i.toNat<t.as.length:=by
 unfold stL at hi;split at hi
 ·rename_i hk
  obtain⟨x,hx,rfl⟩:=F8.1 hi;obtain⟨h1,h2⟩:=P1.1 hx;have h3:=h.st h1;simp only[decide_eq_true_eq] at h2;obtain⟨o,hf,hl,_⟩:=ht.arr hk;unfold Lj at h3;rw[h2,hf] at h3;simp only[B8,decide_eq_true_eq] at h3;omega
 ·simp at hi
theorem wz{d:DfM}(h:DfG d){t:Tm}(ht:Gt d.op t)(hn:t.nodes<=60){i:Nat}{p:List Int}(hx:nx d t=some (i,p)) :
 ∃ u r w,atT t p=some u/\d.ru[i]?=some r/\gh r u=some w/\di d t i p=co t p w/\Gt d.op u/\u.nodes<=60/\Gt d.op w/\w.nodes<=3600/\Gt d.op (di d t i p)/\(di d t i p).nodes<=8000/\p.length<=60/\RuG d.op r:=by
 obtain⟨u,r,w,h1,h2,h3⟩:=uz d t i p hx;obtain⟨hi,he⟩:=E4.1 h2;have hr:RuG d.op r:=h.ru (he▸C0 hi);have hu:Gt d.op u:=Fw (P:=Gt d.op) (fun t a h ha=>h.sub ha) p t u ht h1
 have hun:=jg p t u h1;obtain⟨g1,g2,g3⟩:=Pk hr hu (by omega) h3
 have e:di d t i p=co t p w:=by unfold di;rw[h1,h2];simp only[h3]
 obtain⟨p1,_⟩:=Je p t u w ht h1 g1 g2;have hpn:=mj w p t;have:t.nodes*(p.length+1)<=60*61:=U8 hn (by omega)
 refine⟨u,r,w,h1,h2,h3,e,hu,by omega,g1,g3,e▸p1,by rw[e];omega,by omega,hr⟩
theorem Nl{xs:List Tm}{i:Nat}(hi:i<xs.length)(w:Tm):over i [over 0 [.int w.k,.int w.n,.str w.s,.sl (w.as.map Tm.row)] (rowAt (xs.map Tm.row) i)] (xs.map Tm.row)=(xs.set i w).map Tm.row:=by
 rw[ab hi,Tm.row_eq];have e:over 0 [D.int w.k,.int w.n,.str w.s,.sl (w.as.map Tm.row)] [D.int xs[i].k,.int xs[i].n,.str xs[i].s,.sl (xs[i].as.map Tm.row)]=w.row:=by rw[Tm.row_eq];rfl
 rw[e,db _ _ _ (by simp;omega),V1,U4,H5 (by simpa using hi)]
 simp
theorem Dv(j:Int)(p:List Int):(((j::p).map am).take ((j::p).map am).length).drop (Int.toNat 1)=p.map am:=by
 rw[List.take_length];rfl
theorem Pn(xs:aa)(r w:List D)(h:r.length=w.length):over xs.length [over 0 w (rowAt (xs++[r]) xs.length)] (xs++[r])=xs++[w]:=by
 have e:rowAt (xs++[r]) xs.length=r:=by simp[rowAt,O7]
 rw[e,db 0 w r (by omega),db _ _ _ (by simp)]
 simp[h]
def foI:Option (List Bnd)->aa->List D
 |some l,_=>[.bool true,.sl (l.map Bnd.row)]
 |none,x=>[.bool false,.sl x]
theorem Dw(x:StM)(l:List StM)(s:ByteArray):kr (x::l) s=if x.o=s then x.a::kr l s else kr l s:=by
 unfold kr;rw[O1];by_cases h:x.o=s<;>simp[h]
theorem Jf(l:List StM)(s:ByteArray):(kr l s).length<=l.length:=by
 unfold kr;rw[B6];exact Q3 _ _
end Go.Q
namespace Go.Q
open Go
theorem Sm(l:List Bnd)(x:ByteArray)(ns:List ByteArray):rsB l (x::ns)=match bnd l x with
 |some v=>(x,v)::rsB l ns
 |none=>rsB l ns:=by
 unfold rsB;rw[S7];cases bnd l x<;>rfl
theorem Nm(l:List Bnd)(ns:List ByteArray):(rsB l ns).length<=ns.length:=S5 ..
def frR:Option Tm->List D
 |some w=>[.int w.k,.int w.n,.str w.s,.bool true,.sl (w.as.map Tm.row)]
 |none=>[.int 0,.int 0,.str e0,.bool false,.sl []]
noncomputable def fiL(r:RuM)(u:Tm):List Bnd:=match mT r.l u [] with
 |some l=>rsB l (cc (cc r.l.names))
 |none=>[]
def Lo:Option Nat->Int
 |some i=>(i:Int)
 |none=>-1
theorem ml{m:Nat}(t a:Tm)(h:t.nodes<=m)(ha:a∈t.as):a.nodes<=m:=by
 have:=dw (f:=Tm.nodes) ha;have:=Tm.nodes_eq t;omega
theorem Dx{l:List Bnd}(hl:∀ b∈l,b.2.nodes<=60){g:Gu}(h1:g.l.nodes<=60)(h2:g.r.nodes<=60):(dp l g).ok:=by
 have a1:=jf (m:=60) (by decide) hl g.l
 have a2:=jf (m:=60) (by decide) hl g.r
 exact⟨by show(aS l g.l).nodes<=_;omega,by show(aS l g.r).nodes<=_;omega⟩
theorem ve{l:List Bnd}{P:Tm->Prop}(h:∀ b∈l,P b.2){s:ByteArray}{v:Tm}(hb:bnd l s=some v):P v:=by
 obtain⟨b,h1,rfl⟩:=eh hb;exact h b h1
theorem Nn{l:List Bnd}{P:Tm->Prop}(h:∀ b∈l,P b.2)(ns:List ByteArray):∀ b∈rsB l ns,P b.2:=fun b hb=>by
 unfold rsB at hb;obtain⟨s,_,hs⟩:=R8.1 hb;cases hv:bnd l s with
 |none=>rw[hv] at hs;simp at hs
 |some v =>
  rw[hv] at hs;simp only[K7,C9.injEq] at hs;subst hs;exact ve h hv
theorem Jg(r:RuM)(u:Tm):gh r u=if ((mT r.l u []).isSome&&r.g.all fun g=>holds (dp (fiL r u) g))=true then some (rW (aS (fiL r u) r.r)) else none:=by
 unfold gh fiL;cases h:mT r.l u [] with
 |none=>rfl
 |some l =>
  have hc:∀ s,bnd (rsB l (cc (cc r.l.names))) s=bnd l s:=Pi h;have e:∀ g,dp (rsB l (cc (cc r.l.names))) g=dp l g:=fun g=>Ln hc g
  simp only[P3,E1,e,uu hc]
def nrR:Option (Nat×List Int)->List Int->List D
 |some x,acc=>[.int (x.1:Int),.bool true,.sl ((acc++x.2).map am)]
 |none,_=>[.int 0,.bool false,.sl []]
def nrS:Option (Nat×List Int)->List D
 |some x=>[.int (x.1:Int),.bool true,.sl (x.2.map am)]
 |none=>[.int 0,.bool false,.sl []]
theorem Bh(rs:List (Option (Nat×List Int))):lb [] rs=none:=rfl
theorem Dy{f:Tm->Option (Nat×List Int)}{xs:List Tm}{m:Nat}(hm:m<xs.length)(q:List Int):lb ((m:Int)::q) (xs.map f)=match f xs[m] with
 |some x=>some (x.1,(m:Int)::x.2)
 |none=>lb q (xs.map f):=by
 unfold lb;rw[List.findSome?_cons];have h0:(0:Int)<=(m:Int):=by omega
 simp only[h0,if_true,B7,Q9,F4 hm,K7];cases f xs[m]<;>rfl
theorem Xo(st:List StM)(t:Tm):(stL st t).length<=st.length:=by
 unfold stL;split
 ·exact Jf st t.s
 ·simp
noncomputable def cfg(d:DfM)(t:Tm):Bool:=d.valid&&(t.valid&&(isG t&&!decide (ax d.op [] t=e0)))
theorem Fy{d:DfM}{t:Tm}(hb:DfB d)(hw:Wt t)(h:cfg d t=true):DfG d/\Gt d.op t/\t.nodes<=60:=by
 simp only[cfg,B8,E8,decide_eq_false_iff_not] at h;exact⟨⟨hb,h.1⟩,⟨hw,cm h.2.1,h.2.2.2⟩,az h.2.1⟩
def Dz(x:Nat×List Int):List D:=[.int (x.1:Int),.sl (x.2.map am)]
noncomputable def oq(d:DfM)(t:Tm)(f:Int):Option zd:=if 0<=f/\f<=200/\cfg d t=true then some (ft d f.toNat t) else none
end Go.Q
namespace Go.Q
open Go
theorem qo{d:DfM}{t:Tm}(h:nx d t=none):∀ n,ft d n t=⟨1,t,[],[]⟩
 |0=>by simp only[ft,h]
 |n+1=>by simp only[ft,h]
theorem xa{d:DfM}{t:Tm}{x:Nat×List Int}(h:nx d t=some x):ft d 0 t=⟨2,t,[],[]⟩:=by simp only[ft,h]
theorem Jh{d:DfM}{t:Tm}{x:Nat×List Int}(h:nx d t=some x)(hv:(di d t x.1 x.2).valid=false)(n:Nat):ft d (n+1) t=⟨3,t,[],[]⟩:=by
 obtain⟨i,p⟩:=x;simp only at hv;simp only[ft,h,hv,Bool.false_eq_true,if_false]
theorem zj{d:DfM}{t:Tm}{x:Nat×List Int}(h:nx d t=some x)(hv:(di d t x.1 x.2).valid=true)(n:Nat):ft d (n+1) t=⟨(ft d n (di d t x.1 x.2)).o,(ft d n (di d t x.1 x.2)).t,di d t x.1 x.2::(ft d n (di d t x.1 x.2)).st,x::(ft d n (di d t x.1 x.2)).rd⟩:=by
 obtain⟨i,p⟩:=x;simp only at hv;simp only[ft,h,hv,if_true]
theorem Bi(xs:aa)(k n k' n':Int)(s s':ByteArray)(a a':aa):over xs.length [over 0 [.int k,.int n,.str s,.sl a] (rowAt (xs++[[.int k',.int n',.str s',.sl a']]) xs.length)] (xs++[[.int k',.int n',.str s',.sl a']])=xs++[[.int k,.int n,.str s,.sl a]]:=Pn xs _ _ rfl
def Xp(r:zd)(t:Tm):List D:=[.int r.o,.int r.t.k,.int r.t.n,.str r.t.s,.int (r.rd.length:Int),.sl (r.t.as.map Tm.row),.sl (r.rd.map Dz),.sl ((t::r.st).map Tm.row)]
def rtD:Option zd->List D
 |some r=>[.int r.o,.int r.t.k,.int r.t.n,.str r.t.s,.int (r.rd.length:Int),.sl (r.t.as.map Tm.row)]
 |none=>[.int 0,.int 0,.int 0,.str e0,.int 0,.sl []]
theorem Np:∀ (p:List Int) (t u:Tm),atT t p=some u->t.nodes<=60->∀ j∈p,0<=j/\j<60
 | [],_,_,_,_,j,hj=>by simp at hj
 |i::p,t,u,h,hn,j,hj=>by
  obtain⟨hi,h0,h1⟩:=cu h;have hls:=dc (xs:=t.as);have hnd:=Tm.nodes_eq t;rcases D9.1 hj with e |hj
  ·subst e;omega
  ·exact Np p _ u h1 (ml t _ hn (C0 hi)) j hj
structure ae4(d:DfM)(n:Nat)(r:zd):Prop where
 t:Gt d.op r.t
 tn:r.t.nodes<=60
 o:r.o=1\/r.o=2\/r.o=3
 rl:r.rd.length<=n
 rg:∀ x∈r.rd,x.1<d.ru.length/\x.2.length<=60/\∀ j∈x.2,0<=j/\j<60
 sl:r.st.length<=n
 s:∀ x∈r.st,Gt d.op x/\x.nodes<=60
theorem Po{d:DfM}(hd:DfG d):∀ n t,Gt d.op t->t.nodes<=60->ae4 d n (ft d n t):=by
 intro n;induction n with
 |zero =>
  intro t ht hn;cases hx:nx d t with
  |none=>rw[qo hx];exact⟨ht,hn,.inl rfl,F2 _,by simp,F2 _,by simp⟩
  |some x=>rw[xa hx];exact⟨ht,hn,.inr (.inl rfl),F2 _,by simp,F2 _,by simp⟩
 |succ n ih =>
  intro t ht hn;cases hx:nx d t with
  |none=>rw[qo hx];exact⟨ht,hn,.inl rfl,J1 _,by simp,J1 _,by simp⟩
  |some x =>
   obtain⟨u,r,w,h1,h2,_,_,_,_,_,_,hg,hgn,hp,_⟩:=wz hd ht hn hx;cases hv:(di d t x.1 x.2).valid with
   |false=>rw[Jh hx hv];exact⟨ht,hn,.inr (.inr rfl),J1 _,by simp,J1 _,by simp⟩
   |true =>
    rw[zj hx hv];have h:=ih _ hg (az hv);obtain⟨hi,_⟩:=E4.1 h2;refine⟨h.t,h.tn,h.o,Nat.succ_le_succ h.rl,fun y hy=>?_,Nat.succ_le_succ h.sl,fun y hy=>?_⟩
    ·rcases D9.1 hy with e |hy
     ·subst e;exact⟨hi,hp,Np _ _ _ h1 hn⟩
     ·exact h.rg y hy
    ·rcases D9.1 hy with e |hy
     ·subst e;exact⟨hg,az hv⟩
     ·exact h.s y hy
theorem Ea{d:DfM}(hb:DfB d){t:Tm}(hw:Wt t){f:Int}{r:zd}(h:oq d t f=some r):ae4 d 200 r/\t.nodes<=60:=by
 unfold oq at h;split at h
 ·rename_i hc
  simp only[C9.injEq] at h;subst h;obtain⟨hd,ht,hn⟩:=Fy hb hw hc.2.2;have g:=Po hd f.toNat t ht hn;exact⟨⟨g.t,g.tn,g.o,by have:=g.rl;omega,g.rg,by have:=g.sl;omega,g.s⟩,hn⟩
 ·simp at h
theorem Xq(d:DfM)(t:Tm)(f:Int):oq d t f=bif (cfg d t&&(decide (0<=f)&&decide (f<=200))) then some (ft d f.toNat t) else none:=by
 unfold oq;by_cases h:0<=f/\f<=200/\cfg d t=true
 ·rw[H5 h];simp[h.1,h.2.1,h.2.2]
 ·rw[H6 h]
  have:(cfg d t&&(decide (0<=f)&&decide (f<=200)))=false:=by
   rw[Bool.eq_false_iff];intro hc;simp only[B8,decide_eq_true_eq] at hc;exact h ⟨hc.2.1,hc.2.2,hc.1⟩
  rw[this];rfl
noncomputable def Lp:Option zd->Tm->Tm->Bool
 |some r,t,g=>(t::r.st).any fun x=>eqb x.row g.row
 |none,_,_=>false
end Go.Q
namespace Go.Q
open Go
def rtO:Option zd->Int
 |some r=>r.o
 |none=>0
def rtT:Option zd->Tm
 |some r=>r.t
 |none=>tm0
def rtN:Option zd->Nat
 |some r=>r.rd.length
 |none=>0
theorem aa5(R:Option zd):rtD R=[.int (rtO R),.int (rtT R).k,.int (rtT R).n,.str (rtT R).s,.int (rtN R:Int),.sl ((rtT R).as.map Tm.row)]:=by cases R<;>rfl
theorem wt0:Wt tm0:=.mk (S.i64ok_of (by decide) (by decide)) (S.i64ok_of (by decide) (by decide)) (by decide) (by decide) (by intro a ha;simp[tm0,Tm.as] at ha)
theorem Xr{d:DfM}(hb:DfB d){t:Tm}(hw:Wt t)(f:Int):Wt (rtT (oq d t f))/\(rtT (oq d t f)).nodes<=60/\(0<=rtO (oq d t f)/\rtO (oq d t f)<=3)/\rtN (oq d t f)<=200:=by
 cases h:oq d t f with
 |none=>exact⟨wt0,by decide,by decide,by decide⟩
 |some r =>
  obtain⟨g,_⟩:=Ea hb hw h;refine⟨g.t.w,g.tn,?_,g.rl⟩;rcases g.o with e |e |e<;>(show 0<=r.o/\r.o<=3;omega)
end Go.Q
end
section
/- Translations,instances that are configurations,refutations. -/
namespace Go.Q
open Go
theorem xb{f:Tm->Tm}:∀ (l:List Tm),(∀ a∈l,(f a).depth<=a.depth)->Tm.depthL (l.map f)<=Tm.depthL l
 | [],_=>F2 _
 |a::l,h=>by
  have h1:=h a (C5 ..);have h2:=xb l fun b hb=>h b (C6 _ hb)
  simp only[C4,Tm.depthL];omega
theorem Sn{l:List Bnd}(hl:∀ b∈l,b.2.depth=1):∀ t,(aS l t).depth<=t.depth:=Tm.ind fun t ih=>by
 rw[eo];have h1:=Tm.depth_eq t;split
 ·rename_i u hu
  split at hu
  ·obtain⟨b,hb,rfl⟩:=eh hu
   rw[hl b hb];omega
  ·simp at hu
 ·rw[Tm.depth_eq,Tm.as_mk]
  have:=xb t.as ih;omega
theorem So:∀ t,(rW t).depth<=t.depth:=Tm.ind fun t ih=>by
 have h1:=Tm.depth_eq t;have plain:(Tm.mk t.k t.n t.s (t.as.map rW)).depth<=t.depth:=by
  rw[Tm.depth_eq,Tm.as_mk];have:=xb t.as ih;omega
 rw[ez];unfold rW1;split
 ·rename_i x y hxy
  split
  ·rw[Tm.depth_eq,Tm.as_mk];simp only[Tm.depthL];omega
  ·exact plain
 ·exact plain
theorem Ji{n:Nat}{c:Int}(h:isC n c=true):(vals n c).length=n:=by
 have h3:=(lg h).1;unfold vals;rw[H5 h]
 match n,h3 with
 |0,_=>rfl
 |1,_=>rfl
 |2,_=>rfl
 |3,_=>rfl
theorem Sp{n:Nat}{c:Int}(h:isC n c=true):∀ x∈vals n c,0<=x/\x<4:=fun x hx=>by
 obtain⟨h3,h0,_⟩:=lg h;have hm:∀ a:Int,0<=a->0<=a.tmod 4/\a.tmod 4<4:=fun a ha=>⟨R4 4 ha,P2 _ (by decide)⟩
 have hd:∀ a:Int,0<=a->0<=a.tdiv 4:=fun a ha=>Int.tdiv_nonneg ha (by decide)
 unfold vals at hx;rw[H5 h] at hx
 match n,h3 with
 |0,_=>simp at hx
 |1,_ =>
  simp only[E7] at hx;subst hx;exact hm _ h0
 |2,_ =>
  simp only[D9,N2,or_false] at hx;rcases hx with e |e
  ·subst e;exact hm _ (hd _ h0)
  ·subst e;exact hm _ h0
 |3,_ =>
  simp only[D9,N2,or_false] at hx;rcases hx with e |e |e
  ·subst e;exact hm _ (hd _ (hd _ h0))
  ·subst e;exact hm _ (hd _ h0)
  ·subst e;exact hm _ h0
theorem Pp(ops:List OpM)(n:Int):ax ops [] (word n)=de:=by unfold word;rw[cq];rfl
theorem Eb(ops:List OpM):∀ (vars:List ByteArray) (vs:List Int),vs.length=vars.length->px ops (wv vars) ((vars.zip vs).map fun p=>(p.1,word p.2))
 | [],[],_=>by
  intro s;simp[wv,fq,bnd]
 | [],_::_,h=>by simp at h
 |_::_,[],h=>by simp at h
 |x::vars,v::vs,h=>by
  have ih:=Eb ops vars vs (by simpa using h)
  intro s;have hs:=ih s;unfold wv fq at hs ⊢;simp only[C4,U1,P0,bnd];by_cases e:x=s
  ·simp only[e,H3,if_true]
   exact Pp ops v
  ·simp only[e,H4,if_false]
   exact hs
theorem Nq:∀ (vars:List ByteArray) (vs:List Int) (s:ByteArray),vs.length=vars.length->s∈vars->∃ n∈vs,bnd ((vars.zip vs).map fun p=>(p.1,word p.2)) s=some (word n)
 | [],_,s,_,h=>by simp at h
 |_::_,[],_,h,_=>by simp at h
 |x::vars,v::vs,s,h,hs=>by
  simp only[U1,C4,bnd];by_cases e:x=s
  ·exact⟨v,C5 ..,by rw[H5 e]⟩
  ·rw[H6 e]
   obtain⟨n,h1,h2⟩:=Nq vars vs s (by simpa using h) (by
    rcases D9.1 hs with q |q
    ·exact absurd q.symm e
    ·exact q)
   exact⟨n,C6 _ h1,h2⟩
theorem Pq{l:List Bnd}(hg:∀ b∈l,b.2.names=[]):∀ t,(∀ s∈t.names,bnd l s≠none)->(aS l t).names=[]:=Tm.ind fun t ih h=>by
 rw[Tm.names_eq] at h;rw[eo];by_cases hk:t.k=1
 ·rw[H5 hk] at h ⊢
  cases hb:bnd l t.s with
  |some v =>
   obtain⟨b,h1,rfl⟩:=eh hb;exact hg b h1
  |none=>exact absurd hb (h t.s (by simp))
 ·rw[H6 hk] at h ⊢
  simp only;rw[Tm.names_eq,Tm.k_mk,Tm.as_mk,H6 hk,E2,List.flatMap_map];rw[Av (g:=fun _=>[]) fun a ha=>ih a ha fun s hs=>h s (D4.2 (.inr (K3.2 ⟨a,ha,hs⟩)))]
  induction t.as with
  |nil=>rfl
  |cons a l ih=>rw[N8,ih];rfl
theorem Bj{d:DfM}{vars:List ByteArray}{t:Tm}(hs:jn d vars t=true){c:Int}(hc:isC vars.length c=true):cfg d (bt vars t c)=true:=by
 simp only[jn,B8,E8,decide_eq_false_iff_not] at hs;obtain⟨hv,_,_,_,htv,hwi,hso⟩:=hs;have hlen:=Ji hc;have hA:=Eb d.op vars (vals vars.length c) hlen;have htn:=cm htv;have hw:∀ b∈bi vars c,b.2.areN=true/\(b.2.names=[]/\(b.2.depth=1/\b.2.nodes=1)):=fun b hb=>by
  unfold bi at hb;simp only[F8] at hb;obtain⟨p,hp,rfl⟩:=hb;obtain⟨v1,v2⟩:=Sp hc _ (List.of_mem_zip hp).2;refine⟨?_,rfl,rfl,rfl⟩;show(word p.2).areN=true
  unfold word;rw[Tm.areN_eq];unfold Tm.nodeN isW;simp only[Tm.k_mk,Tm.n_mk,Tm.s_mk,Tm.as_mk];simp[Tm.areNL,v1,v2]
 have hn1:=Fv (fun b hb=>(hw b hb).1) t htn
 have hs1:ax d.op [] (aS (bi vars c) t)=ax d.op (wv vars) t:=Nc hA t htn hso;have hs2:ax d.op [] (bt vars t c)=ax d.op (wv vars) t:=by unfold bt;rw[Fu d.op [] _ hn1 (by rw[hs1];exact hso),hs1]
 simp only[cfg,B8,E8,decide_eq_false_iff_not];refine⟨hv,?_,?_,by rw[hs2];exact hso⟩
 ·simp only[Tm.valid,B8,decide_eq_true_eq] at htv ⊢
  have a1:=uj (fun b hb=>(hw b hb).2.2.2) t
  have a2:=gu (aS (bi vars c) t);have a3:=Sn (fun b hb=>(hw b hb).2.2.1) t
  have a4:=So (aS (bi vars c) t);exact⟨by unfold bt;omega,by unfold bt;omega,Nd _ hn1⟩
 ·unfold isG bt
  rw[Aw,Pq (fun b hb=>(hw b hb).2.1) t fun s hs=>by
   obtain⟨n,_,e⟩:=Nq vars (vals vars.length c) s hlen (gg.1 hwi s hs);show bnd (bi vars c) s≠none
   unfold bi;rw[e];simp]
  rfl
theorem Sq{d:DfM}{t:Tm}(h:cfg d t=true):oq d t 200=some (ft d 200 t):=by
 unfold oq;rw[H5 ⟨by decide,by decide,h⟩];rfl
noncomputable def Lq(d:DfM)(u g:Tm):Bool:=match oq d u 200 with
 |some r=>decide (r.o=1)&&!Lp (some r) u g
 |none=>false
noncomputable def Xs(c:ClM):Option Nat:=if c.valid=true then (gf c.v c.g).find? fun i=>Lq c.d (S.instR c.v c.l (i:Int)) (S.instR c.v c.r (i:Int)) else none
def ae5:Option Nat->List D
 |some i=>[.int (i:Int),.bool true]
 |none=>[.int 0,.bool false]
theorem Jj{vars:List ByteArray}{gs:List Gu}{i:Nat}(h:i∈gf vars gs):isC vars.length (i:Int)=true:=by
 unfold gf at h;have h1:=(P1.1 h).1;have h2:=kz vars.length;simp only[List.mem_range] at h1;simp only[isC,B8,decide_eq_true_eq];omega
theorem qp{vars:List ByteArray}{t:Tm}{c:Int}(h:isC vars.length c=true):S.instR vars t c=bt vars t c:=by unfold S.instR;rw[H5 h]
end Go.Q
namespace Go.Q
open Go
theorem Xt{n:Int}(h0:0<=n)(h1:n<4):Wt (word n):=.mk (S.i64ok_of (by show _<=(3:Int);decide) (by show(3:Int)<=_;decide)) (S.i64ok_of (by show _<=n;omega) (by show n<=_;omega)) (by show(⟨#[]⟩:ByteArray).size<=maxLen;decide) (J1 _) (by intro a ha;simp[word,Tm.as] at ha)
theorem Bl{vars:List ByteArray}{t:Tm}(h:Wt t)(c:Int):Wt (S.instR vars t c):=by
 unfold S.instR;split
 ·rename_i hc
  refine Nh _ (Ng (fun b hb=>?_) t h)
  unfold bi at hb;simp only[F8] at hb;obtain⟨p,hp,rfl⟩:=hb;obtain⟨v1,v2⟩:=Sp hc _ (List.of_mem_zip hp).2;exact Xt v1 v2
 ·exact wt0
end Go.Q
end
section
/- Symbolic terms with cases;comparison. -/
namespace Go.Q
open Go
def kt(n:Nat):Option Int->List Int->Bool
 |_,[]=>true
 |p,c::r=>isC n c&&((match p with |some q=>!decide (c<=q) |none=>true)&&kt n (some c) r)
def prv(cs:List Int):Nat->Option Int
 |0=>none
 |i+1=>cs[i]?
def Bo(d:DfM)(vars:List ByteArray)(t:Tm)(cs:List Int):Bool:=jn d vars t&&kt vars.length none cs
theorem cz{n:Nat}:∀ (cs:List Int) (p:Option Int),kt n p cs=true->∀ c∈cs,isC n c=true
 | [],_,_,c,hc=>by simp at hc
 |x::r,p,h,c,hc=>by
  simp only[kt,B8] at h;rcases D9.1 hc with e |hc
  ·subst e;exact h.1
  ·exact cz r _ h.2.2 c hc
def Ge(l:List Int)(x:Int):Bool:=l.any fun y=>decide (y=x)
structure SyM where
 d:DfM
 v:List ByteArray
 t:Tm
 c:List Int
def SyM.row(s:SyM):List D:=[.sl (s.d.so.map ag),.sl (s.d.op.map OpM.row),.sl (s.d.ru.map RuM.row),.sl (s.d.st.map StM.row),.sl (s.v.map ag),.int s.t.k,.int s.t.n,.str s.t.s,.sl (s.t.as.map Tm.row),.sl (s.c.map am)]
structure SyB(s:SyM):Prop where
 d:DfB s.d
 v:s.v.length<=1048576
 vs:∀ x∈s.v,x.size<=maxLen
 w:Wt s.t
 n:s.t.nodes<=1048577
 c:s.c.length<=1048576
end Go.Q
end
section
/- Places of terms,steps of symbolic terms,branches. -/
namespace Go.Q
open Go
def atO(t:Tm)(p:List Int):Tm:=(atT t p).getD tm0
theorem wq:tm0.nodes=1:=by rw[Tm.nodes_eq];rfl
theorem jh(t:Tm)(p:List Int){m:Nat}(hm:1<=m)(h:t.nodes<=m):(atO t p).nodes<=m:=by
 unfold atO;cases ha:atT t p with
 |none=>rw[Option.getD_none,wq];exact hm
 |some u=>have:=jg p t u ha;rw[Option.getD_some];omega
theorem Sr{t:Tm}(h:Wt t)(p:List Int):Wt (atO t p):=by
 unfold atO;cases ha:atT t p with
 |none=>exact wt0
 |some u=>exact Fw (fun t a h ha=>h.sub ha) p t u h ha
theorem Ss{w:Tm}(hw:Wt w):∀ (p:List Int) (t:Tm),Wt t->Wt (co t p w)
 | [],t,_=>hw
 |i::p,t,h=>by
  simp only[co];split
  ·rename_i hi
   refine Nf h (by simp) fun a ha=>?_
   rcases K4 ha with q |q
   ·exact h.sub q
   ·exact q▸Ss hw p _ (h.sub (C0 hi))
  ·exact h
mutual
def gn:Tm->List Int->List (List Int)
 |.mk _ _ _ as,p=>p::ot as p 0
def ot:List Tm->List Int->Nat->List (List Int)
 | [],_,_=>[]
 |a::r,p,i=>gn a (p++[(i:Int)])++ot r p (i+1)
end
theorem nd(t:Tm)(p:List Int):gn t p=p::ot t.as p 0:=by cases t;simp only[gn,Tm.as]
theorem Ec{as:List Tm}{p:List Int}{i:Nat}(h:i<as.length):ot (as.drop i) p i=gn as[i] (p++[(i:Int)])++ot (as.drop (i+1)) p (i+1):=by
 rw[B9 h];simp only[ot]
theorem Su(as:List Tm)(h:∀ a∈as,∀ p,(gn a p).length=a.nodes):∀ p i,(ot as p i).length=(as.map Tm.nodes).sum:=by
 induction as with
 |nil=>intro p i;rfl
 |cons a r ih =>
  intro p i;simp only[ot,E6,C4,K1,h a (C5 ..),ih (fun b hb=>h b (C6 _ hb))]
theorem py:∀ t:Tm,∀ p,(gn t p).length=t.nodes:=Tm.ind fun t ih p=>by
 rw[nd,C2,Su t.as ih,Tm.nodes_eq];omega
theorem Sv(as:List Tm)(h:∀ a∈as,∀ p q,q∈gn a p->q.length<=p.length+a.nodes):∀ p i q,q∈ot as p i->q.length<=p.length+1+(as.map Tm.nodes).sum:=by
 induction as with
 |nil=>intro p i q hq;simp[ot] at hq
 |cons a r ih =>
  intro p i q hq;simp only[ot,D4,C4,K1] at hq ⊢;rcases hq with hq |hq
  ·have:=h a (C5 ..) _ q hq
   simp only[E6,C2,C8] at this;omega
  ·have:=ih (fun b hb=>h b (C6 _ hb)) p (i+1) q hq
   omega
theorem Jk:∀ t:Tm,∀ p q,q∈gn t p->q.length<=p.length+t.nodes:=Tm.ind fun t ih p q hq=>by
 rw[nd] at hq;have hn:=Tm.nodes_eq t;rcases D9.1 hq with e |hq
 ·subst e;omega
 ·have:=Sv t.as ih p 0 q hq;omega
def cB1(l u:Tm)(p:List Int):Option Bnd:=if (atO l p).k=1 then some ((atO l p).s,atO u p) else none
def jq(l u:Tm):List Bnd:=(gn l []).filterMap (cB1 l u)
def ne(l u:Tm):List (List Int)->List Bnd->List Bnd
 | [],acc=>acc
 |p::r,acc=>ne l u r (if (atO l p).k=1/\bnd acc (atO l p).s=none then acc++[((atO l p).s,atO u p)] else acc)
theorem Bp(a b:List Bnd)(s:ByteArray):bnd (a++b) s=(match bnd a s with |some v=>some v |none=>bnd b s):=by
 induction a with
 |nil=>rfl
 |cons x a ih =>
  simp only[F9,bnd];split
  ·rfl
  ·exact ih
theorem Jl(l u:Tm)(s:ByteArray):∀ (ps:List (List Int)) (acc:List Bnd),bnd (ne l u ps acc) s=bnd (acc++ps.filterMap (cB1 l u)) s
 | [],acc=>by simp[ne]
 |p::r,acc=>by
  simp only[ne,Jl l u s r];by_cases hk:(atO l p).k=1
  ·have e1:(p::r).filterMap (cB1 l u)=((atO l p).s,atO u p)::r.filterMap (cB1 l u):=by rw[S7,cB1,H5 hk]
   rw[e1];cases hb:bnd acc (atO l p).s with
   |none=>rw[H5 ⟨hk,rfl⟩,E5];rfl
   |some v =>
    rw[H6 (by simp)]
    rw[Bp,Bp];cases ha:bnd acc s with
    |some w=>rfl
    |none =>
     simp only[bnd];rw[H6 fun e=>by rw[e,ha] at hb;simp at hb]
  ·have e1:(p::r).filterMap (cB1 l u)=r.filterMap (cB1 l u):=by rw[S7,cB1,H6 hk]
   rw[e1,H6 fun h=>hk h.1]
theorem Xu(l u t:Tm):aS (ne l u (gn l []) []) t=aS (jq l u) t:=uu (fun s=>by rw[Jl,E2];rfl) t
theorem Bq{l u:Tm}{P:Tm->Prop}(h:∀ p,P (atO u p)):∀ b∈jq l u,P b.2:=fun b hb=>by
 unfold jq at hb;obtain⟨p,_,hp⟩:=R8.1 hb;unfold cB1 at hp;split at hp
 ·simp only[C9.injEq] at hp;subst hp;exact h p
 ·simp at hp
theorem Jm{l u:Tm}{P:Tm->Prop}(h:∀ p,P (atO u p)):∀ (ps:List (List Int)) (acc:List Bnd),(∀ b∈acc,P b.2)->∀ b∈ne l u ps acc,P b.2
 | [],acc,ha=>ha
 |p::r,acc,ha=>by
  simp only[ne];refine Jm h r _ ?_;split
  ·intro b hb
   rcases D4.1 hb with hb |hb
   ·exact ha b hb
   ·simp only[E7] at hb;subst hb;exact h p
  ·exact ha
theorem Jn(l u:Tm):∀ (ps:List (List Int)) (acc:List Bnd),(ne l u ps acc).length<=acc.length+ps.length
 | [],acc=>F2 _
 |p::r,acc=>by
  simp only[ne];refine G8 (Jn l u r _) ?_;split<;>simp<;>omega
theorem Zf:∀ t:Tm,rW (rW t)=rW t:=Tm.ind fun t ih=>by
 have e:(t.as.map rW).map rW=t.as.map rW:=by
  rw[K2];exact K9 fun a ha=>ih a ha
 rw[ez t];unfold rW1;split
 ·rename_i x y hxy
  split
  ·rename_i hc
   rw[ez];rfl
  ·rename_i hc
   rw[ez,Tm.k_mk,Tm.n_mk,Tm.s_mk,Tm.as_mk,e,hxy];unfold rW1;exact H6 hc
 ·rename_i hne
  rw[ez,Tm.k_mk,Tm.n_mk,Tm.s_mk,Tm.as_mk,e];unfold rW1;split
  ·rename_i x y hxy;exact absurd hxy (hne x y)
  ·rfl
theorem Sw(a:Tm):∀ (p:List Int) (t:Tm),rW (co t p (rW a))=rW (co t p a)
 | [],t=>Zf a
 |i::p,t=>by
  simp only[co];split
  ·rename_i hi
   rw[ez,ez (.mk t.k t.n t.s (t.as.set i.toNat (co t.as[i.toNat] p a)))];simp only[Tm.k_mk,Tm.n_mk,Tm.s_mk,Tm.as_mk,V1,Sw a p]
  ·rfl
theorem Zg{t:Tm}{i:Nat}(h:i<(rW t).as.length):∃ hi:i<t.as.length,(rW t).as[i]=rW t.as[i]:=by
 have key:(rW t).as=[]\/(rW t).as=t.as.map rW:=by
  rw[ez];unfold rW1;split
  ·split
   ·exact .inl rfl
   ·rename_i hxy _;rw[Tm.as_mk,hxy];exact .inr rfl
  ·exact .inr rfl
 rcases key with e |e
 ·rw[e] at h;simp at h
 ·have hi:i<t.as.length:=by rw[e] at h;simpa using h
  refine⟨hi,?_⟩;simp only[e,O2]
theorem Nr{l:List Bnd}(hl:∀ b∈l,b.2.as=[]):∀ (p:List Int) (t u:Tm),atT (rW (aS l t)) p=some u->∃ v,atT t p=some v
 | [],t,u,h=>⟨t,rfl⟩
 |i::p,t,u,h=>by
  obtain⟨hi,h0,h1⟩:=cu h;obtain⟨hi2,e2⟩:=Zg hi;have key:∃ hi3:i.toNat<t.as.length,(aS l t).as[i.toNat]=aS l t.as[i.toNat]:=by
   have hc:(aS l t).as=[]\/(aS l t).as=t.as.map (aS l):=by
    rw[eo];split
    ·rename_i v hv
     split at hv
     ·obtain⟨b,hb,rfl⟩:=eh hv;exact .inl (hl b hb)
     ·simp at hv
    ·exact .inr rfl
   rcases hc with e |e
   ·rw[e] at hi2;simp at hi2
   ·have hi3:i.toNat<t.as.length:=by rw[e] at hi2;simpa using hi2
    exact⟨hi3,by simp only[e,O2]⟩
  obtain⟨hi3,e3⟩:=key;rw[e2,e3] at h1;obtain⟨v,hv⟩:=Nr hl p _ u h1;exact⟨v,by simp only[atT,dif_pos hi3,H5 h0];exact hv⟩
theorem vf(vars:List ByteArray)(c:Int):∀ b∈bi vars c,b.2.as=[]:=fun b hb=>by
 unfold bi at hb;simp only[F8] at hb;obtain⟨p,_,rfl⟩:=hb;rfl
def da(d:DfM)(t:Tm)(x:Nat×List Int):Tm:=match d.ru[x.1]? with
 |some r=>rW (co t x.2 (aS (jq r.l (atO t x.2)) r.r))
 |none=>tm0
abbrev Bk:=Option (Nat×List Int)
def bK(d:DfM)(t:Tm):Bk->Int
 |none=>1
 |some y=>if (da d t y).valid=true then 2 else 3
def bT(d:DfM)(t:Tm):Bk->Tm
 |none=>t
 |some y=>if (da d t y).valid=true then da d t y else tm0
def bR:Bk->Int
 |none=>0
 |some y=>(y.1:Int)
def bP:Bk->List Int
 |none=>[]
 |some y=>y.2
def bu(d:DfM)(v:List ByteArray)(t:Tm)(b:Bk×List Int):List D:=[.int (bK d t b.1),.int (bR b.1),.sl ((bP b.1).map am),.sl (v.map ag),.int (bT d t b.1).k,.int (bT d t b.1).n,.str (bT d t b.1).s,.sl ((bT d t b.1).as.map Tm.row),.sl (b.2.map am)]
def Br(out:List (Bk×List Int))(x:Bk):Option Nat:=out.findIdx? fun b=>decide (b.1=x)
def ou(out:List (Bk×List Int))(x:Bk)(c:Int):List (Bk×List Int):=match Br out x with
 |some i=>(match out[i]? with |some b=>out.set i (b.1,b.2++[c]) |none=>out)
 |none=>out++[(x,[c])]
noncomputable def brF(d:DfM)(v:List ByteArray)(t:Tm):List Int->List (Bk×List Int)->List (Bk×List Int)
 | [],out=>out
 |c::r,out=>brF d v t r (ou out (nx d (bt v t c)) c)
noncomputable def brL(s:SyM):List (Bk×List Int):=if Bo s.d s.v s.t s.c=true then brF s.d s.v s.t s.c [] else []
theorem zk{out:List (Bk×List Int)}{x:Bk}{i:Nat}(h:Br out x=some i):∃ hi:i<out.length,out[i].1=x:=by
 unfold Br at h;rw[U3] at h;obtain⟨hi,h1,_⟩:=h;exact⟨hi,by simpa using h1⟩
structure BrB(n:Nat)(out:List (Bk×List Int)):Prop where
 l:out.length<=n
 c:∀ b∈out,b.2.length<=n
theorem Lr{n:Nat}{out:List (Bk×List Int)}(h:BrB n out)(x:Bk)(c:Int):BrB (n+1) (ou out x c):=by
 unfold ou;split
 ·split
  ·rename_i b hb
   refine⟨by rw[K0];have:=h.l;omega,fun q hq=>?_⟩
   rcases K4 hq with hq |hq
   ·have:=h.c q hq;omega
   ·subst hq
    have:=h.c b (N1 hb);simp only[E6,C2,C8];omega
  ·exact⟨by have:=h.l;omega,fun b hb=>by have:=h.c b hb;omega⟩
 ·refine⟨by have:=h.l;simp;omega,fun b hb=>?_⟩
  rcases D4.1 hb with hb |hb
  ·have:=h.c b hb;omega
  ·simp only[E7] at hb;subst hb;simp
theorem Ed{α:Type}(p:α->Bool)(l:List α){i:Nat}(h:i<l.length):(l.drop i).findIdx? p=if p l[i]=true then some 0 else ((l.drop (i+1)).findIdx? p).map (·+1):=by
 rw[B9 h,List.findIdx?_cons]
theorem Ls{d:DfM}(hd:DfG d){t:Tm}(hw:Wt t)(hn:t.nodes<=60){x:Nat×List Int}(hp:x.2.length<=60):Wt (da d t x)/\(da d t x).nodes<=7260:=by
 unfold da;cases hr:d.ru[x.1]? with
 |none=>exact⟨wt0,by rw[wq];decide⟩
 |some r =>
  have hrg:=hd.ru (N1 hr);have a1:=jf (m:=60) (by decide) (Bq (l:=r.l) (P:=fun t=>t.nodes<=60) fun p=>jh (atO t x.2) p (by decide) (jh t x.2 (by decide) hn)) r.r
  have a2:=az hrg.rv;have a3:=mj (aS (jq r.l (atO t x.2)) r.r) x.2 t;have a4:=gu (co t x.2 (aS (jq r.l (atO t x.2)) r.r));have a5:t.nodes*(x.2.length+1)<=60*61:=U8 hn (by omega)
  refine⟨Nh _ (Ss (Ng (Bq (P:=Wt) fun p=>Sr (Sr hw x.2) p) r.r hrg.b.wr) x.2 t hw),?_⟩
  simp only;omega
def pz(p:List Int):List D:=[.sl (p.map am)]
def Jo(out:List (Bk×List Int))(x:Bk):Int:=match Br out x with |some i=>(i:Int) |none=>-1
theorem ii{α:Type}:∀ (i:Nat) (x:α) (l:List α),i<l.length->over i [x] l=l.set i x
 |i,x,[],h=>by simp at h
 |0,x,a::l,_=>by cases l<;>rfl
 |i+1,x,a::l,h=>by simp only[over,U0,ii i x l (by simpa using h)]
theorem Lt{d:DfM}{v:List ByteArray}{t:Tm}{out:List (Bk×List Int)}{j:Nat}(hj:j<out.length)(cs:aa)(e:List Int)(he:cs=e.map am) :
 over j [over 8 [.sl cs] (rowAt (over j [over 8 [.sl []] (rowAt (out.map (bu d v t)) j)] (out.map (bu d v t))) j)] (over j [over 8 [.sl []] (rowAt (out.map (bu d v t)) j)] (out.map (bu d v t)))=(out.set j (out[j].1,e)).map (bu d v t):=by
 subst he;have hl:j<(out.map (bu d v t)).length:=by rw[B6];exact hj
 rw[ab hj,ii j _ _ hl,ii j _ _ (by rw[K0];exact hl),List.set_set,V1]
 congr 1
 rw[show rowAt ((out.map (bu d v t)).set j (over 8 [.sl []] (bu d v t out[j]))) j=over 8 [.sl []] (bu d v t out[j]) by simp[rowAt,O7,hj]]
 rfl
theorem Lu{d:DfM}{v:List ByteArray}{t:Tm}{out:List (Bk×List Int)}{j:Nat}(hj:j<out.length):(over j [over 8 [.sl []] (rowAt (out.map (bu d v t)) j)] (out.map (bu d v t))).length=out.length:=by
 rw[ii _ _ _ (by rw[B6];exact hj),K0,B6]
theorem qq{out:List (Bk×List Int)}{x:Bk}{j:Nat}(h:Br out x=some j)(hj:j<out.length)(c:Int):ou out x c=out.set j (out[j].1,out[j].2++[c]):=by
 unfold ou;rw[h];simp only[F4 hj]
theorem qr{out:List (Bk×List Int)}{x:Bk}(h:Br out x=none)(c:Int):ou out x c=out++[(x,[c])]:=by
 unfold ou;rw[h]
theorem Zh(d:DfM)(t:Tm)(y x:Bk):((decide (bK d t y=1)==!x.isSome)&&(decide (bR y=bR x)&&decide (bP y=bP x)))=decide (y=x):=by
 have h2:∀ z,¬ bK d t (some z)=1:=fun z=>by show ¬(if (da d t z).valid=true then (2:Int) else 3)=1;by_cases q:(da d t z).valid=true<;>simp[q]
 cases y with
 |none =>
  cases x with
  |none=>simp[bK,bR,bP]
  |some z=>simp[bK]
 |some w =>
  cases x with
  |none=>simp[h2]
  |some z =>
   obtain⟨a,b⟩:=w;obtain⟨a',b'⟩:=z;simp only[h2,bR,bP,H4,P3,Bool.not_true,BEq.rfl,E1,C9.injEq,G9.injEq,Int.ofNat_inj];by_cases e1:a=a'<;>by_cases e2:b=b'<;>simp[e1,e2]
structure BkG(d:DfM)(t:Tm)(x:Bk):Prop where
 i:∀ y,x=some y->y.1<d.ru.length/\y.2.length<=60/\∃ u,atT t y.2=some u
theorem aa6(x:Bk):nrR x []=[.int (bR x),.bool x.isSome,.sl ((bP x).map am)]:=by cases x<;>rfl
theorem aa7(x:Bk):nrS x=[.int (bR x),.bool x.isSome,.sl ((bP x).map am)]:=by cases x<;>rfl
theorem xc{d:DfM}{v:List ByteArray}{t:Tm}(hb:DfB d)(hw:Wt t)(hs:jn d v t=true){c:Int}(hc:isC v.length c=true):DfG d/\t.nodes<=60/\Gt d.op (bt v t c)/\(bt v t c).nodes<=60/\BkG d t (nx d (bt v t c)):=by
 have hwi:Wt (bt v t c):=qp hc▸Bl hw c;obtain⟨h1,h2,h3⟩:=Fy hb hwi (Bj hs hc);have htn:t.nodes<=60:=by
  simp only[jn,B8] at hs;exact az hs.2.2.2.2.1
 refine⟨h1,htn,h2,h3,⟨fun y hy=>?_⟩⟩
 obtain⟨u,r,w,q1,q2,_⟩:=uz d (bt v t c) y.1 y.2 hy;have q3:=jg y.2 _ u q1;exact⟨(E4.1 q2).1,by omega,Nr (vf v c) y.2 t u q1⟩
theorem Sx{α:Type}(l:List α)(a b:α):(l++[a]).set l.length b=l++[b]:=by
 rw[List.set_append_right _ _ (F2 _)];simp
theorem Lw{d:DfM}{t:Tm}{out:List (Bk×List Int)}(h:∀ b∈out,BkG d t b.1){x:Bk}(hx:BkG d t x){c:Int}:∀ b∈ou out x c,BkG d t b.1:=fun b hb=>by
 unfold ou at hb;split at hb
 ·split at hb
  ·rename_i q hq
   rcases K4 hb with hb |hb
   ·exact h b hb
   ·subst hb;exact h q (N1 hq)
  ·exact h b hb
 ·rcases D4.1 hb with hb |hb
  ·exact h b hb
  ·simp only[E7] at hb;subst hb;exact hx
end Go.Q
end
section
/- Branches: bounds of what is answered. -/
namespace Go.Q
open Go
theorem aa8{P:Int->Prop}{out:List (Bk×List Int)}(h:∀ b∈out,∀ c∈b.2,P c){x:Bk}{c:Int}(hc:P c):∀ b∈ou out x c,∀ c∈b.2,P c:=fun b hb=>by
 unfold ou at hb;split at hb
 ·split at hb
  ·rename_i q hq
   rcases K4 hb with hb |hb
   ·exact h b hb
   ·subst hb
    intro c' hc';rcases D4.1 hc' with hc' |hc'
    ·exact h q (N1 hq) c' hc'
    ·simp only[E7] at hc';subst hc';exact hc
  ·exact h b hb
 ·rcases D4.1 hb with hb |hb
  ·exact h b hb
  ·simp only[E7] at hb;subst hb
   intro c' hc';simp only[E7] at hc';subst hc';exact hc
theorem vg{d:DfM}(hb:DfB d){v:List ByteArray}{t:Tm}(hw:Wt t)(hs:jn d v t=true){P:Int->Prop}:∀ (l:List Int) (n:Nat) (out:List (Bk×List Int)),(∀ c∈l,isC v.length c=true/\P c)->BrB n out->(∀ b∈out,BkG d t b.1)->(∀ b∈out,∀ c∈b.2,P c) →
 BrB (n+l.length) (brF d v t l out)/\(∀ b∈brF d v t l out,BkG d t b.1)/\∀ b∈brF d v t l out,∀ c∈b.2,P c
 | [],n,out,_,h1,h2,h3=>⟨h1,h2,h3⟩
 |c::r,n,out,hc,h1,h2,h3=>by
  obtain⟨_,_,_,_,hx⟩:=xc hb hw hs (hc c (C5 ..)).1;have:=vg hb hw hs r (n+1) (ou out (nx d (bt v t c)) c) (fun c' h=>hc c' (C6 _ h)) (Lr h1 _ c) (Lw h2 hx) (aa8 h3 (hc c (C5 ..)).2)
  simp only[brF,C2];rwa[show n+(r.length+1)=n+1+r.length by omega]
end Go.Q
end
section
/- Symbolic terms stay symbolic along a step. -/
namespace Go.Q
open Go
theorem vh:∀ {l:List Bnd} {s:ByteArray} {w:Tm},bnd l s=some w->(s,w)∈l
 | [],s,w,h=>by simp[bnd] at h
 |b::l,s,w,h=>by
  simp only[bnd] at h;split at h
  ·rename_i e
   simp only[C9.injEq] at h;obtain⟨b1,b2⟩:=b;simp only at e h;subst e;subst h;exact C5 ..
  ·exact C6 _ (vh h)
theorem Bs:∀ {l:List Bnd} {s:ByteArray} {w:Tm},(s,w)∈l->∃ w',bnd l s=some w'
 | [],s,w,h=>by simp at h
 |b::l,s,w,h=>by
  simp only[bnd];by_cases e:b.1=s
  ·exact⟨b.2,H5 e⟩
  ·rw[H6 e]
   rcases D9.1 h with h |h
   ·exact absurd (by rw[<-h]) e
   ·exact Bs h
theorem Bt:∀ (as:List Tm) (p:List Int) (i:Nat) (q:List Int),q∈ot as p i↔∃ j,∃ h:j<as.length,q∈gn as[j] (p++[((i+j:Nat):Int)])
 | [],p,i,q=>by simp[ot]
 |a::r,p,i,q=>by
  simp only[ot,D4];rw[Bt r p (i+1) q];constructor
  ·rintro(h |⟨j,hj,h⟩)
   ·exact⟨0,by simp,by simpa using h⟩
   ·exact⟨j+1,by simpa using hj,by rw[show i+(j+1)=i+1+j by omega];simpa using h⟩
  ·rintro⟨j,hj,h⟩
   cases j with
   |zero=>exact .inl (by simpa using h)
   |succ j=>exact .inr ⟨j,by simpa using hj,by rw[show i+1+j=i+(j+1) by omega];simpa using h⟩
theorem Jp{t:Tm}{j:Nat}(h:j<t.as.length)(q:List Int):atT t ((j:Int)::q)=atT t.as[j] q:=by
 simp only[atT,B7,dif_pos h];rw[H5 (by omega)]
theorem Xv:∀ t:Tm,∀ p q,q∈gn t p->∃ q' a,q=p++q'/\atT t q'=some a:=Tm.ind fun t ih p q hq=>by
 rw[nd] at hq;rcases D9.1 hq with e |hq
 ·exact⟨[],t,by simp[e],rfl⟩
 ·obtain⟨j,hj,h⟩:=(Bt t.as p 0 q).1 hq
  obtain⟨q',a,e,h1⟩:=ih _ (C0 hj) _ q h;refine⟨(j:Int)::q',a,?_,by rw[Jp hj];exact h1⟩
  rw[e,Nat.zero_add];simp
theorem Ns:∀ (q:List Int) (t:Tm) (p:List Int) (a:Tm),atT t q=some a->p++q∈gn t p
 | [],t,p,a,_=>by rw[nd];simp
 |i::q,t,p,a,h=>by
  obtain⟨hi,h0,h1⟩:=cu h;rw[nd];refine C6 _ ((Bt t.as p 0 _).2 ⟨i.toNat,hi,?_⟩);have:=Ns q _ (p++[i]) a h1;rw[Nat.zero_add,show((i.toNat:Nat):Int)=i by omega]
  simpa using this
theorem Sy:∀ t:Tm,∀ s∈t.names,∃ q a,atT t q=some a/\a.k=1/\a.s=s:=Tm.ind fun t ih s hs=>by
 rw[Tm.names_eq] at hs;rcases D4.1 hs with h |h
 ·split at h
  ·rename_i hk
   simp only[E7] at h;exact⟨[],t,rfl,hk,h.symm⟩
  ·simp at h
 ·obtain⟨x,hx,hs⟩:=K3.1 h
  obtain⟨j,hj,e⟩:=T6 hx;obtain⟨q,a,h1,h2,h3⟩:=ih x hx s hs;exact⟨(j:Int)::q,a,by rw[Jp hj,e];exact h1,h2,h3⟩
theorem Bu:∀ (q:List Int) (t u:Tm),atT t q=some u->∀ s∈u.names,s∈t.names
 | [],t,u,h,s,hs=>by simp only[atT,C9.injEq] at h;subst h;exact hs
 |i::q,t,u,h,s,hs=>by
  obtain⟨hi,h0,h1⟩:=cu h;rw[Tm.names_eq];exact D4.2 (.inr (K3.2 ⟨_,C0 hi,Bu q _ u h1 s hs⟩))
theorem Ee{l u:Tm}{s:ByteArray}{w:Tm}(h:(s,w)∈jq l u):∃ q a,atT l q=some a/\a.k=1/\a.s=s/\w=atO u q:=by
 unfold jq at h;obtain⟨q,hq,h1⟩:=R8.1 h;obtain⟨q',a,e,ha⟩:=Xv l [] q hq;simp only[E2] at e;subst e;have e:atO l q=a:=by simp[atO,ha]
 unfold cB1 at h1;rw[e] at h1;split at h1
 ·rename_i hk
  simp only[C9.injEq,G9.injEq] at h1;exact⟨q,a,ha,hk,h1.1,h1.2.symm⟩
 ·simp at h1
theorem Bv{l u:Tm}{s:ByteArray}(h:s∈l.names):∃ w,bnd (jq l u) s=some w:=by
 obtain⟨q,a,h1,h2,h3⟩:=Sy l s h;have hq:=Ns q l [] a h1;simp only[E2] at hq;have e:atO l q=a:=by simp[atO,h1]
 refine Bs (w:=atO u q) (R8.2 ⟨q,hq,?_⟩);unfold cB1;rw[e,H5 h2,h3]
theorem aa9{k n:Int}{s:ByteArray}{as:List Tm}(h:(rW1 k n s as).k=2):k=2/\rW1 k n s as=.mk k n s as:=by
 unfold rW1 at h ⊢;split at h
 ·split at h
  ·exact absurd h (by show ¬(3:Int)=2;decide)
  ·rename_i hc;rw[H6 hc];exact⟨h,rfl⟩
 ·exact⟨h,rfl⟩
theorem Jq{σ:List Bnd}(hσ:∀ b∈σ,b.2.as=[]/\b.2.k=3){u:Tm}(hu:u.areN=true)(h:(rW (aS σ u)).k=2):u.k=2/\(rW (aS σ u)).s=u.s/\(rW (aS σ u)).as=u.as.map fun a=>rW (aS σ a):=by
 rw[ez] at h ⊢;obtain⟨h1,h2⟩:=aa9 h;rw[h2];have hk:u.k=2:=by
  rcases ce hu with ⟨q,_⟩|⟨q,_,_⟩ |q
  ·rw[eo,H5 q] at h1
   cases hb:bnd σ u.s with
   |some w =>
    rw[hb] at h1;obtain⟨b,hbm,rfl⟩:=eh hb;have:=(hσ b hbm).2;simp only at h1;omega
   |none=>rw[hb] at h1;simp only[Tm.k_mk] at h1;omega
  ·rw[eo,H6 (by omega)] at h1;simp only[Tm.k_mk] at h1;omega
  ·exact q
 have e:aS σ u=.mk u.k u.n u.s (u.as.map (aS σ)):=by rw[eo,H6 (by omega)]
 refine⟨hk,?_,?_⟩
 ·rw[e];rfl
 ·rw[e,Tm.as_mk,Tm.as_mk,K2];rfl
theorem vi{l:List Bnd}(hl:∀ b∈l,b.2.as=[]):∀ (p:List Int) (t u:Tm),atT (rW (aS l t)) p=some u->∃ v,atT t p=some v/\u=rW (aS l v)
 | [],t,u,h=>by simp only[atT,C9.injEq] at h;exact⟨t,rfl,h.symm⟩
 |i::p,t,u,h=>by
  obtain⟨hi,h0,h1⟩:=cu h;obtain⟨hi2,e2⟩:=Zg hi;have key:∃ hi3:i.toNat<t.as.length,(aS l t).as[i.toNat]=aS l t.as[i.toNat]:=by
   have hc:(aS l t).as=[]\/(aS l t).as=t.as.map (aS l):=by
    rw[eo];split
    ·rename_i v hv
     split at hv
     ·obtain⟨b,hb,rfl⟩:=eh hv;exact .inl (hl b hb)
     ·simp at hv
    ·exact .inr rfl
   rcases hc with e |e
   ·rw[e] at hi2;simp at hi2
   ·have hi3:i.toNat<t.as.length:=by rw[e] at hi2;simpa using hi2
    exact⟨hi3,by simp only[e,O2]⟩
  obtain⟨hi3,e3⟩:=key;rw[e2,e3] at h1;obtain⟨v,hv,e⟩:=vi hl p _ u h1;exact⟨v,by simp only[atT,dif_pos hi3,H5 h0];exact hv,e⟩
def Xw(vs vs':List VS):Prop:=∀ s y,fq vs s=some y->fq vs' s=some y
theorem Bw(ops:List OpM):∀ (l:List Tm),(∀ t∈l,∀ x vs vs',ik ops t x vs=some vs'->Xw vs vs')->∀ xs vs vs',fk ops l xs vs=some vs'->Xw vs vs'
 | [],_,xs,vs,vs',h=>by simp only[fk,C9.injEq] at h;subst h;exact fun _ _ h=>h
 |t::l,ih,xs,vs,vs',h=>by
  have step:∀ x ys v,ik ops t x vs=some v->fk ops l ys v=some vs'->Xw vs vs':=fun x ys v hq h=>by
   have h1:=ih t (C5 ..) x vs v hq;have h2:=Bw ops l (fun a ha=>ih a (C6 _ ha)) ys v vs' h
   exact fun s y hy=>h2 s y (h1 s y hy)
  cases xs with
  |nil =>
   simp only[fk] at h;cases hq:ik ops t e0 vs with
   |none=>rw[hq] at h;simp at h
   |some v=>rw[hq] at h;exact step _ _ _ hq h
  |cons x ys =>
   simp only[fk] at h;cases hq:ik ops t x vs with
   |none=>rw[hq] at h;simp at h
   |some v=>rw[hq] at h;exact step _ _ _ hq h
theorem Sz(ops:List OpM):∀ t:Tm,∀ x vs vs',ik ops t x vs=some vs'->Xw vs vs':=Tm.ind fun t ih x vs vs' h=>by
 rw[la] at h;split at h
 ·split at h
  ·split at h
   ·simp only[C9.injEq] at h;subst h;exact fun _ _ h=>h
   ·simp at h
  ·simp only[C9.injEq] at h;subst h
   intro s y hy;rw[wx,hy]
 ·exact Bw ops t.as ih _ _ _ h
theorem Ta(ops:List OpM)(wvs:List VS){σ:List Bnd}(hσ:∀ b∈σ,b.2.as=[]/\b.2.k=3):∀ l:Tm,l.areN=true->∀ u x vs vs' acc acc',u.areN=true->ax ops wvs u=x->x≠e0->ik ops l x vs=some vs'->mT l (rW (aS σ u)) acc=some acc' →
 ∀ q a,atT l q=some a->a.k=1->∃ w y,atT u q=some w/\fq vs' a.s=some y/\ax ops wvs w=y.2:=Tm.ind fun l ih hn u x vs vs' acc acc' hun hu hx hi hm q a ha hk=>by
 rcases ce hn with ⟨h1,has⟩|⟨h3,_,has⟩ |h2
 ·cases q with
  |cons i q=>obtain⟨hlt,_,_⟩:=cu ha;rw[has] at hlt;simp at hlt
  |nil =>
   simp only[atT,C9.injEq] at ha;subst ha;rw[la,H5 h1] at hi;cases hv:fq vs l.s with
   |some y =>
    have hv':=hv;unfold fq at hv;rw[hv] at hi;simp only at hi;split at hi
    ·rename_i e
     simp only[C9.injEq] at hi;subst hi;exact⟨u,y,rfl,hv',by rw[hu];exact e.symm⟩
    ·simp at hi
   |none =>
    have hv':=hv;unfold fq at hv;rw[hv] at hi;simp only[C9.injEq] at hi;subst hi;exact⟨u,(l.s,x),rfl,by rw[wx,hv'];simp,hu⟩
 ·cases q with
  |cons i q=>obtain⟨hlt,_,_⟩:=cu ha;rw[has] at hlt;simp at hlt
  |nil=>simp only[atT,C9.injEq] at ha;subst ha;omega
 ·cases q with
  |nil=>simp only[atT,C9.injEq] at ha;subst ha;omega
  |cons i q =>
   rcases fo hm with ⟨e,_⟩|⟨e,_⟩|⟨_,e1,_,e3,e4,hms⟩
   ·omega
   ·omega
   obtain⟨b1,b2,b3⟩:=Jq hσ hun (by omega)
   obtain⟨o,hf,hl,hss,_⟩:=jj (t:=u) b1 (by rw[hu];exact hx)
   rw[la,H6 (by omega),H5 h2,e3,b2,hf] at hi
   simp only at hi;rw[b3] at hms e4;rw[B6] at e4;obtain⟨hlt,h0,h1⟩:=cu ha;have key:∀ (ts us:List Tm) (xs:List ByteArray) (vs:List VS) (acc:List Bnd),(∀ t∈ts,t∈l.as)->(∀ t∈us,t∈u.as)->us.length<=xs.length->bn ops wvs us xs=true->fk ops ts xs vs=some vs'->mTs ts (us.map fun a=>rW (aS σ a)) acc=some acc' →
    ∀ j (hj:j<ts.length) (hj':j<us.length),atT ts[j] q=some a->∃ w y,atT us[j] q=some w/\fq vs' a.s=some y/\ax ops wvs w=y.2:=by
    intro ts;induction ts with
    |nil=>intro us xs vs acc _ _ _ _ _ _ j hj;simp at hj
    |cons t ts ihs =>
     intro us xs vs acc hts hus hlen hs hi hm j hj hj' hat;cases us with
     |nil=>simp at hj'
     |cons u1 us =>
      cases xs with
      |nil=>simp at hlen
      |cons y xs =>
       simp only[bn,B8,E8,decide_eq_false_iff_not,decide_eq_true_eq] at hs;simp only[fk] at hi;simp only[C4,mTs] at hm;cases hi1:ik ops t y vs with
       |none=>rw[hi1] at hi;simp at hi
       |some vs1 =>
        rw[hi1] at hi;cases hm1:mT t (rW (aS σ u1)) acc with
        |none=>rw[hm1] at hm;simp at hm
        |some acc1 =>
         rw[hm1] at hm;simp only at hi hm;cases j with
         |zero =>
          obtain⟨w,z,k1,k2,k3⟩:=ih t (hts t (C5 ..)) (cr hn (hts t (C5 ..))) u1 y vs vs1 acc acc1 (cr hun (hus u1 (C5 ..))) hs.1.2 (by rw[<-hs.1.2];exact hs.1.1) hi1 hm1 q a hat hk
          exact⟨w,z,k1,Bw ops ts (fun t _=>Sz ops t) xs vs1 vs' hi _ _ k2,k3⟩
         |succ j =>
          exact ihs us xs vs1 acc1 (fun t ht=>hts t (C6 _ ht)) (fun t ht=>hus t (C6 _ ht)) (by simpa using hlen) hs.2 hi hm j (by simpa using hj) (by simpa using hj') hat
   have hlt':i.toNat<u.as.length:=by omega
   obtain⟨w,y,k1,k2,k3⟩:=key l.as u.as o.a vs acc (fun _ h=>h) (fun _ h=>h) (by omega) hss hi hms i.toNat hlt hlt' h1
   exact⟨w,y,by simp only[atT,dif_pos hlt',H5 h0];exact k1,k2,k3⟩
theorem Tb{ops:List OpM}{vs vs1:List VS}{l:List Bnd}:∀ t:Tm,t.areN=true->ax ops vs t≠e0->(∀ s∈t.names,∃ w,bnd l s=some w/\∀ y,fq vs s=some y->ax ops vs1 w=y.2)->ax ops vs1 (aS l t)=ax ops vs t:=Tm.ind fun t ih hn hs hA=>by
 rw[Tm.names_eq] at hA;rcases ce hn with ⟨h1,ha⟩|⟨h3,_,ha⟩ |h2
 ·have e:ax ops vs t=re vs t.s:=by rw[cq,H6 (by omega),H5 h1]
  rw[e] at hs ⊢;rw[Jc] at hs ⊢;cases hv:fq vs t.s with
  |none=>rw[hv] at hs;exact absurd rfl hs
  |some v =>
   obtain⟨w,hb,hw⟩:=hA t.s (by simp[h1])
   rw[eo,H5 h1,hb];exact hw v hv
 ·rw[eo,H6 (by omega)]
  rw[cq,cq ops vs,H5 (show(Tm.mk t.k t.n t.s _).k=3 from h3),H5 h3]
 ·obtain⟨o,hf,hl,hss,e⟩:=jj h2 hs
  rw[eo,H6 (by omega),e]
  have key:∀ (ts:List Tm) (xs:List ByteArray),(∀ a∈ts,a∈t.as)->bn ops vs ts xs=true->bn ops vs1 (ts.map (aS l)) xs=true:=by
   intro ts;induction ts with
   |nil=>intro xs _ _;rfl
   |cons a ts ihs =>
    intro xs hts h;cases xs with
    |nil=>rfl
    |cons y xs =>
     simp only[bn,B8,E8,decide_eq_false_iff_not,decide_eq_true_eq] at h;have hm:=hts a (C5 ..);have q:=ih a hm (cr hn hm) h.1.1 fun s hs=>hA s (D4.2 (.inr (K3.2 ⟨a,hm,hs⟩)))
     simp only[C4,bn,B8,E8,decide_eq_false_iff_not,decide_eq_true_eq,q];exact⟨h.1,ihs xs (fun z hz=>hts z (C6 _ hz)) h.2⟩
  exact kq (t:=.mk t.k t.n t.s (t.as.map (aS l))) h2 hf (by simpa[Tm.as] using hl) (key _ _ (fun _ h=>h) hss)
theorem Gf{ops:List OpM}{vs:List VS}:∀ (p:List Int) (t u:Tm),t.areN=true->ax ops vs t≠e0->atT t p=some u->u.areN=true/\ax ops vs u≠e0
 | [],t,u,hn,hs,h=>by simp only[atT,C9.injEq] at h;subst h;exact⟨hn,hs⟩
 |i::p,t,u,hn,hs,h=>by
  obtain⟨hi,h0,h1⟩:=cu h;have h2:t.k=2:=by
   rcases ce hn with ⟨_,q⟩|⟨_,_,q⟩ |h2
   ·rw[q] at hi;simp at hi
   ·rw[q] at hi;simp at hi
   ·exact h2
  obtain⟨o,hf,hl,hss,e⟩:=jj h2 hs;exact Gf p _ u (cr hn (C0 hi)) (mi ops vs t.as o.a (by omega) hss _ (C0 hi)) h1
theorem Jr{ops:List OpM}{vs:List VS}{w:Tm}(hw:w.areN=true):∀ (p:List Int) (t u:Tm),t.areN=true->ax ops vs t≠e0->atT t p=some u->ax ops vs w=ax ops vs u->(co t p w).areN=true/\ax ops vs (co t p w)=ax ops vs t
 | [],t,u,hn,hs,h,he=>by simp only[atT,C9.injEq] at h;subst h;exact⟨hw,he⟩
 |i::p,t,u,hn,hs,h,he=>by
  obtain⟨hi,h0,h1⟩:=cu h;have h2:t.k=2:=by
   rcases ce hn with ⟨_,q⟩|⟨_,_,q⟩ |h2
   ·rw[q] at hi;simp at hi
   ·rw[q] at hi;simp at hi
   ·exact h2
  obtain⟨o,hf,hl,hss,e⟩:=jj h2 hs;have hm:=C0 hi;obtain⟨g1,g2⟩:=Jr hw p _ u (cr hn hm) (mi ops vs t.as o.a (by omega) hss _ hm) h1 he
  simp only[co,dif_pos hi];refine⟨zh hn (by simp) fun a ha=>?_,?_⟩
  ·rcases K4 ha with q |q
   ·exact cr hn q
   ·exact q▸g1
  ·rw[e]
   refine kq (t:=.mk t.k t.n t.s _) h2 hf (by rw[Tm.as_mk,K0];exact hl) ?_
   rw[Tm.as_mk,sj t.as o.a i.toNat hi _ g2];exact hss
theorem Tc{l:List Bnd}:∀ t:Tm,∀ s∈(aS l t).names,(s∈t.names/\bnd l s=none)\/∃ b∈l,s∈b.2.names:=Tm.ind fun t ih s hs=>by
 rw[eo] at hs;by_cases hk:t.k=1
 ·rw[H5 hk] at hs
  cases hb:bnd l t.s with
  |some v =>
   rw[hb] at hs;obtain⟨b,h1,rfl⟩:=eh hb;exact .inr ⟨b,h1,hs⟩
  |none =>
   rw[hb] at hs;simp only at hs;rw[Tm.names_eq,Tm.k_mk,H5 hk] at hs;rcases D4.1 hs with h |h
   ·simp only[E7] at h
    have h:s=t.s:=h;exact .inl ⟨by rw[Tm.names_eq,H5 hk];simp[h],by rw[h];exact hb⟩
   ·obtain⟨x,hx,hs⟩:=K3.1 h
    obtain⟨a,ha,rfl⟩:=F8.1 hx;rcases ih a ha s hs with ⟨q1,q2⟩ |q
    ·exact .inl ⟨by rw[Tm.names_eq];exact D4.2 (.inr (K3.2 ⟨a,ha,q1⟩)),q2⟩
    ·exact .inr q
 ·rw[H6 hk] at hs
  simp only at hs;rw[Tm.names_eq,Tm.k_mk,H6 hk,E2] at hs;obtain⟨x,hx,hs⟩:=K3.1 hs;obtain⟨a,ha,rfl⟩:=F8.1 hx;rcases ih a ha s hs with ⟨q1,q2⟩ |q
  ·exact .inl ⟨by rw[Tm.names_eq];exact D4.2 (.inr (K3.2 ⟨a,ha,q1⟩)),q2⟩
  ·exact .inr q
theorem Ef{w:Tm}:∀ (p:List Int) (t:Tm),∀ s∈(co t p w).names,s∈t.names\/s∈w.names
 | [],t,s,hs=>.inr hs
 |i::p,t,s,hs=>by
  simp only[co] at hs;split at hs
  ·rename_i hi
   rw[Tm.names_eq,Tm.k_mk,Tm.as_mk] at hs;rw[Tm.names_eq];rcases D4.1 hs with h |h
   ·exact .inl (D4.2 (.inl h))
   ·obtain⟨x,hx,hs⟩:=K3.1 h
    rcases K4 hx with q |q
    ·exact .inl (D4.2 (.inr (K3.2 ⟨x,q,hs⟩)))
    ·subst q
     rcases Ef p _ s hs with q |q
     ·exact .inl (D4.2 (.inr (K3.2 ⟨_,C0 hi,q⟩)))
     ·exact .inr q
  ·exact .inl hs
theorem Nt{vars:List ByteArray}{c:Int}:∀ b∈bi vars c,b.2.as=[]/\b.2.k=3:=fun b hb=>by
 unfold bi at hb;simp only[F8] at hb;obtain⟨p,_,rfl⟩:=hb;exact⟨rfl,rfl⟩
theorem By{ops:List OpM}{r:RuM}(h:js ops r=true):∀ s∈r.r.names,s∈r.l.names:=by
 unfold js at h;simp only[B8,decide_eq_true_eq] at h;obtain⟨_,_,_,_,_,h4⟩:=h;cases hf:dv ops r.l.s with
 |none=>rw[hf] at h4;simp at h4
 |some o =>
  rw[hf] at h4;simp only at h4;cases hi:pw ops r.l o.r with
  |none=>rw[hi] at h4;simp at h4
  |some vs =>
   rw[hi] at h4;simp only[B8] at h4;exact gg.1 h4.2.1
theorem Td{d:DfM}{v:List ByteArray}{t:Tm}(hb:DfB d)(hw:Wt t)(hs:jn d v t=true){c:Int}(hc:isC v.length c=true){x:Nat×List Int}(hx:nx d (bt v t c)=some x)(hv:(da d t x).valid=true):jn d v (da d t x)=true:=by
 obtain⟨hd,htn,hg,hgn,_⟩:=xc hb hw hs hc;have hs':=hs;simp only[jn,B8,E8,decide_eq_false_iff_not] at hs' ⊢;obtain⟨s1,s2,s3,s4,s5,s6,s7⟩:=hs';refine⟨s1,s2,s3,s4,hv,?_⟩;have hna:=cm s5;obtain⟨u',r,w',q1,q2,q3⟩:=uz d (bt v t c) x.1 x.2 hx;obtain⟨u,hu,rfl⟩:=vi (vf v c) x.2 t u' q1;obtain⟨hun,hus⟩:=Gf x.2 t u hna s7 hu;have hr:=hd.ru (N1 q2);have hrw:∀ s∈r.r.names,s∈r.l.names:=by
  have:=hd.v;simp only[DfM.valid,B8,E3] at this;exact By (this.2.2.2.1 r (N1 q2))
 unfold gh at q3;cases hm:mT r.l (rW (aS (bi v c) u)) [] with
 |none=>rw[hm] at q3;simp at q3
 |some l' =>
 obtain⟨o,vs,hf,hi,hso⟩:=hr.inf;have hk:(rW (aS (bi v c) u)).k=2/\(rW (aS (bi v c) u)).s=r.l.s:=by
  rcases fo hm with ⟨q,_⟩|⟨q,_⟩|⟨_,q1,_,q2,_⟩
  ·have:=hr.lk;omega
  ·have:=hr.lk;omega
  ·exact⟨by rw[<-q1];exact hr.lk,q2.symm⟩
 obtain⟨b1,b2,b3⟩:=Jq Nt hun hk.1;obtain⟨o',hf',hl',hss',he'⟩:=jj b1 hus;rw[<-b2,hk.2,hf] at hf';simp only[C9.injEq] at hf';subst hf';have hne:o.r≠e0:=he'▸hus;have hP:=Ta d.op (wv v) Nt r.l (cm hr.lv) u o.r [] vs [] l' hun he' hne (ut hi) hm
 -- bindings
 have hB:∀ b∈jq r.l (atO t x.2),∃ q a y,atT r.l q=some a/\a.k=1/\a.s=b.1/\atT u q=some b.2/\fq vs b.1=some y/\ax d.op (wv v) b.2=y.2:=fun b hb'=>by
  obtain⟨s,w⟩:=b;obtain⟨q,a,k1,k2,k3,k4⟩:=Ee hb';have eu:atO t x.2=u:=by simp[atO,hu]
  obtain⟨w2,y,m1,m2,m3⟩:=hP q a k1 k2;have ew:w=w2:=by rw[k4,eu];simp[atO,m1]
  subst ew;exact⟨q,a,y,k1,k2,k3,m1,by rw[<-k3];exact m2,m3⟩
 have hBn:∀ b∈jq r.l (atO t x.2),b.2.areN=true:=fun b hb'=>by
  obtain⟨q,a,y,_,_,_,m1,_⟩:=hB b hb';exact(Gf q u b.2 hun hus m1).1
 have hBw:∀ b∈jq r.l (atO t x.2),∀ s∈b.2.names,s∈t.names:=fun b hb' s hs=>by
  obtain⟨q,a,y,_,_,_,m1,_⟩:=hB b hb';exact Bu x.2 t u hu s (Bu q u b.2 m1 s hs)
 have hrn:=Fv hBn r.r (cm hr.rv);have hrs:ax d.op (wv v) (aS (jq r.l (atO t x.2)) r.r)=o.r:=by
  rw[<-hso];refine Tb r.r (cm hr.rv) (by rw[hso];exact hne) fun s hs=>?_
  obtain⟨w,hbw⟩:=Bv (u:=atO t x.2) (hrw s hs);refine⟨w,hbw,fun y hy=>?_⟩
  obtain⟨q,a,y',_,_,_,_,m2,m3⟩:=hB _ (vh hbw);rw[hy] at m2;simp only[C9.injEq] at m2;rw[m2];exact m3
 obtain⟨p1,p2⟩:=Jr hrn x.2 t u hna s7 hu (by rw[hrs,he'])
 have ec:da d t x=rW (co t x.2 (aS (jq r.l (atO t x.2)) r.r)):=by
  unfold da;rw[q2]
 rw[ec];refine⟨gg.2 fun s hs=>?_,by rw[Fu d.op (wv v) _ p1 (by rw[p2];exact s7),p2];exact s7⟩
 rw[Aw] at hs;refine gg.1 s6 s ?_;rcases Ef x.2 t s hs with h |h
 ·exact h
 ·rcases Tc r.r s h with ⟨h1,h2⟩|⟨b,h1,h2⟩
  ·obtain⟨w,hbw⟩:=Bv (u:=atO t x.2) (hrw s h1)
   rw[hbw] at h2;simp at h2
  ·exact hBw b h1 s h2
end Go.Q
end
section
/- Proofs of claims. -/
namespace Go.Q
open Go
def cn(c:ClM):List D:=[.sl (c.v.map ag),.int c.l.k,.int c.l.n,.str c.l.s,.sl (c.l.as.map Tm.row),.int c.r.k,.int c.r.n,.str c.r.s,.sl (c.r.as.map Tm.row),.sl (c.g.map Gu.row)]
structure PnM where
 k:Int
 nx:List Int
 c:Int
 s:List Bnd
def PnM.row(n:PnM):List D:=[.int n.k,.sl (n.nx.map am),.int n.c,.sl (n.s.map Bnd.row)]
structure PnB(n:PnM):Prop where
 nx:n.nx.length<=1048576
 s:n.s.length<=1048576
 b:∀ b∈n.s,aw b.2
noncomputable def opC(g:ClM)(t:Tm)(cl:List Int):List Int:=cl.filter fun k=>!eqb (S.instR g.v t k).row (S.instR g.v g.r k).row
noncomputable def xd(c:ClM)(sub:List Bnd)(g:ClM)(t:Tm)(k:Int):Bool :=
 (fw g.v k c.v sub).2&&((c.g.all fun q=>holds (dp (bi c.v (fw g.v k c.v sub).1) q))&&(eqb (S.instR c.v c.l (fw g.v k c.v sub).1).row (S.instR g.v t k).row&&eqb (S.instR c.v c.r (fw g.v k c.v sub).1).row (S.instR g.v g.r k).row))
def qa(cs:List ClM)(i:Int):Option ClM:=if 0<=i then cs[i.toNat]? else none
noncomputable def rgt(d:DfM)(cs:List ClM)(g:ClM)(ns:List PnM):Nat->Int->Tm->List Int->Bool->Bool
 |0,_,_,_,_=>false
 |f+1,n,t,cl,st=>if n<0 then false else match ns[n.toNat]? with
  |none=>false
  |some x=>if x.k=1 then decide ((opC g t cl).length=0) else if x.k=2 then decide ((brF d g.v t (opC g t cl) []).length=x.nx.length)&&(((brF d g.v t (opC g t cl) []).zip x.nx).all fun p=>decide (bK d t p.1.1=2)&&(!decide (p.2<=n)&&rgt d cs g ns f p.2 (bT d t p.1.1) p.1.2 true))
   else if x.k=3 then st&&(match qa cs x.c with |some c=>(opC g t cl).all (xd c x.s g t) |none=>false) else false
noncomputable def er(cs:List ClM):Bool:=cs.all ClM.valid
noncomputable def xe(cs:List ClM)(k:Int):Option ClM:=if cs.length<=3/\er cs=true then qa cs k else none
noncomputable def Bz(d:DfM)(cs:List ClM)(k:Int)(ns:List PnM):Bool:=match xe cs k with
 |some g=>decide (ns.length<=60)&&rgt d cs g ns ns.length 0 g.l ((gf g.v g.g).map fun (i:Nat)=>(i:Int)) false
 |none=>false
theorem Js(vars:List ByteArray)(c:Int)(l:List Bnd):∀ (xs:List ByteArray) (out r B:Int),0<=out->out<B->B*4 ^ xs.length<=64->mh (gj vars c l) xs out=some r->0<=r/\r<B*4 ^ xs.length
 | [],out,r,B,h0,h1,h2,h=>by simp only[mh,C9.injEq] at h;subst h;simp;omega
 |x::xs,out,r,B,h0,h1,h2,h=>by
  simp only[mh] at h;cases hs:gj vars c l x out with
  |none=>rw[hs] at h;simp at h
  |some o =>
   rw[hs] at h;simp only at h;unfold gj at hs;cases hb:bnd l x with
   |none=>rw[hb] at hs;simp at hs
   |some t =>
    rw[hb] at hs;simp only at hs;split at hs
    ·rename_i hw
     simp only[isW,B8,decide_eq_true_eq] at hw;obtain⟨_,w1,w2,_⟩:=hw;simp only[C9.injEq] at hs;have hp:(1:Int)<=4 ^ xs.length:=Int.pow_pos (by decide)
     have e4:B*4 ^ (x::xs).length=4*B*4 ^ xs.length:=by rw[C2,Int.pow_succ,Int.mul_comm 4 B,Int.mul_assoc,Int.mul_comm (4 ^ xs.length) 4]
     have hB:4*B<=64:=by
      have:4*B*1<=4*B*4 ^ xs.length:=Int.mul_le_mul_of_nonneg_left hp (by omega)
      omega
     have e1:IntKind.i64.wrap (4*out)=4*out:=IntWalk.i64_in _ (by omega)
     have e2:IntKind.i64.wrap (4*out+(bt vars t c).n)=4*out+(bt vars t c).n:=IntWalk.i64_in _ (by omega)
     rw[e1,e2] at hs;have:=Js vars c l xs o r (4*B) (by omega) (by omega) (by rw[<-e4];exact h2) h
     rw[e4];exact this
    ·simp at hs
theorem Gg{vars:List ByteArray}{c:Int}{tv:List ByteArray}{l:List Bnd}(h:(fw vars c tv l).2=true):isC tv.length (fw vars c tv l).1=true:=by
 unfold fw at h ⊢;split at h
 ·rename_i hc
  rw[H5 hc];cases ho:mh (gj vars c l) tv 0 with
  |none=>rw[ho] at h;simp at h
  |some r =>
   simp only;have hn:tv.length=0\/tv.length=1\/tv.length=2\/tv.length=3:=by have:=hc.2;omega
   have h64:(1:Int)*4 ^ tv.length<=64:=by rcases hn with e |e |e |e<;>rw[e]<;>decide
   obtain⟨k1,k2⟩:=Js vars c l tv 0 r 1 (by decide) (by decide) h64 ho
   simp only[isC,gt,B8,decide_eq_true_eq,H5 hc.2];rw[Int.one_mul] at k2;exact⟨k1,k2⟩
 ·simp at h
theorem Jt{vars:List ByteArray}{gs:List Gu}{n:Int}(h:isC vars.length n=true):Ge ((gf vars gs).map fun (i:Nat)=>(i:Int)) n=gs.all fun q=>holds (dp (bi vars n) q):=by
 obtain⟨h1,h2,h3⟩:=lg h;obtain⟨m,rfl⟩:∃ m:Nat,n=(m:Int):=⟨n.toNat,by omega⟩
 have hm:m<(gt vars.length).toNat:=by
  simp only[isC,B8,decide_eq_true_eq] at h;omega
 rw[Bool.eq_iff_iff];simp only[Ge,List.any_map,Q4,Function.comp,decide_eq_true_eq];constructor
 ·rintro⟨i,hi,e⟩
  have:i=m:=by omega
  subst this;unfold gf at hi;exact(P1.1 hi).2
 ·intro hg
  refine⟨m,?_,rfl⟩;unfold gf;exact P1.2 ⟨List.mem_range.2 hm,hg⟩
theorem qs(l:List Nat):l.map S.nRow=(l.map fun (i:Nat)=>(i:Int)).map am:=by rw[K2];rfl
theorem Pr{n:Nat}{c:Int}:∀ (r:List Int) (p:Option Int),(∀ q,p=some q->q<=c)->kt n (some c) r=true->kt n p r=true
 | [],_,_,_=>rfl
 |x::r,p,hp,h=>by
  simp only[kt,B8,E8,decide_eq_false_iff_not] at h ⊢;refine⟨h.1,?_,h.2.2⟩;cases p with
  |none=>rfl
  |some q=>simp only[E8,decide_eq_false_iff_not];have:=hp q rfl;omega
theorem Ps{n:Nat}{p:Option Int}{c:Int}{r:List Int}(h:kt n p (c::r)=true):kt n p r=true:=by
 simp only[kt,B8] at h;refine Pr r p (fun q hq=>?_) h.2.2
 subst hq;have:=h.2.1;simp only[E8,decide_eq_false_iff_not] at this;omega
theorem Ca{n:Nat}{l cl:List Int}(h:l.Sublist cl):∀ p,kt n p cl=true->kt n p l=true:=by
 induction h with
 |slnil=>intro p h;exact h
 |cons a _ ih=>intro p h;exact ih p (Ps h)
 |cons_cons a _ ih =>
  intro p h;simp only[kt,B8] at h ⊢;exact⟨h.1,h.2.1,ih _ h.2.2⟩
def pvI:Option Int->Int
 |some q=>if 0<=q then q+1 else 0
 |none=>0
theorem Ju{n:Nat}:∀ (cl:List Int) (p:Option Int),kt n p cl=true->(cl.length:Int)<=64-pvI p\/cl=[]
 | [],p,_=>.inr rfl
 |c::r,p,h=>by
  simp only[kt,B8] at h;have hc:=lg h.1;left;have h1:=Ju r (some c) h.2.2;have hpc:pvI p<=c:=by
   cases p with
   |none=>exact hc.2.1
   |some q =>
    have:=h.2.1;simp only[E8,decide_eq_false_iff_not] at this;show(if 0<=q then q+1 else 0)<=c
    split<;>omega
  simp only[C2];rcases h1 with h1 |h1
  ·have e:pvI (some c)=c+1:=by show(if 0<=c then c+1 else 0)=c+1;rw[H5 hc.2.1]
   rw[e] at h1;omega
  ·subst h1;simp only[C8];omega
theorem Nu{d:DfM}{v:List ByteArray}{t:Tm}:∀ (l P:List Int) (out:List (Bk×List Int)),(∀ b∈out,b.2.Sublist P/\∃ c∈P,nx d (bt v t c)=b.1)->∀ b∈brF d v t l out,b.2.Sublist (P++l)/\∃ c∈P++l,nx d (bt v t c)=b.1
 | [],P,out,h=>by simpa only[brF,J0] using h
 |c::r,P,out,h=>by
  have h1:∀ b∈ou out (nx d (bt v t c)) c,b.2.Sublist (P++[c])/\∃ c'∈P++[c],nx d (bt v t c')=b.1:=fun b hb=>by
   have old:∀ b∈out,b.2.Sublist (P++[c])/\∃ c'∈P++[c],nx d (bt v t c')=b.1:=fun b hb=>by
    obtain⟨k1,c',k2,k3⟩:=h b hb;exact⟨k1.trans (List.sublist_append_left ..),c',D4.2 (.inl k2),k3⟩
   unfold ou at hb;split at hb
   ·split at hb
    ·rename_i q hq
     rcases K4 hb with hb |hb
     ·exact old b hb
     ·subst hb
      obtain⟨k1,c',k2,k3⟩:=h q (N1 hq);exact⟨List.Sublist.append k1 (List.Sublist.refl _),c',D4.2 (.inl k2),k3⟩
    ·exact old b hb
   ·rcases D4.1 hb with hb |hb
    ·exact old b hb
    ·simp only[E7] at hb;subst hb
     exact⟨List.sublist_append_right ..,c,by simp,rfl⟩
  have:=Nu r (P++[c]) _ h1;simpa only[brF,E5,F9,E2] using this
structure StG(d:DfM)(v:List ByteArray)(t:Tm)(cl:List Int):Prop where
 w:Wt t
 s:jn d v t=true
 c:kt v.length none cl=true
theorem StG.n{d:DfM}{v:List ByteArray}{t:Tm}{cl:List Int}(h:StG d v t cl):t.nodes<=60:=by
 have:=h.s;simp only[jn,B8] at this;exact az this.2.2.2.2.1
theorem StG.l{d:DfM}{v:List ByteArray}{t:Tm}{cl:List Int}(h:StG d v t cl):cl.length<=64:=by
 rcases Ju cl none h.c with k |k
 ·simp only[pvI] at k;omega
 ·subst k;simp
theorem StG.op{d:DfM}{v:List ByteArray}{t:Tm}{cl:List Int}(h:StG d v t cl){l:List Int}(hl:l.Sublist cl):StG d v t l:=⟨h.w,h.s,Ca hl none h.c⟩
theorem StG.next{d:DfM}(hb:DfB d){v:List ByteArray}{t:Tm}{cl:List Int}(h:StG d v t cl){b:Bk×List Int}(hm:b∈brF d v t cl [])(hk:bK d t b.1=2):StG d v (bT d t b.1) b.2:=by
 obtain⟨h1,c,h2,h3⟩:=Nu (d:=d) (v:=v) (t:=t) cl [] [] (by simp) b hm
 simp only[E2] at h1 h2;have hc:=cz cl none h.c c h2;obtain⟨bk,bl⟩:=b;simp only at h3 hk h1 ⊢;cases bk with
 |none=>exact absurd hk (by show ¬(1:Int)=2;decide)
 |some y =>
  have hv:(da d t y).valid=true:=by
   cases hq:(da d t y).valid with
   |true=>rfl
   |false =>
    have:bK d t (some y)=3:=by show(if (da d t y).valid=true then (2:Int) else 3)=3;rw[hq];rfl
    omega
  have e:bT d t (some y)=da d t y:=by show(if (da d t y).valid=true then da d t y else tm0)=_;rw[H5 hv]
  rw[e];obtain⟨hd,_,_,_,hx⟩:=xc hb h.w h.s hc;rw[h3] at hx;exact⟨(Ls hd h.w h.n (hx.i y rfl).2.1).1,Td hb h.w h.s hc h3 hv,Ca h1 none h.c⟩
end Go.Q
namespace Go.Q.S
open Go Go.Q
end Go.Q.S
end
section
/- Starts of claims;rows of claims. -/
namespace Go.Q
open Go
def ze{α:Type}(p:α->Int->Bool):List α->List Int->Bool
 | [],_=>true
 |_::_,[]=>false
 |b::l,m::n=>p b m&&ze p l n
theorem Cb{α:Type}(p:α->Int->Bool):∀ (l:List α) (n:List Int),l.length=n.length->ze p l n=(l.zip n).all fun q=>p q.1 q.2
 | [],n,_=>by simp[ze]
 |_::_,[],h=>by simp at h
 |b::l,m::n,h=>by simp only[ze,U1,J3,Cb p l n (by simpa using h)]
theorem Jv(n:Nat):∀ (k a:Nat) (p:Option Int),(∀ i,a<=i->i<a+k->isC n (i:Int)=true)->(∀ q,p=some q->q<(a:Int))->kt n p ((List.range' a k).map fun (i:Nat)=>(i:Int))=true
 |0,_,_,_,_=>rfl
 |k+1,a,p,h,hp=>by
  simp only[List.range'_succ,C4,kt,B8];refine⟨h a (F2 _) (by omega),?_,Jv n k (a+1) _ (fun i h1 h2=>h i (by omega) (by omega)) fun q hq=>by simp only[C9.injEq] at hq;omega⟩
  cases p with
  |none=>rfl
  |some q =>
   have:=hp q rfl;simp only[E8,decide_eq_false_iff_not];omega
theorem Tf(vars:List ByteArray)(gs:List Gu):kt vars.length none ((gf vars gs).map fun (i:Nat)=>(i:Int))=true:=by
 refine Ca (cl:=(U2 (gt vars.length).toNat).map fun (i:Nat)=>(i:Int)) ?_ none ?_
 ·unfold gf;exact(O8).map _
 ·rw[List.range_eq_range']
  refine Jv _ _ 0 none (fun i _ hi=>?_) (by simp)
  have:=kz vars.length;simp only[isC,B8,decide_eq_true_eq];omega
theorem StG.start{c:ClM}(hb:ClB c)(h:c.valid=true):StG c.d c.v c.l ((gf c.v c.g).map fun (i:Nat)=>(i:Int)):=by
 simp only[ClM.valid,B8] at h;exact⟨hb.wl,h.1,Tf c.v c.g⟩
theorem StG.sy{d:DfM}(hb:DfB d){c:ClM}(hc:ClB c){t:Tm}{cl:List Int}(h:StG d c.v t cl):SyB ⟨d,c.v,t,cl⟩/\Bo d c.v t cl=true/\brL ⟨d,c.v,t,cl⟩=brF d c.v t cl []:=by
 have h1:=h.n;have h2:=h.l;have h3:Bo d c.v t cl=true:=by simp only[Bo,B8];exact⟨h.s,h.c⟩
 exact⟨⟨hb,hc.v,hc.vs,h.w,by show t.nodes<=_;omega,by show cl.length<=_;omega⟩,h3,by unfold brL;rw[H5 h3]⟩
theorem mm{cs:List ClM}{k:Int}{g:ClM}(h:xe cs k=some g):cs.length<=3/\er cs=true/\qa cs k=some g:=by
 unfold xe at h;split at h
 ·rename_i q;exact⟨q.1,q.2,h⟩
 ·simp at h
end Go.Q
namespace Go.Q.S
open Go Go.Q
end Go.Q.S
end
section
/- Lists of proofs;verdicts. -/
namespace Go.Q
open Go
def gm(ns:List PnM):List D:=[.sl (ns.map PnM.row)]
structure PfB(ns:List PnM):Prop where
 l:ns.length<=1048576
 b:∀ n∈ns,PnB n
noncomputable def vj(d:DfM)(cs:List ClM):Nat->List (List PnM)->Bool
 |_,[]=>true
 |i,p::r=>Bz d cs (i:Int) p&&vj d cs (i+1) r
noncomputable def Cp(d:DfM)(cs:List ClM)(ps:List (List PnM)):Bool:=decide (ps.length=cs.length)&&(vj d cs 0 ps&&decide (0<cs.length))
theorem Tg{l:List Int}{x:Int}(h:Ge l x=true):x∈l:=by
 simp only[Ge,Q4,decide_eq_true_eq] at h;obtain⟨y,hy,e⟩:=h;exact e▸hy
end Go.Q
namespace Go.Q.S
open Go Go.Q
end Go.Q.S
end
section
/- The search for proofs. -/
namespace Go.Q
open Go
def rsl(l:Tm)(b:List Bnd):List Bnd:=rsB b (cc (cc l.names))
noncomputable def vk(g:ClM)(t:Tm)(op:List Int):List ClM->Nat->Option PnM
 | [],_=>none
 |c::r,i=>match mT c.l t [] with
  |some l=>if op.all (xd c (rsl c.l l) g t)=true then some ⟨3,[],(i:Int),rsl c.l l⟩ else vk g t op r (i+1)
  |none=>vk g t op r (i+1)
noncomputable def chl(f:Nat->Tm->List Int->Option (List PnM))(d:DfM)(t:Tm):List (Bk×List Int)->Nat->Option (List Int×List PnM)
 | [],_=>some ([],[])
 |b::r,base=>match f base (bT d t b.1) b.2 with
  |none=>none
  |some n1=>match chl f d t r (base+n1.length) with
   |none=>none
   |some y=>some ((base:Int)::y.1,n1++y.2)
def vn(base:Nat)(op:List Int)(cir:Option PnM)(k:Option (List PnM)):Option (List PnM) :=
 if base=60 then none else if op.length=0 then some [⟨1,[],0,[]⟩] else match cir with |some x=>some [x] |none=>k
def mk2:Option (List Int×List PnM)->Option (List PnM)
 |some y=>some (⟨2,y.1,0,[]⟩::y.2)
 |none=>none
noncomputable def fnd(d:DfM)(cs:List ClM)(g:ClM):Nat->Nat->Tm->List Int->Option (List PnM)
 |0,base,t,cl=>vn base (opC g t cl) (vk g t (opC g t cl) cs 0) none
 |r+1,base,t,cl=>vn base (opC g t cl) (if r+1<12 then vk g t (opC g t cl) cs 0 else none)
  (if (brF d g.v t (opC g t cl) []).all (fun b=>decide (bK d t b.1=2))=true then mk2 (chl (fnd d cs g r) d t (brF d g.v t (opC g t cl) []) (base+1)) else none)
noncomputable def fpR(d:DfM)(cs:List ClM)(k:Int):Option (List PnM):=match xe cs k with
 |some g=>fnd d cs g 12 0 g.l ((gf g.v g.g).map fun (i:Nat)=>(i:Int))
 |none=>none
def fpD:Option (List PnM)->List D
 |some ns=>[.bool true,.sl (ns.map PnM.row)]
 |none=>[.bool false,.sl []]
noncomputable def prL(d:DfM)(cs:List ClM):Nat->Nat->Option (List (List PnM))
 |0,_=>some []
 |n+1,i=>match fpR d cs (i:Int) with
  |none=>none
  |some p=>match prL d cs n (i+1) with
   |none=>none
   |some r=>some (p::r)
def paD:Option (List (List PnM))->List D
 |some ps=>[.bool (decide (0<ps.length)),.sl (ps.map gm)]
 |none=>[.bool false,.sl []]
theorem Jw{base:Nat}{op:List Int}{cir:Option PnM}{k:Option (List PnM)}{n:List PnM}(hb:base<=60)(hk:∀ n,k=some n->base≠60->base+n.length<=60)(h:vn base op cir k=some n):base+n.length<=60/\0<n.length\/(k=some n/\base+n.length<=60):=by
 unfold vn at h;split at h
 ·simp at h
 ·rename_i h0
  split at h
  ·simp only[C9.injEq] at h;subst h;left;simp only[C2,C8];omega
  ·cases cir with
   |some x=>simp only[C9.injEq] at h;subst h;left;simp only[C2,C8];omega
   |none=>exact .inr ⟨h,hk n h h0⟩
theorem Gi{f:Nat->Tm->List Int->Option (List PnM)}{d:DfM}{t:Tm}(hf:∀ base t cl n,base<=60->f base t cl=some n->base+n.length<=60):∀ (L:List (Bk×List Int)) (base:Nat) (y:List Int×List PnM),base<=60->chl f d t L base=some y->base+y.2.length<=60/\y.1.length=L.length
 | [],base,y,hb,h=>by simp only[chl,C9.injEq] at h;subst h;exact⟨hb,rfl⟩
 |b::r,base,y,hb,h=>by
  simp only[chl] at h;cases h1:f base (bT d t b.1) b.2 with
  |none=>rw[h1] at h;simp at h
  |some n1 =>
   rw[h1] at h;simp only at h;have h2:=hf _ _ _ _ hb h1;cases h3:chl f d t r (base+n1.length) with
   |none=>rw[h3] at h;simp at h
   |some z =>
    rw[h3] at h;simp only[C9.injEq] at h;subst h;have h4:=Gi hf r _ z h2 h3;simp only[E6,C2];omega
theorem vo(d:DfM)(cs:List ClM)(g:ClM):∀ r base t cl n,base<=60->fnd d cs g r base t cl=some n->base+n.length<=60
 |0,base,t,cl,n,hb,h=>by
  simp only[fnd] at h;rcases Jw hb (by simp) h with h |h
  ·exact h.1
  ·exact h.2
 |r+1,base,t,cl,n,hb,h=>by
  simp only[fnd] at h;rcases Jw hb (fun m hm h60=>by
   split at hm
   ·cases hc:chl (fnd d cs g r) d t (brF d g.v t (opC g t cl) []) (base+1) with
    |none=>rw[hc] at hm;simp[mk2] at hm
    |some y =>
     rw[hc] at hm;simp only[mk2,C9.injEq] at hm;subst hm;have:=(Gi (vo d cs g r) _ _ y (by omega) hc).1
     simp only[C2];omega
   ·simp at hm) h with h |h
  ·exact h.1
  ·exact h.2
structure xf(n:PnM):Prop where
 k:0<=n.k/\n.k<=3
 nl:n.nx.length<=64
 ni:∀ j∈n.nx,0<=j/\j<=60
 c:0<=n.c/\n.c<=3
 sl:n.s.length<=60
 sb:∀ b∈n.s,b.1.size<=maxLen/\Wt b.2/\b.2.nodes<=60
theorem Jx{l:List Bnd}{ns:List ByteArray}{b:Bnd}(h:b∈rsB l ns):b.1∈ns/\(b.1,b.2)∈l:=by
 unfold rsB at h;obtain⟨s,hs,e⟩:=R8.1 h;cases hb:bnd l s with
 |none=>rw[hb] at e;simp at e
 |some v =>
  rw[hb] at e;simp only[K7,C9.injEq] at e;subst e;exact⟨hs,vh hb⟩
theorem Jy{l:List ByteArray}{s:ByteArray}(h:s∈cc l):s∈l  :=(pr l s).1 h
theorem Gj{g:ClM}{t:Tm}(ht:Wt t)(hn:t.nodes<=60){op:List Int}:∀ (cs:List ClM) (i:Nat),(∀ c∈cs,Wt c.l/\c.l.nodes<=60)->i+cs.length<=3->∀ x,vk g t op cs i=some x->xf x
 | [],i,_,_,x,h=>by simp[vk] at h
 |c::r,i,hc,hi,x,h=>by
  simp only[C2] at hi;have ih:=Gj (g:=g) (op:=op) ht hn r (i+1) (fun c' h'=>hc c' (C6 _ h')) (by omega) x
  simp only[vk] at h;obtain⟨w1,w2⟩:=hc c (C5 ..);cases hm:mT c.l t [] with
  |none=>rw[hm] at h;exact ih h
  |some l =>
   rw[hm] at h;simp only at h;split at h
   ·simp only[C9.injEq] at h
    subst h;have hall:=lh (fun t=>Wt t/\t.nodes<=60) (fun t a h ha=>⟨h.1.sub ha,ml t a h.2 ha⟩) c.l t [] l ⟨ht,hn⟩ (by simp) hm
    have hsl:=ei c.l.names;have hsl2:=ei (cc c.l.names);have hnn:=bz c.l;refine⟨by show(0:Int)<=3/\(3:Int)<=3;decide,J1 _,by intro j hj;simp at hj,by show(0:Int)<=(i:Int)/\(i:Int)<=3;omega,?_,fun b hb=>?_⟩
    ·show(rsB l (cc (cc c.l.names))).length<=60
     refine G8 (S5 ..) (by omega)
    ·obtain⟨b1,b2⟩:=Jx hb
     obtain⟨q1,q2⟩:=hall _ b2;exact⟨Li c.l w1 _ (Jy (Jy b1)),q1,q2⟩
   ·exact ih h
theorem Th{f:Nat->Tm->List Int->Option (List PnM)}{d:DfM}{t:Tm}:∀ (L:List (Bk×List Int)) (base:Nat) (y:List Int×List PnM),(∀ b∈L,∀ base n,base<=60->f base (bT d t b.1) b.2=some n->base+n.length<=60/\∀ x∈n,xf x)->base<=60->chl f d t L base=some y->(∀ j∈y.1,0<=j/\j<=60)/\∀ x∈y.2,xf x
 | [],base,y,_,hb,h=>by simp only[chl,C9.injEq] at h;subst h;exact⟨by simp,by simp⟩
 |b::r,base,y,hf,hb,h=>by
  simp only[chl] at h;cases h1:f base (bT d t b.1) b.2 with
  |none=>rw[h1] at h;simp at h
  |some n1 =>
   rw[h1] at h;simp only at h;obtain⟨h2,h2'⟩:=hf b (C5 ..) _ _ hb h1;cases h3:chl f d t r (base+n1.length) with
   |none=>rw[h3] at h;simp at h
   |some z =>
    rw[h3] at h;simp only[C9.injEq] at h;subst h;obtain⟨h4,h5⟩:=Th r _ z (fun b hb=>hf b (C6 _ hb)) h2 h3
    refine⟨fun j hj=>?_,fun x hx=>?_⟩
    ·rcases D9.1 hj with e |hj
     ·subst e;omega
     ·exact h4 j hj
    ·rcases D4.1 hx with hx |hx
     ·exact h2' x hx
     ·exact h5 x hx
theorem ab0{d:DfM}(hd:DfB d){cs:List ClM}(hcs:∀ c∈cs,Wt c.l/\c.l.nodes<=60)(hcl:cs.length<=3){g:ClM}:∀ r base t cl n,StG d g.v t cl->base<=60->fnd d cs g r base t cl=some n->∀ x∈n,xf x:=by
 have one:∀ {base:Nat} {op:List Int} {cir:Option PnM} {k:Option (List PnM)} {n:List PnM},(∀ x,cir=some x->xf x)->(∀ n,base≠60->k=some n->∀ x∈n,xf x)->vn base op cir k=some n->∀ x∈n,xf x:=by
  intro base op cir k n hc hk h;unfold vn at h;split at h
  ·simp at h
  ·rename_i h60
   split at h
   ·simp only[C9.injEq] at h
    subst h;intro x hx;simp only[E7] at hx;subst hx;exact⟨by show(0:Int)<=1/\(1:Int)<=3;decide,J1 _,by simp,by show(0:Int)<=0/\(0:Int)<=3;decide,J1 _,by simp⟩
   ·cases cir with
    |some y =>
     simp only[C9.injEq] at h;subst h;intro x hx;simp only[E7] at hx;subst hx;exact hc _ rfl
    |none=>exact hk n h60 h
 intro r;induction r with
 |zero =>
  intro base t cl n hs hb h;simp only[fnd] at h;exact one (fun x hx=>Gj hs.w hs.n cs 0 hcs (by omega) x hx) (by simp) h
 |succ r ih =>
  intro base t cl n hs hb h;simp only[fnd] at h;have hso:StG d g.v t (opC g t cl):=hs.op (O8);refine one (fun x hx=>?_) (fun m h60 hm=>?_) h
  ·split at hx
   ·exact Gj hs.w hs.n cs 0 hcs (by omega) x hx
   ·simp at hx
  ·split at hm
   ·rename_i hall
    cases hc:chl (fnd d cs g r) d t (brF d g.v t (opC g t cl) []) (base+1) with
    |none=>rw[hc] at hm;simp[mk2] at hm
    |some y =>
     rw[hc] at hm;simp only[mk2,C9.injEq] at hm;subst hm;have hLl:(brF d g.v t (opC g t cl) []).length<=64:=by
      have:=(vg hd hso.w hso.s (P:=fun _=>True) (opC g t cl) 0 [] (fun c hc=>⟨cz _ none hso.c c hc,trivial⟩) ⟨F2 _,by simp⟩ (by simp) (by simp)).1.l
      have:=hso.l;omega
     have hyl:=(Gi (vo d cs g r) _ _ y (by omega) hc).2
     obtain⟨k1,k2⟩:=Th _ _ y (fun b hb' base' n' hb2 hn'=>⟨vo d cs g r base' _ _ n' hb2 hn',ih base' _ _ n' (hso.next hd hb' (by simpa using E3.1 hall b hb')) hb2 hn'⟩) (by omega) hc
     intro x hx;rcases D9.1 hx with e |hx
     ·subst e
      exact⟨by show(0:Int)<=2/\(2:Int)<=3;decide,by show y.1.length<=64;omega,k1,by show(0:Int)<=0/\(0:Int)<=3;decide,J1 _,by simp⟩
     ·exact k2 x hx
   ·simp at hm
end Go.Q
namespace Go.Q
open Go
def Jz:Option PnM->List D
 |some x=>[.int x.k,.int x.c,.bool true,.sl (x.nx.map am),.sl (x.s.map Bnd.row)]
 |none=>[.int 0,.int 0,.bool false,.sl [],.sl []]
theorem Zi{P B:List PnM}{x:PnM}:(P++x::B)[P.length]'(by simp)=x:=by simp
theorem Gk{P B:List PnM}(a nx:List Int):over P.length [over 1 [.sl (nx.map am)] (rowAt ((P++(⟨2,a,0,[]⟩:PnM)::B).map PnM.row) P.length)] ((P++(⟨2,a,0,[]⟩:PnM)::B).map PnM.row)=(P++(⟨2,nx,0,[]⟩:PnM)::B).map PnM.row:=by
 have hl:P.length<(P++(⟨2,a,0,[]⟩:PnM)::B).length:=by simp
 rw[ab hl,ii _ _ _ (by rw[B6];exact hl),Zi]
 simp only[D7,C4];rw[List.set_append_right _ _ (by rw[B6];exact F2 _),B6,Nat.sub_self]
 rfl
theorem Xx{P B:List PnM}(a:List Int)(cs:aa)(nx:List Int)(h:cs=nx.map am):over P.length [over 1 [.sl cs] (rowAt (over P.length [over 1 [.sl []] (rowAt ((P++(⟨2,a,0,[]⟩:PnM)::B).map PnM.row) P.length)] ((P++(⟨2,a,0,[]⟩:PnM)::B).map PnM.row)) P.length)] (over P.length [over 1 [.sl []] (rowAt ((P++(⟨2,a,0,[]⟩:PnM)::B).map PnM.row) P.length)] ((P++(⟨2,a,0,[]⟩:PnM)::B).map PnM.row))=(P++(⟨2,nx,0,[]⟩:PnM)::B).map PnM.row:=by
 subst h;have e:(D.sl []:D)=.sl (([]:List Int).map am):=rfl;rw[e,Gk a [],Gk [] nx]
theorem Xy{P B:List PnM}(a:List Int):(over P.length [over 1 [.sl []] (rowAt ((P++(⟨2,a,0,[]⟩:PnM)::B).map PnM.row) P.length)] ((P++(⟨2,a,0,[]⟩:PnM)::B).map PnM.row)).length=P.length+(B.length+1):=by
 have e:(D.sl []:D)=.sl (([]:List Int).map am):=rfl;rw[e,Gk a []];simp
theorem ae6{P B:List PnM}(a:List Int):(nth (rowAt ((P++(⟨2,a,0,[]⟩:PnM)::B).map PnM.row) P.length) 1).L=a.map am:=by
 have hl:P.length<(P++(⟨2,a,0,[]⟩:PnM)::B).length:=by simp
 rw[ab hl,Zi];rfl
theorem Nv{base:Nat}{op:List Int}{cir:Option PnM}{k:Option (List PnM)}(h:base=60):vn base op cir k=none:=by unfold vn;rw[H5 h]
theorem Ti{base:Nat}{op:List Int}{cir:Option PnM}{k:Option (List PnM)}(h:base≠60)(h0:op.length=0):vn base op cir k=some [⟨1,[],0,[]⟩]:=by unfold vn;rw[H6 h,H5 h0]
theorem Tj{base:Nat}{op:List Int}{x:PnM}{k:Option (List PnM)}(h:base≠60)(h0:op.length≠0):vn base op (some x) k=some [x]:=by unfold vn;rw[H6 h,H6 h0]
theorem Lx{base:Nat}{op:List Int}{k:Option (List PnM)}(h:base≠60)(h0:op.length≠0):vn base op none k=k:=by unfold vn;rw[H6 h,H6 h0]
end Go.Q
namespace Go.Q
open Go
theorem Gl{d:DfM}{cs:List ClM}:∀ (n i:Nat) (ps:List (List PnM)),prL d cs n i=some ps->ps.length=n
 |0,i,ps,h=>by simp only[prL,C9.injEq] at h;subst h;rfl
 |n+1,i,ps,h=>by
  simp only[prL] at h;cases h1:fpR d cs (i:Int) with
  |none=>rw[h1] at h;simp at h
  |some p =>
   rw[h1] at h;simp only at h;cases h2:prL d cs n (i+1) with
   |none=>rw[h2] at h;simp at h
   |some r =>
    rw[h2] at h;simp only[C9.injEq] at h;subst h;simp only[C2,Gl n (i+1) r h2]
theorem Ka{cs:List ClM}(h:er cs=true):∀ c∈cs,c.l.nodes<=60:=fun c hc=>by
 have:=E3.1 h c hc;simp only[ClM.valid,jn,B8] at this;exact az this.1.2.2.2.2.1
end Go.Q
end
section
/- The rows of the proofs that are found. -/
namespace Go.Q
open Go
theorem Tk{d:DfM}(hd:DfB d){cs:List ClM}(hcs:∀ c∈cs,ClB c)(hcd:∀ c∈cs,c.d=d){k:Int}{ns:List PnM}(h:fpR d cs k=some ns):ns.length<=60/\∀ x∈ns,xf x:=by
 unfold fpR at h;cases hq:xe cs k with
 |none=>rw[hq] at h;simp at h
 |some g =>
  rw[hq] at h;simp only at h;obtain⟨h3,hv,ha⟩:=mm hq;have hm:g∈cs:=by
   unfold qa at ha;split at ha
   ·exact N1 ha
   ·simp at ha
  have hgv:g.valid=true:=E3.1 hv _ hm;have hst:=StG.start (hcs _ hm) hgv;rw[hcd _ hm] at hst;have h1:=vo _ _ _ _ _ _ _ _ (J1 _) h;exact⟨by omega,ab0 hd (fun c hc=>⟨(hcs c hc).wl,Ka hv c hc⟩) h3 _ _ _ _ _ hst (J1 _) h⟩
theorem Tl{d:DfM}(hd:DfB d){cs:List ClM}(hcs:∀ c∈cs,ClB c)(hcd:∀ c∈cs,c.d=d):∀ (n i:Nat) (ps:List (List PnM)),prL d cs n i=some ps->∀ p∈ps,p.length<=60/\∀ x∈p,xf x
 |0,i,ps,h=>by simp only[prL,C9.injEq] at h;subst h;simp
 |n+1,i,ps,h=>by
  simp only[prL] at h;cases h1:fpR d cs (i:Int) with
  |none=>rw[h1] at h;simp at h
  |some p =>
   rw[h1] at h;simp only at h;cases h2:prL d cs n (i+1) with
   |none=>rw[h2] at h;simp at h
   |some r =>
    rw[h2] at h;simp only[C9.injEq] at h;subst h;intro q hq;rcases D9.1 hq with e |hq
    ·subst e;exact Tk hd hcs hcd h1
    ·exact Tl hd hcs hcd n (i+1) r h2 q hq
theorem Lz(o:Option (List PnM)):fpD o=[.bool o.isSome,.sl ((o.getD []).map PnM.row)]:=by cases o<;>rfl
theorem ab1(o:Option (List (List PnM))):paD o=[.bool (decide (0<(o.getD []).length)),.sl ((o.getD []).map gm)]:=by cases o<;>rfl
theorem Gm{d:DfM}(hd:DfB d){cs:List ClM}(hcs:∀ c∈cs,ClB c)(hcd:∀ c∈cs,c.d=d){k:Int}:((fpR d cs k).getD []).length<=60/\∀ x∈(fpR d cs k).getD [],xf x:=by
 cases h:fpR d cs k with
 |none=>exact⟨J1 _,by simp⟩
 |some ns=>exact Tk hd hcs hcd h
theorem Xz{d:DfM}(hd:DfB d){cs:List ClM}(hcs:∀ c∈cs,ClB c)(hcd:∀ c∈cs,c.d=d):((prL d cs cs.length 0).getD []).length<=cs.length/\∀ p∈(prL d cs cs.length 0).getD [],p.length<=60/\∀ x∈p,xf x:=by
 cases h:prL d cs cs.length 0 with
 |none=>exact⟨J1 _,by simp⟩
 |some ns=>exact⟨Nat.le_of_eq (Gl _ _ _ h),Tl hd hcs hcd _ _ _ h⟩
end Go.Q
end
section
/- Paths and tests of symbolic terms. -/
namespace Go.Q
open Go
abbrev Stp:=Nat×List Int
structure PtM where
 k:Int
 st:List Stp
 t:Tm
 c:List Int
def PtM.row(v:List ByteArray)(p:PtM):List D:=[.int p.k,.sl (p.st.map Dz),.sl (v.map ag),.int p.t.k,.int p.t.n,.str p.t.s,.sl (p.t.as.map Tm.row),.sl (p.c.map am)]
end Go.Q
end
section
/- One step of a symbolic term. -/
namespace Go.Q
open Go
end Go.Q
end
section
/- A match makes the pattern equal to the term;drawn terms. -/
namespace Go.Q
open Go
theorem Nw:∀ t u:Tm,t.row=u.row->t=u:=Tm.ind fun t ih u h=>by
 rw[Tm.row_eq,Tm.row_eq u] at h;simp only[R0.injEq,D.int.injEq,D.str.injEq,D.sl.injEq,and_true] at h;obtain⟨h1,h2,h3,h4⟩:=h;have key:∀ (xs ys:List Tm),(∀ a∈xs,a∈t.as)->xs.map Tm.row=ys.map Tm.row->xs=ys:=by
  intro xs;induction xs with
  |nil=>intro ys _ h;cases ys with
   |nil=>rfl
   |cons y ys=>simp at h
  |cons x xs ihx =>
   intro ys hm h;cases ys with
   |nil=>simp at h
   |cons y ys =>
    simp only[C4,R0.injEq] at h;rw[ih x (hm x (C5 ..)) y h.1,ihx ys (fun a ha=>hm a (C6 _ ha)) h.2]
 have e:=key t.as u.as (fun _ h=>h) h4
 cases t;cases u
 simp only[Tm.k,Tm.n,Tm.s,Tm.as] at h1 h2 h3 e;rw[h1,h2,h3,e]
theorem Tn{t u:Tm}:eqb t.row u.row=true↔t=u:=by
 rw[gc];exact⟨Nw t u,fun h=>by rw[h]⟩
def Ext(l l':List Bnd):Prop:=∀ s v,bnd l s=some v->bnd l' s=some v
theorem Ext.refl(l:List Bnd):Ext l l:=fun _ _ h=>h
theorem Ext.trans{a b c:List Bnd}(h:Ext a b)(k:Ext b c):Ext a c:=fun s v e=>k s v (h s v e)
theorem Ya(l m:List Bnd):Ext l (l++m):=fun s v h=>by rw[uw,h]
theorem To:∀ t u l l',mT t u l=some l'->Ext l l':=Tm.ind fun t ih u l l' h=>by
 rcases fo h with ⟨_,_,e⟩|⟨_,_,e⟩|⟨_,_,_,_,_,h⟩
 ·subst e;exact Ext.refl _
 ·subst e;exact Ya _ _
 ·exact zg (P:=fun _ _ l l'=>Ext l l') (Q:=fun _ _ l l'=>Ext l l') (fun _ l=>Ext.refl l) (fun _ _ _ _ _ _ _ h k=>h.trans k) _ _ _ _ (fun t ht u _ l l' h=>ih t ht u l l' h) h
theorem Tp{t u:Tm}{l l':List Bnd}(hk:t.k=1)(h:mT t u l=some l'):bnd l' t.s=some u:=by
 rw[Jb,H5 hk] at h;cases hb:bnd l t.s with
 |some v =>
  rw[hb] at h;simp only at h;split at h
  ·rename_i he
   simp only[C9.injEq] at h;rw[<-h,hb,Tn.1 he]
  ·simp at h
 |none =>
  rw[hb] at h;simp only[C9.injEq] at h;rw[<-h,uw,hb];simp[bnd]
theorem Tm.eta{t u:Tm}(h1:t.k=u.k)(h2:t.n=u.n)(h3:t.s=u.s)(h4:t.as=u.as):t=u:=by
 cases t;cases u;simp only[Tm.k,Tm.n,Tm.s,Tm.as] at h1 h2 h3 h4;rw[h1,h2,h3,h4]
theorem ab2:∀ t u l l',mT t u l=some l'->∀ L,Ext l' L->aS L t=u:=Tm.ind fun t ih u l l' h L hL=>by
 by_cases hk:t.k=1
 ·rw[eo,H5 hk,hL _ _ (Tp hk h)]
 ·rcases fo h with ⟨q,_⟩|⟨q,_⟩|⟨_,e1,e2,e3,e4,h⟩
  ·exact absurd q hk
  ·exact absurd q hk
  ·have key:∀ (ts us:List Tm) (l l':List Bnd),(∀ a∈ts,a∈t.as)->ts.length=us.length->mTs ts us l=some l'->∀ L,Ext l' L->ts.map (aS L)=us:=by
    intro ts;induction ts with
    |nil=>intro us l l' _ hl _ L _;cases us with
     |nil=>rfl
     |cons _ _=>simp at hl
    |cons a ts ihs =>
     intro us l l' hts hl h L hL;cases us with
     |nil=>simp at hl
     |cons b us =>
      simp only[mTs] at h;split at h
      ·rename_i l1 h1
       have x1:Ext l1 l':=by
        refine zg (P:=fun _ _ l l'=>Ext l l') (Q:=fun _ _ l l'=>Ext l l') (fun _ l=>Ext.refl l) (fun _ _ _ _ _ _ _ h k=>h.trans k) _ _ _ _ (fun t ht u _ l l' h=>To t u l l' h) h
       rw[C4,ih a (hts a (C5 ..)) b l l1 h1 L (x1.trans hL),ihs us l1 l' (fun x hx=>hts x (C6 _ hx)) (by simpa using hl) h L hL]
      ·simp at h
   have e5:=key _ _ _ _ (fun _ h=>h) e4 h L hL
   rw[eo,H6 hk];exact Tm.eta e1 e2 e3 e5
inductive Dt(m:Nat):Tm->Prop
 |var {s:ByteArray}:s.size<=m->Dt m (.mk 1 0 s [])
 |word {n:Int}:0<=n->n<=255->Dt m (.mk 3 n ⟨#[]⟩ [])
 |app {s:ByteArray} {as:List Tm}:s.size<=m->as.length<=2->(∀ a∈as,Dt m a)->Dt m (.mk 2 0 s as)
theorem Dt.sub{m:Nat}{t a:Tm}(h:Dt m t)(ha:a∈t.as):Dt m a:=by
 cases h with
 |var _=>simp[Tm.as] at ha
 |word=>simp[Tm.as] at ha
 |app _ _ h=>exact h a ha
theorem Dt.mono{m n:Nat}{t:Tm}(h:Dt m t)(hn:m<=n):Dt n t:=by
 induction h with
 |var h=>exact .var (G8 h hn)
 |word h1 h2=>exact .word h1 h2
 |app h1 h2 _ ih=>exact .app (G8 h1 hn) h2 ih
theorem Dt.aS{m:Nat}{l:List Bnd}(hl:∀ b∈l,Dt m b.2):∀ t,Dt m t->Dt m (aS l t):=Tm.ind fun t ih h=>by
 rw[eo];split
 ·rename_i u hu
  split at hu
  ·obtain⟨b,h1,rfl⟩:=eh hu;exact hl b h1
  ·simp at hu
 ·cases h with
  |var h=>exact .var h
  |word h1 h2=>exact .word h1 h2
  | @app s as h1 h2 h3 =>
   refine .app h1 (by simpa[Tm.as] using h2) fun a ha=>?_
   simp only[Tm.as,F8] at ha;obtain⟨b,hb,rfl⟩:=ha;exact ih b hb (h3 b hb)
/- Variables get an ending. -/
end Go.Q
end
section
/- Compositions of substitutions;unification. -/
namespace Go.Q
open Go
theorem gv{l:List Bnd}{t v:Tm}(hk:t.k=1)(h:bnd l t.s=some v):aS l t=v:=by
 rw[eo,H5 hk,h]
theorem dz{l:List Bnd}{t:Tm}(h:t.k=1->bnd l t.s=none):aS l t=.mk t.k t.n t.s (t.as.map (aS l)):=by
 rw[eo];by_cases hk:t.k=1
 ·rw[H5 hk,h hk]
 ·rw[H6 hk]
def cmS(a b:List Bnd):List Bnd:=a.map (fun x=>(x.1,aS b x.2))++b.filter fun x=>(bnd a x.1).isNone
theorem Nx(f:Tm->Tm)(s:ByteArray):∀ a:List Bnd,bnd (a.map fun x=>(x.1,f x.2)) s=(bnd a s).map f
 | []=>rfl
 |b::a=>by
  simp only[C4,bnd];by_cases h:b.1=s
  ·rw[H5 h,H5 h];rfl
  ·rw[H6 h,H6 h,Nx f s a]
theorem Cc(a:List Bnd)(s:ByteArray)(h:bnd a s=none):∀ b:List Bnd,bnd (b.filter fun x=>(bnd a x.1).isNone) s=bnd b s
 | []=>rfl
 |x::b=>by
  have ih:=Cc a s h b;rw[O1];by_cases e:x.1=s
  ·rw[H5 (by rw[e,h];rfl)]
   simp only[bnd,H5 e]
  ·split
   ·simp only[bnd,H6 e,ih]
   ·simp only[bnd,H6 e,ih]
theorem qt(a b:List Bnd)(s:ByteArray):bnd (cmS a b) s=match bnd a s with
 |some u=>some (aS b u)
 |none=>bnd b s:=by
 unfold cmS;rw[uw,Nx];cases h:bnd a s with
 |some u=>rfl
 |none=>simp only[Option.map_none];exact Cc a s h b
theorem Gn(a b:List Bnd):∀ t,aS (cmS a b) t=aS b (aS a t):=Tm.ind fun t ih=>by
 have hm:t.as.map (aS (cmS a b))=(t.as.map (aS a)).map (aS b):=by
  rw[K2];exact K9 fun x hx=>ih x hx
 have hc:=qt a b t.s;by_cases hk:t.k=1
 ·cases ha:bnd a t.s with
  |some u =>
   rw[ha] at hc;rw[gv hk hc,gv hk ha]
  |none =>
   rw[ha] at hc;rw[dz (l:=a) fun _=>ha]
   cases hb:bnd b t.s with
   |some u =>
    rw[gv hk (hc.trans hb),gv (t:=.mk t.k t.n t.s (t.as.map (aS a))) hk hb]
   |none =>
    rw[dz fun _=>hc.trans hb,dz (t:=.mk t.k t.n t.s (t.as.map (aS a))) fun _=>hb,hm];rfl
 ·rw[dz fun h=>absurd h hk,dz (l:=a) fun h=>absurd h hk,dz (t:=.mk t.k t.n t.s (t.as.map (aS a))) fun h=>absurd h hk,hm];rfl
theorem Tm.mk_eta(t:Tm):Tm.mk t.k t.n t.s t.as=t:=by cases t;rfl
theorem dg(t:Tm)(w:ByteArray):w∈t.names↔(t.k=1/\w=t.s)\/∃ a∈t.as,w∈a.names:=by
 rw[Tm.names_eq,D4,K3];by_cases hk:t.k=1
 ·rw[H5 hk];simp[hk]
 ·rw[H6 hk];simp[hk]
theorem Tq(k n:Int)(s:ByteArray)(as:List Tm)(w:ByteArray):w∈(Tm.mk k n s as).names↔(k=1/\w=s)\/∃ a∈as,w∈a.names:=dg _ w
theorem Ma(l:List Bnd)(w:ByteArray):∀ t,w∈(aS l t).names->(w∈t.names/\bnd l w=none)\/∃ s v,s∈t.names/\bnd l s=some v/\w∈v.names:=Tm.ind fun t ih h=>by
 by_cases hb:∃ v,t.k=1/\bnd l t.s=some v
 ·obtain⟨v,hk,hb⟩:=hb
  rw[gv hk hb] at h;exact .inr ⟨t.s,v,(dg t _).2 (.inl ⟨hk,rfl⟩),hb,h⟩
 ·have hf:t.k=1->bnd l t.s=none:=fun hk=>by
   cases hq:bnd l t.s with
   |none=>rfl
   |some v=>exact absurd ⟨v,hk,hq⟩ hb
  rw[dz hf,Tq] at h;rcases h with ⟨hk,rfl⟩|⟨a,ha,hw⟩
  ·exact .inl ⟨(dg t _).2 (.inl ⟨hk,rfl⟩),hf hk⟩
  ·obtain⟨c,hc,rfl⟩:=F8.1 ha
   rcases ih c hc hw with ⟨h1,h2⟩|⟨s,v,h1,h2,h3⟩
   ·exact .inl ⟨(dg t _).2 (.inr ⟨c,hc,h1⟩),h2⟩
   ·exact .inr ⟨s,v,(dg t _).2 (.inr ⟨c,hc,h1⟩),h2,h3⟩
def Fx(l:List Bnd)(t:Tm):Prop:=∀ w∈t.names,bnd l w=none
theorem Fx.sub{l:List Bnd}{t a:Tm}(h:Fx l t)(ha:a∈t.as):Fx l a:=fun w hw=>h w ((dg t w).2 (.inr ⟨a,ha,hw⟩))
theorem Mb{l:List Bnd}:∀ t,Fx l t->aS l t=t:=Tm.ind fun t ih h=>by
 rw[dz fun hk=>h _ ((dg t _).2 (.inl ⟨hk,rfl⟩))]
 have:t.as.map (aS l)=t.as:=by
  conv=>rhs;rw[<-List.map_id t.as]
  exact K9 fun a ha=>ih a ha (h.sub ha)
 rw[this,Tm.mk_eta]
def Idm(l:List Bnd):Prop:=∀ s v,bnd l s=some v->Fx l v
theorem Zj{l:List Bnd}(h:Idm l)(t:Tm):Fx l (aS l t):=fun w hw=>by
 rcases Ma l w t hw with ⟨_,h1⟩|⟨s,v,_,h2,h3⟩
 ·exact h1
 ·exact h s v h2 w h3
theorem qu(s w:ByteArray)(y:Tm):bnd [(s,y)] w=if s=w then some y else none:=by simp[bnd]
theorem Eg{s w:ByteArray}{y t:Tm}(hs:s∉y.names)(hw:w∈(aS [(s,y)] t).names):w≠s/\(w∈t.names\/w∈y.names):=by
 rcases Ma _ w t hw with ⟨h1,h2⟩|⟨s',v,h1,h2,h3⟩
 ·rw[qu] at h2
  refine⟨fun e=>?_,.inl h1⟩
  rw[H5 e.symm] at h2;exact absurd h2 (by simp)
 ·rw[qu] at h2
  split at h2
  ·rename_i e
   simp only[C9.injEq] at h2;subst h2;exact⟨fun e=>hs (e▸h3),.inr h3⟩
  ·simp at h2
theorem ab3{l:List Bnd}(h:Idm l){s:ByteArray}{y:Tm}(hy:Fx l y)(hs:s∉y.names):Idm (cmS l [(s,y)]):=by
 have key:∀ w,bnd l w=none->w≠s->bnd (cmS l [(s,y)]) w=none:=fun w h1 h2=>by
  rw[qt,h1];simp only;rw[qu,H6 (Ne.symm h2)]
 intro s' v hv w hw;rw[qt] at hv;cases hq:bnd l s' with
 |some u =>
  rw[hq] at hv;simp only[C9.injEq] at hv;subst hv;obtain⟨h1,h2⟩:=Eg hs hw;exact key w (by rcases h2 with h2 |h2;exact h s' u hq w h2;exact hy w h2) h1
 |none =>
  rw[hq] at hv;simp only at hv;rw[qu] at hv;split at hv
  ·simp only[C9.injEq] at hv
   subst hv;exact key w (hy w hw) (fun e=>hs (e▸hw))
  ·simp at hv
inductive Cov:List Tm->Tm->Prop
 |one {t:Tm}:Cov [t] t
 |drop {x:Tm} {xs:List Tm} {t:Tm}:Cov (x::xs) t->Cov xs t
 |args {x:Tm} {xs:List Tm} {t:Tm}:Cov (x::xs) t->x.k≠1->Cov (x.as++xs) t
theorem Cov.nodes{xs:List Tm}{t:Tm}(h:Cov xs t):(xs.map Tm.nodes).sum<=t.nodes:=by
 induction h with
 |one=>simp
 |drop _ ih=>simp only[C4,K1] at ih;omega
 | @args x xs t _ _ ih =>
  simp only[C4,K1] at ih;rw[D7,List.sum_append];have:=Tm.nodes_eq x;omega
theorem Cov.names{xs:List Tm}{t:Tm}(h:Cov xs t):∀ x∈xs,∀ w∈x.names,w∈t.names:=by
 induction h with
 |one=>intro x hx w hw;rw[E7.1 hx] at hw;exact hw
 |drop _ ih=>exact fun x hx=>ih x (C6 _ hx)
 | @args x xs t _ _ ih =>
  intro z hz w hw;rcases D4.1 hz with hz |hz
  ·exact ih x (C5 ..) w ((dg x w).2 (.inr ⟨z,hz,hw⟩))
  ·exact ih z (C6 _ hz) w hw
theorem Cov.sub{xs:List Tm}{t:Tm}(r:List Bnd)(h:Cov xs t):Cov (xs.map (aS r)) (aS r t):=by
 induction h with
 |one=>exact .one
 |drop _ ih=>exact .drop ih
 | @args x xs t _ hk ih =>
  have e:aS r x=.mk x.k x.n x.s (x.as.map (aS r)):=dz fun h=>absurd h hk
  rw[C4,e] at ih;rw[D7];exact ih.args hk
open Classical in
noncomputable def trt(x y:Tm)(l:List Bnd):Option (List Bnd×List (Tm×Tm)) :=
 if eqb x.row y.row=true then some (l,[]) else
 if x.k=1 then (if x.s∈y.names then none else some (cmS l [(x.s,y)],[])) else
 if y.k=1 then (if y.s∈x.names then none else some (cmS l [(y.s,x)],[])) else
 if x.k=2/\y.k=2/\x.s=y.s/\x.as.length=y.as.length then some (l,x.as.zip y.as) else none
def lrg(l:List Bnd):Bool:=l.any fun b=>decide (400<b.2.nodes)
theorem Pt{x y:Tm}{l l1:List Bnd}{m:List (Tm×Tm)}(h:trt x y l=some (l1,m)) :
 (x=y/\l1=l/\m=[])\/(∃ v u,(x.k=1/\v=x.s/\u=y\/y.k=1/\v=y.s/\u=x)/\v∉u.names/\l1=cmS l [(v,u)]/\m=[]) ∨
 (x.k=2/\y.k=2/\x.s=y.s/\x.as.length=y.as.length/\l1=l/\m=x.as.zip y.as):=by
 unfold trt at h;split at h
 ·rename_i e
  simp only[C9.injEq,G9.injEq] at h;exact .inl ⟨Tn.1 e,h.1.symm,h.2.symm⟩
 split at h
 ·rename_i hk
  split at h
  ·simp at h
  ·rename_i hn
   simp only[C9.injEq,G9.injEq] at h;exact .inr (.inl ⟨x.s,y,.inl ⟨hk,rfl,rfl⟩,hn,h.1.symm,h.2.symm⟩)
 split at h
 ·rename_i hk
  split at h
  ·simp at h
  ·rename_i hn
   simp only[C9.injEq,G9.injEq] at h;exact .inr (.inl ⟨y.s,x,.inr ⟨hk,rfl,rfl⟩,hn,h.1.symm,h.2.symm⟩)
 split at h
 ·rename_i hc
  simp only[C9.injEq,G9.injEq] at h;exact .inr (.inr ⟨hc.1,hc.2.1,hc.2.2.1,hc.2.2.2,h.1.symm,h.2.symm⟩)
 ·simp at h
def ub(V:List ByteArray)(l:List Bnd):Nat:=(V.filter fun w=>(bnd l w).isNone).length
theorem ae7{V:List ByteArray}{l:List Bnd}{s:ByteArray}{y:Tm}(hs:s∈V)(hb:bnd l s=none):ub V (cmS l [(s,y)])<ub V l:=by
 unfold ub;have hle:∀ w,(bnd (cmS l [(s,y)]) w).isNone=true->(bnd l w).isNone=true:=fun w h=>by
  rw[qt] at h;cases hq:bnd l w with
  |none=>rfl
  |some u=>rw[hq] at h;simp at h
 have hS:bnd (cmS l [(s,y)]) s=some y:=by
  rw[qt,hb];simp only;rw[qu,H5 rfl]
 have hgen:∀ V:List ByteArray,(V.filter fun w=>(bnd (cmS l [(s,y)]) w).isNone).length<=(V.filter fun w=>(bnd l w).isNone).length:=by
  intro V;induction V with
  |nil=>simp
  |cons w V ih =>
   rw[O1,O1];by_cases h:(bnd (cmS l [(s,y)]) w).isNone=true
   ·rw[H5 h,H5 (hle w h)];simp;exact ih
   ·rw[H6 h];split
    ·simp;omega
    ·exact ih
 induction V with
 |nil=>simp at hs
 |cons w V ih =>
  rw[O1,O1];rcases D9.1 hs with e |hs
  ·subst e
   rw[H6 (by rw[hS];simp),H5 (by rw[hb];rfl)]
   have:=hgen V;simp;omega
  ·have:=ih hs
   by_cases h:(bnd (cmS l [(s,y)]) w).isNone=true
   ·rw[H5 h,H5 (hle w h)];simp;exact this
   ·rw[H6 h];split
    ·simp;omega
    ·exact this
theorem Yb(l:List Bnd)(b:Bnd):(cmS l [b]).length<=l.length+1:=by
 unfold cmS;rw[E6,B6];have:=Q3 (fun x:Bnd=>(bnd l x.1).isNone) [b]
 simp only[C2,C8] at this;omega
theorem ab4{m:Nat}{l b:List Bnd}(hl:∀ x∈l,Dt m x.2)(hb:∀ x∈b,Dt m x.2):∀ x∈cmS l b,Dt m x.2:=fun x hx=>by
 unfold cmS at hx;rcases D4.1 hx with hx |hx
 ·obtain⟨z,hz,rfl⟩:=F8.1 hx
  exact(hl z hz).aS hb
 ·exact hb x (P1.1 hx).1
structure Uni(A B:Tm)(l:List Bnd)(r:List (Tm×Tm)):Prop where
 idm:Idm l
 nm:∀ s v,bnd l s=some v->∀ w∈v.names,w∈A.names++B.names
 ld:∀ b∈l,Dt 2 b.2
 ln:∀ b∈l,b.2.nodes<=400
 ll:l.length+ub (A.names++B.names) l<=(A.names++B.names).length
 rd:∀ e∈r,Dt 2 e.1/\Dt 2 e.2
 ca:Cov (r.map fun e=>aS l e.1) (aS l A)
 cb:Cov (r.map fun e=>aS l e.2) (aS l B)
theorem Eh{V:List ByteArray}{l:List Bnd}(hn:∀ s v,bnd l s=some v->∀ w∈v.names,w∈V){t:Tm}(ht:∀ w∈t.names,w∈V):∀ w∈(aS l t).names,w∈V:=fun w hw=>by
 rcases Ma l w t hw with ⟨h1,_⟩|⟨s,v,_,h2,h3⟩
 ·exact ht w h1
 ·exact hn s v h2 w h3
theorem ab5{l:List Bnd}(h:lrg l=false):∀ b∈l,b.2.nodes<=400:=fun b hb=>by
 unfold lrg at h;have:=List.any_eq_false.1 h b hb;simp only[decide_eq_true_eq] at this;omega
theorem yk{xs ys:List Tm}(h:xs.length=ys.length)(f:Tm->Tm):(xs.zip ys).map (fun e=>f e.1)=xs.map f:=by
 have:(xs.zip ys).map (fun e=>f e.1)=((xs.zip ys).map Prod.fst).map f:=by rw[K2];rfl
 rw[this,List.map_fst_zip (by omega)]
theorem Kb{xs ys:List Tm}(h:xs.length=ys.length)(f:Tm->Tm):(xs.zip ys).map (fun e=>f e.2)=ys.map f:=by
 have:(xs.zip ys).map (fun e=>f e.2)=((xs.zip ys).map Prod.snd).map f:=by rw[K2];rfl
 rw[this,List.map_snd_zip (by omega)]
theorem Gp{l:List Bnd}{xs:List Tm}(h:∀ x∈xs,Fx l x):xs.map (aS l)=xs:=by
 conv=>rhs;rw[<-List.map_id xs]
 exact K9 fun a ha=>Mb a (h a ha)
theorem Uni.next{A B:Tm}{l l1:List Bnd}{x y:Tm}{r m:List (Tm×Tm)}(h:Uni A B l ((x,y)::r))(ht:trt (aS l x) (aS l y) l=some (l1,m))(hl:lrg l1=false) :
 Uni A B l1 (m++r)/\(ub (A.names++B.names) l1<ub (A.names++B.names) l\/l1=l/\((m++r).map fun e=>(aS l e.1).nodes).sum<(((x,y)::r).map fun e=>(aS l e.1).nodes).sum):=by
 have hca:=h.ca;have hcb:=h.cb;simp only[C4] at hca hcb;have nA:=Eh h.nm (t:=A) fun w hw=>List.mem_append_left _ hw
 have nB:=Eh h.nm (t:=B) fun w hw=>List.mem_append_right _ hw
 have nx:∀ w∈(aS l x).names,w∈A.names++B.names:=fun w hw=>nA w (hca.names _ (C5 ..) w hw)
 have ny:∀ w∈(aS l y).names,w∈A.names++B.names:=fun w hw=>nB w (hcb.names _ (C5 ..) w hw)
 have dx:=(h.rd _ (C5 ..)).1.aS h.ld;have dy:=(h.rd _ (C5 ..)).2.aS h.ld;have fx:=Zj h.idm x;have fy:=Zj h.idm y;have hrd:∀ e∈r,Dt 2 e.1/\Dt 2 e.2:=fun e he=>h.rd e (C6 _ he)
 rcases Pt ht with ⟨_,rfl,rfl⟩|⟨v,u,hvu,hn,rfl,rfl⟩|⟨k1,k2,hs,hlen,rfl,rfl⟩
 ·refine⟨⟨h.idm,h.nm,h.ld,h.ln,h.ll,hrd,hca.drop,hcb.drop⟩,.inr ⟨rfl,?_⟩⟩
  simp only[E2,C4,K1];have:=Tm.nodes_eq (aS l1 x);omega
 ·have hv:v∈A.names++B.names/\bnd l v=none/\Fx l u/\(∀ w∈u.names,w∈A.names++B.names)/\Dt 2 u:=by
   rcases hvu with ⟨hk,rfl,rfl⟩|⟨hk,rfl,rfl⟩
   ·have hm:=(dg (aS l x) _).2 (.inl ⟨hk,rfl⟩)
    exact⟨nx _ hm,fx _ hm,fy,ny,dy⟩
   ·have hm:=(dg (aS l y) _).2 (.inl ⟨hk,rfl⟩)
    exact⟨ny _ hm,fy _ hm,fx,nx,dx⟩
  obtain⟨hv1,hv2,hv3,hv4,hv5⟩:=hv;have hub:=ae7 (y:=u) hv1 hv2;refine⟨⟨ab3 h.idm hv3 hn,?_,ab4 h.ld (by simpa using hv5),ab5 hl,?_,hrd,?_,?_⟩,.inl hub⟩
  ·intro s w hw z hz
   rw[qt] at hw;cases hq:bnd l s with
   |some q =>
    rw[hq] at hw;simp only[C9.injEq] at hw;subst hw;rcases(Eg hn hz).2 with e |e
    ·exact h.nm s q hq z e
    ·exact hv4 z e
   |none =>
    rw[hq] at hw;simp only at hw;rw[qu] at hw;split at hw
    ·simp only[C9.injEq] at hw;subst hw;exact hv4 z hz
    ·simp at hw
  ·have h1:=Yb l (v,u)
   have h2:=h.ll;omega
  ·have:=(hca.sub [(v,u)]).drop
   rw[K2] at this;rw[E2,Gn];have e:(r.map fun e=>aS (cmS l [(v,u)]) e.1)=r.map ((aS [(v,u)]) ∘ fun e=>aS l e.1):=K9 fun e _=>Gn ..
   rw[e];exact this
  ·have:=(hcb.sub [(v,u)]).drop
   rw[K2] at this;rw[E2,Gn];have e:(r.map fun e=>aS (cmS l [(v,u)]) e.2)=r.map ((aS [(v,u)]) ∘ fun e=>aS l e.2):=K9 fun e _=>Gn ..
   rw[e];exact this
 ·have fxs:=fun a (ha:a∈(aS l1 x).as)=>fx.sub ha
  have fys:=fun a (ha:a∈(aS l1 y).as)=>fy.sub ha
  refine⟨⟨h.idm,h.nm,h.ld,h.ln,h.ll,?_,?_,?_⟩,.inr ⟨rfl,?_⟩⟩
  ·intro e he
   rcases D4.1 he with he |he
   ·obtain⟨q1,q2⟩:=List.of_mem_zip (a:=e.1) (b:=e.2) he
    exact⟨dx.sub q1,dy.sub q2⟩
   ·exact hrd e he
  ·rw[D7,yk hlen,Gp fxs]
   exact hca.args (by omega)
  ·rw[D7,Kb hlen,Gp fys]
   exact hcb.args (by omega)
  ·have e:(((aS l1 x).as.zip (aS l1 y).as).map fun e=>(aS l1 e.1).nodes)=(aS l1 x).as.map Tm.nodes:=by
    have:(((aS l1 x).as.zip (aS l1 y).as).map fun e=>(aS l1 e.1).nodes)=(((aS l1 x).as.zip (aS l1 y).as).map fun e=>aS l1 e.1).map Tm.nodes:=by rw[K2];rfl
    rw[this,yk hlen,Gp fxs]
   rw[D7,List.sum_append,e,C4,K1];have:=Tm.nodes_eq (aS l1 x);simp only;omega
end Go.Q
end
section
/- What unification gives. -/
namespace Go.Q
open Go
theorem Dt.small{m:Nat}:∀ t:Tm,Dt m t->aw t:=Tm.ind fun t ih h=>by
 refine .mk ?_ fun a ha=>ih a ha (h.sub ha)
 cases h with
 |var _=>exact J1 _
 |word=>exact J1 _
 |app _ h _=>exact G8 h (by decide)
end Go.Q
end
section
/- Comparisons: a program with itself,turned about,and what a difference says. -/
namespace Go.Q
open Go
noncomputable def rnA(x:SyM)(c:Int):Option zd:=oq x.d (S.instR x.v x.t c) 200
def opn(x y:SyM)(c:Int):Prop:=¬ ∃ p q,rnA x c=some p/\rnA y c=some q/\p.o=1/\q.o=1
end Go.Q
end
section
/- Drawn terms,rules and definitions: their bounds. -/
namespace Go.Q
open Go
structure Wn(m:Nat)(t:Tm):Prop where
 w:Wt t
 n:t.nodes<=m
theorem Wn.mono{m k:Nat}{t:Tm}(h:Wn m t)(hm:m<=k):Wn k t:=⟨h.w,G8 h.n hm⟩
theorem Wn.small{m:Nat}{t:Tm}(h:Wn m t)(hm:m<=1048576):aw t:=ao _ (by have:=h.n;omega)
theorem yl{k n:Int}{s:ByteArray}{as:List Tm}(hk:-1000<=k)(hk':k<=1000)(hn:-1000<=n)(hn':n<=1000)(hs:s.size<=1000)(hl:as.length<=1000)(h:∀ a∈as,Wt a):Wt (.mk k n s as) :=
 .mk (S.i64ok_of (by show _<=k;omega) (by show k<=_;omega)) (S.i64ok_of (by show _<=n;omega) (by show n<=_;omega)) (by show s.size<=maxLen;unfold maxLen;omega) (by show as.length<=maxLen;unfold maxLen;omega) h
theorem Dt.wt{m:Nat}(hm:m<=1000):∀ t:Tm,Dt m t->Wt t:=Tm.ind fun t ih h=>by
 have hs:∀ a∈t.as,Wt a:=fun a ha=>ih a ha (h.sub ha)
 cases h with
 |var h=>exact yl (by decide) (by decide) (by decide) (by decide) (by omega) (by simp) hs
 |word h1 h2=>exact yl (by decide) (by decide) (by omega) (by omega) (by decide) (by simp) hs
 |app h1 h2 _=>exact yl (by decide) (by decide) (by decide) (by decide) (by omega) (by omega) hs
theorem Dt.wn{k m:Nat}{t:Tm}(h:Dt k t)(hk:k<=1000)(hm:t.nodes<=m):Wn m t:=⟨Dt.wt hk t h,hm⟩
def tV(s:ByteArray):Tm:=.mk 1 0 s []
def tW(n:Int):Tm:=.mk 3 n ⟨#[]⟩ []
def tC(s:ByteArray):Tm:=.mk 2 0 s []
def tO(s:ByteArray)(t:Tm):Tm:=.mk 2 0 s [t]
def tP(s:ByteArray)(t u:Tm):Tm:=.mk 2 0 s [t,u]
theorem Cd{s:ByteArray}(h:s.size<=1000):Wn 1 (tV s):=⟨yl (by decide) (by decide) (by decide) (by decide) h (by simp) (by simp),by simp[tV,Tm.nodes,Tm.nodesL]⟩
theorem vp{n:Int}(h:0<=n)(h1:n<=255):Wn 1 (tW n):=⟨yl (by decide) (by decide) (by omega) (by omega) (by decide) (by simp) (by simp),by simp[tW,Tm.nodes,Tm.nodesL]⟩
theorem Ts{s:ByteArray}(h:s.size<=1000):Wn 1 (tC s):=⟨yl (by decide) (by decide) (by decide) (by decide) h (by simp) (by simp),by simp[tC,Tm.nodes,Tm.nodesL]⟩
theorem ow{s:ByteArray}{m:Nat}{t:Tm}(h:s.size<=1000)(ht:Wn m t):Wn (m+1) (tO s t):=⟨yl (by decide) (by decide) (by decide) (by decide) h (by simp) (by simpa using ht.w),by have:=ht.n;simp[tO,Tm.nodes,Tm.nodesL];omega⟩
theorem gp{s:ByteArray}{m k:Nat}{t u:Tm}(h:s.size<=1000)(ht:Wn m t)(hu:Wn k u):Wn (m+k+1) (tP s t u):=⟨yl (by decide) (by decide) (by decide) (by decide) h (by simp) (by simp[ht.w,hu.w]),by have:=ht.n;have:=hu.n;simp[tP,Tm.nodes,Tm.nodesL];omega⟩
theorem ae8{m:Nat}{t:Tm}(h:Wn m t):Wn m (rW t):=⟨Nh t h.w,G8 (gu t) h.n⟩
structure GuW(g:Gu):Prop where
 k:0<=g.k/\g.k<=5
 l:Wn 3000 g.l
 r:Wn 3000 g.r
theorem GuW.b{g:Gu}(h:GuW g):GuB g:=⟨h.l.w,h.r.w,by have:=h.l.n;omega,by have:=h.r.n;omega⟩
structure RuW(u:RuM):Prop where
 n:u.n.size<=1000
 l:Wn 3000 u.l
 r:Wn 3000 u.r
 g:u.g.length<=10
 ga:∀ g∈u.g,GuW g
theorem RuW.b{r:RuM}(h:RuW r):RuB r:=⟨by have:=h.n;unfold maxLen;omega,h.l.w,h.r.w,by have:=h.l.n;omega,by have:=h.r.n;omega,by have:=h.g;omega,fun g hg=>(h.ga g hg).b⟩
structure DfW(d:DfM):Prop where
 so:d.so.length<=10
 sos:∀ x∈d.so,x.size<=1000
 op:d.op.length<=10
 opa:∀ o∈d.op,o.n.size<=1000/\o.a.length<=10/\(∀ x∈o.a,x.size<=1000)/\o.r.size<=1000
 ru:d.ru.length<=10
 rua:∀ r∈d.ru,RuW r
 st:d.st.length<=10
theorem DfW.sig{d:DfM}(h:DfW d):pu d.op:=⟨by have:=h.op;omega,fun o ho=>by have:=(h.opa o ho).2.1;show o.a.length<=_;omega⟩
theorem DfW.b{d:DfM}(h:DfW d):DfB d:=⟨by have:=h.so;omega,fun x hx=>by have:=h.sos x hx;unfold maxLen;omega,h.sig,fun o ho=>by have:=(h.opa o ho).1;unfold maxLen;omega,by have:=h.ru;omega,fun r hr=>(h.rua r hr).b,by have:=h.st;omega⟩
def jr:List ByteArray:=[⟨#[101]⟩,⟨#[107]⟩]
def jb:List OpM:=[⟨⟨#[97]⟩,[],⟨#[101]⟩⟩,⟨⟨#[98]⟩,[],⟨#[101]⟩⟩,⟨⟨#[103]⟩,[⟨#[101]⟩],⟨#[101]⟩⟩,⟨⟨#[102]⟩,[⟨#[101]⟩,⟨#[101]⟩],⟨#[101]⟩⟩,⟨⟨#[104]⟩,[⟨#[101]⟩,⟨#[119,111,114,100]⟩],⟨#[101]⟩⟩,⟨⟨#[110,117,109]⟩,[⟨#[119,111,114,100]⟩],⟨#[101]⟩⟩,⟨⟨#[116,111,112]⟩,[⟨#[101]⟩],⟨#[107]⟩⟩]
def opW(o:OpM):Bool:=decide (o.n.size<=1000)&&(decide (o.a.length<=10)&&(o.a.all (fun x=>decide (x.size<=1000))&&decide (o.r.size<=1000)))
theorem Tt{o:OpM}(h:opW o=true):o.n.size<=1000/\o.a.length<=10/\(∀ x∈o.a,x.size<=1000)/\o.r.size<=1000:=by
 simp only[opW,B8,decide_eq_true_eq,E3] at h;exact⟨h.1,h.2.1,h.2.2.1,h.2.2.2⟩
theorem xg:∀ o∈jb,o.n.size<=1000/\o.a.length<=10/\(∀ x∈o.a,x.size<=1000)/\o.r.size<=1000:=fun o ho=>Tt (E3.1 (show jb.all opW=true from by decide) o ho)
theorem Ei:∀ x∈jr,x.size<=1000:=fun x hx=>by
 have:=E3.1 (show jr.all (fun x=>decide (x.size<=1000))=true from by decide) x hx
 simpa using this
end Go.Q
end
section
/- All steps of a term;a trace replayed;runs and traces. -/
namespace Go.Q
open Go
end Go.Q
end
section
/- A symbolic step stands for the step of every case;the tests of a symbolic term. -/
namespace Go.Q
open Go
theorem ab6{k n:Int}{s:ByteArray}{as:List Tm}(h:isB s=false):rW1 k n s as=.mk k n s as:=by
 unfold rW1;split
 ·rw[H6 (by rw[h];simp)]
 ·rfl
theorem xh(k n:Int)(s:ByteArray)(as:List Tm):rW1 k n s as=.mk k n s as\/∃ x y,as=[x,y]/\k=2/\n=0/\isB s=true/\isW x=true/\isW y=true/\rW1 k n s as=.mk 3 (cmp s x.n y.n) ⟨#[]⟩ []:=by
 unfold rW1;split
 ·rename_i x y
  split
  ·rename_i h
   exact .inr ⟨x,y,rfl,h.1,h.2.1,h.2.2.1,h.2.2.2.1,h.2.2.2.2,rfl⟩
  ·exact .inl rfl
 ·exact .inl rfl
theorem Tu{x:Tm}(h:isW x=true):x.k=3/\x.as=[]:=by
 simp only[isW,B8,decide_eq_true_eq] at h;exact⟨h.1,F7.1 h.2.2.2.2⟩
theorem Tv{l:List Bnd}{x:Tm}(h:isW x=true):aS l x=x:=by
 obtain⟨h1,h2⟩:=Tu h;exact Mb _ fun w hw=>by
  rw[wm h] at hw;simp at hw
theorem Tw{x:Tm}(h:isW x=true):rW x=x:=by
 obtain⟨h1,h2⟩:=Tu h;rw[ez,h2];unfold rW1;simp only[D3];exact Tm.eta rfl rfl rfl h2.symm
theorem Tx(l:List Bnd):∀ t,rW (aS l (rW t))=rW (aS l t):=Tm.ind fun t ih=>by
 rw[ez t];by_cases hb:∃ v,t.k=1/\bnd l t.s=some v
 ·obtain⟨v,hk,hb⟩:=hb
  rcases xh t.k t.n t.s (t.as.map rW) with e |⟨x,y,_,hk2,_⟩
  ·rw[e,gv hk hb,gv (t:=.mk t.k t.n t.s (t.as.map rW)) hk hb]
  ·omega
 ·have hf:t.k=1->bnd l t.s=none:=fun hk=>by
   cases hq:bnd l t.s with
   |none=>rfl
   |some v=>exact absurd ⟨v,hk,hq⟩ hb
  have hm:((t.as.map rW).map (aS l)).map rW=(t.as.map (aS l)).map rW:=by
   rw[K2,K2,K2];exact K9 fun a ha=>ih a ha
  rcases xh t.k t.n t.s (t.as.map rW) with e |⟨x,y,exy,hk2,hn0,hB,hx,hy,e⟩
  ·rw[e,dz (t:=.mk t.k t.n t.s (t.as.map rW)) hf,dz hf,ez,ez]
   simp only[Tm.as_mk,Tm.k_mk,Tm.s_mk,Tm.n];rw[hm]
  ·rw[e]
   have hr:rW (aS l (.mk 3 (cmp t.s x.n y.n) ⟨#[]⟩ []))=.mk 3 (cmp t.s x.n y.n) ⟨#[]⟩ []:=by
    have h1:aS l (.mk 3 (cmp t.s x.n y.n) ⟨#[]⟩ [])=.mk 3 (cmp t.s x.n y.n) ⟨#[]⟩ []:=Mb _ fun w hw=>by
     rw[Tm.names_eq] at hw;simp[Tm.k,Tm.as] at hw
    rw[h1,ez];rfl
   rw[hr,dz hf,ez];simp only[Tm.as_mk,Tm.k_mk,Tm.s_mk,Tm.n];rw[<-hm,exy];simp only[C4,D3,Tv hx,Tv hy,Tw hx,Tw hy];rw[<-exy];exact e.symm
theorem Ty{l:List Bnd}(Y:Tm):∀ (p:List Int) (t v:Tm),t.areN=true->atT t p=some v->aS l (co t p Y)=co (aS l t) p (aS l Y)
 | [],t,v,_,_=>rfl
 |i::p,t,v,hn,h=>by
  obtain⟨hi,h0,h1⟩:=cu h;have hk:t.k≠1:=fun hk=>by
   rcases ce hn with ⟨_,e⟩|⟨_,_,e⟩ |e
   ·rw[e] at hi;simp at hi
   ·rw[e] at hi;simp at hi
   ·omega
  have ih:=Ty (l:=l) Y p _ v (cr hn (C0 hi)) h1;have e1:co t (i::p) Y=.mk t.k t.n t.s (t.as.set i.toNat (co t.as[i.toNat] p Y)):=by rw[co,dif_pos hi]
  have e2:aS l t=.mk t.k t.n t.s (t.as.map (aS l)):=dz fun h=>absurd h hk
  have hi2:i.toNat<(Tm.mk t.k t.n t.s (t.as.map (aS l))).as.length:=by rw[Tm.as_mk,B6];exact hi
  rw[e1,e2,co,dif_pos hi2,dz (t:=.mk t.k t.n t.s (t.as.set i.toNat (co t.as[i.toNat] p Y))) fun h=>absurd h hk]
  simp only[Tm.as_mk,Tm.k_mk,Tm.s_mk,Tm.n,V1,O2,ih]
def NB:Tm->List Int->Prop
 |_,[]=>True
 |t,i::p=>isB t.s=false/\∃ h:i.toNat<t.as.length,NB t.as[i.toNat] p
theorem Kc(Z:Tm):∀ (p:List Int) (t:Tm),NB (rW t) p->rW (co t p Z)=co (rW t) p (rW Z)
 | [],t,_=>rfl
 |i::p,t,h=>by
  obtain⟨hB,hi,h1⟩:=h;have e0:=ez t;rcases xh t.k t.n t.s (t.as.map rW) with e |⟨x,y,_,_,_,_,_,_,e⟩
  ·rw[e] at e0
   have hs:isB t.s=false:=by rw[e0] at hB;exact hB
   have hi':i.toNat<t.as.length:=by
    have:=hi;rw[e0,Tm.as_mk,B6] at this;exact this
   have h2:NB (rW t.as[i.toNat]) p:=by
    have e3:(rW t).as[i.toNat]=rW t.as[i.toNat]:=by simp only[e0,Tm.as_mk,O2]
    rw[<-e3];exact h1
   have ih:=Kc Z p t.as[i.toNat] h2;have e4:co (rW t) (i::p) (rW Z)=.mk t.k t.n t.s ((t.as.map rW).set i.toNat (co (rW t.as[i.toNat]) p (rW Z))):=by
    rw[e0,co,dif_pos (by rw[Tm.as_mk,B6];exact hi')]
    simp only[Tm.as_mk,Tm.k_mk,Tm.s_mk,Tm.n,O2]
   rw[e4,co,dif_pos hi',ez];simp only[Tm.as_mk,Tm.k_mk,Tm.s_mk,Tm.n];rw[ab6 hs,V1,ih]
  ·rw[e] at e0
   rw[e0] at hi;simp[Tm.as] at hi
theorem ab7{d:DfM}(hd:DfG d){t:Tm}{i:Int}(h:i∈stL d.st t):isB t.s=false:=by
 have hv:=hd.v;simp only[DfM.valid,B8] at hv;unfold stL at h;split at h
 ·unfold kr at h
  obtain⟨x,hx,rfl⟩:=F8.1 h;obtain⟨h1,h2⟩:=P1.1 hx;have h3:=wy d.op d.st [] hv.2.2.2.2.1 x h1;simp only[decide_eq_true_eq] at h2;unfold Lj at h3;rw[h2] at h3;split at h3
  ·simp at h3
  ·simp only[B8,E8] at h3
   exact h3.1
 ·simp at h
theorem ae9{d:DfM}(hd:DfG d):∀ t i p,nx d t=some (i,p)->NB t p:=Tm.ind fun t ih i p h=>by
 rw[Nk] at h;cases hp:lb (stL d.st t) (t.as.map (nx d)) with
 |some x =>
  rw[hp] at h;simp only[C9.injEq] at h;subst h;unfold lb at hp;obtain⟨a,ha,he⟩:=V0 hp;split at he
  ·rename_i h0
   rw[Q9] at he;cases hq:t.as[a.toNat]? with
   |none=>rw[hq] at he;simp at he
   |some u =>
    rw[hq] at he;simp only[K7] at he;obtain⟨hlt,hu⟩:=E4.1 hq;cases hn:nx d u with
    |none=>rw[hn] at he;simp at he
    |some y =>
     rw[hn] at he;simp only[C9.injEq,G9.injEq] at he;obtain⟨rfl,rfl⟩:=he;exact⟨ab7 hd ha,hlt,by rw[hu];exact ih u (hu▸C0 hlt) y.1 y.2 hn⟩
  ·simp at he
 |none =>
  rw[hp] at h;simp only at h;cases hr:ol d.ru t with
  |none=>rw[hr] at h;simp at h
  |some j =>
   rw[hr] at h;simp only[K7,C9.injEq,G9.injEq] at h;obtain⟨_,rfl⟩:=h;trivial
theorem Tz:∀ t,t.areN=true->∀ u l l',mT t u l=some l'->∀ s∈t.names,bnd l' s≠none:=Tm.ind fun t ih hn u l l' h s hs=>by
 by_cases hk:t.k=1
 ·have e:=Tp hk h
  rcases(dg t s).1 hs with ⟨_,rfl⟩|⟨a,ha,_⟩
  ·rw[e];simp
  ·rcases ce hn with ⟨_,e⟩|⟨_,_,e⟩ |e
   ·rw[e] at ha;simp at ha
   ·rw[e] at ha;simp at ha
   ·omega
 ·rcases fo h with ⟨q,_⟩|⟨q,_⟩|⟨_,_,_,_,e4,h⟩
  ·exact absurd q hk
  ·exact absurd q hk
  ·have key:∀ (ts us:List Tm) (l l':List Bnd),(∀ a∈ts,a∈t.as)->mTs ts us l=some l'->∀ a∈ts,∀ s∈a.names,bnd l' s≠none:=by
    intro ts;induction ts with
    |nil=>intro us l l' _ _ a ha;simp at ha
    |cons b ts ihs =>
     intro us l l' hts h a ha s hs;cases us with
     |nil=>simp[mTs] at h
     |cons w us =>
      simp only[mTs] at h;split at h
      ·rename_i l1 h1
       rcases D9.1 ha with rfl |ha
       ·have h2:=ih a (hts a (C5 ..)) (cr hn (hts a (C5 ..))) w l l1 h1 s hs
        have x1:Ext l1 l':=zg (P:=fun _ _ l l'=>Ext l l') (Q:=fun _ _ l l'=>Ext l l') (fun _ l=>Ext.refl l) (fun _ _ _ _ _ _ _ h k=>h.trans k) _ _ _ _ (fun t ht u _ l l' h=>To t u l l' h) h
        cases hq:bnd l1 s with
        |none=>exact absurd hq h2
        |some v=>rw[x1 s v hq];simp
       ·exact ihs us l1 l' (fun x hx=>hts x (C6 _ hx)) h a ha s hs
      ·simp at h
   rcases(dg t s).1 hs with ⟨q,_⟩|⟨a,ha,hw⟩
   ·exact absurd q hk
   ·exact key _ _ _ _ (fun _ h=>h) h a ha s hw
theorem Zk{l:List Bnd}:∀ (q:List Int) (t a:Tm),t.areN=true->atT t q=some a->atT (aS l t) q=some (aS l a)
 | [],t,a,_,h=>by simp only[atT,C9.injEq] at h;subst h;simp only[atT]
 |i::q,t,a,hn,h=>by
  obtain⟨hi,h0,h1⟩:=cu h;have hk:t.k≠1:=fun hk=>by
   rcases ce hn with ⟨_,e⟩|⟨_,_,e⟩ |e
   ·rw[e] at hi;simp at hi
   ·rw[e] at hi;simp at hi
   ·omega
  rw[dz fun h=>absurd h hk,atT,dif_pos (by rw[Tm.as_mk,B6];exact hi),H5 h0]
  simp only[Tm.as_mk,O2];exact Zk q _ a (cr hn (C0 hi)) h1
theorem ab8{l B σ:List Bnd}:∀ t:Tm,(∀ s∈t.names,∃ b,bnd B s=some b/\bnd l s=some (rW (aS σ b)))->(t.areN=true)->rW (aS l t)=rW (aS σ (aS B t)):=Tm.ind fun t ih h hn=>by
 by_cases hk:t.k=1
 ·obtain⟨b,h1,h2⟩:=h t.s ((dg t _).2 (.inl ⟨hk,rfl⟩))
  rw[gv hk h2,gv hk h1,Zf]
 ·rw[dz fun h=>absurd h hk,dz (l:=B) fun h=>absurd h hk,dz (t:=.mk t.k t.n t.s (t.as.map (aS B))) fun h=>absurd h hk,ez,ez]
  simp only[Tm.as_mk,Tm.k_mk,Tm.s_mk,Tm.n];congr 1
  rw[K2,K2,K2];exact K9 fun a ha=>ih a ha (fun s hs=>h s ((dg t s).2 (.inr ⟨a,ha,hs⟩))) (cr hn ha)
theorem sim{d:DfM}{v:List ByteArray}{t:Tm}(hb:DfB d)(hw:Wt t)(hs:jn d v t=true){c:Int}(hc:isC v.length c=true){x:Nat×List Int}(hx:nx d (bt v t c)=some x):bt v (da d t x) c=di d (bt v t c) x.1 x.2:=by
 obtain⟨hd,htn,hg,hgn,_⟩:=xc hb hw hs hc;have hs':=hs;simp only[jn,B8,E8,decide_eq_false_iff_not] at hs';obtain⟨s1,s2,s3,s4,s5,s6,s7⟩:=hs';have hna:=cm s5;obtain⟨u',r,w',q1,q2,q3⟩:=uz d (bt v t c) x.1 x.2 hx;have hst:di d (bt v t c) x.1 x.2=co (bt v t c) x.2 w':=by unfold di;rw[q1,q2];simp only[q3]
 obtain⟨u,hu,rfl⟩:=vi (vf v c) x.2 t u' q1;have hnb:=ae9 hd (bt v t c) x.1 x.2 hx;have hr:=hd.ru (N1 q2);have hrw:∀ s∈r.r.names,s∈r.l.names:=by
  have:=hd.v;simp only[DfM.valid,B8,E3] at this;exact By (this.2.2.2.1 r (N1 q2))
 have hln:=cm hr.lv;have hrn:=cm hr.rv;unfold gh at q3;cases hm:mT r.l (rW (aS (bi v c) u)) [] with
 |none=>rw[hm] at q3;simp at q3
 |some l =>
 rw[hm] at q3;simp only at q3;split at q3
 case isFalse=>simp at q3
 simp only[C9.injEq] at q3;have hap:=ab2 _ _ _ _ hm l (Ext.refl _);have hbd:∀ s∈r.r.names,∃ b,bnd (jq r.l u) s=some b/\bnd l s=some (rW (aS (bi v c) b)):=fun s hs=>by
  obtain⟨b,hb1⟩:=Bv (u:=u) (hrw s hs);refine⟨b,hb1,?_⟩;obtain⟨q,a,a1,a2,a3,rfl⟩:=Ee (vh hb1);have a4:=Zk (l:=l) q r.l a hln a1;rw[hap] at a4;obtain⟨b',b1,b2⟩:=vi (vf v c) q u _ a4;have b3:atO u q=b':=by unfold atO;rw[b1];rfl
  rw[b3,<-b2];cases hq:bnd l s with
  |none=>exact absurd hq (Tz r.l hln _ _ _ hm s (hrw s hs))
  |some w=>rw[gv a2 (by rw[a3];exact hq)]
 have h4:=ab8 (σ:=bi v c) r.r hbd hrn;have hat:atO t x.2=u:=by unfold atO;rw[hu];rfl
 rw[hst];unfold da;rw[q2,hat];simp only;unfold bt;rw[Tx,Ty _ x.2 t u hna hu,Kc _ x.2 _ hnb,<-h4,q3]
end Go.Q
end
section
/- The runs of the cases of a path;the tests of different paths. -/
namespace Go.Q
open Go
theorem Ua{out:List (Bk×List Int)}{P:Bk->Int->Prop}(h:∀ b∈out,∀ c∈b.2,P b.1 c){x:Bk}{c:Int}(hc:P x c):∀ b∈ou out x c,∀ c∈b.2,P b.1 c:=by
 intro b hb c' hc';cases hf:Br out x with
 |some j =>
  obtain⟨hj,e⟩:=zk hf;rw[qq hf hj] at hb;rcases K4 hb with hb |rfl
  ·exact h b hb c' hc'
  ·rcases D4.1 hc' with hc' |hc'
   ·exact h _ (C0 hj) c' hc'
   ·rw[E7.1 hc'];show P out[j].1 c;rw[e];exact hc
 |none =>
  rw[qr hf] at hb;rcases D4.1 hb with hb |hb
  ·exact h b hb c' hc'
  ·rw[E7.1 hb] at hc' ⊢
   rw[E7.1 hc'];exact hc
theorem Ny(d:DfM)(v:List ByteArray)(t:Tm):∀ (l:List Int) (out:List (Bk×List Int)),(∀ b∈out,∀ c∈b.2,nx d (bt v t c)=b.1)->∀ b∈brF d v t l out,∀ c∈b.2,nx d (bt v t c)=b.1
 | [],out,h=>by simpa only[brF] using h
 |c::r,out,h=>by
  simp only[brF];exact Ny d v t r _ (Ua (P:=fun k c=>nx d (bt v t c)=k) h rfl)
theorem Pu(out:List (Bk×List Int))(x:Bk)(c:Int):((ou out x c).flatMap (·.2)).Perm (out.flatMap (·.2)++[c]):=by
 cases hf:Br out x with
 |some j =>
  obtain⟨hj,e⟩:=zk hf;rw[qq hf hj,U4,H5 hj];have e1:out.flatMap (·.2)=(out.take j).flatMap (·.2)++(out[j].2++(out.drop (j+1)).flatMap (·.2)):=by
   conv=>lhs;rw[<-Q2 j out,B9 hj,S6,N8]
  rw[e1,S6,N8];simp only[E5];refine List.Perm.append_left _ (List.Perm.append_left _ ?_);exact List.perm_append_comm
 |none =>
  rw[qr hf,S6];simp
theorem Kd(d:DfM)(v:List ByteArray)(t:Tm):∀ (l:List Int) (out:List (Bk×List Int)),((brF d v t l out).flatMap (·.2)).Perm (out.flatMap (·.2)++l)
 | [],out=>by simp only[brF,J0];exact List.Perm.refl _
 |c::r,out=>by
  simp only[brF];refine(Kd d v t r _).trans ?_;have:=(Pu out (nx d (bt v t c)) c).append_right r;rwa[E5] at this
end Go.Q
end
section
/- Paths: their traces,and that none is without a case. -/
namespace Go.Q
open Go
end Go.Q
end
section
/- Runs that are computed: an evaluator of shallow functions is Rs. Open cases where a case may be none. -/
namespace Go.Q
open Go
def pS(f:ByteArray->List D->R):List D->R
 |.str x::l=>f x l
 |_=>none
def pI(f:Int->List D->R):List D->R
 |.int x::l=>f x l
 |_=>none
def pB(f:Bool->List D->R):List D->R
 |.bool x::l=>f x l
 |_=>none
def pL(f:aa->List D->R):List D->R
 |.sl x::l=>f x l
 |_=>none
def pE(b:R):List D->R
 | []=>b
 |_=>none
def Sd(H:Tab)(P:Program)(c:Key->List D->R)(k:Key)(pre:List D->List D)(v:List D->R):Prop:=∀ l r,v l=some r->step H c P k (pre l)=some r
section
variable{H:Tab}{P:Program}{c:Key->List D->R}{k:Key}{pre:List D->List D}
theorem Sd.S{f:ByteArray->List D->R}(h:∀ x,Sd H P c k (fun l=>pre (.str x::l)) (f x)):Sd H P c k pre (pS f):=fun l r e=>by
 unfold pS at e;split at e
 ·exact h _ _ _ e
 ·simp at e
theorem Sd.I{f:Int->List D->R}(h:∀ x,Sd H P c k (fun l=>pre (.int x::l)) (f x)):Sd H P c k pre (pI f):=fun l r e=>by
 unfold pI at e;split at e
 ·exact h _ _ _ e
 ·simp at e
theorem Sd.B{f:Bool->List D->R}(h:∀ x,Sd H P c k (fun l=>pre (.bool x::l)) (f x)):Sd H P c k pre (pB f):=fun l r e=>by
 unfold pB at e;split at e
 ·exact h _ _ _ e
 ·simp at e
theorem Sd.L{f:aa->List D->R}(h:∀ x,Sd H P c k (fun l=>pre (.sl x::l)) (f x)):Sd H P c k pre (pL f):=fun l r e=>by
 unfold pL at e;split at e
 ·exact h _ _ _ e
 ·simp at e
theorem Sd.E{b:R}(h:step H c P k (pre [])=b):Sd H P c k pre (pE b):=fun l r e=>by
 unfold pE at e;split at e
 ·exact h.trans e
 ·simp at e
end
theorem cnd{b:Bool}{x y:R}{r:Nat×List D}{Q:Prop}(h:(bif b then x else y)=some r)(h1:b=true->x=some r->Q)(h2:b=false->y=some r->Q):Q:=by
 cases b
 ·exact h2 rfl h
 ·exact h1 rfl h
def tNn:Tm:=tV ⟨#[78]⟩
def tMm:Tm:=tV ⟨#[77]⟩
def je:DfM:=⟨[⟨#[99]⟩],[⟨⟨#[108,111,111,112]⟩,[⟨#[119,111,114,100]⟩,⟨#[119,111,114,100]⟩],⟨#[99]⟩⟩,⟨⟨#[100,111,110,101]⟩,[⟨#[119,111,114,100]⟩],⟨#[99]⟩⟩],
 [⟨⟨#[116,117,114,110]⟩,tP ⟨#[108,111,111,112]⟩ tNn tMm,tP ⟨#[108,111,111,112]⟩ (tP ⟨#[109,105,110,117,115]⟩ tNn (tW 1)) (tP ⟨#[112,108,117,115]⟩ tMm (tW 1)),[⟨3,tW 0,tNn⟩]⟩,⟨⟨#[101,110,100]⟩,tP ⟨#[108,111,111,112]⟩ (tW 0) tMm,tO ⟨#[100,111,110,101]⟩ tMm,[]⟩],[]⟩
theorem qb:DfW je:=by
 have n1:Wn 1 tNn:=Cd (by decide)
 have m1:Wn 1 tMm:=Cd (by decide)
 have w0:Wn 1 (tW 0):=vp (by decide) (by decide)
 have w1:Wn 1 (tW 1):=vp (by decide) (by decide)
 refine⟨by decide,fun x hx=>?_,by decide,fun o ho=>Tt (E3.1 (show je.op.all opW=true from by decide) o ho),by decide,fun r hr=>?_,by decide⟩
 ·have:=E3.1 (show je.so.all (fun x:ByteArray=>decide (x.size<=1000))=true from by decide) x hx
  simpa using this
 ·simp only[je,D9,N2,or_false] at hr
  rcases hr with rfl |rfl
  ·refine⟨by decide,(gp (by decide) n1 m1).mono (by decide),(gp (by decide) (gp (by decide) n1 w1) (gp (by decide) m1 w1)).mono (by decide),by simp,fun g hg=>?_⟩
   rw[E7.1 hg];exact⟨by decide,w0.mono (by decide),n1.mono (by decide)⟩
  ·exact⟨by decide,(gp (by decide) w0 m1).mono (by decide),(ow (by decide) m1).mono (by decide),by simp,by simp⟩
structure ClW(vl:List ByteArray)(lt rt:Tm)(gl:List Gu):Prop where
 v:vl.length<=20
 vs:∀ x∈vl,x.size<=1000
 l:Wn 3000 lt
 r:Wn 3000 rt
 g:gl.length<=20
 ga:∀ x∈gl,GuW x
theorem ClW.b{v:List ByteArray}{l r:Tm}{g:List Gu}(h:ClW v l r g){d:DfM}(hd:DfB d):ClB ⟨d,v,l,r,g⟩ :=
 ⟨hd,by have:=h.v;show v.length<=_;omega,fun x hx=>by have:=h.vs x hx;unfold maxLen;omega,h.l.w,h.r.w,by have:=h.l.n;show l.nodes<=_;omega,by have:=h.r.n;show r.nodes<=_;omega,by have:=h.g;show g.length<=_;omega,fun x hx=>(h.ga x hx).b⟩
end Go.Q
end
section
/- Proofs that are found are right;claims that are proved have no refutation. -/
namespace Go.Q
open Go
def At(ns:List PnM)(b:Nat)(l:List PnM):Prop:=∃ pre post,ns=pre++(l++post)/\pre.length=b
theorem At.fst{ns:List PnM}{b:Nat}{x:PnM}{l:List PnM}(h:At ns b (x::l)):ns[b]?=some x/\b<ns.length/\At ns (b+1) l:=by
 obtain⟨pre,post,rfl,rfl⟩:=h;refine⟨by simp,by simp,pre++[x],post,by simp,by simp⟩
theorem At.app{ns:List PnM}{b:Nat}{l m:List PnM}(h:At ns b (l++m)):At ns b l/\At ns (b+l.length) m:=by
 obtain⟨pre,post,rfl,rfl⟩:=h;exact⟨⟨pre,m++post,by simp,rfl⟩,⟨pre++l,post,by simp,by simp⟩⟩
def Rch(d:DfM)(N:Nat)(u w:Tm):Prop:=∃ x∈u::(ft d N u).st,x.row=w.row
theorem Yc{g:ClM}{t:Tm}{cl:List Int}{k:Int}(hk:k∈cl)(h:k∉opC g t cl):(S.instR g.v t k).row=(S.instR g.v g.r k).row:=by
 unfold opC at h;rw[P1] at h;simp only[hk,true_and,E8,Bool.not_eq_false] at h;exact gc.1 h
theorem Yd{d:DfM}(hd:DfB d){cs:List ClM}{g:ClM}{ns:List PnM}{n:Nat}(hv:∀ c∈cs,True)
 (ih:∀ N,N<n->∀ c∈cs,∀ k∈gf c.v c.g,(ft d N (bt c.v c.l (k:Int))).o=1->Rch d N (bt c.v c.l (k:Int)) (S.instR c.v c.r (k:Int))) :
 ∀ (f:Nat) (m:Int) (t:Tm) (cl:List Int) (st:Bool),StG d g.v t cl->rgt d cs g ns f m t cl st=true->∀ k∈cl,∀ N,N<=n->(st=true->N<n)->(ft d N (bt g.v t k)).o=1->Rch d N (bt g.v t k) (S.instR g.v g.r k):=by
 intro f;induction f with
 |zero=>intro m t cl st _ h;simp[rgt] at h
 |succ f ihf =>
  intro m t cl st hs h k hk N hN hst ho;have hC:isC g.v.length k=true:=cz cl none hs.c k hk;have eI:S.instR g.v t k=bt g.v t k:=by unfold S.instR;rw[H5 hC]
  by_cases hop:k∈opC g t cl
  case neg=>exact⟨_,C5 ..,by rw[<-eI];exact Yc hk hop⟩
  unfold rgt at h;split at h
  ·simp at h
  rename_i hm0;cases hx:ns[m.toNat]? with
  |none=>rw[hx] at h;simp at h
  |some x =>
   rw[hx] at h;simp only at h;split at h
   ·rw[decide_eq_true_eq] at h
    rw[F7.1 h] at hop;simp at hop
   split at h
   ·rw[B8,decide_eq_true_eq,E3] at h
    obtain⟨h1,h2⟩:=h;have hs2:StG d g.v t (opC g t cl):=hs.op (O8 ..);obtain⟨b,hb,hkb⟩:=K3.1 ((Kd d g.v t (opC g t cl) []).mem_iff.2 (by simpa using hop))
    obtain⟨i,hi,rfl⟩:=T6 hb;have hz:((brF d g.v t (opC g t cl) [])[i],x.nx[i]'(by omega))∈(brF d g.v t (opC g t cl) []).zip x.nx:=by
     have:i<((brF d g.v t (opC g t cl) []).zip x.nx).length:=by rw[List.length_zip];omega
     have e:((brF d g.v t (opC g t cl) []).zip x.nx)[i]=_:=List.getElem_zip;rw[<-e];exact C0 this
    have h3:=h2 _ hz;simp only[B8,decide_eq_true_eq,E8,decide_eq_false_iff_not] at h3;obtain⟨h4,_,h5⟩:=h3;have hkey:=Ny d g.v t (opC g t cl) [] (by simp) _ hb k hkb
    have hnx:=hs2.next hd hb h4;have h6:=ihf _ _ _ true hnx h5 k hkb;generalize (brF d g.v t (opC g t cl) [])[i]=b at hb hkb h4 h5 hkey hnx h6;cases hq:b.1 with
    |none=>rw[hq] at h4;simp[bK] at h4
    |some y =>
     rw[hq] at hkey hnx h6 h4;have hvv:(da d t y).valid=true:=by
      have h7:(if (da d t y).valid=true then (2:Int) else 3)=2:=h4
      split at h7
      ·assumption
      ·simp at h7
     have e:bT d t (some y)=da d t y:=by show(if (da d t y).valid=true then da d t y else tm0)=_;rw[H5 hvv]
     rw[e] at hnx h6;have hsim:=sim hd hs.w hs.s hC hkey;have hval:(di d (bt g.v t k) y.1 y.2).valid=true:=by
      have:=Bj hnx.s hC;rw[hsim] at this;simp only[cfg,B8] at this;exact this.2.1
     cases N with
     |zero=>rw[xa hkey] at ho;simp at ho
     |succ N =>
      rw[zj hkey hval,<-hsim] at ho;obtain⟨z,z1,z2⟩:=h6 N (by omega) (fun _=>by omega) ho
      refine⟨z,?_,z2⟩;rw[zj hkey hval,<-hsim];exact C6 _ z1
   split at h
   ·rw[B8] at h
    obtain⟨h1,h2⟩:=h;have hN2:=hst h1;cases hcl:qa cs x.c with
    |none=>rw[hcl] at h2;simp at h2
    |some c =>
     rw[hcl] at h2;simp only[E3] at h2;have h3:=h2 k hop;unfold xd at h3;simp only[B8] at h3;obtain⟨p1,p2,p3,p4⟩:=h3;have hcm:c∈cs:=by
      unfold qa at hcl;split at hcl
      ·exact N1 hcl
      ·simp at hcl
     have hC2:=Gg p1;have hin:=Tg ((Jt hC2).trans p2);obtain⟨j,hj,ej⟩:=F8.1 hin;rw[<-ej] at p3 p4 hC2;have p3:=gc.1 p3;have p4:=gc.1 p4;have eJ:S.instR c.v c.l (j:Int)=bt c.v c.l (j:Int):=by unfold S.instR;rw[H5 hC2]
     rw[eI,eJ] at p3;have p5:=Nw _ _ p3;have:=ih N hN2 c hcm j hj (by rw[p5];exact ho)
     rw[p5] at this;obtain⟨z,z1,z2⟩:=this;exact⟨z,z1,z2.trans p4⟩
   ·simp at h
theorem Pv{d:DfM}(hd:DfB d){cs:List ClM}(hcs:∀ c∈cs,ClB c)(hcd:∀ c∈cs,c.d=d)(hv:∀ c∈cs,c.valid=true)
 (hp:∀ g∈cs,∃ ns:List PnM,rgt d cs g ns ns.length 0 g.l ((gf g.v g.g).map fun (i:Nat)=>(i:Int)) false=true) :
 ∀ n,∀ g∈cs,∀ k∈gf g.v g.g,(ft d n (bt g.v g.l (k:Int))).o=1->Rch d n (bt g.v g.l (k:Int)) (S.instR g.v g.r (k:Int)):=by
 intro n;induction n using Nat.strongRecOn with
 |_ n ih =>
  intro g hg k hk ho;obtain⟨ns,hr⟩:=hp g hg;have hst:=StG.start (hcs g hg) (hv g hg);rw[hcd g hg] at hst;exact Yd hd (fun _ _=>trivial) ih _ _ _ _ _ hst hr (k:Int) (List.mem_map_of_mem hk) n (F2 _) (by simp) ho
theorem Pw{d:DfM}(hd:DfB d){cs:List ClM}(hcs:∀ c∈cs,ClB c)(hcd:∀ c∈cs,c.d=d){ps:List (List PnM)}(h:Cp d cs ps=true):∀ g∈cs,Xs g=none:=by
 intro g hg;unfold Cp at h;simp only[B8,decide_eq_true_eq] at h;obtain⟨h1,h2,h3⟩:=h;have all:∀ (ps:List (List PnM)) (i:Nat),vj d cs i ps=true->∀ j (hj:j<ps.length),Bz d cs ((i+j:Nat):Int) ps[j]=true:=by
  intro ps;induction ps with
  |nil=>intro i _ j hj;simp at hj
  |cons p r ihp =>
   intro i h j hj;simp only[vj,B8] at h;cases j with
   |zero=>exact h.1
   |succ j =>
    have:=ihp (i+1) h.2 j (by simpa using hj)
    rw[show i+1+j=i+(j+1) by omega] at this
    exact this
 have hp:∀ j (hj:j<cs.length),er cs=true/\∃ ns:List PnM,rgt d cs cs[j] ns ns.length 0 cs[j].l ((gf cs[j].v cs[j].g).map fun (i:Nat)=>(i:Int)) false=true:=fun j hj=>by
  have:=all ps 0 h2 j (by omega)
  rw[Nat.zero_add] at this;unfold Bz at this;cases hq:xe cs (j:Int) with
  |none=>rw[hq] at this;simp at this
  |some g' =>
   rw[hq] at this;obtain⟨q1,q2,q3⟩:=mm hq;unfold qa at q3;rw[H5 (by omega),B7,F4 hj] at q3
   simp only[C9.injEq] at q3;subst q3;simp only[B8] at this;exact⟨q2,_,this.2⟩
 obtain⟨i,hi,rfl⟩:=T6 hg;have hvv:=(hp i hi).1;have hv:∀ c∈cs,c.valid=true:=E3.1 hvv;have hall:=Pv hd hcs hcd hv (fun g hg=>by
  obtain⟨j,hj,rfl⟩:=T6 hg;exact(hp j hj).2) 200 cs[i] hg
 unfold Xs;rw[H5 (hv _ hg),List.find?_eq_none];intro k hk hr;have hC:=Jj hk;have eI:S.instR cs[i].v cs[i].l (k:Int)=bt cs[i].v cs[i].l (k:Int):=by unfold S.instR;rw[H5 hC]
 rw[hcd _ hg] at hr;unfold Lq at hr;cases hR:oq d (S.instR cs[i].v cs[i].l (k:Int)) 200 with
 |none=>rw[hR] at hr;simp at hr
 |some r =>
  rw[hR] at hr;simp only[B8,decide_eq_true_eq,E8] at hr;unfold oq at hR;split at hR
  ·simp only[C9.injEq] at hR
   rw[eI] at hR hr;have e200:(200:Int).toNat=200:=rfl;rw[e200] at hR;obtain⟨x,x1,x2⟩:=hall k hk (by rw[hR];exact hr.1)
   rw[hR] at x1;have hrr:=hr.2;simp only[Lp,List.any_eq_false] at hrr;exact hrr x x1 (gc.2 x2)
  ·simp at hR
end Go.Q
end
