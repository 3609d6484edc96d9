/- The plain laws of what the functions answer, part 1. -/
import Derived.Test.YtebeihhcaaaaiaaGreatQC
set_option linter.unusedVariables false
set_option linter.unusedSimpArgs false
open Bool renaming and_eq_true->B9,true_and->D9,not_eq_true'->E7,and_false->P2,or_eq_true->Q5
open Int renaming tmod_lt_of_pos->P7,tmod_nonneg->R6
open List renaming length_map->B6,drop_eq_getElem_cons->B8,getElem_mem->C0,length_cons->C2,map_cons->C4,length_nil->C5,drop_length->C6,mem_cons_self->C7,mem_cons_of_mem->C8,map_nil->D4,map_append->D6,mem_append->D7,nil_append->D8,mem_cons->E1,append_assoc->E2,all_eq_true->E3,getElem?_eq_some_iff->E5,length_append->E6,mem_singleton->F1,cons_append->F2,getElem?_eq_getElem->F6,mem_map->F8,length_eq_zero_iff->F9,append_nil->G5,all_cons->J2,length_set->K0,sum_cons->K1,map_map->K3,mem_flatMap->K4,mem_or_eq_of_mem_set->K5,mem_of_getElem?->N0,map_congr_left->N1,not_mem_nil->N2,filter_sublist->N8,flatMap_cons->O1,filter_cons->O7,getElem_map->O8,find?_cons->P3,getD->P4,mem_filter->P6,any_eq_true->P8,take_append_drop->Q8,length_filter_le->Q9,getElem?_map->R4,cons->R5,mem_filterMap->S0,pairwise_cons->S1,mem_of_find?_eq_some->S5,length_filterMap_le->S8,flatMap_append->T0,filterMap_cons->T1,zip_cons_cons->T3,set_cons_succ->U3,range->U4,findIdx?_eq_some_iff_getElem->U5,set_eq_take_append_cons_drop->U6,take_succ_eq_append_getElem->V1,exists_of_findSome?_eq_some->V2,map_set->V3
open Nat renaming le_refl->E8,ble_eq_true_of_le->E9,zero_le->G9,le_trans->J0,mul_le_mul->V0
open Option renaming some->C9,map_some->K2,isSome_some->O5,map_none->U1
open Prod renaming mk->J1
section
namespace Go.Q
open Go
inductive Tm where
 |mk (k n:Int) (s:ByteArray) (as:List Tm)
namespace Tm
def k:Tm->Int |mk k _ _ _=>k
def n:Tm->Int |mk _ n _ _=>n
def s:Tm->ByteArray |mk _ _ s _=>s
def as:Tm->List Tm |mk _ _ _ as=>as
mutual
def row:Tm->List D
 |mk k n s as=>[.int k,.int n,.str s,.sl (rows as)]
def rows:List Tm->List (List D)
 | []=>[]
 |t::ts=>row t::rows ts
end
theorem Ja:∀ ts:List Tm,rows ts=ts.map row
 | []=>rfl
 |t::ts=>by simp only[rows,C4,Ja ts]
theorem row_eq(t:Tm):t.row=[.int t.k,.int t.n,.str t.s,.sl (t.as.map row)]:=by
 cases t;simp only[row,Ja,Tm.k,Tm.n,Tm.s,Tm.as]
theorem ind{P:Tm->Prop}(h:∀ t,(∀ a∈t.as,P a)->P t):∀ t,P t:=by
 have key:∀ (N:Nat) (t:Tm),SizeOf.sizeOf t<N->P t:=by
  intro N;induction N with
  |zero=>intro t ht;omega
  |succ N ih =>
   intro t ht;refine h t fun a ha=>ih a ?_
   cases t with
   |mk k n s as =>
    simp only[Tm.as] at ha;have:=List.sizeOf_lt_of_mem ha;simp only[mk.sizeOf_spec] at ht;omega
 exact fun t=>key _ t (Nat.lt_succ_self _)
end Tm
inductive au:Tm->Prop
 |mk {t:Tm}:t.as.length<=1048576->(∀ a∈t.as,au a)->au t
theorem au.len{t:Tm}(h:au t):t.as.length<=1048576:=by cases h;assumption
theorem au.sub{t a:Tm}(h:au t)(ha:a∈t.as):au a:=by cases h with |mk _ h=>exact h a ha
theorem kq(n:Int)(s:ByteArray)(k:Int):au (.mk k n s []):=.mk (by simp[Tm.as]) (by simp[Tm.as])
structure aj1(H:Tab)(e:TypeId)(lay:List CT):Prop where
 eq:lay=[.int .i64,.int .i64,.str,.sl e]
 ty:∃ ti,H.ty e=some ti/\ti.lay=lay
abbrev Bnd:=ByteArray×Tm
def Bnd.row(b:Bnd):List D:=.str b.1::b.2.row
theorem gq(b:Bnd):Bnd.row b=[.str b.1,.int b.2.k,.int b.2.n,.str b.2.s,.sl (b.2.as.map Tm.row)]:=by unfold Bnd.row;rw[Tm.row_eq]
def bnd:List Bnd->ByteArray->Option Tm
 | [],_=>none
 |b::r,s=>if b.1=s then some b.2 else bnd r s
def tm0:Tm:=.mk 0 0 ⟨#[]⟩ []
theorem eh{l:List Bnd}{s:ByteArray}{t:Tm}(h:bnd l s=some t):∃ b∈l,b.2=t:=by
 induction l with
 |nil=>simp[bnd] at h
 |cons b l ih =>
  simp only[bnd] at h;split at h
  ·exact⟨b,C7 ..,by simpa using h⟩
  ·obtain⟨b',h1,h2⟩:=ih h;exact⟨b',C8 _ h1,h2⟩
mutual
def aS(l:List Bnd):Tm->Tm
 |.mk k n s as=>match (if k=1 then bnd l s else none) with
  |some u=>u
  |none=>.mk k n s (aSs l as)
def aSs(l:List Bnd):List Tm->List Tm
 | []=>[]
 |t::ts=>aS l t::aSs l ts
end
theorem Nl(l:List Bnd):∀ ts,aSs l ts=ts.map (aS l)
 | []=>rfl
 |t::ts=>by simp only[aSs,C4,Nl l ts]
theorem ey(l:List Bnd)(t:Tm):aS l t=match (if t.k=1 then bnd l t.s else none) with
 |some u=>u
 |none=>.mk t.k t.n t.s (t.as.map (aS l)):=by cases t;simp only[aS,Nl,Tm.k,Tm.n,Tm.s,Tm.as];rfl
theorem mu{l:List Bnd}(hl:∀ b∈l,au b.2):∀ t,au t->au (aS l t):=Tm.ind fun t ih h=>by
 rw[ey];split
 ·rename_i u hu
  split at hu
  ·obtain⟨b,h1,rfl⟩:=eh hu;exact hl b h1
  ·simp at hu
 ·exact .mk (by simpa[Tm.as] using h.len) (fun a ha=>by
   simp only[Tm.as,F8] at ha;obtain⟨x,hx,rfl⟩:=ha;exact ih x hx (h.sub hx))
def isW(t:Tm):Bool:=decide (t.k=3)&&(decide (0<=t.n)&&(decide (t.n<4)&&(decide (t.s=⟨#[]⟩)&&decide (t.as.length=0))))
def Eg:ByteArray:=⟨#[112,108,117,115]⟩
def xj:ByteArray:=⟨#[109,105,110,117,115]⟩
def Lx:ByteArray:=⟨#[116,105,109,101,115]⟩
def isB(s:ByteArray):Bool:=decide (s=Eg)||(decide (s=xj)||decide (s=Lx))
def cmp(s:ByteArray)(a b:Int):Int:=if s=Eg then (a+b).tmod 4 else if s=xj then (a-b+4).tmod 4 else (a*b).tmod 4
def rW1(k n:Int)(s:ByteArray)(as:List Tm):Tm :=
 match as with
 | [x,y]=>if k=2/\n=0/\isB s=true/\isW x=true/\isW y=true then .mk 3 (cmp s x.n y.n) ⟨#[]⟩ [] else .mk k n s as
 |_=>.mk k n s as
mutual
def rW:Tm->Tm
 |.mk k n s as=>rW1 k n s (rWs as)
def rWs:List Tm->List Tm
 | []=>[]
 |t::ts=>rW t::rWs ts
end
theorem Nm:∀ ts,rWs ts=ts.map rW
 | []=>rfl
 |t::ts=>by simp only[rWs,C4,Nm ts]
theorem fg(t:Tm):rW t=rW1 t.k t.n t.s (t.as.map rW):=by cases t;simp only[rW,Nm,Tm.k,Tm.n,Tm.s,Tm.as]
theorem Pw{k n:Int}{s:ByteArray}{as:List Tm}(h:as.length<=1048576)(ha:∀ a∈as,au a):au (rW1 k n s as):=by
 unfold rW1;split
 ·split
  ·exact kq ..
  ·exact .mk (by simp[Tm.as]) (by simpa[Tm.as] using ha)
 ·exact .mk h ha
theorem Br:∀ t,au t->au (rW t):=Tm.ind fun t ih h=>by
 rw[fg];exact Pw (by simpa using h.len) fun a ha=>by
  simp only[F8] at ha;obtain⟨x,hx,rfl⟩:=ha;exact ih x hx (h.sub hx)
def gx(n:Nat):Int:=if n<=3 then 4 ^ n else 0
def isC(n:Nat)(c:Int):Bool:=decide (0<=c)&&decide (c<gx n)
def vals(n:Nat)(c:Int):List Int :=
 if isC n c then (match n with
  |0=>[]
  |1=>[c.tmod 4]
  |2=>[(c.tdiv 4).tmod 4,c.tmod 4]
  |_=>[((c.tdiv 4).tdiv 4).tmod 4,(c.tdiv 4).tmod 4,c.tmod 4]) else []
def word(n:Int):Tm:=.mk 3 n ⟨#[]⟩ []
def bn(vars:List ByteArray)(c:Int):List Bnd:=(vars.zip (vals vars.length c)).map fun p=>(p.1,word p.2)
def bw(vars:List ByteArray)(t:Tm)(c:Int):Tm:=rW (aS (bn vars c) t)
theorem fh(vars:List ByteArray)(c:Int):∀ b∈bn vars c,au b.2:=fun b hb=>by
 unfold bn at hb;simp only[F8] at hb;obtain⟨p,_,rfl⟩:=hb;exact kq ..
theorem Bs{vars:List ByteArray}{t:Tm}(h:au t)(c:Int):au (bw vars t c):=Br _ (mu (fh vars c) t h)
theorem jp{α:Type}{F:Nat->aa->R}{xs:List α}(g:α->List D){K:aa->R}
 (hs:∀ i (hi:i<xs.length) acc,acc.length=i->F i acc=F (i+1) (acc++[g xs[i]])) (he:∀ acc,F xs.length acc=K acc):F 0 []=K (xs.map g):=by
 have key:∀ (n i:Nat),i+n=xs.length->F i ((xs.take i).map g)=K (xs.map g):=by
  intro n;induction n with
  |zero =>
   intro i hi;have:i=xs.length:=by omega
   subst this;rw[he,List.take_length]
  |succ n ih =>
   intro i hi;have hlt:i<xs.length:=by omega
   rw[hs i hlt _ (by simp;omega),<-ih (i+1) (by omega),V1 hlt]
   simp only[D6,C4,D4]
 simpa using key xs.length 0 (by omega)
theorem Eh{α:Type}{F:Nat->R}{xs:List α}{p:α->Bool}{A:R}{B:Nat->α->R}(hs:∀ i (hi:i<xs.length),F i=bif p xs[i] then B i xs[i] else F (i+1))(he:F xs.length=A) :
 (xs.find? p=none/\F 0=A)\/∃ i,∃ hi:i<xs.length,xs.find? p=some xs[i]/\F 0=B i xs[i]:=by
 have key:∀ (n i:Nat),i+n=xs.length->((xs.drop i).find? p=none/\F i=A)\/∃ j,∃ hj:j<xs.length,(xs.drop i).find? p=some xs[j]/\F i=B j xs[j]:=by
  intro n;induction n with
  |zero =>
   intro i hi;have:i=xs.length:=by omega
   subst this;left;rw[C6];exact⟨rfl,he⟩
  |succ n ih =>
   intro i hi;have hlt:i<xs.length:=by omega
   rw[hs i hlt,B8 hlt];simp only[P3];cases hp:p xs[i] with
   |true=>exact .inr ⟨i,hlt,by simp,by simp⟩
   |false=>simpa using ih (i+1) (by omega)
 simpa using key xs.length 0 (by omega)
theorem Jb(l:List Bnd)(s:ByteArray):bnd l s=(l.find? fun b=>decide (b.1=s)).map (·.2):=by
 induction l with
 |nil=>rfl
 |cons b l ih =>
  simp only[bnd,P3];by_cases h:b.1=s
  ·simp[h]
  ·simp[h,ih]
theorem ab{α:Type}{xs:List α}{g:α->List D}{i:Nat}(hi:i<xs.length):rowAt (xs.map g) i=g xs[i]:=by simp[rowAt,P4,hi]
end Go.Q
end
section
namespace Go.Q
open Go
def ag(s:ByteArray):List D:=[.str s]
def am(n:Int):List D:=[.int n]
def mv{α σ:Type}(step:α->σ->Option σ):List α->σ->Option σ
 | [],s=>some s
 |x::xs,s=>match step x s with
  |some s'=>mv step xs s'
  |none=>none
theorem Ei{α σ:Type}{F:Nat->σ->R}{xs:List α}(step:α->σ->Option σ){A:σ->R}{B:R}(hs:∀ i (hi:i<xs.length) s,F i s=match step xs[i] s with |some s'=>F (i+1) s' |none=>B)(he:∀ s,F xs.length s=A s)(s:σ) :
 F 0 s=match mv step xs s with |some r=>A r |none=>B:=by
 have key:∀ (n i:Nat) (s:σ),i+n=xs.length->F i s=match mv step (xs.drop i) s with |some r=>A r |none=>B:=by
  intro n;induction n with
  |zero =>
   intro i s hi;have:i=xs.length:=by omega
   subst this;rw[C6,he];rfl
  |succ n ih =>
   intro i s hi;have hlt:i<xs.length:=by omega
   rw[hs i hlt,B8 hlt];simp only[mv];cases step xs[i] s with
   |none=>rfl
   |some s'=>exact ih (i+1) s' (by omega)
 simpa using key xs.length 0 s (by omega)
theorem vk(n:Nat)(c:Int):(vals n c).length<=n:=by
 unfold vals;split
 ·rename_i h
  match n with
  |0=>simp
  |1=>simp
  |2=>simp
  |n+3 =>
   simp
 ·simp
theorem vn{n:Nat}(h:3<n):gx n=0:=by unfold gx;rw[H6 (by omega)]
theorem lq(n:Nat):0<=gx n/\gx n<=64:=by
 by_cases h:3<n
 ·rw[vn h];decide
 ·obtain rfl |rfl |rfl |rfl:n=0\/n=1\/n=2\/n=3:=by omega
  all_goals decide
theorem mc{n:Nat}{c:Int}(h:isC n c=true):n<=3/\0<=c/\c<64:=by
 simp only[isC,B9,decide_eq_true_eq] at h;obtain⟨h1,h2⟩:=h;have h3:=lq n;by_cases hn:3<n
 ·rw[vn hn] at h2;omega
 ·omega
def gk(vars:List ByteArray)(c:Int)(l:List Bnd)(s:ByteArray)(out:Int):Option Int :=
 match bnd l s with
 |none=>none
 |some t=>if isW (bw vars t c) then some (IntKind.i64.wrap (IntKind.i64.wrap (4*out)+(bw vars t c).n)) else none
end Go.Q
namespace Go.Q
def gc(vars:List ByteArray)(c:Int)(target:List ByteArray)(l:List Bnd):Int×Bool :=
 if isC vars.length c=true/\target.length<=3 then (match mv (gk vars c l) target 0 with |some r=>(r,true) |none=>(0,false)) else (0,false)
theorem Ej(vars:List ByteArray)(c:Int)(target:List ByteArray)(l:List Bnd):(if isC vars.length c=true/\target.length<=3 then (match mv (gk vars c l) target 0 with |some r=>(some (0,[.int r,.bool true]):R) |none=>some (0,[.int 0,.bool false])) else some (0,[.int 0,.bool false])) =
 some (0,[.int (gc vars c target l).1,.bool (gc vars c target l).2]):=by
 unfold gc;split
 ·cases mv (gk vars c l) target 0<;>rfl
 ·rfl
end Go.Q
end
section
namespace Go.Q
open Go
namespace Tm
mutual
def names:Tm->List ByteArray
 |.mk k _ s as=>(if k=1 then [s] else [])++Gn as
def Gn:List Tm->List ByteArray
 | []=>[]
 |t::ts=>names t++Gn ts
end
theorem Ek:∀ ts,Gn ts=ts.flatMap names
 | []=>rfl
 |t::ts=>by simp only[Gn,O1,Ek ts]
theorem names_eq(t:Tm):t.names=(if t.k=1 then [t.s] else [])++t.as.flatMap names:=by cases t;simp only[names,Ek,Tm.k,Tm.s,Tm.as];rfl
theorem as_mk(k n:Int)(s:ByteArray)(as:List Tm):(Tm.mk k n s as).as=as:=rfl
theorem k_mk(k n:Int)(s:ByteArray)(as:List Tm):(Tm.mk k n s as).k=k:=rfl
theorem s_mk(k n:Int)(s:ByteArray)(as:List Tm):(Tm.mk k n s as).s=s:=rfl
mutual
def nodes:Tm->Nat
 |.mk _ _ _ as=>1+nodesL as
def nodesL:List Tm->Nat
 | []=>0
 |t::ts=>nodes t+nodesL ts
end
theorem El:∀ ts,nodesL ts=(ts.map nodes).sum
 | []=>rfl
 |t::ts=>by simp only[nodesL,C4,K1,El ts]
theorem nodes_eq(t:Tm):t.nodes=1+(t.as.map nodes).sum:=by cases t;simp only[nodes,El,Tm.as]
end Tm
theorem Jc{α:Type}{xs:List α}{f:α->List ByteArray}{g:α->Nat}(h:∀ x∈xs,(f x).length<=g x):(xs.flatMap f).length<=(xs.map g).sum:=by
 induction xs with
 |nil=>simp
 |cons x xs ih =>
  simp only[O1,E6,C4,K1];have h1:=h x (C7 ..);have h2:=ih fun y hy=>h y (C8 _ hy)
  omega
theorem br:∀ t:Tm,t.names.length<=t.nodes:=Tm.ind fun t ih=>by
 rw[Tm.names_eq,Tm.nodes_eq,E6];have:=Jc (xs:=t.as) (f:=Tm.names) (g:=Tm.nodes) ih;by_cases hk:t.k=1
 ·simp only[H5 hk,C2,C5];omega
 ·simp only[H6 hk,C5];omega
theorem Ss{α:Type}{xs:List α}{f g:α->Nat}(h:∀ x∈xs,f x<=g x):(xs.map f).sum<=(xs.map g).sum:=by
 induction xs with
 |nil=>simp
 |cons x xs ih =>
  simp only[C4,K1];have h1:=h x (C7 ..);have h2:=ih fun y hy=>h y (C8 _ hy)
  omega
theorem ei{α:Type}{xs:List α}{f:α->Nat}{x:α}(h:x∈xs):f x<=(xs.map f).sum:=by
 induction xs with
 |nil=>simp at h
 |cons y xs ih =>
  simp only[C4,K1];rcases E1.1 h with rfl |h
  ·omega
  ·have:=ih h;omega
theorem dg{xs:List Tm}:xs.length<=(xs.map Tm.nodes).sum:=by
 induction xs with
 |nil=>simp
 |cons x xs ih =>
  simp only[C4,K1,C2];have:=Tm.nodes_eq x;omega
theorem ak:∀ t:Tm,t.nodes<=1048577->au t:=Tm.ind fun t ih h=>by
 have h1:=Tm.nodes_eq t;have h2:=dg (xs:=t.as);exact .mk (by omega) fun a ha=>ih a ha (by have:=ei (f:=Tm.nodes) ha;omega)
theorem vo{l:List Bnd}(hl:∀ b∈l,b.2.nodes=1):∀ t,(aS l t).nodes<=t.nodes:=Tm.ind fun t ih=>by
 rw[ey];have h1:=Tm.nodes_eq t;split
 ·rename_i u hu
  split at hu
  ·obtain⟨b,h1,rfl⟩:=eh hu;rw[hl b h1];omega
  ·simp at hu
 ·rw[Tm.nodes_eq]
  simp only[Tm.as_mk,K3];have:=Ss (xs:=t.as) (f:=Tm.nodes ∘ aS l) (g:=Tm.nodes) ih;omega
theorem Px(k n:Int)(s:ByteArray)(us:List Tm):(rW1 k n s us).nodes<=1+(us.map Tm.nodes).sum:=by
 unfold rW1;split
 ·split
  ·simp only[Tm.nodes,Tm.nodesL];omega
  ·rw[Tm.nodes_eq,Tm.as_mk];omega
 ·rw[Tm.nodes_eq,Tm.as_mk];omega
theorem gy:∀ t,(rW t).nodes<=t.nodes:=Tm.ind fun t ih=>by
 have h1:=Tm.nodes_eq t;have h2:=Ss (xs:=t.as) (f:=Tm.nodes ∘ rW) (g:=Tm.nodes) ih;have h3:=Px t.k t.n t.s (t.as.map rW);rw[K3] at h3;rw[fg];omega
theorem xk{t:Tm}(h:isW t=true):t.names=[]:=by
 simp only[isW,B9,decide_eq_true_eq] at h;rw[Tm.names_eq,H6 (by omega),F9.1 h.2.2.2.2]
 rfl
theorem Py(k n:Int)(s:ByteArray)(us:List Tm):(rW1 k n s us).names=(if k=1 then [s] else [])++us.flatMap Tm.names:=by
 unfold rW1;split
 ·rename_i x y
  split
  ·rename_i h
   have e1:=xk h.2.2.2.1;have e2:=xk h.2.2.2.2;obtain⟨rfl,_⟩:=h;show([]:List ByteArray)=([]:List ByteArray)++[x,y].flatMap Tm.names
   simp[e1,e2]
  ·rw[Tm.names_eq];rfl
 ·rw[Tm.names_eq];rfl
theorem Bt{xs:List Tm}{f g:Tm->List ByteArray}(h:∀ x∈xs,f x=g x):xs.flatMap f=xs.flatMap g:=by
 induction xs with
 |nil=>rfl
 |cons x xs ih=>rw[O1,O1,h x (C7 ..),ih fun y hy=>h y (C8 _ hy)]
theorem Bu:∀ t,(rW t).names=t.names:=Tm.ind fun t ih=>by
 have e:(t.as.map rW).flatMap Tm.names=t.as.flatMap Tm.names:=by
  rw[List.flatMap_map];exact Bt fun x hx=>ih x hx
 rw[fg,Tm.names_eq t,<-e];exact Py ..
def isG(t:Tm):Bool:=decide ((t.names.length:Int)=0)
theorem Su(t:Tm):isG (rW t)=isG t:=by unfold isG;rw[Bu]
structure Gu where
 k:Int
 l:Tm
 r:Tm
def Gu.row(g:Gu):List D:=[.int g.k,.int g.l.k,.int g.l.n,.str g.l.s,.sl (g.l.as.map Tm.row),.int g.r.k,.int g.r.n,.str g.r.s,.sl (g.r.as.map Tm.row)]
noncomputable def holds(g:Gu):Bool :=
 isG g.l&&(isG g.r&&(if g.k=1 then eqb (rW g.l).row (rW g.r).row else if g.k=2 then !eqb (rW g.l).row (rW g.r).row else if g.k=3 then isW (rW g.l)&&(isW (rW g.r)&&decide ((rW g.l).n<(rW g.r).n)) else false))
def du(l:List Bnd)(g:Gu):Gu:=⟨g.k,aS l g.l,aS l g.r⟩
def Gu.ok(g:Gu):Prop:=g.l.nodes<=1048577/\g.r.nodes<=1048577
theorem Nn{l:List Bnd}(hl:∀ b∈l,b.2.nodes=1){g:Gu}(h:g.ok):(du l g).ok:=⟨J0 (vo hl _) h.1,J0 (vo hl _) h.2⟩
theorem qd(vars:List ByteArray)(c:Int):∀ b∈bn vars c,b.2.nodes=1:=fun b hb=>by
 unfold bn at hb;simp only[F8] at hb;obtain⟨p,_,rfl⟩:=hb;simp[word,Tm.nodes,Tm.nodesL]
noncomputable def qw(vars:List ByteArray)(gs:List Gu)(c:Int):Bool:=gs.all fun g=>holds (du (bn vars c) g)
noncomputable def dk(vars:List ByteArray)(gs:List Gu):List Nat:=(U4 (gx vars.length).toNat).filter fun c=>qw vars gs (c:Int)
theorem za{F:Nat->aa->R}{N:Nat}{p:Nat->Bool}{g:Nat->List D}{K:aa->R}(hs:∀ i acc,i<N->acc.length<=i->F i acc=if p i then F (i+1) (acc++[g i]) else F (i+1) acc)(he:∀ acc,F N acc=K acc) :
 F 0 []=K (((U4 N).filter p).map g):=by
 have key:∀ (n i:Nat),i+n=N->F i (((U4 i).filter p).map g)=K (((U4 N).filter p).map g):=by
  intro n;induction n with
  |zero =>
   intro i hi;have:i=N:=by omega
   subst this;rw[he]
  |succ n ih =>
   intro i hi;have hl:(((U4 i).filter p).map g).length<=i:=by
    rw[B6];exact J0 (Q9 _ _) (by simp)
   rw[hs i _ (by omega) hl,<-ih (i+1) (by omega),List.range_succ,List.filter_append]
   cases h:p i with
   |true=>simp[h]
   |false=>simp[h]
 simpa using key N 0 (by omega)
theorem Jd{α:Type}{F:Nat->R}{xs:List α}{p:α->Bool}{A B:R}(hs:∀ i (hi:i<xs.length),F i=bif p xs[i] then F (i+1) else B)(he:F xs.length=A):F 0=bif xs.all p then A else B:=by
 have key:∀ (n i:Nat),i+n=xs.length->F i=bif (xs.drop i).all p then A else B:=by
  intro n;induction n with
  |zero =>
   intro i hi;have:i=xs.length:=by omega
   subst this;rw[he,C6];rfl
  |succ n ih =>
   intro i hi;have hlt:i<xs.length:=by omega
   rw[hs i hlt,ih (i+1) (by omega),B8 hlt,J2]
   cases p xs[i]<;>rfl
 simpa using key xs.length 0 (by omega)
theorem Pz{α:Type}{F:Nat->Bool->R}{xs:List α}{p:α->Bool}{A:Bool->R}(hs:∀ i (hi:i<xs.length) b,F i b=F (i+1) (b&&p xs[i]))(he:∀ b,F xs.length b=A b):F 0 true=A (xs.all p):=by
 have key:∀ (n i:Nat) (b:Bool),i+n=xs.length->F i b=A (b&&(xs.drop i).all p):=by
  intro n;induction n with
  |zero =>
   intro i b hi;have:i=xs.length:=by omega
   subst this;rw[he,C6];simp
  |succ n ih =>
   intro i b hi;have hlt:i<xs.length:=by omega
   rw[hs i hlt,ih (i+1) _ (by omega),B8 hlt,J2,Bool.and_assoc]
 simpa using key xs.length 0 true (by omega)
def aj(r:R)(Q:Nat×List D->Prop):Prop:=∃ x,r=some x/\Q x
theorem aj.bind{r:R}{f:Nat×List D->R}{P Q:Nat×List D->Prop}(h:aj r P)(k:∀ x,P x->aj (f x) Q):aj (r.bind f) Q:=by
 obtain⟨x,rfl,hx⟩:=h;exact k x hx
theorem aj.ite{c:Bool}{a b:R}{Q:Nat×List D->Prop}(h1:c=true->aj a Q)(h2:c=false->aj b Q):aj (bif c then a else b) Q:=by
 cases c
 ·exact h2 rfl
 ·exact h1 rfl
theorem aj.ret{x:Nat×List D}{Q:Nat×List D->Prop}(h:Q x):aj (some x) Q:=⟨x,rfl,h⟩
theorem aj.mono{r:R}{P Q:Nat×List D->Prop}(h:aj r P)(k:∀ x,P x->Q x):aj r Q:=by
 obtain⟨x,h1,h2⟩:=h;exact⟨x,h1,k x h2⟩
theorem Sv(a:Int):0<=Cx .i64 a 255/\Cx .i64 a 255<=255:=by
 unfold Cx;have h:(BitVec.ofInt IntKind.i64.bits a &&& BitVec.ofInt IntKind.i64.bits 255).toNat<=255:=by
  rw[BitVec.toNat_and];exact J0 Nat.and_le_right (by decide)
 rw[IntWalk.i64_in _ (by omega)]
 omega
end Go.Q
namespace Go.Q
open Go
theorem Je{α:Type}{F:Nat->aa->R}{xs:List α}(g:α->aa)(a0:aa){K:aa->R}(hs:∀ i (hi:i<xs.length) acc,(acc++g xs[i]).length<=a0.length+(xs.flatMap g).length->F i acc=F (i+1) (acc++g xs[i]))(he:∀ acc,F xs.length acc=K acc) :
 F 0 a0=K (a0++xs.flatMap g):=by
 have key:∀ (n i:Nat),i+n=xs.length->F i (a0++(xs.take i).flatMap g)=K (a0++xs.flatMap g):=by
  intro n;induction n with
  |zero =>
   intro i hi;have:i=xs.length:=by omega
   subst this;rw[he,List.take_length]
  |succ n ih =>
   intro i hi;have hlt:i<xs.length:=by omega
   have e:(xs.take (i+1)).flatMap g=(xs.take i).flatMap g++g xs[i]:=by
    rw[V1 hlt,T0,O1,List.flatMap_nil,G5]
   have hl:((xs.take (i+1)).flatMap g).length<=(xs.flatMap g).length:=by
    conv=>rhs;rw[<-Q8 (i+1) xs,T0,E6]
    omega
   rw[hs i hlt _ (by rw[E2,<-e,E6];omega),E2,<-e]
   exact ih (i+1) (by omega)
 simpa using key xs.length 0 (by omega)
theorem tk(t:Tm):t.names.map ag=(if t.k=1 then [ag t.s] else [])++t.as.flatMap fun a=>a.names.map ag:=by
 rw[Tm.names_eq,D6,List.map_flatMap];split<;>rfl
theorem Em(t:Tm):(t.as.flatMap fun a=>a.names.map ag).length<=(t.as.map Tm.nodes).sum:=by
 have:=Jc (xs:=t.as) (f:=Tm.names) (g:=Tm.nodes) fun x _=>br x
 have e:(t.as.flatMap fun a=>a.names.map ag)=(t.as.flatMap Tm.names).map ag:=by rw[List.map_flatMap]
 rw[e,B6];exact this
end Go.Q
end
section
namespace Go.Q.S
open Go Go.Q
theorem Jf{d:Nat}(h:d<=64):IntKind.i64.wrap (((d+1:Nat):Int)-1)=(d:Int):=by
 unfold IntKind.wrap;simp[IntKind.bits,IntKind.signed];omega
end Go.Q.S
end
section
/- Marks: numbers written into all that a row of data holds,and read again. -/
namespace Go.Q.S
open Go Go.Q
variable{mt:Int->ByteArray}
theorem over_row_at{rows:aa}{i:Nat}{r:List D}(hi:i<rows.length):rowAt (over i [r] rows) i=r:=yw hi
theorem over_row_len{rows:aa}{i:Nat}{r:List D}(hi:i<rows.length):(over i [r] rows).length=rows.length:=cf _ _ _ (by simp;omega)
theorem over_row_two{rows:aa}{i:Nat}{x y:List D}(hi:i<rows.length):over i [y] (over i [x] rows)=over i [y] rows:=xg hi
end Go.Q.S
end
section
/- Terms that are made are well typed;how many marks they bear. -/
namespace Go.Q.S
open Go Go.Q
def i64ok(n:Int):Prop:=(Lit.int .i64 n).wf=true
theorem i64ok_of{n:Int}(h:-9223372036854775808<=n)(h':n<=9223372036854775807):i64ok n:=by
 have h1:IntKind.i64.min=-9223372036854775808:=by decide
 have h2:IntKind.i64.max=9223372036854775807:=by decide
 unfold i64ok Lit.wf;simp only[h1,h2,B9,decide_eq_true_eq];exact⟨h,h'⟩
section
variable{H:Tab}{e:TypeId}{lay:List CT}(hT:aj1 H e lay)
include hT
omit hT in
theorem cmp_ok{s:ByteArray}{x y:Tm}(hx:isW x=true)(hy:isW y=true):i64ok (cmp s x.n y.n):=by
 simp only[isW,B9,decide_eq_true_eq] at hx hy;obtain⟨_,a1,a2,_⟩:=hx;obtain⟨_,b1,b2,_⟩:=hy;unfold cmp;split
 ·have h1:=P7 (x.n+y.n) (show(0:Int)<4 by decide)
  have h2:=R6 4 (show 0<=x.n+y.n by omega)
  exact i64ok_of (by omega) (by omega)
 ·split
  ·have h1:=P7 (x.n-y.n+4) (show(0:Int)<4 by decide)
   have h2:=R6 4 (show 0<=x.n-y.n+4 by omega)
   exact i64ok_of (by omega) (by omega)
  ·have h1:=P7 (x.n*y.n) (show(0:Int)<4 by decide)
   have h2:=R6 4 (show 0<=x.n*y.n from Int.mul_nonneg a1 b1)
   exact i64ok_of (by omega) (by omega)
end
def instR(vars:List ByteArray)(t:Tm)(c:Int):Tm:=if isC vars.length c then bw vars t c else tm0
theorem instR_small{vars:List ByteArray}{t:Tm}(h:au t)(c:Int):au (instR vars t c):=by
 unfold instR;split
 ·exact Bs h c
 ·exact kq ..
theorem instR_nodes{vars:List ByteArray}{t:Tm}(c:Int):(instR vars t c).nodes<=t.nodes:=by
 unfold instR;split
 ·exact J0 (gy _) (vo (qd vars c) t)
 ·have h1:tm0.nodes=1:=by rw[Tm.nodes_eq];simp[tm0,Tm.as]
  have:=Tm.nodes_eq t;omega
end Go.Q.S
end
section
/- Cells Xj together;filters that may break off. -/
namespace Go.Q.S
open Go Go.Q
section
variable{H:Tab}{ds:List D}{cts:List CT}
end
theorem xl(t:Tm):tm0.nodes<=t.nodes:=by
 have h1:tm0.nodes=1:=by rw[Tm.nodes_eq];simp[tm0,Tm.as]
 have:=Tm.nodes_eq t;omega
end Go.Q.S
end
section
namespace Go.Q
open Go
theorem xm(a0:D)(l:List D):nth (a0::l) 0=a0:=rfl
theorem zn(a0 a1:D)(l:List D):nth (a0::a1::l) 1=a1:=rfl
theorem zo(a0 a1 a2:D)(l:List D):nth (a0::a1::a2::l) 2=a2:=rfl
theorem zp(a0 a1 a2 a3:D)(l:List D):nth (a0::a1::a2::a3::l) 3=a3:=rfl
theorem zq(a0 a1 a2 a3 a4:D)(l:List D):nth (a0::a1::a2::a3::a4::l) 4=a4:=rfl
theorem zr(a0 a1 a2 a3 a4 a5:D)(l:List D):nth (a0::a1::a2::a3::a4::a5::l) 5=a5:=rfl
theorem zt(a0 a1 a2 a3 a4 a5 a6:D)(l:List D):nth (a0::a1::a2::a3::a4::a5::a6::l) 6=a6:=rfl
theorem zu(a0 a1 a2 a3 a4 a5 a6 a7:D)(l:List D):nth (a0::a1::a2::a3::a4::a5::a6::a7::l) 7=a7:=rfl
theorem zv(a0 a1 a2 a3 a4 a5 a6 a7 a8:D)(l:List D):nth (a0::a1::a2::a3::a4::a5::a6::a7::a8::l) 8=a8:=rfl
theorem zw(a0 a1 a2 a3 a4 a5 a6 a7 a8 a9:D)(l:List D):nth (a0::a1::a2::a3::a4::a5::a6::a7::a8::a9::l) 9=a9:=rfl
theorem od(a0 a1 a2 a3 a4 a5 a6 a7 a8 a9 a10:D)(l:List D):nth (a0::a1::a2::a3::a4::a5::a6::a7::a8::a9::a10::l) 10=a10:=rfl
theorem oe(a0 a1 a2 a3 a4 a5 a6 a7 a8 a9 a10 a11:D)(l:List D):nth (a0::a1::a2::a3::a4::a5::a6::a7::a8::a9::a10::a11::l) 11=a11:=rfl
theorem og(a0 a1 a2 a3 a4 a5 a6 a7 a8 a9 a10 a11 a12:D)(l:List D):nth (a0::a1::a2::a3::a4::a5::a6::a7::a8::a9::a10::a11::a12::l) 12=a12:=rfl
theorem oh(a0 a1 a2 a3 a4 a5 a6 a7 a8 a9 a10 a11 a12 a13:D)(l:List D):nth (a0::a1::a2::a3::a4::a5::a6::a7::a8::a9::a10::a11::a12::a13::l) 13=a13:=rfl
theorem oi(a0 a1 a2 a3 a4 a5 a6 a7 a8 a9 a10 a11 a12 a13 a14:D)(l:List D):nth (a0::a1::a2::a3::a4::a5::a6::a7::a8::a9::a10::a11::a12::a13::a14::l) 14=a14:=rfl
theorem oj(a0 a1 a2 a3 a4 a5 a6 a7 a8 a9 a10 a11 a12 a13 a14 a15:D)(l:List D):nth (a0::a1::a2::a3::a4::a5::a6::a7::a8::a9::a10::a11::a12::a13::a14::a15::l) 15=a15:=rfl
theorem ol(a0 a1 a2 a3 a4 a5 a6 a7 a8 a9 a10 a11 a12 a13 a14 a15 a16:D)(l:List D):nth (a0::a1::a2::a3::a4::a5::a6::a7::a8::a9::a10::a11::a12::a13::a14::a15::a16::l) 16=a16:=rfl
theorem om(a0 a1 a2 a3 a4 a5 a6 a7 a8 a9 a10 a11 a12 a13 a14 a15 a16 a17:D)(l:List D):nth (a0::a1::a2::a3::a4::a5::a6::a7::a8::a9::a10::a11::a12::a13::a14::a15::a16::a17::l) 17=a17:=rfl
theorem oo(a0 a1 a2 a3 a4 a5 a6 a7 a8 a9 a10 a11 a12 a13 a14 a15 a16 a17 a18:D)(l:List D):nth (a0::a1::a2::a3::a4::a5::a6::a7::a8::a9::a10::a11::a12::a13::a14::a15::a16::a17::a18::l) 18=a18:=rfl
theorem oq(a0 a1 a2 a3 a4 a5 a6 a7 a8 a9 a10 a11 a12 a13 a14 a15 a16 a17 a18 a19:D)(l:List D):nth (a0::a1::a2::a3::a4::a5::a6::a7::a8::a9::a10::a11::a12::a13::a14::a15::a16::a17::a18::a19::l) 19=a19:=rfl
theorem ot(a0 a1 a2 a3 a4 a5 a6 a7 a8 a9 a10 a11 a12 a13 a14 a15 a16 a17 a18 a19 a20:D)(l:List D):nth (a0::a1::a2::a3::a4::a5::a6::a7::a8::a9::a10::a11::a12::a13::a14::a15::a16::a17::a18::a19::a20::l) 20=a20:=rfl
theorem ou(a0 a1 a2 a3 a4 a5 a6 a7 a8 a9 a10 a11 a12 a13 a14 a15 a16 a17 a18 a19 a20 a21:D)(l:List D):nth (a0::a1::a2::a3::a4::a5::a6::a7::a8::a9::a10::a11::a12::a13::a14::a15::a16::a17::a18::a19::a20::a21::l) 21=a21:=rfl
theorem ow(a0 a1 a2 a3 a4 a5 a6 a7 a8 a9 a10 a11 a12 a13 a14 a15 a16 a17 a18 a19 a20 a21 a22:D)(l:List D):nth (a0::a1::a2::a3::a4::a5::a6::a7::a8::a9::a10::a11::a12::a13::a14::a15::a16::a17::a18::a19::a20::a21::a22::l) 22=a22:=rfl
theorem oz(a0 a1 a2 a3 a4 a5 a6 a7 a8 a9 a10 a11 a12 a13 a14 a15 a16 a17 a18 a19 a20 a21 a22 a23:D)(l:List D):nth (a0::a1::a2::a3::a4::a5::a6::a7::a8::a9::a10::a11::a12::a13::a14::a15::a16::a17::a18::a19::a20::a21::a22::a23::l) 23=a23:=rfl
theorem pa(a0 a1 a2 a3 a4 a5 a6 a7 a8 a9 a10 a11 a12 a13 a14 a15 a16 a17 a18 a19 a20 a21 a22 a23 a24:D)(l:List D):nth (a0::a1::a2::a3::a4::a5::a6::a7::a8::a9::a10::a11::a12::a13::a14::a15::a16::a17::a18::a19::a20::a21::a22::a23::a24::l) 24=a24:=rfl
theorem pb(a0 a1 a2 a3 a4 a5 a6 a7 a8 a9 a10 a11 a12 a13 a14 a15 a16 a17 a18 a19 a20 a21 a22 a23 a24 a25:D)(l:List D):nth (a0::a1::a2::a3::a4::a5::a6::a7::a8::a9::a10::a11::a12::a13::a14::a15::a16::a17::a18::a19::a20::a21::a22::a23::a24::a25::l) 25=a25:=rfl
theorem dI(n:Int):(D.int n).I=n:=rfl
theorem dB(b:Bool):(D.bool b).B=b:=rfl
theorem dS(s:ByteArray):(D.str s).S=s:=rfl
theorem dL(r:aa):(D.sl r).L=r:=rfl
abbrev Ky:=List UInt8
theorem Np{a b:ByteArray}(h:a.data.toList=b.data.toList):a=b:=by
 cases a;cases b;simp only at h;congr 1;exact Array.ext' h
theorem vp:∀ (x y:List UInt8),Op.bytesLess x y=decide (x<y)
 |x,[]=>by simp[Op.bytesLess]
 | [],y::ys=>by simp[Op.bytesLess]
 |a::x,b::y=>by
  unfold Op.bytesLess;rw[vp x y];rw[Bool.eq_iff_iff];simp only[Q5,B9,decide_eq_true_eq,beq_iff_eq,List.cons_lt_cons_iff]
theorem Yd(a b:ByteArray):ltB a b=decide (a.data.toList<b.data.toList):=by
 unfold ltB;rw[vp,ByteArray.toList_eq,ByteArray.toList_eq]
theorem xn(a:Ky):¬ a<a:=List.lt_irrefl a
theorem Bv{a b c:Ky}(h:a<b)(k:b<c):a<c:=List.lt_trans h k
theorem Lz(a b:Ky):a<b\/a=b\/b<a:=by
 by_cases h:a<b
 ·exact .inl h
 ·by_cases k:b<a
  ·exact .inr (.inr k)
  ·exact .inr (.inl (List.le_antisymm k h))
def Asc(l:List Ky):Prop:=l.Pairwise (·< ·)
theorem Gp:∀ {l m:List Ky},Asc l->Asc m->(∀ x,x∈l↔x∈m)->l=m
 | [],m,hl,hm,h=>by
  cases m with
  |nil=>rfl
  |cons y m=>exact absurd ((h y).2 (C7 ..)) (by simp)
 |x::l,[],hl,hm,h=>absurd ((h x).1 (C7 ..)) (by simp)
 |x::l,y::m,hl,hm,h=>by
  obtain⟨h1,h2⟩:=S1.1 hl;obtain⟨h3,h4⟩:=S1.1 hm;have e:x=y:=by
   rcases E1.1 ((h x).1 (C7 ..)) with e |hx
   ·exact e
   ·rcases E1.1 ((h y).2 (C7 ..)) with e |hy
    ·exact e.symm
    ·exact absurd (Bv (h3 x hx) (h1 y hy)) (xn _)
  subst e;congr 1
  refine Gp h2 h4 fun z=>⟨fun hz=>?_,fun hz=>?_⟩
  ·rcases E1.1 ((h z).1 (C8 _ hz)) with e |hz'
   ·exact absurd (e▸h1 z hz) (xn _)
   ·exact hz'
  ·rcases E1.1 ((h z).2 (C8 _ hz)) with e |hz'
   ·exact absurd (e▸h3 z hz) (xn _)
   ·exact hz'
theorem Jg{l:List Ky}(h:l.Pairwise fun a b=>¬ b<a):Asc (Lib.compact l)/\∀ x,x∈Lib.compact l↔x∈l:=by
 have hg:∀ i j,i<j->j<l.length->¬ l.toArray[j]!<l.toArray[i]!:=fun i j hij hj=>by
  rw[getElem!_pos l.toArray j (by simpa using hj),getElem!_pos l.toArray i (by simp;omega)]
  simp only[List.getElem_toArray];exact List.pairwise_iff_getElem.1 h i j (by omega) hj hij
 unfold Lib.compact Lib.compactUpTo;constructor
 ·unfold Asc
  rw[List.pairwise_map];have hp:((U4 l.length).filter (Lib.keeps l.toArray)).Pairwise fun i j=>i<j/\j<l.length/\Lib.keeps l.toArray j=true:=by
   have h1:(U4 l.length).Pairwise fun i j=>i<j:=List.pairwise_lt_range
   have h2:=h1.sublist (N8 (p:=Lib.keeps l.toArray));refine List.Pairwise.imp_of_mem (fun {a b} ha hb hab=>?_) h2
   have hb':=P6.1 hb;exact⟨hab,by simpa using hb'.1,hb'.2⟩
  refine hp.imp fun {i j} ⟨hij,hj,hk⟩=>?_
  simp only[Lib.keeps,decide_eq_true_eq] at hk;have hne:l.toArray[j]!≠l.toArray[j-1]!:=hk.resolve_left (by omega)
  have h1:l.toArray[j-1]!<l.toArray[j]!:=by
   rcases Lz l.toArray[j-1]! l.toArray[j]! with h |h |h
   ·exact h
   ·exact absurd h.symm hne
   ·exact absurd h (hg (j-1) j (by omega) hj)
  by_cases hij':i=j-1
  ·rw[hij'];exact h1
  ·have h2:=hg i (j-1) (by omega) (by omega)
   rcases Lz l.toArray[i]! l.toArray[j-1]! with h |h |h
   ·exact Bv h h1
   ·rw[h];exact h1
   ·exact absurd h h2
 ·intro x
  simp only[F8,P6,List.mem_range];constructor
  ·rintro⟨j,⟨hj,_⟩,rfl⟩
   rw[getElem!_pos l.toArray j (by simpa using hj)]
   simp
  ·intro hx
   obtain⟨j,hj,rfl⟩:=List.mem_iff_getElem.1 hx;have key:∀ n j (hj:j<l.length),j<=n->∃ k,(k<l.length/\Lib.keeps l.toArray k=true)/\l.toArray[k]! = l[j]:=by
    intro n;induction n with
    |zero =>
     intro j hj hn;obtain rfl:j=0:=by omega
     exact⟨0,⟨hj,by simp[Lib.keeps]⟩,by rw[getElem!_pos l.toArray 0 (by simpa using hj)];simp⟩
    |succ n ih =>
     intro j hj hn;by_cases hk:Lib.keeps l.toArray j=true
     ·exact⟨j,⟨hj,hk⟩,by rw[getElem!_pos l.toArray j (by simpa using hj)];simp⟩
     ·simp only[Lib.keeps,decide_eq_true_eq] at hk
      have h0:j≠0:=fun e=>hk (.inl e)
      have he:l.toArray[j]! = l.toArray[j-1]!:=Classical.byContradiction fun hne=>hk (.inr hne)
      obtain⟨k,hk1,hk2⟩:=ih (j-1) (by omega) (by omega)
      refine⟨k,hk1,hk2.trans ?_⟩;rw[getElem!_pos l.toArray j (by simpa using hj),getElem!_pos l.toArray (j-1) (by simp;omega)] at he
      simpa using he.symm
   exact key j j hj (E8 _)
def kr(x:Ky):List Ky->List Ky
 | []=>[x]
 |y::r=>if y<x then y::kr x r else if y=x then y::r else x::y::r
theorem kt(x z:Ky):∀ l:List Ky,z∈kr x l↔z=x\/z∈l
 | []=>by simp[kr]
 |y::r=>by
  unfold kr;split
  ·simp only[E1,kt x z r];exact⟨fun h=>by rcases h with h |h |h<;>simp[h],fun h=>by rcases h with h |h |h<;>simp[h]⟩
  ·split
   ·rename_i h;subst h;simp
   ·simp
theorem vq(x:Ky):∀ {l:List Ky},Asc l->Asc (kr x l)
 | [],h=>by simp[kr,Asc]
 |y::r,h=>by
  obtain⟨h1,h2⟩:=S1.1 h;unfold kr;split
  ·rename_i hyx
   refine S1.2 ⟨fun z hz=>?_,vq x h2⟩
   rcases(kt x z r).1 hz with rfl |hz
   ·exact hyx
   ·exact h1 z hz
  ·split
   ·exact h
   ·rename_i h3 h4
    have hxy:x<y:=(Lz x y).elim id fun h=>h.elim (fun h=>absurd h.symm h4) fun h=>absurd h h3
    refine S1.2 ⟨fun z hz=>?_,h⟩
    rcases E1.1 hz with rfl |hz
    ·exact hxy
    ·exact Bv hxy (h1 z hz)
def rq:List Ky->List Ky->List Ky
 | [],acc=>acc
 |x::r,acc=>rq r (kr x acc)
theorem qx:∀ (l:List Ky) {acc:List Ky},Asc acc->Asc (rq l acc)/\∀ z,z∈rq l acc↔z∈l\/z∈acc
 | [],acc,h=>⟨h,by simp[rq]⟩
 |x::r,acc,h=>by
  obtain⟨h1,h2⟩:=qx r (vq x h);refine⟨h1,fun z=>?_⟩
  simp only[rq,h2,kt,E1];exact⟨fun h=>by rcases h with h |h |h<;>simp[h],fun h=>by rcases h with (h |h) |h<;>simp[h]⟩
theorem Qa(l:List Ky):(l.mergeSort fun x y=>decide (x<=y)).Pairwise fun a b=>¬ b<a:=by
 have h:=List.pairwise_mergeSort (le:=fun x y:Ky=>decide (x<=y)) (fun a b c h1 h2=>by
  simp only[decide_eq_true_eq] at *;exact List.le_trans h1 h2) (fun a b=>by
  simp only[Q5,decide_eq_true_eq];exact List.le_total a b) l
 exact h.imp fun {a b} hab=>by simpa using hab
theorem Gq(l:List Ky):Lib.compact (l.mergeSort fun x y=>decide (x<=y))=rq l []:=by
 obtain⟨h1,h2⟩:=Jg (Qa l);obtain⟨h3,h4⟩:=qx l (acc:=[]) (by simp[Asc])
 refine Gp h1 h3 fun x=>?_
 rw[h2,h4,(List.mergeSort_perm l _).mem_iff];simp
def ofK(k:Ky):ByteArray:=⟨k.toArray⟩
def toK(b:ByteArray):Ky:=b.data.toList
theorem Gs(b:ByteArray):ofK (toK b)=b:=by simp[ofK,toK]
theorem Nq(k:Ky):toK (ofK k)=k:=by simp[ofK,toK]
def bx(l:List ByteArray):List ByteArray:=(rq (l.map toK) []).map ofK
theorem qe(l:List ByteArray)(x:ByteArray):x∈bx l↔x∈l:=by
 unfold bx;rw[F8];constructor
 ·rintro⟨k,hk,rfl⟩
  rcases((qx (l.map toK) (acc:=[]) (by simp[Asc])).2 k).1 hk with hk |hk
  ·obtain⟨b,hb,rfl⟩:=F8.1 hk
   rw[Gs];exact hb
  ·simp at hk
 ·intro hx
  exact⟨toK x,((qx (l.map toK) (acc:=[]) (by simp[Asc])).2 _).2 (.inl (F8.2 ⟨x,hx,rfl⟩)),Gs x⟩
theorem Bw:∀ (l acc:List Ky),(rq l acc).length<=l.length+acc.length
 | [],acc=>by simp[rq]
 |x::r,acc=>by
  have h1:∀ acc:List Ky,(kr x acc).length<=acc.length+1:=fun acc=>by
   induction acc with
   |nil=>simp[kr]
   |cons y acc ih =>
    unfold kr;by_cases h1:y<x
    ·rw[H5 h1];simp only[C2];omega
    ·rw[H6 h1]
     by_cases h2:y=x
     ·rw[H5 h2];exact Nat.le_succ _
     ·rw[H6 h2];simp
  have:=Bw r (kr x acc);have:=h1 acc;simp only[rq,C2];omega
theorem dl(l:List ByteArray):(bx l).length<=l.length:=by
 have:=Bw (l.map toK) [];simpa[bx] using this
theorem qy(k:Ky):gb k=ag (ofK k):=rfl
theorem Jh(l:List Ky):l.map gb=(l.map ofK).map ag:=by rw[K3];rfl
theorem Ji(l:List ByteArray):l.map ag=(l.map toK).map gb:=by
 rw[K3];exact N1 fun b _=>by simp only[Function.comp,qy,Gs]
theorem Ye{a b:Ky}:ofK a=ofK b↔a=b:=⟨fun h=>by rw[<-Nq a,h,Nq],fun h=>h▸rfl⟩
theorem Yf(a b:Ky):ltB (ofK a) (ofK b)=decide (a<b):=by rw[Yd];rfl
theorem Sw(v:Nat)(l:List ByteArray)(h:l.length<4611686018427387904):Ea v [.sl (l.map ag)]=some (0,[.sl (((l.map toK).mergeSort fun x y=>decide (x<=y)).map gb)]):=by
 unfold Ea;simp only;rw[Ji,Bq];simp only;rw[show Nat.blt (l.map toK).length 4611686018427387904=true from E9 (by rw[B6];exact h)]
 rfl
theorem Sx(v:Nat)(l:List Ky)(h:l.length<=9223372036854775807):Eb v [.sl (l.map gb)]=some (0,[.sl ((Lib.compact l).map gb)]):=by
 unfold Eb;simp only;rw[Bq];simp only;rw[show Nat.ble l.length 9223372036854775807=true from E9 h]
 rfl
def ldK(x:Ky):List Ky->Nat
 | []=>0
 |y::r=>if y<x then ldK x r+1 else 0
theorem Sy(x:Ky):∀ l:List Ky,ldK x l<=l.length
 | []=>E8 _
 |y::r=>by unfold ldK;split;·have:=Sy x r;simp only[C2];omega
           ·exact G9 _
theorem Nr(x:Ky):∀ l:List Ky,kr x l=if l[ldK x l]?=some x then l else l.take (ldK x l)++[x]++l.drop (ldK x l)
 | []=>by simp[kr,ldK]
 |y::r=>by
  unfold kr ldK;by_cases h:y<x
  ·rw[H5 h,H5 h,Nr x r]
   simp only[List.getElem?_cons_succ,List.take_succ_cons,List.drop_succ_cons,F2];split<;>rfl
  ·rw[H6 h,H6 h]
   by_cases h2:y=x
   ·rw[H5 h2];simp[h2]
   ·rw[H6 h2];simp[h2]
theorem Sz(x:Ky)(l:List Ky)(a:Nat)(h:a<l.length):ldK x (l.drop a)=if l[a]<x then ldK x (l.drop (a+1))+1 else 0:=by
 rw[B8 h];rfl
end Go.Q
end
section
/- Guards and other rows out of data. -/
namespace Go.Q.S
open Go Go.Q
end Go.Q.S
namespace Go.Q.S
open Go Go.Q
theorem allC_len(vars:List ByteArray)(gs:List Gu):(dk vars gs).length<=64:=by
 unfold dk;refine J0 (Q9 _ _) ?_;have:=(lq vars.length).2;simp;omega
theorem Ns(vars:List ByteArray)(gs:List Gu):∀ x∈dk vars gs,i64ok (x:Int):=fun x hx=>by
 unfold dk at hx;have h1:=(P6.1 hx).1;have:=(lq vars.length).2;simp at h1;exact i64ok_of (by omega) (by omega)
def nRow(i:Nat):List D:=[.int (i:Int)]
end Go.Q.S
end
section
/- Names,terms,signatures,rules: what their checks compute. -/
namespace Go.Q
open Go
theorem qz(s:ByteArray):s.size=s.data.toList.length:=by rw[Array.length_toList];rfl
theorem qf{s:ByteArray}{i:Nat}(h:i<s.data.toList.length):s.get! i=s.data.toList[i]:=by
 have h':i<s.data.size:=by simpa using h
 show s.data[i]! = _
 rw[getElem!_pos s.data i h'];simp
def Df(b:UInt8):Bool:=(decide (97<=b.toNat)&&decide (b.toNat<=122))||(decide (48<=b.toNat)&&decide (b.toNat<=57))
def Eo(lo hi:Nat):List UInt8->Bool
 | []=>false
 |b::r=>decide ((b::r).length<=8)&&((decide (lo<=b.toNat)&&decide (b.toNat<=hi))&&r.all Df)
def ku(s:ByteArray):Bool:=Eo 97 122 s.data.toList
def rr(s:ByteArray):Bool:=Eo 65 90 s.data.toList
theorem Jj(s:ByteArray):s=⟨#[]⟩↔s.data.toList=[]:=⟨fun h=>by rw[h],fun h=>Np h⟩
theorem nv0(a:D)(l:List D):nth (a::l) 0=a:=id rfl
theorem nvS(a:D)(l:List D)(i:Nat):nth (a::l) (i+1)=nth l i:=id rfl
theorem dvI(n:Int):(D.int n).I=n:=id rfl
theorem dvB(b:Bool):(D.bool b).B=b:=id rfl
theorem dvS(s:ByteArray):(D.str s).S=s:=id rfl
theorem dvL(r:aa):(D.sl r).L=r:=id rfl
namespace Tm
mutual
def depth:Tm->Nat
 |.mk _ _ _ as=>depthL as+1
def depthL:List Tm->Nat
 | []=>0
 |t::ts=>max (depth t) (depthL ts)
end
theorem depth_eq(t:Tm):t.depth=depthL t.as+1:=by cases t;rfl
theorem depth_nodes:∀ t:Tm,t.depth<=t.nodes:=Tm.ind fun t ih=>by
 have h:∀ l:List Tm,(∀ a∈l,a.depth<=a.nodes)->depthL l<=(l.map nodes).sum:=fun l=>by
  induction l with
  |nil=>intro _;exact E8 _
  |cons a l ih =>
   intro hl;have h1:=hl a (C7 ..);have h2:=ih fun b hb=>hl b (C8 _ hb)
   simp only[depthL,C4,K1];omega
 have:=h t.as ih;rw[depth_eq,nodes_eq];omega
def nodeN(t:Tm):Bool :=
 if t.k=1 then decide (t.n=0)&&(decide (t.as.length=0)&&rr t.s) else if t.k=3 then isW t else if t.k=2 then decide (t.n=0)&&ku t.s else false
mutual
def areN:Tm->Bool
 |.mk k n s as=>nodeN (.mk k n s as)&&areNL as
def areNL:List Tm->Bool
 | []=>true
 |t::ts=>areN t&&areNL ts
end
theorem areN_eq(t:Tm):t.areN=(nodeN t&&areNL t.as):=by cases t;rfl
theorem areNL_all:∀ l:List Tm,areNL l=l.all areN
 | []=>rfl
 |t::l=>by simp only[areNL,J2,areNL_all l]
def valid(t:Tm):Bool:=decide (t.nodes<=60)&&(decide (t.depth<=16)&&t.areN)
end Tm
inductive Wt:Tm->Prop
 |mk {t:Tm}:S.i64ok t.k->S.i64ok t.n->t.s.size<=maxLen->t.as.length<=maxLen->(∀ a∈t.as,Wt a)->Wt t
theorem Wt.k{t:Tm}(h:Wt t):S.i64ok t.k:=by cases h;assumption
theorem Wt.n{t:Tm}(h:Wt t):S.i64ok t.n:=by cases h;assumption
theorem Wt.s{t:Tm}(h:Wt t):t.s.size<=maxLen:=by cases h;assumption
theorem Wt.l{t:Tm}(h:Wt t):t.as.length<=maxLen:=by cases h;assumption
theorem Wt.sub{t a:Tm}(h:Wt t)(ha:a∈t.as):Wt a:=by cases h with |mk _ _ _ _ h=>exact h a ha
theorem Ma:∀ t:Tm,Wt t->∀ x∈t.names,x.size<=maxLen:=Tm.ind fun t ih h x hx=>by
 rw[Tm.names_eq] at hx;rcases D7.1 hx with hx |hx
 ·split at hx
  ·simp at hx;rw[hx];exact h.s
  ·simp at hx
 ·obtain⟨a,ha,hx⟩:=K4.1 hx
  exact ih a ha (h.sub ha) x hx
theorem Ta(l:List ByteArray):(bx l).length=l.length↔l.Nodup:=by
 have key:∀ (l acc:List Ky),Asc acc->((rq l acc).length=l.length+acc.length↔(l.Nodup/\∀ x∈l,x∉acc)):=by
  intro l;induction l with
  |nil=>intro acc _;simp[rq]
  |cons x l ih =>
   intro acc ha;have hl:=Bw l (kr x acc);have hmem:x∈acc->kr x acc=acc:=fun hx=>Gp (vq x ha) ha fun z=>by
    rw[kt];exact⟨fun h=>h.elim (fun e=>e▸hx) id,.inr⟩
   have hlen:∀ acc:List Ky,x∉acc->(kr x acc).length=acc.length+1:=fun acc=>by
    induction acc with
    |nil=>intro _;rfl
    |cons y acc iha =>
     intro hx;have h1:y≠x:=fun e=>hx (e▸C7 ..)
     have h2:=iha fun h=>hx (C8 _ h)
     unfold kr;by_cases h3:y<x
     ·rw[H5 h3];simp only[C2,h2]
     ·rw[H6 h3,H6 h1];rfl
   have ih':=ih (kr x acc) (vq x ha);simp only[rq,C2,List.nodup_cons,List.forall_mem_cons];by_cases hx:x∈acc
   ·rw[hmem hx] at hl ⊢
    constructor
    ·intro h;omega
    ·intro h;exact absurd hx h.2.1
   ·have h1:=hlen acc hx
    rw[show l.length+1+acc.length=l.length+(kr x acc).length by omega,ih']
    constructor
    ·rintro⟨h2,h3⟩
     exact⟨⟨fun hxl=>h3 x hxl ((kt ..).2 (.inl rfl)),h2⟩,hx,fun z hz hza=>h3 z hz ((kt ..).2 (.inr hza))⟩
    ·rintro⟨⟨h2,h3⟩,h4,h5⟩
     exact⟨h3,fun z hz hza=>((kt ..).1 hza).elim (fun e=>h2 (e▸hz)) (h5 z hz)⟩
 have h:=key (l.map toK) [] (by simp[Asc])
 have hn:(l.map toK).Nodup↔l.Nodup:=by
  constructor
  ·exact fun h=>(List.pairwise_map.1 h).imp fun {a b} (hab:toK a≠toK b) (e:a=b)=>hab (congrArg toK e)
  ·exact fun h=>List.pairwise_map.2 (h.imp fun {a b} hab e=>hab (Np e))
 unfold bx;rw[B6];rw[<-hn];simpa using h
def dis(l:List ByteArray):Bool:=decide l.Nodup
def ju(r:List ByteArray)(s:ByteArray):Bool:=r.any fun y=>decide (y=s)
theorem vt{r:List ByteArray}{s:ByteArray}:ju r s=true↔s∈r:=by
 simp only[ju,P8,decide_eq_true_eq];exact⟨fun ⟨y,h,e⟩=>e▸h,fun h=>⟨s,h,rfl⟩⟩
def wo(l r:List ByteArray):List ByteArray:=l.filter fun s=>!ju r s
abbrev dh:ByteArray:=⟨#[119,111,114,100]⟩
abbrev e0:ByteArray:=⟨#[]⟩
structure OpM where
 n:ByteArray
 a:List ByteArray
 r:ByteArray
def OpM.row(o:OpM):List D:=[.str o.n,.sl (o.a.map ag),.str o.r]
def OpM.ok(o:OpM):Prop:=o.a.length<=1048576
structure qg(ops:List OpM):Prop where
 l:ops.length<=1048576
 a:∀ o∈ops,o.ok
def kv:Option OpM->List D
 |some o=>[.str o.n,.str o.r,.bool true,.sl (o.a.map ag)]
 |none=>[.str e0,.str e0,.bool false,.sl []]
def eg(ops:List OpM)(s:ByteArray):Option OpM:=if isB s then some ⟨s,[dh,dh],dh⟩ else ops.find? fun o=>decide (o.n=s)
theorem By{ops:List OpM}(h:∀ o∈ops,o.ok){s:ByteArray}{o:OpM}(hf:eg ops s=some o):o.ok:=by
 unfold eg at hf;split at hf
 ·simp only[C9.injEq] at hf;subst hf;show 2<=1048576;decide
 ·exact h o (S5 hf)
abbrev VS:=ByteArray×ByteArray
def VS.row(v:VS):List D:=[.str v.1,.str v.2]
def sc(vs:List VS)(s:ByteArray):ByteArray:=match vs.find? fun v=>decide (v.1=s) with |some v=>v.2 |none=>e0
mutual
def ay(ops:List OpM)(vs:List VS):Tm->ByteArray
 |.mk k n s as=>if k=3 then dh else if k=1 then sc vs s else if k=2 then (match eg ops s with
  |none=>e0
  |some o=>if o.a.length=as.length then (if bq ops vs as o.a then o.r else e0) else e0) else e0
def bq(ops:List OpM)(vs:List VS):List Tm->List ByteArray->Bool
 | [],_=>true
 |t::ts,[]=>true
 |t::ts,x::xs=>(!decide (ay ops vs t=e0)&&decide (ay ops vs t=x))&&bq ops vs ts xs
end
theorem cw(ops:List OpM)(vs:List VS)(t:Tm):ay ops vs t=if t.k=3 then dh else if t.k=1 then sc vs t.s else if t.k=2 then (match eg ops t.s with
 |none=>e0
 |some o=>if o.a.length=t.as.length then (if bq ops vs t.as o.a then o.r else e0) else e0) else e0:=by cases t;simp only[ay,Tm.k,Tm.s,Tm.as];rfl
mutual
def iq(ops:List OpM):Tm->ByteArray->List VS->Option (List VS)
 |.mk k n s as,so,vs=>if k=1 then (match vs.find? fun v=>decide (v.1=s) with
  |some v=>if v.2=so then some vs else none
  |none=>some (vs++[(s,so)])) else fq ops as (if k=2 then (match eg ops s with |some o=>o.a |none=>[]) else []) vs
def fq(ops:List OpM):List Tm->List ByteArray->List VS->Option (List VS)
 | [],_,vs=>some vs
 |t::ts,[],vs=>match iq ops t e0 vs with |some vs'=>fq ops ts [] vs' |none=>none
 |t::ts,x::xs,vs=>match iq ops t x vs with |some vs'=>fq ops ts xs vs' |none=>none
end
theorem lr(ops:List OpM)(t:Tm)(so:ByteArray)(vs:List VS):iq ops t so vs=if t.k=1 then (match vs.find? fun v=>decide (v.1=t.s) with
 |some v=>if v.2=so then some vs else none
 |none=>some (vs++[(t.s,so)])) else fq ops t.as (if t.k=2 then (match eg ops t.s with |some o=>o.a |none=>[]) else []) vs:=by cases t;simp only[iq,Tm.k,Tm.s,Tm.as];rfl
def Dg(ops:List OpM)(t:Tm)(so:ByteArray)(vs:List VS):List D:=match iq ops t so vs with
 |some v=>[.bool true,.sl (v.map VS.row)]
 |none=>[.bool false,.sl (if t.k=1 then vs.map VS.row else [])]
def vu:Option (List VS)->List D
 |some v=>[.bool true,.sl (v.map VS.row)]
 |none=>[.bool false,.sl []]
theorem Jk(ops:List OpM):∀ (l:List Tm),(∀ t∈l,∀ x vs vs',iq ops t x vs=some vs'->vs'.length<=vs.length+t.nodes)->∀ xs vs vs',fq ops l xs vs=some vs'->vs'.length<=vs.length+(l.map Tm.nodes).sum
 | [],_,xs,vs,vs',h=>by simp only[fq,C9.injEq] at h;subst h;simp
 |t::l,ih,xs,vs,vs',h=>by
  have step:∀ x ys,(match iq ops t x vs with |some vs'=>fq ops l ys vs' |none=>none)=some vs'->vs'.length<=vs.length+((t::l).map Tm.nodes).sum:=fun x ys h=>by
   cases hq:iq ops t x vs with
   |none=>rw[hq] at h;simp at h
   |some v =>
    rw[hq] at h;have h1:=ih t (C7 ..) x vs v hq;have h2:=Jk ops l (fun a ha=>ih a (C8 _ ha)) ys v vs' h
    simp only[C4,K1];omega
  cases xs with
  |nil=>exact step _ _ (by simpa only[fq] using h)
  |cons x ys=>exact step _ _ (by simpa only[fq] using h)
theorem kw(ops:List OpM):∀ t:Tm,∀ x vs vs',iq ops t x vs=some vs'->vs'.length<=vs.length+t.nodes:=Tm.ind fun t ih x vs vs' h=>by
 rw[lr] at h;split at h
 ·split at h
  ·split at h
   ·simp only[C9.injEq] at h;subst h;omega
   ·simp at h
  ·simp only[C9.injEq] at h;subst h
   rw[Tm.nodes_eq];simp
 ·have:=Jk ops t.as ih _ _ _ h
  rw[Tm.nodes_eq];omega
def qh(ops:List OpM)(t:Tm)(so:ByteArray):Option (List VS):=match iq ops t so [] with
 |some vs=>if so=e0 then none else if ay ops vs t=so then some vs else none
 |none=>none
def Bz(so:List ByteArray)(ops:List OpM):Bool :=
 decide (so.length<=4)&&(dis so&&(decide (ops.length<=16)&&((so.all fun x=>ku x&&!decide (x=dh))&&((ops.all fun o=>ku o.n&&(!isB o.n&&(decide (o.a.length<=3)&&(o.a.all (fun x=>decide (x=dh)||ju so x)&&(decide (o.r=dh)||ju so o.r)))))&&dis (ops.map (·.n))))))
structure RuM where
 n:ByteArray
 l:Tm
 r:Tm
 g:List Gu
def RuM.row(r:RuM):List D:=[.str r.n,.int r.l.k,.int r.l.n,.str r.l.s,.sl (r.l.as.map Tm.row),.int r.r.k,.int r.r.n,.str r.r.s,.sl (r.r.as.map Tm.row),.sl (r.g.map Gu.row)]
def RuM.ok(r:RuM):Prop:=r.l.nodes<=1048577/\r.r.nodes<=1048577/\r.g.length<=1048576/\∀ g∈r.g,g.ok
mutual
def sd:Tm->Bool
 |.mk k n s as=>!(decide (k=2)&&isB s)&&kx as
def kx:List Tm->Bool
 | []=>true
 |t::ts=>sd t&&kx ts
end
theorem Jl(t:Tm):sd t=(!(decide (t.k=2)&&isB t.s)&&kx t.as):=by cases t;rfl
def ge(t:Tm)(names:List ByteArray):Bool:=t.names.all fun s=>ju names s
def rx(ops:List OpM)(vs:List VS)(g:Gu):Bool :=
 (decide (1<=g.k)&&decide (g.k<=3))&&(g.l.valid&&(g.r.valid&&(!decide (ay ops vs g.l=e0)&&(decide (ay ops vs g.l=ay ops vs g.r)&&!(decide (g.k=3)&&!decide (ay ops vs g.l=dh))))))
def zb(ops:List OpM)(vs:List VS)(gs:List Gu):Bool:=gs.all (rx ops vs)&&decide (gs.length<=2)
def jy(ops:List OpM)(r:RuM):Bool :=
 ku r.n&&(r.l.valid&&(decide (r.l.k=2)&&(sd r.l&&(r.r.valid&&(match eg ops r.l.s with
  |none=>false
  |some o=>match qh ops r.l o.r with
   |none=>false
   |some vs=>decide (ay ops vs r.r=o.r)&&(ge r.r r.l.names&&zb ops vs r.g))))))
structure StM where
 o:ByteArray
 a:Int
def StM.row(s:StM):List D:=[.str s.o,.int s.a]
structure DfM where
 so:List ByteArray
 op:List OpM
 ru:List RuM
 st:List StM
structure DfM.ok(d:DfM):Prop where
 so:d.so.length<=1048576
 op:d.op.length<=1048576
 opa:∀ o∈d.op,o.ok
 ru:d.ru.length<=1048576
 rua:∀ r∈d.ru,r.ok
 st:d.st.length<=1048576
def Mb(ops:List OpM)(s:StM):Bool:=match eg ops s.o with
 |none=>false
 |some o=>!isB s.o&&(decide (0<=s.a)&&decide (s.a<o.a.length))
def ky(ops:List OpM):List StM->List StM->Bool
 |_,[]=>true
 |pre,x::r=>Mb ops x&&(!(pre.any fun y=>decide (y.o=x.o)&&decide (y.a=x.a))&&ky ops (pre++[x]) r)
def DfM.valid(d:DfM):Bool:=Bz d.so d.op&&(decide (d.ru.length<=16)&&(decide (d.st.length<=8)&&(d.ru.all (jy d.op)&&(ky d.op [] d.st&&dis (d.ru.map (·.n))))))
end Go.Q
end
section
namespace Go.Q
open Go
structure GuB(g:Gu):Prop where
 wl:Wt g.l
 wr:Wt g.r
 ln:g.l.nodes<=1048577
 rn:g.r.nodes<=1048577
structure RuB(r:RuM):Prop where
 n:r.n.size<=maxLen
 wl:Wt r.l
 wr:Wt r.r
 ln:r.l.nodes<=1048577
 rn:r.r.nodes<=1048577
 g:r.g.length<=1048576
 ga:∀ g∈r.g,GuB g
structure DfB(d:DfM):Prop where
 so:d.so.length<=1048576
 sos:∀ x∈d.so,x.size<=maxLen
 op:qg d.op
 opn:∀ o∈d.op,o.n.size<=maxLen
 ru:d.ru.length<=1048576
 rua:∀ r∈d.ru,RuB r
 st:d.st.length<=1048576
theorem mw(ops:List OpM)(vs:List VS):∀ (l:List Tm) (xs:List ByteArray),l.length<=xs.length->bq ops vs l xs=true->∀ t∈l,ay ops vs t≠e0
 | [],_,_,_,t,ht=>by simp at ht
 |t::l,[],hl,_,_,_=>by simp at hl
 |t::l,x::xs,hl,h,u,hu=>by
  simp only[bq,B9,E7,decide_eq_false_iff_not,decide_eq_true_eq] at h;rcases E1.1 hu with e |hu
  ·exact e▸h.1.1
  ·exact mw ops vs l xs (by simpa using hl) h.2 u hu
theorem Qb{vs:List VS}{s:ByteArray}(h:sc vs s≠e0):∃ v∈vs,v.1=s:=by
 unfold sc at h;cases hq:vs.find? (fun v=>decide (v.1=s)) with
 |none=>rw[hq] at h;exact absurd rfl h
 |some v=>exact⟨v,S5 hq,by simpa using List.find?_some hq⟩
theorem zd(ops:List OpM)(vs:List VS):∀ t:Tm,t.areN=true->ay ops vs t≠e0->∀ x∈t.names,∃ v∈vs,v.1=x:=Tm.ind fun t ih hn hs x hx=>by
 rw[Tm.areN_eq,B9,Tm.areNL_all,E3] at hn;obtain⟨h1,h2⟩:=hn;rw[Tm.names_eq] at hx;rw[cw] at hs;unfold Tm.nodeN at h1;by_cases hk1:t.k=1
 ·rw[H5 hk1] at h1
  simp only[B9,decide_eq_true_eq] at h1;have ha:t.as=[]:=F9.1 h1.2.1;rw[ha] at hx;rw[H6 (by omega),H5 hk1] at hs
  simp only[hk1,if_true,List.flatMap_nil,G5,F1] at hx;subst hx;exact Qb hs
 ·rw[H6 hk1] at hx
  obtain⟨a,ha,hxa⟩:=K4.1 hx;by_cases hk3:t.k=3
  ·rw[H6 hk1,H5 hk3] at h1
   have:t.as=[]:=by simp only[isW,B9,decide_eq_true_eq] at h1;exact F9.1 h1.2.2.2.2
   rw[this] at ha;simp at ha
  ·rw[H6 hk3,H6 hk1] at hs
   by_cases hk2:t.k=2
   ·rw[H5 hk2] at hs
    cases hf:eg ops t.s with
    |none=>rw[hf] at hs;exact absurd rfl hs
    |some o =>
     rw[hf] at hs;simp only at hs;by_cases hl:o.a.length=t.as.length
     ·rw[H5 hl] at hs
      by_cases hss:bq ops vs t.as o.a=true
      ·exact ih a ha (h2 a ha) (mw ops vs t.as o.a (by omega) hss a ha) x hxa
      ·rw[H6 hss] at hs;exact absurd rfl hs
     ·rw[H6 hl] at hs;exact absurd rfl hs
   ·rw[H6 hk2] at hs;exact absurd rfl hs
theorem Ca(ops:List OpM):∀ (l:List Tm),(∀ t∈l,∀ x vs vs',iq ops t x vs=some vs'->∀ v∈vs',v∈vs\/v.1∈t.names)->∀ xs vs vs',fq ops l xs vs=some vs'->∀ v∈vs',v∈vs\/v.1∈l.flatMap Tm.names
 | [],_,xs,vs,vs',h,v,hv=>by simp only[fq,C9.injEq] at h;subst h;exact .inl hv
 |t::l,ih,xs,vs,vs',h,v,hv=>by
  have step:∀ x ys w,iq ops t x vs=some w->fq ops l ys w=some vs'->v∈vs\/v.1∈(t::l).flatMap Tm.names:=fun x ys w hq h=>by
   simp only[O1,D7];rcases Ca ops l (fun a ha=>ih a (C8 _ ha)) ys w vs' h v hv with h1 |h1
   ·rcases ih t (C7 ..) x vs w hq v h1 with h2 |h2
    ·exact .inl h2
    ·exact .inr (.inl h2)
   ·exact .inr (.inr h1)
  cases xs with
  |nil =>
   simp only[fq] at h;split at h
   ·rename_i w hq;exact step _ _ w hq h
   ·simp at h
  |cons x ys =>
   simp only[fq] at h;split at h
   ·rename_i w hq;exact step _ _ w hq h
   ·simp at h
theorem Mc(ops:List OpM):∀ t:Tm,∀ x vs vs',iq ops t x vs=some vs'->∀ v∈vs',v∈vs\/v.1∈t.names:=Tm.ind fun t ih x vs vs' h v hv=>by
 rw[lr] at h;rw[Tm.names_eq];by_cases hk:t.k=1
 ·rw[H5 hk] at h ⊢
  split at h
  ·split at h
   ·simp only[C9.injEq] at h;subst h;exact .inl hv
   ·simp at h
  ·simp only[C9.injEq] at h;subst h
   rcases D7.1 hv with h1 |h1
   ·exact .inl h1
   ·simp only[F1] at h1;subst h1;simp
 ·rw[H6 hk] at h
  rcases Ca ops t.as ih _ _ _ h v hv with h1 |h1
  ·exact .inl h1
  ·exact .inr (D7.2 (.inr h1))
theorem vv{ops:List OpM}{t:Tm}{x:ByteArray}{vs:List VS}(h:qh ops t x=some vs):iq ops t x []=some vs:=by
 unfold qh at h;cases hq:iq ops t x [] with
 |none=>rw[hq] at h;simp at h
 |some w =>
  rw[hq] at h;simp only at h;split at h
  ·simp at h
  ·split at h
   ·exact h
   ·simp at h
theorem Md{ops:List OpM}{t:Tm}{x:ByteArray}{vs:List VS}(h:qh ops t x=some vs):∀ v∈vs,v.1∈t.names:=fun v hv=>by
 rcases Mc ops t x [] vs (vv h) v hv with h1 |h1
 ·simp at h1
 ·exact h1
theorem Jm{ops:List OpM}{t:Tm}{x:ByteArray}{vs:List VS}(h:qh ops t x=some vs):vs.length<=t.nodes:=by
 have:=kw ops t x [] vs (vv h);simpa using this
theorem gh{t:Tm}{names:List ByteArray}:ge t names=true↔∀ x∈t.names,x∈names:=by
 simp only[ge,E3,vt]
theorem cq{t:Tm}(h:t.valid=true):t.areN=true:=by
 simp only[Tm.valid,B9] at h;exact h.2.2
theorem Jn{ops:List OpM}{vs:List VS}{g:Gu}{names:List ByteArray}(hv:∀ v∈vs,v.1∈names)(h:rx ops vs g=true):ge g.l names=true/\ge g.r names=true:=by
 simp only[rx,B9,E7,decide_eq_false_iff_not,decide_eq_true_eq] at h;obtain⟨_,h1,h2,h3,h4,_⟩:=h;constructor
 ·refine gh.2 fun x hx=>?_
  obtain⟨v,hm,e⟩:=zd ops vs g.l (cq h1) h3 x hx;exact e▸hv v hm
 ·refine gh.2 fun x hx=>?_
  obtain⟨v,hm,e⟩:=zd ops vs g.r (cq h2) (h4▸h3) x hx;exact e▸hv v hm
theorem Me(l r:List ByteArray):decide ((wo l r).length=0)=l.all fun s=>ju r s:=by
 induction l with
 |nil=>rfl
 |cons x l ih =>
  unfold wo at ih ⊢;rw[O7,J2];cases h:ju r x with
  |true=>simpa using ih
  |false=>simp
theorem ac5(t u:Tm):(wo (bx t.names) (bx u.names)).length=0↔ge t u.names=true:=by
 have:=Me (bx t.names) (bx u.names);rw[<-decide_eq_true_iff (p:=(wo (bx t.names) (bx u.names)).length=0),this,gh];simp only[E3,vt,qe]
theorem Nt(t:Tm)(ns:List ByteArray):(wo (bx t.names) ns).length=0↔ge t ns=true:=by
 have:=Me (bx t.names) ns;rw[<-decide_eq_true_iff (p:=(wo (bx t.names) ns).length=0),this,gh];simp only[E3,vt,qe]
def wv(vars:List ByteArray):List VS:=vars.map fun s=>(s,dh)
def jq(d:DfM)(vars:List ByteArray)(t:Tm):Bool :=
 d.valid&&(decide (vars.length<=3)&&(dis vars&&(vars.all rr&&(t.valid&&(ge t vars&&!decide (ay d.op (wv vars) t=e0))))))
structure ClM where
 d:DfM
 v:List ByteArray
 l:Tm
 r:Tm
 g:List Gu
def ClM.row(c:ClM):List D:=[.sl (c.d.so.map ag),.sl (c.d.op.map OpM.row),.sl (c.d.ru.map RuM.row),.sl (c.d.st.map StM.row),.sl (c.v.map ag),.int c.l.k,.int c.l.n,.str c.l.s,.sl (c.l.as.map Tm.row),.int c.r.k,.int c.r.n,.str c.r.s,.sl (c.r.as.map Tm.row),.sl (c.g.map Gu.row)]
structure ClB(c:ClM):Prop where
 d:DfB c.d
 v:c.v.length<=1048576
 vs:∀ x∈c.v,x.size<=maxLen
 wl:Wt c.l
 wr:Wt c.r
 ln:c.l.nodes<=1048577
 rn:c.r.nodes<=1048577
 g:c.g.length<=1048576
 ga:∀ g∈c.g,GuB g
def ClM.valid(c:ClM):Bool:=jq c.d c.v c.l&&(jq c.d c.v c.r&&(decide (ay c.d.op (wv c.v) c.l=ay c.d.op (wv c.v) c.r)&&zb c.d.op (wv c.v) c.g))
theorem Tb(vars:List ByteArray):∀ v∈wv vars,v.1∈vars:=fun v hv=>by
 obtain⟨s,h,e⟩:=F8.1 hv;exact e▸h
end Go.Q
end
section
/- Definitions and claims out of data. -/
namespace Go.Q.S
open Go Go.Q
end Go.Q.S
end
section
/- Matching,firing,sorts along a step. -/
namespace Go.Q
open Go
theorem vw{l l':List Bnd}(h:∀ s,bnd l s=bnd l' s):∀ t,aS l t=aS l' t:=Tm.ind fun t ih=>by
 have hm:t.as.map (aS l)=t.as.map (aS l'):=N1 fun a ha=>ih a ha
 rw[ey,ey l',h,hm]
theorem Mf{l l':List Bnd}(h:∀ s,bnd l s=bnd l' s)(g:Gu):du l g=du l' g:=by
 unfold du;rw[vw h,vw h]
theorem vx(l l':List Bnd)(s:ByteArray):bnd (l++l') s=match bnd l s with
 |some v=>some v
 |none=>bnd l' s:=by
 induction l with
 |nil=>rfl
 |cons b l ih =>
  simp only[F2,bnd];by_cases h:b.1=s
  ·rw[H5 h,H5 h]
  ·rw[H6 h,H6 h,ih]
mutual
noncomputable def mT:Tm->Tm->List Bnd->Option (List Bnd)
 |.mk k n s as,u,l =>
  if k=1 then (match bnd l s with
   |some v=>if eqb v.row u.row=true then some l else none
   |none=>some (l++[(s,u)]))
  else if k=u.k then (if n=u.n then (if s=u.s then (if as.length=u.as.length then mTs as u.as l else none) else none) else none) else none
noncomputable def mTs:List Tm->List Tm->List Bnd->Option (List Bnd)
 | [],_,l=>some l
 |_::_,[],_=>none
 |t::ts,u::us,l=>match mT t u l with
  |some l'=>mTs ts us l'
  |none=>none
end
theorem Jo(t u:Tm)(l:List Bnd):mT t u l=if t.k=1 then (match bnd l t.s with
 |some v=>if eqb v.row u.row=true then some l else none
 |none=>some (l++[(t.s,u)]))
 else if t.k=u.k then (if t.n=u.n then (if t.s=u.s then (if t.as.length=u.as.length then mTs t.as u.as l else none) else none) else none) else none:=by
 cases t;simp only[mT,Tm.k,Tm.n,Tm.s,Tm.as];rfl
theorem fu{t u:Tm}{l l':List Bnd}(h:mT t u l=some l') :
 (t.k=1/\(∃ v,bnd l t.s=some v)/\l'=l)\/(t.k=1/\bnd l t.s=none/\l'=l++[(t.s,u)]) ∨
 (t.k≠1/\t.k=u.k/\t.n=u.n/\t.s=u.s/\t.as.length=u.as.length/\mTs t.as u.as l=some l'):=by
 rw[Jo] at h;by_cases h1:t.k=1
 ·rw[H5 h1] at h
  cases hb:bnd l t.s with
  |some v =>
   rw[hb] at h;simp only at h;split at h
   ·simp only[C9.injEq] at h;exact .inl ⟨h1,⟨v,rfl⟩,h.symm⟩
   ·simp at h
  |none =>
   rw[hb] at h;simp only[C9.injEq] at h;exact .inr (.inl ⟨h1,rfl,h.symm⟩)
 ·rw[H6 h1] at h
  split at h
  ·split at h
   ·split at h
    ·split at h
     ·exact .inr (.inr ⟨h1,by assumption,by assumption,by assumption,by assumption,h⟩)
     ·simp at h
    ·simp at h
   ·simp at h
  ·simp at h
theorem zz{P:Tm->Tm->List Bnd->List Bnd->Prop}{Q:List Tm->List Tm->List Bnd->List Bnd->Prop}(h0:∀ us l,Q [] us l l)
 (hc:∀ t u l l1 ts us l2,P t u l l1->Q ts us l1 l2->Q (t::ts) (u::us) l l2) :
 ∀ (ts us:List Tm) (l l':List Bnd),(∀ t∈ts,∀ u∈us,∀ l l',mT t u l=some l'->P t u l l')->mTs ts us l=some l'->Q ts us l l'
 | [],us,l,l',_,h=>by simp only[mTs,C9.injEq] at h;subst h;exact h0 us l
 |t::ts,[],l,l',_,h=>by simp[mTs] at h
 |t::ts,u::us,l,l',ih,h=>by
  simp only[mTs] at h;split at h
  ·rename_i l1 h1
   exact hc _ _ _ _ _ _ _ (ih t (C7 ..) u (C7 ..) l l1 h1) (zz h0 hc ts us l1 l' (fun t ht u hu=>ih t (C8 _ ht) u (C8 _ hu)) h)
  ·simp at h
theorem kz(P:Tm->Prop)(hP:∀ t a,P t->a∈t.as->P a):∀ t u l l',P u->(∀ b∈l,P b.2)->mT t u l=some l'->∀ b∈l',P b.2:=Tm.ind fun t ih u l l' hu hl h=>by
 rcases fu h with ⟨_,_,e⟩|⟨_,_,e⟩|⟨_,_,_,_,_,h⟩
 ·subst e;exact hl
 ·subst e
  intro b hb;rcases D7.1 hb with hb |hb
  ·exact hl b hb
  ·simp only[F1] at hb;subst hb;exact hu
 ·have key:∀ (ts us:List Tm) (l l':List Bnd),(∀ a∈ts,a∈t.as)->(∀ a∈us,P a)->(∀ b∈l,P b.2)->mTs ts us l=some l'->∀ b∈l',P b.2:=by
   intro ts;induction ts with
   |nil=>intro us l l' _ _ hl h;simp only[mTs,C9.injEq] at h;subst h;exact hl
   |cons a ts ihs =>
    intro us l l' hts hus hl h;cases us with
    |nil=>simp[mTs] at h
    |cons b us =>
     simp only[mTs] at h;split at h
     ·rename_i l1 h1
      exact ihs us l1 l' (fun x hx=>hts x (C8 _ hx)) (fun x hx=>hus x (C8 _ hx)) (ih a (hts a (C7 ..)) b l l1 (hus b (C7 ..)) hl h1) h
     ·simp at h
  exact key _ _ _ _ (fun _ h=>h) (fun a ha=>hP u a hu ha) hl h
theorem xo:∀ t u l l',mT t u l=some l'->l'.length<=l.length+t.nodes:=Tm.ind fun t ih u l l' h=>by
 have hn:=Tm.nodes_eq t;rcases fu h with ⟨_,_,e⟩|⟨_,_,e⟩|⟨_,_,_,_,_,h⟩
 ·subst e;omega
 ·subst e;simp;omega
 ·have key:∀ (ts us:List Tm) (l l':List Bnd),(∀ a∈ts,a∈t.as)->mTs ts us l=some l'->l'.length<=l.length+(ts.map Tm.nodes).sum:=by
   intro ts;induction ts with
   |nil=>intro us l l' _ h;simp only[mTs,C9.injEq] at h;subst h;simp
   |cons a ts ihs =>
    intro us l l' hts h;cases us with
    |nil=>simp[mTs] at h
    |cons b us =>
     simp only[mTs] at h;split at h
     ·rename_i l1 h1
      have q1:=ih a (hts a (C7 ..)) b l l1 h1;have q2:=ihs us l1 l' (fun x hx=>hts x (C8 _ hx)) h
      simp only[C4,K1];omega
     ·simp at h
  have:=key _ _ _ _ (fun _ h=>h) h
  omega
theorem Tc:∀ t u l l',mT t u l=some l'->∀ s,bnd l' s≠none->bnd l s≠none\/s∈t.names:=Tm.ind fun t ih u l l' h s hs=>by
 rw[Tm.names_eq];rcases fu h with ⟨_,_,e⟩|⟨hk,_,e⟩|⟨_,_,_,_,_,h⟩
 ·subst e;exact .inl hs
 ·subst e
  rw[vx] at hs;cases hb:bnd l s with
  |some v=>exact .inl (by simp)
  |none =>
   rw[hb] at hs;simp only[bnd] at hs;by_cases e:t.s=s
   ·right;rw[H5 hk,e];simp
   ·rw[H6 e] at hs;exact absurd rfl hs
 ·have key:∀ (ts us:List Tm) (l l':List Bnd),(∀ a∈ts,a∈t.as)->mTs ts us l=some l'->bnd l' s≠none->bnd l s≠none\/s∈ts.flatMap Tm.names:=by
   intro ts;induction ts with
   |nil=>intro us l l' _ h hs;simp only[mTs,C9.injEq] at h;subst h;exact .inl hs
   |cons a ts ihs =>
    intro us l l' hts h hs;cases us with
    |nil=>simp[mTs] at h
    |cons b us =>
     simp only[mTs] at h;split at h
     ·rename_i l1 h1
      simp only[O1,D7];rcases ihs us l1 l' (fun x hx=>hts x (C8 _ hx)) h hs with q |q
      ·rcases ih a (hts a (C7 ..)) b l l1 h1 s q with q |q
       ·exact .inl q
       ·exact .inr (.inl q)
      ·exact .inr (.inr q)
     ·simp at h
  rcases key _ _ _ _ (fun _ h=>h) h hs with q |q
  ·exact .inl q
  ·exact .inr (D7.2 (.inr q))
def rsB(l:List Bnd)(ns:List ByteArray):List Bnd:=ns.filterMap fun s=>(bnd l s).map fun v=>(s,v)
open Classical in
theorem Nu(l:List Bnd)(s:ByteArray):∀ ns:List ByteArray,bnd (rsB l ns) s=if s∈ns then bnd l s else none
 | []=>by simp[rsB,bnd]
 |x::ns=>by
  have ih:=Nu l s ns;unfold rsB at ih ⊢;rw[T1];cases hx:bnd l x with
  |none =>
   simp only[U1];rw[ih];by_cases h:s∈ns
   ·rw[H5 h,H5 (C8 _ h)]
   ·rw[H6 h]
    by_cases e:s=x
    ·subst e;rw[H5 (C7 ..),hx]
    ·rw[H6 (by simp[e,h])]
  |some v =>
   simp only[K2,bnd];by_cases e:x=s
   ·subst e;rw[H5 rfl,H5 (C7 ..),hx]
   ·rw[H6 e,ih]
    by_cases h:s∈ns
    ·rw[H5 h,H5 (C8 _ h)]
    ·rw[H6 h,H6 (by simp[h,Ne.symm e])]
theorem Qc{t u:Tm}{l:List Bnd}(h:mT t u []=some l)(s:ByteArray):bnd (rsB l (bx (bx t.names))) s=bnd l s:=by
 rw[Nu];by_cases hs:s∈bx (bx t.names)
 ·rw[H5 hs]
 ·rw[H6 hs]
  cases hb:bnd l s with
  |none=>rfl
  |some v =>
   rcases Tc t u [] l h s (by rw[hb];simp) with q |q
   ·exact absurd rfl q
   ·exact absurd ((qe _ _).2 ((qe _ _).2 q)) hs
noncomputable def gi(r:RuM)(u:Tm):Option Tm:=match mT r.l u [] with
 |none=>none
 |some l=>if (r.g.all fun g=>holds (du l g))=true then some (rW (aS l r.r)) else none
def fv(vs:List VS)(s:ByteArray):Option VS:=vs.find? fun v=>decide (v.1=s)
theorem Jp(vs:List VS)(s:ByteArray):sc vs s=match fv vs s with |some v=>v.2 |none=>e0:=rfl
theorem xp(vs:List VS)(x:VS)(s:ByteArray):fv (vs++[x]) s=match fv vs s with
 |some v=>some v
 |none=>if x.1=s then some x else none:=by
 unfold fv;rw[List.find?_append];cases h:vs.find? fun v=>decide (v.1=s) with
 |some v=>rfl
 |none=>by_cases e:x.1=s<;>simp[e]
def qi(ops:List OpM)(vs:List VS)(l:List Bnd):Prop:=∀ s,match fv vs s,bnd l s with
 |none,none=>True
 |some v,some w=>ay ops [] w=v.2
 |_,_=>False
theorem qi.none{ops:List OpM}{vs:List VS}{l:List Bnd}(h:qi ops vs l){s:ByteArray}(hv:fv vs s=Option.none):bnd l s=Option.none:=by
 have:=h s;rw[hv] at this;cases hb:bnd l s with
 |none=>rfl
 |some w=>rw[hb] at this;exact this.elim
theorem qi.some{ops:List OpM}{vs:List VS}{l:List Bnd}(h:qi ops vs l){s:ByteArray}{v:VS}(hv:fv vs s=some v):∃ w,bnd l s=some w/\ay ops [] w=v.2:=by
 have:=h s;rw[hv] at this;cases hb:bnd l s with
 |none=>rw[hb] at this;exact this.elim
 |some w=>rw[hb] at this;exact⟨w,rfl,this⟩
theorem jm{ops:List OpM}{vs:List VS}{t:Tm}(hk:t.k=2)(hs:ay ops vs t≠e0):∃ o,eg ops t.s=some o/\o.a.length=t.as.length/\bq ops vs t.as o.a=true/\ay ops vs t=o.r:=by
 rw[cw,H6 (by omega),H6 (by omega),H5 hk] at hs
 rw[cw,H6 (by omega),H6 (by omega),H5 hk]
 cases hf:eg ops t.s with
 |none=>rw[hf] at hs;exact absurd rfl hs
 |some o =>
  rw[hf] at hs;simp only at hs ⊢;by_cases hl:o.a.length=t.as.length
  ·rw[H5 hl] at hs ⊢
   by_cases hq:bq ops vs t.as o.a=true
   ·exact⟨o,rfl,hl,hq,by rw[H5 hq]⟩
   ·rw[H6 hq] at hs;exact absurd rfl hs
  ·rw[H6 hl] at hs;exact absurd rfl hs
theorem la{ops:List OpM}{vs:List VS}{t:Tm}(hk:t.k=2){o:OpM}(hf:eg ops t.s=some o)(hl:o.a.length=t.as.length)(hq:bq ops vs t.as o.a=true):ay ops vs t=o.r:=by
 rw[cw,H6 (by omega),H6 (by omega),H5 hk,hf]
 simp only[H5 hl,H5 hq]
theorem cj{t:Tm}(h:t.areN=true):(t.k=1/\t.as=[])\/(t.k=3/\isW t=true/\t.as=[])\/t.k=2:=by
 rw[Tm.areN_eq,B9] at h;have h:=h.1;unfold Tm.nodeN at h;by_cases h1:t.k=1
 ·rw[H5 h1] at h
  simp only[B9,decide_eq_true_eq] at h;exact .inl ⟨h1,F9.1 h.2.1⟩
 ·rw[H6 h1] at h
  by_cases h3:t.k=3
  ·rw[H5 h3] at h
   have h':=h;simp only[isW,B9,decide_eq_true_eq] at h';exact .inr (.inl ⟨h3,h,F9.1 h'.2.2.2.2⟩)
  ·rw[H6 h3] at h
   by_cases h2:t.k=2
   ·exact .inr (.inr h2)
   ·rw[H6 h2] at h;simp at h
theorem cx{t a:Tm}(h:t.areN=true)(ha:a∈t.as):a.areN=true:=by
 rw[Tm.areN_eq,B9,Tm.areNL_all,E3] at h;exact h.2 a ha
theorem Jq(ops:List OpM):∀ t,t.areN=true->∀ u x vs vs' l l',ay ops [] u=x->x≠e0->qi ops vs l->iq ops t x vs=some vs'->mT t u l=some l'->qi ops vs' l':=Tm.ind fun t ih hn u x vs vs' l l' hu hx hA hi hm=>by
 rw[lr] at hi;by_cases h1:t.k=1
 ·rw[H5 h1] at hi
  cases hv:fv vs t.s with
  |some v =>
   unfold fv at hv;rw[hv] at hi;simp only at hi;obtain⟨w,hb,_⟩:=hA.some hv;split at hi
   ·simp only[C9.injEq] at hi
    subst hi;rcases fu hm with ⟨_,_,e⟩|⟨_,q,_⟩|⟨q,_⟩
    ·subst e;exact hA
    ·rw[hb] at q;simp at q
    ·exact absurd h1 q
   ·simp at hi
  |none =>
   have hb:=hA.none hv;have hv':=hv;unfold fv at hv;rw[hv] at hi;simp only[C9.injEq] at hi;subst hi;rcases fu hm with ⟨_,⟨v,q⟩,_⟩|⟨_,_,e⟩|⟨q,_⟩
   ·rw[hb] at q;simp at q
   ·subst e
    intro s;have hs:=hA s;rw[xp,vx];cases q1:fv vs s with
    |some v =>
     rw[q1] at hs;cases q2:bnd l s with
     |some w=>rw[q2] at hs;exact hs
     |none=>rw[q2] at hs;exact hs.elim
    |none =>
     rw[q1] at hs;cases q2:bnd l s with
     |some w=>rw[q2] at hs;exact hs.elim
     |none =>
      simp only[bnd];by_cases e:t.s=s
      ·rw[H5 e,H5 e];exact hu
      ·rw[H6 e,H6 e];trivial
   ·exact absurd h1 q
 ·rw[H6 h1] at hi
  rcases fu hm with ⟨q,_⟩|⟨q,_⟩|⟨_,e1,e2,e3,e4,hms⟩
  ·exact absurd q h1
  ·exact absurd q h1
  ·rcases cj hn with ⟨q,_⟩|⟨_,_,q⟩ |h2
   ·exact absurd q h1
   ·rw[q] at hi hms
    simp only[fq,mTs,C9.injEq] at hi hms;subst hi;subst hms;exact hA
   ·obtain⟨o,hf,hl,hss,_⟩:=jm (t:=u) (by omega) (by rw[hu];exact hx)
    rw[H5 h2,e3,hf] at hi;simp only at hi;have key:∀ (ts us:List Tm) (xs:List ByteArray) (vs vs':List VS) (l l':List Bnd),(∀ a∈ts,a∈t.as)->us.length=xs.length->bq ops [] us xs=true->qi ops vs l->fq ops ts xs vs=some vs'->mTs ts us l=some l'->qi ops vs' l':=by
     intro ts;induction ts with
     |nil =>
      intro us xs vs vs' l l' _ _ _ hA hi hm;simp only[fq,mTs,C9.injEq] at hi hm;subst hi;subst hm;exact hA
     |cons a ts ihs =>
      intro us xs vs vs' l l' hts hlen hss hA hi hm;cases us with
      |nil=>simp[mTs] at hm
      |cons b us =>
       cases xs with
       |nil=>simp at hlen
       |cons y xs =>
        simp only[fq] at hi;simp only[mTs] at hm;simp only[bq,B9,E7,decide_eq_false_iff_not,decide_eq_true_eq] at hss;split at hi
        ·rename_i vs1 hi1
         split at hm
         ·rename_i l1 hm1
          have:=ih a (hts a (C7 ..)) (cx hn (hts a (C7 ..))) b y vs vs1 l l1 hss.1.2 (hss.1.2▸hss.1.1) hA hi1 hm1;exact ihs us xs vs1 vs' l1 l' (fun z hz=>hts z (C8 _ hz)) (by simpa using hlen) hss.2 this hi hm
         ·simp at hm
        ·simp at hi
    exact key _ _ _ _ _ _ _ (fun _ h=>h) hl.symm hss hA hi hms
theorem Nv{ops:List OpM}{vs:List VS}{l:List Bnd}(hA:qi ops vs l):∀ t,t.areN=true->ay ops vs t≠e0->ay ops [] (aS l t)=ay ops vs t:=Tm.ind fun t ih hn hs=>by
 rcases cj hn with ⟨h1,ha⟩|⟨h3,_,ha⟩ |h2
 ·have e:ay ops vs t=sc vs t.s:=by rw[cw,H6 (by omega),H5 h1]
  rw[e] at hs ⊢;rw[Jp] at hs ⊢;cases hv:fv vs t.s with
  |none=>rw[hv] at hs;exact absurd rfl hs
  |some v =>
   obtain⟨w,hb,hw⟩:=hA.some hv;rw[ey,H5 h1,hb];exact hw
 ·rw[ey,H6 (by omega)]
  rw[cw,cw ops vs,H5 (show(Tm.mk t.k t.n t.s _).k=3 from h3),H5 h3]
 ·obtain⟨o,hf,hl,hss,e⟩:=jm h2 hs
  rw[ey,H6 (by omega),e]
  have key:∀ (ts:List Tm) (xs:List ByteArray),(∀ a∈ts,a∈t.as)->bq ops vs ts xs=true->bq ops [] (ts.map (aS l)) xs=true:=by
   intro ts;induction ts with
   |nil=>intro xs _ _;rfl
   |cons a ts ihs =>
    intro xs hts h;cases xs with
    |nil=>rfl
    |cons y xs =>
     simp only[bq,B9,E7,decide_eq_false_iff_not,decide_eq_true_eq] at h;have q:=ih a (hts a (C7 ..)) (cx hn (hts a (C7 ..))) h.1.1;simp only[C4,bq,B9,E7,decide_eq_false_iff_not,decide_eq_true_eq,q];exact⟨h.1,ihs xs (fun z hz=>hts z (C8 _ hz)) h.2⟩
  exact la (t:=.mk t.k t.n t.s (t.as.map (aS l))) h2 hf (by simpa[Tm.as] using hl) (key _ _ (fun _ h=>h) hss)
theorem Gv(ops:List OpM)(vs:List VS):∀ t,t.areN=true->ay ops vs t≠e0->ay ops vs (rW t)=ay ops vs t:=Tm.ind fun t ih hn hs=>by
 have plain:ay ops vs (.mk t.k t.n t.s (t.as.map rW))=ay ops vs t:=by
  rcases cj hn with ⟨h1,ha⟩|⟨h3,_,ha⟩ |h2
  ·rw[cw,cw ops vs t,H6 (show ¬(Tm.mk t.k t.n t.s _).k=3 by show ¬ t.k=3;omega),H5 (show(Tm.mk t.k t.n t.s _).k=1 from h1),H6 (by omega),H5 h1];rfl
  ·rw[cw,cw ops vs t,H5 (show(Tm.mk t.k t.n t.s _).k=3 from h3),H5 h3]
  ·obtain⟨o,hf,hl,hss,e⟩:=jm h2 hs
   rw[e];have key:∀ (ts:List Tm) (xs:List ByteArray),(∀ a∈ts,a∈t.as)->bq ops vs ts xs=true->bq ops vs (ts.map rW) xs=true:=by
    intro ts;induction ts with
    |nil=>intro xs _ _;rfl
    |cons a ts ihs =>
     intro xs hts h;cases xs with
     |nil=>rfl
     |cons y xs =>
      simp only[bq,B9,E7,decide_eq_false_iff_not,decide_eq_true_eq] at h;have q:=ih a (hts a (C7 ..)) (cx hn (hts a (C7 ..))) h.1.1;simp only[C4,bq,B9,E7,decide_eq_false_iff_not,decide_eq_true_eq,q];exact⟨h.1,ihs xs (fun z hz=>hts z (C8 _ hz)) h.2⟩
   exact la (t:=.mk t.k t.n t.s (t.as.map rW)) h2 hf (by simpa[Tm.as] using hl) (key _ _ (fun _ h=>h) hss)
 rw[fg];unfold rW1;split
 ·rename_i x y hxy
  split
  ·rename_i hc
   obtain⟨hk,_,hB,_,_⟩:=hc;obtain⟨o,hf,_,_,e⟩:=jm hk hs;rw[e];unfold eg at hf;rw[H5 hB] at hf;simp only[C9.injEq] at hf;subst hf;rw[cw];rfl
  ·exact plain
 ·exact plain
end Go.Q
end
section
/- aj terms stay good along a step. -/
namespace Go.Q
open Go
theorem ac6{s:ByteArray}{x y:Tm}(hx:isW x=true)(hy:isW y=true):0<=cmp s x.n y.n/\cmp s x.n y.n<4:=by
 simp only[isW,B9,decide_eq_true_eq] at hx hy;obtain⟨_,a1,a2,_⟩:=hx;obtain⟨_,b1,b2,_⟩:=hy;unfold cmp;split
 ·exact⟨R6 4 (by omega),P7 _ (by decide)⟩
 ·split
  ·exact⟨R6 4 (by omega),P7 _ (by decide)⟩
  ·exact⟨R6 4 (Int.mul_nonneg a1 b1),P7 _ (by decide)⟩
theorem Tm.n_mk(k n:Int)(s:ByteArray)(as:List Tm):(Tm.mk k n s as).n=n:=rfl
theorem Aa{t:Tm}(h:t.areN=true){as:List Tm}(hl:as.length=t.as.length)(ha:∀ a∈as,a.areN=true):(Tm.mk t.k t.n t.s as).areN=true:=by
 rw[Tm.areN_eq,B9] at h ⊢;refine⟨?_,by rw[Tm.areNL_all,E3];exact ha⟩
 have h:=h.1;unfold Tm.nodeN isW at h ⊢;simp only[Tm.k_mk,Tm.n_mk,Tm.s_mk,Tm.as_mk,hl];exact h
theorem Gw{l:List Bnd}(hl:∀ b∈l,b.2.areN=true):∀ t,t.areN=true->(aS l t).areN=true:=Tm.ind fun t ih h=>by
 rw[ey];split
 ·rename_i u hu
  split at hu
  ·obtain⟨b,h1,rfl⟩:=eh hu;exact hl b h1
  ·simp at hu
 ·exact Aa h (by simp) fun a ha=>by
   obtain⟨x,hx,rfl⟩:=F8.1 ha;exact ih x hx (cx h hx)
theorem Nw:∀ t,t.areN=true->(rW t).areN=true:=Tm.ind fun t ih h=>by
 have plain:(Tm.mk t.k t.n t.s (t.as.map rW)).areN=true:=Aa h (by simp) fun a ha=>by
  obtain⟨x,hx,rfl⟩:=F8.1 ha;exact ih x hx (cx h hx)
 rw[fg];unfold rW1;split
 ·rename_i x y hxy
  split
  ·rename_i hc
   obtain⟨c1,c2⟩:=ac6 (s:=t.s) hc.2.2.2.1 hc.2.2.2.2;rw[Tm.areN_eq];unfold Tm.nodeN isW;simp only[Tm.k_mk,Tm.n_mk,Tm.s_mk,Tm.as_mk];simp[Tm.areNL,c1,c2]
  ·exact plain
 ·exact plain
theorem Nx{t:Tm}(h:Wt t){as:List Tm}(hl:as.length=t.as.length)(ha:∀ a∈as,Wt a):Wt (.mk t.k t.n t.s as):=.mk h.k h.n h.s (by rw[Tm.as_mk,hl];exact h.l) ha
theorem Ny{l:List Bnd}(hl:∀ b∈l,Wt b.2):∀ t,Wt t->Wt (aS l t):=Tm.ind fun t ih h=>by
 rw[ey];split
 ·rename_i u hu
  split at hu
  ·obtain⟨b,h1,rfl⟩:=eh hu;exact hl b h1
  ·simp at hu
 ·exact Nx h (by simp) fun a ha=>by
   obtain⟨x,hx,rfl⟩:=F8.1 ha;exact ih x hx (h.sub hx)
theorem Nz:∀ t,Wt t->Wt (rW t):=Tm.ind fun t ih h=>by
 have plain:Wt (Tm.mk t.k t.n t.s (t.as.map rW)):=Nx h (by simp) fun a ha=>by
  obtain⟨x,hx,rfl⟩:=F8.1 ha;exact ih x hx (h.sub hx)
 rw[fg];unfold rW1;split
 ·rename_i x y hxy
  split
  ·rename_i hc
   exact .mk (show S.i64ok 3 from S.i64ok_of (by decide) (by decide)) (S.cmp_ok hc.2.2.2.1 hc.2.2.2.2) (show(⟨#[]⟩:ByteArray).size<=maxLen by decide) (G9 _) (by intro a ha;rw[Tm.as_mk] at ha;simp at ha)
  ·exact plain
 ·exact plain
theorem Yg{xs:List Tm}{f g:Tm->Nat}{m:Nat}(h:∀ x∈xs,f x<=m*g x):(xs.map f).sum<=m*(xs.map g).sum:=by
 induction xs with
 |nil=>simp
 |cons x xs ih =>
  have h1:=h x (C7 ..);have h2:=ih fun y hy=>h y (C8 _ hy)
  simp only[C4,K1,Nat.mul_add];omega
theorem jh{l:List Bnd}{m:Nat}(hm:1<=m)(hl:∀ b∈l,b.2.nodes<=m):∀ t,(aS l t).nodes<=m*t.nodes:=Tm.ind fun t ih=>by
 rw[ey];have h1:=Tm.nodes_eq t;split
 ·rename_i u hu
  split at hu
  ·obtain⟨b,hb,rfl⟩:=eh hu
   have:=hl b hb;rw[h1,Nat.mul_add];omega
  ·simp at hu
 ·rw[Tm.nodes_eq]
  simp only[Tm.as_mk,K3];have:=Yg (xs:=t.as) (f:=Tm.nodes ∘ aS l) (g:=Tm.nodes) ih;rw[h1,Nat.mul_add];omega
structure Gt(ops:List OpM)(t:Tm):Prop where
 w:Wt t
 n:t.areN=true
 s:ay ops [] t≠e0
theorem Gt.arr{ops:List OpM}{t:Tm}(h:Gt ops t)(hk:t.k=2):∃ o,eg ops t.s=some o/\o.a.length=t.as.length/\bq ops [] t.as o.a=true/\ay ops [] t=o.r:=jm hk h.s
theorem Gt.sub{ops:List OpM}{t a:Tm}(h:Gt ops t)(ha:a∈t.as):Gt ops a:=by
 refine⟨h.w.sub ha,cx h.n ha,?_⟩;rcases cj h.n with ⟨_,q⟩|⟨_,_,q⟩ |h2
 ·rw[q] at ha;simp at ha
 ·rw[q] at ha;simp at ha
 ·obtain⟨o,_,hl,hs,_⟩:=h.arr h2
  exact mw ops [] t.as o.a (by omega) hs a ha
structure RuG(ops:List OpM)(r:RuM):Prop where
 b:RuB r
 lv:r.l.valid=true
 lk:r.l.k=2
 rv:r.r.valid=true
 gl:∀ g∈r.g,g.l.valid=true/\g.r.valid=true
 inf:∃ o vs,eg ops r.l.s=some o/\qh ops r.l o.r=some vs/\ay ops vs r.r=o.r
theorem ac7{ops:List OpM}{r:RuM}(hb:RuB r)(h:jy ops r=true):RuG ops r:=by
 unfold jy at h;simp only[B9,decide_eq_true_eq] at h;obtain⟨_,h1,h2,_,h3,h4⟩:=h;cases hf:eg ops r.l.s with
 |none=>rw[hf] at h4;simp at h4
 |some o =>
  rw[hf] at h4;simp only at h4;cases hi:qh ops r.l o.r with
  |none=>rw[hi] at h4;simp at h4
  |some vs =>
   rw[hi] at h4;simp only[B9,decide_eq_true_eq,zb,E3] at h4;refine⟨hb,h1,h2,h3,fun g hg=>?_,o,vs,hf,hi,h4.1⟩
   have:=h4.2.2.1 g hg;simp only[rx,B9] at this;exact⟨this.2.1,this.2.2.1⟩
theorem az{t:Tm}(h:t.valid=true):t.nodes<=60:=by
 simp only[Tm.valid,B9,decide_eq_true_eq] at h;exact h.1
theorem Qd(ops:List OpM):qi ops [] []:=fun s=>by simp[fv,bnd]
theorem Qe{ops:List OpM}{r:RuM}(hr:RuG ops r){u w:Tm}(hu:Gt ops u)(hn:u.nodes<=60)(h:gi r u=some w):Gt ops w/\ay ops [] w=ay ops [] u/\w.nodes<=3600:=by
 unfold gi at h;cases hm:mT r.l u [] with
 |none=>rw[hm] at h;simp at h
 |some l =>
  rw[hm] at h;simp only at h;split at h
  ·simp only[C9.injEq] at h
   subst h;obtain⟨o,vs,hf,hi,hs⟩:=hr.inf;have hk:u.k=2/\u.s=r.l.s:=by
    rcases fu hm with ⟨q,_⟩|⟨q,_⟩|⟨_,q1,_,q2,_⟩
    ·have:=hr.lk;omega
    ·have:=hr.lk;omega
    ·exact⟨by rw[<-q1];exact hr.lk,q2.symm⟩
   obtain⟨o',hf',_,_,he⟩:=hu.arr hk.1;rw[hk.2,hf] at hf';simp only[C9.injEq] at hf';subst hf';have hne:o.r≠e0:=he▸hu.s;have hA:=Jq ops r.l (cq hr.lv) u o.r [] vs [] l he hne (Qd ops) (vv hi) hm;have hw:∀ b∈l,Wt b.2/\(b.2.areN=true/\b.2.nodes<=60):=kz (fun t=>Wt t/\(t.areN=true/\t.nodes<=60)) (fun t a h ha=>⟨h.1.sub ha,cx h.2.1 ha,by
    have:=ei (f:=Tm.nodes) ha;have:=Tm.nodes_eq t;have:=h.2.2;omega⟩) r.l u [] l ⟨hu.w,hu.n,hn⟩ (by simp) hm
   have hn1:=Gw (fun b hb=>(hw b hb).2.1) r.r (cq hr.rv)
   have hs1:ay ops [] (aS l r.r)=ay ops vs r.r:=Nv hA r.r (cq hr.rv) (hs▸hne);have hs2:ay ops [] (rW (aS l r.r))=o.r:=by rw[Gv ops [] _ hn1 (by rw[hs1,hs];exact hne),hs1,hs]
   have hm1:=jh (m:=60) (by decide) (fun b hb=>(hw b hb).2.2) r.r
   have hm2:=gy (aS l r.r);have hm3:=az hr.rv;refine⟨⟨Nz _ (Ny (fun b hb=>(hw b hb).1) r.r hr.b.wr),Nw _ hn1,hs2▸hne⟩,by rw[hs2,he],by omega⟩
  ·simp at h
def atT:Tm->List Int->Option Tm
 |t,[]=>some t
 |t,i::p=>if h:i.toNat<t.as.length then (if 0<=i then atT t.as[i.toNat] p else none) else none
def cu:Tm->List Int->Tm->Tm
 |_,[],w=>w
 |t,i::p,w=>if h:i.toNat<t.as.length then .mk t.k t.n t.s (t.as.set i.toNat (cu t.as[i.toNat] p w)) else t
theorem cr{t u:Tm}{i:Int}{p:List Int}(h:atT t (i::p)=some u):∃ hi:i.toNat<t.as.length,0<=i/\atT t.as[i.toNat] p=some u:=by
 simp only[atT] at h;split at h
 ·rename_i hi
  split at h
  ·exact⟨hi,by assumption,h⟩
  ·simp at h
 ·simp at h
theorem tp{ops:List OpM}{vs:List VS}:∀ (l:List Tm) (xs:List ByteArray) (i:Nat) (hi:i<l.length) (x:Tm),ay ops vs x=ay ops vs l[i]->bq ops vs (l.set i x) xs=bq ops vs l xs
 | [],_,i,hi,_,_=>by simp at hi
 |a::l,xs,0,hi,x,h=>by
  cases xs with
  |nil=>rfl
  |cons y xs =>
   simp only[List.getElem_cons_zero] at h;simp only[List.set_cons_zero,bq,h]
 |a::l,xs,i+1,hi,x,h=>by
  cases xs with
  |nil=>rfl
  |cons y xs =>
   simp only[List.getElem_cons_succ] at h;simp only[U3,bq];rw[tp l xs i (by simpa using hi) x h]
theorem Jr{ops:List OpM}:∀ (p:List Int) (t u w:Tm),Gt ops t->atT t p=some u->Gt ops w->ay ops [] w=ay ops [] u->Gt ops (cu t p w)/\ay ops [] (cu t p w)=ay ops [] t
 | [],t,u,w,ht,h,hw,hs=>by
  simp only[atT,C9.injEq] at h;subst h;exact⟨hw,hs⟩
 |i::p,t,u,w,ht,h,hw,hs=>by
  obtain⟨hi,h0,h1⟩:=cr h;have hm:=C0 hi;obtain⟨g1,g2⟩:=Jr p t.as[i.toNat] u w (ht.sub hm) h1 hw hs;simp only[cu,dif_pos hi];have h2:t.k=2:=by
   rcases cj ht.n with ⟨_,q⟩|⟨_,_,q⟩ |h2
   ·rw[q] at hi;simp at hi
   ·rw[q] at hi;simp at hi
   ·exact h2
  obtain⟨o,hf,hl,hss,e⟩:=ht.arr h2;have es:ay ops [] (.mk t.k t.n t.s (t.as.set i.toNat (cu t.as[i.toNat] p w)))=o.r:=by
   refine la (t:=.mk t.k t.n t.s _) h2 hf (by rw[Tm.as_mk,K0];exact hl) ?_
   rw[Tm.as_mk,tp t.as o.a i.toNat hi _ g2];exact hss
  refine⟨⟨Nx ht.w (by simp) fun a ha=>?_,Aa ht.n (by simp) fun a ha=>?_,by rw[es,<-e];exact ht.s⟩,by rw[es,e]⟩
  ·rcases K5 ha with q |q
   ·exact ht.w.sub q
   ·exact q▸g1.w
  ·rcases K5 ha with q |q
   ·exact cx ht.n q
   ·exact q▸g1.n
theorem ji:∀ (p:List Int) (t u:Tm),atT t p=some u->u.nodes+p.length<=t.nodes
 | [],t,u,h=>by simp only[atT,C9.injEq] at h;subst h;simp
 |i::p,t,u,h=>by
  obtain⟨hi,h0,h1⟩:=cr h;have h2:=ji p _ u h1;have:=ei (f:=Tm.nodes) (C0 hi);have:=Tm.nodes_eq t;simp only[C2];omega
theorem Oa:∀ (l:List Tm) (i:Nat) (hi:i<l.length) (x:Tm),((l.set i x).map Tm.nodes).sum<=(l.map Tm.nodes).sum+x.nodes
 | [],i,hi,_=>by simp at hi
 |a::l,0,hi,x=>by simp only[List.set_cons_zero,C4,K1];omega
 |a::l,i+1,hi,x=>by
  have:=Oa l i (by simpa using hi) x
  simp only[U3,C4,K1];omega
theorem my(w:Tm):∀ (p:List Int) (t:Tm),(cu t p w).nodes<=t.nodes*(p.length+1)+w.nodes
 | [],t=>by simp[cu]
 |i::p,t=>by
  simp only[cu];split
  ·rename_i hi
   have h1:=my w p t.as[i.toNat];have h2:=Oa t.as i.toNat hi (cu t.as[i.toNat] p w);have h3:=ei (f:=Tm.nodes) (C0 hi);have h4:=Tm.nodes_eq t;rw[Tm.nodes_eq,Tm.as_mk];have h5:t.as[i.toNat].nodes*(p.length+1)<=t.nodes*(p.length+1):=Nat.mul_le_mul_right _ (by omega)
   have h6:t.nodes*((i::p).length+1)=t.nodes*(p.length+1)+t.nodes:=by rw[C2,Nat.mul_add _ _ 1,Nat.mul_one]
   omega
  ·have:t.nodes<=t.nodes*((i::p).length+1):=Nat.le_mul_of_pos_right _ (by simp)
   omega
theorem Gx{P:Tm->Prop}(hP:∀ t a,P t->a∈t.as->P a):∀ (p:List Int) (t u:Tm),P t->atT t p=some u->P u
 | [],t,u,ht,h=>by simp only[atT,C9.injEq] at h;subst h;exact ht
 |i::p,t,u,ht,h=>by
  obtain⟨hi,h0,h1⟩:=cr h;exact Gx hP p _ u (hP t _ ht (C0 hi)) h1
def lb(st:List StM)(s:ByteArray):List Int:=(st.filter fun x=>decide (x.o=s)).map (·.a)
def stL(st:List StM)(t:Tm):List Int:=if t.k=2 then lb st t.s else []
noncomputable def pc(ru:List RuM)(u:Tm):Option Nat:=ru.findIdx? fun r=>(gi r u).isSome
def lu(l:List Int)(rs:List (Option (Nat×List Int))):Option (Nat×List Int):=l.findSome? fun i=>if 0<=i then (match rs[i.toNat]? with |some (some x)=>some (x.1,i::x.2) |_=>none) else none
mutual
noncomputable def nx(d:DfM):Tm->Option (Nat×List Int)
 |.mk k n s as=>match lu (if k=2 then lb d.st s else []) (nxs d as) with
  |some x=>some x
  |none=>(pc d.ru (.mk k n s as)).map fun i=>(i,[])
noncomputable def nxs(d:DfM):List Tm->List (Option (Nat×List Int))
 | []=>[]
 |t::ts=>nx d t::nxs d ts
end
theorem Ob(d:DfM):∀ ts,nxs d ts=ts.map (nx d)
 | []=>by simp only[nxs,D4]
 |t::ts=>by simp only[nxs,C4,Ob d ts]
theorem Oc(d:DfM)(t:Tm):nx d t=match lu (stL d.st t) (t.as.map (nx d)) with
 |some x=>some x
 |none=>(pc d.ru t).map fun i=>(i,[]):=by
 cases t
 simp only[nx,Ob,stL,Tm.k,Tm.s,Tm.as];rfl
theorem Qf{ru:List RuM}{u:Tm}{i:Nat}(h:pc ru u=some i):∃ r w,ru[i]?=some r/\gi r u=some w:=by
 unfold pc at h;rw[U5] at h;obtain⟨hi,h1,_⟩:=h;cases hf:gi ru[i] u with
 |none=>rw[hf] at h1;simp at h1
 |some w=>exact⟨ru[i],w,by simp[hi],hf⟩
theorem vy(d:DfM):∀ t i p,nx d t=some (i,p)->∃ u r w,atT t p=some u/\d.ru[i]?=some r/\gi r u=some w:=Tm.ind fun t ih i p h=>by
 rw[Oc] at h;cases hp:lu (stL d.st t) (t.as.map (nx d)) with
 |some x =>
  rw[hp] at h;simp only[C9.injEq] at h;subst h;unfold lu at hp;obtain⟨j,hj,h1⟩:=V2 hp;split at h1
  ·rename_i h0
   split at h1
   ·rename_i y hy
    simp only[C9.injEq,J1.injEq] at h1;obtain⟨e1,e2⟩:=h1;subst e1;subst e2;rw[R4] at hy;cases hg:t.as[j.toNat]? with
    |none=>rw[hg] at hy;simp at hy
    |some a =>
     rw[hg] at hy;simp only[K2,C9.injEq] at hy;obtain⟨hlt,he⟩:=E5.1 hg;obtain⟨u,r,w,q1,q2,q3⟩:=ih a (he▸C0 hlt) y.1 y.2 hy;refine⟨u,r,w,?_,q2,q3⟩;simp only[atT,dif_pos hlt,H5 h0,he];exact q1
   ·simp at h1
  ·simp at h1
 |none =>
  rw[hp] at h;simp only at h;cases hr:pc d.ru t with
  |none=>rw[hr] at h;simp at h
  |some j =>
   rw[hr] at h;simp only[K2,C9.injEq,J1.injEq] at h;obtain⟨e1,e2⟩:=h;subst e1;subst e2;obtain⟨r,w,q1,q2⟩:=Qf hr;exact⟨t,r,w,rfl,q1,q2⟩
noncomputable def cd(d:DfM)(t:Tm)(i:Nat)(p:List Int):Tm:=match atT t p,d.ru[i]? with
 |some u,some r=>(match gi r u with |some w=>cu t p w |none=>t)
 |_,_=>t
structure xq where
 o:Int
 t:Tm
 st:List Tm
 rd:List (Nat×List Int)
noncomputable def dz(d:DfM):Nat->Tm->xq
 |0,t=>match nx d t with
  |none=>⟨1,t,[],[]⟩
  |some _=>⟨2,t,[],[]⟩
 |n+1,t=>match nx d t with
  |none=>⟨1,t,[],[]⟩
  |some (i,p)=>if (cd d t i p).valid=true then ⟨(dz d n (cd d t i p)).o,(dz d n (cd d t i p)).t,cd d t i p::(dz d n (cd d t i p)).st,(i,p)::(dz d n (cd d t i p)).rd⟩ else ⟨3,t,[],[]⟩
structure DfG(d:DfM):Prop where
 b:DfB d
 v:d.valid=true
theorem DfG.ru{d:DfM}(h:DfG d){r:RuM}(hr:r∈d.ru):RuG d.op r:=by
 have:=h.v;simp only[DfM.valid,B9,E3] at this;exact ac7 (h.b.rua r hr) (this.2.2.2.1 r hr)
theorem xt(ops:List OpM):∀ (l pre:List StM),ky ops pre l=true->∀ x∈l,Mb ops x=true
 | [],_,_,x,hx=>by simp at hx
 |y::l,pre,h,x,hx=>by
  simp only[ky,B9] at h;rcases E1.1 hx with e |hx
  ·exact e▸h.1
  ·exact xt ops l _ h.2.2 x hx
theorem DfG.st{d:DfM}(h:DfG d){x:StM}(hx:x∈d.st):Mb d.op x=true:=by
 have:=h.v;simp only[DfM.valid,B9] at this;exact xt d.op d.st [] this.2.2.2.2.1 x hx
theorem Td{d:DfM}(h:DfG d){t:Tm}(ht:Gt d.op t){i:Int}(hi:i∈stL d.st t):0<=i/\i.toNat<t.as.length:=by
 unfold stL at hi;split at hi
 ·rename_i hk
  obtain⟨x,hx,rfl⟩:=F8.1 hi;obtain⟨h1,h2⟩:=P6.1 hx;have h3:=h.st h1;simp only[decide_eq_true_eq] at h2;obtain⟨o,hf,hl,_⟩:=ht.arr hk;unfold Mb at h3;rw[h2,hf] at h3;simp only[B9,decide_eq_true_eq] at h3;omega
 ·simp at hi
theorem mz{d:DfM}(h:DfG d){t:Tm}(ht:Gt d.op t)(hn:t.nodes<=60){i:Nat}{p:List Int}(hx:nx d t=some (i,p)) :
 ∃ u r w,atT t p=some u/\d.ru[i]?=some r/\gi r u=some w/\cd d t i p=cu t p w/\Gt d.op u/\u.nodes<=60/\Gt d.op w/\w.nodes<=3600/\Gt d.op (cd d t i p)/\(cd d t i p).nodes<=8000/\p.length<=60/\RuG d.op r:=by
 obtain⟨u,r,w,h1,h2,h3⟩:=vy d t i p hx;obtain⟨hi,he⟩:=E5.1 h2;have hr:RuG d.op r:=h.ru (he▸C0 hi);have hu:Gt d.op u:=Gx (P:=Gt d.op) (fun t a h ha=>h.sub ha) p t u ht h1
 have hun:=ji p t u h1;obtain⟨g1,g2,g3⟩:=Qe hr hu (by omega) h3
 have e:cd d t i p=cu t p w:=by unfold cd;rw[h1,h2];simp only[h3]
 obtain⟨p1,_⟩:=Jr p t u w ht h1 g1 g2;have hpn:=my w p t;have:t.nodes*(p.length+1)<=60*61:=V0 hn (by omega)
 refine⟨u,r,w,h1,h2,h3,e,hu,by omega,g1,g3,e▸p1,by rw[e];omega,by omega,hr⟩
theorem Od{xs:List Tm}{i:Nat}(hi:i<xs.length)(w:Tm):over i [over 0 [.int w.k,.int w.n,.str w.s,.sl (w.as.map Tm.row)] (rowAt (xs.map Tm.row) i)] (xs.map Tm.row)=(xs.set i w).map Tm.row:=by
 rw[ab hi,Tm.row_eq];have e:over 0 [D.int w.k,.int w.n,.str w.s,.sl (w.as.map Tm.row)] [D.int xs[i].k,.int xs[i].n,.str xs[i].s,.sl (xs[i].as.map Tm.row)]=w.row:=by rw[Tm.row_eq];rfl
 rw[e,de _ _ _ (by simp;omega),V3,U6,H5 (by simpa using hi)]
 simp
theorem Ep(j:Int)(p:List Int):(((j::p).map am).take ((j::p).map am).length).drop (Int.toNat 1)=p.map am:=by
 rw[List.take_length];rfl
theorem Qg(xs:aa)(r w:List D)(h:r.length=w.length):over xs.length [over 0 w (rowAt (xs++[r]) xs.length)] (xs++[r])=xs++[w]:=by
 have e:rowAt (xs++[r]) xs.length=r:=by simp[rowAt,P4]
 rw[e,de 0 w r (by omega),de _ _ _ (by simp)]
 simp[h]
def foI:Option (List Bnd)->aa->List D
 |some l,_=>[.bool true,.sl (l.map Bnd.row)]
 |none,x=>[.bool false,.sl x]
theorem Er(x:StM)(l:List StM)(s:ByteArray):lb (x::l) s=if x.o=s then x.a::lb l s else lb l s:=by
 unfold lb;rw[O7];by_cases h:x.o=s<;>simp[h]
theorem Js(l:List StM)(s:ByteArray):(lb l s).length<=l.length:=by
 unfold lb;rw[B6];exact Q9 _ _
end Go.Q
namespace Go.Q
open Go
theorem Jt(l:List Bnd)(x:ByteArray)(ns:List ByteArray):rsB l (x::ns)=match bnd l x with
 |some v=>(x,v)::rsB l ns
 |none=>rsB l ns:=by
 unfold rsB;rw[T1];cases bnd l x<;>rfl
theorem Oe(l:List Bnd)(ns:List ByteArray):(rsB l ns).length<=ns.length:=S8 ..
def frR:Option Tm->List D
 |some w=>[.int w.k,.int w.n,.str w.s,.bool true,.sl (w.as.map Tm.row)]
 |none=>[.int 0,.int 0,.str e0,.bool false,.sl []]
noncomputable def fiL(r:RuM)(u:Tm):List Bnd:=match mT r.l u [] with
 |some l=>rsB l (bx (bx r.l.names))
 |none=>[]
def Mg:Option Nat->Int
 |some i=>(i:Int)
 |none=>-1
theorem na{m:Nat}(t a:Tm)(h:t.nodes<=m)(ha:a∈t.as):a.nodes<=m:=by
 have:=ei (f:=Tm.nodes) ha;have:=Tm.nodes_eq t;omega
theorem Es{l:List Bnd}(hl:∀ b∈l,b.2.nodes<=60){g:Gu}(h1:g.l.nodes<=60)(h2:g.r.nodes<=60):(du l g).ok:=by
 have a1:=jh (m:=60) (by decide) hl g.l
 have a2:=jh (m:=60) (by decide) hl g.r
 exact⟨by show(aS l g.l).nodes<=_;omega,by show(aS l g.r).nodes<=_;omega⟩
theorem vz{l:List Bnd}{P:Tm->Prop}(h:∀ b∈l,P b.2){s:ByteArray}{v:Tm}(hb:bnd l s=some v):P v:=by
 obtain⟨b,h1,rfl⟩:=eh hb;exact h b h1
theorem Og{l:List Bnd}{P:Tm->Prop}(h:∀ b∈l,P b.2)(ns:List ByteArray):∀ b∈rsB l ns,P b.2:=fun b hb=>by
 unfold rsB at hb;obtain⟨s,_,hs⟩:=S0.1 hb;cases hv:bnd l s with
 |none=>rw[hv] at hs;simp at hs
 |some v =>
  rw[hv] at hs;simp only[K2,C9.injEq] at hs;subst hs;exact vz h hv
theorem Ju(r:RuM)(u:Tm):gi r u=if ((mT r.l u []).isSome&&r.g.all fun g=>holds (du (fiL r u) g))=true then some (rW (aS (fiL r u) r.r)) else none:=by
 unfold gi fiL;cases h:mT r.l u [] with
 |none=>rfl
 |some l =>
  have hc:∀ s,bnd (rsB l (bx (bx r.l.names))) s=bnd l s:=Qc h;have e:∀ g,du (rsB l (bx (bx r.l.names))) g=du l g:=fun g=>Mf hc g
  simp only[O5,D9,e,vw hc]
def nrR:Option (Nat×List Int)->List Int->List D
 |some x,acc=>[.int (x.1:Int),.bool true,.sl ((acc++x.2).map am)]
 |none,_=>[.int 0,.bool false,.sl []]
def nrS:Option (Nat×List Int)->List D
 |some x=>[.int (x.1:Int),.bool true,.sl (x.2.map am)]
 |none=>[.int 0,.bool false,.sl []]
theorem Cb(rs:List (Option (Nat×List Int))):lu [] rs=none:=rfl
theorem Et{f:Tm->Option (Nat×List Int)}{xs:List Tm}{m:Nat}(hm:m<xs.length)(q:List Int):lu ((m:Int)::q) (xs.map f)=match f xs[m] with
 |some x=>some (x.1,(m:Int)::x.2)
 |none=>lu q (xs.map f):=by
 unfold lu;rw[List.findSome?_cons];have h0:(0:Int)<=(m:Int):=by omega
 simp only[h0,if_true,Int.toNat_natCast,R4,F6 hm,K2];cases f xs[m]<;>rfl
theorem Yh(st:List StM)(t:Tm):(stL st t).length<=st.length:=by
 unfold stL;split
 ·exact Js st t.s
 ·simp
noncomputable def cfg(d:DfM)(t:Tm):Bool:=d.valid&&(t.valid&&(isG t&&!decide (ay d.op [] t=e0)))
theorem Cc{d:DfM}{t:Tm}(hb:DfB d)(hw:Wt t)(h:cfg d t=true):DfG d/\Gt d.op t/\t.nodes<=60:=by
 simp only[cfg,B9,E7,decide_eq_false_iff_not] at h;exact⟨⟨hb,h.1⟩,⟨hw,cq h.2.1,h.2.2.2⟩,az h.2.1⟩
def qj(x:Nat×List Int):List D:=[.int (x.1:Int),.sl (x.2.map am)]
noncomputable def jv(d:DfM)(t:Tm)(f:Int):Option xq:=if 0<=f/\f<=200/\cfg d t=true then some (dz d f.toNat t) else none
end Go.Q
namespace Go.Q
open Go
theorem kd{d:DfM}{t:Tm}(h:nx d t=none):∀ n,dz d n t=⟨1,t,[],[]⟩
 |0=>by simp only[dz,h]
 |n+1=>by simp only[dz,h]
theorem rb{d:DfM}{t:Tm}{x:Nat×List Int}(h:nx d t=some x):dz d 0 t=⟨2,t,[],[]⟩:=by simp only[dz,h]
theorem Cd{d:DfM}{t:Tm}{x:Nat×List Int}(h:nx d t=some x)(hv:(cd d t x.1 x.2).valid=false)(n:Nat):dz d (n+1) t=⟨3,t,[],[]⟩:=by
 obtain⟨i,p⟩:=x;simp only at hv;simp only[dz,h,hv,Bool.false_eq_true,if_false]
theorem wa{d:DfM}{t:Tm}{x:Nat×List Int}(h:nx d t=some x)(hv:(cd d t x.1 x.2).valid=true)(n:Nat):dz d (n+1) t=⟨(dz d n (cd d t x.1 x.2)).o,(dz d n (cd d t x.1 x.2)).t,cd d t x.1 x.2::(dz d n (cd d t x.1 x.2)).st,x::(dz d n (cd d t x.1 x.2)).rd⟩:=by
 obtain⟨i,p⟩:=x;simp only at hv;simp only[dz,h,hv,if_true]
theorem Ce(xs:aa)(k n k' n':Int)(s s':ByteArray)(a a':aa):over xs.length [over 0 [.int k,.int n,.str s,.sl a] (rowAt (xs++[[.int k',.int n',.str s',.sl a']]) xs.length)] (xs++[[.int k',.int n',.str s',.sl a']])=xs++[[.int k,.int n,.str s,.sl a]]:=Qg xs _ _ rfl
def Mh:Option xq->Tm->List D
 |some r,t=>[.int r.o,.int r.t.k,.int r.t.n,.str r.t.s,.int (r.rd.length:Int),.sl (r.t.as.map Tm.row),.sl ((t::r.st).map Tm.row),.sl (r.rd.map qj)]
 |none,_=>[.int 0,.int 0,.int 0,.str e0,.int 0,.sl [],.sl [],.sl []]
def Yi(r:xq)(t:Tm):List D:=[.int r.o,.int r.t.k,.int r.t.n,.str r.t.s,.int (r.rd.length:Int),.sl (r.t.as.map Tm.row),.sl (r.rd.map qj),.sl ((t::r.st).map Tm.row)]
def rtD:Option xq->List D
 |some r=>[.int r.o,.int r.t.k,.int r.t.n,.str r.t.s,.int (r.rd.length:Int),.sl (r.t.as.map Tm.row)]
 |none=>[.int 0,.int 0,.int 0,.str e0,.int 0,.sl []]
theorem Oh:∀ (p:List Int) (t u:Tm),atT t p=some u->t.nodes<=60->∀ j∈p,0<=j/\j<60
 | [],_,_,_,_,j,hj=>by simp at hj
 |i::p,t,u,h,hn,j,hj=>by
  obtain⟨hi,h0,h1⟩:=cr h;have hls:=dg (xs:=t.as);have hnd:=Tm.nodes_eq t;rcases E1.1 hj with e |hj
  ·subst e;omega
  ·exact Oh p _ u h1 (na t _ hn (C0 hi)) j hj
structure ag8(d:DfM)(n:Nat)(r:xq):Prop where
 t:Gt d.op r.t
 tn:r.t.nodes<=60
 o:r.o=1\/r.o=2\/r.o=3
 rl:r.rd.length<=n
 rg:∀ x∈r.rd,x.1<d.ru.length/\x.2.length<=60/\∀ j∈x.2,0<=j/\j<60
 sl:r.st.length<=n
 s:∀ x∈r.st,Gt d.op x/\x.nodes<=60
theorem Qh{d:DfM}(hd:DfG d):∀ n t,Gt d.op t->t.nodes<=60->ag8 d n (dz d n t):=by
 intro n;induction n with
 |zero =>
  intro t ht hn;cases hx:nx d t with
  |none=>rw[kd hx];exact⟨ht,hn,.inl rfl,E8 _,by simp,E8 _,by simp⟩
  |some x=>rw[rb hx];exact⟨ht,hn,.inr (.inl rfl),E8 _,by simp,E8 _,by simp⟩
 |succ n ih =>
  intro t ht hn;cases hx:nx d t with
  |none=>rw[kd hx];exact⟨ht,hn,.inl rfl,G9 _,by simp,G9 _,by simp⟩
  |some x =>
   obtain⟨u,r,w,h1,h2,_,_,_,_,_,_,hg,hgn,hp,_⟩:=mz hd ht hn hx;cases hv:(cd d t x.1 x.2).valid with
   |false=>rw[Cd hx hv];exact⟨ht,hn,.inr (.inr rfl),G9 _,by simp,G9 _,by simp⟩
   |true =>
    rw[wa hx hv];have h:=ih _ hg (az hv);obtain⟨hi,_⟩:=E5.1 h2;refine⟨h.t,h.tn,h.o,Nat.succ_le_succ h.rl,fun y hy=>?_,Nat.succ_le_succ h.sl,fun y hy=>?_⟩
    ·rcases E1.1 hy with e |hy
     ·subst e;exact⟨hi,hp,Oh _ _ _ h1 hn⟩
     ·exact h.rg y hy
    ·rcases E1.1 hy with e |hy
     ·subst e;exact⟨hg,az hv⟩
     ·exact h.s y hy
theorem xu{d:DfM}(hb:DfB d){t:Tm}(hw:Wt t){f:Int}{r:xq}(h:jv d t f=some r):ag8 d 200 r/\t.nodes<=60:=by
 unfold jv at h;split at h
 ·rename_i hc
  simp only[C9.injEq] at h;subst h;obtain⟨hd,ht,hn⟩:=Cc hb hw hc.2.2;have g:=Qh hd f.toNat t ht hn;exact⟨⟨g.t,g.tn,g.o,by have:=g.rl;omega,g.rg,by have:=g.sl;omega,g.s⟩,hn⟩
 ·simp at h
theorem Yj(d:DfM)(t:Tm)(f:Int):jv d t f=bif (cfg d t&&(decide (0<=f)&&decide (f<=200))) then some (dz d f.toNat t) else none:=by
 unfold jv;by_cases h:0<=f/\f<=200/\cfg d t=true
 ·rw[H5 h];simp[h.1,h.2.1,h.2.2]
 ·rw[H6 h]
  have:(cfg d t&&(decide (0<=f)&&decide (f<=200)))=false:=by
   rw[Bool.eq_false_iff];intro hc;simp only[B9,decide_eq_true_eq] at hc;exact h ⟨hc.2.1,hc.2.2,hc.1⟩
  rw[this];rfl
noncomputable def xv:Option xq->Tm->Tm->Bool
 |some r,t,g=>(t::r.st).any fun x=>eqb x.row g.row
 |none,_,_=>false
end Go.Q
namespace Go.Q
open Go
def rtO:Option xq->Int
 |some r=>r.o
 |none=>0
def rtT:Option xq->Tm
 |some r=>r.t
 |none=>tm0
def rtN:Option xq->Nat
 |some r=>r.rd.length
 |none=>0
theorem ac8(R:Option xq):rtD R=[.int (rtO R),.int (rtT R).k,.int (rtT R).n,.str (rtT R).s,.int (rtN R:Int),.sl ((rtT R).as.map Tm.row)]:=by cases R<;>rfl
theorem wt0:Wt tm0:=.mk (S.i64ok_of (by decide) (by decide)) (S.i64ok_of (by decide) (by decide)) (by decide) (by decide) (by intro a ha;simp[tm0,Tm.as] at ha)
theorem Yk{d:DfM}(hb:DfB d){t:Tm}(hw:Wt t)(f:Int):Wt (rtT (jv d t f))/\(rtT (jv d t f)).nodes<=60/\(0<=rtO (jv d t f)/\rtO (jv d t f)<=3)/\rtN (jv d t f)<=200:=by
 cases h:jv d t f with
 |none=>exact⟨wt0,by decide,by decide,by decide⟩
 |some r =>
  obtain⟨g,_⟩:=xu hb hw h;refine⟨g.t.w,g.tn,?_,g.rl⟩;rcases g.o with e |e |e<;>(show 0<=r.o/\r.o<=3;omega)
end Go.Q
end
section
/- Translations,instances that are configurations,refutations. -/
namespace Go.Q
open Go
theorem xw{f:Tm->Tm}:∀ (l:List Tm),(∀ a∈l,(f a).depth<=a.depth)->Tm.depthL (l.map f)<=Tm.depthL l
 | [],_=>E8 _
 |a::l,h=>by
  have h1:=h a (C7 ..);have h2:=xw l fun b hb=>h b (C8 _ hb)
  simp only[C4,Tm.depthL];omega
theorem Tf{l:List Bnd}(hl:∀ b∈l,b.2.depth=1):∀ t,(aS l t).depth<=t.depth:=Tm.ind fun t ih=>by
 rw[ey];have h1:=Tm.depth_eq t;split
 ·rename_i u hu
  split at hu
  ·obtain⟨b,hb,rfl⟩:=eh hu
   rw[hl b hb];omega
  ·simp at hu
 ·rw[Tm.depth_eq,Tm.as_mk]
  have:=xw t.as ih;omega
theorem Tg:∀ t,(rW t).depth<=t.depth:=Tm.ind fun t ih=>by
 have h1:=Tm.depth_eq t;have plain:(Tm.mk t.k t.n t.s (t.as.map rW)).depth<=t.depth:=by
  rw[Tm.depth_eq,Tm.as_mk];have:=xw t.as ih;omega
 rw[fg];unfold rW1;split
 ·rename_i x y hxy
  split
  ·rw[Tm.depth_eq,Tm.as_mk];simp only[Tm.depthL];omega
  ·exact plain
 ·exact plain
theorem Jv{n:Nat}{c:Int}(h:isC n c=true):(vals n c).length=n:=by
 have h3:=(mc h).1;unfold vals;rw[H5 h]
 match n,h3 with
 |0,_=>rfl
 |1,_=>rfl
 |2,_=>rfl
 |3,_=>rfl
theorem Th{n:Nat}{c:Int}(h:isC n c=true):∀ x∈vals n c,0<=x/\x<4:=fun x hx=>by
 obtain⟨h3,h0,_⟩:=mc h;have hm:∀ a:Int,0<=a->0<=a.tmod 4/\a.tmod 4<4:=fun a ha=>⟨R6 4 ha,P7 _ (by decide)⟩
 have hd:∀ a:Int,0<=a->0<=a.tdiv 4:=fun a ha=>Int.tdiv_nonneg ha (by decide)
 unfold vals at hx;rw[H5 h] at hx
 match n,h3 with
 |0,_=>simp at hx
 |1,_ =>
  simp only[F1] at hx;subst hx;exact hm _ h0
 |2,_ =>
  simp only[E1,N2,or_false] at hx;rcases hx with e |e
  ·subst e;exact hm _ (hd _ h0)
  ·subst e;exact hm _ h0
 |3,_ =>
  simp only[E1,N2,or_false] at hx;rcases hx with e |e |e
  ·subst e;exact hm _ (hd _ (hd _ h0))
  ·subst e;exact hm _ (hd _ h0)
  ·subst e;exact hm _ h0
theorem Qi(ops:List OpM)(n:Int):ay ops [] (word n)=dh:=by unfold word;rw[cw];rfl
theorem Eu(ops:List OpM):∀ (vars:List ByteArray) (vs:List Int),vs.length=vars.length->qi ops (wv vars) ((vars.zip vs).map fun p=>(p.1,word p.2))
 | [],[],_=>by
  intro s;simp[wv,fv,bnd]
 | [],_::_,h=>by simp at h
 |_::_,[],h=>by simp at h
 |x::vars,v::vs,h=>by
  have ih:=Eu ops vars vs (by simpa using h)
  intro s;have hs:=ih s;unfold wv fv at hs ⊢;simp only[C4,T3,P3,bnd];by_cases e:x=s
  ·simp only[e,H3,if_true]
   exact Qi ops v
  ·simp only[e,H4,if_false]
   exact hs
theorem Oi:∀ (vars:List ByteArray) (vs:List Int) (s:ByteArray),vs.length=vars.length->s∈vars->∃ n∈vs,bnd ((vars.zip vs).map fun p=>(p.1,word p.2)) s=some (word n)
 | [],_,s,_,h=>by simp at h
 |_::_,[],_,h,_=>by simp at h
 |x::vars,v::vs,s,h,hs=>by
  simp only[T3,C4,bnd];by_cases e:x=s
  ·exact⟨v,C7 ..,by rw[H5 e]⟩
  ·rw[H6 e]
   obtain⟨n,h1,h2⟩:=Oi vars vs s (by simpa using h) (by
    rcases E1.1 hs with q |q
    ·exact absurd q.symm e
    ·exact q)
   exact⟨n,C8 _ h1,h2⟩
theorem Qj{l:List Bnd}(hg:∀ b∈l,b.2.names=[]):∀ t,(∀ s∈t.names,bnd l s≠none)->(aS l t).names=[]:=Tm.ind fun t ih h=>by
 rw[Tm.names_eq] at h;rw[ey];by_cases hk:t.k=1
 ·rw[H5 hk] at h ⊢
  cases hb:bnd l t.s with
  |some v =>
   obtain⟨b,h1,rfl⟩:=eh hb;exact hg b h1
  |none=>exact absurd hb (h t.s (by simp))
 ·rw[H6 hk] at h ⊢
  simp only;rw[Tm.names_eq,Tm.k_mk,Tm.as_mk,H6 hk,D8,List.flatMap_map];rw[Bt (g:=fun _=>[]) fun a ha=>ih a ha fun s hs=>h s (D7.2 (.inr (K4.2 ⟨a,ha,hs⟩)))]
  induction t.as with
  |nil=>rfl
  |cons a l ih=>rw[O1,ih];rfl
theorem wb{d:DfM}{vars:List ByteArray}{t:Tm}(hs:jq d vars t=true){c:Int}(hc:isC vars.length c=true):cfg d (bw vars t c)=true:=by
 simp only[jq,B9,E7,decide_eq_false_iff_not] at hs;obtain⟨hv,_,_,_,htv,hwi,hso⟩:=hs;have hlen:=Jv hc;have hA:=Eu d.op vars (vals vars.length c) hlen;have htn:=cq htv;have hw:∀ b∈bn vars c,b.2.areN=true/\(b.2.names=[]/\(b.2.depth=1/\b.2.nodes=1)):=fun b hb=>by
  unfold bn at hb;simp only[F8] at hb;obtain⟨p,hp,rfl⟩:=hb;obtain⟨v1,v2⟩:=Th hc _ (List.of_mem_zip hp).2;refine⟨?_,rfl,rfl,rfl⟩;show(word p.2).areN=true
  unfold word;rw[Tm.areN_eq];unfold Tm.nodeN isW;simp only[Tm.k_mk,Tm.n_mk,Tm.s_mk,Tm.as_mk];simp[Tm.areNL,v1,v2]
 have hn1:=Gw (fun b hb=>(hw b hb).1) t htn
 have hs1:ay d.op [] (aS (bn vars c) t)=ay d.op (wv vars) t:=Nv hA t htn hso;have hs2:ay d.op [] (bw vars t c)=ay d.op (wv vars) t:=by unfold bw;rw[Gv d.op [] _ hn1 (by rw[hs1];exact hso),hs1]
 simp only[cfg,B9,E7,decide_eq_false_iff_not];refine⟨hv,?_,?_,by rw[hs2];exact hso⟩
 ·simp only[Tm.valid,B9,decide_eq_true_eq] at htv ⊢
  have a1:=vo (fun b hb=>(hw b hb).2.2.2) t
  have a2:=gy (aS (bn vars c) t);have a3:=Tf (fun b hb=>(hw b hb).2.2.1) t
  have a4:=Tg (aS (bn vars c) t);exact⟨by unfold bw;omega,by unfold bw;omega,Nw _ hn1⟩
 ·unfold isG bw
  rw[Bu,Qj (fun b hb=>(hw b hb).2.1) t fun s hs=>by
   obtain⟨n,_,e⟩:=Oi vars (vals vars.length c) s hlen (gh.1 hwi s hs);show bnd (bn vars c) s≠none
   unfold bn;rw[e];simp]
  rfl
theorem Ti{d:DfM}{t:Tm}(h:cfg d t=true):jv d t 200=some (dz d 200 t):=by
 unfold jv;rw[H5 ⟨by decide,by decide,h⟩];rfl
noncomputable def wc(d:DfM)(u g:Tm):Bool:=match jv d u 200 with
 |some r=>decide (r.o=1)&&!xv (some r) u g
 |none=>false
noncomputable def tq(c:ClM):Option Nat:=if c.valid=true then (dk c.v c.g).find? fun i=>wc c.d (S.instR c.v c.l (i:Int)) (S.instR c.v c.r (i:Int)) else none
def Tj:Option Nat->List D
 |some i=>[.int (i:Int),.bool true]
 |none=>[.int 0,.bool false]
theorem Cf{vars:List ByteArray}{gs:List Gu}{i:Nat}(h:i∈dk vars gs):isC vars.length (i:Int)=true:=by
 unfold dk at h;have h1:=(P6.1 h).1;have h2:=lq vars.length;simp only[List.mem_range] at h1;simp only[isC,B9,decide_eq_true_eq];omega
theorem lx{vars:List ByteArray}{t:Tm}{c:Int}(h:isC vars.length c=true):S.instR vars t c=bw vars t c:=by unfold S.instR;rw[H5 h]
end Go.Q
namespace Go.Q
open Go
theorem Yl{n:Int}(h0:0<=n)(h1:n<4):Wt (word n):=.mk (S.i64ok_of (by show _<=(3:Int);decide) (by show(3:Int)<=_;decide)) (S.i64ok_of (by show _<=n;omega) (by show n<=_;omega)) (by show(⟨#[]⟩:ByteArray).size<=maxLen;decide) (G9 _) (by intro a ha;simp[word,Tm.as] at ha)
theorem qk{vars:List ByteArray}{t:Tm}(h:Wt t)(c:Int):Wt (S.instR vars t c):=by
 unfold S.instR;split
 ·rename_i hc
  refine Nz _ (Ny (fun b hb=>?_) t h)
  unfold bn at hb;simp only[F8] at hb;obtain⟨p,hp,rfl⟩:=hb;obtain⟨v1,v2⟩:=Th hc _ (List.of_mem_zip hp).2;exact Yl v1 v2
 ·exact wt0
end Go.Q
end
section
/- Symbolic terms with cases;comparison. -/
namespace Go.Q
open Go
def lc(n:Nat):Option Int->List Int->Bool
 |_,[]=>true
 |p,c::r=>isC n c&&((match p with |some q=>!decide (c<=q) |none=>true)&&lc n (some c) r)
def prv(cs:List Int):Nat->Option Int
 |0=>none
 |i+1=>cs[i]?
def Cg(d:DfM)(vars:List ByteArray)(t:Tm)(cs:List Int):Bool:=jq d vars t&&lc vars.length none cs
theorem ce{n:Nat}:∀ (cs:List Int) (p:Option Int),lc n p cs=true->∀ c∈cs,isC n c=true
 | [],_,_,c,hc=>by simp at hc
 |x::r,p,h,c,hc=>by
  simp only[lc,B9] at h;rcases E1.1 hc with e |hc
  ·subst e;exact h.1
  ·exact ce r _ h.2.2 c hc
def nq(l:List Int)(x:Int):Bool:=l.any fun y=>decide (y=x)
structure SyM where
 d:DfM
 v:List ByteArray
 t:Tm
 c:List Int
def SyM.row(s:SyM):List D:=[.sl (s.d.so.map ag),.sl (s.d.op.map OpM.row),.sl (s.d.ru.map RuM.row),.sl (s.d.st.map StM.row),.sl (s.v.map ag),.int s.t.k,.int s.t.n,.str s.t.s,.sl (s.t.as.map Tm.row),.sl (s.c.map am)]
structure SyB(s:SyM):Prop where
 d:DfB s.d
 v:s.v.length<=1048576
 vs:∀ x∈s.v,x.size<=maxLen
 w:Wt s.t
 n:s.t.nodes<=1048577
 c:s.c.length<=1048576
end Go.Q
end
section
/- Places of terms,steps of symbolic terms,branches. -/
namespace Go.Q
open Go
def atO(t:Tm)(p:List Int):Tm:=(atT t p).getD tm0
theorem xl:tm0.nodes=1:=by rw[Tm.nodes_eq];rfl
theorem jj(t:Tm)(p:List Int){m:Nat}(hm:1<=m)(h:t.nodes<=m):(atO t p).nodes<=m:=by
 unfold atO;cases ha:atT t p with
 |none=>rw[Option.getD_none,xl];exact hm
 |some u=>have:=ji p t u ha;rw[Option.getD_some];omega
theorem Tk{t:Tm}(h:Wt t)(p:List Int):Wt (atO t p):=by
 unfold atO;cases ha:atT t p with
 |none=>exact wt0
 |some u=>exact Gx (fun t a h ha=>h.sub ha) p t u h ha
theorem Tl{w:Tm}(hw:Wt w):∀ (p:List Int) (t:Tm),Wt t->Wt (cu t p w)
 | [],t,_=>hw
 |i::p,t,h=>by
  simp only[cu];split
  ·rename_i hi
   refine Nx h (by simp) fun a ha=>?_
   rcases K5 ha with q |q
   ·exact h.sub q
   ·exact q▸Tl hw p _ (h.sub (C0 hi))
  ·exact h
mutual
def gr:Tm->List Int->List (List Int)
 |.mk _ _ _ as,p=>p::pg as p 0
def pg:List Tm->List Int->Nat->List (List Int)
 | [],_,_=>[]
 |a::r,p,i=>gr a (p++[(i:Int)])++pg r p (i+1)
end
theorem nr(t:Tm)(p:List Int):gr t p=p::pg t.as p 0:=by cases t;simp only[gr,Tm.as]
theorem Ev{as:List Tm}{p:List Int}{i:Nat}(h:i<as.length):pg (as.drop i) p i=gr as[i] (p++[(i:Int)])++pg (as.drop (i+1)) p (i+1):=by
 rw[B8 h];simp only[pg]
theorem Tn(as:List Tm)(h:∀ a∈as,∀ p,(gr a p).length=a.nodes):∀ p i,(pg as p i).length=(as.map Tm.nodes).sum:=by
 induction as with
 |nil=>intro p i;rfl
 |cons a r ih =>
  intro p i;simp only[pg,E6,C4,K1,h a (C7 ..),ih (fun b hb=>h b (C8 _ hb))]
theorem ql:∀ t:Tm,∀ p,(gr t p).length=t.nodes:=Tm.ind fun t ih p=>by
 rw[nr,C2,Tn t.as ih,Tm.nodes_eq];omega
theorem To(as:List Tm)(h:∀ a∈as,∀ p q,q∈gr a p->q.length<=p.length+a.nodes):∀ p i q,q∈pg as p i->q.length<=p.length+1+(as.map Tm.nodes).sum:=by
 induction as with
 |nil=>intro p i q hq;simp[pg] at hq
 |cons a r ih =>
  intro p i q hq;simp only[pg,D7,C4,K1] at hq ⊢;rcases hq with hq |hq
  ·have:=h a (C7 ..) _ q hq
   simp only[E6,C2,C5] at this;omega
  ·have:=ih (fun b hb=>h b (C8 _ hb)) p (i+1) q hq
   omega
theorem Jw:∀ t:Tm,∀ p q,q∈gr t p->q.length<=p.length+t.nodes:=Tm.ind fun t ih p q hq=>by
 rw[nr] at hq;have hn:=Tm.nodes_eq t;rcases E1.1 hq with e |hq
 ·subst e;omega
 ·have:=To t.as ih p 0 q hq;omega
def cB1(l u:Tm)(p:List Int):Option Bnd:=if (atO l p).k=1 then some ((atO l p).s,atO u p) else none
def jw(l u:Tm):List Bnd:=(gr l []).filterMap (cB1 l u)
def nu(l u:Tm):List (List Int)->List Bnd->List Bnd
 | [],acc=>acc
 |p::r,acc=>nu l u r (if (atO l p).k=1/\bnd acc (atO l p).s=none then acc++[((atO l p).s,atO u p)] else acc)
theorem Ch(a b:List Bnd)(s:ByteArray):bnd (a++b) s=(match bnd a s with |some v=>some v |none=>bnd b s):=by
 induction a with
 |nil=>rfl
 |cons x a ih =>
  simp only[F2,bnd];split
  ·rfl
  ·exact ih
theorem Jx(l u:Tm)(s:ByteArray):∀ (ps:List (List Int)) (acc:List Bnd),bnd (nu l u ps acc) s=bnd (acc++ps.filterMap (cB1 l u)) s
 | [],acc=>by simp[nu]
 |p::r,acc=>by
  simp only[nu,Jx l u s r];by_cases hk:(atO l p).k=1
  ·have e1:(p::r).filterMap (cB1 l u)=((atO l p).s,atO u p)::r.filterMap (cB1 l u):=by rw[T1,cB1,H5 hk]
   rw[e1];cases hb:bnd acc (atO l p).s with
   |none=>rw[H5 ⟨hk,rfl⟩,E2];rfl
   |some v =>
    rw[H6 (by simp)]
    rw[Ch,Ch];cases ha:bnd acc s with
    |some w=>rfl
    |none =>
     simp only[bnd];rw[H6 fun e=>by rw[e,ha] at hb;simp at hb]
  ·have e1:(p::r).filterMap (cB1 l u)=r.filterMap (cB1 l u):=by rw[T1,cB1,H6 hk]
   rw[e1,H6 fun h=>hk h.1]
theorem Ym(l u t:Tm):aS (nu l u (gr l []) []) t=aS (jw l u) t:=vw (fun s=>by rw[Jx,D8];rfl) t
theorem Ci{l u:Tm}{P:Tm->Prop}(h:∀ p,P (atO u p)):∀ b∈jw l u,P b.2:=fun b hb=>by
 unfold jw at hb;obtain⟨p,_,hp⟩:=S0.1 hb;unfold cB1 at hp;split at hp
 ·simp only[C9.injEq] at hp;subst hp;exact h p
 ·simp at hp
theorem Jy{l u:Tm}{P:Tm->Prop}(h:∀ p,P (atO u p)):∀ (ps:List (List Int)) (acc:List Bnd),(∀ b∈acc,P b.2)->∀ b∈nu l u ps acc,P b.2
 | [],acc,ha=>ha
 |p::r,acc,ha=>by
  simp only[nu];refine Jy h r _ ?_;split
  ·intro b hb
   rcases D7.1 hb with hb |hb
   ·exact ha b hb
   ·simp only[F1] at hb;subst hb;exact h p
  ·exact ha
theorem Jz(l u:Tm):∀ (ps:List (List Int)) (acc:List Bnd),(nu l u ps acc).length<=acc.length+ps.length
 | [],acc=>E8 _
 |p::r,acc=>by
  simp only[nu];refine J0 (Jz l u r _) ?_;split<;>simp<;>omega
theorem aa2:∀ t:Tm,rW (rW t)=rW t:=Tm.ind fun t ih=>by
 have e:(t.as.map rW).map rW=t.as.map rW:=by
  rw[K3];exact N1 fun a ha=>ih a ha
 rw[fg t];unfold rW1;split
 ·rename_i x y hxy
  split
  ·rename_i hc
   rw[fg];rfl
  ·rename_i hc
   rw[fg,Tm.k_mk,Tm.n_mk,Tm.s_mk,Tm.as_mk,e,hxy];unfold rW1;exact H6 hc
 ·rename_i hne
  rw[fg,Tm.k_mk,Tm.n_mk,Tm.s_mk,Tm.as_mk,e];unfold rW1;split
  ·rename_i x y hxy;exact absurd hxy (hne x y)
  ·rfl
theorem Tp(a:Tm):∀ (p:List Int) (t:Tm),rW (cu t p (rW a))=rW (cu t p a)
 | [],t=>aa2 a
 |i::p,t=>by
  simp only[cu];split
  ·rename_i hi
   rw[fg,fg (.mk t.k t.n t.s (t.as.set i.toNat (cu t.as[i.toNat] p a)))];simp only[Tm.k_mk,Tm.n_mk,Tm.s_mk,Tm.as_mk,V3,Tp a p]
  ·rfl
theorem aa3{t:Tm}{i:Nat}(h:i<(rW t).as.length):∃ hi:i<t.as.length,(rW t).as[i]=rW t.as[i]:=by
 have key:(rW t).as=[]\/(rW t).as=t.as.map rW:=by
  rw[fg];unfold rW1;split
  ·split
   ·exact .inl rfl
   ·rename_i hxy _;rw[Tm.as_mk,hxy];exact .inr rfl
  ·exact .inr rfl
 rcases key with e |e
 ·rw[e] at h;simp at h
 ·have hi:i<t.as.length:=by rw[e] at h;simpa using h
  refine⟨hi,?_⟩;simp only[e,O8]
theorem Oj{l:List Bnd}(hl:∀ b∈l,b.2.as=[]):∀ (p:List Int) (t u:Tm),atT (rW (aS l t)) p=some u->∃ v,atT t p=some v
 | [],t,u,h=>⟨t,rfl⟩
 |i::p,t,u,h=>by
  obtain⟨hi,h0,h1⟩:=cr h;obtain⟨hi2,e2⟩:=aa3 hi;have key:∃ hi3:i.toNat<t.as.length,(aS l t).as[i.toNat]=aS l t.as[i.toNat]:=by
   have hc:(aS l t).as=[]\/(aS l t).as=t.as.map (aS l):=by
    rw[ey];split
    ·rename_i v hv
     split at hv
     ·obtain⟨b,hb,rfl⟩:=eh hv;exact .inl (hl b hb)
     ·simp at hv
    ·exact .inr rfl
   rcases hc with e |e
   ·rw[e] at hi2;simp at hi2
   ·have hi3:i.toNat<t.as.length:=by rw[e] at hi2;simpa using hi2
    exact⟨hi3,by simp only[e,O8]⟩
  obtain⟨hi3,e3⟩:=key;rw[e2,e3] at h1;obtain⟨v,hv⟩:=Oj hl p _ u h1;exact⟨v,by simp only[atT,dif_pos hi3,H5 h0];exact hv⟩
theorem we(vars:List ByteArray)(c:Int):∀ b∈bn vars c,b.2.as=[]:=fun b hb=>by
 unfold bn at hb;simp only[F8] at hb;obtain⟨p,_,rfl⟩:=hb;rfl
def dc(d:DfM)(t:Tm)(x:Nat×List Int):Tm:=match d.ru[x.1]? with
 |some r=>rW (cu t x.2 (aS (jw r.l (atO t x.2)) r.r))
 |none=>tm0
abbrev Bk:=Option (Nat×List Int)
def bK(d:DfM)(t:Tm):Bk->Int
 |none=>1
 |some y=>if (dc d t y).valid=true then 2 else 3
def bT(d:DfM)(t:Tm):Bk->Tm
 |none=>t
 |some y=>if (dc d t y).valid=true then dc d t y else tm0
def bR:Bk->Int
 |none=>0
 |some y=>(y.1:Int)
def bP:Bk->List Int
 |none=>[]
 |some y=>y.2
def bj(d:DfM)(v:List ByteArray)(t:Tm)(b:Bk×List Int):List D:=[.int (bK d t b.1),.int (bR b.1),.sl ((bP b.1).map am),.sl (v.map ag),.int (bT d t b.1).k,.int (bT d t b.1).n,.str (bT d t b.1).s,.sl ((bT d t b.1).as.map Tm.row),.sl (b.2.map am)]
def Cj(out:List (Bk×List Int))(x:Bk):Option Nat:=out.findIdx? fun b=>decide (b.1=x)
def ph(out:List (Bk×List Int))(x:Bk)(c:Int):List (Bk×List Int):=match Cj out x with
 |some i=>(match out[i]? with |some b=>out.set i (b.1,b.2++[c]) |none=>out)
 |none=>out++[(x,[c])]
noncomputable def brF(d:DfM)(v:List ByteArray)(t:Tm):List Int->List (Bk×List Int)->List (Bk×List Int)
 | [],out=>out
 |c::r,out=>brF d v t r (ph out (nx d (bw v t c)) c)
noncomputable def brL(s:SyM):List (Bk×List Int):=if Cg s.d s.v s.t s.c=true then brF s.d s.v s.t s.c [] else []
theorem Ab{out:List (Bk×List Int)}{x:Bk}{i:Nat}(h:Cj out x=some i):∃ hi:i<out.length,out[i].1=x:=by
 unfold Cj at h;rw[U5] at h;obtain⟨hi,h1,_⟩:=h;exact⟨hi,by simpa using h1⟩
structure BrB(n:Nat)(out:List (Bk×List Int)):Prop where
 l:out.length<=n
 c:∀ b∈out,b.2.length<=n
theorem Mi{n:Nat}{out:List (Bk×List Int)}(h:BrB n out)(x:Bk)(c:Int):BrB (n+1) (ph out x c):=by
 unfold ph;split
 ·split
  ·rename_i b hb
   refine⟨by rw[K0];have:=h.l;omega,fun q hq=>?_⟩
   rcases K5 hq with hq |hq
   ·have:=h.c q hq;omega
   ·subst hq
    have:=h.c b (N0 hb);simp only[E6,C2,C5];omega
  ·exact⟨by have:=h.l;omega,fun b hb=>by have:=h.c b hb;omega⟩
 ·refine⟨by have:=h.l;simp;omega,fun b hb=>?_⟩
  rcases D7.1 hb with hb |hb
  ·have:=h.c b hb;omega
  ·simp only[F1] at hb;subst hb;simp
theorem Ew{α:Type}(p:α->Bool)(l:List α){i:Nat}(h:i<l.length):(l.drop i).findIdx? p=if p l[i]=true then some 0 else ((l.drop (i+1)).findIdx? p).map (·+1):=by
 rw[B8 h,List.findIdx?_cons]
theorem Mj{d:DfM}(hd:DfG d){t:Tm}(hw:Wt t)(hn:t.nodes<=60){x:Nat×List Int}(hp:x.2.length<=60):Wt (dc d t x)/\(dc d t x).nodes<=7260:=by
 unfold dc;cases hr:d.ru[x.1]? with
 |none=>exact⟨wt0,by rw[xl];decide⟩
 |some r =>
  have hrg:=hd.ru (N0 hr);have a1:=jh (m:=60) (by decide) (Ci (l:=r.l) (P:=fun t=>t.nodes<=60) fun p=>jj (atO t x.2) p (by decide) (jj t x.2 (by decide) hn)) r.r
  have a2:=az hrg.rv;have a3:=my (aS (jw r.l (atO t x.2)) r.r) x.2 t;have a4:=gy (cu t x.2 (aS (jw r.l (atO t x.2)) r.r));have a5:t.nodes*(x.2.length+1)<=60*61:=V0 hn (by omega)
  refine⟨Nz _ (Tl (Ny (Ci (P:=Wt) fun p=>Tk (Tk hw x.2) p) r.r hrg.b.wr) x.2 t hw),?_⟩
  simp only;omega
def qm(p:List Int):List D:=[.sl (p.map am)]
def Dh(out:List (Bk×List Int))(x:Bk):Int:=match Cj out x with |some i=>(i:Int) |none=>-1
theorem il{α:Type}:∀ (i:Nat) (x:α) (l:List α),i<l.length->over i [x] l=l.set i x
 |i,x,[],h=>by simp at h
 |0,x,a::l,_=>by cases l<;>rfl
 |i+1,x,a::l,h=>by simp only[over,U3,il i x l (by simpa using h)]
theorem Mk{d:DfM}{v:List ByteArray}{t:Tm}{out:List (Bk×List Int)}{j:Nat}(hj:j<out.length)(cs:aa)(e:List Int)(he:cs=e.map am) :
 over j [over 8 [.sl cs] (rowAt (over j [over 8 [.sl []] (rowAt (out.map (bj d v t)) j)] (out.map (bj d v t))) j)] (over j [over 8 [.sl []] (rowAt (out.map (bj d v t)) j)] (out.map (bj d v t)))=(out.set j (out[j].1,e)).map (bj d v t):=by
 subst he;have hl:j<(out.map (bj d v t)).length:=by rw[B6];exact hj
 rw[ab hj,il j _ _ hl,il j _ _ (by rw[K0];exact hl),List.set_set,V3]
 congr 1
 rw[show rowAt ((out.map (bj d v t)).set j (over 8 [.sl []] (bj d v t out[j]))) j=over 8 [.sl []] (bj d v t out[j]) by simp[rowAt,P4,hj]]
 rfl
theorem Ml{d:DfM}{v:List ByteArray}{t:Tm}{out:List (Bk×List Int)}{j:Nat}(hj:j<out.length):(over j [over 8 [.sl []] (rowAt (out.map (bj d v t)) j)] (out.map (bj d v t))).length=out.length:=by
 rw[il _ _ _ (by rw[B6];exact hj),K0,B6]
theorem re{out:List (Bk×List Int)}{x:Bk}{j:Nat}(h:Cj out x=some j)(hj:j<out.length)(c:Int):ph out x c=out.set j (out[j].1,out[j].2++[c]):=by
 unfold ph;rw[h];simp only[F6 hj]
theorem rf{out:List (Bk×List Int)}{x:Bk}(h:Cj out x=none)(c:Int):ph out x c=out++[(x,[c])]:=by
 unfold ph;rw[h]
theorem aa4(d:DfM)(t:Tm)(y x:Bk):((decide (bK d t y=1)==!x.isSome)&&(decide (bR y=bR x)&&decide (bP y=bP x)))=decide (y=x):=by
 have h2:∀ z,¬ bK d t (some z)=1:=fun z=>by show ¬(if (dc d t z).valid=true then (2:Int) else 3)=1;by_cases q:(dc d t z).valid=true<;>simp[q]
 cases y with
 |none =>
  cases x with
  |none=>simp[bK,bR,bP]
  |some z=>simp[bK]
 |some w =>
  cases x with
  |none=>simp[h2]
  |some z =>
   obtain⟨a,b⟩:=w;obtain⟨a',b'⟩:=z;simp only[h2,bR,bP,H4,O5,Bool.not_true,BEq.rfl,D9,C9.injEq,J1.injEq,Int.ofNat_inj];by_cases e1:a=a'<;>by_cases e2:b=b'<;>simp[e1,e2]
structure BkG(d:DfM)(t:Tm)(x:Bk):Prop where
 i:∀ y,x=some y->y.1<d.ru.length/\y.2.length<=60/\∃ u,atT t y.2=some u
theorem ac9(x:Bk):nrR x []=[.int (bR x),.bool x.isSome,.sl ((bP x).map am)]:=by cases x<;>rfl
theorem ad0(x:Bk):nrS x=[.int (bR x),.bool x.isSome,.sl ((bP x).map am)]:=by cases x<;>rfl
theorem xy{d:DfM}{v:List ByteArray}{t:Tm}(hb:DfB d)(hw:Wt t)(hs:jq d v t=true){c:Int}(hc:isC v.length c=true):DfG d/\t.nodes<=60/\Gt d.op (bw v t c)/\(bw v t c).nodes<=60/\BkG d t (nx d (bw v t c)):=by
 have hwi:Wt (bw v t c):=lx hc▸qk hw c;obtain⟨h1,h2,h3⟩:=Cc hb hwi (wb hs hc);have htn:t.nodes<=60:=by
  simp only[jq,B9] at hs;exact az hs.2.2.2.2.1
 refine⟨h1,htn,h2,h3,⟨fun y hy=>?_⟩⟩
 obtain⟨u,r,w,q1,q2,_⟩:=vy d (bw v t c) y.1 y.2 hy;have q3:=ji y.2 _ u q1;exact⟨(E5.1 q2).1,by omega,Oj (we v c) y.2 t u q1⟩
theorem Tq{α:Type}(l:List α)(a b:α):(l++[a]).set l.length b=l++[b]:=by
 rw[List.set_append_right _ _ (E8 _)];simp
theorem Mm{d:DfM}{t:Tm}{out:List (Bk×List Int)}(h:∀ b∈out,BkG d t b.1){x:Bk}(hx:BkG d t x){c:Int}:∀ b∈ph out x c,BkG d t b.1:=fun b hb=>by
 unfold ph at hb;split at hb
 ·split at hb
  ·rename_i q hq
   rcases K5 hb with hb |hb
   ·exact h b hb
   ·subst hb;exact h q (N0 hq)
  ·exact h b hb
 ·rcases D7.1 hb with hb |hb
  ·exact h b hb
  ·simp only[F1] at hb;subst hb;exact hx
end Go.Q
end
section
/- Branches: bounds of what is answered. -/
namespace Go.Q
open Go
theorem ad1{P:Int->Prop}{out:List (Bk×List Int)}(h:∀ b∈out,∀ c∈b.2,P c){x:Bk}{c:Int}(hc:P c):∀ b∈ph out x c,∀ c∈b.2,P c:=fun b hb=>by
 unfold ph at hb;split at hb
 ·split at hb
  ·rename_i q hq
   rcases K5 hb with hb |hb
   ·exact h b hb
   ·subst hb
    intro c' hc';rcases D7.1 hc' with hc' |hc'
    ·exact h q (N0 hq) c' hc'
    ·simp only[F1] at hc';subst hc';exact hc
  ·exact h b hb
 ·rcases D7.1 hb with hb |hb
  ·exact h b hb
  ·simp only[F1] at hb;subst hb
   intro c' hc';simp only[F1] at hc';subst hc';exact hc
theorem rh{d:DfM}(hb:DfB d){v:List ByteArray}{t:Tm}(hw:Wt t)(hs:jq d v t=true){P:Int->Prop}:∀ (l:List Int) (n:Nat) (out:List (Bk×List Int)),(∀ c∈l,isC v.length c=true/\P c)->BrB n out->(∀ b∈out,BkG d t b.1)->(∀ b∈out,∀ c∈b.2,P c) →
 BrB (n+l.length) (brF d v t l out)/\(∀ b∈brF d v t l out,BkG d t b.1)/\∀ b∈brF d v t l out,∀ c∈b.2,P c
 | [],n,out,_,h1,h2,h3=>⟨h1,h2,h3⟩
 |c::r,n,out,hc,h1,h2,h3=>by
  obtain⟨_,_,_,_,hx⟩:=xy hb hw hs (hc c (C7 ..)).1;have:=rh hb hw hs r (n+1) (ph out (nx d (bw v t c)) c) (fun c' h=>hc c' (C8 _ h)) (Mi h1 _ c) (Mm h2 hx) (ad1 h3 (hc c (C7 ..)).2)
  simp only[brF,C2];rwa[show n+(r.length+1)=n+1+r.length by omega]
end Go.Q
end
section
/- Symbolic terms stay symbolic along a step. -/
namespace Go.Q
open Go
theorem wg:∀ {l:List Bnd} {s:ByteArray} {w:Tm},bnd l s=some w->(s,w)∈l
 | [],s,w,h=>by simp[bnd] at h
 |b::l,s,w,h=>by
  simp only[bnd] at h;split at h
  ·rename_i e
   simp only[C9.injEq] at h;obtain⟨b1,b2⟩:=b;simp only at e h;subst e;subst h;exact C7 ..
  ·exact C8 _ (wg h)
theorem Ck:∀ {l:List Bnd} {s:ByteArray} {w:Tm},(s,w)∈l->∃ w',bnd l s=some w'
 | [],s,w,h=>by simp at h
 |b::l,s,w,h=>by
  simp only[bnd];by_cases e:b.1=s
  ·exact⟨b.2,H5 e⟩
  ·rw[H6 e]
   rcases E1.1 h with h |h
   ·exact absurd (by rw[<-h]) e
   ·exact Ck h
theorem Cl:∀ (as:List Tm) (p:List Int) (i:Nat) (q:List Int),q∈pg as p i↔∃ j,∃ h:j<as.length,q∈gr as[j] (p++[((i+j:Nat):Int)])
 | [],p,i,q=>by simp[pg]
 |a::r,p,i,q=>by
  simp only[pg,D7];rw[Cl r p (i+1) q];constructor
  ·rintro(h |⟨j,hj,h⟩)
   ·exact⟨0,by simp,by simpa using h⟩
   ·exact⟨j+1,by simpa using hj,by rw[show i+(j+1)=i+1+j by omega];simpa using h⟩
  ·rintro⟨j,hj,h⟩
   cases j with
   |zero=>exact .inl (by simpa using h)
   |succ j=>exact .inr ⟨j,by simpa using hj,by rw[show i+1+j=i+(j+1) by omega];simpa using h⟩
theorem Ka{t:Tm}{j:Nat}(h:j<t.as.length)(q:List Int):atT t ((j:Int)::q)=atT t.as[j] q:=by
 simp only[atT,Int.toNat_natCast,dif_pos h];rw[H5 (by omega)]
theorem Yn:∀ t:Tm,∀ p q,q∈gr t p->∃ q' a,q=p++q'/\atT t q'=some a:=Tm.ind fun t ih p q hq=>by
 rw[nr] at hq;rcases E1.1 hq with e |hq
 ·exact⟨[],t,by simp[e],rfl⟩
 ·obtain⟨j,hj,h⟩:=(Cl t.as p 0 q).1 hq
  obtain⟨q',a,e,h1⟩:=ih _ (C0 hj) _ q h;refine⟨(j:Int)::q',a,?_,by rw[Ka hj];exact h1⟩
  rw[e,Nat.zero_add];simp
theorem Ol:∀ (q:List Int) (t:Tm) (p:List Int) (a:Tm),atT t q=some a->p++q∈gr t p
 | [],t,p,a,_=>by rw[nr];simp
 |i::q,t,p,a,h=>by
  obtain⟨hi,h0,h1⟩:=cr h;rw[nr];refine C8 _ ((Cl t.as p 0 _).2 ⟨i.toNat,hi,?_⟩);have:=Ol q _ (p++[i]) a h1;rw[Nat.zero_add,show((i.toNat:Nat):Int)=i by omega]
  simpa using this
theorem Ts:∀ t:Tm,∀ s∈t.names,∃ q a,atT t q=some a/\a.k=1/\a.s=s:=Tm.ind fun t ih s hs=>by
 rw[Tm.names_eq] at hs;rcases D7.1 hs with h |h
 ·split at h
  ·rename_i hk
   simp only[F1] at h;exact⟨[],t,rfl,hk,h.symm⟩
  ·simp at h
 ·obtain⟨x,hx,hs⟩:=K4.1 h
  obtain⟨j,hj,e⟩:=List.getElem_of_mem hx;obtain⟨q,a,h1,h2,h3⟩:=ih x hx s hs;exact⟨(j:Int)::q,a,by rw[Ka hj,e];exact h1,h2,h3⟩
theorem Cm:∀ (q:List Int) (t u:Tm),atT t q=some u->∀ s∈u.names,s∈t.names
 | [],t,u,h,s,hs=>by simp only[atT,C9.injEq] at h;subst h;exact hs
 |i::q,t,u,h,s,hs=>by
  obtain⟨hi,h0,h1⟩:=cr h;rw[Tm.names_eq];exact D7.2 (.inr (K4.2 ⟨_,C0 hi,Cm q _ u h1 s hs⟩))
theorem Ex{l u:Tm}{s:ByteArray}{w:Tm}(h:(s,w)∈jw l u):∃ q a,atT l q=some a/\a.k=1/\a.s=s/\w=atO u q:=by
 unfold jw at h;obtain⟨q,hq,h1⟩:=S0.1 h;obtain⟨q',a,e,ha⟩:=Yn l [] q hq;simp only[D8] at e;subst e;have e:atO l q=a:=by simp[atO,ha]
 unfold cB1 at h1;rw[e] at h1;split at h1
 ·rename_i hk
  simp only[C9.injEq,J1.injEq] at h1;exact⟨q,a,ha,hk,h1.1,h1.2.symm⟩
 ·simp at h1
theorem Cn{l u:Tm}{s:ByteArray}(h:s∈l.names):∃ w,bnd (jw l u) s=some w:=by
 obtain⟨q,a,h1,h2,h3⟩:=Ts l s h;have hq:=Ol q l [] a h1;simp only[D8] at hq;have e:atO l q=a:=by simp[atO,h1]
 refine Ck (w:=atO u q) (S0.2 ⟨q,hq,?_⟩);unfold cB1;rw[e,H5 h2,h3]
theorem ad2{k n:Int}{s:ByteArray}{as:List Tm}(h:(rW1 k n s as).k=2):k=2/\rW1 k n s as=.mk k n s as:=by
 unfold rW1 at h ⊢;split at h
 ·split at h
  ·exact absurd h (by show ¬(3:Int)=2;decide)
  ·rename_i hc;rw[H6 hc];exact⟨h,rfl⟩
 ·exact⟨h,rfl⟩
theorem Kb{σ:List Bnd}(hσ:∀ b∈σ,b.2.as=[]/\b.2.k=3){u:Tm}(hu:u.areN=true)(h:(rW (aS σ u)).k=2):u.k=2/\(rW (aS σ u)).s=u.s/\(rW (aS σ u)).as=u.as.map fun a=>rW (aS σ a):=by
 rw[fg] at h ⊢;obtain⟨h1,h2⟩:=ad2 h;rw[h2];have hk:u.k=2:=by
  rcases cj hu with ⟨q,_⟩|⟨q,_,_⟩ |q
  ·rw[ey,H5 q] at h1
   cases hb:bnd σ u.s with
   |some w =>
    rw[hb] at h1;obtain⟨b,hbm,rfl⟩:=eh hb;have:=(hσ b hbm).2;simp only at h1;omega
   |none=>rw[hb] at h1;simp only[Tm.k_mk] at h1;omega
  ·rw[ey,H6 (by omega)] at h1;simp only[Tm.k_mk] at h1;omega
  ·exact q
 have e:aS σ u=.mk u.k u.n u.s (u.as.map (aS σ)):=by rw[ey,H6 (by omega)]
 refine⟨hk,?_,?_⟩
 ·rw[e];rfl
 ·rw[e,Tm.as_mk,Tm.as_mk,K3];rfl
theorem wh{l:List Bnd}(hl:∀ b∈l,b.2.as=[]):∀ (p:List Int) (t u:Tm),atT (rW (aS l t)) p=some u->∃ v,atT t p=some v/\u=rW (aS l v)
 | [],t,u,h=>by simp only[atT,C9.injEq] at h;exact⟨t,rfl,h.symm⟩
 |i::p,t,u,h=>by
  obtain⟨hi,h0,h1⟩:=cr h;obtain⟨hi2,e2⟩:=aa3 hi;have key:∃ hi3:i.toNat<t.as.length,(aS l t).as[i.toNat]=aS l t.as[i.toNat]:=by
   have hc:(aS l t).as=[]\/(aS l t).as=t.as.map (aS l):=by
    rw[ey];split
    ·rename_i v hv
     split at hv
     ·obtain⟨b,hb,rfl⟩:=eh hv;exact .inl (hl b hb)
     ·simp at hv
    ·exact .inr rfl
   rcases hc with e |e
   ·rw[e] at hi2;simp at hi2
   ·have hi3:i.toNat<t.as.length:=by rw[e] at hi2;simpa using hi2
    exact⟨hi3,by simp only[e,O8]⟩
  obtain⟨hi3,e3⟩:=key;rw[e2,e3] at h1;obtain⟨v,hv,e⟩:=wh hl p _ u h1;exact⟨v,by simp only[atT,dif_pos hi3,H5 h0];exact hv,e⟩
def Yo(vs vs':List VS):Prop:=∀ s y,fv vs s=some y->fv vs' s=some y
theorem Co(ops:List OpM):∀ (l:List Tm),(∀ t∈l,∀ x vs vs',iq ops t x vs=some vs'->Yo vs vs')->∀ xs vs vs',fq ops l xs vs=some vs'->Yo vs vs'
 | [],_,xs,vs,vs',h=>by simp only[fq,C9.injEq] at h;subst h;exact fun _ _ h=>h
 |t::l,ih,xs,vs,vs',h=>by
  have step:∀ x ys v,iq ops t x vs=some v->fq ops l ys v=some vs'->Yo vs vs':=fun x ys v hq h=>by
   have h1:=ih t (C7 ..) x vs v hq;have h2:=Co ops l (fun a ha=>ih a (C8 _ ha)) ys v vs' h
   exact fun s y hy=>h2 s y (h1 s y hy)
  cases xs with
  |nil =>
   simp only[fq] at h;cases hq:iq ops t e0 vs with
   |none=>rw[hq] at h;simp at h
   |some v=>rw[hq] at h;exact step _ _ _ hq h
  |cons x ys =>
   simp only[fq] at h;cases hq:iq ops t x vs with
   |none=>rw[hq] at h;simp at h
   |some v=>rw[hq] at h;exact step _ _ _ hq h
theorem Tt(ops:List OpM):∀ t:Tm,∀ x vs vs',iq ops t x vs=some vs'->Yo vs vs':=Tm.ind fun t ih x vs vs' h=>by
 rw[lr] at h;split at h
 ·split at h
  ·split at h
   ·simp only[C9.injEq] at h;subst h;exact fun _ _ h=>h
   ·simp at h
  ·simp only[C9.injEq] at h;subst h
   intro s y hy;rw[xp,hy]
 ·exact Co ops t.as ih _ _ _ h
theorem Tu(ops:List OpM)(wvs:List VS){σ:List Bnd}(hσ:∀ b∈σ,b.2.as=[]/\b.2.k=3):∀ l:Tm,l.areN=true->∀ u x vs vs' acc acc',u.areN=true->ay ops wvs u=x->x≠e0->iq ops l x vs=some vs'->mT l (rW (aS σ u)) acc=some acc' →
 ∀ q a,atT l q=some a->a.k=1->∃ w y,atT u q=some w/\fv vs' a.s=some y/\ay ops wvs w=y.2:=Tm.ind fun l ih hn u x vs vs' acc acc' hun hu hx hi hm q a ha hk=>by
 rcases cj hn with ⟨h1,has⟩|⟨h3,_,has⟩ |h2
 ·cases q with
  |cons i q=>obtain⟨hlt,_,_⟩:=cr ha;rw[has] at hlt;simp at hlt
  |nil =>
   simp only[atT,C9.injEq] at ha;subst ha;rw[lr,H5 h1] at hi;cases hv:fv vs l.s with
   |some y =>
    have hv':=hv;unfold fv at hv;rw[hv] at hi;simp only at hi;split at hi
    ·rename_i e
     simp only[C9.injEq] at hi;subst hi;exact⟨u,y,rfl,hv',by rw[hu];exact e.symm⟩
    ·simp at hi
   |none =>
    have hv':=hv;unfold fv at hv;rw[hv] at hi;simp only[C9.injEq] at hi;subst hi;exact⟨u,(l.s,x),rfl,by rw[xp,hv'];simp,hu⟩
 ·cases q with
  |cons i q=>obtain⟨hlt,_,_⟩:=cr ha;rw[has] at hlt;simp at hlt
  |nil=>simp only[atT,C9.injEq] at ha;subst ha;omega
 ·cases q with
  |nil=>simp only[atT,C9.injEq] at ha;subst ha;omega
  |cons i q =>
   rcases fu hm with ⟨e,_⟩|⟨e,_⟩|⟨_,e1,_,e3,e4,hms⟩
   ·omega
   ·omega
   obtain⟨b1,b2,b3⟩:=Kb hσ hun (by omega)
   obtain⟨o,hf,hl,hss,_⟩:=jm (t:=u) b1 (by rw[hu];exact hx)
   rw[lr,H6 (by omega),H5 h2,e3,b2,hf] at hi
   simp only at hi;rw[b3] at hms e4;rw[B6] at e4;obtain⟨hlt,h0,h1⟩:=cr ha;have key:∀ (ts us:List Tm) (xs:List ByteArray) (vs:List VS) (acc:List Bnd),(∀ t∈ts,t∈l.as)->(∀ t∈us,t∈u.as)->us.length<=xs.length->bq ops wvs us xs=true->fq ops ts xs vs=some vs'->mTs ts (us.map fun a=>rW (aS σ a)) acc=some acc' →
    ∀ j (hj:j<ts.length) (hj':j<us.length),atT ts[j] q=some a->∃ w y,atT us[j] q=some w/\fv vs' a.s=some y/\ay ops wvs w=y.2:=by
    intro ts;induction ts with
    |nil=>intro us xs vs acc _ _ _ _ _ _ j hj;simp at hj
    |cons t ts ihs =>
     intro us xs vs acc hts hus hlen hs hi hm j hj hj' hat;cases us with
     |nil=>simp at hj'
     |cons u1 us =>
      cases xs with
      |nil=>simp at hlen
      |cons y xs =>
       simp only[bq,B9,E7,decide_eq_false_iff_not,decide_eq_true_eq] at hs;simp only[fq] at hi;simp only[C4,mTs] at hm;cases hi1:iq ops t y vs with
       |none=>rw[hi1] at hi;simp at hi
       |some vs1 =>
        rw[hi1] at hi;cases hm1:mT t (rW (aS σ u1)) acc with
        |none=>rw[hm1] at hm;simp at hm
        |some acc1 =>
         rw[hm1] at hm;simp only at hi hm;cases j with
         |zero =>
          obtain⟨w,z,k1,k2,k3⟩:=ih t (hts t (C7 ..)) (cx hn (hts t (C7 ..))) u1 y vs vs1 acc acc1 (cx hun (hus u1 (C7 ..))) hs.1.2 (by rw[<-hs.1.2];exact hs.1.1) hi1 hm1 q a hat hk
          exact⟨w,z,k1,Co ops ts (fun t _=>Tt ops t) xs vs1 vs' hi _ _ k2,k3⟩
         |succ j =>
          exact ihs us xs vs1 acc1 (fun t ht=>hts t (C8 _ ht)) (fun t ht=>hus t (C8 _ ht)) (by simpa using hlen) hs.2 hi hm j (by simpa using hj) (by simpa using hj') hat
   have hlt':i.toNat<u.as.length:=by omega
   obtain⟨w,y,k1,k2,k3⟩:=key l.as u.as o.a vs acc (fun _ h=>h) (fun _ h=>h) (by omega) hss hi hms i.toNat hlt hlt' h1
   exact⟨w,y,by simp only[atT,dif_pos hlt',H5 h0];exact k1,k2,k3⟩
theorem Tv{ops:List OpM}{vs vs1:List VS}{l:List Bnd}:∀ t:Tm,t.areN=true->ay ops vs t≠e0->(∀ s∈t.names,∃ w,bnd l s=some w/\∀ y,fv vs s=some y->ay ops vs1 w=y.2)->ay ops vs1 (aS l t)=ay ops vs t:=Tm.ind fun t ih hn hs hA=>by
 rw[Tm.names_eq] at hA;rcases cj hn with ⟨h1,ha⟩|⟨h3,_,ha⟩ |h2
 ·have e:ay ops vs t=sc vs t.s:=by rw[cw,H6 (by omega),H5 h1]
  rw[e] at hs ⊢;rw[Jp] at hs ⊢;cases hv:fv vs t.s with
  |none=>rw[hv] at hs;exact absurd rfl hs
  |some v =>
   obtain⟨w,hb,hw⟩:=hA t.s (by simp[h1])
   rw[ey,H5 h1,hb];exact hw v hv
 ·rw[ey,H6 (by omega)]
  rw[cw,cw ops vs,H5 (show(Tm.mk t.k t.n t.s _).k=3 from h3),H5 h3]
 ·obtain⟨o,hf,hl,hss,e⟩:=jm h2 hs
  rw[ey,H6 (by omega),e]
  have key:∀ (ts:List Tm) (xs:List ByteArray),(∀ a∈ts,a∈t.as)->bq ops vs ts xs=true->bq ops vs1 (ts.map (aS l)) xs=true:=by
   intro ts;induction ts with
   |nil=>intro xs _ _;rfl
   |cons a ts ihs =>
    intro xs hts h;cases xs with
    |nil=>rfl
    |cons y xs =>
     simp only[bq,B9,E7,decide_eq_false_iff_not,decide_eq_true_eq] at h;have hm:=hts a (C7 ..);have q:=ih a hm (cx hn hm) h.1.1 fun s hs=>hA s (D7.2 (.inr (K4.2 ⟨a,hm,hs⟩)))
     simp only[C4,bq,B9,E7,decide_eq_false_iff_not,decide_eq_true_eq,q];exact⟨h.1,ihs xs (fun z hz=>hts z (C8 _ hz)) h.2⟩
  exact la (t:=.mk t.k t.n t.s (t.as.map (aS l))) h2 hf (by simpa[Tm.as] using hl) (key _ _ (fun _ h=>h) hss)
theorem Gy{ops:List OpM}{vs:List VS}:∀ (p:List Int) (t u:Tm),t.areN=true->ay ops vs t≠e0->atT t p=some u->u.areN=true/\ay ops vs u≠e0
 | [],t,u,hn,hs,h=>by simp only[atT,C9.injEq] at h;subst h;exact⟨hn,hs⟩
 |i::p,t,u,hn,hs,h=>by
  obtain⟨hi,h0,h1⟩:=cr h;have h2:t.k=2:=by
   rcases cj hn with ⟨_,q⟩|⟨_,_,q⟩ |h2
   ·rw[q] at hi;simp at hi
   ·rw[q] at hi;simp at hi
   ·exact h2
  obtain⟨o,hf,hl,hss,e⟩:=jm h2 hs;exact Gy p _ u (cx hn (C0 hi)) (mw ops vs t.as o.a (by omega) hss _ (C0 hi)) h1
theorem Kc{ops:List OpM}{vs:List VS}{w:Tm}(hw:w.areN=true):∀ (p:List Int) (t u:Tm),t.areN=true->ay ops vs t≠e0->atT t p=some u->ay ops vs w=ay ops vs u->(cu t p w).areN=true/\ay ops vs (cu t p w)=ay ops vs t
 | [],t,u,hn,hs,h,he=>by simp only[atT,C9.injEq] at h;subst h;exact⟨hw,he⟩
 |i::p,t,u,hn,hs,h,he=>by
  obtain⟨hi,h0,h1⟩:=cr h;have h2:t.k=2:=by
   rcases cj hn with ⟨_,q⟩|⟨_,_,q⟩ |h2
   ·rw[q] at hi;simp at hi
   ·rw[q] at hi;simp at hi
   ·exact h2
  obtain⟨o,hf,hl,hss,e⟩:=jm h2 hs;have hm:=C0 hi;obtain⟨g1,g2⟩:=Kc hw p _ u (cx hn hm) (mw ops vs t.as o.a (by omega) hss _ hm) h1 he
  simp only[cu,dif_pos hi];refine⟨Aa hn (by simp) fun a ha=>?_,?_⟩
  ·rcases K5 ha with q |q
   ·exact cx hn q
   ·exact q▸g1
  ·rw[e]
   refine la (t:=.mk t.k t.n t.s _) h2 hf (by rw[Tm.as_mk,K0];exact hl) ?_
   rw[Tm.as_mk,tp t.as o.a i.toNat hi _ g2];exact hss
theorem Tw{l:List Bnd}:∀ t:Tm,∀ s∈(aS l t).names,(s∈t.names/\bnd l s=none)\/∃ b∈l,s∈b.2.names:=Tm.ind fun t ih s hs=>by
 rw[ey] at hs;by_cases hk:t.k=1
 ·rw[H5 hk] at hs
  cases hb:bnd l t.s with
  |some v =>
   rw[hb] at hs;obtain⟨b,h1,rfl⟩:=eh hb;exact .inr ⟨b,h1,hs⟩
  |none =>
   rw[hb] at hs;simp only at hs;rw[Tm.names_eq,Tm.k_mk,H5 hk] at hs;rcases D7.1 hs with h |h
   ·simp only[F1] at h
    have h:s=t.s:=h;exact .inl ⟨by rw[Tm.names_eq,H5 hk];simp[h],by rw[h];exact hb⟩
   ·obtain⟨x,hx,hs⟩:=K4.1 h
    obtain⟨a,ha,rfl⟩:=F8.1 hx;rcases ih a ha s hs with ⟨q1,q2⟩ |q
    ·exact .inl ⟨by rw[Tm.names_eq];exact D7.2 (.inr (K4.2 ⟨a,ha,q1⟩)),q2⟩
    ·exact .inr q
 ·rw[H6 hk] at hs
  simp only at hs;rw[Tm.names_eq,Tm.k_mk,H6 hk,D8] at hs;obtain⟨x,hx,hs⟩:=K4.1 hs;obtain⟨a,ha,rfl⟩:=F8.1 hx;rcases ih a ha s hs with ⟨q1,q2⟩ |q
  ·exact .inl ⟨by rw[Tm.names_eq];exact D7.2 (.inr (K4.2 ⟨a,ha,q1⟩)),q2⟩
  ·exact .inr q
theorem Ey{w:Tm}:∀ (p:List Int) (t:Tm),∀ s∈(cu t p w).names,s∈t.names\/s∈w.names
 | [],t,s,hs=>.inr hs
 |i::p,t,s,hs=>by
  simp only[cu] at hs;split at hs
  ·rename_i hi
   rw[Tm.names_eq,Tm.k_mk,Tm.as_mk] at hs;rw[Tm.names_eq];rcases D7.1 hs with h |h
   ·exact .inl (D7.2 (.inl h))
   ·obtain⟨x,hx,hs⟩:=K4.1 h
    rcases K5 hx with q |q
    ·exact .inl (D7.2 (.inr (K4.2 ⟨x,q,hs⟩)))
    ·subst q
     rcases Ey p _ s hs with q |q
     ·exact .inl (D7.2 (.inr (K4.2 ⟨_,C0 hi,q⟩)))
     ·exact .inr q
  ·exact .inl hs
theorem Om{vars:List ByteArray}{c:Int}:∀ b∈bn vars c,b.2.as=[]/\b.2.k=3:=fun b hb=>by
 unfold bn at hb;simp only[F8] at hb;obtain⟨p,_,rfl⟩:=hb;exact⟨rfl,rfl⟩
theorem Cp{ops:List OpM}{r:RuM}(h:jy ops r=true):∀ s∈r.r.names,s∈r.l.names:=by
 unfold jy at h;simp only[B9,decide_eq_true_eq] at h;obtain⟨_,_,_,_,_,h4⟩:=h;cases hf:eg ops r.l.s with
 |none=>rw[hf] at h4;simp at h4
 |some o =>
  rw[hf] at h4;simp only at h4;cases hi:qh ops r.l o.r with
  |none=>rw[hi] at h4;simp at h4
  |some vs =>
   rw[hi] at h4;simp only[B9] at h4;exact gh.1 h4.2.1
theorem Tx{d:DfM}{v:List ByteArray}{t:Tm}(hb:DfB d)(hw:Wt t)(hs:jq d v t=true){c:Int}(hc:isC v.length c=true){x:Nat×List Int}(hx:nx d (bw v t c)=some x)(hv:(dc d t x).valid=true):jq d v (dc d t x)=true:=by
 obtain⟨hd,htn,hg,hgn,_⟩:=xy hb hw hs hc;have hs':=hs;simp only[jq,B9,E7,decide_eq_false_iff_not] at hs' ⊢;obtain⟨s1,s2,s3,s4,s5,s6,s7⟩:=hs';refine⟨s1,s2,s3,s4,hv,?_⟩;have hna:=cq s5;obtain⟨u',r,w',q1,q2,q3⟩:=vy d (bw v t c) x.1 x.2 hx;obtain⟨u,hu,rfl⟩:=wh (we v c) x.2 t u' q1;obtain⟨hun,hus⟩:=Gy x.2 t u hna s7 hu;have hr:=hd.ru (N0 q2);have hrw:∀ s∈r.r.names,s∈r.l.names:=by
  have:=hd.v;simp only[DfM.valid,B9,E3] at this;exact Cp (this.2.2.2.1 r (N0 q2))
 unfold gi at q3;cases hm:mT r.l (rW (aS (bn v c) u)) [] with
 |none=>rw[hm] at q3;simp at q3
 |some l' =>
 obtain⟨o,vs,hf,hi,hso⟩:=hr.inf;have hk:(rW (aS (bn v c) u)).k=2/\(rW (aS (bn v c) u)).s=r.l.s:=by
  rcases fu hm with ⟨q,_⟩|⟨q,_⟩|⟨_,q1,_,q2,_⟩
  ·have:=hr.lk;omega
  ·have:=hr.lk;omega
  ·exact⟨by rw[<-q1];exact hr.lk,q2.symm⟩
 obtain⟨b1,b2,b3⟩:=Kb Om hun hk.1;obtain⟨o',hf',hl',hss',he'⟩:=jm b1 hus;rw[<-b2,hk.2,hf] at hf';simp only[C9.injEq] at hf';subst hf';have hne:o.r≠e0:=he'▸hus;have hP:=Tu d.op (wv v) Om r.l (cq hr.lv) u o.r [] vs [] l' hun he' hne (vv hi) hm
 -- bindings
 have hB:∀ b∈jw r.l (atO t x.2),∃ q a y,atT r.l q=some a/\a.k=1/\a.s=b.1/\atT u q=some b.2/\fv vs b.1=some y/\ay d.op (wv v) b.2=y.2:=fun b hb'=>by
  obtain⟨s,w⟩:=b;obtain⟨q,a,k1,k2,k3,k4⟩:=Ex hb';have eu:atO t x.2=u:=by simp[atO,hu]
  obtain⟨w2,y,m1,m2,m3⟩:=hP q a k1 k2;have ew:w=w2:=by rw[k4,eu];simp[atO,m1]
  subst ew;exact⟨q,a,y,k1,k2,k3,m1,by rw[<-k3];exact m2,m3⟩
 have hBn:∀ b∈jw r.l (atO t x.2),b.2.areN=true:=fun b hb'=>by
  obtain⟨q,a,y,_,_,_,m1,_⟩:=hB b hb';exact(Gy q u b.2 hun hus m1).1
 have hBw:∀ b∈jw r.l (atO t x.2),∀ s∈b.2.names,s∈t.names:=fun b hb' s hs=>by
  obtain⟨q,a,y,_,_,_,m1,_⟩:=hB b hb';exact Cm x.2 t u hu s (Cm q u b.2 m1 s hs)
 have hrn:=Gw hBn r.r (cq hr.rv);have hrs:ay d.op (wv v) (aS (jw r.l (atO t x.2)) r.r)=o.r:=by
  rw[<-hso];refine Tv r.r (cq hr.rv) (by rw[hso];exact hne) fun s hs=>?_
  obtain⟨w,hbw⟩:=Cn (u:=atO t x.2) (hrw s hs);refine⟨w,hbw,fun y hy=>?_⟩
  obtain⟨q,a,y',_,_,_,_,m2,m3⟩:=hB _ (wg hbw);rw[hy] at m2;simp only[C9.injEq] at m2;rw[m2];exact m3
 obtain⟨p1,p2⟩:=Kc hrn x.2 t u hna s7 hu (by rw[hrs,he'])
 have ec:dc d t x=rW (cu t x.2 (aS (jw r.l (atO t x.2)) r.r)):=by
  unfold dc;rw[q2]
 rw[ec];refine⟨gh.2 fun s hs=>?_,by rw[Gv d.op (wv v) _ p1 (by rw[p2];exact s7),p2];exact s7⟩
 rw[Bu] at hs;refine gh.1 s6 s ?_;rcases Ey x.2 t s hs with h |h
 ·exact h
 ·rcases Tw r.r s h with ⟨h1,h2⟩|⟨b,h1,h2⟩
  ·obtain⟨w,hbw⟩:=Cn (u:=atO t x.2) (hrw s h1)
   rw[hbw] at h2;simp at h2
  ·exact hBw b h1 s h2
end Go.Q
end
section
/- Proofs of claims. -/
namespace Go.Q
open Go
def bf(c:ClM):List D:=[.sl (c.v.map ag),.int c.l.k,.int c.l.n,.str c.l.s,.sl (c.l.as.map Tm.row),.int c.r.k,.int c.r.n,.str c.r.s,.sl (c.r.as.map Tm.row),.sl (c.g.map Gu.row)]
structure PnM where
 k:Int
 nx:List Int
 c:Int
 s:List Bnd
def PnM.row(n:PnM):List D:=[.int n.k,.sl (n.nx.map am),.int n.c,.sl (n.s.map Bnd.row)]
structure PnB(n:PnM):Prop where
 nx:n.nx.length<=1048576
 s:n.s.length<=1048576
 b:∀ b∈n.s,au b.2
noncomputable def opC(g:ClM)(t:Tm)(cl:List Int):List Int:=cl.filter fun k=>!eqb (S.instR g.v t k).row (S.instR g.v g.r k).row
noncomputable def pi(c:ClM)(sub:List Bnd)(g:ClM)(t:Tm)(k:Int):Bool :=
 (gc g.v k c.v sub).2&&((c.g.all fun q=>holds (du (bn c.v (gc g.v k c.v sub).1) q))&&(eqb (S.instR c.v c.l (gc g.v k c.v sub).1).row (S.instR g.v t k).row&&eqb (S.instR c.v c.r (gc g.v k c.v sub).1).row (S.instR g.v g.r k).row))
def lf(cs:List ClM)(i:Int):Option ClM:=if 0<=i then cs[i.toNat]? else none
noncomputable def rgt(d:DfM)(cs:List ClM)(g:ClM)(ns:List PnM):Nat->Int->Tm->List Int->Bool->Bool
 |0,_,_,_,_=>false
 |f+1,n,t,cl,st=>if n<0 then false else match ns[n.toNat]? with
  |none=>false
  |some x=>if x.k=1 then decide ((opC g t cl).length=0) else if x.k=2 then decide ((brF d g.v t (opC g t cl) []).length=x.nx.length)&&(((brF d g.v t (opC g t cl) []).zip x.nx).all fun p=>decide (bK d t p.1.1=2)&&(!decide (p.2<=n)&&rgt d cs g ns f p.2 (bT d t p.1.1) p.1.2 true))
   else if x.k=3 then st&&(match lf cs x.c with |some c=>(opC g t cl).all (pi c x.s g t) |none=>false) else false
noncomputable def da(cs:List ClM):Bool:=cs.all ClM.valid
noncomputable def jr(cs:List ClM)(k:Int):Option ClM:=if cs.length<=3/\da cs=true then lf cs k else none
noncomputable def Cq(d:DfM)(cs:List ClM)(k:Int)(ns:List PnM):Bool:=match jr cs k with
 |some g=>decide (ns.length<=60)&&rgt d cs g ns ns.length 0 g.l ((dk g.v g.g).map fun (i:Nat)=>(i:Int)) false
 |none=>false
theorem Kd(vars:List ByteArray)(c:Int)(l:List Bnd):∀ (xs:List ByteArray) (out r B:Int),0<=out->out<B->B*4 ^ xs.length<=64->mv (gk vars c l) xs out=some r->0<=r/\r<B*4 ^ xs.length
 | [],out,r,B,h0,h1,h2,h=>by simp only[mv,C9.injEq] at h;subst h;simp;omega
 |x::xs,out,r,B,h0,h1,h2,h=>by
  simp only[mv] at h;cases hs:gk vars c l x out with
  |none=>rw[hs] at h;simp at h
  |some o =>
   rw[hs] at h;simp only at h;unfold gk at hs;cases hb:bnd l x with
   |none=>rw[hb] at hs;simp at hs
   |some t =>
    rw[hb] at hs;simp only at hs;split at hs
    ·rename_i hw
     simp only[isW,B9,decide_eq_true_eq] at hw;obtain⟨_,w1,w2,_⟩:=hw;simp only[C9.injEq] at hs;have hp:(1:Int)<=4 ^ xs.length:=Int.pow_pos (by decide)
     have e4:B*4 ^ (x::xs).length=4*B*4 ^ xs.length:=by rw[C2,Int.pow_succ,Int.mul_comm 4 B,Int.mul_assoc,Int.mul_comm (4 ^ xs.length) 4]
     have hB:4*B<=64:=by
      have:4*B*1<=4*B*4 ^ xs.length:=Int.mul_le_mul_of_nonneg_left hp (by omega)
      omega
     have e1:IntKind.i64.wrap (4*out)=4*out:=IntWalk.i64_in _ (by omega)
     have e2:IntKind.i64.wrap (4*out+(bw vars t c).n)=4*out+(bw vars t c).n:=IntWalk.i64_in _ (by omega)
     rw[e1,e2] at hs;have:=Kd vars c l xs o r (4*B) (by omega) (by omega) (by rw[<-e4];exact h2) h
     rw[e4];exact this
    ·simp at hs
theorem Gz{vars:List ByteArray}{c:Int}{tv:List ByteArray}{l:List Bnd}(h:(gc vars c tv l).2=true):isC tv.length (gc vars c tv l).1=true:=by
 unfold gc at h ⊢;split at h
 ·rename_i hc
  rw[H5 hc];cases ho:mv (gk vars c l) tv 0 with
  |none=>rw[ho] at h;simp at h
  |some r =>
   simp only;have hn:tv.length=0\/tv.length=1\/tv.length=2\/tv.length=3:=by have:=hc.2;omega
   have h64:(1:Int)*4 ^ tv.length<=64:=by rcases hn with e |e |e |e<;>rw[e]<;>decide
   obtain⟨k1,k2⟩:=Kd vars c l tv 0 r 1 (by decide) (by decide) h64 ho
   simp only[isC,gx,B9,decide_eq_true_eq,H5 hc.2];rw[Int.one_mul] at k2;exact⟨k1,k2⟩
 ·simp at h
theorem Ke{vars:List ByteArray}{gs:List Gu}{n:Int}(h:isC vars.length n=true):nq ((dk vars gs).map fun (i:Nat)=>(i:Int)) n=gs.all fun q=>holds (du (bn vars n) q):=by
 obtain⟨h1,h2,h3⟩:=mc h;obtain⟨m,rfl⟩:∃ m:Nat,n=(m:Int):=⟨n.toNat,by omega⟩
 have hm:m<(gx vars.length).toNat:=by
  simp only[isC,B9,decide_eq_true_eq] at h;omega
 rw[Bool.eq_iff_iff];simp only[nq,List.any_map,P8,Function.comp,decide_eq_true_eq];constructor
 ·rintro⟨i,hi,e⟩
  have:i=m:=by omega
  subst this;unfold dk at hi;exact(P6.1 hi).2
 ·intro hg
  refine⟨m,?_,rfl⟩;unfold dk;exact P6.2 ⟨List.mem_range.2 hm,hg⟩
theorem jk(l:List Nat):l.map S.nRow=(l.map fun (i:Nat)=>(i:Int)).map am:=by rw[K3];rfl
theorem Qk{n:Nat}{c:Int}:∀ (r:List Int) (p:Option Int),(∀ q,p=some q->q<=c)->lc n (some c) r=true->lc n p r=true
 | [],_,_,_=>rfl
 |x::r,p,hp,h=>by
  simp only[lc,B9,E7,decide_eq_false_iff_not] at h ⊢;refine⟨h.1,?_,h.2.2⟩;cases p with
  |none=>rfl
  |some q=>simp only[E7,decide_eq_false_iff_not];have:=hp q rfl;omega
theorem Ql{n:Nat}{p:Option Int}{c:Int}{r:List Int}(h:lc n p (c::r)=true):lc n p r=true:=by
 simp only[lc,B9] at h;refine Qk r p (fun q hq=>?_) h.2.2
 subst hq;have:=h.2.1;simp only[E7,decide_eq_false_iff_not] at this;omega
theorem Cr{n:Nat}{l cl:List Int}(h:l.Sublist cl):∀ p,lc n p cl=true->lc n p l=true:=by
 induction h with
 |slnil=>intro p h;exact h
 |cons a _ ih=>intro p h;exact ih p (Ql h)
 |cons_cons a _ ih =>
  intro p h;simp only[lc,B9] at h ⊢;exact⟨h.1,h.2.1,ih _ h.2.2⟩
def pvI:Option Int->Int
 |some q=>if 0<=q then q+1 else 0
 |none=>0
theorem Kf{n:Nat}:∀ (cl:List Int) (p:Option Int),lc n p cl=true->(cl.length:Int)<=64-pvI p\/cl=[]
 | [],p,_=>.inr rfl
 |c::r,p,h=>by
  simp only[lc,B9] at h;have hc:=mc h.1;left;have h1:=Kf r (some c) h.2.2;have hpc:pvI p<=c:=by
   cases p with
   |none=>exact hc.2.1
   |some q =>
    have:=h.2.1;simp only[E7,decide_eq_false_iff_not] at this;show(if 0<=q then q+1 else 0)<=c
    split<;>omega
  simp only[C2];rcases h1 with h1 |h1
  ·have e:pvI (some c)=c+1:=by show(if 0<=c then c+1 else 0)=c+1;rw[H5 hc.2.1]
   rw[e] at h1;omega
  ·subst h1;simp only[C5];omega
theorem On{d:DfM}{v:List ByteArray}{t:Tm}:∀ (l P:List Int) (out:List (Bk×List Int)),(∀ b∈out,b.2.Sublist P/\∃ c∈P,nx d (bw v t c)=b.1)->∀ b∈brF d v t l out,b.2.Sublist (P++l)/\∃ c∈P++l,nx d (bw v t c)=b.1
 | [],P,out,h=>by simpa only[brF,G5] using h
 |c::r,P,out,h=>by
  have h1:∀ b∈ph out (nx d (bw v t c)) c,b.2.Sublist (P++[c])/\∃ c'∈P++[c],nx d (bw v t c')=b.1:=fun b hb=>by
   have old:∀ b∈out,b.2.Sublist (P++[c])/\∃ c'∈P++[c],nx d (bw v t c')=b.1:=fun b hb=>by
    obtain⟨k1,c',k2,k3⟩:=h b hb;exact⟨k1.trans (List.sublist_append_left ..),c',D7.2 (.inl k2),k3⟩
   unfold ph at hb;split at hb
   ·split at hb
    ·rename_i q hq
     rcases K5 hb with hb |hb
     ·exact old b hb
     ·subst hb
      obtain⟨k1,c',k2,k3⟩:=h q (N0 hq);exact⟨List.Sublist.append k1 (List.Sublist.refl _),c',D7.2 (.inl k2),k3⟩
    ·exact old b hb
   ·rcases D7.1 hb with hb |hb
    ·exact old b hb
    ·simp only[F1] at hb;subst hb
     exact⟨List.sublist_append_right ..,c,by simp,rfl⟩
  have:=On r (P++[c]) _ h1;simpa only[brF,E2,F2,D8] using this
structure StG(d:DfM)(v:List ByteArray)(t:Tm)(cl:List Int):Prop where
 w:Wt t
 s:jq d v t=true
 c:lc v.length none cl=true
theorem StG.n{d:DfM}{v:List ByteArray}{t:Tm}{cl:List Int}(h:StG d v t cl):t.nodes<=60:=by
 have:=h.s;simp only[jq,B9] at this;exact az this.2.2.2.2.1
theorem StG.l{d:DfM}{v:List ByteArray}{t:Tm}{cl:List Int}(h:StG d v t cl):cl.length<=64:=by
 rcases Kf cl none h.c with k |k
 ·simp only[pvI] at k;omega
 ·subst k;simp
theorem StG.op{d:DfM}{v:List ByteArray}{t:Tm}{cl:List Int}(h:StG d v t cl){l:List Int}(hl:l.Sublist cl):StG d v t l:=⟨h.w,h.s,Cr hl none h.c⟩
theorem StG.next{d:DfM}(hb:DfB d){v:List ByteArray}{t:Tm}{cl:List Int}(h:StG d v t cl){b:Bk×List Int}(hm:b∈brF d v t cl [])(hk:bK d t b.1=2):StG d v (bT d t b.1) b.2:=by
 obtain⟨h1,c,h2,h3⟩:=On (d:=d) (v:=v) (t:=t) cl [] [] (by simp) b hm
 simp only[D8] at h1 h2;have hc:=ce cl none h.c c h2;obtain⟨bk,bl⟩:=b;simp only at h3 hk h1 ⊢;cases bk with
 |none=>exact absurd hk (by show ¬(1:Int)=2;decide)
 |some y =>
  have hv:(dc d t y).valid=true:=by
   cases hq:(dc d t y).valid with
   |true=>rfl
   |false =>
    have:bK d t (some y)=3:=by show(if (dc d t y).valid=true then (2:Int) else 3)=3;rw[hq];rfl
    omega
  have e:bT d t (some y)=dc d t y:=by show(if (dc d t y).valid=true then dc d t y else tm0)=_;rw[H5 hv]
  rw[e];obtain⟨hd,_,_,_,hx⟩:=xy hb h.w h.s hc;rw[h3] at hx;exact⟨(Mj hd h.w h.n (hx.i y rfl).2.1).1,Tx hb h.w h.s hc h3 hv,Cr h1 none h.c⟩
end Go.Q
namespace Go.Q.S
open Go Go.Q
end Go.Q.S
end
section
/- Starts of claims;rows of claims. -/
namespace Go.Q
open Go
def zx{α:Type}(p:α->Int->Bool):List α->List Int->Bool
 | [],_=>true
 |_::_,[]=>false
 |b::l,m::n=>p b m&&zx p l n
theorem Cs{α:Type}(p:α->Int->Bool):∀ (l:List α) (n:List Int),l.length=n.length->zx p l n=(l.zip n).all fun q=>p q.1 q.2
 | [],n,_=>by simp[zx]
 |_::_,[],h=>by simp at h
 |b::l,m::n,h=>by simp only[zx,T3,J2,Cs p l n (by simpa using h)]
theorem Kg(n:Nat):∀ (k a:Nat) (p:Option Int),(∀ i,a<=i->i<a+k->isC n (i:Int)=true)->(∀ q,p=some q->q<(a:Int))->lc n p ((List.range' a k).map fun (i:Nat)=>(i:Int))=true
 |0,_,_,_,_=>rfl
 |k+1,a,p,h,hp=>by
  simp only[List.range'_succ,C4,lc,B9];refine⟨h a (E8 _) (by omega),?_,Kg n k (a+1) _ (fun i h1 h2=>h i (by omega) (by omega)) fun q hq=>by simp only[C9.injEq] at hq;omega⟩
  cases p with
  |none=>rfl
  |some q =>
   have:=hp q rfl;simp only[E7,decide_eq_false_iff_not];omega
theorem Ty(vars:List ByteArray)(gs:List Gu):lc vars.length none ((dk vars gs).map fun (i:Nat)=>(i:Int))=true:=by
 refine Cr (cl:=(U4 (gx vars.length).toNat).map fun (i:Nat)=>(i:Int)) ?_ none ?_
 ·unfold dk;exact(N8).map _
 ·rw[List.range_eq_range']
  refine Kg _ _ 0 none (fun i _ hi=>?_) (by simp)
  have:=lq vars.length;simp only[isC,B9,decide_eq_true_eq];omega
theorem StG.start{c:ClM}(hb:ClB c)(h:c.valid=true):StG c.d c.v c.l ((dk c.v c.g).map fun (i:Nat)=>(i:Int)):=by
 simp only[ClM.valid,B9] at h;exact⟨hb.wl,h.1,Ty c.v c.g⟩
theorem StG.sy{d:DfM}(hb:DfB d){c:ClM}(hc:ClB c){t:Tm}{cl:List Int}(h:StG d c.v t cl):SyB ⟨d,c.v,t,cl⟩/\Cg d c.v t cl=true/\brL ⟨d,c.v,t,cl⟩=brF d c.v t cl []:=by
 have h1:=h.n;have h2:=h.l;have h3:Cg d c.v t cl=true:=by simp only[Cg,B9];exact⟨h.s,h.c⟩
 exact⟨⟨hb,hc.v,hc.vs,h.w,by show t.nodes<=_;omega,by show cl.length<=_;omega⟩,h3,by unfold brL;rw[H5 h3]⟩
theorem gm{cs:List ClM}{k:Int}{g:ClM}(h:jr cs k=some g):cs.length<=3/\da cs=true/\lf cs k=some g:=by
 unfold jr at h;split at h
 ·rename_i q;exact⟨q.1,q.2,h⟩
 ·simp at h
end Go.Q
namespace Go.Q.S
open Go Go.Q
end Go.Q.S
end
section
/- Lists of proofs;verdicts. -/
namespace Go.Q
open Go
def dm(ns:List PnM):List D:=[.sl (ns.map PnM.row)]
structure PfB(ns:List PnM):Prop where
 l:ns.length<=1048576
 b:∀ n∈ns,PnB n
noncomputable def wi(d:DfM)(cs:List ClM):Nat->List (List PnM)->Bool
 |_,[]=>true
 |i,p::r=>Cq d cs (i:Int) p&&wi d cs (i+1) r
noncomputable def Di(d:DfM)(cs:List ClM)(ps:List (List PnM)):Bool:=decide (ps.length=cs.length)&&(wi d cs 0 ps&&decide (0<cs.length))
noncomputable def Kh(d:DfM)(cs:List ClM)(code:Int)(ps:List (List PnM))(cl k:Int):Bool :=
 if code=1 then Di d cs ps else if code=2 then (match jr cs cl with
  |some g=>nq ((dk g.v g.g).map fun (i:Nat)=>(i:Int)) k&&wc d (S.instR g.v g.l k) (S.instR g.v g.r k)
  |none=>false) else false
theorem Ki{l:List Int}{x:Int}(h:nq l x=true):x∈l:=by
 simp only[nq,P8,decide_eq_true_eq] at h;obtain⟨y,hy,e⟩:=h;exact e▸hy
end Go.Q
namespace Go.Q.S
open Go Go.Q
end Go.Q.S
end
section
/- The search for proofs. -/
namespace Go.Q
open Go
def rsl(l:Tm)(b:List Bnd):List Bnd:=rsB b (bx (bx l.names))
noncomputable def js(g:ClM)(t:Tm)(op:List Int):List ClM->Nat->Option PnM
 | [],_=>none
 |c::r,i=>match mT c.l t [] with
  |some l=>if op.all (pi c (rsl c.l l) g t)=true then some ⟨3,[],(i:Int),rsl c.l l⟩ else js g t op r (i+1)
  |none=>js g t op r (i+1)
noncomputable def chl(f:Nat->Tm->List Int->Option (List PnM))(d:DfM)(t:Tm):List (Bk×List Int)->Nat->Option (List Int×List PnM)
 | [],_=>some ([],[])
 |b::r,base=>match f base (bT d t b.1) b.2 with
  |none=>none
  |some n1=>match chl f d t r (base+n1.length) with
   |none=>none
   |some y=>some ((base:Int)::y.1,n1++y.2)
def ry(base:Nat)(op:List Int)(cir:Option PnM)(k:Option (List PnM)):Option (List PnM) :=
 if base=60 then none else if op.length=0 then some [⟨1,[],0,[]⟩] else match cir with |some x=>some [x] |none=>k
def mk2:Option (List Int×List PnM)->Option (List PnM)
 |some y=>some (⟨2,y.1,0,[]⟩::y.2)
 |none=>none
noncomputable def fnd(d:DfM)(cs:List ClM)(g:ClM):Nat->Nat->Tm->List Int->Option (List PnM)
 |0,base,t,cl=>ry base (opC g t cl) (js g t (opC g t cl) cs 0) none
 |r+1,base,t,cl=>ry base (opC g t cl) (if r+1<12 then js g t (opC g t cl) cs 0 else none)
  (if (brF d g.v t (opC g t cl) []).all (fun b=>decide (bK d t b.1=2))=true then mk2 (chl (fnd d cs g r) d t (brF d g.v t (opC g t cl) []) (base+1)) else none)
noncomputable def fpR(d:DfM)(cs:List ClM)(k:Int):Option (List PnM):=match jr cs k with
 |some g=>fnd d cs g 12 0 g.l ((dk g.v g.g).map fun (i:Nat)=>(i:Int))
 |none=>none
def fpD:Option (List PnM)->List D
 |some ns=>[.bool true,.sl (ns.map PnM.row)]
 |none=>[.bool false,.sl []]
noncomputable def prL(d:DfM)(cs:List ClM):Nat->Nat->Option (List (List PnM))
 |0,_=>some []
 |n+1,i=>match fpR d cs (i:Int) with
  |none=>none
  |some p=>match prL d cs n (i+1) with
   |none=>none
   |some r=>some (p::r)
def paD:Option (List (List PnM))->List D
 |some ps=>[.bool (decide (0<ps.length)),.sl (ps.map dm)]
 |none=>[.bool false,.sl []]
theorem Kj{base:Nat}{op:List Int}{cir:Option PnM}{k:Option (List PnM)}{n:List PnM}(hb:base<=60)(hk:∀ n,k=some n->base≠60->base+n.length<=60)(h:ry base op cir k=some n):base+n.length<=60/\0<n.length\/(k=some n/\base+n.length<=60):=by
 unfold ry at h;split at h
 ·simp at h
 ·rename_i h0
  split at h
  ·simp only[C9.injEq] at h;subst h;left;simp only[C2,C5];omega
  ·cases cir with
   |some x=>simp only[C9.injEq] at h;subst h;left;simp only[C2,C5];omega
   |none=>exact .inr ⟨h,hk n h h0⟩
theorem Ha{f:Nat->Tm->List Int->Option (List PnM)}{d:DfM}{t:Tm}(hf:∀ base t cl n,base<=60->f base t cl=some n->base+n.length<=60):∀ (L:List (Bk×List Int)) (base:Nat) (y:List Int×List PnM),base<=60->chl f d t L base=some y->base+y.2.length<=60/\y.1.length=L.length
 | [],base,y,hb,h=>by simp only[chl,C9.injEq] at h;subst h;exact⟨hb,rfl⟩
 |b::r,base,y,hb,h=>by
  simp only[chl] at h;cases h1:f base (bT d t b.1) b.2 with
  |none=>rw[h1] at h;simp at h
  |some n1 =>
   rw[h1] at h;simp only at h;have h2:=hf _ _ _ _ hb h1;cases h3:chl f d t r (base+n1.length) with
   |none=>rw[h3] at h;simp at h
   |some z =>
    rw[h3] at h;simp only[C9.injEq] at h;subst h;have h4:=Ha hf r _ z h2 h3;simp only[E6,C2];omega
theorem nv(d:DfM)(cs:List ClM)(g:ClM):∀ r base t cl n,base<=60->fnd d cs g r base t cl=some n->base+n.length<=60
 |0,base,t,cl,n,hb,h=>by
  simp only[fnd] at h;rcases Kj hb (by simp) h with h |h
  ·exact h.1
  ·exact h.2
 |r+1,base,t,cl,n,hb,h=>by
  simp only[fnd] at h;rcases Kj hb (fun m hm h60=>by
   split at hm
   ·cases hc:chl (fnd d cs g r) d t (brF d g.v t (opC g t cl) []) (base+1) with
    |none=>rw[hc] at hm;simp[mk2] at hm
    |some y =>
     rw[hc] at hm;simp only[mk2,C9.injEq] at hm;subst hm;have:=(Ha (nv d cs g r) _ _ y (by omega) hc).1
     simp only[C2];omega
   ·simp at hm) h with h |h
  ·exact h.1
  ·exact h.2
structure xz(n:PnM):Prop where
 k:0<=n.k/\n.k<=3
 nl:n.nx.length<=64
 ni:∀ j∈n.nx,0<=j/\j<=60
 c:0<=n.c/\n.c<=3
 sl:n.s.length<=60
 sb:∀ b∈n.s,b.1.size<=maxLen/\Wt b.2/\b.2.nodes<=60
theorem Kk{l:List Bnd}{ns:List ByteArray}{b:Bnd}(h:b∈rsB l ns):b.1∈ns/\(b.1,b.2)∈l:=by
 unfold rsB at h;obtain⟨s,hs,e⟩:=S0.1 h;cases hb:bnd l s with
 |none=>rw[hb] at e;simp at e
 |some v =>
  rw[hb] at e;simp only[K2,C9.injEq] at e;subst e;exact⟨hs,wg hb⟩
theorem Kl{l:List ByteArray}{s:ByteArray}(h:s∈bx l):s∈l  :=(qe l s).1 h
theorem Hb{g:ClM}{t:Tm}(ht:Wt t)(hn:t.nodes<=60){op:List Int}:∀ (cs:List ClM) (i:Nat),(∀ c∈cs,Wt c.l/\c.l.nodes<=60)->i+cs.length<=3->∀ x,js g t op cs i=some x->xz x
 | [],i,_,_,x,h=>by simp[js] at h
 |c::r,i,hc,hi,x,h=>by
  simp only[C2] at hi;have ih:=Hb (g:=g) (op:=op) ht hn r (i+1) (fun c' h'=>hc c' (C8 _ h')) (by omega) x
  simp only[js] at h;obtain⟨w1,w2⟩:=hc c (C7 ..);cases hm:mT c.l t [] with
  |none=>rw[hm] at h;exact ih h
  |some l =>
   rw[hm] at h;simp only at h;split at h
   ·simp only[C9.injEq] at h
    subst h;have hall:=kz (fun t=>Wt t/\t.nodes<=60) (fun t a h ha=>⟨h.1.sub ha,na t a h.2 ha⟩) c.l t [] l ⟨ht,hn⟩ (by simp) hm
    have hsl:=dl c.l.names;have hsl2:=dl (bx c.l.names);have hnn:=br c.l;refine⟨by show(0:Int)<=3/\(3:Int)<=3;decide,G9 _,by intro j hj;simp at hj,by show(0:Int)<=(i:Int)/\(i:Int)<=3;omega,?_,fun b hb=>?_⟩
    ·show(rsB l (bx (bx c.l.names))).length<=60
     refine J0 (S8 ..) (by omega)
    ·obtain⟨b1,b2⟩:=Kk hb
     obtain⟨q1,q2⟩:=hall _ b2;exact⟨Ma c.l w1 _ (Kl (Kl b1)),q1,q2⟩
   ·exact ih h
theorem Tz{f:Nat->Tm->List Int->Option (List PnM)}{d:DfM}{t:Tm}:∀ (L:List (Bk×List Int)) (base:Nat) (y:List Int×List PnM),(∀ b∈L,∀ base n,base<=60->f base (bT d t b.1) b.2=some n->base+n.length<=60/\∀ x∈n,xz x)->base<=60->chl f d t L base=some y->(∀ j∈y.1,0<=j/\j<=60)/\∀ x∈y.2,xz x
 | [],base,y,_,hb,h=>by simp only[chl,C9.injEq] at h;subst h;exact⟨by simp,by simp⟩
 |b::r,base,y,hf,hb,h=>by
  simp only[chl] at h;cases h1:f base (bT d t b.1) b.2 with
  |none=>rw[h1] at h;simp at h
  |some n1 =>
   rw[h1] at h;simp only at h;obtain⟨h2,h2'⟩:=hf b (C7 ..) _ _ hb h1;cases h3:chl f d t r (base+n1.length) with
   |none=>rw[h3] at h;simp at h
   |some z =>
    rw[h3] at h;simp only[C9.injEq] at h;subst h;obtain⟨h4,h5⟩:=Tz r _ z (fun b hb=>hf b (C8 _ hb)) h2 h3
    refine⟨fun j hj=>?_,fun x hx=>?_⟩
    ·rcases E1.1 hj with e |hj
     ·subst e;omega
     ·exact h4 j hj
    ·rcases D7.1 hx with hx |hx
     ·exact h2' x hx
     ·exact h5 x hx
theorem ad3{d:DfM}(hd:DfB d){cs:List ClM}(hcs:∀ c∈cs,Wt c.l/\c.l.nodes<=60)(hcl:cs.length<=3){g:ClM}:∀ r base t cl n,StG d g.v t cl->base<=60->fnd d cs g r base t cl=some n->∀ x∈n,xz x:=by
 have one:∀ {base:Nat} {op:List Int} {cir:Option PnM} {k:Option (List PnM)} {n:List PnM},(∀ x,cir=some x->xz x)->(∀ n,base≠60->k=some n->∀ x∈n,xz x)->ry base op cir k=some n->∀ x∈n,xz x:=by
  intro base op cir k n hc hk h;unfold ry at h;split at h
  ·simp at h
  ·rename_i h60
   split at h
   ·simp only[C9.injEq] at h
    subst h;intro x hx;simp only[F1] at hx;subst hx;exact⟨by show(0:Int)<=1/\(1:Int)<=3;decide,G9 _,by simp,by show(0:Int)<=0/\(0:Int)<=3;decide,G9 _,by simp⟩
   ·cases cir with
    |some y =>
     simp only[C9.injEq] at h;subst h;intro x hx;simp only[F1] at hx;subst hx;exact hc _ rfl
    |none=>exact hk n h60 h
 intro r;induction r with
 |zero =>
  intro base t cl n hs hb h;simp only[fnd] at h;exact one (fun x hx=>Hb hs.w hs.n cs 0 hcs (by omega) x hx) (by simp) h
 |succ r ih =>
  intro base t cl n hs hb h;simp only[fnd] at h;have hso:StG d g.v t (opC g t cl):=hs.op (N8);refine one (fun x hx=>?_) (fun m h60 hm=>?_) h
  ·split at hx
   ·exact Hb hs.w hs.n cs 0 hcs (by omega) x hx
   ·simp at hx
  ·split at hm
   ·rename_i hall
    cases hc:chl (fnd d cs g r) d t (brF d g.v t (opC g t cl) []) (base+1) with
    |none=>rw[hc] at hm;simp[mk2] at hm
    |some y =>
     rw[hc] at hm;simp only[mk2,C9.injEq] at hm;subst hm;have hLl:(brF d g.v t (opC g t cl) []).length<=64:=by
      have:=(rh hd hso.w hso.s (P:=fun _=>True) (opC g t cl) 0 [] (fun c hc=>⟨ce _ none hso.c c hc,trivial⟩) ⟨E8 _,by simp⟩ (by simp) (by simp)).1.l
      have:=hso.l;omega
     have hyl:=(Ha (nv d cs g r) _ _ y (by omega) hc).2
     obtain⟨k1,k2⟩:=Tz _ _ y (fun b hb' base' n' hb2 hn'=>⟨nv d cs g r base' _ _ n' hb2 hn',ih base' _ _ n' (hso.next hd hb' (by simpa using E3.1 hall b hb')) hb2 hn'⟩) (by omega) hc
     intro x hx;rcases E1.1 hx with e |hx
     ·subst e
      exact⟨by show(0:Int)<=2/\(2:Int)<=3;decide,by show y.1.length<=64;omega,k1,by show(0:Int)<=0/\(0:Int)<=3;decide,G9 _,by simp⟩
     ·exact k2 x hx
   ·simp at hm
end Go.Q
namespace Go.Q
open Go
def se:Option PnM->List D
 |some x=>[.int x.k,.int x.c,.bool true,.sl (x.nx.map am),.sl (x.s.map Bnd.row)]
 |none=>[.int 0,.int 0,.bool false,.sl [],.sl []]
theorem aa5{P B:List PnM}{x:PnM}:(P++x::B)[P.length]'(by simp)=x:=by simp
theorem wj{P B:List PnM}(a nx:List Int):over P.length [over 1 [.sl (nx.map am)] (rowAt ((P++(⟨2,a,0,[]⟩:PnM)::B).map PnM.row) P.length)] ((P++(⟨2,a,0,[]⟩:PnM)::B).map PnM.row)=(P++(⟨2,nx,0,[]⟩:PnM)::B).map PnM.row:=by
 have hl:P.length<(P++(⟨2,a,0,[]⟩:PnM)::B).length:=by simp
 rw[ab hl,il _ _ _ (by rw[B6];exact hl),aa5]
 simp only[D6,C4];rw[List.set_append_right _ _ (by rw[B6];exact E8 _),B6,Nat.sub_self]
 rfl
theorem Yp{P B:List PnM}(a:List Int)(cs:aa)(nx:List Int)(h:cs=nx.map am):over P.length [over 1 [.sl cs] (rowAt (over P.length [over 1 [.sl []] (rowAt ((P++(⟨2,a,0,[]⟩:PnM)::B).map PnM.row) P.length)] ((P++(⟨2,a,0,[]⟩:PnM)::B).map PnM.row)) P.length)] (over P.length [over 1 [.sl []] (rowAt ((P++(⟨2,a,0,[]⟩:PnM)::B).map PnM.row) P.length)] ((P++(⟨2,a,0,[]⟩:PnM)::B).map PnM.row))=(P++(⟨2,nx,0,[]⟩:PnM)::B).map PnM.row:=by
 subst h;have e:(D.sl []:D)=.sl (([]:List Int).map am):=rfl;rw[e,wj a [],wj [] nx]
theorem Yq{P B:List PnM}(a:List Int):(over P.length [over 1 [.sl []] (rowAt ((P++(⟨2,a,0,[]⟩:PnM)::B).map PnM.row) P.length)] ((P++(⟨2,a,0,[]⟩:PnM)::B).map PnM.row)).length=P.length+(B.length+1):=by
 have e:(D.sl []:D)=.sl (([]:List Int).map am):=rfl;rw[e,wj a []];simp
theorem ag9{P B:List PnM}(a:List Int):(nth (rowAt ((P++(⟨2,a,0,[]⟩:PnM)::B).map PnM.row) P.length) 1).L=a.map am:=by
 have hl:P.length<(P++(⟨2,a,0,[]⟩:PnM)::B).length:=by simp
 rw[ab hl,aa5];rfl
theorem Ac{base:Nat}{op:List Int}{cir:Option PnM}{k:Option (List PnM)}(h:base=60):ry base op cir k=none:=by unfold ry;rw[H5 h]
theorem Hc{base:Nat}{op:List Int}{cir:Option PnM}{k:Option (List PnM)}(h:base≠60)(h0:op.length=0):ry base op cir k=some [⟨1,[],0,[]⟩]:=by unfold ry;rw[H6 h,H5 h0]
theorem Hd{base:Nat}{op:List Int}{x:PnM}{k:Option (List PnM)}(h:base≠60)(h0:op.length≠0):ry base op (some x) k=some [x]:=by unfold ry;rw[H6 h,H6 h0]
theorem ya{base:Nat}{op:List Int}{k:Option (List PnM)}(h:base≠60)(h0:op.length≠0):ry base op none k=k:=by unfold ry;rw[H6 h,H6 h0]
end Go.Q
namespace Go.Q
open Go
theorem rj{d:DfM}{cs:List ClM}:∀ (n i:Nat) (ps:List (List PnM)),prL d cs n i=some ps->ps.length=n
 |0,i,ps,h=>by simp only[prL,C9.injEq] at h;subst h;rfl
 |n+1,i,ps,h=>by
  simp only[prL] at h;cases h1:fpR d cs (i:Int) with
  |none=>rw[h1] at h;simp at h
  |some p =>
   rw[h1] at h;simp only at h;cases h2:prL d cs n (i+1) with
   |none=>rw[h2] at h;simp at h
   |some r =>
    rw[h2] at h;simp only[C9.injEq] at h;subst h;simp only[C2,rj n (i+1) r h2]
noncomputable def pj:List ClM->Nat->Option (Nat×Nat)
 | [],_=>none
 |c::r,i=>match tq c with
  |some k=>some (i,k)
  |none=>pj r (i+1)
structure VeM where
 k:Int
 c:Int
 n:Int
 p:List (List PnM)
noncomputable def veR(d:DfM)(cs:List ClM):VeM:=if (jr cs 0).isSome=true then (match prL d cs cs.length 0 with
 |some ps=>⟨1,0,0,ps⟩
 |none=>match pj cs 0 with
  |some x=>⟨2,(x.1:Int),(x.2:Int),[]⟩
  |none=>⟨3,0,0,[]⟩) else ⟨0,0,0,[]⟩
theorem Ct{cs:List ClM}(h:da cs=true):∀ c∈cs,c.l.nodes<=60:=fun c hc=>by
 have:=E3.1 h c hc;simp only[ClM.valid,jq,B9] at this;exact az this.1.2.2.2.2.1
theorem Mn(cs:List ClM):(jr cs 0).isSome=(da cs&&(decide (1<=cs.length)&&decide (cs.length<=3))):=by
 unfold jr;by_cases h3:cs.length<=3
 ·cases hb:da cs with
  |false=>rw[H6 (by simp)];rfl
  |true =>
   rw[H5 ⟨h3,rfl⟩,H7 h3,Bool.and_true,D9];unfold lf;rw[H5 (by decide)]
   cases cs with
   |nil=>rfl
   |cons c r=>simp
 ·rw[H6 fun h=>h3 h.1,H8 h3,P2,P2];rfl
end Go.Q
end
section
/- The rows of the proofs that are found. -/
namespace Go.Q
open Go
theorem Ua{d:DfM}(hd:DfB d){cs:List ClM}(hcs:∀ c∈cs,ClB c)(hcd:∀ c∈cs,c.d=d){k:Int}{ns:List PnM}(h:fpR d cs k=some ns):ns.length<=60/\∀ x∈ns,xz x:=by
 unfold fpR at h;cases hq:jr cs k with
 |none=>rw[hq] at h;simp at h
 |some g =>
  rw[hq] at h;simp only at h;obtain⟨h3,hv,ha⟩:=gm hq;have hm:g∈cs:=by
   unfold lf at ha;split at ha
   ·exact N0 ha
   ·simp at ha
  have hgv:g.valid=true:=E3.1 hv _ hm;have hst:=StG.start (hcs _ hm) hgv;rw[hcd _ hm] at hst;have h1:=nv _ _ _ _ _ _ _ _ (G9 _) h;exact⟨by omega,ad3 hd (fun c hc=>⟨(hcs c hc).wl,Ct hv c hc⟩) h3 _ _ _ _ _ hst (G9 _) h⟩
theorem Ub{d:DfM}(hd:DfB d){cs:List ClM}(hcs:∀ c∈cs,ClB c)(hcd:∀ c∈cs,c.d=d):∀ (n i:Nat) (ps:List (List PnM)),prL d cs n i=some ps->∀ p∈ps,p.length<=60/\∀ x∈p,xz x
 |0,i,ps,h=>by simp only[prL,C9.injEq] at h;subst h;simp
 |n+1,i,ps,h=>by
  simp only[prL] at h;cases h1:fpR d cs (i:Int) with
  |none=>rw[h1] at h;simp at h
  |some p =>
   rw[h1] at h;simp only at h;cases h2:prL d cs n (i+1) with
   |none=>rw[h2] at h;simp at h
   |some r =>
    rw[h2] at h;simp only[C9.injEq] at h;subst h;intro q hq;rcases E1.1 hq with e |hq
    ·subst e;exact Ua hd hcs hcd h1
    ·exact Ub hd hcs hcd n (i+1) r h2 q hq
open S in
theorem Oo:∀ (cs:List ClM) (i:Nat) (x:Nat×Nat),pj cs i=some x->x.1<=i+cs.length/\i64ok (x.2:Int)
 | [],i,x,h=>by simp[pj] at h
 |c::r,i,x,h=>by
  simp only[pj] at h;cases hf:tq c with
  |none =>
   rw[hf] at h;have:=Oo r (i+1) x h;simp only[C2];exact⟨by omega,this.2⟩
  |some k =>
   rw[hf] at h;simp only[C9.injEq] at h;subst h;refine⟨Nat.le_add_right _ _,?_⟩;unfold tq at hf;split at hf
   ·exact Ns _ _ _ (S5 hf)
   ·simp at hf
structure aj2(v:VeM):Prop where
 k:0<=v.k/\v.k<=3
 c:S.i64ok v.c
 n:S.i64ok v.n
 l:v.p.length<=1048576
 p:∀ p∈v.p,p.length<=60/\∀ x∈p,xz x
theorem Uc{d:DfM}(hd:DfB d){cs:List ClM}(hcs:∀ c∈cs,ClB c)(hcd:∀ c∈cs,c.d=d)(hl:cs.length<=1048576):aj2 (veR d cs):=by
 have z:S.i64ok 0:=S.i64ok_of (by omega) (by omega)
 unfold veR;split
 ·cases hp:prL d cs cs.length 0 with
  |some ps =>
   have:=rj _ _ _ hp;exact⟨by show(0:Int)<=1/\(1:Int)<=3;decide,z,z,by show ps.length<=_;omega,Ub hd hcs hcd _ _ _ hp⟩
  |none =>
   cases hr:pj cs 0 with
   |some x =>
    have:=Oo _ _ _ hr;have hc:S.i64ok (x.1:Int):=S.i64ok_of (by omega) (by omega)
    exact⟨by show(0:Int)<=2/\(2:Int)<=3;decide,hc,this.2,G9 _,by simp⟩
   |none=>exact⟨by show(0:Int)<=3/\(3:Int)<=3;decide,z,z,G9 _,by simp⟩
 ·exact⟨by show(0:Int)<=0/\(0:Int)<=3;decide,z,z,G9 _,by simp⟩
theorem Ud(o:Option (List PnM)):fpD o=[.bool o.isSome,.sl ((o.getD []).map PnM.row)]:=by cases o<;>rfl
theorem Oq{d:DfM}(hd:DfB d){cs:List ClM}(hcs:∀ c∈cs,ClB c)(hcd:∀ c∈cs,c.d=d){k:Int}:((fpR d cs k).getD []).length<=60/\∀ x∈(fpR d cs k).getD [],xz x:=by
 cases h:fpR d cs k with
 |none=>exact⟨G9 _,by simp⟩
 |some ns=>exact Ua hd hcs hcd h
end Go.Q
end
section
/- Paths and tests of symbolic terms. -/
namespace Go.Q
open Go
abbrev Stp:=Nat×List Int
structure PtM where
 k:Int
 st:List Stp
 t:Tm
 c:List Int
def PtM.row(v:List ByteArray)(p:PtM):List D:=[.int p.k,.sl (p.st.map qj),.sl (v.map ag),.int p.t.k,.int p.t.n,.str p.t.s,.sl (p.t.as.map Tm.row),.sl (p.c.map am)]
end Go.Q
end
section
/- One step of a symbolic term. -/
namespace Go.Q
open Go
end Go.Q
end
section
/- A match makes the pattern equal to the term;drawn terms. -/
namespace Go.Q
open Go
theorem Ot:∀ t u:Tm,t.row=u.row->t=u:=Tm.ind fun t ih u h=>by
 rw[Tm.row_eq,Tm.row_eq u] at h;simp only[R5.injEq,D.int.injEq,D.str.injEq,D.sl.injEq,and_true] at h;obtain⟨h1,h2,h3,h4⟩:=h;have key:∀ (xs ys:List Tm),(∀ a∈xs,a∈t.as)->xs.map Tm.row=ys.map Tm.row->xs=ys:=by
  intro xs;induction xs with
  |nil=>intro ys _ h;cases ys with
   |nil=>rfl
   |cons y ys=>simp at h
  |cons x xs ihx =>
   intro ys hm h;cases ys with
   |nil=>simp at h
   |cons y ys =>
    simp only[C4,R5.injEq] at h;rw[ih x (hm x (C7 ..)) y h.1,ihx ys (fun a ha=>hm a (C8 _ ha)) h.2]
 have e:=key t.as u.as (fun _ h=>h) h4
 cases t;cases u
 simp only[Tm.k,Tm.n,Tm.s,Tm.as] at h1 h2 h3 e;rw[h1,h2,h3,e]
theorem Ue{t u:Tm}:eqb t.row u.row=true↔t=u:=by
 rw[gf];exact⟨Ot t u,fun h=>by rw[h]⟩
def Ext(l l':List Bnd):Prop:=∀ s v,bnd l s=some v->bnd l' s=some v
theorem Ext.refl(l:List Bnd):Ext l l:=fun _ _ h=>h
theorem Ext.trans{a b c:List Bnd}(h:Ext a b)(k:Ext b c):Ext a c:=fun s v e=>k s v (h s v e)
theorem Yr(l m:List Bnd):Ext l (l++m):=fun s v h=>by rw[vx,h]
theorem Uf:∀ t u l l',mT t u l=some l'->Ext l l':=Tm.ind fun t ih u l l' h=>by
 rcases fu h with ⟨_,_,e⟩|⟨_,_,e⟩|⟨_,_,_,_,_,h⟩
 ·subst e;exact Ext.refl _
 ·subst e;exact Yr _ _
 ·exact zz (P:=fun _ _ l l'=>Ext l l') (Q:=fun _ _ l l'=>Ext l l') (fun _ l=>Ext.refl l) (fun _ _ _ _ _ _ _ h k=>h.trans k) _ _ _ _ (fun t ht u _ l l' h=>ih t ht u l l' h) h
theorem Ug{t u:Tm}{l l':List Bnd}(hk:t.k=1)(h:mT t u l=some l'):bnd l' t.s=some u:=by
 rw[Jo,H5 hk] at h;cases hb:bnd l t.s with
 |some v =>
  rw[hb] at h;simp only at h;split at h
  ·rename_i he
   simp only[C9.injEq] at h;rw[<-h,hb,Ue.1 he]
  ·simp at h
 |none =>
  rw[hb] at h;simp only[C9.injEq] at h;rw[<-h,vx,hb];simp[bnd]
theorem Tm.eta{t u:Tm}(h1:t.k=u.k)(h2:t.n=u.n)(h3:t.s=u.s)(h4:t.as=u.as):t=u:=by
 cases t;cases u;simp only[Tm.k,Tm.n,Tm.s,Tm.as] at h1 h2 h3 h4;rw[h1,h2,h3,h4]
theorem ad4:∀ t u l l',mT t u l=some l'->∀ L,Ext l' L->aS L t=u:=Tm.ind fun t ih u l l' h L hL=>by
 by_cases hk:t.k=1
 ·rw[ey,H5 hk,hL _ _ (Ug hk h)]
 ·rcases fu h with ⟨q,_⟩|⟨q,_⟩|⟨_,e1,e2,e3,e4,h⟩
  ·exact absurd q hk
  ·exact absurd q hk
  ·have key:∀ (ts us:List Tm) (l l':List Bnd),(∀ a∈ts,a∈t.as)->ts.length=us.length->mTs ts us l=some l'->∀ L,Ext l' L->ts.map (aS L)=us:=by
    intro ts;induction ts with
    |nil=>intro us l l' _ hl _ L _;cases us with
     |nil=>rfl
     |cons _ _=>simp at hl
    |cons a ts ihs =>
     intro us l l' hts hl h L hL;cases us with
     |nil=>simp at hl
     |cons b us =>
      simp only[mTs] at h;split at h
      ·rename_i l1 h1
       have x1:Ext l1 l':=by
        refine zz (P:=fun _ _ l l'=>Ext l l') (Q:=fun _ _ l l'=>Ext l l') (fun _ l=>Ext.refl l) (fun _ _ _ _ _ _ _ h k=>h.trans k) _ _ _ _ (fun t ht u _ l l' h=>Uf t u l l' h) h
       rw[C4,ih a (hts a (C7 ..)) b l l1 h1 L (x1.trans hL),ihs us l1 l' (fun x hx=>hts x (C8 _ hx)) (by simpa using hl) h L hL]
      ·simp at h
   have e5:=key _ _ _ _ (fun _ h=>h) e4 h L hL
   rw[ey,H6 hk];exact Tm.eta e1 e2 e3 e5
inductive Dt(m:Nat):Tm->Prop
 |var {s:ByteArray}:s.size<=m->Dt m (.mk 1 0 s [])
 |word {n:Int}:0<=n->n<=255->Dt m (.mk 3 n ⟨#[]⟩ [])
 |app {s:ByteArray} {as:List Tm}:s.size<=m->as.length<=2->(∀ a∈as,Dt m a)->Dt m (.mk 2 0 s as)
theorem Dt.sub{m:Nat}{t a:Tm}(h:Dt m t)(ha:a∈t.as):Dt m a:=by
 cases h with
 |var _=>simp[Tm.as] at ha
 |word=>simp[Tm.as] at ha
 |app _ _ h=>exact h a ha
theorem Dt.mono{m n:Nat}{t:Tm}(h:Dt m t)(hn:m<=n):Dt n t:=by
 induction h with
 |var h=>exact .var (J0 h hn)
 |word h1 h2=>exact .word h1 h2
 |app h1 h2 _ ih=>exact .app (J0 h1 hn) h2 ih
theorem Dt.aS{m:Nat}{l:List Bnd}(hl:∀ b∈l,Dt m b.2):∀ t,Dt m t->Dt m (aS l t):=Tm.ind fun t ih h=>by
 rw[ey];split
 ·rename_i u hu
  split at hu
  ·obtain⟨b,h1,rfl⟩:=eh hu;exact hl b h1
  ·simp at hu
 ·cases h with
  |var h=>exact .var h
  |word h1 h2=>exact .word h1 h2
  | @app s as h1 h2 h3 =>
   refine .app h1 (by simpa[Tm.as] using h2) fun a ha=>?_
   simp only[Tm.as,F8] at ha;obtain⟨b,hb,rfl⟩:=ha;exact ih b hb (h3 b hb)
/- Variables get an ending. -/
end Go.Q
end
section
/- Compositions of substitutions;unification. -/
namespace Go.Q
open Go
theorem gz{l:List Bnd}{t v:Tm}(hk:t.k=1)(h:bnd l t.s=some v):aS l t=v:=by
 rw[ey,H5 hk,h]
theorem em{l:List Bnd}{t:Tm}(h:t.k=1->bnd l t.s=none):aS l t=.mk t.k t.n t.s (t.as.map (aS l)):=by
 rw[ey];by_cases hk:t.k=1
 ·rw[H5 hk,h hk]
 ·rw[H6 hk]
def cmS(a b:List Bnd):List Bnd:=a.map (fun x=>(x.1,aS b x.2))++b.filter fun x=>(bnd a x.1).isNone
theorem Ou(f:Tm->Tm)(s:ByteArray):∀ a:List Bnd,bnd (a.map fun x=>(x.1,f x.2)) s=(bnd a s).map f
 | []=>rfl
 |b::a=>by
  simp only[C4,bnd];by_cases h:b.1=s
  ·rw[H5 h,H5 h];rfl
  ·rw[H6 h,H6 h,Ou f s a]
theorem Cu(a:List Bnd)(s:ByteArray)(h:bnd a s=none):∀ b:List Bnd,bnd (b.filter fun x=>(bnd a x.1).isNone) s=bnd b s
 | []=>rfl
 |x::b=>by
  have ih:=Cu a s h b;rw[O7];by_cases e:x.1=s
  ·rw[H5 (by rw[e,h];rfl)]
   simp only[bnd,H5 e]
  ·split
   ·simp only[bnd,H6 e,ih]
   ·simp only[bnd,H6 e,ih]
theorem rk(a b:List Bnd)(s:ByteArray):bnd (cmS a b) s=match bnd a s with
 |some u=>some (aS b u)
 |none=>bnd b s:=by
 unfold cmS;rw[vx,Ou];cases h:bnd a s with
 |some u=>rfl
 |none=>simp only[U1];exact Cu a s h b
theorem He(a b:List Bnd):∀ t,aS (cmS a b) t=aS b (aS a t):=Tm.ind fun t ih=>by
 have hm:t.as.map (aS (cmS a b))=(t.as.map (aS a)).map (aS b):=by
  rw[K3];exact N1 fun x hx=>ih x hx
 have hc:=rk a b t.s;by_cases hk:t.k=1
 ·cases ha:bnd a t.s with
  |some u =>
   rw[ha] at hc;rw[gz hk hc,gz hk ha]
  |none =>
   rw[ha] at hc;rw[em (l:=a) fun _=>ha]
   cases hb:bnd b t.s with
   |some u =>
    rw[gz hk (hc.trans hb),gz (t:=.mk t.k t.n t.s (t.as.map (aS a))) hk hb]
   |none =>
    rw[em fun _=>hc.trans hb,em (t:=.mk t.k t.n t.s (t.as.map (aS a))) fun _=>hb,hm];rfl
 ·rw[em fun h=>absurd h hk,em (l:=a) fun h=>absurd h hk,em (t:=.mk t.k t.n t.s (t.as.map (aS a))) fun h=>absurd h hk,hm];rfl
theorem Tm.mk_eta(t:Tm):Tm.mk t.k t.n t.s t.as=t:=by cases t;rfl
theorem di(t:Tm)(w:ByteArray):w∈t.names↔(t.k=1/\w=t.s)\/∃ a∈t.as,w∈a.names:=by
 rw[Tm.names_eq,D7,K4];by_cases hk:t.k=1
 ·rw[H5 hk];simp[hk]
 ·rw[H6 hk];simp[hk]
theorem Uh(k n:Int)(s:ByteArray)(as:List Tm)(w:ByteArray):w∈(Tm.mk k n s as).names↔(k=1/\w=s)\/∃ a∈as,w∈a.names:=di _ w
theorem Mo(l:List Bnd)(w:ByteArray):∀ t,w∈(aS l t).names->(w∈t.names/\bnd l w=none)\/∃ s v,s∈t.names/\bnd l s=some v/\w∈v.names:=Tm.ind fun t ih h=>by
 by_cases hb:∃ v,t.k=1/\bnd l t.s=some v
 ·obtain⟨v,hk,hb⟩:=hb
  rw[gz hk hb] at h;exact .inr ⟨t.s,v,(di t _).2 (.inl ⟨hk,rfl⟩),hb,h⟩
 ·have hf:t.k=1->bnd l t.s=none:=fun hk=>by
   cases hq:bnd l t.s with
   |none=>rfl
   |some v=>exact absurd ⟨v,hk,hq⟩ hb
  rw[em hf,Uh] at h;rcases h with ⟨hk,rfl⟩|⟨a,ha,hw⟩
  ·exact .inl ⟨(di t _).2 (.inl ⟨hk,rfl⟩),hf hk⟩
  ·obtain⟨c,hc,rfl⟩:=F8.1 ha
   rcases ih c hc hw with ⟨h1,h2⟩|⟨s,v,h1,h2,h3⟩
   ·exact .inl ⟨(di t _).2 (.inr ⟨c,hc,h1⟩),h2⟩
   ·exact .inr ⟨s,v,(di t _).2 (.inr ⟨c,hc,h1⟩),h2,h3⟩
def Fx(l:List Bnd)(t:Tm):Prop:=∀ w∈t.names,bnd l w=none
theorem Fx.sub{l:List Bnd}{t a:Tm}(h:Fx l t)(ha:a∈t.as):Fx l a:=fun w hw=>h w ((di t w).2 (.inr ⟨a,ha,hw⟩))
theorem Mp{l:List Bnd}:∀ t,Fx l t->aS l t=t:=Tm.ind fun t ih h=>by
 rw[em fun hk=>h _ ((di t _).2 (.inl ⟨hk,rfl⟩))]
 have:t.as.map (aS l)=t.as:=by
  conv=>rhs;rw[<-List.map_id t.as]
  exact N1 fun a ha=>ih a ha (h.sub ha)
 rw[this,Tm.mk_eta]
def Idm(l:List Bnd):Prop:=∀ s v,bnd l s=some v->Fx l v
theorem aa6{l:List Bnd}(h:Idm l)(t:Tm):Fx l (aS l t):=fun w hw=>by
 rcases Mo l w t hw with ⟨_,h1⟩|⟨s,v,_,h2,h3⟩
 ·exact h1
 ·exact h s v h2 w h3
theorem rm(s w:ByteArray)(y:Tm):bnd [(s,y)] w=if s=w then some y else none:=by simp[bnd]
theorem Ez{s w:ByteArray}{y t:Tm}(hs:s∉y.names)(hw:w∈(aS [(s,y)] t).names):w≠s/\(w∈t.names\/w∈y.names):=by
 rcases Mo _ w t hw with ⟨h1,h2⟩|⟨s',v,h1,h2,h3⟩
 ·rw[rm] at h2
  refine⟨fun e=>?_,.inl h1⟩
  rw[H5 e.symm] at h2;exact absurd h2 (by simp)
 ·rw[rm] at h2
  split at h2
  ·rename_i e
   simp only[C9.injEq] at h2;subst h2;exact⟨fun e=>hs (e▸h3),.inr h3⟩
  ·simp at h2
theorem ad5{l:List Bnd}(h:Idm l){s:ByteArray}{y:Tm}(hy:Fx l y)(hs:s∉y.names):Idm (cmS l [(s,y)]):=by
 have key:∀ w,bnd l w=none->w≠s->bnd (cmS l [(s,y)]) w=none:=fun w h1 h2=>by
  rw[rk,h1];simp only;rw[rm,H6 (Ne.symm h2)]
 intro s' v hv w hw;rw[rk] at hv;cases hq:bnd l s' with
 |some u =>
  rw[hq] at hv;simp only[C9.injEq] at hv;subst hv;obtain⟨h1,h2⟩:=Ez hs hw;exact key w (by rcases h2 with h2 |h2;exact h s' u hq w h2;exact hy w h2) h1
 |none =>
  rw[hq] at hv;simp only at hv;rw[rm] at hv;split at hv
  ·simp only[C9.injEq] at hv
   subst hv;exact key w (hy w hw) (fun e=>hs (e▸hw))
  ·simp at hv
inductive Cov:List Tm->Tm->Prop
 |one {t:Tm}:Cov [t] t
 |drop {x:Tm} {xs:List Tm} {t:Tm}:Cov (x::xs) t->Cov xs t
 |args {x:Tm} {xs:List Tm} {t:Tm}:Cov (x::xs) t->x.k≠1->Cov (x.as++xs) t
theorem Cov.nodes{xs:List Tm}{t:Tm}(h:Cov xs t):(xs.map Tm.nodes).sum<=t.nodes:=by
 induction h with
 |one=>simp
 |drop _ ih=>simp only[C4,K1] at ih;omega
 | @args x xs t _ _ ih =>
  simp only[C4,K1] at ih;rw[D6,List.sum_append];have:=Tm.nodes_eq x;omega
theorem Cov.names{xs:List Tm}{t:Tm}(h:Cov xs t):∀ x∈xs,∀ w∈x.names,w∈t.names:=by
 induction h with
 |one=>intro x hx w hw;rw[F1.1 hx] at hw;exact hw
 |drop _ ih=>exact fun x hx=>ih x (C8 _ hx)
 | @args x xs t _ _ ih =>
  intro z hz w hw;rcases D7.1 hz with hz |hz
  ·exact ih x (C7 ..) w ((di x w).2 (.inr ⟨z,hz,hw⟩))
  ·exact ih z (C8 _ hz) w hw
theorem Cov.sub{xs:List Tm}{t:Tm}(r:List Bnd)(h:Cov xs t):Cov (xs.map (aS r)) (aS r t):=by
 induction h with
 |one=>exact .one
 |drop _ ih=>exact .drop ih
 | @args x xs t _ hk ih =>
  have e:aS r x=.mk x.k x.n x.s (x.as.map (aS r)):=em fun h=>absurd h hk
  rw[C4,e] at ih;rw[D6];exact ih.args hk
open Classical in
noncomputable def trt(x y:Tm)(l:List Bnd):Option (List Bnd×List (Tm×Tm)) :=
 if eqb x.row y.row=true then some (l,[]) else
 if x.k=1 then (if x.s∈y.names then none else some (cmS l [(x.s,y)],[])) else
 if y.k=1 then (if y.s∈x.names then none else some (cmS l [(y.s,x)],[])) else
 if x.k=2/\y.k=2/\x.s=y.s/\x.as.length=y.as.length then some (l,x.as.zip y.as) else none
def lrg(l:List Bnd):Bool:=l.any fun b=>decide (400<b.2.nodes)
theorem Qm{x y:Tm}{l l1:List Bnd}{m:List (Tm×Tm)}(h:trt x y l=some (l1,m)) :
 (x=y/\l1=l/\m=[])\/(∃ v u,(x.k=1/\v=x.s/\u=y\/y.k=1/\v=y.s/\u=x)/\v∉u.names/\l1=cmS l [(v,u)]/\m=[]) ∨
 (x.k=2/\y.k=2/\x.s=y.s/\x.as.length=y.as.length/\l1=l/\m=x.as.zip y.as):=by
 unfold trt at h;split at h
 ·rename_i e
  simp only[C9.injEq,J1.injEq] at h;exact .inl ⟨Ue.1 e,h.1.symm,h.2.symm⟩
 split at h
 ·rename_i hk
  split at h
  ·simp at h
  ·rename_i hn
   simp only[C9.injEq,J1.injEq] at h;exact .inr (.inl ⟨x.s,y,.inl ⟨hk,rfl,rfl⟩,hn,h.1.symm,h.2.symm⟩)
 split at h
 ·rename_i hk
  split at h
  ·simp at h
  ·rename_i hn
   simp only[C9.injEq,J1.injEq] at h;exact .inr (.inl ⟨y.s,x,.inr ⟨hk,rfl,rfl⟩,hn,h.1.symm,h.2.symm⟩)
 split at h
 ·rename_i hc
  simp only[C9.injEq,J1.injEq] at h;exact .inr (.inr ⟨hc.1,hc.2.1,hc.2.2.1,hc.2.2.2,h.1.symm,h.2.symm⟩)
 ·simp at h
def ub(V:List ByteArray)(l:List Bnd):Nat:=(V.filter fun w=>(bnd l w).isNone).length
theorem ah0{V:List ByteArray}{l:List Bnd}{s:ByteArray}{y:Tm}(hs:s∈V)(hb:bnd l s=none):ub V (cmS l [(s,y)])<ub V l:=by
 unfold ub;have hle:∀ w,(bnd (cmS l [(s,y)]) w).isNone=true->(bnd l w).isNone=true:=fun w h=>by
  rw[rk] at h;cases hq:bnd l w with
  |none=>rfl
  |some u=>rw[hq] at h;simp at h
 have hS:bnd (cmS l [(s,y)]) s=some y:=by
  rw[rk,hb];simp only;rw[rm,H5 rfl]
 have hgen:∀ V:List ByteArray,(V.filter fun w=>(bnd (cmS l [(s,y)]) w).isNone).length<=(V.filter fun w=>(bnd l w).isNone).length:=by
  intro V;induction V with
  |nil=>simp
  |cons w V ih =>
   rw[O7,O7];by_cases h:(bnd (cmS l [(s,y)]) w).isNone=true
   ·rw[H5 h,H5 (hle w h)];simp;exact ih
   ·rw[H6 h];split
    ·simp;omega
    ·exact ih
 induction V with
 |nil=>simp at hs
 |cons w V ih =>
  rw[O7,O7];rcases E1.1 hs with e |hs
  ·subst e
   rw[H6 (by rw[hS];simp),H5 (by rw[hb];rfl)]
   have:=hgen V;simp;omega
  ·have:=ih hs
   by_cases h:(bnd (cmS l [(s,y)]) w).isNone=true
   ·rw[H5 h,H5 (hle w h)];simp;exact this
   ·rw[H6 h];split
    ·simp;omega
    ·exact this
theorem Ys(l:List Bnd)(b:Bnd):(cmS l [b]).length<=l.length+1:=by
 unfold cmS;rw[E6,B6];have:=Q9 (fun x:Bnd=>(bnd l x.1).isNone) [b]
 simp only[C2,C5] at this;omega
theorem ad6{m:Nat}{l b:List Bnd}(hl:∀ x∈l,Dt m x.2)(hb:∀ x∈b,Dt m x.2):∀ x∈cmS l b,Dt m x.2:=fun x hx=>by
 unfold cmS at hx;rcases D7.1 hx with hx |hx
 ·obtain⟨z,hz,rfl⟩:=F8.1 hx
  exact(hl z hz).aS hb
 ·exact hb x (P6.1 hx).1
structure Uni(A B:Tm)(l:List Bnd)(r:List (Tm×Tm)):Prop where
 idm:Idm l
 nm:∀ s v,bnd l s=some v->∀ w∈v.names,w∈A.names++B.names
 ld:∀ b∈l,Dt 2 b.2
 ln:∀ b∈l,b.2.nodes<=400
 ll:l.length+ub (A.names++B.names) l<=(A.names++B.names).length
 rd:∀ e∈r,Dt 2 e.1/\Dt 2 e.2
 ca:Cov (r.map fun e=>aS l e.1) (aS l A)
 cb:Cov (r.map fun e=>aS l e.2) (aS l B)
theorem Fa{V:List ByteArray}{l:List Bnd}(hn:∀ s v,bnd l s=some v->∀ w∈v.names,w∈V){t:Tm}(ht:∀ w∈t.names,w∈V):∀ w∈(aS l t).names,w∈V:=fun w hw=>by
 rcases Mo l w t hw with ⟨h1,_⟩|⟨s,v,_,h2,h3⟩
 ·exact ht w h1
 ·exact hn s v h2 w h3
theorem ad7{l:List Bnd}(h:lrg l=false):∀ b∈l,b.2.nodes<=400:=fun b hb=>by
 unfold lrg at h;have:=List.any_eq_false.1 h b hb;simp only[decide_eq_true_eq] at this;omega
theorem ze{xs ys:List Tm}(h:xs.length=ys.length)(f:Tm->Tm):(xs.zip ys).map (fun e=>f e.1)=xs.map f:=by
 have:(xs.zip ys).map (fun e=>f e.1)=((xs.zip ys).map Prod.fst).map f:=by rw[K3];rfl
 rw[this,List.map_fst_zip (by omega)]
theorem Km{xs ys:List Tm}(h:xs.length=ys.length)(f:Tm->Tm):(xs.zip ys).map (fun e=>f e.2)=ys.map f:=by
 have:(xs.zip ys).map (fun e=>f e.2)=((xs.zip ys).map Prod.snd).map f:=by rw[K3];rfl
 rw[this,List.map_snd_zip (by omega)]
theorem Hf{l:List Bnd}{xs:List Tm}(h:∀ x∈xs,Fx l x):xs.map (aS l)=xs:=by
 conv=>rhs;rw[<-List.map_id xs]
 exact N1 fun a ha=>Mp a (h a ha)
theorem Uni.next{A B:Tm}{l l1:List Bnd}{x y:Tm}{r m:List (Tm×Tm)}(h:Uni A B l ((x,y)::r))(ht:trt (aS l x) (aS l y) l=some (l1,m))(hl:lrg l1=false) :
 Uni A B l1 (m++r)/\(ub (A.names++B.names) l1<ub (A.names++B.names) l\/l1=l/\((m++r).map fun e=>(aS l e.1).nodes).sum<(((x,y)::r).map fun e=>(aS l e.1).nodes).sum):=by
 have hca:=h.ca;have hcb:=h.cb;simp only[C4] at hca hcb;have nA:=Fa h.nm (t:=A) fun w hw=>List.mem_append_left _ hw
 have nB:=Fa h.nm (t:=B) fun w hw=>List.mem_append_right _ hw
 have nx:∀ w∈(aS l x).names,w∈A.names++B.names:=fun w hw=>nA w (hca.names _ (C7 ..) w hw)
 have ny:∀ w∈(aS l y).names,w∈A.names++B.names:=fun w hw=>nB w (hcb.names _ (C7 ..) w hw)
 have dx:=(h.rd _ (C7 ..)).1.aS h.ld;have dy:=(h.rd _ (C7 ..)).2.aS h.ld;have fx:=aa6 h.idm x;have fy:=aa6 h.idm y;have hrd:∀ e∈r,Dt 2 e.1/\Dt 2 e.2:=fun e he=>h.rd e (C8 _ he)
 rcases Qm ht with ⟨_,rfl,rfl⟩|⟨v,u,hvu,hn,rfl,rfl⟩|⟨k1,k2,hs,hlen,rfl,rfl⟩
 ·refine⟨⟨h.idm,h.nm,h.ld,h.ln,h.ll,hrd,hca.drop,hcb.drop⟩,.inr ⟨rfl,?_⟩⟩
  simp only[D8,C4,K1];have:=Tm.nodes_eq (aS l1 x);omega
 ·have hv:v∈A.names++B.names/\bnd l v=none/\Fx l u/\(∀ w∈u.names,w∈A.names++B.names)/\Dt 2 u:=by
   rcases hvu with ⟨hk,rfl,rfl⟩|⟨hk,rfl,rfl⟩
   ·have hm:=(di (aS l x) _).2 (.inl ⟨hk,rfl⟩)
    exact⟨nx _ hm,fx _ hm,fy,ny,dy⟩
   ·have hm:=(di (aS l y) _).2 (.inl ⟨hk,rfl⟩)
    exact⟨ny _ hm,fy _ hm,fx,nx,dx⟩
  obtain⟨hv1,hv2,hv3,hv4,hv5⟩:=hv;have hub:=ah0 (y:=u) hv1 hv2;refine⟨⟨ad5 h.idm hv3 hn,?_,ad6 h.ld (by simpa using hv5),ad7 hl,?_,hrd,?_,?_⟩,.inl hub⟩
  ·intro s w hw z hz
   rw[rk] at hw;cases hq:bnd l s with
   |some q =>
    rw[hq] at hw;simp only[C9.injEq] at hw;subst hw;rcases(Ez hn hz).2 with e |e
    ·exact h.nm s q hq z e
    ·exact hv4 z e
   |none =>
    rw[hq] at hw;simp only at hw;rw[rm] at hw;split at hw
    ·simp only[C9.injEq] at hw;subst hw;exact hv4 z hz
    ·simp at hw
  ·have h1:=Ys l (v,u)
   have h2:=h.ll;omega
  ·have:=(hca.sub [(v,u)]).drop
   rw[K3] at this;rw[D8,He];have e:(r.map fun e=>aS (cmS l [(v,u)]) e.1)=r.map ((aS [(v,u)]) ∘ fun e=>aS l e.1):=N1 fun e _=>He ..
   rw[e];exact this
  ·have:=(hcb.sub [(v,u)]).drop
   rw[K3] at this;rw[D8,He];have e:(r.map fun e=>aS (cmS l [(v,u)]) e.2)=r.map ((aS [(v,u)]) ∘ fun e=>aS l e.2):=N1 fun e _=>He ..
   rw[e];exact this
 ·have fxs:=fun a (ha:a∈(aS l1 x).as)=>fx.sub ha
  have fys:=fun a (ha:a∈(aS l1 y).as)=>fy.sub ha
  refine⟨⟨h.idm,h.nm,h.ld,h.ln,h.ll,?_,?_,?_⟩,.inr ⟨rfl,?_⟩⟩
  ·intro e he
   rcases D7.1 he with he |he
   ·obtain⟨q1,q2⟩:=List.of_mem_zip (a:=e.1) (b:=e.2) he
    exact⟨dx.sub q1,dy.sub q2⟩
   ·exact hrd e he
  ·rw[D6,ze hlen,Hf fxs]
   exact hca.args (by omega)
  ·rw[D6,Km hlen,Hf fys]
   exact hcb.args (by omega)
  ·have e:(((aS l1 x).as.zip (aS l1 y).as).map fun e=>(aS l1 e.1).nodes)=(aS l1 x).as.map Tm.nodes:=by
    have:(((aS l1 x).as.zip (aS l1 y).as).map fun e=>(aS l1 e.1).nodes)=(((aS l1 x).as.zip (aS l1 y).as).map fun e=>aS l1 e.1).map Tm.nodes:=by rw[K3];rfl
    rw[this,ze hlen,Hf fxs]
   rw[D6,List.sum_append,e,C4,K1];have:=Tm.nodes_eq (aS l1 x);simp only;omega
end Go.Q
end
section
/- What unification gives. -/
namespace Go.Q
open Go
theorem Dt.small{m:Nat}:∀ t:Tm,Dt m t->au t:=Tm.ind fun t ih h=>by
 refine .mk ?_ fun a ha=>ih a ha (h.sub ha)
 cases h with
 |var _=>exact G9 _
 |word=>exact G9 _
 |app _ h _=>exact J0 h (by decide)
end Go.Q
end
section
/- Comparisons: a program with itself,turned about,and what a difference says. -/
namespace Go.Q
open Go
noncomputable def rnA(x:SyM)(c:Int):Option xq:=jv x.d (S.instR x.v x.t c) 200
def opn(x y:SyM)(c:Int):Prop:=¬ ∃ p q,rnA x c=some p/\rnA y c=some q/\p.o=1/\q.o=1
end Go.Q
end
section
/- Drawn terms,rules and definitions: their bounds. -/
namespace Go.Q
open Go
structure Wn(m:Nat)(t:Tm):Prop where
 w:Wt t
 n:t.nodes<=m
theorem Wn.mono{m k:Nat}{t:Tm}(h:Wn m t)(hm:m<=k):Wn k t:=⟨h.w,J0 h.n hm⟩
theorem Wn.small{m:Nat}{t:Tm}(h:Wn m t)(hm:m<=1048576):au t:=ak _ (by have:=h.n;omega)
theorem zf{k n:Int}{s:ByteArray}{as:List Tm}(hk:-1000<=k)(hk':k<=1000)(hn:-1000<=n)(hn':n<=1000)(hs:s.size<=1000)(hl:as.length<=1000)(h:∀ a∈as,Wt a):Wt (.mk k n s as) :=
 .mk (S.i64ok_of (by show _<=k;omega) (by show k<=_;omega)) (S.i64ok_of (by show _<=n;omega) (by show n<=_;omega)) (by show s.size<=maxLen;unfold maxLen;omega) (by show as.length<=maxLen;unfold maxLen;omega) h
theorem Dt.wt{m:Nat}(hm:m<=1000):∀ t:Tm,Dt m t->Wt t:=Tm.ind fun t ih h=>by
 have hs:∀ a∈t.as,Wt a:=fun a ha=>ih a ha (h.sub ha)
 cases h with
 |var h=>exact zf (by decide) (by decide) (by decide) (by decide) (by omega) (by simp) hs
 |word h1 h2=>exact zf (by decide) (by decide) (by omega) (by omega) (by decide) (by simp) hs
 |app h1 h2 _=>exact zf (by decide) (by decide) (by decide) (by decide) (by omega) (by omega) hs
theorem Dt.wn{k m:Nat}{t:Tm}(h:Dt k t)(hk:k<=1000)(hm:t.nodes<=m):Wn m t:=⟨Dt.wt hk t h,hm⟩
def tV(s:ByteArray):Tm:=.mk 1 0 s []
def tW(n:Int):Tm:=.mk 3 n ⟨#[]⟩ []
def tC(s:ByteArray):Tm:=.mk 2 0 s []
def tO(s:ByteArray)(t:Tm):Tm:=.mk 2 0 s [t]
def tP(s:ByteArray)(t u:Tm):Tm:=.mk 2 0 s [t,u]
theorem Cv{s:ByteArray}(h:s.size<=1000):Wn 1 (tV s):=⟨zf (by decide) (by decide) (by decide) (by decide) h (by simp) (by simp),by simp[tV,Tm.nodes,Tm.nodesL]⟩
theorem wk{n:Int}(h:0<=n)(h1:n<=255):Wn 1 (tW n):=⟨zf (by decide) (by decide) (by omega) (by omega) (by decide) (by simp) (by simp),by simp[tW,Tm.nodes,Tm.nodesL]⟩
theorem Ui{s:ByteArray}(h:s.size<=1000):Wn 1 (tC s):=⟨zf (by decide) (by decide) (by decide) (by decide) h (by simp) (by simp),by simp[tC,Tm.nodes,Tm.nodesL]⟩
theorem pk{s:ByteArray}{m:Nat}{t:Tm}(h:s.size<=1000)(ht:Wn m t):Wn (m+1) (tO s t):=⟨zf (by decide) (by decide) (by decide) (by decide) h (by simp) (by simpa using ht.w),by have:=ht.n;simp[tO,Tm.nodes,Tm.nodesL];omega⟩
theorem gt{s:ByteArray}{m k:Nat}{t u:Tm}(h:s.size<=1000)(ht:Wn m t)(hu:Wn k u):Wn (m+k+1) (tP s t u):=⟨zf (by decide) (by decide) (by decide) (by decide) h (by simp) (by simp[ht.w,hu.w]),by have:=ht.n;have:=hu.n;simp[tP,Tm.nodes,Tm.nodesL];omega⟩
theorem ah1{m:Nat}{t:Tm}(h:Wn m t):Wn m (rW t):=⟨Nz t h.w,J0 (gy t) h.n⟩
structure GuW(g:Gu):Prop where
 k:0<=g.k/\g.k<=5
 l:Wn 3000 g.l
 r:Wn 3000 g.r
theorem GuW.b{g:Gu}(h:GuW g):GuB g:=⟨h.l.w,h.r.w,by have:=h.l.n;omega,by have:=h.r.n;omega⟩
structure RuW(u:RuM):Prop where
 n:u.n.size<=1000
 l:Wn 3000 u.l
 r:Wn 3000 u.r
 g:u.g.length<=10
 ga:∀ g∈u.g,GuW g
theorem RuW.b{r:RuM}(h:RuW r):RuB r:=⟨by have:=h.n;unfold maxLen;omega,h.l.w,h.r.w,by have:=h.l.n;omega,by have:=h.r.n;omega,by have:=h.g;omega,fun g hg=>(h.ga g hg).b⟩
structure DfW(d:DfM):Prop where
 so:d.so.length<=10
 sos:∀ x∈d.so,x.size<=1000
 op:d.op.length<=10
 opa:∀ o∈d.op,o.n.size<=1000/\o.a.length<=10/\(∀ x∈o.a,x.size<=1000)/\o.r.size<=1000
 ru:d.ru.length<=10
 rua:∀ r∈d.ru,RuW r
 st:d.st.length<=10
theorem DfW.sig{d:DfM}(h:DfW d):qg d.op:=⟨by have:=h.op;omega,fun o ho=>by have:=(h.opa o ho).2.1;show o.a.length<=_;omega⟩
theorem DfW.b{d:DfM}(h:DfW d):DfB d:=⟨by have:=h.so;omega,fun x hx=>by have:=h.sos x hx;unfold maxLen;omega,h.sig,fun o ho=>by have:=(h.opa o ho).1;unfold maxLen;omega,by have:=h.ru;omega,fun r hr=>(h.rua r hr).b,by have:=h.st;omega⟩
def jx:List ByteArray:=[⟨#[101]⟩,⟨#[107]⟩]
def jd:List OpM:=[⟨⟨#[97]⟩,[],⟨#[101]⟩⟩,⟨⟨#[98]⟩,[],⟨#[101]⟩⟩,⟨⟨#[103]⟩,[⟨#[101]⟩],⟨#[101]⟩⟩,⟨⟨#[102]⟩,[⟨#[101]⟩,⟨#[101]⟩],⟨#[101]⟩⟩,⟨⟨#[104]⟩,[⟨#[101]⟩,⟨#[119,111,114,100]⟩],⟨#[101]⟩⟩,⟨⟨#[110,117,109]⟩,[⟨#[119,111,114,100]⟩],⟨#[101]⟩⟩,⟨⟨#[116,111,112]⟩,[⟨#[101]⟩],⟨#[107]⟩⟩]
def opW(o:OpM):Bool:=decide (o.n.size<=1000)&&(decide (o.a.length<=10)&&(o.a.all (fun x=>decide (x.size<=1000))&&decide (o.r.size<=1000)))
theorem Uj{o:OpM}(h:opW o=true):o.n.size<=1000/\o.a.length<=10/\(∀ x∈o.a,x.size<=1000)/\o.r.size<=1000:=by
 simp only[opW,B9,decide_eq_true_eq,E3] at h;exact⟨h.1,h.2.1,h.2.2.1,h.2.2.2⟩
theorem yb:∀ o∈jd,o.n.size<=1000/\o.a.length<=10/\(∀ x∈o.a,x.size<=1000)/\o.r.size<=1000:=fun o ho=>Uj (E3.1 (show jd.all opW=true from by decide) o ho)
theorem Fb:∀ x∈jx,x.size<=1000:=fun x hx=>by
 have:=E3.1 (show jx.all (fun x=>decide (x.size<=1000))=true from by decide) x hx
 simpa using this
end Go.Q
end
section
/- All steps of a term;a trace replayed;runs and traces. -/
namespace Go.Q
open Go
end Go.Q
end
section
/- A symbolic step stands for the step of every case;the tests of a symbolic term. -/
namespace Go.Q
open Go
theorem ad8{k n:Int}{s:ByteArray}{as:List Tm}(h:isB s=false):rW1 k n s as=.mk k n s as:=by
 unfold rW1;split
 ·rw[H6 (by rw[h];simp)]
 ·rfl
theorem yc(k n:Int)(s:ByteArray)(as:List Tm):rW1 k n s as=.mk k n s as\/∃ x y,as=[x,y]/\k=2/\n=0/\isB s=true/\isW x=true/\isW y=true/\rW1 k n s as=.mk 3 (cmp s x.n y.n) ⟨#[]⟩ []:=by
 unfold rW1;split
 ·rename_i x y
  split
  ·rename_i h
   exact .inr ⟨x,y,rfl,h.1,h.2.1,h.2.2.1,h.2.2.2.1,h.2.2.2.2,rfl⟩
  ·exact .inl rfl
 ·exact .inl rfl
theorem Uk{x:Tm}(h:isW x=true):x.k=3/\x.as=[]:=by
 simp only[isW,B9,decide_eq_true_eq] at h;exact⟨h.1,F9.1 h.2.2.2.2⟩
theorem Ul{l:List Bnd}{x:Tm}(h:isW x=true):aS l x=x:=by
 obtain⟨h1,h2⟩:=Uk h;exact Mp _ fun w hw=>by
  rw[xk h] at hw;simp at hw
theorem Um{x:Tm}(h:isW x=true):rW x=x:=by
 obtain⟨h1,h2⟩:=Uk h;rw[fg,h2];unfold rW1;simp only[D4];exact Tm.eta rfl rfl rfl h2.symm
theorem Un(l:List Bnd):∀ t,rW (aS l (rW t))=rW (aS l t):=Tm.ind fun t ih=>by
 rw[fg t];by_cases hb:∃ v,t.k=1/\bnd l t.s=some v
 ·obtain⟨v,hk,hb⟩:=hb
  rcases yc t.k t.n t.s (t.as.map rW) with e |⟨x,y,_,hk2,_⟩
  ·rw[e,gz hk hb,gz (t:=.mk t.k t.n t.s (t.as.map rW)) hk hb]
  ·omega
 ·have hf:t.k=1->bnd l t.s=none:=fun hk=>by
   cases hq:bnd l t.s with
   |none=>rfl
   |some v=>exact absurd ⟨v,hk,hq⟩ hb
  have hm:((t.as.map rW).map (aS l)).map rW=(t.as.map (aS l)).map rW:=by
   rw[K3,K3,K3];exact N1 fun a ha=>ih a ha
  rcases yc t.k t.n t.s (t.as.map rW) with e |⟨x,y,exy,hk2,hn0,hB,hx,hy,e⟩
  ·rw[e,em (t:=.mk t.k t.n t.s (t.as.map rW)) hf,em hf,fg,fg]
   simp only[Tm.as_mk,Tm.k_mk,Tm.s_mk,Tm.n];rw[hm]
  ·rw[e]
   have hr:rW (aS l (.mk 3 (cmp t.s x.n y.n) ⟨#[]⟩ []))=.mk 3 (cmp t.s x.n y.n) ⟨#[]⟩ []:=by
    have h1:aS l (.mk 3 (cmp t.s x.n y.n) ⟨#[]⟩ [])=.mk 3 (cmp t.s x.n y.n) ⟨#[]⟩ []:=Mp _ fun w hw=>by
     rw[Tm.names_eq] at hw;simp[Tm.k,Tm.as] at hw
    rw[h1,fg];rfl
   rw[hr,em hf,fg];simp only[Tm.as_mk,Tm.k_mk,Tm.s_mk,Tm.n];rw[<-hm,exy];simp only[C4,D4,Ul hx,Ul hy,Um hx,Um hy];rw[<-exy];exact e.symm
theorem Uo{l:List Bnd}(Y:Tm):∀ (p:List Int) (t v:Tm),t.areN=true->atT t p=some v->aS l (cu t p Y)=cu (aS l t) p (aS l Y)
 | [],t,v,_,_=>rfl
 |i::p,t,v,hn,h=>by
  obtain⟨hi,h0,h1⟩:=cr h;have hk:t.k≠1:=fun hk=>by
   rcases cj hn with ⟨_,e⟩|⟨_,_,e⟩ |e
   ·rw[e] at hi;simp at hi
   ·rw[e] at hi;simp at hi
   ·omega
  have ih:=Uo (l:=l) Y p _ v (cx hn (C0 hi)) h1;have e1:cu t (i::p) Y=.mk t.k t.n t.s (t.as.set i.toNat (cu t.as[i.toNat] p Y)):=by rw[cu,dif_pos hi]
  have e2:aS l t=.mk t.k t.n t.s (t.as.map (aS l)):=em fun h=>absurd h hk
  have hi2:i.toNat<(Tm.mk t.k t.n t.s (t.as.map (aS l))).as.length:=by rw[Tm.as_mk,B6];exact hi
  rw[e1,e2,cu,dif_pos hi2,em (t:=.mk t.k t.n t.s (t.as.set i.toNat (cu t.as[i.toNat] p Y))) fun h=>absurd h hk]
  simp only[Tm.as_mk,Tm.k_mk,Tm.s_mk,Tm.n,V3,O8,ih]
def NB:Tm->List Int->Prop
 |_,[]=>True
 |t,i::p=>isB t.s=false/\∃ h:i.toNat<t.as.length,NB t.as[i.toNat] p
theorem Kn(Z:Tm):∀ (p:List Int) (t:Tm),NB (rW t) p->rW (cu t p Z)=cu (rW t) p (rW Z)
 | [],t,_=>rfl
 |i::p,t,h=>by
  obtain⟨hB,hi,h1⟩:=h;have e0:=fg t;rcases yc t.k t.n t.s (t.as.map rW) with e |⟨x,y,_,_,_,_,_,_,e⟩
  ·rw[e] at e0
   have hs:isB t.s=false:=by rw[e0] at hB;exact hB
   have hi':i.toNat<t.as.length:=by
    have:=hi;rw[e0,Tm.as_mk,B6] at this;exact this
   have h2:NB (rW t.as[i.toNat]) p:=by
    have e3:(rW t).as[i.toNat]=rW t.as[i.toNat]:=by simp only[e0,Tm.as_mk,O8]
    rw[<-e3];exact h1
   have ih:=Kn Z p t.as[i.toNat] h2;have e4:cu (rW t) (i::p) (rW Z)=.mk t.k t.n t.s ((t.as.map rW).set i.toNat (cu (rW t.as[i.toNat]) p (rW Z))):=by
    rw[e0,cu,dif_pos (by rw[Tm.as_mk,B6];exact hi')]
    simp only[Tm.as_mk,Tm.k_mk,Tm.s_mk,Tm.n,O8]
   rw[e4,cu,dif_pos hi',fg];simp only[Tm.as_mk,Tm.k_mk,Tm.s_mk,Tm.n];rw[ad8 hs,V3,ih]
  ·rw[e] at e0
   rw[e0] at hi;simp[Tm.as] at hi
theorem ad9{d:DfM}(hd:DfG d){t:Tm}{i:Int}(h:i∈stL d.st t):isB t.s=false:=by
 have hv:=hd.v;simp only[DfM.valid,B9] at hv;unfold stL at h;split at h
 ·unfold lb at h
  obtain⟨x,hx,rfl⟩:=F8.1 h;obtain⟨h1,h2⟩:=P6.1 hx;have h3:=xt d.op d.st [] hv.2.2.2.2.1 x h1;simp only[decide_eq_true_eq] at h2;unfold Mb at h3;rw[h2] at h3;split at h3
  ·simp at h3
  ·simp only[B9,E7] at h3
   exact h3.1
 ·simp at h
theorem ah2{d:DfM}(hd:DfG d):∀ t i p,nx d t=some (i,p)->NB t p:=Tm.ind fun t ih i p h=>by
 rw[Oc] at h;cases hp:lu (stL d.st t) (t.as.map (nx d)) with
 |some x =>
  rw[hp] at h;simp only[C9.injEq] at h;subst h;unfold lu at hp;obtain⟨a,ha,he⟩:=V2 hp;split at he
  ·rename_i h0
   rw[R4] at he;cases hq:t.as[a.toNat]? with
   |none=>rw[hq] at he;simp at he
   |some u =>
    rw[hq] at he;simp only[K2] at he;obtain⟨hlt,hu⟩:=E5.1 hq;cases hn:nx d u with
    |none=>rw[hn] at he;simp at he
    |some y =>
     rw[hn] at he;simp only[C9.injEq,J1.injEq] at he;obtain⟨rfl,rfl⟩:=he;exact⟨ad9 hd ha,hlt,by rw[hu];exact ih u (hu▸C0 hlt) y.1 y.2 hn⟩
  ·simp at he
 |none =>
  rw[hp] at h;simp only at h;cases hr:pc d.ru t with
  |none=>rw[hr] at h;simp at h
  |some j =>
   rw[hr] at h;simp only[K2,C9.injEq,J1.injEq] at h;obtain⟨_,rfl⟩:=h;trivial
theorem Up:∀ t,t.areN=true->∀ u l l',mT t u l=some l'->∀ s∈t.names,bnd l' s≠none:=Tm.ind fun t ih hn u l l' h s hs=>by
 by_cases hk:t.k=1
 ·have e:=Ug hk h
  rcases(di t s).1 hs with ⟨_,rfl⟩|⟨a,ha,_⟩
  ·rw[e];simp
  ·rcases cj hn with ⟨_,e⟩|⟨_,_,e⟩ |e
   ·rw[e] at ha;simp at ha
   ·rw[e] at ha;simp at ha
   ·omega
 ·rcases fu h with ⟨q,_⟩|⟨q,_⟩|⟨_,_,_,_,e4,h⟩
  ·exact absurd q hk
  ·exact absurd q hk
  ·have key:∀ (ts us:List Tm) (l l':List Bnd),(∀ a∈ts,a∈t.as)->mTs ts us l=some l'->∀ a∈ts,∀ s∈a.names,bnd l' s≠none:=by
    intro ts;induction ts with
    |nil=>intro us l l' _ _ a ha;simp at ha
    |cons b ts ihs =>
     intro us l l' hts h a ha s hs;cases us with
     |nil=>simp[mTs] at h
     |cons w us =>
      simp only[mTs] at h;split at h
      ·rename_i l1 h1
       rcases E1.1 ha with rfl |ha
       ·have h2:=ih a (hts a (C7 ..)) (cx hn (hts a (C7 ..))) w l l1 h1 s hs
        have x1:Ext l1 l':=zz (P:=fun _ _ l l'=>Ext l l') (Q:=fun _ _ l l'=>Ext l l') (fun _ l=>Ext.refl l) (fun _ _ _ _ _ _ _ h k=>h.trans k) _ _ _ _ (fun t ht u _ l l' h=>Uf t u l l' h) h
        cases hq:bnd l1 s with
        |none=>exact absurd hq h2
        |some v=>rw[x1 s v hq];simp
       ·exact ihs us l1 l' (fun x hx=>hts x (C8 _ hx)) h a ha s hs
      ·simp at h
   rcases(di t s).1 hs with ⟨q,_⟩|⟨a,ha,hw⟩
   ·exact absurd q hk
   ·exact key _ _ _ _ (fun _ h=>h) h a ha s hw
theorem aa7{l:List Bnd}:∀ (q:List Int) (t a:Tm),t.areN=true->atT t q=some a->atT (aS l t) q=some (aS l a)
 | [],t,a,_,h=>by simp only[atT,C9.injEq] at h;subst h;simp only[atT]
 |i::q,t,a,hn,h=>by
  obtain⟨hi,h0,h1⟩:=cr h;have hk:t.k≠1:=fun hk=>by
   rcases cj hn with ⟨_,e⟩|⟨_,_,e⟩ |e
   ·rw[e] at hi;simp at hi
   ·rw[e] at hi;simp at hi
   ·omega
  rw[em fun h=>absurd h hk,atT,dif_pos (by rw[Tm.as_mk,B6];exact hi),H5 h0]
  simp only[Tm.as_mk,O8];exact aa7 q _ a (cx hn (C0 hi)) h1
theorem ae0{l B σ:List Bnd}:∀ t:Tm,(∀ s∈t.names,∃ b,bnd B s=some b/\bnd l s=some (rW (aS σ b)))->(t.areN=true)->rW (aS l t)=rW (aS σ (aS B t)):=Tm.ind fun t ih h hn=>by
 by_cases hk:t.k=1
 ·obtain⟨b,h1,h2⟩:=h t.s ((di t _).2 (.inl ⟨hk,rfl⟩))
  rw[gz hk h2,gz hk h1,aa2]
 ·rw[em fun h=>absurd h hk,em (l:=B) fun h=>absurd h hk,em (t:=.mk t.k t.n t.s (t.as.map (aS B))) fun h=>absurd h hk,fg,fg]
  simp only[Tm.as_mk,Tm.k_mk,Tm.s_mk,Tm.n];congr 1
  rw[K3,K3,K3];exact N1 fun a ha=>ih a ha (fun s hs=>h s ((di t s).2 (.inr ⟨a,ha,hs⟩))) (cx hn ha)
theorem sim{d:DfM}{v:List ByteArray}{t:Tm}(hb:DfB d)(hw:Wt t)(hs:jq d v t=true){c:Int}(hc:isC v.length c=true){x:Nat×List Int}(hx:nx d (bw v t c)=some x):bw v (dc d t x) c=cd d (bw v t c) x.1 x.2:=by
 obtain⟨hd,htn,hg,hgn,_⟩:=xy hb hw hs hc;have hs':=hs;simp only[jq,B9,E7,decide_eq_false_iff_not] at hs';obtain⟨s1,s2,s3,s4,s5,s6,s7⟩:=hs';have hna:=cq s5;obtain⟨u',r,w',q1,q2,q3⟩:=vy d (bw v t c) x.1 x.2 hx;have hst:cd d (bw v t c) x.1 x.2=cu (bw v t c) x.2 w':=by unfold cd;rw[q1,q2];simp only[q3]
 obtain⟨u,hu,rfl⟩:=wh (we v c) x.2 t u' q1;have hnb:=ah2 hd (bw v t c) x.1 x.2 hx;have hr:=hd.ru (N0 q2);have hrw:∀ s∈r.r.names,s∈r.l.names:=by
  have:=hd.v;simp only[DfM.valid,B9,E3] at this;exact Cp (this.2.2.2.1 r (N0 q2))
 have hln:=cq hr.lv;have hrn:=cq hr.rv;unfold gi at q3;cases hm:mT r.l (rW (aS (bn v c) u)) [] with
 |none=>rw[hm] at q3;simp at q3
 |some l =>
 rw[hm] at q3;simp only at q3;split at q3
 case isFalse=>simp at q3
 simp only[C9.injEq] at q3;have hap:=ad4 _ _ _ _ hm l (Ext.refl _);have hbd:∀ s∈r.r.names,∃ b,bnd (jw r.l u) s=some b/\bnd l s=some (rW (aS (bn v c) b)):=fun s hs=>by
  obtain⟨b,hb1⟩:=Cn (u:=u) (hrw s hs);refine⟨b,hb1,?_⟩;obtain⟨q,a,a1,a2,a3,rfl⟩:=Ex (wg hb1);have a4:=aa7 (l:=l) q r.l a hln a1;rw[hap] at a4;obtain⟨b',b1,b2⟩:=wh (we v c) q u _ a4;have b3:atO u q=b':=by unfold atO;rw[b1];rfl
  rw[b3,<-b2];cases hq:bnd l s with
  |none=>exact absurd hq (Up r.l hln _ _ _ hm s (hrw s hs))
  |some w=>rw[gz a2 (by rw[a3];exact hq)]
 have h4:=ae0 (σ:=bn v c) r.r hbd hrn;have hat:atO t x.2=u:=by unfold atO;rw[hu];rfl
 rw[hst];unfold dc;rw[q2,hat];simp only;unfold bw;rw[Un,Uo _ x.2 t u hna hu,Kn _ x.2 _ hnb,<-h4,q3]
end Go.Q
end
section
/- The runs of the cases of a path;the tests of different paths. -/
namespace Go.Q
open Go
theorem Uq{out:List (Bk×List Int)}{P:Bk->Int->Prop}(h:∀ b∈out,∀ c∈b.2,P b.1 c){x:Bk}{c:Int}(hc:P x c):∀ b∈ph out x c,∀ c∈b.2,P b.1 c:=by
 intro b hb c' hc';cases hf:Cj out x with
 |some j =>
  obtain⟨hj,e⟩:=Ab hf;rw[re hf hj] at hb;rcases K5 hb with hb |rfl
  ·exact h b hb c' hc'
  ·rcases D7.1 hc' with hc' |hc'
   ·exact h _ (C0 hj) c' hc'
   ·rw[F1.1 hc'];show P out[j].1 c;rw[e];exact hc
 |none =>
  rw[rf hf] at hb;rcases D7.1 hb with hb |hb
  ·exact h b hb c' hc'
  ·rw[F1.1 hb] at hc' ⊢
   rw[F1.1 hc'];exact hc
theorem Ov(d:DfM)(v:List ByteArray)(t:Tm):∀ (l:List Int) (out:List (Bk×List Int)),(∀ b∈out,∀ c∈b.2,nx d (bw v t c)=b.1)->∀ b∈brF d v t l out,∀ c∈b.2,nx d (bw v t c)=b.1
 | [],out,h=>by simpa only[brF] using h
 |c::r,out,h=>by
  simp only[brF];exact Ov d v t r _ (Uq (P:=fun k c=>nx d (bw v t c)=k) h rfl)
theorem Qn(out:List (Bk×List Int))(x:Bk)(c:Int):((ph out x c).flatMap (·.2)).Perm (out.flatMap (·.2)++[c]):=by
 cases hf:Cj out x with
 |some j =>
  obtain⟨hj,e⟩:=Ab hf;rw[re hf hj,U6,H5 hj];have e1:out.flatMap (·.2)=(out.take j).flatMap (·.2)++(out[j].2++(out.drop (j+1)).flatMap (·.2)):=by
   conv=>lhs;rw[<-Q8 j out,B8 hj,T0,O1]
  rw[e1,T0,O1];simp only[E2];refine List.Perm.append_left _ (List.Perm.append_left _ ?_);exact List.perm_append_comm
 |none =>
  rw[rf hf,T0];simp
theorem Ko(d:DfM)(v:List ByteArray)(t:Tm):∀ (l:List Int) (out:List (Bk×List Int)),((brF d v t l out).flatMap (·.2)).Perm (out.flatMap (·.2)++l)
 | [],out=>by simp only[brF,G5];exact List.Perm.refl _
 |c::r,out=>by
  simp only[brF];refine(Ko d v t r _).trans ?_;have:=(Qn out (nx d (bw v t c)) c).append_right r;rwa[E2] at this
end Go.Q
end
section
/- Paths: their traces,and that none is without a case. -/
namespace Go.Q
open Go
end Go.Q
end
section
/- Runs that are computed: an evaluator of shallow functions is Sl. Open cases where a case may be none. -/
namespace Go.Q
open Go
def pS(f:ByteArray->List D->R):List D->R
 |.str x::l=>f x l
 |_=>none
def pI(f:Int->List D->R):List D->R
 |.int x::l=>f x l
 |_=>none
def pB(f:Bool->List D->R):List D->R
 |.bool x::l=>f x l
 |_=>none
def pL(f:aa->List D->R):List D->R
 |.sl x::l=>f x l
 |_=>none
def pE(b:R):List D->R
 | []=>b
 |_=>none
def Sd(H:Tab)(P:Program)(c:Key->List D->R)(k:Key)(pre:List D->List D)(v:List D->R):Prop:=∀ l r,v l=some r->step H c P k (pre l)=some r
section
variable{H:Tab}{P:Program}{c:Key->List D->R}{k:Key}{pre:List D->List D}
theorem Sd.S{f:ByteArray->List D->R}(h:∀ x,Sd H P c k (fun l=>pre (.str x::l)) (f x)):Sd H P c k pre (pS f):=fun l r e=>by
 unfold pS at e;split at e
 ·exact h _ _ _ e
 ·simp at e
theorem Sd.I{f:Int->List D->R}(h:∀ x,Sd H P c k (fun l=>pre (.int x::l)) (f x)):Sd H P c k pre (pI f):=fun l r e=>by
 unfold pI at e;split at e
 ·exact h _ _ _ e
 ·simp at e
theorem Sd.B{f:Bool->List D->R}(h:∀ x,Sd H P c k (fun l=>pre (.bool x::l)) (f x)):Sd H P c k pre (pB f):=fun l r e=>by
 unfold pB at e;split at e
 ·exact h _ _ _ e
 ·simp at e
theorem Sd.L{f:aa->List D->R}(h:∀ x,Sd H P c k (fun l=>pre (.sl x::l)) (f x)):Sd H P c k pre (pL f):=fun l r e=>by
 unfold pL at e;split at e
 ·exact h _ _ _ e
 ·simp at e
theorem Sd.E{b:R}(h:step H c P k (pre [])=b):Sd H P c k pre (pE b):=fun l r e=>by
 unfold pE at e;split at e
 ·exact h.trans e
 ·simp at e
end
theorem cnd{b:Bool}{x y:R}{r:Nat×List D}{Q:Prop}(h:(bif b then x else y)=some r)(h1:b=true->x=some r->Q)(h2:b=false->y=some r->Q):Q:=by
 cases b
 ·exact h2 rfl h
 ·exact h1 rfl h
def tNn:Tm:=tV ⟨#[78]⟩
def tMm:Tm:=tV ⟨#[77]⟩
def jg:DfM:=⟨[⟨#[99]⟩],[⟨⟨#[108,111,111,112]⟩,[⟨#[119,111,114,100]⟩,⟨#[119,111,114,100]⟩],⟨#[99]⟩⟩,⟨⟨#[100,111,110,101]⟩,[⟨#[119,111,114,100]⟩],⟨#[99]⟩⟩],
 [⟨⟨#[116,117,114,110]⟩,tP ⟨#[108,111,111,112]⟩ tNn tMm,tP ⟨#[108,111,111,112]⟩ (tP ⟨#[109,105,110,117,115]⟩ tNn (tW 1)) (tP ⟨#[112,108,117,115]⟩ tMm (tW 1)),[⟨3,tW 0,tNn⟩]⟩,⟨⟨#[101,110,100]⟩,tP ⟨#[108,111,111,112]⟩ (tW 0) tMm,tO ⟨#[100,111,110,101]⟩ tMm,[]⟩],[]⟩
theorem qn:DfW jg:=by
 have n1:Wn 1 tNn:=Cv (by decide)
 have m1:Wn 1 tMm:=Cv (by decide)
 have w0:Wn 1 (tW 0):=wk (by decide) (by decide)
 have w1:Wn 1 (tW 1):=wk (by decide) (by decide)
 refine⟨by decide,fun x hx=>?_,by decide,fun o ho=>Uj (E3.1 (show jg.op.all opW=true from by decide) o ho),by decide,fun r hr=>?_,by decide⟩
 ·have:=E3.1 (show jg.so.all (fun x:ByteArray=>decide (x.size<=1000))=true from by decide) x hx
  simpa using this
 ·simp only[jg,E1,N2,or_false] at hr
  rcases hr with rfl |rfl
  ·refine⟨by decide,(gt (by decide) n1 m1).mono (by decide),(gt (by decide) (gt (by decide) n1 w1) (gt (by decide) m1 w1)).mono (by decide),by simp,fun g hg=>?_⟩
   rw[F1.1 hg];exact⟨by decide,w0.mono (by decide),n1.mono (by decide)⟩
  ·exact⟨by decide,(gt (by decide) w0 m1).mono (by decide),(pk (by decide) m1).mono (by decide),by simp,by simp⟩
structure ClW(vl:List ByteArray)(lt rt:Tm)(gl:List Gu):Prop where
 v:vl.length<=20
 vs:∀ x∈vl,x.size<=1000
 l:Wn 3000 lt
 r:Wn 3000 rt
 g:gl.length<=20
 ga:∀ x∈gl,GuW x
theorem ClW.b{v:List ByteArray}{l r:Tm}{g:List Gu}(h:ClW v l r g){d:DfM}(hd:DfB d):ClB ⟨d,v,l,r,g⟩ :=
 ⟨hd,by have:=h.v;show v.length<=_;omega,fun x hx=>by have:=h.vs x hx;unfold maxLen;omega,h.l.w,h.r.w,by have:=h.l.n;show l.nodes<=_;omega,by have:=h.r.n;show r.nodes<=_;omega,by have:=h.g;show g.length<=_;omega,fun x hx=>(h.ga x hx).b⟩
end Go.Q
end
