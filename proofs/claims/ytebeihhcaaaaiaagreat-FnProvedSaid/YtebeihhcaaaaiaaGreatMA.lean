/- The plain laws of what the functions answer, part 1. -/
import Derived.Test.YtebeihhcaaaaiaaGreatQC
set_option linter.unusedVariables false
set_option linter.unusedSimpArgs false
open Bool renaming and_eq_true->B9,true_and->E4,not_eq_true'->F1,or_eq_true->P7,and_self->Q2
open Int renaming toNat_natCast->B7,tmod_lt_of_pos->P1,tmod_nonneg->Q6
open List renaming length_map->B6,drop_eq_getElem_cons->B8,getElem_mem->C1,length_cons->C2,map_cons->C4,length_nil->C5,mem_cons_self->C6,mem_cons_of_mem->C7,drop_length->C8,map_nil->D1,map_append->D5,mem_append->D6,nil_append->D8,mem_cons->E1,append_assoc->E2,all_eq_true->E3,getElem?_eq_some_iff->E5,length_append->E6,mem_singleton->F2,cons_append->F4,getElem?_eq_getElem->F7,mem_map->F8,length_eq_zero_iff->F9,append_nil->G8,all_cons->J1,length_set->K0,sum_cons->K1,mem_flatMap->K4,mem_or_eq_of_mem_set->K7,map_map->K9,not_mem_nil->N0,map_congr_left->N2,mem_of_getElem?->N7,filter_cons->O0,getD->O5,filter_sublist->O9,flatMap_cons->P0,find?_cons->P8,length_filter_le->Q0,cons->Q5,any_eq_true->R0,getElem_map->R3,mem_filterMap->R4,pairwise_cons->R5,mem_filter->S0,getElem?_map->S1,length_filterMap_le->S3,filterMap_cons->S4,zip_cons_cons->S6,set_cons_succ->T5,range->T6,findIdx?_eq_some_iff_getElem->T7,take_succ_eq_append_getElem->U2
open Nat renaming zero_add->D0,le_refl->E7,ble_eq_true_of_le->E8,beq->E9,le_trans->G7,zero_le->J0,eq_of_beq_eq_true->R7,mul_le_mul->U1
open Option renaming some->C9,map_some->K6,isSome_some->O4,map_none->T4
open Prod renaming mk->G9
section
namespace Go.Q
open Go
inductive Tm where
 |mk (k n:Int) (s:ByteArray) (as:List Tm)
namespace Tm
def k:Tm->Int |mk k _ _ _=>k
def n:Tm->Int |mk _ n _ _=>n
def s:Tm->ByteArray |mk _ _ s _=>s
def as:Tm->List Tm |mk _ _ _ as=>as
mutual
def row:Tm->List D
 |mk k n s as=>[.int k,.int n,.str s,.sl (rows as)]
def rows:List Tm->List (List D)
 | []=>[]
 |t::ts=>row t::rows ts
end
theorem Hv:∀ ts:List Tm,rows ts=ts.map row
 | []=>rfl
 |t::ts=>by simp only[rows,C4,Hv ts]
theorem row_eq(t:Tm):t.row=[.int t.k,.int t.n,.str t.s,.sl (t.as.map row)]:=by
 cases t;simp only[row,Hv,Tm.k,Tm.n,Tm.s,Tm.as]
theorem ind{P:Tm->Prop}(h:∀ t,(∀ a∈t.as,P a)->P t):∀ t,P t:=by
 have key:∀ (N:Nat) (t:Tm),SizeOf.sizeOf t<N->P t:=by
  intro N;induction N with
  |zero=>intro t ht;omega
  |succ N ih =>
   intro t ht;refine h t fun a ha=>ih a ?_
   cases t with
   |mk k n s as =>
    simp only[Tm.as] at ha;have:=List.sizeOf_lt_of_mem ha;simp only[mk.sizeOf_spec] at ht;omega
 exact fun t=>key _ t (Nat.lt_succ_self _)
end Tm
inductive au:Tm->Prop
 |mk {t:Tm}:t.as.length<=1048576->(∀ a∈t.as,au a)->au t
theorem au.len{t:Tm}(h:au t):t.as.length<=1048576:=by cases h;assumption
theorem au.sub{t a:Tm}(h:au t)(ha:a∈t.as):au a:=by cases h with |mk _ h=>exact h a ha
theorem ke(n:Int)(s:ByteArray)(k:Int):au (.mk k n s []):=.mk (by simp[Tm.as]) (by simp[Tm.as])
structure ad4(H:Tab)(e:TypeId)(lay:List CT):Prop where
 eq:lay=[.int .i64,.int .i64,.str,.sl e]
 ty:∃ ti,H.ty e=some ti/\ti.lay=lay
abbrev Bnd:=ByteArray×Tm
def Bnd.row(b:Bnd):List D:=.str b.1::b.2.row
theorem gc(b:Bnd):Bnd.row b=[.str b.1,.int b.2.k,.int b.2.n,.str b.2.s,.sl (b.2.as.map Tm.row)]:=by unfold Bnd.row;rw[Tm.row_eq]
def bnd:List Bnd->ByteArray->Option Tm
 | [],_=>none
 |b::r,s=>if b.1=s then some b.2 else bnd r s
def tm0:Tm:=.mk 0 0 ⟨#[]⟩ []
theorem dr{l:List Bnd}{s:ByteArray}{t:Tm}(h:bnd l s=some t):∃ b∈l,b.2=t:=by
 induction l with
 |nil=>simp[bnd] at h
 |cons b l ih =>
  simp only[bnd] at h;split at h
  ·exact⟨b,C6 ..,by simpa using h⟩
  ·obtain⟨b',h1,h2⟩:=ih h;exact⟨b',C7 _ h1,h2⟩
mutual
def aS(l:List Bnd):Tm->Tm
 |.mk k n s as=>match (if k=1 then bnd l s else none) with
  |some u=>u
  |none=>.mk k n s (aSs l as)
def aSs(l:List Bnd):List Tm->List Tm
 | []=>[]
 |t::ts=>aS l t::aSs l ts
end
theorem Mj(l:List Bnd):∀ ts,aSs l ts=ts.map (aS l)
 | []=>rfl
 |t::ts=>by simp only[aSs,C4,Mj l ts]
theorem eo(l:List Bnd)(t:Tm):aS l t=match (if t.k=1 then bnd l t.s else none) with
 |some u=>u
 |none=>.mk t.k t.n t.s (t.as.map (aS l)):=by cases t;simp only[aS,Mj,Tm.k,Tm.n,Tm.s,Tm.as];rfl
theorem md{l:List Bnd}(hl:∀ b∈l,au b.2):∀ t,au t->au (aS l t):=Tm.ind fun t ih h=>by
 rw[eo];split
 ·rename_i u hu
  split at hu
  ·obtain⟨b,h1,rfl⟩:=dr hu;exact hl b h1
  ·simp at hu
 ·exact .mk (by simpa[Tm.as] using h.len) (fun a ha=>by
   simp only[Tm.as,F8] at ha;obtain⟨x,hx,rfl⟩:=ha;exact ih x hx (h.sub hx))
def isW(t:Tm):Bool:=decide (t.k=3)&&(decide (0<=t.n)&&(decide (t.n<4)&&(decide (t.s=⟨#[]⟩)&&decide (t.as.length=0))))
def Cv:ByteArray:=⟨#[112,108,117,115]⟩
def wb:ByteArray:=⟨#[109,105,110,117,115]⟩
def Ks:ByteArray:=⟨#[116,105,109,101,115]⟩
def isB(s:ByteArray):Bool:=decide (s=Cv)||(decide (s=wb)||decide (s=Ks))
def cmp(s:ByteArray)(a b:Int):Int:=if s=Cv then (a+b).tmod 4 else if s=wb then (a-b+4).tmod 4 else (a*b).tmod 4
def rW1(k n:Int)(s:ByteArray)(as:List Tm):Tm :=
 match as with
 | [x,y]=>if k=2/\n=0/\isB s=true/\isW x=true/\isW y=true then .mk 3 (cmp s x.n y.n) ⟨#[]⟩ [] else .mk k n s as
 |_=>.mk k n s as
mutual
def rW:Tm->Tm
 |.mk k n s as=>rW1 k n s (rWs as)
def rWs:List Tm->List Tm
 | []=>[]
 |t::ts=>rW t::rWs ts
end
theorem Mk:∀ ts,rWs ts=ts.map rW
 | []=>rfl
 |t::ts=>by simp only[rWs,C4,Mk ts]
theorem jf(t:Tm):rW t=rW1 t.k t.n t.s (t.as.map rW):=by cases t;simp only[rW,Mk,Tm.k,Tm.n,Tm.s,Tm.as]
theorem Oq{k n:Int}{s:ByteArray}{as:List Tm}(h:as.length<=1048576)(ha:∀ a∈as,au a):au (rW1 k n s as):=by
 unfold rW1;split
 ·split
  ·exact ke ..
  ·exact .mk (by simp[Tm.as]) (by simpa[Tm.as] using ha)
 ·exact .mk h ha
theorem Ac:∀ t,au t->au (rW t):=Tm.ind fun t ih h=>by
 rw[jf];exact Oq (by simpa using h.len) fun a ha=>by
  simp only[F8] at ha;obtain⟨x,hx,rfl⟩:=ha;exact ih x hx (h.sub hx)
def gh(n:Nat):Int:=if n<=3 then 4 ^ n else 0
def isC(n:Nat)(c:Int):Bool:=decide (0<=c)&&decide (c<gh n)
def vals(n:Nat)(c:Int):List Int :=
 if isC n c then (match n with
  |0=>[]
  |1=>[c.tmod 4]
  |2=>[(c.tdiv 4).tmod 4,c.tmod 4]
  |_=>[((c.tdiv 4).tdiv 4).tmod 4,(c.tdiv 4).tmod 4,c.tmod 4]) else []
def word(n:Int):Tm:=.mk 3 n ⟨#[]⟩ []
def bo(vars:List ByteArray)(c:Int):List Bnd:=(vars.zip (vals vars.length c)).map fun p=>(p.1,word p.2)
def dh(vars:List ByteArray)(t:Tm)(c:Int):Tm:=rW (aS (bo vars c) t)
theorem er(vars:List ByteArray)(c:Int):∀ b∈bo vars c,au b.2:=fun b hb=>by
 unfold bo at hb;simp only[F8] at hb;obtain⟨p,_,rfl⟩:=hb;exact ke ..
theorem Ad{vars:List ByteArray}{t:Tm}(h:au t)(c:Int):au (dh vars t c):=Ac _ (md (er vars c) t h)
theorem jg{α:Type}{F:Nat->aa->R}{xs:List α}(g:α->List D){K:aa->R}
 (hs:∀ i (hi:i<xs.length) acc,acc.length=i->F i acc=F (i+1) (acc++[g xs[i]])) (he:∀ acc,F xs.length acc=K acc):F 0 []=K (xs.map g):=by
 have key:∀ (n i:Nat),i+n=xs.length->F i ((xs.take i).map g)=K (xs.map g):=by
  intro n;induction n with
  |zero =>
   intro i hi;have:i=xs.length:=by omega
   subst this;rw[he,List.take_length]
  |succ n ih =>
   intro i hi;have hlt:i<xs.length:=by omega
   rw[hs i hlt _ (by simp;omega),<-ih (i+1) (by omega),U2 hlt]
   simp only[D5,C4,D1]
 simpa using key xs.length 0 (by omega)
theorem Cw{α:Type}{F:Nat->R}{xs:List α}{p:α->Bool}{A:R}{B:Nat->α->R}(hs:∀ i (hi:i<xs.length),F i=bif p xs[i] then B i xs[i] else F (i+1))(he:F xs.length=A) :
 (xs.find? p=none/\F 0=A)\/∃ i,∃ hi:i<xs.length,xs.find? p=some xs[i]/\F 0=B i xs[i]:=by
 have key:∀ (n i:Nat),i+n=xs.length->((xs.drop i).find? p=none/\F i=A)\/∃ j,∃ hj:j<xs.length,(xs.drop i).find? p=some xs[j]/\F i=B j xs[j]:=by
  intro n;induction n with
  |zero =>
   intro i hi;have:i=xs.length:=by omega
   subst this;left;rw[C8];exact⟨rfl,he⟩
  |succ n ih =>
   intro i hi;have hlt:i<xs.length:=by omega
   rw[hs i hlt,B8 hlt];simp only[P8];cases hp:p xs[i] with
   |true=>exact .inr ⟨i,hlt,by simp,by simp⟩
   |false=>simpa using ih (i+1) (by omega)
 simpa using key xs.length 0 (by omega)
theorem Hw(l:List Bnd)(s:ByteArray):bnd l s=(l.find? fun b=>decide (b.1=s)).map (·.2):=by
 induction l with
 |nil=>rfl
 |cons b l ih =>
  simp only[bnd,P8];by_cases h:b.1=s
  ·simp[h]
  ·simp[h,ih]
theorem ab{α:Type}{xs:List α}{g:α->List D}{i:Nat}(hi:i<xs.length):rowAt (xs.map g) i=g xs[i]:=by simp[rowAt,O5,hi]
end Go.Q
end
section
namespace Go.Q
open Go
def ag(s:ByteArray):List D:=[.str s]
def al(n:Int):List D:=[.int n]
def me{α σ:Type}(step:α->σ->Option σ):List α->σ->Option σ
 | [],s=>some s
 |x::xs,s=>match step x s with
  |some s'=>me step xs s'
  |none=>none
theorem Cx{α σ:Type}{F:Nat->σ->R}{xs:List α}(step:α->σ->Option σ){A:σ->R}{B:R}(hs:∀ i (hi:i<xs.length) s,F i s=match step xs[i] s with |some s'=>F (i+1) s' |none=>B)(he:∀ s,F xs.length s=A s)(s:σ) :
 F 0 s=match me step xs s with |some r=>A r |none=>B:=by
 have key:∀ (n i:Nat) (s:σ),i+n=xs.length->F i s=match me step (xs.drop i) s with |some r=>A r |none=>B:=by
  intro n;induction n with
  |zero =>
   intro i s hi;have:i=xs.length:=by omega
   subst this;rw[C8,he];rfl
  |succ n ih =>
   intro i s hi;have hlt:i<xs.length:=by omega
   rw[hs i hlt,B8 hlt];simp only[me];cases step xs[i] s with
   |none=>rfl
   |some s'=>exact ih (i+1) s' (by omega)
 simpa using key xs.length 0 s (by omega)
theorem uf(n:Nat)(c:Int):(vals n c).length<=n:=by
 unfold vals;split
 ·rename_i h
  match n with
  |0=>simp
  |1=>simp
  |2=>simp
  |n+3 =>
   simp
 ·simp
theorem ug{n:Nat}(h:3<n):gh n=0:=by unfold gh;rw[H6 (by omega)]
theorem mv(n:Nat):0<=gh n/\gh n<=64:=by
 by_cases h:3<n
 ·rw[ug h];decide
 ·obtain rfl |rfl |rfl |rfl:n=0\/n=1\/n=2\/n=3:=by omega
  all_goals decide
theorem lc{n:Nat}{c:Int}(h:isC n c=true):n<=3/\0<=c/\c<64:=by
 simp only[isC,B9,decide_eq_true_eq] at h;obtain⟨h1,h2⟩:=h;have h3:=mv n;by_cases hn:3<n
 ·rw[ug hn] at h2;omega
 ·omega
def fv(vars:List ByteArray)(c:Int)(l:List Bnd)(s:ByteArray)(out:Int):Option Int :=
 match bnd l s with
 |none=>none
 |some t=>if isW (dh vars t c) then some (IntKind.i64.wrap (IntKind.i64.wrap (4*out)+(dh vars t c).n)) else none
end Go.Q
namespace Go.Q
def fm(vars:List ByteArray)(c:Int)(target:List ByteArray)(l:List Bnd):Int×Bool :=
 if isC vars.length c=true/\target.length<=3 then (match me (fv vars c l) target 0 with |some r=>(r,true) |none=>(0,false)) else (0,false)
theorem Cy(vars:List ByteArray)(c:Int)(target:List ByteArray)(l:List Bnd):(if isC vars.length c=true/\target.length<=3 then (match me (fv vars c l) target 0 with |some r=>(some (0,[.int r,.bool true]):R) |none=>some (0,[.int 0,.bool false])) else some (0,[.int 0,.bool false])) =
 some (0,[.int (fm vars c target l).1,.bool (fm vars c target l).2]):=by
 unfold fm;split
 ·cases me (fv vars c l) target 0<;>rfl
 ·rfl
end Go.Q
end
section
namespace Go.Q
open Go
namespace Tm
mutual
def names:Tm->List ByteArray
 |.mk k _ s as=>(if k=1 then [s] else [])++Fa as
def Fa:List Tm->List ByteArray
 | []=>[]
 |t::ts=>names t++Fa ts
end
theorem Cz:∀ ts,Fa ts=ts.flatMap names
 | []=>rfl
 |t::ts=>by simp only[Fa,P0,Cz ts]
theorem names_eq(t:Tm):t.names=(if t.k=1 then [t.s] else [])++t.as.flatMap names:=by cases t;simp only[names,Cz,Tm.k,Tm.s,Tm.as];rfl
theorem as_mk(k n:Int)(s:ByteArray)(as:List Tm):(Tm.mk k n s as).as=as:=rfl
theorem k_mk(k n:Int)(s:ByteArray)(as:List Tm):(Tm.mk k n s as).k=k:=rfl
theorem s_mk(k n:Int)(s:ByteArray)(as:List Tm):(Tm.mk k n s as).s=s:=rfl
mutual
def nodes:Tm->Nat
 |.mk _ _ _ as=>1+nodesL as
def nodesL:List Tm->Nat
 | []=>0
 |t::ts=>nodes t+nodesL ts
end
theorem Da:∀ ts,nodesL ts=(ts.map nodes).sum
 | []=>rfl
 |t::ts=>by simp only[nodesL,C4,K1,Da ts]
theorem nodes_eq(t:Tm):t.nodes=1+(t.as.map nodes).sum:=by cases t;simp only[nodes,Da,Tm.as]
end Tm
theorem Hx{α:Type}{xs:List α}{f:α->List ByteArray}{g:α->Nat}(h:∀ x∈xs,(f x).length<=g x):(xs.flatMap f).length<=(xs.map g).sum:=by
 induction xs with
 |nil=>simp
 |cons x xs ih =>
  simp only[P0,E6,C4,K1];have h1:=h x (C6 ..);have h2:=ih fun y hy=>h y (C7 _ hy)
  omega
theorem bq:∀ t:Tm,t.names.length<=t.nodes:=Tm.ind fun t ih=>by
 rw[Tm.names_eq,Tm.nodes_eq,E6];have:=Hx (xs:=t.as) (f:=Tm.names) (g:=Tm.nodes) ih;by_cases hk:t.k=1
 ·simp only[H5 hk,C2,C5];omega
 ·simp only[H6 hk,C5];omega
theorem Rn{α:Type}{xs:List α}{f g:α->Nat}(h:∀ x∈xs,f x<=g x):(xs.map f).sum<=(xs.map g).sum:=by
 induction xs with
 |nil=>simp
 |cons x xs ih =>
  simp only[C4,K1];have h1:=h x (C6 ..);have h2:=ih fun y hy=>h y (C7 _ hy)
  omega
theorem dt{α:Type}{xs:List α}{f:α->Nat}{x:α}(h:x∈xs):f x<=(xs.map f).sum:=by
 induction xs with
 |nil=>simp at h
 |cons y xs ih =>
  simp only[C4,K1];rcases E1.1 h with rfl |h
  ·omega
  ·have:=ih h;omega
theorem cu{xs:List Tm}:xs.length<=(xs.map Tm.nodes).sum:=by
 induction xs with
 |nil=>simp
 |cons x xs ih =>
  simp only[C4,K1,C2];have:=Tm.nodes_eq x;omega
theorem ao:∀ t:Tm,t.nodes<=1048577->au t:=Tm.ind fun t ih h=>by
 have h1:=Tm.nodes_eq t;have h2:=cu (xs:=t.as);exact .mk (by omega) fun a ha=>ih a ha (by have:=dt (f:=Tm.nodes) ha;omega)
theorem uj{l:List Bnd}(hl:∀ b∈l,b.2.nodes=1):∀ t,(aS l t).nodes<=t.nodes:=Tm.ind fun t ih=>by
 rw[eo];have h1:=Tm.nodes_eq t;split
 ·rename_i u hu
  split at hu
  ·obtain⟨b,h1,rfl⟩:=dr hu;rw[hl b h1];omega
  ·simp at hu
 ·rw[Tm.nodes_eq]
  simp only[Tm.as_mk,K9];have:=Rn (xs:=t.as) (f:=Tm.nodes ∘ aS l) (g:=Tm.nodes) ih;omega
theorem Ot(k n:Int)(s:ByteArray)(us:List Tm):(rW1 k n s us).nodes<=1+(us.map Tm.nodes).sum:=by
 unfold rW1;split
 ·split
  ·simp only[Tm.nodes,Tm.nodesL];omega
  ·rw[Tm.nodes_eq,Tm.as_mk];omega
 ·rw[Tm.nodes_eq,Tm.as_mk];omega
theorem gi:∀ t,(rW t).nodes<=t.nodes:=Tm.ind fun t ih=>by
 have h1:=Tm.nodes_eq t;have h2:=Rn (xs:=t.as) (f:=Tm.nodes ∘ rW) (g:=Tm.nodes) ih;have h3:=Ot t.k t.n t.s (t.as.map rW);rw[K9] at h3;rw[jf];omega
theorem Db{t:Tm}(h:isW t=true):t.names=[]:=by
 simp only[isW,B9,decide_eq_true_eq] at h;rw[Tm.names_eq,H6 (by omega),F9.1 h.2.2.2.2]
 rfl
theorem Ou(k n:Int)(s:ByteArray)(us:List Tm):(rW1 k n s us).names=(if k=1 then [s] else [])++us.flatMap Tm.names:=by
 unfold rW1;split
 ·rename_i x y
  split
  ·rename_i h
   have e1:=Db h.2.2.2.1;have e2:=Db h.2.2.2.2;obtain⟨rfl,_⟩:=h;show([]:List ByteArray)=([]:List ByteArray)++[x,y].flatMap Tm.names
   simp[e1,e2]
  ·rw[Tm.names_eq];rfl
 ·rw[Tm.names_eq];rfl
theorem Ae{xs:List Tm}{f g:Tm->List ByteArray}(h:∀ x∈xs,f x=g x):xs.flatMap f=xs.flatMap g:=by
 induction xs with
 |nil=>rfl
 |cons x xs ih=>rw[P0,P0,h x (C6 ..),ih fun y hy=>h y (C7 _ hy)]
theorem Af:∀ t,(rW t).names=t.names:=Tm.ind fun t ih=>by
 have e:(t.as.map rW).flatMap Tm.names=t.as.flatMap Tm.names:=by
  rw[List.flatMap_map];exact Ae fun x hx=>ih x hx
 rw[jf,Tm.names_eq t,<-e];exact Ou ..
def isG(t:Tm):Bool:=decide ((t.names.length:Int)=0)
theorem Ro(t:Tm):isG (rW t)=isG t:=by unfold isG;rw[Af]
structure Gu where
 k:Int
 l:Tm
 r:Tm
def Gu.row(g:Gu):List D:=[.int g.k,.int g.l.k,.int g.l.n,.str g.l.s,.sl (g.l.as.map Tm.row),.int g.r.k,.int g.r.n,.str g.r.s,.sl (g.r.as.map Tm.row)]
noncomputable def holds(g:Gu):Bool :=
 isG g.l&&(isG g.r&&(if g.k=1 then eqb (rW g.l).row (rW g.r).row else if g.k=2 then !eqb (rW g.l).row (rW g.r).row else if g.k=3 then isW (rW g.l)&&(isW (rW g.r)&&decide ((rW g.l).n<(rW g.r).n)) else false))
def di(l:List Bnd)(g:Gu):Gu:=⟨g.k,aS l g.l,aS l g.r⟩
def Gu.ok(g:Gu):Prop:=g.l.nodes<=1048577/\g.r.nodes<=1048577
theorem Ml{l:List Bnd}(hl:∀ b∈l,b.2.nodes=1){g:Gu}(h:g.ok):(di l g).ok:=⟨G7 (uj hl _) h.1,G7 (uj hl _) h.2⟩
theorem pj(vars:List ByteArray)(c:Int):∀ b∈bo vars c,b.2.nodes=1:=fun b hb=>by
 unfold bo at hb;simp only[F8] at hb;obtain⟨p,_,rfl⟩:=hb;simp[word,Tm.nodes,Tm.nodesL]
noncomputable def qg(vars:List ByteArray)(gs:List Gu)(c:Int):Bool:=gs.all fun g=>holds (di (bo vars c) g)
noncomputable def kr(vars:List ByteArray)(gs:List Gu):List Nat:=(T6 (gh vars.length).toNat).filter fun c=>qg vars gs (c:Int)
theorem xu{F:Nat->aa->R}{N:Nat}{p:Nat->Bool}{g:Nat->List D}{K:aa->R}(hs:∀ i acc,i<N->acc.length<=i->F i acc=if p i then F (i+1) (acc++[g i]) else F (i+1) acc)(he:∀ acc,F N acc=K acc) :
 F 0 []=K (((T6 N).filter p).map g):=by
 have key:∀ (n i:Nat),i+n=N->F i (((T6 i).filter p).map g)=K (((T6 N).filter p).map g):=by
  intro n;induction n with
  |zero =>
   intro i hi;have:i=N:=by omega
   subst this;rw[he]
  |succ n ih =>
   intro i hi;have hl:(((T6 i).filter p).map g).length<=i:=by
    rw[B6];exact G7 (Q0 _ _) (by simp)
   rw[hs i _ (by omega) hl,<-ih (i+1) (by omega),List.range_succ,List.filter_append]
   cases h:p i with
   |true=>simp[h]
   |false=>simp[h]
 simpa using key N 0 (by omega)
theorem Hy{α:Type}{F:Nat->R}{xs:List α}{p:α->Bool}{A B:R}(hs:∀ i (hi:i<xs.length),F i=bif p xs[i] then F (i+1) else B)(he:F xs.length=A):F 0=bif xs.all p then A else B:=by
 have key:∀ (n i:Nat),i+n=xs.length->F i=bif (xs.drop i).all p then A else B:=by
  intro n;induction n with
  |zero =>
   intro i hi;have:i=xs.length:=by omega
   subst this;rw[he,C8];rfl
  |succ n ih =>
   intro i hi;have hlt:i<xs.length:=by omega
   rw[hs i hlt,ih (i+1) (by omega),B8 hlt,J1]
   cases p xs[i]<;>rfl
 simpa using key xs.length 0 (by omega)
theorem Ov{α:Type}{F:Nat->Bool->R}{xs:List α}{p:α->Bool}{A:Bool->R}(hs:∀ i (hi:i<xs.length) b,F i b=F (i+1) (b&&p xs[i]))(he:∀ b,F xs.length b=A b):F 0 true=A (xs.all p):=by
 have key:∀ (n i:Nat) (b:Bool),i+n=xs.length->F i b=A (b&&(xs.drop i).all p):=by
  intro n;induction n with
  |zero =>
   intro i b hi;have:i=xs.length:=by omega
   subst this;rw[he,C8];simp
  |succ n ih =>
   intro i b hi;have hlt:i<xs.length:=by omega
   rw[hs i hlt,ih (i+1) _ (by omega),B8 hlt,J1,Bool.and_assoc]
 simpa using key xs.length 0 true (by omega)
def aj(r:R)(Q:Nat×List D->Prop):Prop:=∃ x,r=some x/\Q x
theorem aj.bind{r:R}{f:Nat×List D->R}{P Q:Nat×List D->Prop}(h:aj r P)(k:∀ x,P x->aj (f x) Q):aj (r.bind f) Q:=by
 obtain⟨x,rfl,hx⟩:=h;exact k x hx
theorem aj.ite{c:Bool}{a b:R}{Q:Nat×List D->Prop}(h1:c=true->aj a Q)(h2:c=false->aj b Q):aj (bif c then a else b) Q:=by
 cases c
 ·exact h2 rfl
 ·exact h1 rfl
theorem aj.ret{x:Nat×List D}{Q:Nat×List D->Prop}(h:Q x):aj (some x) Q:=⟨x,rfl,h⟩
theorem aj.mono{r:R}{P Q:Nat×List D->Prop}(h:aj r P)(k:∀ x,P x->Q x):aj r Q:=by
 obtain⟨x,h1,h2⟩:=h;exact⟨x,h1,k x h2⟩
theorem Rp(a:Int):0<=Bl .i64 a 255/\Bl .i64 a 255<=255:=by
 unfold Bl;have h:(BitVec.ofInt IntKind.i64.bits a &&& BitVec.ofInt IntKind.i64.bits 255).toNat<=255:=by
  rw[BitVec.toNat_and];exact G7 Nat.and_le_right (by decide)
 rw[IntWalk.i64_in _ (by omega)]
 omega
end Go.Q
namespace Go.Q
open Go
theorem Hz{α:Type}{F:Nat->aa->R}{xs:List α}(g:α->aa)(a0:aa){K:aa->R}(hs:∀ i (hi:i<xs.length) acc,(acc++g xs[i]).length<=a0.length+(xs.flatMap g).length->F i acc=F (i+1) (acc++g xs[i]))(he:∀ acc,F xs.length acc=K acc) :
 F 0 a0=K (a0++xs.flatMap g):=by
 have key:∀ (n i:Nat),i+n=xs.length->F i (a0++(xs.take i).flatMap g)=K (a0++xs.flatMap g):=by
  intro n;induction n with
  |zero =>
   intro i hi;have:i=xs.length:=by omega
   subst this;rw[he,List.take_length]
  |succ n ih =>
   intro i hi;have hlt:i<xs.length:=by omega
   have e:(xs.take (i+1)).flatMap g=(xs.take i).flatMap g++g xs[i]:=by
    rw[U2 hlt,List.flatMap_append,P0,List.flatMap_nil,G8]
   have hl:((xs.take (i+1)).flatMap g).length<=(xs.flatMap g).length:=by
    conv=>rhs;rw[<-List.take_append_drop (i+1) xs,List.flatMap_append,E6]
    omega
   rw[hs i hlt _ (by rw[E2,<-e,E6];omega),E2,<-e]
   exact ih (i+1) (by omega)
 simpa using key xs.length 0 (by omega)
theorem si(t:Tm):t.names.map ag=(if t.k=1 then [ag t.s] else [])++t.as.flatMap fun a=>a.names.map ag:=by
 rw[Tm.names_eq,D5,List.map_flatMap];split<;>rfl
theorem Dc(t:Tm):(t.as.flatMap fun a=>a.names.map ag).length<=(t.as.map Tm.nodes).sum:=by
 have:=Hx (xs:=t.as) (f:=Tm.names) (g:=Tm.nodes) fun x _=>bq x
 have e:(t.as.flatMap fun a=>a.names.map ag)=(t.as.flatMap Tm.names).map ag:=by rw[List.map_flatMap]
 rw[e,B6];exact this
end Go.Q
end
section
namespace Go.Q.S
open Go Go.Q
theorem Ia{d:Nat}(h:d<=64):IntKind.i64.wrap (((d+1:Nat):Int)-1)=(d:Int):=by
 unfold IntKind.wrap;simp[IntKind.bits,IntKind.signed];omega
end Go.Q.S
end
section
/- Marks: numbers written into all that a row of data holds,and read again. -/
namespace Go.Q.S
open Go Go.Q
variable{mt:Int->ByteArray}
theorem over_row_at{rows:aa}{i:Nat}{r:List D}(hi:i<rows.length):rowAt (over i [r] rows) i=r:=xo hi
theorem over_row_len{rows:aa}{i:Nat}{r:List D}(hi:i<rows.length):(over i [r] rows).length=rows.length:=cc _ _ _ (by simp;omega)
theorem over_row_two{rows:aa}{i:Nat}{x y:List D}(hi:i<rows.length):over i [y] (over i [x] rows)=over i [y] rows:=vy hi
end Go.Q.S
end
section
/- Terms that are made are well typed;how many marks they bear. -/
namespace Go.Q.S
open Go Go.Q
def i64ok(n:Int):Prop:=(Lit.int .i64 n).wf=true
theorem i64ok_of{n:Int}(h:-9223372036854775808<=n)(h':n<=9223372036854775807):i64ok n:=by
 have h1:IntKind.i64.min=-9223372036854775808:=by decide
 have h2:IntKind.i64.max=9223372036854775807:=by decide
 unfold i64ok Lit.wf;simp only[h1,h2,B9,decide_eq_true_eq];exact⟨h,h'⟩
section
variable{H:Tab}{e:TypeId}{lay:List CT}(hT:ad4 H e lay)
include hT
omit hT in
theorem cmp_ok{s:ByteArray}{x y:Tm}(hx:isW x=true)(hy:isW y=true):i64ok (cmp s x.n y.n):=by
 simp only[isW,B9,decide_eq_true_eq] at hx hy;obtain⟨_,a1,a2,_⟩:=hx;obtain⟨_,b1,b2,_⟩:=hy;unfold cmp;split
 ·have h1:=P1 (x.n+y.n) (show(0:Int)<4 by decide)
  have h2:=Q6 4 (show 0<=x.n+y.n by omega)
  exact i64ok_of (by omega) (by omega)
 ·split
  ·have h1:=P1 (x.n-y.n+4) (show(0:Int)<4 by decide)
   have h2:=Q6 4 (show 0<=x.n-y.n+4 by omega)
   exact i64ok_of (by omega) (by omega)
  ·have h1:=P1 (x.n*y.n) (show(0:Int)<4 by decide)
   have h2:=Q6 4 (show 0<=x.n*y.n from Int.mul_nonneg a1 b1)
   exact i64ok_of (by omega) (by omega)
end
def instR(vars:List ByteArray)(t:Tm)(c:Int):Tm:=if isC vars.length c then dh vars t c else tm0
theorem instR_small{vars:List ByteArray}{t:Tm}(h:au t)(c:Int):au (instR vars t c):=by
 unfold instR;split
 ·exact Ad h c
 ·exact ke ..
theorem instR_nodes{vars:List ByteArray}{t:Tm}(c:Int):(instR vars t c).nodes<=t.nodes:=by
 unfold instR;split
 ·exact G7 (gi _) (uj (pj vars c) t)
 ·have h1:tm0.nodes=1:=by rw[Tm.nodes_eq];simp[tm0,Tm.as]
  have:=Tm.nodes_eq t;omega
end Go.Q.S
end
section
/- Cells Vs together;filters that may break off. -/
namespace Go.Q.S
open Go Go.Q
section
variable{H:Tab}{ds:List D}{cts:List CT}
end
theorem wc(t:Tm):tm0.nodes<=t.nodes:=by
 have h1:tm0.nodes=1:=by rw[Tm.nodes_eq];simp[tm0,Tm.as]
 have:=Tm.nodes_eq t;omega
end Go.Q.S
end
section
namespace Go.Q
open Go
theorem we(a0:D)(l:List D):nth (a0::l) 0=a0:=rfl
theorem yg(a0 a1:D)(l:List D):nth (a0::a1::l) 1=a1:=rfl
theorem yh(a0 a1 a2:D)(l:List D):nth (a0::a1::a2::l) 2=a2:=rfl
theorem yi(a0 a1 a2 a3:D)(l:List D):nth (a0::a1::a2::a3::l) 3=a3:=rfl
theorem yj(a0 a1 a2 a3 a4:D)(l:List D):nth (a0::a1::a2::a3::a4::l) 4=a4:=rfl
theorem yk(a0 a1 a2 a3 a4 a5:D)(l:List D):nth (a0::a1::a2::a3::a4::a5::l) 5=a5:=rfl
theorem yl(a0 a1 a2 a3 a4 a5 a6:D)(l:List D):nth (a0::a1::a2::a3::a4::a5::a6::l) 6=a6:=rfl
theorem ym(a0 a1 a2 a3 a4 a5 a6 a7:D)(l:List D):nth (a0::a1::a2::a3::a4::a5::a6::a7::l) 7=a7:=rfl
theorem yn(a0 a1 a2 a3 a4 a5 a6 a7 a8:D)(l:List D):nth (a0::a1::a2::a3::a4::a5::a6::a7::a8::l) 8=a8:=rfl
theorem yo(a0 a1 a2 a3 a4 a5 a6 a7 a8 a9:D)(l:List D):nth (a0::a1::a2::a3::a4::a5::a6::a7::a8::a9::l) 9=a9:=rfl
theorem ne(a0 a1 a2 a3 a4 a5 a6 a7 a8 a9 a10:D)(l:List D):nth (a0::a1::a2::a3::a4::a5::a6::a7::a8::a9::a10::l) 10=a10:=rfl
theorem nf(a0 a1 a2 a3 a4 a5 a6 a7 a8 a9 a10 a11:D)(l:List D):nth (a0::a1::a2::a3::a4::a5::a6::a7::a8::a9::a10::a11::l) 11=a11:=rfl
theorem ng(a0 a1 a2 a3 a4 a5 a6 a7 a8 a9 a10 a11 a12:D)(l:List D):nth (a0::a1::a2::a3::a4::a5::a6::a7::a8::a9::a10::a11::a12::l) 12=a12:=rfl
theorem nj(a0 a1 a2 a3 a4 a5 a6 a7 a8 a9 a10 a11 a12 a13:D)(l:List D):nth (a0::a1::a2::a3::a4::a5::a6::a7::a8::a9::a10::a11::a12::a13::l) 13=a13:=rfl
theorem nk(a0 a1 a2 a3 a4 a5 a6 a7 a8 a9 a10 a11 a12 a13 a14:D)(l:List D):nth (a0::a1::a2::a3::a4::a5::a6::a7::a8::a9::a10::a11::a12::a13::a14::l) 14=a14:=rfl
theorem nn(a0 a1 a2 a3 a4 a5 a6 a7 a8 a9 a10 a11 a12 a13 a14 a15:D)(l:List D):nth (a0::a1::a2::a3::a4::a5::a6::a7::a8::a9::a10::a11::a12::a13::a14::a15::l) 15=a15:=rfl
theorem np(a0 a1 a2 a3 a4 a5 a6 a7 a8 a9 a10 a11 a12 a13 a14 a15 a16:D)(l:List D):nth (a0::a1::a2::a3::a4::a5::a6::a7::a8::a9::a10::a11::a12::a13::a14::a15::a16::l) 16=a16:=rfl
theorem nq(a0 a1 a2 a3 a4 a5 a6 a7 a8 a9 a10 a11 a12 a13 a14 a15 a16 a17:D)(l:List D):nth (a0::a1::a2::a3::a4::a5::a6::a7::a8::a9::a10::a11::a12::a13::a14::a15::a16::a17::l) 17=a17:=rfl
theorem nr(a0 a1 a2 a3 a4 a5 a6 a7 a8 a9 a10 a11 a12 a13 a14 a15 a16 a17 a18:D)(l:List D):nth (a0::a1::a2::a3::a4::a5::a6::a7::a8::a9::a10::a11::a12::a13::a14::a15::a16::a17::a18::l) 18=a18:=rfl
theorem nu(a0 a1 a2 a3 a4 a5 a6 a7 a8 a9 a10 a11 a12 a13 a14 a15 a16 a17 a18 a19:D)(l:List D):nth (a0::a1::a2::a3::a4::a5::a6::a7::a8::a9::a10::a11::a12::a13::a14::a15::a16::a17::a18::a19::l) 19=a19:=rfl
theorem nv(a0 a1 a2 a3 a4 a5 a6 a7 a8 a9 a10 a11 a12 a13 a14 a15 a16 a17 a18 a19 a20:D)(l:List D):nth (a0::a1::a2::a3::a4::a5::a6::a7::a8::a9::a10::a11::a12::a13::a14::a15::a16::a17::a18::a19::a20::l) 20=a20:=rfl
theorem nz(a0 a1 a2 a3 a4 a5 a6 a7 a8 a9 a10 a11 a12 a13 a14 a15 a16 a17 a18 a19 a20 a21:D)(l:List D):nth (a0::a1::a2::a3::a4::a5::a6::a7::a8::a9::a10::a11::a12::a13::a14::a15::a16::a17::a18::a19::a20::a21::l) 21=a21:=rfl
theorem oa(a0 a1 a2 a3 a4 a5 a6 a7 a8 a9 a10 a11 a12 a13 a14 a15 a16 a17 a18 a19 a20 a21 a22:D)(l:List D):nth (a0::a1::a2::a3::a4::a5::a6::a7::a8::a9::a10::a11::a12::a13::a14::a15::a16::a17::a18::a19::a20::a21::a22::l) 22=a22:=rfl
theorem oc(a0 a1 a2 a3 a4 a5 a6 a7 a8 a9 a10 a11 a12 a13 a14 a15 a16 a17 a18 a19 a20 a21 a22 a23:D)(l:List D):nth (a0::a1::a2::a3::a4::a5::a6::a7::a8::a9::a10::a11::a12::a13::a14::a15::a16::a17::a18::a19::a20::a21::a22::a23::l) 23=a23:=rfl
theorem od(a0 a1 a2 a3 a4 a5 a6 a7 a8 a9 a10 a11 a12 a13 a14 a15 a16 a17 a18 a19 a20 a21 a22 a23 a24:D)(l:List D):nth (a0::a1::a2::a3::a4::a5::a6::a7::a8::a9::a10::a11::a12::a13::a14::a15::a16::a17::a18::a19::a20::a21::a22::a23::a24::l) 24=a24:=rfl
theorem oe(a0 a1 a2 a3 a4 a5 a6 a7 a8 a9 a10 a11 a12 a13 a14 a15 a16 a17 a18 a19 a20 a21 a22 a23 a24 a25:D)(l:List D):nth (a0::a1::a2::a3::a4::a5::a6::a7::a8::a9::a10::a11::a12::a13::a14::a15::a16::a17::a18::a19::a20::a21::a22::a23::a24::a25::l) 25=a25:=rfl
theorem dI(n:Int):(D.int n).I=n:=rfl
theorem dB(b:Bool):(D.bool b).B=b:=rfl
theorem dS(s:ByteArray):(D.str s).S=s:=rfl
theorem dL(r:aa):(D.sl r).L=r:=rfl
abbrev Ky:=List UInt8
theorem Mm{a b:ByteArray}(h:a.data.toList=b.data.toList):a=b:=by
 cases a;cases b;simp only at h;congr 1;exact Array.ext' h
theorem uk:∀ (x y:List UInt8),Op.bytesLess x y=decide (x<y)
 |x,[]=>by simp[Op.bytesLess]
 | [],y::ys=>by simp[Op.bytesLess]
 |a::x,b::y=>by
  unfold Op.bytesLess;rw[uk x y];rw[Bool.eq_iff_iff];simp only[P7,B9,decide_eq_true_eq,beq_iff_eq,List.cons_lt_cons_iff]
theorem Wm(a b:ByteArray):ltB a b=decide (a.data.toList<b.data.toList):=by
 unfold ltB;rw[uk,ByteArray.toList_eq,ByteArray.toList_eq]
theorem wg(a:Ky):¬ a<a:=List.lt_irrefl a
theorem Ag{a b c:Ky}(h:a<b)(k:b<c):a<c:=List.lt_trans h k
theorem Kt(a b:Ky):a<b\/a=b\/b<a:=by
 by_cases h:a<b
 ·exact .inl h
 ·by_cases k:b<a
  ·exact .inr (.inr k)
  ·exact .inr (.inl (List.le_antisymm k h))
def Asc(l:List Ky):Prop:=l.Pairwise (·< ·)
theorem Fb:∀ {l m:List Ky},Asc l->Asc m->(∀ x,x∈l↔x∈m)->l=m
 | [],m,hl,hm,h=>by
  cases m with
  |nil=>rfl
  |cons y m=>exact absurd ((h y).2 (C6 ..)) (by simp)
 |x::l,[],hl,hm,h=>absurd ((h x).1 (C6 ..)) (by simp)
 |x::l,y::m,hl,hm,h=>by
  obtain⟨h1,h2⟩:=R5.1 hl;obtain⟨h3,h4⟩:=R5.1 hm;have e:x=y:=by
   rcases E1.1 ((h x).1 (C6 ..)) with e |hx
   ·exact e
   ·rcases E1.1 ((h y).2 (C6 ..)) with e |hy
    ·exact e.symm
    ·exact absurd (Ag (h3 x hx) (h1 y hy)) (wg _)
  subst e;congr 1
  refine Fb h2 h4 fun z=>⟨fun hz=>?_,fun hz=>?_⟩
  ·rcases E1.1 ((h z).1 (C7 _ hz)) with e |hz'
   ·exact absurd (e▸h1 z hz) (wg _)
   ·exact hz'
  ·rcases E1.1 ((h z).2 (C7 _ hz)) with e |hz'
   ·exact absurd (e▸h3 z hz) (wg _)
   ·exact hz'
theorem Ib{l:List Ky}(h:l.Pairwise fun a b=>¬ b<a):Asc (Lib.compact l)/\∀ x,x∈Lib.compact l↔x∈l:=by
 have hg:∀ i j,i<j->j<l.length->¬ l.toArray[j]!<l.toArray[i]!:=fun i j hij hj=>by
  rw[getElem!_pos l.toArray j (by simpa using hj),getElem!_pos l.toArray i (by simp;omega)]
  simp only[List.getElem_toArray];exact List.pairwise_iff_getElem.1 h i j (by omega) hj hij
 unfold Lib.compact Lib.compactUpTo;constructor
 ·unfold Asc
  rw[List.pairwise_map];have hp:((T6 l.length).filter (Lib.keeps l.toArray)).Pairwise fun i j=>i<j/\j<l.length/\Lib.keeps l.toArray j=true:=by
   have h1:(T6 l.length).Pairwise fun i j=>i<j:=List.pairwise_lt_range
   have h2:=h1.sublist (O9 (p:=Lib.keeps l.toArray));refine List.Pairwise.imp_of_mem (fun {a b} ha hb hab=>?_) h2
   have hb':=S0.1 hb;exact⟨hab,by simpa using hb'.1,hb'.2⟩
  refine hp.imp fun {i j} ⟨hij,hj,hk⟩=>?_
  simp only[Lib.keeps,decide_eq_true_eq] at hk;have hne:l.toArray[j]!≠l.toArray[j-1]!:=hk.resolve_left (by omega)
  have h1:l.toArray[j-1]!<l.toArray[j]!:=by
   rcases Kt l.toArray[j-1]! l.toArray[j]! with h |h |h
   ·exact h
   ·exact absurd h.symm hne
   ·exact absurd h (hg (j-1) j (by omega) hj)
  by_cases hij':i=j-1
  ·rw[hij'];exact h1
  ·have h2:=hg i (j-1) (by omega) (by omega)
   rcases Kt l.toArray[i]! l.toArray[j-1]! with h |h |h
   ·exact Ag h h1
   ·rw[h];exact h1
   ·exact absurd h h2
 ·intro x
  simp only[F8,S0,List.mem_range];constructor
  ·rintro⟨j,⟨hj,_⟩,rfl⟩
   rw[getElem!_pos l.toArray j (by simpa using hj)]
   simp
  ·intro hx
   obtain⟨j,hj,rfl⟩:=List.mem_iff_getElem.1 hx;have key:∀ n j (hj:j<l.length),j<=n->∃ k,(k<l.length/\Lib.keeps l.toArray k=true)/\l.toArray[k]! = l[j]:=by
    intro n;induction n with
    |zero =>
     intro j hj hn;obtain rfl:j=0:=by omega
     exact⟨0,⟨hj,by simp[Lib.keeps]⟩,by rw[getElem!_pos l.toArray 0 (by simpa using hj)];simp⟩
    |succ n ih =>
     intro j hj hn;by_cases hk:Lib.keeps l.toArray j=true
     ·exact⟨j,⟨hj,hk⟩,by rw[getElem!_pos l.toArray j (by simpa using hj)];simp⟩
     ·simp only[Lib.keeps,decide_eq_true_eq] at hk
      have h0:j≠0:=fun e=>hk (.inl e)
      have he:l.toArray[j]! = l.toArray[j-1]!:=Classical.byContradiction fun hne=>hk (.inr hne)
      obtain⟨k,hk1,hk2⟩:=ih (j-1) (by omega) (by omega)
      refine⟨k,hk1,hk2.trans ?_⟩;rw[getElem!_pos l.toArray j (by simpa using hj),getElem!_pos l.toArray (j-1) (by simp;omega)] at he
      simpa using he.symm
   exact key j j hj (E7 _)
def kf(x:Ky):List Ky->List Ky
 | []=>[x]
 |y::r=>if y<x then y::kf x r else if y=x then y::r else x::y::r
theorem kg(x z:Ky):∀ l:List Ky,z∈kf x l↔z=x\/z∈l
 | []=>by simp[kf]
 |y::r=>by
  unfold kf;split
  ·simp only[E1,kg x z r];exact⟨fun h=>by rcases h with h |h |h<;>simp[h],fun h=>by rcases h with h |h |h<;>simp[h]⟩
  ·split
   ·rename_i h;subst h;simp
   ·simp
theorem un(x:Ky):∀ {l:List Ky},Asc l->Asc (kf x l)
 | [],h=>by simp[kf,Asc]
 |y::r,h=>by
  obtain⟨h1,h2⟩:=R5.1 h;unfold kf;split
  ·rename_i hyx
   refine R5.2 ⟨fun z hz=>?_,un x h2⟩
   rcases(kg x z r).1 hz with rfl |hz
   ·exact hyx
   ·exact h1 z hz
  ·split
   ·exact h
   ·rename_i h3 h4
    have hxy:x<y:=(Kt x y).elim id fun h=>h.elim (fun h=>absurd h.symm h4) fun h=>absurd h h3
    refine R5.2 ⟨fun z hz=>?_,h⟩
    rcases E1.1 hz with rfl |hz
    ·exact hxy
    ·exact Ag hxy (h1 z hz)
def qs:List Ky->List Ky->List Ky
 | [],acc=>acc
 |x::r,acc=>qs r (kf x acc)
theorem qh:∀ (l:List Ky) {acc:List Ky},Asc acc->Asc (qs l acc)/\∀ z,z∈qs l acc↔z∈l\/z∈acc
 | [],acc,h=>⟨h,by simp[qs]⟩
 |x::r,acc,h=>by
  obtain⟨h1,h2⟩:=qh r (un x h);refine⟨h1,fun z=>?_⟩
  simp only[qs,h2,kg,E1];exact⟨fun h=>by rcases h with h |h |h<;>simp[h],fun h=>by rcases h with (h |h) |h<;>simp[h]⟩
theorem Ow(l:List Ky):(l.mergeSort fun x y=>decide (x<=y)).Pairwise fun a b=>¬ b<a:=by
 have h:=List.pairwise_mergeSort (le:=fun x y:Ky=>decide (x<=y)) (fun a b c h1 h2=>by
  simp only[decide_eq_true_eq] at *;exact List.le_trans h1 h2) (fun a b=>by
  simp only[P7,decide_eq_true_eq];exact List.le_total a b) l
 exact h.imp fun {a b} hab=>by simpa using hab
theorem Fc(l:List Ky):Lib.compact (l.mergeSort fun x y=>decide (x<=y))=qs l []:=by
 obtain⟨h1,h2⟩:=Ib (Ow l);obtain⟨h3,h4⟩:=qh l (acc:=[]) (by simp[Asc])
 refine Fb h1 h3 fun x=>?_
 rw[h2,h4,(List.mergeSort_perm l _).mem_iff];simp
def ofK(k:Ky):ByteArray:=⟨k.toArray⟩
def toK(b:ByteArray):Ky:=b.data.toList
theorem Fd(b:ByteArray):ofK (toK b)=b:=by simp[ofK,toK]
theorem Mn(k:Ky):toK (ofK k)=k:=by simp[ofK,toK]
def bw(l:List ByteArray):List ByteArray:=(qs (l.map toK) []).map ofK
theorem pk(l:List ByteArray)(x:ByteArray):x∈bw l↔x∈l:=by
 unfold bw;rw[F8];constructor
 ·rintro⟨k,hk,rfl⟩
  rcases((qh (l.map toK) (acc:=[]) (by simp[Asc])).2 k).1 hk with hk |hk
  ·obtain⟨b,hb,rfl⟩:=F8.1 hk
   rw[Fd];exact hb
  ·simp at hk
 ·intro hx
  exact⟨toK x,((qh (l.map toK) (acc:=[]) (by simp[Asc])).2 _).2 (.inl (F8.2 ⟨x,hx,rfl⟩)),Fd x⟩
theorem Ah:∀ (l acc:List Ky),(qs l acc).length<=l.length+acc.length
 | [],acc=>by simp[qs]
 |x::r,acc=>by
  have h1:∀ acc:List Ky,(kf x acc).length<=acc.length+1:=fun acc=>by
   induction acc with
   |nil=>simp[kf]
   |cons y acc ih =>
    unfold kf;by_cases h1:y<x
    ·rw[H5 h1];simp only[C2];omega
    ·rw[H6 h1]
     by_cases h2:y=x
     ·rw[H5 h2];exact Nat.le_succ _
     ·rw[H6 h2];simp
  have:=Ah r (kf x acc);have:=h1 acc;simp only[qs,C2];omega
theorem cy(l:List ByteArray):(bw l).length<=l.length:=by
 have:=Ah (l.map toK) [];simpa[bw] using this
theorem qi(k:Ky):fk k=ag (ofK k):=rfl
theorem Ic(l:List Ky):l.map fk=(l.map ofK).map ag:=by rw[K9];rfl
theorem Ie(l:List ByteArray):l.map ag=(l.map toK).map fk:=by
 rw[K9];exact N2 fun b _=>by simp only[Function.comp,qi,Fd]
theorem Wo{a b:Ky}:ofK a=ofK b↔a=b:=⟨fun h=>by rw[<-Mn a,h,Mn],fun h=>h▸rfl⟩
theorem Wp(a b:Ky):ltB (ofK a) (ofK b)=decide (a<b):=by rw[Wm];rfl
theorem Rq(v:Nat)(l:List ByteArray)(h:l.length<4611686018427387904):Cp v [.sl (l.map ag)]=some (0,[.sl (((l.map toK).mergeSort fun x y=>decide (x<=y)).map fk)]):=by
 unfold Cp;simp only;rw[Ie,Ab];simp only;rw[show Nat.blt (l.map toK).length 4611686018427387904=true from E8 (by rw[B6];exact h)]
 rfl
theorem Rr(v:Nat)(l:List Ky)(h:l.length<=9223372036854775807):Cq v [.sl (l.map fk)]=some (0,[.sl ((Lib.compact l).map fk)]):=by
 unfold Cq;simp only;rw[Ab];simp only;rw[show Nat.ble l.length 9223372036854775807=true from E8 h]
 rfl
def ldK(x:Ky):List Ky->Nat
 | []=>0
 |y::r=>if y<x then ldK x r+1 else 0
theorem Rs(x:Ky):∀ l:List Ky,ldK x l<=l.length
 | []=>E7 _
 |y::r=>by unfold ldK;split;·have:=Rs x r;simp only[C2];omega
           ·exact J0 _
theorem Mo(x:Ky):∀ l:List Ky,kf x l=if l[ldK x l]?=some x then l else l.take (ldK x l)++[x]++l.drop (ldK x l)
 | []=>by simp[kf,ldK]
 |y::r=>by
  unfold kf ldK;by_cases h:y<x
  ·rw[H5 h,H5 h,Mo x r]
   simp only[List.getElem?_cons_succ,List.take_succ_cons,List.drop_succ_cons,F4];split<;>rfl
  ·rw[H6 h,H6 h]
   by_cases h2:y=x
   ·rw[H5 h2];simp[h2]
   ·rw[H6 h2];simp[h2]
theorem Rt(x:Ky)(l:List Ky)(a:Nat)(h:a<l.length):ldK x (l.drop a)=if l[a]<x then ldK x (l.drop (a+1))+1 else 0:=by
 rw[B8 h];rfl
end Go.Q
end
section
/- Guards and other rows out of data. -/
namespace Go.Q.S
open Go Go.Q
end Go.Q.S
namespace Go.Q.S
open Go Go.Q
theorem allC_len(vars:List ByteArray)(gs:List Gu):(kr vars gs).length<=64:=by
 unfold kr;refine G7 (Q0 _ _) ?_;have:=(mv vars.length).2;simp;omega
theorem Wq(vars:List ByteArray)(gs:List Gu):∀ x∈kr vars gs,i64ok (x:Int):=fun x hx=>by
 unfold kr at hx;have h1:=(S0.1 hx).1;have:=(mv vars.length).2;simp at h1;exact i64ok_of (by omega) (by omega)
def nRow(i:Nat):List D:=[.int (i:Int)]
end Go.Q.S
end
section
/- Names,terms,signatures,rules: what their checks compute. -/
namespace Go.Q
open Go
theorem qj(s:ByteArray):s.size=s.data.toList.length:=by rw[Array.length_toList];rfl
theorem pm{s:ByteArray}{i:Nat}(h:i<s.data.toList.length):s.get! i=s.data.toList[i]:=by
 have h':i<s.data.size:=by simpa using h
 show s.data[i]! = _
 rw[getElem!_pos s.data i h'];simp
def Bv(b:UInt8):Bool:=(decide (97<=b.toNat)&&decide (b.toNat<=122))||(decide (48<=b.toNat)&&decide (b.toNat<=57))
def Dd(lo hi:Nat):List UInt8->Bool
 | []=>false
 |b::r=>decide ((b::r).length<=8)&&((decide (lo<=b.toNat)&&decide (b.toNat<=hi))&&r.all Bv)
def kh(s:ByteArray):Bool:=Dd 97 122 s.data.toList
def qt(s:ByteArray):Bool:=Dd 65 90 s.data.toList
theorem If(s:ByteArray):s=⟨#[]⟩↔s.data.toList=[]:=⟨fun h=>by rw[h],fun h=>Mm h⟩
theorem nv0(a:D)(l:List D):nth (a::l) 0=a:=id rfl
theorem nvS(a:D)(l:List D)(i:Nat):nth (a::l) (i+1)=nth l i:=id rfl
theorem dvI(n:Int):(D.int n).I=n:=id rfl
theorem dvB(b:Bool):(D.bool b).B=b:=id rfl
theorem dvS(s:ByteArray):(D.str s).S=s:=id rfl
theorem dvL(r:aa):(D.sl r).L=r:=id rfl
namespace Tm
mutual
def depth:Tm->Nat
 |.mk _ _ _ as=>depthL as+1
def depthL:List Tm->Nat
 | []=>0
 |t::ts=>max (depth t) (depthL ts)
end
theorem depth_eq(t:Tm):t.depth=depthL t.as+1:=by cases t;rfl
theorem depth_nodes:∀ t:Tm,t.depth<=t.nodes:=Tm.ind fun t ih=>by
 have h:∀ l:List Tm,(∀ a∈l,a.depth<=a.nodes)->depthL l<=(l.map nodes).sum:=fun l=>by
  induction l with
  |nil=>intro _;exact E7 _
  |cons a l ih =>
   intro hl;have h1:=hl a (C6 ..);have h2:=ih fun b hb=>hl b (C7 _ hb)
   simp only[depthL,C4,K1];omega
 have:=h t.as ih;rw[depth_eq,nodes_eq];omega
def nodeN(t:Tm):Bool :=
 if t.k=1 then decide (t.n=0)&&(decide (t.as.length=0)&&qt t.s) else if t.k=3 then isW t else if t.k=2 then decide (t.n=0)&&kh t.s else false
mutual
def areN:Tm->Bool
 |.mk k n s as=>nodeN (.mk k n s as)&&areNL as
def areNL:List Tm->Bool
 | []=>true
 |t::ts=>areN t&&areNL ts
end
theorem areN_eq(t:Tm):t.areN=(nodeN t&&areNL t.as):=by cases t;rfl
theorem areNL_all:∀ l:List Tm,areNL l=l.all areN
 | []=>rfl
 |t::l=>by simp only[areNL,J1,areNL_all l]
def valid(t:Tm):Bool:=decide (t.nodes<=60)&&(decide (t.depth<=16)&&t.areN)
end Tm
inductive Wt:Tm->Prop
 |mk {t:Tm}:S.i64ok t.k->S.i64ok t.n->t.s.size<=maxLen->t.as.length<=maxLen->(∀ a∈t.as,Wt a)->Wt t
theorem Wt.k{t:Tm}(h:Wt t):S.i64ok t.k:=by cases h;assumption
theorem Wt.n{t:Tm}(h:Wt t):S.i64ok t.n:=by cases h;assumption
theorem Wt.s{t:Tm}(h:Wt t):t.s.size<=maxLen:=by cases h;assumption
theorem Wt.l{t:Tm}(h:Wt t):t.as.length<=maxLen:=by cases h;assumption
theorem Wt.sub{t a:Tm}(h:Wt t)(ha:a∈t.as):Wt a:=by cases h with |mk _ _ _ _ h=>exact h a ha
theorem Ku:∀ t:Tm,Wt t->∀ x∈t.names,x.size<=maxLen:=Tm.ind fun t ih h x hx=>by
 rw[Tm.names_eq] at hx;rcases D6.1 hx with hx |hx
 ·split at hx
  ·simp at hx;rw[hx];exact h.s
  ·simp at hx
 ·obtain⟨a,ha,hx⟩:=K4.1 hx
  exact ih a ha (h.sub ha) x hx
theorem Ru(l:List ByteArray):(bw l).length=l.length↔l.Nodup:=by
 have key:∀ (l acc:List Ky),Asc acc->((qs l acc).length=l.length+acc.length↔(l.Nodup/\∀ x∈l,x∉acc)):=by
  intro l;induction l with
  |nil=>intro acc _;simp[qs]
  |cons x l ih =>
   intro acc ha;have hl:=Ah l (kf x acc);have hmem:x∈acc->kf x acc=acc:=fun hx=>Fb (un x ha) ha fun z=>by
    rw[kg];exact⟨fun h=>h.elim (fun e=>e▸hx) id,.inr⟩
   have hlen:∀ acc:List Ky,x∉acc->(kf x acc).length=acc.length+1:=fun acc=>by
    induction acc with
    |nil=>intro _;rfl
    |cons y acc iha =>
     intro hx;have h1:y≠x:=fun e=>hx (e▸C6 ..)
     have h2:=iha fun h=>hx (C7 _ h)
     unfold kf;by_cases h3:y<x
     ·rw[H5 h3];simp only[C2,h2]
     ·rw[H6 h3,H6 h1];rfl
   have ih':=ih (kf x acc) (un x ha);simp only[qs,C2,List.nodup_cons,List.forall_mem_cons];by_cases hx:x∈acc
   ·rw[hmem hx] at hl ⊢
    constructor
    ·intro h;omega
    ·intro h;exact absurd hx h.2.1
   ·have h1:=hlen acc hx
    rw[show l.length+1+acc.length=l.length+(kf x acc).length by omega,ih']
    constructor
    ·rintro⟨h2,h3⟩
     exact⟨⟨fun hxl=>h3 x hxl ((kg ..).2 (.inl rfl)),h2⟩,hx,fun z hz hza=>h3 z hz ((kg ..).2 (.inr hza))⟩
    ·rintro⟨⟨h2,h3⟩,h4,h5⟩
     exact⟨h3,fun z hz hza=>((kg ..).1 hza).elim (fun e=>h2 (e▸hz)) (h5 z hz)⟩
 have h:=key (l.map toK) [] (by simp[Asc])
 have hn:(l.map toK).Nodup↔l.Nodup:=by
  constructor
  ·exact fun h=>(List.pairwise_map.1 h).imp fun {a b} (hab:toK a≠toK b) (e:a=b)=>hab (congrArg toK e)
  ·exact fun h=>List.pairwise_map.2 (h.imp fun {a b} hab e=>hab (Mm e))
 unfold bw;rw[B6];rw[<-hn];simpa using h
def dis(l:List ByteArray):Bool:=decide l.Nodup
def jk(r:List ByteArray)(s:ByteArray):Bool:=r.any fun y=>decide (y=s)
theorem uo{r:List ByteArray}{s:ByteArray}:jk r s=true↔s∈r:=by
 simp only[jk,R0,decide_eq_true_eq];exact⟨fun ⟨y,h,e⟩=>e▸h,fun h=>⟨s,h,rfl⟩⟩
def wo(l r:List ByteArray):List ByteArray:=l.filter fun s=>!jk r s
abbrev cw:ByteArray:=⟨#[119,111,114,100]⟩
abbrev e0:ByteArray:=⟨#[]⟩
structure OpM where
 n:ByteArray
 a:List ByteArray
 r:ByteArray
def OpM.row(o:OpM):List D:=[.str o.n,.sl (o.a.map ag),.str o.r]
def OpM.ok(o:OpM):Prop:=o.a.length<=1048576
structure pn(ops:List OpM):Prop where
 l:ops.length<=1048576
 a:∀ o∈ops,o.ok
def kj:Option OpM->List D
 |some o=>[.str o.n,.str o.r,.bool true,.sl (o.a.map ag)]
 |none=>[.str e0,.str e0,.bool false,.sl []]
def dp(ops:List OpM)(s:ByteArray):Option OpM:=if isB s then some ⟨s,[cw,cw],cw⟩ else ops.find? fun o=>decide (o.n=s)
theorem Ai{ops:List OpM}(h:∀ o∈ops,o.ok){s:ByteArray}{o:OpM}(hf:dp ops s=some o):o.ok:=by
 unfold dp at hf;split at hf
 ·simp only[C9.injEq] at hf;subst hf;show 2<=1048576;decide
 ·exact h o (List.mem_of_find?_eq_some hf)
abbrev VS:=ByteArray×ByteArray
def VS.row(v:VS):List D:=[.str v.1,.str v.2]
def rb(vs:List VS)(s:ByteArray):ByteArray:=match vs.find? fun v=>decide (v.1=s) with |some v=>v.2 |none=>e0
mutual
def ax(ops:List OpM)(vs:List VS):Tm->ByteArray
 |.mk k n s as=>if k=3 then cw else if k=1 then rb vs s else if k=2 then (match dp ops s with
  |none=>e0
  |some o=>if o.a.length=as.length then (if bn ops vs as o.a then o.r else e0) else e0) else e0
def bn(ops:List OpM)(vs:List VS):List Tm->List ByteArray->Bool
 | [],_=>true
 |t::ts,[]=>true
 |t::ts,x::xs=>(!decide (ax ops vs t=e0)&&decide (ax ops vs t=x))&&bn ops vs ts xs
end
theorem ck(ops:List OpM)(vs:List VS)(t:Tm):ax ops vs t=if t.k=3 then cw else if t.k=1 then rb vs t.s else if t.k=2 then (match dp ops t.s with
 |none=>e0
 |some o=>if o.a.length=t.as.length then (if bn ops vs t.as o.a then o.r else e0) else e0) else e0:=by cases t;simp only[ax,Tm.k,Tm.s,Tm.as];rfl
mutual
def gy(ops:List OpM):Tm->ByteArray->List VS->Option (List VS)
 |.mk k n s as,so,vs=>if k=1 then (match vs.find? fun v=>decide (v.1=s) with
  |some v=>if v.2=so then some vs else none
  |none=>some (vs++[(s,so)])) else fa ops as (if k=2 then (match dp ops s with |some o=>o.a |none=>[]) else []) vs
def fa(ops:List OpM):List Tm->List ByteArray->List VS->Option (List VS)
 | [],_,vs=>some vs
 |t::ts,[],vs=>match gy ops t e0 vs with |some vs'=>fa ops ts [] vs' |none=>none
 |t::ts,x::xs,vs=>match gy ops t x vs with |some vs'=>fa ops ts xs vs' |none=>none
end
theorem kz(ops:List OpM)(t:Tm)(so:ByteArray)(vs:List VS):gy ops t so vs=if t.k=1 then (match vs.find? fun v=>decide (v.1=t.s) with
 |some v=>if v.2=so then some vs else none
 |none=>some (vs++[(t.s,so)])) else fa ops t.as (if t.k=2 then (match dp ops t.s with |some o=>o.a |none=>[]) else []) vs:=by cases t;simp only[gy,Tm.k,Tm.s,Tm.as];rfl
def Bw(ops:List OpM)(t:Tm)(so:ByteArray)(vs:List VS):List D:=match gy ops t so vs with
 |some v=>[.bool true,.sl (v.map VS.row)]
 |none=>[.bool false,.sl (if t.k=1 then vs.map VS.row else [])]
def uq:Option (List VS)->List D
 |some v=>[.bool true,.sl (v.map VS.row)]
 |none=>[.bool false,.sl []]
theorem Ig(ops:List OpM):∀ (l:List Tm),(∀ t∈l,∀ x vs vs',gy ops t x vs=some vs'->vs'.length<=vs.length+t.nodes)->∀ xs vs vs',fa ops l xs vs=some vs'->vs'.length<=vs.length+(l.map Tm.nodes).sum
 | [],_,xs,vs,vs',h=>by simp only[fa,C9.injEq] at h;subst h;simp
 |t::l,ih,xs,vs,vs',h=>by
  have step:∀ x ys,(match gy ops t x vs with |some vs'=>fa ops l ys vs' |none=>none)=some vs'->vs'.length<=vs.length+((t::l).map Tm.nodes).sum:=fun x ys h=>by
   cases hq:gy ops t x vs with
   |none=>rw[hq] at h;simp at h
   |some v =>
    rw[hq] at h;have h1:=ih t (C6 ..) x vs v hq;have h2:=Ig ops l (fun a ha=>ih a (C7 _ ha)) ys v vs' h
    simp only[C4,K1];omega
  cases xs with
  |nil=>exact step _ _ (by simpa only[fa] using h)
  |cons x ys=>exact step _ _ (by simpa only[fa] using h)
theorem kk(ops:List OpM):∀ t:Tm,∀ x vs vs',gy ops t x vs=some vs'->vs'.length<=vs.length+t.nodes:=Tm.ind fun t ih x vs vs' h=>by
 rw[kz] at h;split at h
 ·split at h
  ·split at h
   ·simp only[C9.injEq] at h;subst h;omega
   ·simp at h
  ·simp only[C9.injEq] at h;subst h
   rw[Tm.nodes_eq];simp
 ·have:=Ig ops t.as ih _ _ _ h
  rw[Tm.nodes_eq];omega
def po(ops:List OpM)(t:Tm)(so:ByteArray):Option (List VS):=match gy ops t so [] with
 |some vs=>if so=e0 then none else if ax ops vs t=so then some vs else none
 |none=>none
def Aj(so:List ByteArray)(ops:List OpM):Bool :=
 decide (so.length<=4)&&(dis so&&(decide (ops.length<=16)&&((so.all fun x=>kh x&&!decide (x=cw))&&((ops.all fun o=>kh o.n&&(!isB o.n&&(decide (o.a.length<=3)&&(o.a.all (fun x=>decide (x=cw)||jk so x)&&(decide (o.r=cw)||jk so o.r)))))&&dis (ops.map (·.n))))))
structure RuM where
 n:ByteArray
 l:Tm
 r:Tm
 g:List Gu
def RuM.row(r:RuM):List D:=[.str r.n,.int r.l.k,.int r.l.n,.str r.l.s,.sl (r.l.as.map Tm.row),.int r.r.k,.int r.r.n,.str r.r.s,.sl (r.r.as.map Tm.row),.sl (r.g.map Gu.row)]
def RuM.ok(r:RuM):Prop:=r.l.nodes<=1048577/\r.r.nodes<=1048577/\r.g.length<=1048576/\∀ g∈r.g,g.ok
mutual
def re:Tm->Bool
 |.mk k n s as=>!(decide (k=2)&&isB s)&&km as
def km:List Tm->Bool
 | []=>true
 |t::ts=>re t&&km ts
end
theorem Ih(t:Tm):re t=(!(decide (t.k=2)&&isB t.s)&&km t.as):=by cases t;rfl
def fo(t:Tm)(names:List ByteArray):Bool:=t.names.all fun s=>jk names s
def qu(ops:List OpM)(vs:List VS)(g:Gu):Bool :=
 (decide (1<=g.k)&&decide (g.k<=3))&&(g.l.valid&&(g.r.valid&&(!decide (ax ops vs g.l=e0)&&(decide (ax ops vs g.l=ax ops vs g.r)&&!(decide (g.k=3)&&!decide (ax ops vs g.l=cw))))))
def xv(ops:List OpM)(vs:List VS)(gs:List Gu):Bool:=gs.all (qu ops vs)&&decide (gs.length<=2)
def jm(ops:List OpM)(r:RuM):Bool :=
 kh r.n&&(r.l.valid&&(decide (r.l.k=2)&&(re r.l&&(r.r.valid&&(match dp ops r.l.s with
  |none=>false
  |some o=>match po ops r.l o.r with
   |none=>false
   |some vs=>decide (ax ops vs r.r=o.r)&&(fo r.r r.l.names&&xv ops vs r.g))))))
structure StM where
 o:ByteArray
 a:Int
def StM.row(s:StM):List D:=[.str s.o,.int s.a]
structure DfM where
 so:List ByteArray
 op:List OpM
 ru:List RuM
 st:List StM
structure DfM.ok(d:DfM):Prop where
 so:d.so.length<=1048576
 op:d.op.length<=1048576
 opa:∀ o∈d.op,o.ok
 ru:d.ru.length<=1048576
 rua:∀ r∈d.ru,r.ok
 st:d.st.length<=1048576
def Ox(ops:List OpM)(s:StM):Bool:=match dp ops s.o with
 |none=>false
 |some o=>!isB s.o&&(decide (0<=s.a)&&decide (s.a<o.a.length))
def kn(ops:List OpM):List StM->List StM->Bool
 |_,[]=>true
 |pre,x::r=>Ox ops x&&(!(pre.any fun y=>decide (y.o=x.o)&&decide (y.a=x.a))&&kn ops (pre++[x]) r)
def DfM.valid(d:DfM):Bool:=Aj d.so d.op&&(decide (d.ru.length<=16)&&(decide (d.st.length<=8)&&(d.ru.all (jm d.op)&&(kn d.op [] d.st&&dis (d.ru.map (·.n))))))
end Go.Q
end
section
namespace Go.Q
open Go
structure GuB(g:Gu):Prop where
 wl:Wt g.l
 wr:Wt g.r
 ln:g.l.nodes<=1048577
 rn:g.r.nodes<=1048577
structure RuB(r:RuM):Prop where
 n:r.n.size<=maxLen
 wl:Wt r.l
 wr:Wt r.r
 ln:r.l.nodes<=1048577
 rn:r.r.nodes<=1048577
 g:r.g.length<=1048576
 ga:∀ g∈r.g,GuB g
structure DfB(d:DfM):Prop where
 so:d.so.length<=1048576
 sos:∀ x∈d.so,x.size<=maxLen
 op:pn d.op
 opn:∀ o∈d.op,o.n.size<=maxLen
 ru:d.ru.length<=1048576
 rua:∀ r∈d.ru,RuB r
 st:d.st.length<=1048576
theorem mf(ops:List OpM)(vs:List VS):∀ (l:List Tm) (xs:List ByteArray),l.length<=xs.length->bn ops vs l xs=true->∀ t∈l,ax ops vs t≠e0
 | [],_,_,_,t,ht=>by simp at ht
 |t::l,[],hl,_,_,_=>by simp at hl
 |t::l,x::xs,hl,h,u,hu=>by
  simp only[bn,B9,F1,decide_eq_false_iff_not,decide_eq_true_eq] at h;rcases E1.1 hu with e |hu
  ·exact e▸h.1.1
  ·exact mf ops vs l xs (by simpa using hl) h.2 u hu
theorem Oy{vs:List VS}{s:ByteArray}(h:rb vs s≠e0):∃ v∈vs,v.1=s:=by
 unfold rb at h;cases hq:vs.find? (fun v=>decide (v.1=s)) with
 |none=>rw[hq] at h;exact absurd rfl h
 |some v=>exact⟨v,List.mem_of_find?_eq_some hq,by simpa using List.find?_some hq⟩
theorem xw(ops:List OpM)(vs:List VS):∀ t:Tm,t.areN=true->ax ops vs t≠e0->∀ x∈t.names,∃ v∈vs,v.1=x:=Tm.ind fun t ih hn hs x hx=>by
 rw[Tm.areN_eq,B9,Tm.areNL_all,E3] at hn;obtain⟨h1,h2⟩:=hn;rw[Tm.names_eq] at hx;rw[ck] at hs;unfold Tm.nodeN at h1;by_cases hk1:t.k=1
 ·rw[H5 hk1] at h1
  simp only[B9,decide_eq_true_eq] at h1;have ha:t.as=[]:=F9.1 h1.2.1;rw[ha] at hx;rw[H6 (by omega),H5 hk1] at hs
  simp only[hk1,if_true,List.flatMap_nil,G8,F2] at hx;subst hx;exact Oy hs
 ·rw[H6 hk1] at hx
  obtain⟨a,ha,hxa⟩:=K4.1 hx;by_cases hk3:t.k=3
  ·rw[H6 hk1,H5 hk3] at h1
   have:t.as=[]:=by simp only[isW,B9,decide_eq_true_eq] at h1;exact F9.1 h1.2.2.2.2
   rw[this] at ha;simp at ha
  ·rw[H6 hk3,H6 hk1] at hs
   by_cases hk2:t.k=2
   ·rw[H5 hk2] at hs
    cases hf:dp ops t.s with
    |none=>rw[hf] at hs;exact absurd rfl hs
    |some o =>
     rw[hf] at hs;simp only at hs;by_cases hl:o.a.length=t.as.length
     ·rw[H5 hl] at hs
      by_cases hss:bn ops vs t.as o.a=true
      ·exact ih a ha (h2 a ha) (mf ops vs t.as o.a (by omega) hss a ha) x hxa
      ·rw[H6 hss] at hs;exact absurd rfl hs
     ·rw[H6 hl] at hs;exact absurd rfl hs
   ·rw[H6 hk2] at hs;exact absurd rfl hs
theorem Ak(ops:List OpM):∀ (l:List Tm),(∀ t∈l,∀ x vs vs',gy ops t x vs=some vs'->∀ v∈vs',v∈vs\/v.1∈t.names)->∀ xs vs vs',fa ops l xs vs=some vs'->∀ v∈vs',v∈vs\/v.1∈l.flatMap Tm.names
 | [],_,xs,vs,vs',h,v,hv=>by simp only[fa,C9.injEq] at h;subst h;exact .inl hv
 |t::l,ih,xs,vs,vs',h,v,hv=>by
  have step:∀ x ys w,gy ops t x vs=some w->fa ops l ys w=some vs'->v∈vs\/v.1∈(t::l).flatMap Tm.names:=fun x ys w hq h=>by
   simp only[P0,D6];rcases Ak ops l (fun a ha=>ih a (C7 _ ha)) ys w vs' h v hv with h1 |h1
   ·rcases ih t (C6 ..) x vs w hq v h1 with h2 |h2
    ·exact .inl h2
    ·exact .inr (.inl h2)
   ·exact .inr (.inr h1)
  cases xs with
  |nil =>
   simp only[fa] at h;split at h
   ·rename_i w hq;exact step _ _ w hq h
   ·simp at h
  |cons x ys =>
   simp only[fa] at h;split at h
   ·rename_i w hq;exact step _ _ w hq h
   ·simp at h
theorem Kv(ops:List OpM):∀ t:Tm,∀ x vs vs',gy ops t x vs=some vs'->∀ v∈vs',v∈vs\/v.1∈t.names:=Tm.ind fun t ih x vs vs' h v hv=>by
 rw[kz] at h;rw[Tm.names_eq];by_cases hk:t.k=1
 ·rw[H5 hk] at h ⊢
  split at h
  ·split at h
   ·simp only[C9.injEq] at h;subst h;exact .inl hv
   ·simp at h
  ·simp only[C9.injEq] at h;subst h
   rcases D6.1 hv with h1 |h1
   ·exact .inl h1
   ·simp only[F2] at h1;subst h1;simp
 ·rw[H6 hk] at h
  rcases Ak ops t.as ih _ _ _ h v hv with h1 |h1
  ·exact .inl h1
  ·exact .inr (D6.2 (.inr h1))
theorem ut{ops:List OpM}{t:Tm}{x:ByteArray}{vs:List VS}(h:po ops t x=some vs):gy ops t x []=some vs:=by
 unfold po at h;cases hq:gy ops t x [] with
 |none=>rw[hq] at h;simp at h
 |some w =>
  rw[hq] at h;simp only at h;split at h
  ·simp at h
  ·split at h
   ·exact h
   ·simp at h
theorem Kw{ops:List OpM}{t:Tm}{x:ByteArray}{vs:List VS}(h:po ops t x=some vs):∀ v∈vs,v.1∈t.names:=fun v hv=>by
 rcases Kv ops t x [] vs (ut h) v hv with h1 |h1
 ·simp at h1
 ·exact h1
theorem Ii{ops:List OpM}{t:Tm}{x:ByteArray}{vs:List VS}(h:po ops t x=some vs):vs.length<=t.nodes:=by
 have:=kk ops t x [] vs (ut h);simpa using this
theorem ft{t:Tm}{names:List ByteArray}:fo t names=true↔∀ x∈t.names,x∈names:=by
 simp only[fo,E3,uo]
theorem dq{t:Tm}(h:t.valid=true):t.areN=true:=by
 simp only[Tm.valid,B9] at h;exact h.2.2
theorem Ij{ops:List OpM}{vs:List VS}{g:Gu}{names:List ByteArray}(hv:∀ v∈vs,v.1∈names)(h:qu ops vs g=true):fo g.l names=true/\fo g.r names=true:=by
 simp only[qu,B9,F1,decide_eq_false_iff_not,decide_eq_true_eq] at h;obtain⟨_,h1,h2,h3,h4,_⟩:=h;constructor
 ·refine ft.2 fun x hx=>?_
  obtain⟨v,hm,e⟩:=xw ops vs g.l (dq h1) h3 x hx;exact e▸hv v hm
 ·refine ft.2 fun x hx=>?_
  obtain⟨v,hm,e⟩:=xw ops vs g.r (dq h2) (h4▸h3) x hx;exact e▸hv v hm
theorem Kx(l r:List ByteArray):decide ((wo l r).length=0)=l.all fun s=>jk r s:=by
 induction l with
 |nil=>rfl
 |cons x l ih =>
  unfold wo at ih ⊢;rw[O0,J1];cases h:jk r x with
  |true=>simpa using ih
  |false=>simp
theorem Zf(t u:Tm):(wo (bw t.names) (bw u.names)).length=0↔fo t u.names=true:=by
 have:=Kx (bw t.names) (bw u.names);rw[<-decide_eq_true_iff (p:=(wo (bw t.names) (bw u.names)).length=0),this,ft];simp only[E3,uo,pk]
theorem Mp(t:Tm)(ns:List ByteArray):(wo (bw t.names) ns).length=0↔fo t ns=true:=by
 have:=Kx (bw t.names) ns;rw[<-decide_eq_true_iff (p:=(wo (bw t.names) ns).length=0),this,ft];simp only[E3,uo,pk]
def wv(vars:List ByteArray):List VS:=vars.map fun s=>(s,cw)
def jn(d:DfM)(vars:List ByteArray)(t:Tm):Bool :=
 d.valid&&(decide (vars.length<=3)&&(dis vars&&(vars.all qt&&(t.valid&&(fo t vars&&!decide (ax d.op (wv vars) t=e0))))))
structure ClM where
 d:DfM
 v:List ByteArray
 l:Tm
 r:Tm
 g:List Gu
def ClM.row(c:ClM):List D:=[.sl (c.d.so.map ag),.sl (c.d.op.map OpM.row),.sl (c.d.ru.map RuM.row),.sl (c.d.st.map StM.row),.sl (c.v.map ag),.int c.l.k,.int c.l.n,.str c.l.s,.sl (c.l.as.map Tm.row),.int c.r.k,.int c.r.n,.str c.r.s,.sl (c.r.as.map Tm.row),.sl (c.g.map Gu.row)]
structure ClB(c:ClM):Prop where
 d:DfB c.d
 v:c.v.length<=1048576
 vs:∀ x∈c.v,x.size<=maxLen
 wl:Wt c.l
 wr:Wt c.r
 ln:c.l.nodes<=1048577
 rn:c.r.nodes<=1048577
 g:c.g.length<=1048576
 ga:∀ g∈c.g,GuB g
def ClM.valid(c:ClM):Bool:=jn c.d c.v c.l&&(jn c.d c.v c.r&&(decide (ax c.d.op (wv c.v) c.l=ax c.d.op (wv c.v) c.r)&&xv c.d.op (wv c.v) c.g))
theorem Rv(vars:List ByteArray):∀ v∈wv vars,v.1∈vars:=fun v hv=>by
 obtain⟨s,h,e⟩:=F8.1 hv;exact e▸h
end Go.Q
end
section
/- Definitions and claims out of data. -/
namespace Go.Q.S
open Go Go.Q
end Go.Q.S
end
section
/- Matching,firing,sorts along a step. -/
namespace Go.Q
open Go
theorem uu{l l':List Bnd}(h:∀ s,bnd l s=bnd l' s):∀ t,aS l t=aS l' t:=Tm.ind fun t ih=>by
 have hm:t.as.map (aS l)=t.as.map (aS l'):=N2 fun a ha=>ih a ha
 rw[eo,eo l',h,hm]
theorem Kz{l l':List Bnd}(h:∀ s,bnd l s=bnd l' s)(g:Gu):di l g=di l' g:=by
 unfold di;rw[uu h,uu h]
theorem Fe(l l':List Bnd)(s:ByteArray):bnd (l++l') s=match bnd l s with
 |some v=>some v
 |none=>bnd l' s:=by
 induction l with
 |nil=>rfl
 |cons b l ih =>
  simp only[F4,bnd];by_cases h:b.1=s
  ·rw[H5 h,H5 h]
  ·rw[H6 h,H6 h,ih]
mutual
noncomputable def mT:Tm->Tm->List Bnd->Option (List Bnd)
 |.mk k n s as,u,l =>
  if k=1 then (match bnd l s with
   |some v=>if eqb v.row u.row=true then some l else none
   |none=>some (l++[(s,u)]))
  else if k=u.k then (if n=u.n then (if s=u.s then (if as.length=u.as.length then mTs as u.as l else none) else none) else none) else none
noncomputable def mTs:List Tm->List Tm->List Bnd->Option (List Bnd)
 | [],_,l=>some l
 |_::_,[],_=>none
 |t::ts,u::us,l=>match mT t u l with
  |some l'=>mTs ts us l'
  |none=>none
end
theorem Mq(t u:Tm)(l:List Bnd):mT t u l=if t.k=1 then (match bnd l t.s with
 |some v=>if eqb v.row u.row=true then some l else none
 |none=>some (l++[(t.s,u)]))
 else if t.k=u.k then (if t.n=u.n then (if t.s=u.s then (if t.as.length=u.as.length then mTs t.as u.as l else none) else none) else none) else none:=by
 cases t;simp only[mT,Tm.k,Tm.n,Tm.s,Tm.as];rfl
theorem io{t u:Tm}{l l':List Bnd}(h:mT t u l=some l') :
 (t.k=1/\(∃ v,bnd l t.s=some v)/\l'=l)\/(t.k=1/\bnd l t.s=none/\l'=l++[(t.s,u)]) ∨
 (t.k≠1/\t.k=u.k/\t.n=u.n/\t.s=u.s/\t.as.length=u.as.length/\mTs t.as u.as l=some l'):=by
 rw[Mq] at h;by_cases h1:t.k=1
 ·rw[H5 h1] at h
  cases hb:bnd l t.s with
  |some v =>
   rw[hb] at h;simp only at h;split at h
   ·simp only[C9.injEq] at h;exact .inl ⟨h1,⟨v,rfl⟩,h.symm⟩
   ·simp at h
  |none =>
   rw[hb] at h;simp only[C9.injEq] at h;exact .inr (.inl ⟨h1,rfl,h.symm⟩)
 ·rw[H6 h1] at h
  split at h
  ·split at h
   ·split at h
    ·split at h
     ·exact .inr (.inr ⟨h1,by assumption,by assumption,by assumption,by assumption,h⟩)
     ·simp at h
    ·simp at h
   ·simp at h
  ·simp at h
theorem ko(P:Tm->Prop)(hP:∀ t a,P t->a∈t.as->P a):∀ t u l l',P u->(∀ b∈l,P b.2)->mT t u l=some l'->∀ b∈l',P b.2:=Tm.ind fun t ih u l l' hu hl h=>by
 rcases io h with ⟨_,_,e⟩|⟨_,_,e⟩|⟨_,_,_,_,_,h⟩
 ·subst e;exact hl
 ·subst e
  intro b hb;rcases D6.1 hb with hb |hb
  ·exact hl b hb
  ·simp only[F2] at hb;subst hb;exact hu
 ·have key:∀ (ts us:List Tm) (l l':List Bnd),(∀ a∈ts,a∈t.as)->(∀ a∈us,P a)->(∀ b∈l,P b.2)->mTs ts us l=some l'->∀ b∈l',P b.2:=by
   intro ts;induction ts with
   |nil=>intro us l l' _ _ hl h;simp only[mTs,C9.injEq] at h;subst h;exact hl
   |cons a ts ihs =>
    intro us l l' hts hus hl h;cases us with
    |nil=>simp[mTs] at h
    |cons b us =>
     simp only[mTs] at h;split at h
     ·rename_i l1 h1
      exact ihs us l1 l' (fun x hx=>hts x (C7 _ hx)) (fun x hx=>hus x (C7 _ hx)) (ih a (hts a (C6 ..)) b l l1 (hus b (C6 ..)) hl h1) h
     ·simp at h
  exact key _ _ _ _ (fun _ h=>h) (fun a ha=>hP u a hu ha) hl h
theorem wh:∀ t u l l',mT t u l=some l'->l'.length<=l.length+t.nodes:=Tm.ind fun t ih u l l' h=>by
 have hn:=Tm.nodes_eq t;rcases io h with ⟨_,_,e⟩|⟨_,_,e⟩|⟨_,_,_,_,_,h⟩
 ·subst e;omega
 ·subst e;simp;omega
 ·have key:∀ (ts us:List Tm) (l l':List Bnd),(∀ a∈ts,a∈t.as)->mTs ts us l=some l'->l'.length<=l.length+(ts.map Tm.nodes).sum:=by
   intro ts;induction ts with
   |nil=>intro us l l' _ h;simp only[mTs,C9.injEq] at h;subst h;simp
   |cons a ts ihs =>
    intro us l l' hts h;cases us with
    |nil=>simp[mTs] at h
    |cons b us =>
     simp only[mTs] at h;split at h
     ·rename_i l1 h1
      have q1:=ih a (hts a (C6 ..)) b l l1 h1;have q2:=ihs us l1 l' (fun x hx=>hts x (C7 _ hx)) h
      simp only[C4,K1];omega
     ·simp at h
  have:=key _ _ _ _ (fun _ h=>h) h
  omega
theorem Rw:∀ t u l l',mT t u l=some l'->∀ s,bnd l' s≠none->bnd l s≠none\/s∈t.names:=Tm.ind fun t ih u l l' h s hs=>by
 rw[Tm.names_eq];rcases io h with ⟨_,_,e⟩|⟨hk,_,e⟩|⟨_,_,_,_,_,h⟩
 ·subst e;exact .inl hs
 ·subst e
  rw[Fe] at hs;cases hb:bnd l s with
  |some v=>exact .inl (by simp)
  |none =>
   rw[hb] at hs;simp only[bnd] at hs;by_cases e:t.s=s
   ·right;rw[H5 hk,e];simp
   ·rw[H6 e] at hs;exact absurd rfl hs
 ·have key:∀ (ts us:List Tm) (l l':List Bnd),(∀ a∈ts,a∈t.as)->mTs ts us l=some l'->bnd l' s≠none->bnd l s≠none\/s∈ts.flatMap Tm.names:=by
   intro ts;induction ts with
   |nil=>intro us l l' _ h hs;simp only[mTs,C9.injEq] at h;subst h;exact .inl hs
   |cons a ts ihs =>
    intro us l l' hts h hs;cases us with
    |nil=>simp[mTs] at h
    |cons b us =>
     simp only[mTs] at h;split at h
     ·rename_i l1 h1
      simp only[P0,D6];rcases ihs us l1 l' (fun x hx=>hts x (C7 _ hx)) h hs with q |q
      ·rcases ih a (hts a (C6 ..)) b l l1 h1 s q with q |q
       ·exact .inl q
       ·exact .inr (.inl q)
      ·exact .inr (.inr q)
     ·simp at h
  rcases key _ _ _ _ (fun _ h=>h) h hs with q |q
  ·exact .inl q
  ·exact .inr (D6.2 (.inr q))
def rsB(l:List Bnd)(ns:List ByteArray):List Bnd:=ns.filterMap fun s=>(bnd l s).map fun v=>(s,v)
open Classical in
theorem Mr(l:List Bnd)(s:ByteArray):∀ ns:List ByteArray,bnd (rsB l ns) s=if s∈ns then bnd l s else none
 | []=>by simp[rsB,bnd]
 |x::ns=>by
  have ih:=Mr l s ns;unfold rsB at ih ⊢;rw[S4];cases hx:bnd l x with
  |none =>
   simp only[T4];rw[ih];by_cases h:s∈ns
   ·rw[H5 h,H5 (C7 _ h)]
   ·rw[H6 h]
    by_cases e:s=x
    ·subst e;rw[H5 (C6 ..),hx]
    ·rw[H6 (by simp[e,h])]
  |some v =>
   simp only[K6,bnd];by_cases e:x=s
   ·subst e;rw[H5 rfl,H5 (C6 ..),hx]
   ·rw[H6 e,ih]
    by_cases h:s∈ns
    ·rw[H5 h,H5 (C7 _ h)]
    ·rw[H6 h,H6 (by simp[h,Ne.symm e])]
theorem Oz{t u:Tm}{l:List Bnd}(h:mT t u []=some l)(s:ByteArray):bnd (rsB l (bw (bw t.names))) s=bnd l s:=by
 rw[Mr];by_cases hs:s∈bw (bw t.names)
 ·rw[H5 hs]
 ·rw[H6 hs]
  cases hb:bnd l s with
  |none=>rfl
  |some v =>
   rcases Rw t u [] l h s (by rw[hb];simp) with q |q
   ·exact absurd rfl q
   ·exact absurd ((pk _ _).2 ((pk _ _).2 q)) hs
noncomputable def gb(r:RuM)(u:Tm):Option Tm:=match mT r.l u [] with
 |none=>none
 |some l=>if (r.g.all fun g=>holds (di l g))=true then some (rW (aS l r.r)) else none
def fg(vs:List VS)(s:ByteArray):Option VS:=vs.find? fun v=>decide (v.1=s)
theorem Ik(vs:List VS)(s:ByteArray):rb vs s=match fg vs s with |some v=>v.2 |none=>e0:=rfl
theorem wi(vs:List VS)(x:VS)(s:ByteArray):fg (vs++[x]) s=match fg vs s with
 |some v=>some v
 |none=>if x.1=s then some x else none:=by
 unfold fg;rw[List.find?_append];cases h:vs.find? fun v=>decide (v.1=s) with
 |some v=>rfl
 |none=>by_cases e:x.1=s<;>simp[e]
def pp(ops:List OpM)(vs:List VS)(l:List Bnd):Prop:=∀ s,match fg vs s,bnd l s with
 |none,none=>True
 |some v,some w=>ax ops [] w=v.2
 |_,_=>False
theorem pp.none{ops:List OpM}{vs:List VS}{l:List Bnd}(h:pp ops vs l){s:ByteArray}(hv:fg vs s=Option.none):bnd l s=Option.none:=by
 have:=h s;rw[hv] at this;cases hb:bnd l s with
 |none=>rfl
 |some w=>rw[hb] at this;exact this.elim
theorem pp.some{ops:List OpM}{vs:List VS}{l:List Bnd}(h:pp ops vs l){s:ByteArray}{v:VS}(hv:fg vs s=some v):∃ w,bnd l s=some w/\ax ops [] w=v.2:=by
 have:=h s;rw[hv] at this;cases hb:bnd l s with
 |none=>rw[hb] at this;exact this.elim
 |some w=>rw[hb] at this;exact⟨w,rfl,this⟩
theorem jc{ops:List OpM}{vs:List VS}{t:Tm}(hk:t.k=2)(hs:ax ops vs t≠e0):∃ o,dp ops t.s=some o/\o.a.length=t.as.length/\bn ops vs t.as o.a=true/\ax ops vs t=o.r:=by
 rw[ck,H6 (by omega),H6 (by omega),H5 hk] at hs
 rw[ck,H6 (by omega),H6 (by omega),H5 hk]
 cases hf:dp ops t.s with
 |none=>rw[hf] at hs;exact absurd rfl hs
 |some o =>
  rw[hf] at hs;simp only at hs ⊢;by_cases hl:o.a.length=t.as.length
  ·rw[H5 hl] at hs ⊢
   by_cases hq:bn ops vs t.as o.a=true
   ·exact⟨o,rfl,hl,hq,by rw[H5 hq]⟩
   ·rw[H6 hq] at hs;exact absurd rfl hs
  ·rw[H6 hl] at hs;exact absurd rfl hs
theorem kp{ops:List OpM}{vs:List VS}{t:Tm}(hk:t.k=2){o:OpM}(hf:dp ops t.s=some o)(hl:o.a.length=t.as.length)(hq:bn ops vs t.as o.a=true):ax ops vs t=o.r:=by
 rw[ck,H6 (by omega),H6 (by omega),H5 hk,hf]
 simp only[H5 hl,H5 hq]
theorem dk{t:Tm}(h:t.areN=true):(t.k=1/\t.as=[])\/(t.k=3/\isW t=true/\t.as=[])\/t.k=2:=by
 rw[Tm.areN_eq,B9] at h;have h:=h.1;unfold Tm.nodeN at h;by_cases h1:t.k=1
 ·rw[H5 h1] at h
  simp only[B9,decide_eq_true_eq] at h;exact .inl ⟨h1,F9.1 h.2.1⟩
 ·rw[H6 h1] at h
  by_cases h3:t.k=3
  ·rw[H5 h3] at h
   have h':=h;simp only[isW,B9,decide_eq_true_eq] at h';exact .inr (.inl ⟨h3,h,F9.1 h'.2.2.2.2⟩)
  ·rw[H6 h3] at h
   by_cases h2:t.k=2
   ·exact .inr (.inr h2)
   ·rw[H6 h2] at h;simp at h
theorem eb{t a:Tm}(h:t.areN=true)(ha:a∈t.as):a.areN=true:=by
 rw[Tm.areN_eq,B9,Tm.areNL_all,E3] at h;exact h.2 a ha
theorem Il(ops:List OpM):∀ t,t.areN=true->∀ u x vs vs' l l',ax ops [] u=x->x≠e0->pp ops vs l->gy ops t x vs=some vs'->mT t u l=some l'->pp ops vs' l':=Tm.ind fun t ih hn u x vs vs' l l' hu hx hA hi hm=>by
 rw[kz] at hi;by_cases h1:t.k=1
 ·rw[H5 h1] at hi
  cases hv:fg vs t.s with
  |some v =>
   unfold fg at hv;rw[hv] at hi;simp only at hi;obtain⟨w,hb,_⟩:=hA.some hv;split at hi
   ·simp only[C9.injEq] at hi
    subst hi;rcases io hm with ⟨_,_,e⟩|⟨_,q,_⟩|⟨q,_⟩
    ·subst e;exact hA
    ·rw[hb] at q;simp at q
    ·exact absurd h1 q
   ·simp at hi
  |none =>
   have hb:=hA.none hv;have hv':=hv;unfold fg at hv;rw[hv] at hi;simp only[C9.injEq] at hi;subst hi;rcases io hm with ⟨_,⟨v,q⟩,_⟩|⟨_,_,e⟩|⟨q,_⟩
   ·rw[hb] at q;simp at q
   ·subst e
    intro s;have hs:=hA s;rw[wi,Fe];cases q1:fg vs s with
    |some v =>
     rw[q1] at hs;cases q2:bnd l s with
     |some w=>rw[q2] at hs;exact hs
     |none=>rw[q2] at hs;exact hs.elim
    |none =>
     rw[q1] at hs;cases q2:bnd l s with
     |some w=>rw[q2] at hs;exact hs.elim
     |none =>
      simp only[bnd];by_cases e:t.s=s
      ·rw[H5 e,H5 e];exact hu
      ·rw[H6 e,H6 e];trivial
   ·exact absurd h1 q
 ·rw[H6 h1] at hi
  rcases io hm with ⟨q,_⟩|⟨q,_⟩|⟨_,e1,e2,e3,e4,hms⟩
  ·exact absurd q h1
  ·exact absurd q h1
  ·rcases dk hn with ⟨q,_⟩|⟨_,_,q⟩ |h2
   ·exact absurd q h1
   ·rw[q] at hi hms
    simp only[fa,mTs,C9.injEq] at hi hms;subst hi;subst hms;exact hA
   ·obtain⟨o,hf,hl,hss,_⟩:=jc (t:=u) (by omega) (by rw[hu];exact hx)
    rw[H5 h2,e3,hf] at hi;simp only at hi;have key:∀ (ts us:List Tm) (xs:List ByteArray) (vs vs':List VS) (l l':List Bnd),(∀ a∈ts,a∈t.as)->us.length=xs.length->bn ops [] us xs=true->pp ops vs l->fa ops ts xs vs=some vs'->mTs ts us l=some l'->pp ops vs' l':=by
     intro ts;induction ts with
     |nil =>
      intro us xs vs vs' l l' _ _ _ hA hi hm;simp only[fa,mTs,C9.injEq] at hi hm;subst hi;subst hm;exact hA
     |cons a ts ihs =>
      intro us xs vs vs' l l' hts hlen hss hA hi hm;cases us with
      |nil=>simp[mTs] at hm
      |cons b us =>
       cases xs with
       |nil=>simp at hlen
       |cons y xs =>
        simp only[fa] at hi;simp only[mTs] at hm;simp only[bn,B9,F1,decide_eq_false_iff_not,decide_eq_true_eq] at hss;split at hi
        ·rename_i vs1 hi1
         split at hm
         ·rename_i l1 hm1
          have:=ih a (hts a (C6 ..)) (eb hn (hts a (C6 ..))) b y vs vs1 l l1 hss.1.2 (hss.1.2▸hss.1.1) hA hi1 hm1;exact ihs us xs vs1 vs' l1 l' (fun z hz=>hts z (C7 _ hz)) (by simpa using hlen) hss.2 this hi hm
         ·simp at hm
        ·simp at hi
    exact key _ _ _ _ _ _ _ (fun _ h=>h) hl.symm hss hA hi hms
theorem Ms{ops:List OpM}{vs:List VS}{l:List Bnd}(hA:pp ops vs l):∀ t,t.areN=true->ax ops vs t≠e0->ax ops [] (aS l t)=ax ops vs t:=Tm.ind fun t ih hn hs=>by
 rcases dk hn with ⟨h1,ha⟩|⟨h3,_,ha⟩ |h2
 ·have e:ax ops vs t=rb vs t.s:=by rw[ck,H6 (by omega),H5 h1]
  rw[e] at hs ⊢;rw[Ik] at hs ⊢;cases hv:fg vs t.s with
  |none=>rw[hv] at hs;exact absurd rfl hs
  |some v =>
   obtain⟨w,hb,hw⟩:=hA.some hv;rw[eo,H5 h1,hb];exact hw
 ·rw[eo,H6 (by omega)]
  rw[ck,ck ops vs,H5 (show(Tm.mk t.k t.n t.s _).k=3 from h3),H5 h3]
 ·obtain⟨o,hf,hl,hss,e⟩:=jc h2 hs
  rw[eo,H6 (by omega),e]
  have key:∀ (ts:List Tm) (xs:List ByteArray),(∀ a∈ts,a∈t.as)->bn ops vs ts xs=true->bn ops [] (ts.map (aS l)) xs=true:=by
   intro ts;induction ts with
   |nil=>intro xs _ _;rfl
   |cons a ts ihs =>
    intro xs hts h;cases xs with
    |nil=>rfl
    |cons y xs =>
     simp only[bn,B9,F1,decide_eq_false_iff_not,decide_eq_true_eq] at h;have q:=ih a (hts a (C6 ..)) (eb hn (hts a (C6 ..))) h.1.1;simp only[C4,bn,B9,F1,decide_eq_false_iff_not,decide_eq_true_eq,q];exact⟨h.1,ihs xs (fun z hz=>hts z (C7 _ hz)) h.2⟩
  exact kp (t:=.mk t.k t.n t.s (t.as.map (aS l))) h2 hf (by simpa[Tm.as] using hl) (key _ _ (fun _ h=>h) hss)
theorem Ff(ops:List OpM)(vs:List VS):∀ t,t.areN=true->ax ops vs t≠e0->ax ops vs (rW t)=ax ops vs t:=Tm.ind fun t ih hn hs=>by
 have plain:ax ops vs (.mk t.k t.n t.s (t.as.map rW))=ax ops vs t:=by
  rcases dk hn with ⟨h1,ha⟩|⟨h3,_,ha⟩ |h2
  ·rw[ck,ck ops vs t,H6 (show ¬(Tm.mk t.k t.n t.s _).k=3 by show ¬ t.k=3;omega),H5 (show(Tm.mk t.k t.n t.s _).k=1 from h1),H6 (by omega),H5 h1];rfl
  ·rw[ck,ck ops vs t,H5 (show(Tm.mk t.k t.n t.s _).k=3 from h3),H5 h3]
  ·obtain⟨o,hf,hl,hss,e⟩:=jc h2 hs
   rw[e];have key:∀ (ts:List Tm) (xs:List ByteArray),(∀ a∈ts,a∈t.as)->bn ops vs ts xs=true->bn ops vs (ts.map rW) xs=true:=by
    intro ts;induction ts with
    |nil=>intro xs _ _;rfl
    |cons a ts ihs =>
     intro xs hts h;cases xs with
     |nil=>rfl
     |cons y xs =>
      simp only[bn,B9,F1,decide_eq_false_iff_not,decide_eq_true_eq] at h;have q:=ih a (hts a (C6 ..)) (eb hn (hts a (C6 ..))) h.1.1;simp only[C4,bn,B9,F1,decide_eq_false_iff_not,decide_eq_true_eq,q];exact⟨h.1,ihs xs (fun z hz=>hts z (C7 _ hz)) h.2⟩
   exact kp (t:=.mk t.k t.n t.s (t.as.map rW)) h2 hf (by simpa[Tm.as] using hl) (key _ _ (fun _ h=>h) hss)
 rw[jf];unfold rW1;split
 ·rename_i x y hxy
  split
  ·rename_i hc
   obtain⟨hk,_,hB,_,_⟩:=hc;obtain⟨o,hf,_,_,e⟩:=jc hk hs;rw[e];unfold dp at hf;rw[H5 hB] at hf;simp only[C9.injEq] at hf;subst hf;rw[ck];rfl
  ·exact plain
 ·exact plain
end Go.Q
end
section
/- aj terms stay good along a step. -/
namespace Go.Q
open Go
theorem Zg{s:ByteArray}{x y:Tm}(hx:isW x=true)(hy:isW y=true):0<=cmp s x.n y.n/\cmp s x.n y.n<4:=by
 simp only[isW,B9,decide_eq_true_eq] at hx hy;obtain⟨_,a1,a2,_⟩:=hx;obtain⟨_,b1,b2,_⟩:=hy;unfold cmp;split
 ·exact⟨Q6 4 (by omega),P1 _ (by decide)⟩
 ·split
  ·exact⟨Q6 4 (by omega),P1 _ (by decide)⟩
  ·exact⟨Q6 4 (Int.mul_nonneg a1 b1),P1 _ (by decide)⟩
theorem Tm.n_mk(k n:Int)(s:ByteArray)(as:List Tm):(Tm.mk k n s as).n=n:=rfl
theorem yr{t:Tm}(h:t.areN=true){as:List Tm}(hl:as.length=t.as.length)(ha:∀ a∈as,a.areN=true):(Tm.mk t.k t.n t.s as).areN=true:=by
 rw[Tm.areN_eq,B9] at h ⊢;refine⟨?_,by rw[Tm.areNL_all,E3];exact ha⟩
 have h:=h.1;unfold Tm.nodeN isW at h ⊢;simp only[Tm.k_mk,Tm.n_mk,Tm.s_mk,Tm.as_mk,hl];exact h
theorem Fg{l:List Bnd}(hl:∀ b∈l,b.2.areN=true):∀ t,t.areN=true->(aS l t).areN=true:=Tm.ind fun t ih h=>by
 rw[eo];split
 ·rename_i u hu
  split at hu
  ·obtain⟨b,h1,rfl⟩:=dr hu;exact hl b h1
  ·simp at hu
 ·exact yr h (by simp) fun a ha=>by
   obtain⟨x,hx,rfl⟩:=F8.1 ha;exact ih x hx (eb h hx)
theorem Mt:∀ t,t.areN=true->(rW t).areN=true:=Tm.ind fun t ih h=>by
 have plain:(Tm.mk t.k t.n t.s (t.as.map rW)).areN=true:=yr h (by simp) fun a ha=>by
  obtain⟨x,hx,rfl⟩:=F8.1 ha;exact ih x hx (eb h hx)
 rw[jf];unfold rW1;split
 ·rename_i x y hxy
  split
  ·rename_i hc
   obtain⟨c1,c2⟩:=Zg (s:=t.s) hc.2.2.2.1 hc.2.2.2.2;rw[Tm.areN_eq];unfold Tm.nodeN isW;simp only[Tm.k_mk,Tm.n_mk,Tm.s_mk,Tm.as_mk];simp[Tm.areNL,c1,c2]
  ·exact plain
 ·exact plain
theorem Mu{t:Tm}(h:Wt t){as:List Tm}(hl:as.length=t.as.length)(ha:∀ a∈as,Wt a):Wt (.mk t.k t.n t.s as):=.mk h.k h.n h.s (by rw[Tm.as_mk,hl];exact h.l) ha
theorem Mv{l:List Bnd}(hl:∀ b∈l,Wt b.2):∀ t,Wt t->Wt (aS l t):=Tm.ind fun t ih h=>by
 rw[eo];split
 ·rename_i u hu
  split at hu
  ·obtain⟨b,h1,rfl⟩:=dr hu;exact hl b h1
  ·simp at hu
 ·exact Mu h (by simp) fun a ha=>by
   obtain⟨x,hx,rfl⟩:=F8.1 ha;exact ih x hx (h.sub hx)
theorem Mw:∀ t,Wt t->Wt (rW t):=Tm.ind fun t ih h=>by
 have plain:Wt (Tm.mk t.k t.n t.s (t.as.map rW)):=Mu h (by simp) fun a ha=>by
  obtain⟨x,hx,rfl⟩:=F8.1 ha;exact ih x hx (h.sub hx)
 rw[jf];unfold rW1;split
 ·rename_i x y hxy
  split
  ·rename_i hc
   exact .mk (show S.i64ok 3 from S.i64ok_of (by decide) (by decide)) (S.cmp_ok hc.2.2.2.1 hc.2.2.2.2) (show(⟨#[]⟩:ByteArray).size<=maxLen by decide) (J0 _) (by intro a ha;rw[Tm.as_mk] at ha;simp at ha)
  ·exact plain
 ·exact plain
theorem Wr{xs:List Tm}{f g:Tm->Nat}{m:Nat}(h:∀ x∈xs,f x<=m*g x):(xs.map f).sum<=m*(xs.map g).sum:=by
 induction xs with
 |nil=>simp
 |cons x xs ih =>
  have h1:=h x (C6 ..);have h2:=ih fun y hy=>h y (C7 _ hy)
  simp only[C4,K1,Nat.mul_add];omega
theorem iw{l:List Bnd}{m:Nat}(hm:1<=m)(hl:∀ b∈l,b.2.nodes<=m):∀ t,(aS l t).nodes<=m*t.nodes:=Tm.ind fun t ih=>by
 rw[eo];have h1:=Tm.nodes_eq t;split
 ·rename_i u hu
  split at hu
  ·obtain⟨b,hb,rfl⟩:=dr hu
   have:=hl b hb;rw[h1,Nat.mul_add];omega
  ·simp at hu
 ·rw[Tm.nodes_eq]
  simp only[Tm.as_mk,K9];have:=Wr (xs:=t.as) (f:=Tm.nodes ∘ aS l) (g:=Tm.nodes) ih;rw[h1,Nat.mul_add];omega
structure Gt(ops:List OpM)(t:Tm):Prop where
 w:Wt t
 n:t.areN=true
 s:ax ops [] t≠e0
theorem Gt.arr{ops:List OpM}{t:Tm}(h:Gt ops t)(hk:t.k=2):∃ o,dp ops t.s=some o/\o.a.length=t.as.length/\bn ops [] t.as o.a=true/\ax ops [] t=o.r:=jc hk h.s
theorem Gt.sub{ops:List OpM}{t a:Tm}(h:Gt ops t)(ha:a∈t.as):Gt ops a:=by
 refine⟨h.w.sub ha,eb h.n ha,?_⟩;rcases dk h.n with ⟨_,q⟩|⟨_,_,q⟩ |h2
 ·rw[q] at ha;simp at ha
 ·rw[q] at ha;simp at ha
 ·obtain⟨o,_,hl,hs,_⟩:=h.arr h2
  exact mf ops [] t.as o.a (by omega) hs a ha
structure RuG(ops:List OpM)(r:RuM):Prop where
 b:RuB r
 lv:r.l.valid=true
 lk:r.l.k=2
 rv:r.r.valid=true
 gl:∀ g∈r.g,g.l.valid=true/\g.r.valid=true
 inf:∃ o vs,dp ops r.l.s=some o/\po ops r.l o.r=some vs/\ax ops vs r.r=o.r
theorem Zh{ops:List OpM}{r:RuM}(hb:RuB r)(h:jm ops r=true):RuG ops r:=by
 unfold jm at h;simp only[B9,decide_eq_true_eq] at h;obtain⟨_,h1,h2,_,h3,h4⟩:=h;cases hf:dp ops r.l.s with
 |none=>rw[hf] at h4;simp at h4
 |some o =>
  rw[hf] at h4;simp only at h4;cases hi:po ops r.l o.r with
  |none=>rw[hi] at h4;simp at h4
  |some vs =>
   rw[hi] at h4;simp only[B9,decide_eq_true_eq,xv,E3] at h4;refine⟨hb,h1,h2,h3,fun g hg=>?_,o,vs,hf,hi,h4.1⟩
   have:=h4.2.2.1 g hg;simp only[qu,B9] at this;exact⟨this.2.1,this.2.2.1⟩
theorem az{t:Tm}(h:t.valid=true):t.nodes<=60:=by
 simp only[Tm.valid,B9,decide_eq_true_eq] at h;exact h.1
theorem Pa(ops:List OpM):pp ops [] []:=fun s=>by simp[fg,bnd]
theorem Pb{ops:List OpM}{r:RuM}(hr:RuG ops r){u w:Tm}(hu:Gt ops u)(hn:u.nodes<=60)(h:gb r u=some w):Gt ops w/\ax ops [] w=ax ops [] u/\w.nodes<=3600:=by
 unfold gb at h;cases hm:mT r.l u [] with
 |none=>rw[hm] at h;simp at h
 |some l =>
  rw[hm] at h;simp only at h;split at h
  ·simp only[C9.injEq] at h
   subst h;obtain⟨o,vs,hf,hi,hs⟩:=hr.inf;have hk:u.k=2/\u.s=r.l.s:=by
    rcases io hm with ⟨q,_⟩|⟨q,_⟩|⟨_,q1,_,q2,_⟩
    ·have:=hr.lk;omega
    ·have:=hr.lk;omega
    ·exact⟨by rw[<-q1];exact hr.lk,q2.symm⟩
   obtain⟨o',hf',_,_,he⟩:=hu.arr hk.1;rw[hk.2,hf] at hf';simp only[C9.injEq] at hf';subst hf';have hne:o.r≠e0:=he▸hu.s;have hA:=Il ops r.l (dq hr.lv) u o.r [] vs [] l he hne (Pa ops) (ut hi) hm;have hw:∀ b∈l,Wt b.2/\(b.2.areN=true/\b.2.nodes<=60):=ko (fun t=>Wt t/\(t.areN=true/\t.nodes<=60)) (fun t a h ha=>⟨h.1.sub ha,eb h.2.1 ha,by
    have:=dt (f:=Tm.nodes) ha;have:=Tm.nodes_eq t;have:=h.2.2;omega⟩) r.l u [] l ⟨hu.w,hu.n,hn⟩ (by simp) hm
   have hn1:=Fg (fun b hb=>(hw b hb).2.1) r.r (dq hr.rv)
   have hs1:ax ops [] (aS l r.r)=ax ops vs r.r:=Ms hA r.r (dq hr.rv) (hs▸hne);have hs2:ax ops [] (rW (aS l r.r))=o.r:=by rw[Ff ops [] _ hn1 (by rw[hs1,hs];exact hne),hs1,hs]
   have hm1:=iw (m:=60) (by decide) (fun b hb=>(hw b hb).2.2) r.r
   have hm2:=gi (aS l r.r);have hm3:=az hr.rv;refine⟨⟨Mw _ (Mv (fun b hb=>(hw b hb).1) r.r hr.b.wr),Mt _ hn1,hs2▸hne⟩,by rw[hs2,he],by omega⟩
  ·simp at h
def atT:Tm->List Int->Option Tm
 |t,[]=>some t
 |t,i::p=>if h:i.toNat<t.as.length then (if 0<=i then atT t.as[i.toNat] p else none) else none
def ee:Tm->List Int->Tm->Tm
 |_,[],w=>w
 |t,i::p,w=>if h:i.toNat<t.as.length then .mk t.k t.n t.s (t.as.set i.toNat (ee t.as[i.toNat] p w)) else t
theorem cz{t u:Tm}{i:Int}{p:List Int}(h:atT t (i::p)=some u):∃ hi:i.toNat<t.as.length,0<=i/\atT t.as[i.toNat] p=some u:=by
 simp only[atT] at h;split at h
 ·rename_i hi
  split at h
  ·exact⟨hi,by assumption,h⟩
  ·simp at h
 ·simp at h
theorem sj{ops:List OpM}{vs:List VS}:∀ (l:List Tm) (xs:List ByteArray) (i:Nat) (hi:i<l.length) (x:Tm),ax ops vs x=ax ops vs l[i]->bn ops vs (l.set i x) xs=bn ops vs l xs
 | [],_,i,hi,_,_=>by simp at hi
 |a::l,xs,0,hi,x,h=>by
  cases xs with
  |nil=>rfl
  |cons y xs =>
   simp only[List.getElem_cons_zero] at h;simp only[List.set_cons_zero,bn,h]
 |a::l,xs,i+1,hi,x,h=>by
  cases xs with
  |nil=>rfl
  |cons y xs =>
   simp only[List.getElem_cons_succ] at h;simp only[T5,bn];rw[sj l xs i (by simpa using hi) x h]
theorem Im{ops:List OpM}:∀ (p:List Int) (t u w:Tm),Gt ops t->atT t p=some u->Gt ops w->ax ops [] w=ax ops [] u->Gt ops (ee t p w)/\ax ops [] (ee t p w)=ax ops [] t
 | [],t,u,w,ht,h,hw,hs=>by
  simp only[atT,C9.injEq] at h;subst h;exact⟨hw,hs⟩
 |i::p,t,u,w,ht,h,hw,hs=>by
  obtain⟨hi,h0,h1⟩:=cz h;have hm:=C1 hi;obtain⟨g1,g2⟩:=Im p t.as[i.toNat] u w (ht.sub hm) h1 hw hs;simp only[ee,dif_pos hi];have h2:t.k=2:=by
   rcases dk ht.n with ⟨_,q⟩|⟨_,_,q⟩ |h2
   ·rw[q] at hi;simp at hi
   ·rw[q] at hi;simp at hi
   ·exact h2
  obtain⟨o,hf,hl,hss,e⟩:=ht.arr h2;have es:ax ops [] (.mk t.k t.n t.s (t.as.set i.toNat (ee t.as[i.toNat] p w)))=o.r:=by
   refine kp (t:=.mk t.k t.n t.s _) h2 hf (by rw[Tm.as_mk,K0];exact hl) ?_
   rw[Tm.as_mk,sj t.as o.a i.toNat hi _ g2];exact hss
  refine⟨⟨Mu ht.w (by simp) fun a ha=>?_,yr ht.n (by simp) fun a ha=>?_,by rw[es,<-e];exact ht.s⟩,by rw[es,e]⟩
  ·rcases K7 ha with q |q
   ·exact ht.w.sub q
   ·exact q▸g1.w
  ·rcases K7 ha with q |q
   ·exact eb ht.n q
   ·exact q▸g1.n
theorem iy:∀ (p:List Int) (t u:Tm),atT t p=some u->u.nodes+p.length<=t.nodes
 | [],t,u,h=>by simp only[atT,C9.injEq] at h;subst h;simp
 |i::p,t,u,h=>by
  obtain⟨hi,h0,h1⟩:=cz h;have h2:=iy p _ u h1;have:=dt (f:=Tm.nodes) (C1 hi);have:=Tm.nodes_eq t;simp only[C2];omega
theorem Mx:∀ (l:List Tm) (i:Nat) (hi:i<l.length) (x:Tm),((l.set i x).map Tm.nodes).sum<=(l.map Tm.nodes).sum+x.nodes
 | [],i,hi,_=>by simp at hi
 |a::l,0,hi,x=>by simp only[List.set_cons_zero,C4,K1];omega
 |a::l,i+1,hi,x=>by
  have:=Mx l i (by simpa using hi) x
  simp only[T5,C4,K1];omega
theorem mg(w:Tm):∀ (p:List Int) (t:Tm),(ee t p w).nodes<=t.nodes*(p.length+1)+w.nodes
 | [],t=>by simp[ee]
 |i::p,t=>by
  simp only[ee];split
  ·rename_i hi
   have h1:=mg w p t.as[i.toNat];have h2:=Mx t.as i.toNat hi (ee t.as[i.toNat] p w);have h3:=dt (f:=Tm.nodes) (C1 hi);have h4:=Tm.nodes_eq t;rw[Tm.nodes_eq,Tm.as_mk];have h5:t.as[i.toNat].nodes*(p.length+1)<=t.nodes*(p.length+1):=Nat.mul_le_mul_right _ (by omega)
   have h6:t.nodes*((i::p).length+1)=t.nodes*(p.length+1)+t.nodes:=by rw[C2,Nat.mul_add _ _ 1,Nat.mul_one]
   omega
  ·have:t.nodes<=t.nodes*((i::p).length+1):=Nat.le_mul_of_pos_right _ (by simp)
   omega
theorem Fh{P:Tm->Prop}(hP:∀ t a,P t->a∈t.as->P a):∀ (p:List Int) (t u:Tm),P t->atT t p=some u->P u
 | [],t,u,ht,h=>by simp only[atT,C9.injEq] at h;subst h;exact ht
 |i::p,t,u,ht,h=>by
  obtain⟨hi,h0,h1⟩:=cz h;exact Fh hP p _ u (hP t _ ht (C1 hi)) h1
def kt(st:List StM)(s:ByteArray):List Int:=(st.filter fun x=>decide (x.o=s)).map (·.a)
def stL(st:List StM)(t:Tm):List Int:=if t.k=2 then kt st t.s else []
noncomputable def pq(ru:List RuM)(u:Tm):Option Nat:=ru.findIdx? fun r=>(gb r u).isSome
def og(l:List Int)(rs:List (Option (Nat×List Int))):Option (Nat×List Int):=l.findSome? fun i=>if 0<=i then (match rs[i.toNat]? with |some (some x)=>some (x.1,i::x.2) |_=>none) else none
mutual
noncomputable def nx(d:DfM):Tm->Option (Nat×List Int)
 |.mk k n s as=>match og (if k=2 then kt d.st s else []) (nxs d as) with
  |some x=>some x
  |none=>(pq d.ru (.mk k n s as)).map fun i=>(i,[])
noncomputable def nxs(d:DfM):List Tm->List (Option (Nat×List Int))
 | []=>[]
 |t::ts=>nx d t::nxs d ts
end
theorem My(d:DfM):∀ ts,nxs d ts=ts.map (nx d)
 | []=>by simp only[nxs,D1]
 |t::ts=>by simp only[nxs,C4,My d ts]
theorem Rx(d:DfM)(t:Tm):nx d t=match og (stL d.st t) (t.as.map (nx d)) with
 |some x=>some x
 |none=>(pq d.ru t).map fun i=>(i,[]):=by
 cases t
 simp only[nx,My,stL,Tm.k,Tm.s,Tm.as];rfl
theorem Pc{ru:List RuM}{u:Tm}{i:Nat}(h:pq ru u=some i):∃ r w,ru[i]?=some r/\gb r u=some w:=by
 unfold pq at h;rw[T7] at h;obtain⟨hi,h1,_⟩:=h;cases hf:gb ru[i] u with
 |none=>rw[hf] at h1;simp at h1
 |some w=>exact⟨ru[i],w,by simp[hi],hf⟩
theorem yt(d:DfM):∀ t i p,nx d t=some (i,p)->∃ u r w,atT t p=some u/\d.ru[i]?=some r/\gb r u=some w:=Tm.ind fun t ih i p h=>by
 rw[Rx] at h;cases hp:og (stL d.st t) (t.as.map (nx d)) with
 |some x =>
  rw[hp] at h;simp only[C9.injEq] at h;subst h;unfold og at hp;obtain⟨j,hj,h1⟩:=List.exists_of_findSome?_eq_some hp;split at h1
  ·rename_i h0
   split at h1
   ·rename_i y hy
    simp only[C9.injEq,G9.injEq] at h1;obtain⟨e1,e2⟩:=h1;subst e1;subst e2;rw[S1] at hy;cases hg:t.as[j.toNat]? with
    |none=>rw[hg] at hy;simp at hy
    |some a =>
     rw[hg] at hy;simp only[K6,C9.injEq] at hy;obtain⟨hlt,he⟩:=E5.1 hg;obtain⟨u,r,w,q1,q2,q3⟩:=ih a (he▸C1 hlt) y.1 y.2 hy;refine⟨u,r,w,?_,q2,q3⟩;simp only[atT,dif_pos hlt,H5 h0,he];exact q1
   ·simp at h1
  ·simp at h1
 |none =>
  rw[hp] at h;simp only at h;cases hr:pq d.ru t with
  |none=>rw[hr] at h;simp at h
  |some j =>
   rw[hr] at h;simp only[K6,C9.injEq,G9.injEq] at h;obtain⟨e1,e2⟩:=h;subst e1;subst e2;obtain⟨r,w,q1,q2⟩:=Pc hr;exact⟨t,r,w,rfl,q1,q2⟩
noncomputable def eg(d:DfM)(t:Tm)(i:Nat)(p:List Int):Tm:=match atT t p,d.ru[i]? with
 |some u,some r=>(match gb r u with |some w=>ee t p w |none=>t)
 |_,_=>t
structure Al where
 o:Int
 t:Tm
 st:List Tm
 rd:List (Nat×List Int)
noncomputable def gn(d:DfM):Nat->Tm->Al
 |0,t=>match nx d t with
  |none=>⟨1,t,[],[]⟩
  |some _=>⟨2,t,[],[]⟩
 |n+1,t=>match nx d t with
  |none=>⟨1,t,[],[]⟩
  |some (i,p)=>if (eg d t i p).valid=true then ⟨(gn d n (eg d t i p)).o,(gn d n (eg d t i p)).t,eg d t i p::(gn d n (eg d t i p)).st,(i,p)::(gn d n (eg d t i p)).rd⟩ else ⟨3,t,[],[]⟩
structure DfG(d:DfM):Prop where
 b:DfB d
 v:d.valid=true
theorem DfG.ru{d:DfM}(h:DfG d){r:RuM}(hr:r∈d.ru):RuG d.op r:=by
 have:=h.v;simp only[DfM.valid,B9,E3] at this;exact Zh (h.b.rua r hr) (this.2.2.2.1 r hr)
theorem De(ops:List OpM):∀ (l pre:List StM),kn ops pre l=true->∀ x∈l,Ox ops x=true
 | [],_,_,x,hx=>by simp at hx
 |y::l,pre,h,x,hx=>by
  simp only[kn,B9] at h;rcases E1.1 hx with e |hx
  ·exact e▸h.1
  ·exact De ops l _ h.2.2 x hx
theorem DfG.st{d:DfM}(h:DfG d){x:StM}(hx:x∈d.st):Ox d.op x=true:=by
 have:=h.v;simp only[DfM.valid,B9] at this;exact De d.op d.st [] this.2.2.2.2.1 x hx
theorem Ry{d:DfM}(h:DfG d){t:Tm}(ht:Gt d.op t){i:Int}(hi:i∈stL d.st t):0<=i/\i.toNat<t.as.length:=by
 unfold stL at hi;split at hi
 ·rename_i hk
  obtain⟨x,hx,rfl⟩:=F8.1 hi;obtain⟨h1,h2⟩:=S0.1 hx;have h3:=h.st h1;simp only[decide_eq_true_eq] at h2;obtain⟨o,hf,hl,_⟩:=ht.arr hk;unfold Ox at h3;rw[h2,hf] at h3;simp only[B9,decide_eq_true_eq] at h3;omega
 ·simp at hi
theorem wj{d:DfM}(h:DfG d){t:Tm}(ht:Gt d.op t)(hn:t.nodes<=60){i:Nat}{p:List Int}(hx:nx d t=some (i,p)) :
 ∃ u r w,atT t p=some u/\d.ru[i]?=some r/\gb r u=some w/\eg d t i p=ee t p w/\Gt d.op u/\u.nodes<=60/\Gt d.op w/\w.nodes<=3600/\Gt d.op (eg d t i p)/\(eg d t i p).nodes<=8000/\p.length<=60/\RuG d.op r:=by
 obtain⟨u,r,w,h1,h2,h3⟩:=yt d t i p hx;obtain⟨hi,he⟩:=E5.1 h2;have hr:RuG d.op r:=h.ru (he▸C1 hi);have hu:Gt d.op u:=Fh (P:=Gt d.op) (fun t a h ha=>h.sub ha) p t u ht h1
 have hun:=iy p t u h1;obtain⟨g1,g2,g3⟩:=Pb hr hu (by omega) h3
 have e:eg d t i p=ee t p w:=by unfold eg;rw[h1,h2];simp only[h3]
 obtain⟨p1,_⟩:=Im p t u w ht h1 g1 g2;have hpn:=mg w p t;have:t.nodes*(p.length+1)<=60*61:=U1 hn (by omega)
 refine⟨u,r,w,h1,h2,h3,e,hu,by omega,g1,g3,e▸p1,by rw[e];omega,by omega,hr⟩
theorem Mz{xs:List Tm}{i:Nat}(hi:i<xs.length)(w:Tm):over i [over 0 [.int w.k,.int w.n,.str w.s,.sl (w.as.map Tm.row)] (rowAt (xs.map Tm.row) i)] (xs.map Tm.row)=(xs.set i w).map Tm.row:=by
 rw[ab hi,Tm.row_eq];have e:over 0 [D.int w.k,.int w.n,.str w.s,.sl (w.as.map Tm.row)] [D.int xs[i].k,.int xs[i].n,.str xs[i].s,.sl (xs[i].as.map Tm.row)]=w.row:=by rw[Tm.row_eq];rfl
 rw[e,cr _ _ _ (by simp;omega),List.map_set,List.set_eq_take_append_cons_drop,H5 (by simpa using hi)]
 simp
theorem Df(j:Int)(p:List Int):(((j::p).map al).take ((j::p).map al).length).drop (Int.toNat 1)=p.map al:=by
 rw[List.take_length];rfl
theorem Pd(xs:aa)(r w:List D)(h:r.length=w.length):over xs.length [over 0 w (rowAt (xs++[r]) xs.length)] (xs++[r])=xs++[w]:=by
 have e:rowAt (xs++[r]) xs.length=r:=by simp[rowAt,O5]
 rw[e,cr 0 w r (by omega),cr _ _ _ (by simp)]
 simp[h]
def foI:Option (List Bnd)->aa->List D
 |some l,_=>[.bool true,.sl (l.map Bnd.row)]
 |none,x=>[.bool false,.sl x]
theorem Dg(x:StM)(l:List StM)(s:ByteArray):kt (x::l) s=if x.o=s then x.a::kt l s else kt l s:=by
 unfold kt;rw[O0];by_cases h:x.o=s<;>simp[h]
theorem Io(l:List StM)(s:ByteArray):(kt l s).length<=l.length:=by
 unfold kt;rw[B6];exact Q0 _ _
end Go.Q
namespace Go.Q
open Go
theorem Ip(l:List Bnd)(x:ByteArray)(ns:List ByteArray):rsB l (x::ns)=match bnd l x with
 |some v=>(x,v)::rsB l ns
 |none=>rsB l ns:=by
 unfold rsB;rw[S4];cases bnd l x<;>rfl
theorem Na(l:List Bnd)(ns:List ByteArray):(rsB l ns).length<=ns.length:=S3 ..
def frR:Option Tm->List D
 |some w=>[.int w.k,.int w.n,.str w.s,.bool true,.sl (w.as.map Tm.row)]
 |none=>[.int 0,.int 0,.str e0,.bool false,.sl []]
noncomputable def fiL(r:RuM)(u:Tm):List Bnd:=match mT r.l u [] with
 |some l=>rsB l (bw (bw r.l.names))
 |none=>[]
def La:Option Nat->Int
 |some i=>(i:Int)
 |none=>-1
theorem mh{m:Nat}(t a:Tm)(h:t.nodes<=m)(ha:a∈t.as):a.nodes<=m:=by
 have:=dt (f:=Tm.nodes) ha;have:=Tm.nodes_eq t;omega
theorem Dh{l:List Bnd}(hl:∀ b∈l,b.2.nodes<=60){g:Gu}(h1:g.l.nodes<=60)(h2:g.r.nodes<=60):(di l g).ok:=by
 have a1:=iw (m:=60) (by decide) hl g.l
 have a2:=iw (m:=60) (by decide) hl g.r
 exact⟨by show(aS l g.l).nodes<=_;omega,by show(aS l g.r).nodes<=_;omega⟩
theorem uw{l:List Bnd}{P:Tm->Prop}(h:∀ b∈l,P b.2){s:ByteArray}{v:Tm}(hb:bnd l s=some v):P v:=by
 obtain⟨b,h1,rfl⟩:=dr hb;exact h b h1
theorem Nb{l:List Bnd}{P:Tm->Prop}(h:∀ b∈l,P b.2)(ns:List ByteArray):∀ b∈rsB l ns,P b.2:=fun b hb=>by
 unfold rsB at hb;obtain⟨s,_,hs⟩:=R4.1 hb;cases hv:bnd l s with
 |none=>rw[hv] at hs;simp at hs
 |some v =>
  rw[hv] at hs;simp only[K6,C9.injEq] at hs;subst hs;exact uw h hv
theorem Iq(r:RuM)(u:Tm):gb r u=if ((mT r.l u []).isSome&&r.g.all fun g=>holds (di (fiL r u) g))=true then some (rW (aS (fiL r u) r.r)) else none:=by
 unfold gb fiL;cases h:mT r.l u [] with
 |none=>rfl
 |some l =>
  have hc:∀ s,bnd (rsB l (bw (bw r.l.names))) s=bnd l s:=Oz h;have e:∀ g,di (rsB l (bw (bw r.l.names))) g=di l g:=fun g=>Kz hc g
  simp only[O4,E4,e,uu hc]
def nrR:Option (Nat×List Int)->List Int->List D
 |some x,acc=>[.int (x.1:Int),.bool true,.sl ((acc++x.2).map al)]
 |none,_=>[.int 0,.bool false,.sl []]
def nrS:Option (Nat×List Int)->List D
 |some x=>[.int (x.1:Int),.bool true,.sl (x.2.map al)]
 |none=>[.int 0,.bool false,.sl []]
theorem Am(rs:List (Option (Nat×List Int))):og [] rs=none:=rfl
theorem Di{f:Tm->Option (Nat×List Int)}{xs:List Tm}{m:Nat}(hm:m<xs.length)(q:List Int):og ((m:Int)::q) (xs.map f)=match f xs[m] with
 |some x=>some (x.1,(m:Int)::x.2)
 |none=>og q (xs.map f):=by
 unfold og;rw[List.findSome?_cons];have h0:(0:Int)<=(m:Int):=by omega
 simp only[h0,if_true,B7,S1,F7 hm,K6];cases f xs[m]<;>rfl
theorem Ws(st:List StM)(t:Tm):(stL st t).length<=st.length:=by
 unfold stL;split
 ·exact Io st t.s
 ·simp
noncomputable def cfg(d:DfM)(t:Tm):Bool:=d.valid&&(t.valid&&(isG t&&!decide (ax d.op [] t=e0)))
theorem Lb{d:DfM}{t:Tm}(hb:DfB d)(hw:Wt t)(h:cfg d t=true):DfG d/\Gt d.op t/\t.nodes<=60:=by
 simp only[cfg,B9,F1,decide_eq_false_iff_not] at h;exact⟨⟨hb,h.1⟩,⟨hw,dq h.2.1,h.2.2.2⟩,az h.2.1⟩
def Dj(x:Nat×List Int):List D:=[.int (x.1:Int),.sl (x.2.map al)]
noncomputable def wk(d:DfM)(t:Tm)(f:Int):Option Al:=if 0<=f/\f<=200/\cfg d t=true then some (gn d f.toNat t) else none
end Go.Q
namespace Go.Q
open Go
theorem qk{d:DfM}{t:Tm}(h:nx d t=none):∀ n,gn d n t=⟨1,t,[],[]⟩
 |0=>by simp only[gn,h]
 |n+1=>by simp only[gn,h]
theorem Dk{d:DfM}{t:Tm}{x:Nat×List Int}(h:nx d t=some x):gn d 0 t=⟨2,t,[],[]⟩:=by simp only[gn,h]
theorem Ir{d:DfM}{t:Tm}{x:Nat×List Int}(h:nx d t=some x)(hv:(eg d t x.1 x.2).valid=false)(n:Nat):gn d (n+1) t=⟨3,t,[],[]⟩:=by
 obtain⟨i,p⟩:=x;simp only at hv;simp only[gn,h,hv,Bool.false_eq_true,if_false]
theorem Nc{d:DfM}{t:Tm}{x:Nat×List Int}(h:nx d t=some x)(hv:(eg d t x.1 x.2).valid=true)(n:Nat):gn d (n+1) t=⟨(gn d n (eg d t x.1 x.2)).o,(gn d n (eg d t x.1 x.2)).t,eg d t x.1 x.2::(gn d n (eg d t x.1 x.2)).st,x::(gn d n (eg d t x.1 x.2)).rd⟩:=by
 obtain⟨i,p⟩:=x;simp only at hv;simp only[gn,h,hv,if_true]
theorem Ao(xs:aa)(k n k' n':Int)(s s':ByteArray)(a a':aa):over xs.length [over 0 [.int k,.int n,.str s,.sl a] (rowAt (xs++[[.int k',.int n',.str s',.sl a']]) xs.length)] (xs++[[.int k',.int n',.str s',.sl a']])=xs++[[.int k,.int n,.str s,.sl a]]:=Pd xs _ _ rfl
def Zi(r:Al)(t:Tm):List D:=[.int r.o,.int r.t.k,.int r.t.n,.str r.t.s,.int (r.rd.length:Int),.sl (r.t.as.map Tm.row),.sl (r.rd.map Dj),.sl ((t::r.st).map Tm.row)]
def rtD:Option Al->List D
 |some r=>[.int r.o,.int r.t.k,.int r.t.n,.str r.t.s,.int (r.rd.length:Int),.sl (r.t.as.map Tm.row)]
 |none=>[.int 0,.int 0,.int 0,.str e0,.int 0,.sl []]
theorem Nd:∀ (p:List Int) (t u:Tm),atT t p=some u->t.nodes<=60->∀ j∈p,0<=j/\j<60
 | [],_,_,_,_,j,hj=>by simp at hj
 |i::p,t,u,h,hn,j,hj=>by
  obtain⟨hi,h0,h1⟩:=cz h;have hls:=cu (xs:=t.as);have hnd:=Tm.nodes_eq t;rcases E1.1 hj with e |hj
  ·subst e;omega
  ·exact Nd p _ u h1 (mh t _ hn (C1 hi)) j hj
structure ab7(d:DfM)(n:Nat)(r:Al):Prop where
 t:Gt d.op r.t
 tn:r.t.nodes<=60
 o:r.o=1\/r.o=2\/r.o=3
 rl:r.rd.length<=n
 rg:∀ x∈r.rd,x.1<d.ru.length/\x.2.length<=60/\∀ j∈x.2,0<=j/\j<60
 sl:r.st.length<=n
 s:∀ x∈r.st,Gt d.op x/\x.nodes<=60
theorem Pe{d:DfM}(hd:DfG d):∀ n t,Gt d.op t->t.nodes<=60->ab7 d n (gn d n t):=by
 intro n;induction n with
 |zero =>
  intro t ht hn;cases hx:nx d t with
  |none=>rw[qk hx];exact⟨ht,hn,.inl rfl,E7 _,by simp,E7 _,by simp⟩
  |some x=>rw[Dk hx];exact⟨ht,hn,.inr (.inl rfl),E7 _,by simp,E7 _,by simp⟩
 |succ n ih =>
  intro t ht hn;cases hx:nx d t with
  |none=>rw[qk hx];exact⟨ht,hn,.inl rfl,J0 _,by simp,J0 _,by simp⟩
  |some x =>
   obtain⟨u,r,w,h1,h2,_,_,_,_,_,_,hg,hgn,hp,_⟩:=wj hd ht hn hx;cases hv:(eg d t x.1 x.2).valid with
   |false=>rw[Ir hx hv];exact⟨ht,hn,.inr (.inr rfl),J0 _,by simp,J0 _,by simp⟩
   |true =>
    rw[Nc hx hv];have h:=ih _ hg (az hv);obtain⟨hi,_⟩:=E5.1 h2;refine⟨h.t,h.tn,h.o,Nat.succ_le_succ h.rl,fun y hy=>?_,Nat.succ_le_succ h.sl,fun y hy=>?_⟩
    ·rcases E1.1 hy with e |hy
     ·subst e;exact⟨hi,hp,Nd _ _ _ h1 hn⟩
     ·exact h.rg y hy
    ·rcases E1.1 hy with e |hy
     ·subst e;exact⟨hg,az hv⟩
     ·exact h.s y hy
theorem Pf{d:DfM}(hb:DfB d){t:Tm}(hw:Wt t){f:Int}{r:Al}(h:wk d t f=some r):ab7 d 200 r/\t.nodes<=60:=by
 unfold wk at h;split at h
 ·rename_i hc
  simp only[C9.injEq] at h;subst h;obtain⟨hd,ht,hn⟩:=Lb hb hw hc.2.2;have g:=Pe hd f.toNat t ht hn;exact⟨⟨g.t,g.tn,g.o,by have:=g.rl;omega,g.rg,by have:=g.sl;omega,g.s⟩,hn⟩
 ·simp at h
theorem Wu(d:DfM)(t:Tm)(f:Int):wk d t f=bif (cfg d t&&(decide (0<=f)&&decide (f<=200))) then some (gn d f.toNat t) else none:=by
 unfold wk;by_cases h:0<=f/\f<=200/\cfg d t=true
 ·rw[H5 h];simp[h.1,h.2.1,h.2.2]
 ·rw[H6 h]
  have:(cfg d t&&(decide (0<=f)&&decide (f<=200)))=false:=by
   rw[Bool.eq_false_iff];intro hc;simp only[B9,decide_eq_true_eq] at hc;exact h ⟨hc.2.1,hc.2.2,hc.1⟩
  rw[this];rfl
end Go.Q
namespace Go.Q
open Go
def rtO:Option Al->Int
 |some r=>r.o
 |none=>0
def rtT:Option Al->Tm
 |some r=>r.t
 |none=>tm0
def rtN:Option Al->Nat
 |some r=>r.rd.length
 |none=>0
theorem Zj(R:Option Al):rtD R=[.int (rtO R),.int (rtT R).k,.int (rtT R).n,.str (rtT R).s,.int (rtN R:Int),.sl ((rtT R).as.map Tm.row)]:=by cases R<;>rfl
theorem wt0:Wt tm0:=.mk (S.i64ok_of (by decide) (by decide)) (S.i64ok_of (by decide) (by decide)) (by decide) (by decide) (by intro a ha;simp[tm0,Tm.as] at ha)
theorem Wv{d:DfM}(hb:DfB d){t:Tm}(hw:Wt t)(f:Int):Wt (rtT (wk d t f))/\(rtT (wk d t f)).nodes<=60/\(0<=rtO (wk d t f)/\rtO (wk d t f)<=3)/\rtN (wk d t f)<=200:=by
 cases h:wk d t f with
 |none=>exact⟨wt0,by decide,by decide,by decide⟩
 |some r =>
  obtain⟨g,_⟩:=Pf hb hw h;refine⟨g.t.w,g.tn,?_,g.rl⟩;rcases g.o with e |e |e<;>(show 0<=r.o/\r.o<=3;omega)
end Go.Q
end
section
/- Translations,instances that are configurations,refutations. -/
namespace Go.Q
open Go
theorem wm{f:Tm->Tm}:∀ (l:List Tm),(∀ a∈l,(f a).depth<=a.depth)->Tm.depthL (l.map f)<=Tm.depthL l
 | [],_=>E7 _
 |a::l,h=>by
  have h1:=h a (C6 ..);have h2:=wm l fun b hb=>h b (C7 _ hb)
  simp only[C4,Tm.depthL];omega
theorem Rz{l:List Bnd}(hl:∀ b∈l,b.2.depth=1):∀ t,(aS l t).depth<=t.depth:=Tm.ind fun t ih=>by
 rw[eo];have h1:=Tm.depth_eq t;split
 ·rename_i u hu
  split at hu
  ·obtain⟨b,hb,rfl⟩:=dr hu
   rw[hl b hb];omega
  ·simp at hu
 ·rw[Tm.depth_eq,Tm.as_mk]
  have:=wm t.as ih;omega
theorem Sa:∀ t,(rW t).depth<=t.depth:=Tm.ind fun t ih=>by
 have h1:=Tm.depth_eq t;have plain:(Tm.mk t.k t.n t.s (t.as.map rW)).depth<=t.depth:=by
  rw[Tm.depth_eq,Tm.as_mk];have:=wm t.as ih;omega
 rw[jf];unfold rW1;split
 ·rename_i x y hxy
  split
  ·rw[Tm.depth_eq,Tm.as_mk];simp only[Tm.depthL];omega
  ·exact plain
 ·exact plain
theorem It{n:Nat}{c:Int}(h:isC n c=true):(vals n c).length=n:=by
 have h3:=(lc h).1;unfold vals;rw[H5 h]
 match n,h3 with
 |0,_=>rfl
 |1,_=>rfl
 |2,_=>rfl
 |3,_=>rfl
theorem Sb{n:Nat}{c:Int}(h:isC n c=true):∀ x∈vals n c,0<=x/\x<4:=fun x hx=>by
 obtain⟨h3,h0,_⟩:=lc h;have hm:∀ a:Int,0<=a->0<=a.tmod 4/\a.tmod 4<4:=fun a ha=>⟨Q6 4 ha,P1 _ (by decide)⟩
 have hd:∀ a:Int,0<=a->0<=a.tdiv 4:=fun a ha=>Int.tdiv_nonneg ha (by decide)
 unfold vals at hx;rw[H5 h] at hx
 match n,h3 with
 |0,_=>simp at hx
 |1,_ =>
  simp only[F2] at hx;subst hx;exact hm _ h0
 |2,_ =>
  simp only[E1,N0,or_false] at hx;rcases hx with e |e
  ·subst e;exact hm _ (hd _ h0)
  ·subst e;exact hm _ h0
 |3,_ =>
  simp only[E1,N0,or_false] at hx;rcases hx with e |e |e
  ·subst e;exact hm _ (hd _ (hd _ h0))
  ·subst e;exact hm _ (hd _ h0)
  ·subst e;exact hm _ h0
theorem Pg(ops:List OpM)(n:Int):ax ops [] (word n)=cw:=by unfold word;rw[ck];rfl
theorem Dl(ops:List OpM):∀ (vars:List ByteArray) (vs:List Int),vs.length=vars.length->pp ops (wv vars) ((vars.zip vs).map fun p=>(p.1,word p.2))
 | [],[],_=>by
  intro s;simp[wv,fg,bnd]
 | [],_::_,h=>by simp at h
 |_::_,[],h=>by simp at h
 |x::vars,v::vs,h=>by
  have ih:=Dl ops vars vs (by simpa using h)
  intro s;have hs:=ih s;unfold wv fg at hs ⊢;simp only[C4,S6,P8,bnd];by_cases e:x=s
  ·simp only[e,H3,if_true]
   exact Pg ops v
  ·simp only[e,H4,if_false]
   exact hs
theorem Nf:∀ (vars:List ByteArray) (vs:List Int) (s:ByteArray),vs.length=vars.length->s∈vars->∃ n∈vs,bnd ((vars.zip vs).map fun p=>(p.1,word p.2)) s=some (word n)
 | [],_,s,_,h=>by simp at h
 |_::_,[],_,h,_=>by simp at h
 |x::vars,v::vs,s,h,hs=>by
  simp only[S6,C4,bnd];by_cases e:x=s
  ·exact⟨v,C6 ..,by rw[H5 e]⟩
  ·rw[H6 e]
   obtain⟨n,h1,h2⟩:=Nf vars vs s (by simpa using h) (by
    rcases E1.1 hs with q |q
    ·exact absurd q.symm e
    ·exact q)
   exact⟨n,C7 _ h1,h2⟩
theorem Ph{l:List Bnd}(hg:∀ b∈l,b.2.names=[]):∀ t,(∀ s∈t.names,bnd l s≠none)->(aS l t).names=[]:=Tm.ind fun t ih h=>by
 rw[Tm.names_eq] at h;rw[eo];by_cases hk:t.k=1
 ·rw[H5 hk] at h ⊢
  cases hb:bnd l t.s with
  |some v =>
   obtain⟨b,h1,rfl⟩:=dr hb;exact hg b h1
  |none=>exact absurd hb (h t.s (by simp))
 ·rw[H6 hk] at h ⊢
  simp only;rw[Tm.names_eq,Tm.k_mk,Tm.as_mk,H6 hk,D8,List.flatMap_map];rw[Ae (g:=fun _=>[]) fun a ha=>ih a ha fun s hs=>h s (D6.2 (.inr (K4.2 ⟨a,ha,hs⟩)))]
  induction t.as with
  |nil=>rfl
  |cons a l ih=>rw[P0,ih];rfl
theorem Sc{d:DfM}{vars:List ByteArray}{t:Tm}(hs:jn d vars t=true){c:Int}(hc:isC vars.length c=true):cfg d (dh vars t c)=true:=by
 simp only[jn,B9,F1,decide_eq_false_iff_not] at hs;obtain⟨hv,_,_,_,htv,hwi,hso⟩:=hs;have hlen:=It hc;have hA:=Dl d.op vars (vals vars.length c) hlen;have htn:=dq htv;have hw:∀ b∈bo vars c,b.2.areN=true/\(b.2.names=[]/\(b.2.depth=1/\b.2.nodes=1)):=fun b hb=>by
  unfold bo at hb;simp only[F8] at hb;obtain⟨p,hp,rfl⟩:=hb;obtain⟨v1,v2⟩:=Sb hc _ (List.of_mem_zip hp).2;refine⟨?_,rfl,rfl,rfl⟩;show(word p.2).areN=true
  unfold word;rw[Tm.areN_eq];unfold Tm.nodeN isW;simp only[Tm.k_mk,Tm.n_mk,Tm.s_mk,Tm.as_mk];simp[Tm.areNL,v1,v2]
 have hn1:=Fg (fun b hb=>(hw b hb).1) t htn
 have hs1:ax d.op [] (aS (bo vars c) t)=ax d.op (wv vars) t:=Ms hA t htn hso;have hs2:ax d.op [] (dh vars t c)=ax d.op (wv vars) t:=by unfold dh;rw[Ff d.op [] _ hn1 (by rw[hs1];exact hso),hs1]
 simp only[cfg,B9,F1,decide_eq_false_iff_not];refine⟨hv,?_,?_,by rw[hs2];exact hso⟩
 ·simp only[Tm.valid,B9,decide_eq_true_eq] at htv ⊢
  have a1:=uj (fun b hb=>(hw b hb).2.2.2) t
  have a2:=gi (aS (bo vars c) t);have a3:=Rz (fun b hb=>(hw b hb).2.2.1) t
  have a4:=Sa (aS (bo vars c) t);exact⟨by unfold dh;omega,by unfold dh;omega,Mt _ hn1⟩
 ·unfold isG dh
  rw[Af,Ph (fun b hb=>(hw b hb).2.1) t fun s hs=>by
   obtain⟨n,_,e⟩:=Nf vars (vals vars.length c) s hlen (ft.1 hwi s hs);show bnd (bo vars c) s≠none
   unfold bo;rw[e];simp]
  rfl
theorem yu{vars:List ByteArray}{t:Tm}{c:Int}(h:isC vars.length c=true):S.instR vars t c=dh vars t c:=by unfold S.instR;rw[H5 h]
end Go.Q
namespace Go.Q
open Go
theorem Ww{n:Int}(h0:0<=n)(h1:n<4):Wt (word n):=.mk (S.i64ok_of (by show _<=(3:Int);decide) (by show(3:Int)<=_;decide)) (S.i64ok_of (by show _<=n;omega) (by show n<=_;omega)) (by show(⟨#[]⟩:ByteArray).size<=maxLen;decide) (J0 _) (by intro a ha;simp[word,Tm.as] at ha)
theorem Iu{vars:List ByteArray}{t:Tm}(h:Wt t)(c:Int):Wt (S.instR vars t c):=by
 unfold S.instR;split
 ·rename_i hc
  refine Mw _ (Mv (fun b hb=>?_) t h)
  unfold bo at hb;simp only[F8] at hb;obtain⟨p,hp,rfl⟩:=hb;obtain⟨v1,v2⟩:=Sb hc _ (List.of_mem_zip hp).2;exact Ww v1 v2
 ·exact wt0
end Go.Q
end
section
/- Symbolic terms with cases;comparison. -/
namespace Go.Q
open Go
def kq(n:Nat):Option Int->List Int->Bool
 |_,[]=>true
 |p,c::r=>isC n c&&((match p with |some q=>!decide (c<=q) |none=>true)&&kq n (some c) r)
def prv(cs:List Int):Nat->Option Int
 |0=>none
 |i+1=>cs[i]?
def Aq(d:DfM)(vars:List ByteArray)(t:Tm)(cs:List Int):Bool:=jn d vars t&&kq vars.length none cs
theorem cm{n:Nat}:∀ (cs:List Int) (p:Option Int),kq n p cs=true->∀ c∈cs,isC n c=true
 | [],_,_,c,hc=>by simp at hc
 |x::r,p,h,c,hc=>by
  simp only[kq,B9] at h;rcases E1.1 hc with e |hc
  ·subst e;exact h.1
  ·exact cm r _ h.2.2 c hc
def Lc(l:List Int)(x:Int):Bool:=l.any fun y=>decide (y=x)
structure SyM where
 d:DfM
 v:List ByteArray
 t:Tm
 c:List Int
def SyM.row(s:SyM):List D:=[.sl (s.d.so.map ag),.sl (s.d.op.map OpM.row),.sl (s.d.ru.map RuM.row),.sl (s.d.st.map StM.row),.sl (s.v.map ag),.int s.t.k,.int s.t.n,.str s.t.s,.sl (s.t.as.map Tm.row),.sl (s.c.map al)]
structure SyB(s:SyM):Prop where
 d:DfB s.d
 v:s.v.length<=1048576
 vs:∀ x∈s.v,x.size<=maxLen
 w:Wt s.t
 n:s.t.nodes<=1048577
 c:s.c.length<=1048576
end Go.Q
end
section
/- Places of terms,steps of symbolic terms,branches. -/
namespace Go.Q
open Go
def atO(t:Tm)(p:List Int):Tm:=(atT t p).getD tm0
theorem wc:tm0.nodes=1:=by rw[Tm.nodes_eq];rfl
theorem iz(t:Tm)(p:List Int){m:Nat}(hm:1<=m)(h:t.nodes<=m):(atO t p).nodes<=m:=by
 unfold atO;cases ha:atT t p with
 |none=>rw[Option.getD_none,wc];exact hm
 |some u=>have:=iy p t u ha;rw[Option.getD_some];omega
theorem Se{t:Tm}(h:Wt t)(p:List Int):Wt (atO t p):=by
 unfold atO;cases ha:atT t p with
 |none=>exact wt0
 |some u=>exact Fh (fun t a h ha=>h.sub ha) p t u h ha
theorem Sf{w:Tm}(hw:Wt w):∀ (p:List Int) (t:Tm),Wt t->Wt (ee t p w)
 | [],t,_=>hw
 |i::p,t,h=>by
  simp only[ee];split
  ·rename_i hi
   refine Mu h (by simp) fun a ha=>?_
   rcases K7 ha with q |q
   ·exact h.sub q
   ·exact q▸Sf hw p _ (h.sub (C1 hi))
  ·exact h
mutual
def gd:Tm->List Int->List (List Int)
 |.mk _ _ _ as,p=>p::oj as p 0
def oj:List Tm->List Int->Nat->List (List Int)
 | [],_,_=>[]
 |a::r,p,i=>gd a (p++[(i:Int)])++oj r p (i+1)
end
theorem mw(t:Tm)(p:List Int):gd t p=p::oj t.as p 0:=by cases t;simp only[gd,Tm.as]
theorem Dm{as:List Tm}{p:List Int}{i:Nat}(h:i<as.length):oj (as.drop i) p i=gd as[i] (p++[(i:Int)])++oj (as.drop (i+1)) p (i+1):=by
 rw[B8 h];simp only[oj]
theorem Sg(as:List Tm)(h:∀ a∈as,∀ p,(gd a p).length=a.nodes):∀ p i,(oj as p i).length=(as.map Tm.nodes).sum:=by
 induction as with
 |nil=>intro p i;rfl
 |cons a r ih =>
  intro p i;simp only[oj,E6,C4,K1,h a (C6 ..),ih (fun b hb=>h b (C7 _ hb))]
theorem pr:∀ t:Tm,∀ p,(gd t p).length=t.nodes:=Tm.ind fun t ih p=>by
 rw[mw,C2,Sg t.as ih,Tm.nodes_eq];omega
theorem Si(as:List Tm)(h:∀ a∈as,∀ p q,q∈gd a p->q.length<=p.length+a.nodes):∀ p i q,q∈oj as p i->q.length<=p.length+1+(as.map Tm.nodes).sum:=by
 induction as with
 |nil=>intro p i q hq;simp[oj] at hq
 |cons a r ih =>
  intro p i q hq;simp only[oj,D6,C4,K1] at hq ⊢;rcases hq with hq |hq
  ·have:=h a (C6 ..) _ q hq
   simp only[E6,C2,C5] at this;omega
  ·have:=ih (fun b hb=>h b (C7 _ hb)) p (i+1) q hq
   omega
theorem Iv:∀ t:Tm,∀ p q,q∈gd t p->q.length<=p.length+t.nodes:=Tm.ind fun t ih p q hq=>by
 rw[mw] at hq;have hn:=Tm.nodes_eq t;rcases E1.1 hq with e |hq
 ·subst e;omega
 ·have:=Si t.as ih p 0 q hq;omega
def cB1(l u:Tm)(p:List Int):Option Bnd:=if (atO l p).k=1 then some ((atO l p).s,atO u p) else none
def jo(l u:Tm):List Bnd:=(gd l []).filterMap (cB1 l u)
def my(l u:Tm):List (List Int)->List Bnd->List Bnd
 | [],acc=>acc
 |p::r,acc=>my l u r (if (atO l p).k=1/\bnd acc (atO l p).s=none then acc++[((atO l p).s,atO u p)] else acc)
theorem Ar(a b:List Bnd)(s:ByteArray):bnd (a++b) s=(match bnd a s with |some v=>some v |none=>bnd b s):=by
 induction a with
 |nil=>rfl
 |cons x a ih =>
  simp only[F4,bnd];split
  ·rfl
  ·exact ih
theorem Iw(l u:Tm)(s:ByteArray):∀ (ps:List (List Int)) (acc:List Bnd),bnd (my l u ps acc) s=bnd (acc++ps.filterMap (cB1 l u)) s
 | [],acc=>by simp[my]
 |p::r,acc=>by
  simp only[my,Iw l u s r];by_cases hk:(atO l p).k=1
  ·have e1:(p::r).filterMap (cB1 l u)=((atO l p).s,atO u p)::r.filterMap (cB1 l u):=by rw[S4,cB1,H5 hk]
   rw[e1];cases hb:bnd acc (atO l p).s with
   |none=>rw[H5 ⟨hk,rfl⟩,E2];rfl
   |some v =>
    rw[H6 (by simp)]
    rw[Ar,Ar];cases ha:bnd acc s with
    |some w=>rfl
    |none =>
     simp only[bnd];rw[H6 fun e=>by rw[e,ha] at hb;simp at hb]
  ·have e1:(p::r).filterMap (cB1 l u)=r.filterMap (cB1 l u):=by rw[S4,cB1,H6 hk]
   rw[e1,H6 fun h=>hk h.1]
theorem Wx(l u t:Tm):aS (my l u (gd l []) []) t=aS (jo l u) t:=uu (fun s=>by rw[Iw,D8];rfl) t
theorem Au{l u:Tm}{P:Tm->Prop}(h:∀ p,P (atO u p)):∀ b∈jo l u,P b.2:=fun b hb=>by
 unfold jo at hb;obtain⟨p,_,hp⟩:=R4.1 hb;unfold cB1 at hp;split at hp
 ·simp only[C9.injEq] at hp;subst hp;exact h p
 ·simp at hp
theorem Ix{l u:Tm}{P:Tm->Prop}(h:∀ p,P (atO u p)):∀ (ps:List (List Int)) (acc:List Bnd),(∀ b∈acc,P b.2)->∀ b∈my l u ps acc,P b.2
 | [],acc,ha=>ha
 |p::r,acc,ha=>by
  simp only[my];refine Ix h r _ ?_;split
  ·intro b hb
   rcases D6.1 hb with hb |hb
   ·exact ha b hb
   ·simp only[F2] at hb;subst hb;exact h p
  ·exact ha
theorem Iy(l u:Tm):∀ (ps:List (List Int)) (acc:List Bnd),(my l u ps acc).length<=acc.length+ps.length
 | [],acc=>E7 _
 |p::r,acc=>by
  simp only[my];refine G7 (Iy l u r _) ?_;split<;>simp<;>omega
theorem ab8:∀ t:Tm,rW (rW t)=rW t:=Tm.ind fun t ih=>by
 have e:(t.as.map rW).map rW=t.as.map rW:=by
  rw[K9];exact N2 fun a ha=>ih a ha
 rw[jf t];unfold rW1;split
 ·rename_i x y hxy
  split
  ·rename_i hc
   rw[jf];rfl
  ·rename_i hc
   rw[jf,Tm.k_mk,Tm.n_mk,Tm.s_mk,Tm.as_mk,e,hxy];unfold rW1;exact H6 hc
 ·rename_i hne
  rw[jf,Tm.k_mk,Tm.n_mk,Tm.s_mk,Tm.as_mk,e];unfold rW1;split
  ·rename_i x y hxy;exact absurd hxy (hne x y)
  ·rfl
theorem Sj(a:Tm):∀ (p:List Int) (t:Tm),rW (ee t p (rW a))=rW (ee t p a)
 | [],t=>ab8 a
 |i::p,t=>by
  simp only[ee];split
  ·rename_i hi
   rw[jf,jf (.mk t.k t.n t.s (t.as.set i.toNat (ee t.as[i.toNat] p a)))];simp only[Tm.k_mk,Tm.n_mk,Tm.s_mk,Tm.as_mk,List.map_set,Sj a p]
  ·rfl
theorem Yk{t:Tm}{i:Nat}(h:i<(rW t).as.length):∃ hi:i<t.as.length,(rW t).as[i]=rW t.as[i]:=by
 have key:(rW t).as=[]\/(rW t).as=t.as.map rW:=by
  rw[jf];unfold rW1;split
  ·split
   ·exact .inl rfl
   ·rename_i hxy _;rw[Tm.as_mk,hxy];exact .inr rfl
  ·exact .inr rfl
 rcases key with e |e
 ·rw[e] at h;simp at h
 ·have hi:i<t.as.length:=by rw[e] at h;simpa using h
  refine⟨hi,?_⟩;simp only[e,R3]
theorem Ng{l:List Bnd}(hl:∀ b∈l,b.2.as=[]):∀ (p:List Int) (t u:Tm),atT (rW (aS l t)) p=some u->∃ v,atT t p=some v
 | [],t,u,h=>⟨t,rfl⟩
 |i::p,t,u,h=>by
  obtain⟨hi,h0,h1⟩:=cz h;obtain⟨hi2,e2⟩:=Yk hi;have key:∃ hi3:i.toNat<t.as.length,(aS l t).as[i.toNat]=aS l t.as[i.toNat]:=by
   have hc:(aS l t).as=[]\/(aS l t).as=t.as.map (aS l):=by
    rw[eo];split
    ·rename_i v hv
     split at hv
     ·obtain⟨b,hb,rfl⟩:=dr hv;exact .inl (hl b hb)
     ·simp at hv
    ·exact .inr rfl
   rcases hc with e |e
   ·rw[e] at hi2;simp at hi2
   ·have hi3:i.toNat<t.as.length:=by rw[e] at hi2;simpa using hi2
    exact⟨hi3,by simp only[e,R3]⟩
  obtain⟨hi3,e3⟩:=key;rw[e2,e3] at h1;obtain⟨v,hv⟩:=Ng hl p _ u h1;exact⟨v,by simp only[atT,dif_pos hi3,H5 h0];exact hv⟩
theorem Iz(vars:List ByteArray)(c:Int):∀ b∈bo vars c,b.2.as=[]:=fun b hb=>by
 unfold bo at hb;simp only[F8] at hb;obtain⟨p,_,rfl⟩:=hb;rfl
def dv(d:DfM)(t:Tm)(x:Nat×List Int):Tm:=match d.ru[x.1]? with
 |some r=>rW (ee t x.2 (aS (jo r.l (atO t x.2)) r.r))
 |none=>tm0
abbrev Bk:=Option (Nat×List Int)
def bK(d:DfM)(t:Tm):Bk->Int
 |none=>1
 |some y=>if (dv d t y).valid=true then 2 else 3
def bT(d:DfM)(t:Tm):Bk->Tm
 |none=>t
 |some y=>if (dv d t y).valid=true then dv d t y else tm0
def bR:Bk->Int
 |none=>0
 |some y=>(y.1:Int)
def bP:Bk->List Int
 |none=>[]
 |some y=>y.2
def bj(d:DfM)(v:List ByteArray)(t:Tm)(b:Bk×List Int):List D:=[.int (bK d t b.1),.int (bR b.1),.sl ((bP b.1).map al),.sl (v.map ag),.int (bT d t b.1).k,.int (bT d t b.1).n,.str (bT d t b.1).s,.sl ((bT d t b.1).as.map Tm.row),.sl (b.2.map al)]
def Fi(out:List (Bk×List Int))(x:Bk):Option Nat:=out.findIdx? fun b=>decide (b.1=x)
def qv(out:List (Bk×List Int))(x:Bk)(c:Int):List (Bk×List Int):=match Fi out x with
 |some i=>(match out[i]? with |some b=>out.set i (b.1,b.2++[c]) |none=>out)
 |none=>out++[(x,[c])]
noncomputable def brF(d:DfM)(v:List ByteArray)(t:Tm):List Int->List (Bk×List Int)->List (Bk×List Int)
 | [],out=>out
 |c::r,out=>brF d v t r (qv out (nx d (dh v t c)) c)
noncomputable def brL(s:SyM):List (Bk×List Int):=if Aq s.d s.v s.t s.c=true then brF s.d s.v s.t s.c [] else []
theorem Nh{out:List (Bk×List Int)}{x:Bk}{i:Nat}(h:Fi out x=some i):∃ hi:i<out.length,out[i].1=x:=by
 unfold Fi at h;rw[T7] at h;obtain⟨hi,h1,_⟩:=h;exact⟨hi,by simpa using h1⟩
structure BrB(n:Nat)(out:List (Bk×List Int)):Prop where
 l:out.length<=n
 c:∀ b∈out,b.2.length<=n
theorem Ld{n:Nat}{out:List (Bk×List Int)}(h:BrB n out)(x:Bk)(c:Int):BrB (n+1) (qv out x c):=by
 unfold qv;split
 ·split
  ·rename_i b hb
   refine⟨by rw[K0];have:=h.l;omega,fun q hq=>?_⟩
   rcases K7 hq with hq |hq
   ·have:=h.c q hq;omega
   ·subst hq
    have:=h.c b (N7 hb);simp only[E6,C2,C5];omega
  ·exact⟨by have:=h.l;omega,fun b hb=>by have:=h.c b hb;omega⟩
 ·refine⟨by have:=h.l;simp;omega,fun b hb=>?_⟩
  rcases D6.1 hb with hb |hb
  ·have:=h.c b hb;omega
  ·simp only[F2] at hb;subst hb;simp
theorem Dn{α:Type}(p:α->Bool)(l:List α){i:Nat}(h:i<l.length):(l.drop i).findIdx? p=if p l[i]=true then some 0 else ((l.drop (i+1)).findIdx? p).map (·+1):=by
 rw[B8 h,List.findIdx?_cons]
theorem Le{d:DfM}(hd:DfG d){t:Tm}(hw:Wt t)(hn:t.nodes<=60){x:Nat×List Int}(hp:x.2.length<=60):Wt (dv d t x)/\(dv d t x).nodes<=7260:=by
 unfold dv;cases hr:d.ru[x.1]? with
 |none=>exact⟨wt0,by rw[wc];decide⟩
 |some r =>
  have hrg:=hd.ru (N7 hr);have a1:=iw (m:=60) (by decide) (Au (l:=r.l) (P:=fun t=>t.nodes<=60) fun p=>iz (atO t x.2) p (by decide) (iz t x.2 (by decide) hn)) r.r
  have a2:=az hrg.rv;have a3:=mg (aS (jo r.l (atO t x.2)) r.r) x.2 t;have a4:=gi (ee t x.2 (aS (jo r.l (atO t x.2)) r.r));have a5:t.nodes*(x.2.length+1)<=60*61:=U1 hn (by omega)
  refine⟨Mw _ (Sf (Mv (Au (P:=Wt) fun p=>Se (Se hw x.2) p) r.r hrg.b.wr) x.2 t hw),?_⟩
  simp only;omega
def pt(p:List Int):List D:=[.sl (p.map al)]
def By(out:List (Bk×List Int))(x:Bk):Int:=match Fi out x with |some i=>(i:Int) |none=>-1
theorem gv{α:Type}:∀ (i:Nat) (x:α) (l:List α),i<l.length->over i [x] l=l.set i x
 |i,x,[],h=>by simp at h
 |0,x,a::l,_=>by cases l<;>rfl
 |i+1,x,a::l,h=>by simp only[over,T5,gv i x l (by simpa using h)]
theorem Lf{d:DfM}{v:List ByteArray}{t:Tm}{out:List (Bk×List Int)}{j:Nat}(hj:j<out.length)(cs:aa)(e:List Int)(he:cs=e.map al) :
 over j [over 8 [.sl cs] (rowAt (over j [over 8 [.sl []] (rowAt (out.map (bj d v t)) j)] (out.map (bj d v t))) j)] (over j [over 8 [.sl []] (rowAt (out.map (bj d v t)) j)] (out.map (bj d v t)))=(out.set j (out[j].1,e)).map (bj d v t):=by
 subst he;have hl:j<(out.map (bj d v t)).length:=by rw[B6];exact hj
 rw[ab hj,gv j _ _ hl,gv j _ _ (by rw[K0];exact hl),List.set_set,List.map_set]
 congr 1
 rw[show rowAt ((out.map (bj d v t)).set j (over 8 [.sl []] (bj d v t out[j]))) j=over 8 [.sl []] (bj d v t out[j]) by simp[rowAt,O5,hj]]
 rfl
theorem Lg{d:DfM}{v:List ByteArray}{t:Tm}{out:List (Bk×List Int)}{j:Nat}(hj:j<out.length):(over j [over 8 [.sl []] (rowAt (out.map (bj d v t)) j)] (out.map (bj d v t))).length=out.length:=by
 rw[gv _ _ _ (by rw[B6];exact hj),K0,B6]
theorem Do{out:List (Bk×List Int)}{x:Bk}{j:Nat}(h:Fi out x=some j)(hj:j<out.length)(c:Int):qv out x c=out.set j (out[j].1,out[j].2++[c]):=by
 unfold qv;rw[h];simp only[F7 hj]
theorem Dp{out:List (Bk×List Int)}{x:Bk}(h:Fi out x=none)(c:Int):qv out x c=out++[(x,[c])]:=by
 unfold qv;rw[h]
theorem Yl(d:DfM)(t:Tm)(y x:Bk):((decide (bK d t y=1)==!x.isSome)&&(decide (bR y=bR x)&&decide (bP y=bP x)))=decide (y=x):=by
 have h2:∀ z,¬ bK d t (some z)=1:=fun z=>by show ¬(if (dv d t z).valid=true then (2:Int) else 3)=1;by_cases q:(dv d t z).valid=true<;>simp[q]
 cases y with
 |none =>
  cases x with
  |none=>simp[bK,bR,bP]
  |some z=>simp[bK]
 |some w =>
  cases x with
  |none=>simp[h2]
  |some z =>
   obtain⟨a,b⟩:=w;obtain⟨a',b'⟩:=z;simp only[h2,bR,bP,H4,O4,Bool.not_true,BEq.rfl,E4,C9.injEq,G9.injEq,Int.ofNat_inj];by_cases e1:a=a'<;>by_cases e2:b=b'<;>simp[e1,e2]
structure BkG(d:DfM)(t:Tm)(x:Bk):Prop where
 i:∀ y,x=some y->y.1<d.ru.length/\y.2.length<=60/\∃ u,atT t y.2=some u
theorem Zk(x:Bk):nrR x []=[.int (bR x),.bool x.isSome,.sl ((bP x).map al)]:=by cases x<;>rfl
theorem Zl(x:Bk):nrS x=[.int (bR x),.bool x.isSome,.sl ((bP x).map al)]:=by cases x<;>rfl
theorem Av{d:DfM}{v:List ByteArray}{t:Tm}(hb:DfB d)(hw:Wt t)(hs:jn d v t=true){c:Int}(hc:isC v.length c=true):DfG d/\t.nodes<=60/\Gt d.op (dh v t c)/\(dh v t c).nodes<=60/\BkG d t (nx d (dh v t c)):=by
 have hwi:Wt (dh v t c):=yu hc▸Iu hw c;obtain⟨h1,h2,h3⟩:=Lb hb hwi (Sc hs hc);have htn:t.nodes<=60:=by
  simp only[jn,B9] at hs;exact az hs.2.2.2.2.1
 refine⟨h1,htn,h2,h3,⟨fun y hy=>?_⟩⟩
 obtain⟨u,r,w,q1,q2,_⟩:=yt d (dh v t c) y.1 y.2 hy;have q3:=iy y.2 _ u q1;exact⟨(E5.1 q2).1,by omega,Ng (Iz v c) y.2 t u q1⟩
theorem Sk{α:Type}(l:List α)(a b:α):(l++[a]).set l.length b=l++[b]:=by
 rw[List.set_append_right _ _ (E7 _)];simp
theorem Lh{d:DfM}{t:Tm}{out:List (Bk×List Int)}(h:∀ b∈out,BkG d t b.1){x:Bk}(hx:BkG d t x){c:Int}:∀ b∈qv out x c,BkG d t b.1:=fun b hb=>by
 unfold qv at hb;split at hb
 ·split at hb
  ·rename_i q hq
   rcases K7 hb with hb |hb
   ·exact h b hb
   ·subst hb;exact h q (N7 hq)
  ·exact h b hb
 ·rcases D6.1 hb with hb |hb
  ·exact h b hb
  ·simp only[F2] at hb;subst hb;exact hx
end Go.Q
end
section
/- Branches: bounds of what is answered. -/
namespace Go.Q
open Go
theorem Zm{P:Int->Prop}{out:List (Bk×List Int)}(h:∀ b∈out,∀ c∈b.2,P c){x:Bk}{c:Int}(hc:P c):∀ b∈qv out x c,∀ c∈b.2,P c:=fun b hb=>by
 unfold qv at hb;split at hb
 ·split at hb
  ·rename_i q hq
   rcases K7 hb with hb |hb
   ·exact h b hb
   ·subst hb
    intro c' hc';rcases D6.1 hc' with hc' |hc'
    ·exact h q (N7 hq) c' hc'
    ·simp only[F2] at hc';subst hc';exact hc
  ·exact h b hb
 ·rcases D6.1 hb with hb |hb
  ·exact h b hb
  ·simp only[F2] at hb;subst hb
   intro c' hc';simp only[F2] at hc';subst hc';exact hc
theorem uz{d:DfM}(hb:DfB d){v:List ByteArray}{t:Tm}(hw:Wt t)(hs:jn d v t=true){P:Int->Prop}:∀ (l:List Int) (n:Nat) (out:List (Bk×List Int)),(∀ c∈l,isC v.length c=true/\P c)->BrB n out->(∀ b∈out,BkG d t b.1)->(∀ b∈out,∀ c∈b.2,P c) →
 BrB (n+l.length) (brF d v t l out)/\(∀ b∈brF d v t l out,BkG d t b.1)/\∀ b∈brF d v t l out,∀ c∈b.2,P c
 | [],n,out,_,h1,h2,h3=>⟨h1,h2,h3⟩
 |c::r,n,out,hc,h1,h2,h3=>by
  obtain⟨_,_,_,_,hx⟩:=Av hb hw hs (hc c (C6 ..)).1;have:=uz hb hw hs r (n+1) (qv out (nx d (dh v t c)) c) (fun c' h=>hc c' (C7 _ h)) (Ld h1 _ c) (Lh h2 hx) (Zm h3 (hc c (C6 ..)).2)
  simp only[brF,C2];rwa[show n+(r.length+1)=n+1+r.length by omega]
end Go.Q
end
section
/- Symbolic terms stay symbolic along a step. -/
namespace Go.Q
open Go
theorem Aw:∀ {l:List Bnd} {s:ByteArray} {w:Tm},bnd l s=some w->(s,w)∈l
 | [],s,w,h=>by simp[bnd] at h
 |b::l,s,w,h=>by
  simp only[bnd] at h;split at h
  ·rename_i e
   simp only[C9.injEq] at h;obtain⟨b1,b2⟩:=b;simp only at e h;subst e;subst h;exact C6 ..
  ·exact C7 _ (Aw h)
theorem Ax:∀ {l:List Bnd} {s:ByteArray} {w:Tm},(s,w)∈l->∃ w',bnd l s=some w'
 | [],s,w,h=>by simp at h
 |b::l,s,w,h=>by
  simp only[bnd];by_cases e:b.1=s
  ·exact⟨b.2,H5 e⟩
  ·rw[H6 e]
   rcases E1.1 h with h |h
   ·exact absurd (by rw[<-h]) e
   ·exact Ax h
theorem Ay:∀ (as:List Tm) (p:List Int) (i:Nat) (q:List Int),q∈oj as p i↔∃ j,∃ h:j<as.length,q∈gd as[j] (p++[((i+j:Nat):Int)])
 | [],p,i,q=>by simp[oj]
 |a::r,p,i,q=>by
  simp only[oj,D6];rw[Ay r p (i+1) q];constructor
  ·rintro(h |⟨j,hj,h⟩)
   ·exact⟨0,by simp,by simpa using h⟩
   ·exact⟨j+1,by simpa using hj,by rw[show i+(j+1)=i+1+j by omega];simpa using h⟩
  ·rintro⟨j,hj,h⟩
   cases j with
   |zero=>exact .inl (by simpa using h)
   |succ j=>exact .inr ⟨j,by simpa using hj,by rw[show i+1+j=i+(j+1) by omega];simpa using h⟩
theorem Ja{t:Tm}{j:Nat}(h:j<t.as.length)(q:List Int):atT t ((j:Int)::q)=atT t.as[j] q:=by
 simp only[atT,B7,dif_pos h];rw[H5 (by omega)]
theorem Wy:∀ t:Tm,∀ p q,q∈gd t p->∃ q' a,q=p++q'/\atT t q'=some a:=Tm.ind fun t ih p q hq=>by
 rw[mw] at hq;rcases E1.1 hq with e |hq
 ·exact⟨[],t,by simp[e],rfl⟩
 ·obtain⟨j,hj,h⟩:=(Ay t.as p 0 q).1 hq
  obtain⟨q',a,e,h1⟩:=ih _ (C1 hj) _ q h;refine⟨(j:Int)::q',a,?_,by rw[Ja hj];exact h1⟩
  rw[e,D0];simp
theorem Ni:∀ (q:List Int) (t:Tm) (p:List Int) (a:Tm),atT t q=some a->p++q∈gd t p
 | [],t,p,a,_=>by rw[mw];simp
 |i::q,t,p,a,h=>by
  obtain⟨hi,h0,h1⟩:=cz h;rw[mw];refine C7 _ ((Ay t.as p 0 _).2 ⟨i.toNat,hi,?_⟩);have:=Ni q _ (p++[i]) a h1;rw[D0,show((i.toNat:Nat):Int)=i by omega]
  simpa using this
theorem Sl:∀ t:Tm,∀ s∈t.names,∃ q a,atT t q=some a/\a.k=1/\a.s=s:=Tm.ind fun t ih s hs=>by
 rw[Tm.names_eq] at hs;rcases D6.1 hs with h |h
 ·split at h
  ·rename_i hk
   simp only[F2] at h;exact⟨[],t,rfl,hk,h.symm⟩
  ·simp at h
 ·obtain⟨x,hx,hs⟩:=K4.1 h
  obtain⟨j,hj,e⟩:=List.getElem_of_mem hx;obtain⟨q,a,h1,h2,h3⟩:=ih x hx s hs;exact⟨(j:Int)::q,a,by rw[Ja hj,e];exact h1,h2,h3⟩
theorem Az:∀ (q:List Int) (t u:Tm),atT t q=some u->∀ s∈u.names,s∈t.names
 | [],t,u,h,s,hs=>by simp only[atT,C9.injEq] at h;subst h;exact hs
 |i::q,t,u,h,s,hs=>by
  obtain⟨hi,h0,h1⟩:=cz h;rw[Tm.names_eq];exact D6.2 (.inr (K4.2 ⟨_,C1 hi,Az q _ u h1 s hs⟩))
theorem Pi{l u:Tm}{s:ByteArray}{w:Tm}(h:(s,w)∈jo l u):∃ q a,atT l q=some a/\a.k=1/\a.s=s/\w=atO u q:=by
 unfold jo at h;obtain⟨q,hq,h1⟩:=R4.1 h;obtain⟨q',a,e,ha⟩:=Wy l [] q hq;simp only[D8] at e;subst e;have e:atO l q=a:=by simp[atO,ha]
 unfold cB1 at h1;rw[e] at h1;split at h1
 ·rename_i hk
  simp only[C9.injEq,G9.injEq] at h1;exact⟨q,a,ha,hk,h1.1,h1.2.symm⟩
 ·simp at h1
theorem Jb{l u:Tm}{s:ByteArray}(h:s∈l.names):∃ w,bnd (jo l u) s=some w:=by
 obtain⟨q,a,h1,h2,h3⟩:=Sl l s h;have hq:=Ni q l [] a h1;simp only[D8] at hq;have e:atO l q=a:=by simp[atO,h1]
 refine Ax (w:=atO u q) (R4.2 ⟨q,hq,?_⟩);unfold cB1;rw[e,H5 h2,h3]
theorem Zn{k n:Int}{s:ByteArray}{as:List Tm}(h:(rW1 k n s as).k=2):k=2/\rW1 k n s as=.mk k n s as:=by
 unfold rW1 at h ⊢;split at h
 ·split at h
  ·exact absurd h (by show ¬(3:Int)=2;decide)
  ·rename_i hc;rw[H6 hc];exact⟨h,rfl⟩
 ·exact⟨h,rfl⟩
theorem Jc{σ:List Bnd}(hσ:∀ b∈σ,b.2.as=[]/\b.2.k=3){u:Tm}(hu:u.areN=true)(h:(rW (aS σ u)).k=2):u.k=2/\(rW (aS σ u)).s=u.s/\(rW (aS σ u)).as=u.as.map fun a=>rW (aS σ a):=by
 rw[jf] at h ⊢;obtain⟨h1,h2⟩:=Zn h;rw[h2];have hk:u.k=2:=by
  rcases dk hu with ⟨q,_⟩|⟨q,_,_⟩ |q
  ·rw[eo,H5 q] at h1
   cases hb:bnd σ u.s with
   |some w =>
    rw[hb] at h1;obtain⟨b,hbm,rfl⟩:=dr hb;have:=(hσ b hbm).2;simp only at h1;omega
   |none=>rw[hb] at h1;simp only[Tm.k_mk] at h1;omega
  ·rw[eo,H6 (by omega)] at h1;simp only[Tm.k_mk] at h1;omega
  ·exact q
 have e:aS σ u=.mk u.k u.n u.s (u.as.map (aS σ)):=by rw[eo,H6 (by omega)]
 refine⟨hk,?_,?_⟩
 ·rw[e];rfl
 ·rw[e,Tm.as_mk,Tm.as_mk,K9];rfl
theorem Jd{l:List Bnd}(hl:∀ b∈l,b.2.as=[]):∀ (p:List Int) (t u:Tm),atT (rW (aS l t)) p=some u->∃ v,atT t p=some v/\u=rW (aS l v)
 | [],t,u,h=>by simp only[atT,C9.injEq] at h;exact⟨t,rfl,h.symm⟩
 |i::p,t,u,h=>by
  obtain⟨hi,h0,h1⟩:=cz h;obtain⟨hi2,e2⟩:=Yk hi;have key:∃ hi3:i.toNat<t.as.length,(aS l t).as[i.toNat]=aS l t.as[i.toNat]:=by
   have hc:(aS l t).as=[]\/(aS l t).as=t.as.map (aS l):=by
    rw[eo];split
    ·rename_i v hv
     split at hv
     ·obtain⟨b,hb,rfl⟩:=dr hv;exact .inl (hl b hb)
     ·simp at hv
    ·exact .inr rfl
   rcases hc with e |e
   ·rw[e] at hi2;simp at hi2
   ·have hi3:i.toNat<t.as.length:=by rw[e] at hi2;simpa using hi2
    exact⟨hi3,by simp only[e,R3]⟩
  obtain⟨hi3,e3⟩:=key;rw[e2,e3] at h1;obtain⟨v,hv,e⟩:=Jd hl p _ u h1;exact⟨v,by simp only[atT,dif_pos hi3,H5 h0];exact hv,e⟩
def Wz(vs vs':List VS):Prop:=∀ s y,fg vs s=some y->fg vs' s=some y
theorem Be(ops:List OpM):∀ (l:List Tm),(∀ t∈l,∀ x vs vs',gy ops t x vs=some vs'->Wz vs vs')->∀ xs vs vs',fa ops l xs vs=some vs'->Wz vs vs'
 | [],_,xs,vs,vs',h=>by simp only[fa,C9.injEq] at h;subst h;exact fun _ _ h=>h
 |t::l,ih,xs,vs,vs',h=>by
  have step:∀ x ys v,gy ops t x vs=some v->fa ops l ys v=some vs'->Wz vs vs':=fun x ys v hq h=>by
   have h1:=ih t (C6 ..) x vs v hq;have h2:=Be ops l (fun a ha=>ih a (C7 _ ha)) ys v vs' h
   exact fun s y hy=>h2 s y (h1 s y hy)
  cases xs with
  |nil =>
   simp only[fa] at h;cases hq:gy ops t e0 vs with
   |none=>rw[hq] at h;simp at h
   |some v=>rw[hq] at h;exact step _ _ _ hq h
  |cons x ys =>
   simp only[fa] at h;cases hq:gy ops t x vs with
   |none=>rw[hq] at h;simp at h
   |some v=>rw[hq] at h;exact step _ _ _ hq h
theorem Sm(ops:List OpM):∀ t:Tm,∀ x vs vs',gy ops t x vs=some vs'->Wz vs vs':=Tm.ind fun t ih x vs vs' h=>by
 rw[kz] at h;split at h
 ·split at h
  ·split at h
   ·simp only[C9.injEq] at h;subst h;exact fun _ _ h=>h
   ·simp at h
  ·simp only[C9.injEq] at h;subst h
   intro s y hy;rw[wi,hy]
 ·exact Be ops t.as ih _ _ _ h
theorem Sn(ops:List OpM)(wvs:List VS){σ:List Bnd}(hσ:∀ b∈σ,b.2.as=[]/\b.2.k=3):∀ l:Tm,l.areN=true->∀ u x vs vs' acc acc',u.areN=true->ax ops wvs u=x->x≠e0->gy ops l x vs=some vs'->mT l (rW (aS σ u)) acc=some acc' →
 ∀ q a,atT l q=some a->a.k=1->∃ w y,atT u q=some w/\fg vs' a.s=some y/\ax ops wvs w=y.2:=Tm.ind fun l ih hn u x vs vs' acc acc' hun hu hx hi hm q a ha hk=>by
 rcases dk hn with ⟨h1,has⟩|⟨h3,_,has⟩ |h2
 ·cases q with
  |cons i q=>obtain⟨hlt,_,_⟩:=cz ha;rw[has] at hlt;simp at hlt
  |nil =>
   simp only[atT,C9.injEq] at ha;subst ha;rw[kz,H5 h1] at hi;cases hv:fg vs l.s with
   |some y =>
    have hv':=hv;unfold fg at hv;rw[hv] at hi;simp only at hi;split at hi
    ·rename_i e
     simp only[C9.injEq] at hi;subst hi;exact⟨u,y,rfl,hv',by rw[hu];exact e.symm⟩
    ·simp at hi
   |none =>
    have hv':=hv;unfold fg at hv;rw[hv] at hi;simp only[C9.injEq] at hi;subst hi;exact⟨u,(l.s,x),rfl,by rw[wi,hv'];simp,hu⟩
 ·cases q with
  |cons i q=>obtain⟨hlt,_,_⟩:=cz ha;rw[has] at hlt;simp at hlt
  |nil=>simp only[atT,C9.injEq] at ha;subst ha;omega
 ·cases q with
  |nil=>simp only[atT,C9.injEq] at ha;subst ha;omega
  |cons i q =>
   rcases io hm with ⟨e,_⟩|⟨e,_⟩|⟨_,e1,_,e3,e4,hms⟩
   ·omega
   ·omega
   obtain⟨b1,b2,b3⟩:=Jc hσ hun (by omega)
   obtain⟨o,hf,hl,hss,_⟩:=jc (t:=u) b1 (by rw[hu];exact hx)
   rw[kz,H6 (by omega),H5 h2,e3,b2,hf] at hi
   simp only at hi;rw[b3] at hms e4;rw[B6] at e4;obtain⟨hlt,h0,h1⟩:=cz ha;have key:∀ (ts us:List Tm) (xs:List ByteArray) (vs:List VS) (acc:List Bnd),(∀ t∈ts,t∈l.as)->(∀ t∈us,t∈u.as)->us.length<=xs.length->bn ops wvs us xs=true->fa ops ts xs vs=some vs'->mTs ts (us.map fun a=>rW (aS σ a)) acc=some acc' →
    ∀ j (hj:j<ts.length) (hj':j<us.length),atT ts[j] q=some a->∃ w y,atT us[j] q=some w/\fg vs' a.s=some y/\ax ops wvs w=y.2:=by
    intro ts;induction ts with
    |nil=>intro us xs vs acc _ _ _ _ _ _ j hj;simp at hj
    |cons t ts ihs =>
     intro us xs vs acc hts hus hlen hs hi hm j hj hj' hat;cases us with
     |nil=>simp at hj'
     |cons u1 us =>
      cases xs with
      |nil=>simp at hlen
      |cons y xs =>
       simp only[bn,B9,F1,decide_eq_false_iff_not,decide_eq_true_eq] at hs;simp only[fa] at hi;simp only[C4,mTs] at hm;cases hi1:gy ops t y vs with
       |none=>rw[hi1] at hi;simp at hi
       |some vs1 =>
        rw[hi1] at hi;cases hm1:mT t (rW (aS σ u1)) acc with
        |none=>rw[hm1] at hm;simp at hm
        |some acc1 =>
         rw[hm1] at hm;simp only at hi hm;cases j with
         |zero =>
          obtain⟨w,z,k1,k2,k3⟩:=ih t (hts t (C6 ..)) (eb hn (hts t (C6 ..))) u1 y vs vs1 acc acc1 (eb hun (hus u1 (C6 ..))) hs.1.2 (by rw[<-hs.1.2];exact hs.1.1) hi1 hm1 q a hat hk
          exact⟨w,z,k1,Be ops ts (fun t _=>Sm ops t) xs vs1 vs' hi _ _ k2,k3⟩
         |succ j =>
          exact ihs us xs vs1 acc1 (fun t ht=>hts t (C7 _ ht)) (fun t ht=>hus t (C7 _ ht)) (by simpa using hlen) hs.2 hi hm j (by simpa using hj) (by simpa using hj') hat
   have hlt':i.toNat<u.as.length:=by omega
   obtain⟨w,y,k1,k2,k3⟩:=key l.as u.as o.a vs acc (fun _ h=>h) (fun _ h=>h) (by omega) hss hi hms i.toNat hlt hlt' h1
   exact⟨w,y,by simp only[atT,dif_pos hlt',H5 h0];exact k1,k2,k3⟩
theorem So{ops:List OpM}{vs vs1:List VS}{l:List Bnd}:∀ t:Tm,t.areN=true->ax ops vs t≠e0->(∀ s∈t.names,∃ w,bnd l s=some w/\∀ y,fg vs s=some y->ax ops vs1 w=y.2)->ax ops vs1 (aS l t)=ax ops vs t:=Tm.ind fun t ih hn hs hA=>by
 rw[Tm.names_eq] at hA;rcases dk hn with ⟨h1,ha⟩|⟨h3,_,ha⟩ |h2
 ·have e:ax ops vs t=rb vs t.s:=by rw[ck,H6 (by omega),H5 h1]
  rw[e] at hs ⊢;rw[Ik] at hs ⊢;cases hv:fg vs t.s with
  |none=>rw[hv] at hs;exact absurd rfl hs
  |some v =>
   obtain⟨w,hb,hw⟩:=hA t.s (by simp[h1])
   rw[eo,H5 h1,hb];exact hw v hv
 ·rw[eo,H6 (by omega)]
  rw[ck,ck ops vs,H5 (show(Tm.mk t.k t.n t.s _).k=3 from h3),H5 h3]
 ·obtain⟨o,hf,hl,hss,e⟩:=jc h2 hs
  rw[eo,H6 (by omega),e]
  have key:∀ (ts:List Tm) (xs:List ByteArray),(∀ a∈ts,a∈t.as)->bn ops vs ts xs=true->bn ops vs1 (ts.map (aS l)) xs=true:=by
   intro ts;induction ts with
   |nil=>intro xs _ _;rfl
   |cons a ts ihs =>
    intro xs hts h;cases xs with
    |nil=>rfl
    |cons y xs =>
     simp only[bn,B9,F1,decide_eq_false_iff_not,decide_eq_true_eq] at h;have hm:=hts a (C6 ..);have q:=ih a hm (eb hn hm) h.1.1 fun s hs=>hA s (D6.2 (.inr (K4.2 ⟨a,hm,hs⟩)))
     simp only[C4,bn,B9,F1,decide_eq_false_iff_not,decide_eq_true_eq,q];exact⟨h.1,ihs xs (fun z hz=>hts z (C7 _ hz)) h.2⟩
  exact kp (t:=.mk t.k t.n t.s (t.as.map (aS l))) h2 hf (by simpa[Tm.as] using hl) (key _ _ (fun _ h=>h) hss)
theorem Fj{ops:List OpM}{vs:List VS}:∀ (p:List Int) (t u:Tm),t.areN=true->ax ops vs t≠e0->atT t p=some u->u.areN=true/\ax ops vs u≠e0
 | [],t,u,hn,hs,h=>by simp only[atT,C9.injEq] at h;subst h;exact⟨hn,hs⟩
 |i::p,t,u,hn,hs,h=>by
  obtain⟨hi,h0,h1⟩:=cz h;have h2:t.k=2:=by
   rcases dk hn with ⟨_,q⟩|⟨_,_,q⟩ |h2
   ·rw[q] at hi;simp at hi
   ·rw[q] at hi;simp at hi
   ·exact h2
  obtain⟨o,hf,hl,hss,e⟩:=jc h2 hs;exact Fj p _ u (eb hn (C1 hi)) (mf ops vs t.as o.a (by omega) hss _ (C1 hi)) h1
theorem Je{ops:List OpM}{vs:List VS}{w:Tm}(hw:w.areN=true):∀ (p:List Int) (t u:Tm),t.areN=true->ax ops vs t≠e0->atT t p=some u->ax ops vs w=ax ops vs u->(ee t p w).areN=true/\ax ops vs (ee t p w)=ax ops vs t
 | [],t,u,hn,hs,h,he=>by simp only[atT,C9.injEq] at h;subst h;exact⟨hw,he⟩
 |i::p,t,u,hn,hs,h,he=>by
  obtain⟨hi,h0,h1⟩:=cz h;have h2:t.k=2:=by
   rcases dk hn with ⟨_,q⟩|⟨_,_,q⟩ |h2
   ·rw[q] at hi;simp at hi
   ·rw[q] at hi;simp at hi
   ·exact h2
  obtain⟨o,hf,hl,hss,e⟩:=jc h2 hs;have hm:=C1 hi;obtain⟨g1,g2⟩:=Je hw p _ u (eb hn hm) (mf ops vs t.as o.a (by omega) hss _ hm) h1 he
  simp only[ee,dif_pos hi];refine⟨yr hn (by simp) fun a ha=>?_,?_⟩
  ·rcases K7 ha with q |q
   ·exact eb hn q
   ·exact q▸g1
  ·rw[e]
   refine kp (t:=.mk t.k t.n t.s _) h2 hf (by rw[Tm.as_mk,K0];exact hl) ?_
   rw[Tm.as_mk,sj t.as o.a i.toNat hi _ g2];exact hss
theorem Sp{l:List Bnd}:∀ t:Tm,∀ s∈(aS l t).names,(s∈t.names/\bnd l s=none)\/∃ b∈l,s∈b.2.names:=Tm.ind fun t ih s hs=>by
 rw[eo] at hs;by_cases hk:t.k=1
 ·rw[H5 hk] at hs
  cases hb:bnd l t.s with
  |some v =>
   rw[hb] at hs;obtain⟨b,h1,rfl⟩:=dr hb;exact .inr ⟨b,h1,hs⟩
  |none =>
   rw[hb] at hs;simp only at hs;rw[Tm.names_eq,Tm.k_mk,H5 hk] at hs;rcases D6.1 hs with h |h
   ·simp only[F2] at h
    have h:s=t.s:=h;exact .inl ⟨by rw[Tm.names_eq,H5 hk];simp[h],by rw[h];exact hb⟩
   ·obtain⟨x,hx,hs⟩:=K4.1 h
    obtain⟨a,ha,rfl⟩:=F8.1 hx;rcases ih a ha s hs with ⟨q1,q2⟩ |q
    ·exact .inl ⟨by rw[Tm.names_eq];exact D6.2 (.inr (K4.2 ⟨a,ha,q1⟩)),q2⟩
    ·exact .inr q
 ·rw[H6 hk] at hs
  simp only at hs;rw[Tm.names_eq,Tm.k_mk,H6 hk,D8] at hs;obtain⟨x,hx,hs⟩:=K4.1 hs;obtain⟨a,ha,rfl⟩:=F8.1 hx;rcases ih a ha s hs with ⟨q1,q2⟩ |q
  ·exact .inl ⟨by rw[Tm.names_eq];exact D6.2 (.inr (K4.2 ⟨a,ha,q1⟩)),q2⟩
  ·exact .inr q
theorem Dq{w:Tm}:∀ (p:List Int) (t:Tm),∀ s∈(ee t p w).names,s∈t.names\/s∈w.names
 | [],t,s,hs=>.inr hs
 |i::p,t,s,hs=>by
  simp only[ee] at hs;split at hs
  ·rename_i hi
   rw[Tm.names_eq,Tm.k_mk,Tm.as_mk] at hs;rw[Tm.names_eq];rcases D6.1 hs with h |h
   ·exact .inl (D6.2 (.inl h))
   ·obtain⟨x,hx,hs⟩:=K4.1 h
    rcases K7 hx with q |q
    ·exact .inl (D6.2 (.inr (K4.2 ⟨x,q,hs⟩)))
    ·subst q
     rcases Dq p _ s hs with q |q
     ·exact .inl (D6.2 (.inr (K4.2 ⟨_,C1 hi,q⟩)))
     ·exact .inr q
  ·exact .inl hs
theorem Nj{vars:List ByteArray}{c:Int}:∀ b∈bo vars c,b.2.as=[]/\b.2.k=3:=fun b hb=>by
 unfold bo at hb;simp only[F8] at hb;obtain⟨p,_,rfl⟩:=hb;exact⟨rfl,rfl⟩
theorem Li{ops:List OpM}{r:RuM}(h:jm ops r=true):∀ s∈r.r.names,s∈r.l.names:=by
 unfold jm at h;simp only[B9,decide_eq_true_eq] at h;obtain⟨_,_,_,_,_,h4⟩:=h;cases hf:dp ops r.l.s with
 |none=>rw[hf] at h4;simp at h4
 |some o =>
  rw[hf] at h4;simp only at h4;cases hi:po ops r.l o.r with
  |none=>rw[hi] at h4;simp at h4
  |some vs =>
   rw[hi] at h4;simp only[B9] at h4;exact ft.1 h4.2.1
theorem Sq{d:DfM}{v:List ByteArray}{t:Tm}(hb:DfB d)(hw:Wt t)(hs:jn d v t=true){c:Int}(hc:isC v.length c=true){x:Nat×List Int}(hx:nx d (dh v t c)=some x)(hv:(dv d t x).valid=true):jn d v (dv d t x)=true:=by
 obtain⟨hd,htn,hg,hgn,_⟩:=Av hb hw hs hc;have hs':=hs;simp only[jn,B9,F1,decide_eq_false_iff_not] at hs' ⊢;obtain⟨s1,s2,s3,s4,s5,s6,s7⟩:=hs';refine⟨s1,s2,s3,s4,hv,?_⟩;have hna:=dq s5;obtain⟨u',r,w',q1,q2,q3⟩:=yt d (dh v t c) x.1 x.2 hx;obtain⟨u,hu,rfl⟩:=Jd (Iz v c) x.2 t u' q1;obtain⟨hun,hus⟩:=Fj x.2 t u hna s7 hu;have hr:=hd.ru (N7 q2);have hrw:∀ s∈r.r.names,s∈r.l.names:=by
  have:=hd.v;simp only[DfM.valid,B9,E3] at this;exact Li (this.2.2.2.1 r (N7 q2))
 unfold gb at q3;cases hm:mT r.l (rW (aS (bo v c) u)) [] with
 |none=>rw[hm] at q3;simp at q3
 |some l' =>
 obtain⟨o,vs,hf,hi,hso⟩:=hr.inf;have hk:(rW (aS (bo v c) u)).k=2/\(rW (aS (bo v c) u)).s=r.l.s:=by
  rcases io hm with ⟨q,_⟩|⟨q,_⟩|⟨_,q1,_,q2,_⟩
  ·have:=hr.lk;omega
  ·have:=hr.lk;omega
  ·exact⟨by rw[<-q1];exact hr.lk,q2.symm⟩
 obtain⟨b1,b2,b3⟩:=Jc Nj hun hk.1;obtain⟨o',hf',hl',hss',he'⟩:=jc b1 hus;rw[<-b2,hk.2,hf] at hf';simp only[C9.injEq] at hf';subst hf';have hne:o.r≠e0:=he'▸hus;have hP:=Sn d.op (wv v) Nj r.l (dq hr.lv) u o.r [] vs [] l' hun he' hne (ut hi) hm
 -- bindings
 have hB:∀ b∈jo r.l (atO t x.2),∃ q a y,atT r.l q=some a/\a.k=1/\a.s=b.1/\atT u q=some b.2/\fg vs b.1=some y/\ax d.op (wv v) b.2=y.2:=fun b hb'=>by
  obtain⟨s,w⟩:=b;obtain⟨q,a,k1,k2,k3,k4⟩:=Pi hb';have eu:atO t x.2=u:=by simp[atO,hu]
  obtain⟨w2,y,m1,m2,m3⟩:=hP q a k1 k2;have ew:w=w2:=by rw[k4,eu];simp[atO,m1]
  subst ew;exact⟨q,a,y,k1,k2,k3,m1,by rw[<-k3];exact m2,m3⟩
 have hBn:∀ b∈jo r.l (atO t x.2),b.2.areN=true:=fun b hb'=>by
  obtain⟨q,a,y,_,_,_,m1,_⟩:=hB b hb';exact(Fj q u b.2 hun hus m1).1
 have hBw:∀ b∈jo r.l (atO t x.2),∀ s∈b.2.names,s∈t.names:=fun b hb' s hs=>by
  obtain⟨q,a,y,_,_,_,m1,_⟩:=hB b hb';exact Az x.2 t u hu s (Az q u b.2 m1 s hs)
 have hrn:=Fg hBn r.r (dq hr.rv);have hrs:ax d.op (wv v) (aS (jo r.l (atO t x.2)) r.r)=o.r:=by
  rw[<-hso];refine So r.r (dq hr.rv) (by rw[hso];exact hne) fun s hs=>?_
  obtain⟨w,hbw⟩:=Jb (u:=atO t x.2) (hrw s hs);refine⟨w,hbw,fun y hy=>?_⟩
  obtain⟨q,a,y',_,_,_,_,m2,m3⟩:=hB _ (Aw hbw);rw[hy] at m2;simp only[C9.injEq] at m2;rw[m2];exact m3
 obtain⟨p1,p2⟩:=Je hrn x.2 t u hna s7 hu (by rw[hrs,he'])
 have ec:dv d t x=rW (ee t x.2 (aS (jo r.l (atO t x.2)) r.r)):=by
  unfold dv;rw[q2]
 rw[ec];refine⟨ft.2 fun s hs=>?_,by rw[Ff d.op (wv v) _ p1 (by rw[p2];exact s7),p2];exact s7⟩
 rw[Af] at hs;refine ft.1 s6 s ?_;rcases Dq x.2 t s hs with h |h
 ·exact h
 ·rcases Sp r.r s h with ⟨h1,h2⟩|⟨b,h1,h2⟩
  ·obtain⟨w,hbw⟩:=Jb (u:=atO t x.2) (hrw s h1)
   rw[hbw] at h2;simp at h2
  ·exact hBw b h1 s h2
end Go.Q
end
section
/- Proofs of claims. -/
namespace Go.Q
open Go
def bv(c:ClM):List D:=[.sl (c.v.map ag),.int c.l.k,.int c.l.n,.str c.l.s,.sl (c.l.as.map Tm.row),.int c.r.k,.int c.r.n,.str c.r.s,.sl (c.r.as.map Tm.row),.sl (c.g.map Gu.row)]
structure PnM where
 k:Int
 nx:List Int
 c:Int
 s:List Bnd
def PnM.row(n:PnM):List D:=[.int n.k,.sl (n.nx.map al),.int n.c,.sl (n.s.map Bnd.row)]
structure PnB(n:PnM):Prop where
 nx:n.nx.length<=1048576
 s:n.s.length<=1048576
 b:∀ b∈n.s,au b.2
noncomputable def opC(g:ClM)(t:Tm)(cl:List Int):List Int:=cl.filter fun k=>!eqb (S.instR g.v t k).row (S.instR g.v g.r k).row
noncomputable def pu(c:ClM)(sub:List Bnd)(g:ClM)(t:Tm)(k:Int):Bool :=
 (fm g.v k c.v sub).2&&((c.g.all fun q=>holds (di (bo c.v (fm g.v k c.v sub).1) q))&&(eqb (S.instR c.v c.l (fm g.v k c.v sub).1).row (S.instR g.v t k).row&&eqb (S.instR c.v c.r (fm g.v k c.v sub).1).row (S.instR g.v g.r k).row))
def qw(cs:List ClM)(i:Int):Option ClM:=if 0<=i then cs[i.toNat]? else none
noncomputable def rgt(d:DfM)(cs:List ClM)(g:ClM)(ns:List PnM):Nat->Int->Tm->List Int->Bool->Bool
 |0,_,_,_,_=>false
 |f+1,n,t,cl,st=>if n<0 then false else match ns[n.toNat]? with
  |none=>false
  |some x=>if x.k=1 then decide ((opC g t cl).length=0) else if x.k=2 then decide ((brF d g.v t (opC g t cl) []).length=x.nx.length)&&(((brF d g.v t (opC g t cl) []).zip x.nx).all fun p=>decide (bK d t p.1.1=2)&&(!decide (p.2<=n)&&rgt d cs g ns f p.2 (bT d t p.1.1) p.1.2 true))
   else if x.k=3 then st&&(match qw cs x.c with |some c=>(opC g t cl).all (pu c x.s g t) |none=>false) else false
noncomputable def gk(cs:List ClM):Bool:=cs.all ClM.valid
noncomputable def yp(cs:List ClM)(k:Int):Option ClM:=if cs.length<=3/\gk cs=true then qw cs k else none
noncomputable def Lj(d:DfM)(cs:List ClM)(k:Int)(ns:List PnM):Bool:=match yp cs k with
 |some g=>decide (ns.length<=60)&&rgt d cs g ns ns.length 0 g.l ((kr g.v g.g).map fun (i:Nat)=>(i:Int)) false
 |none=>false
theorem Jf(vars:List ByteArray)(c:Int)(l:List Bnd):∀ (xs:List ByteArray) (out r B:Int),0<=out->out<B->B*4 ^ xs.length<=64->me (fv vars c l) xs out=some r->0<=r/\r<B*4 ^ xs.length
 | [],out,r,B,h0,h1,h2,h=>by simp only[me,C9.injEq] at h;subst h;simp;omega
 |x::xs,out,r,B,h0,h1,h2,h=>by
  simp only[me] at h;cases hs:fv vars c l x out with
  |none=>rw[hs] at h;simp at h
  |some o =>
   rw[hs] at h;simp only at h;unfold fv at hs;cases hb:bnd l x with
   |none=>rw[hb] at hs;simp at hs
   |some t =>
    rw[hb] at hs;simp only at hs;split at hs
    ·rename_i hw
     simp only[isW,B9,decide_eq_true_eq] at hw;obtain⟨_,w1,w2,_⟩:=hw;simp only[C9.injEq] at hs;have hp:(1:Int)<=4 ^ xs.length:=Int.pow_pos (by decide)
     have e4:B*4 ^ (x::xs).length=4*B*4 ^ xs.length:=by rw[C2,Int.pow_succ,Int.mul_comm 4 B,Int.mul_assoc,Int.mul_comm (4 ^ xs.length) 4]
     have hB:4*B<=64:=by
      have:4*B*1<=4*B*4 ^ xs.length:=Int.mul_le_mul_of_nonneg_left hp (by omega)
      omega
     have e1:IntKind.i64.wrap (4*out)=4*out:=IntWalk.i64_in _ (by omega)
     have e2:IntKind.i64.wrap (4*out+(dh vars t c).n)=4*out+(dh vars t c).n:=IntWalk.i64_in _ (by omega)
     rw[e1,e2] at hs;have:=Jf vars c l xs o r (4*B) (by omega) (by omega) (by rw[<-e4];exact h2) h
     rw[e4];exact this
    ·simp at hs
theorem Nk{vars:List ByteArray}{c:Int}{tv:List ByteArray}{l:List Bnd}(h:(fm vars c tv l).2=true):isC tv.length (fm vars c tv l).1=true:=by
 unfold fm at h ⊢;split at h
 ·rename_i hc
  rw[H5 hc];cases ho:me (fv vars c l) tv 0 with
  |none=>rw[ho] at h;simp at h
  |some r =>
   simp only;have hn:tv.length=0\/tv.length=1\/tv.length=2\/tv.length=3:=by have:=hc.2;omega
   have h64:(1:Int)*4 ^ tv.length<=64:=by rcases hn with e |e |e |e<;>rw[e]<;>decide
   obtain⟨k1,k2⟩:=Jf vars c l tv 0 r 1 (by decide) (by decide) h64 ho
   simp only[isC,gh,B9,decide_eq_true_eq,H5 hc.2];rw[Int.one_mul] at k2;exact⟨k1,k2⟩
 ·simp at h
theorem Sr{vars:List ByteArray}{gs:List Gu}{n:Int}(h:isC vars.length n=true):Lc ((kr vars gs).map fun (i:Nat)=>(i:Int)) n=gs.all fun q=>holds (di (bo vars n) q):=by
 obtain⟨h1,h2,h3⟩:=lc h;obtain⟨m,rfl⟩:∃ m:Nat,n=(m:Int):=⟨n.toNat,by omega⟩
 have hm:m<(gh vars.length).toNat:=by
  simp only[isC,B9,decide_eq_true_eq] at h;omega
 rw[Bool.eq_iff_iff];simp only[Lc,List.any_map,R0,Function.comp,decide_eq_true_eq];constructor
 ·rintro⟨i,hi,e⟩
  have:i=m:=by omega
  subst this;unfold kr at hi;exact(S0.1 hi).2
 ·intro hg
  refine⟨m,?_,rfl⟩;unfold kr;exact S0.2 ⟨List.mem_range.2 hm,hg⟩
theorem ql(l:List Nat):l.map S.nRow=(l.map fun (i:Nat)=>(i:Int)).map al:=by rw[K9];rfl
theorem Pj{n:Nat}{c:Int}:∀ (r:List Int) (p:Option Int),(∀ q,p=some q->q<=c)->kq n (some c) r=true->kq n p r=true
 | [],_,_,_=>rfl
 |x::r,p,hp,h=>by
  simp only[kq,B9,F1,decide_eq_false_iff_not] at h ⊢;refine⟨h.1,?_,h.2.2⟩;cases p with
  |none=>rfl
  |some q=>simp only[F1,decide_eq_false_iff_not];have:=hp q rfl;omega
theorem Pk{n:Nat}{p:Option Int}{c:Int}{r:List Int}(h:kq n p (c::r)=true):kq n p r=true:=by
 simp only[kq,B9] at h;refine Pj r p (fun q hq=>?_) h.2.2
 subst hq;have:=h.2.1;simp only[F1,decide_eq_false_iff_not] at this;omega
theorem Bf{n:Nat}{l cl:List Int}(h:l.Sublist cl):∀ p,kq n p cl=true->kq n p l=true:=by
 induction h with
 |slnil=>intro p h;exact h
 |cons a _ ih=>intro p h;exact ih p (Pk h)
 |cons_cons a _ ih =>
  intro p h;simp only[kq,B9] at h ⊢;exact⟨h.1,h.2.1,ih _ h.2.2⟩
def pvI:Option Int->Int
 |some q=>if 0<=q then q+1 else 0
 |none=>0
theorem Jg{n:Nat}:∀ (cl:List Int) (p:Option Int),kq n p cl=true->(cl.length:Int)<=64-pvI p\/cl=[]
 | [],p,_=>.inr rfl
 |c::r,p,h=>by
  simp only[kq,B9] at h;have hc:=lc h.1;left;have h1:=Jg r (some c) h.2.2;have hpc:pvI p<=c:=by
   cases p with
   |none=>exact hc.2.1
   |some q =>
    have:=h.2.1;simp only[F1,decide_eq_false_iff_not] at this;show(if 0<=q then q+1 else 0)<=c
    split<;>omega
  simp only[C2];rcases h1 with h1 |h1
  ·have e:pvI (some c)=c+1:=by show(if 0<=c then c+1 else 0)=c+1;rw[H5 hc.2.1]
   rw[e] at h1;omega
  ·subst h1;simp only[C5];omega
theorem Nl{d:DfM}{v:List ByteArray}{t:Tm}:∀ (l P:List Int) (out:List (Bk×List Int)),(∀ b∈out,b.2.Sublist P/\∃ c∈P,nx d (dh v t c)=b.1)->∀ b∈brF d v t l out,b.2.Sublist (P++l)/\∃ c∈P++l,nx d (dh v t c)=b.1
 | [],P,out,h=>by simpa only[brF,G8] using h
 |c::r,P,out,h=>by
  have h1:∀ b∈qv out (nx d (dh v t c)) c,b.2.Sublist (P++[c])/\∃ c'∈P++[c],nx d (dh v t c')=b.1:=fun b hb=>by
   have old:∀ b∈out,b.2.Sublist (P++[c])/\∃ c'∈P++[c],nx d (dh v t c')=b.1:=fun b hb=>by
    obtain⟨k1,c',k2,k3⟩:=h b hb;exact⟨k1.trans (List.sublist_append_left ..),c',D6.2 (.inl k2),k3⟩
   unfold qv at hb;split at hb
   ·split at hb
    ·rename_i q hq
     rcases K7 hb with hb |hb
     ·exact old b hb
     ·subst hb
      obtain⟨k1,c',k2,k3⟩:=h q (N7 hq);exact⟨List.Sublist.append k1 (List.Sublist.refl _),c',D6.2 (.inl k2),k3⟩
    ·exact old b hb
   ·rcases D6.1 hb with hb |hb
    ·exact old b hb
    ·simp only[F2] at hb;subst hb
     exact⟨List.sublist_append_right ..,c,by simp,rfl⟩
  have:=Nl r (P++[c]) _ h1;simpa only[brF,E2,F4,D8] using this
structure StG(d:DfM)(v:List ByteArray)(t:Tm)(cl:List Int):Prop where
 w:Wt t
 s:jn d v t=true
 c:kq v.length none cl=true
theorem StG.n{d:DfM}{v:List ByteArray}{t:Tm}{cl:List Int}(h:StG d v t cl):t.nodes<=60:=by
 have:=h.s;simp only[jn,B9] at this;exact az this.2.2.2.2.1
theorem StG.l{d:DfM}{v:List ByteArray}{t:Tm}{cl:List Int}(h:StG d v t cl):cl.length<=64:=by
 rcases Jg cl none h.c with k |k
 ·simp only[pvI] at k;omega
 ·subst k;simp
theorem StG.op{d:DfM}{v:List ByteArray}{t:Tm}{cl:List Int}(h:StG d v t cl){l:List Int}(hl:l.Sublist cl):StG d v t l:=⟨h.w,h.s,Bf hl none h.c⟩
theorem StG.next{d:DfM}(hb:DfB d){v:List ByteArray}{t:Tm}{cl:List Int}(h:StG d v t cl){b:Bk×List Int}(hm:b∈brF d v t cl [])(hk:bK d t b.1=2):StG d v (bT d t b.1) b.2:=by
 obtain⟨h1,c,h2,h3⟩:=Nl (d:=d) (v:=v) (t:=t) cl [] [] (by simp) b hm
 simp only[D8] at h1 h2;have hc:=cm cl none h.c c h2;obtain⟨bk,bl⟩:=b;simp only at h3 hk h1 ⊢;cases bk with
 |none=>exact absurd hk (by show ¬(1:Int)=2;decide)
 |some y =>
  have hv:(dv d t y).valid=true:=by
   cases hq:(dv d t y).valid with
   |true=>rfl
   |false =>
    have:bK d t (some y)=3:=by show(if (dv d t y).valid=true then (2:Int) else 3)=3;rw[hq];rfl
    omega
  have e:bT d t (some y)=dv d t y:=by show(if (dv d t y).valid=true then dv d t y else tm0)=_;rw[H5 hv]
  rw[e];obtain⟨hd,_,_,_,hx⟩:=Av hb h.w h.s hc;rw[h3] at hx;exact⟨(Le hd h.w h.n (hx.i y rfl).2.1).1,Sq hb h.w h.s hc h3 hv,Bf h1 none h.c⟩
end Go.Q
namespace Go.Q.S
open Go Go.Q
end Go.Q.S
end
section
/- Starts of claims;rows of claims. -/
namespace Go.Q
open Go
def Lk{α:Type}(p:α->Int->Bool):List α->List Int->Bool
 | [],_=>true
 |_::_,[]=>false
 |b::l,m::n=>p b m&&Lk p l n
theorem Jh{α:Type}(p:α->Int->Bool):∀ (l:List α) (n:List Int),l.length=n.length->Lk p l n=(l.zip n).all fun q=>p q.1 q.2
 | [],n,_=>by simp[Lk]
 |_::_,[],h=>by simp at h
 |b::l,m::n,h=>by simp only[Lk,S6,J1,Jh p l n (by simpa using h)]
theorem Ji(n:Nat):∀ (k a:Nat) (p:Option Int),(∀ i,a<=i->i<a+k->isC n (i:Int)=true)->(∀ q,p=some q->q<(a:Int))->kq n p ((List.range' a k).map fun (i:Nat)=>(i:Int))=true
 |0,_,_,_,_=>rfl
 |k+1,a,p,h,hp=>by
  simp only[List.range'_succ,C4,kq,B9];refine⟨h a (E7 _) (by omega),?_,Ji n k (a+1) _ (fun i h1 h2=>h i (by omega) (by omega)) fun q hq=>by simp only[C9.injEq] at hq;omega⟩
  cases p with
  |none=>rfl
  |some q =>
   have:=hp q rfl;simp only[F1,decide_eq_false_iff_not];omega
theorem Ss(vars:List ByteArray)(gs:List Gu):kq vars.length none ((kr vars gs).map fun (i:Nat)=>(i:Int))=true:=by
 refine Bf (cl:=(T6 (gh vars.length).toNat).map fun (i:Nat)=>(i:Int)) ?_ none ?_
 ·unfold kr;exact(O9).map _
 ·rw[List.range_eq_range']
  refine Ji _ _ 0 none (fun i _ hi=>?_) (by simp)
  have:=mv vars.length;simp only[isC,B9,decide_eq_true_eq];omega
theorem StG.start{c:ClM}(hb:ClB c)(h:c.valid=true):StG c.d c.v c.l ((kr c.v c.g).map fun (i:Nat)=>(i:Int)):=by
 simp only[ClM.valid,B9] at h;exact⟨hb.wl,h.1,Ss c.v c.g⟩
theorem StG.sy{d:DfM}(hb:DfB d){c:ClM}(hc:ClB c){t:Tm}{cl:List Int}(h:StG d c.v t cl):SyB ⟨d,c.v,t,cl⟩/\Aq d c.v t cl=true/\brL ⟨d,c.v,t,cl⟩=brF d c.v t cl []:=by
 have h1:=h.n;have h2:=h.l;have h3:Aq d c.v t cl=true:=by simp only[Aq,B9];exact⟨h.s,h.c⟩
 exact⟨⟨hb,hc.v,hc.vs,h.w,by show t.nodes<=_;omega,by show cl.length<=_;omega⟩,h3,by unfold brL;rw[H5 h3]⟩
theorem qm{cs:List ClM}{k:Int}{g:ClM}(h:yp cs k=some g):cs.length<=3/\gk cs=true/\qw cs k=some g:=by
 unfold yp at h;split at h
 ·rename_i q;exact⟨q.1,q.2,h⟩
 ·simp at h
end Go.Q
namespace Go.Q.S
open Go Go.Q
end Go.Q.S
end
section
/- Lists of proofs;verdicts. -/
namespace Go.Q
open Go
def jh(ns:List PnM):List D:=[.sl (ns.map PnM.row)]
structure PfB(ns:List PnM):Prop where
 l:ns.length<=1048576
 b:∀ n∈ns,PnB n
noncomputable def Jj(d:DfM)(cs:List ClM):Nat->List (List PnM)->Bool
 |_,[]=>true
 |i,p::r=>Lj d cs (i:Int) p&&Jj d cs (i+1) r
noncomputable def Su(d:DfM)(cs:List ClM)(ps:List (List PnM)):Bool:=decide (ps.length=cs.length)&&(Jj d cs 0 ps&&decide (0<cs.length))
end Go.Q
namespace Go.Q.S
open Go Go.Q
end Go.Q.S
end
section
/- The search for proofs. -/
namespace Go.Q
open Go
def rsl(l:Tm)(b:List Bnd):List Bnd:=rsB b (bw (bw l.names))
noncomputable def ji(g:ClM)(t:Tm)(op:List Int):List ClM->Nat->Option PnM
 | [],_=>none
 |c::r,i=>match mT c.l t [] with
  |some l=>if op.all (pu c (rsl c.l l) g t)=true then some ⟨3,[],(i:Int),rsl c.l l⟩ else ji g t op r (i+1)
  |none=>ji g t op r (i+1)
noncomputable def chl(f:Nat->Tm->List Int->Option (List PnM))(d:DfM)(t:Tm):List (Bk×List Int)->Nat->Option (List Int×List PnM)
 | [],_=>some ([],[])
 |b::r,base=>match f base (bT d t b.1) b.2 with
  |none=>none
  |some n1=>match chl f d t r (base+n1.length) with
   |none=>none
   |some y=>some ((base:Int)::y.1,n1++y.2)
def qx(base:Nat)(op:List Int)(cir:Option PnM)(k:Option (List PnM)):Option (List PnM) :=
 if base=60 then none else if op.length=0 then some [⟨1,[],0,[]⟩] else match cir with |some x=>some [x] |none=>k
def mk2:Option (List Int×List PnM)->Option (List PnM)
 |some y=>some (⟨2,y.1,0,[]⟩::y.2)
 |none=>none
noncomputable def fnd(d:DfM)(cs:List ClM)(g:ClM):Nat->Nat->Tm->List Int->Option (List PnM)
 |0,base,t,cl=>qx base (opC g t cl) (ji g t (opC g t cl) cs 0) none
 |r+1,base,t,cl=>qx base (opC g t cl) (if r+1<12 then ji g t (opC g t cl) cs 0 else none)
  (if (brF d g.v t (opC g t cl) []).all (fun b=>decide (bK d t b.1=2))=true then mk2 (chl (fnd d cs g r) d t (brF d g.v t (opC g t cl) []) (base+1)) else none)
noncomputable def fpR(d:DfM)(cs:List ClM)(k:Int):Option (List PnM):=match yp cs k with
 |some g=>fnd d cs g 12 0 g.l ((kr g.v g.g).map fun (i:Nat)=>(i:Int))
 |none=>none
def fpD:Option (List PnM)->List D
 |some ns=>[.bool true,.sl (ns.map PnM.row)]
 |none=>[.bool false,.sl []]
noncomputable def prL(d:DfM)(cs:List ClM):Nat->Nat->Option (List (List PnM))
 |0,_=>some []
 |n+1,i=>match fpR d cs (i:Int) with
  |none=>none
  |some p=>match prL d cs n (i+1) with
   |none=>none
   |some r=>some (p::r)
def paD:Option (List (List PnM))->List D
 |some ps=>[.bool (decide (0<ps.length)),.sl (ps.map jh)]
 |none=>[.bool false,.sl []]
theorem Jk{base:Nat}{op:List Int}{cir:Option PnM}{k:Option (List PnM)}{n:List PnM}(hb:base<=60)(hk:∀ n,k=some n->base≠60->base+n.length<=60)(h:qx base op cir k=some n):base+n.length<=60/\0<n.length\/(k=some n/\base+n.length<=60):=by
 unfold qx at h;split at h
 ·simp at h
 ·rename_i h0
  split at h
  ·simp only[C9.injEq] at h;subst h;left;simp only[C2,C5];omega
  ·cases cir with
   |some x=>simp only[C9.injEq] at h;subst h;left;simp only[C2,C5];omega
   |none=>exact .inr ⟨h,hk n h h0⟩
theorem Fk{f:Nat->Tm->List Int->Option (List PnM)}{d:DfM}{t:Tm}(hf:∀ base t cl n,base<=60->f base t cl=some n->base+n.length<=60):∀ (L:List (Bk×List Int)) (base:Nat) (y:List Int×List PnM),base<=60->chl f d t L base=some y->base+y.2.length<=60/\y.1.length=L.length
 | [],base,y,hb,h=>by simp only[chl,C9.injEq] at h;subst h;exact⟨hb,rfl⟩
 |b::r,base,y,hb,h=>by
  simp only[chl] at h;cases h1:f base (bT d t b.1) b.2 with
  |none=>rw[h1] at h;simp at h
  |some n1 =>
   rw[h1] at h;simp only at h;have h2:=hf _ _ _ _ hb h1;cases h3:chl f d t r (base+n1.length) with
   |none=>rw[h3] at h;simp at h
   |some z =>
    rw[h3] at h;simp only[C9.injEq] at h;subst h;have h4:=Fk hf r _ z h2 h3;simp only[E6,C2];omega
theorem mz(d:DfM)(cs:List ClM)(g:ClM):∀ r base t cl n,base<=60->fnd d cs g r base t cl=some n->base+n.length<=60
 |0,base,t,cl,n,hb,h=>by
  simp only[fnd] at h;rcases Jk hb (by simp) h with h |h
  ·exact h.1
  ·exact h.2
 |r+1,base,t,cl,n,hb,h=>by
  simp only[fnd] at h;rcases Jk hb (fun m hm h60=>by
   split at hm
   ·cases hc:chl (fnd d cs g r) d t (brF d g.v t (opC g t cl) []) (base+1) with
    |none=>rw[hc] at hm;simp[mk2] at hm
    |some y =>
     rw[hc] at hm;simp only[mk2,C9.injEq] at hm;subst hm;have:=(Fk (mz d cs g r) _ _ y (by omega) hc).1
     simp only[C2];omega
   ·simp at hm) h with h |h
  ·exact h.1
  ·exact h.2
structure wq(n:PnM):Prop where
 k:0<=n.k/\n.k<=3
 nl:n.nx.length<=64
 ni:∀ j∈n.nx,0<=j/\j<=60
 c:0<=n.c/\n.c<=3
 sl:n.s.length<=60
 sb:∀ b∈n.s,b.1.size<=maxLen/\Wt b.2/\b.2.nodes<=60
theorem Jl{l:List Bnd}{ns:List ByteArray}{b:Bnd}(h:b∈rsB l ns):b.1∈ns/\(b.1,b.2)∈l:=by
 unfold rsB at h;obtain⟨s,hs,e⟩:=R4.1 h;cases hb:bnd l s with
 |none=>rw[hb] at e;simp at e
 |some v =>
  rw[hb] at e;simp only[K6,C9.injEq] at e;subst e;exact⟨hs,Aw hb⟩
theorem Jm{l:List ByteArray}{s:ByteArray}(h:s∈bw l):s∈l  :=(pk l s).1 h
theorem Fl{g:ClM}{t:Tm}(ht:Wt t)(hn:t.nodes<=60){op:List Int}:∀ (cs:List ClM) (i:Nat),(∀ c∈cs,Wt c.l/\c.l.nodes<=60)->i+cs.length<=3->∀ x,ji g t op cs i=some x->wq x
 | [],i,_,_,x,h=>by simp[ji] at h
 |c::r,i,hc,hi,x,h=>by
  simp only[C2] at hi;have ih:=Fl (g:=g) (op:=op) ht hn r (i+1) (fun c' h'=>hc c' (C7 _ h')) (by omega) x
  simp only[ji] at h;obtain⟨w1,w2⟩:=hc c (C6 ..);cases hm:mT c.l t [] with
  |none=>rw[hm] at h;exact ih h
  |some l =>
   rw[hm] at h;simp only at h;split at h
   ·simp only[C9.injEq] at h
    subst h;have hall:=ko (fun t=>Wt t/\t.nodes<=60) (fun t a h ha=>⟨h.1.sub ha,mh t a h.2 ha⟩) c.l t [] l ⟨ht,hn⟩ (by simp) hm
    have hsl:=cy c.l.names;have hsl2:=cy (bw c.l.names);have hnn:=bq c.l;refine⟨by show(0:Int)<=3/\(3:Int)<=3;decide,J0 _,by intro j hj;simp at hj,by show(0:Int)<=(i:Int)/\(i:Int)<=3;omega,?_,fun b hb=>?_⟩
    ·show(rsB l (bw (bw c.l.names))).length<=60
     refine G7 (S3 ..) (by omega)
    ·obtain⟨b1,b2⟩:=Jl hb
     obtain⟨q1,q2⟩:=hall _ b2;exact⟨Ku c.l w1 _ (Jm (Jm b1)),q1,q2⟩
   ·exact ih h
theorem Sv{f:Nat->Tm->List Int->Option (List PnM)}{d:DfM}{t:Tm}:∀ (L:List (Bk×List Int)) (base:Nat) (y:List Int×List PnM),(∀ b∈L,∀ base n,base<=60->f base (bT d t b.1) b.2=some n->base+n.length<=60/\∀ x∈n,wq x)->base<=60->chl f d t L base=some y->(∀ j∈y.1,0<=j/\j<=60)/\∀ x∈y.2,wq x
 | [],base,y,_,hb,h=>by simp only[chl,C9.injEq] at h;subst h;exact⟨by simp,by simp⟩
 |b::r,base,y,hf,hb,h=>by
  simp only[chl] at h;cases h1:f base (bT d t b.1) b.2 with
  |none=>rw[h1] at h;simp at h
  |some n1 =>
   rw[h1] at h;simp only at h;obtain⟨h2,h2'⟩:=hf b (C6 ..) _ _ hb h1;cases h3:chl f d t r (base+n1.length) with
   |none=>rw[h3] at h;simp at h
   |some z =>
    rw[h3] at h;simp only[C9.injEq] at h;subst h;obtain⟨h4,h5⟩:=Sv r _ z (fun b hb=>hf b (C7 _ hb)) h2 h3
    refine⟨fun j hj=>?_,fun x hx=>?_⟩
    ·rcases E1.1 hj with e |hj
     ·subst e;omega
     ·exact h4 j hj
    ·rcases D6.1 hx with hx |hx
     ·exact h2' x hx
     ·exact h5 x hx
theorem Zo{d:DfM}(hd:DfB d){cs:List ClM}(hcs:∀ c∈cs,Wt c.l/\c.l.nodes<=60)(hcl:cs.length<=3){g:ClM}:∀ r base t cl n,StG d g.v t cl->base<=60->fnd d cs g r base t cl=some n->∀ x∈n,wq x:=by
 have one:∀ {base:Nat} {op:List Int} {cir:Option PnM} {k:Option (List PnM)} {n:List PnM},(∀ x,cir=some x->wq x)->(∀ n,base≠60->k=some n->∀ x∈n,wq x)->qx base op cir k=some n->∀ x∈n,wq x:=by
  intro base op cir k n hc hk h;unfold qx at h;split at h
  ·simp at h
  ·rename_i h60
   split at h
   ·simp only[C9.injEq] at h
    subst h;intro x hx;simp only[F2] at hx;subst hx;exact⟨by show(0:Int)<=1/\(1:Int)<=3;decide,J0 _,by simp,by show(0:Int)<=0/\(0:Int)<=3;decide,J0 _,by simp⟩
   ·cases cir with
    |some y =>
     simp only[C9.injEq] at h;subst h;intro x hx;simp only[F2] at hx;subst hx;exact hc _ rfl
    |none=>exact hk n h60 h
 intro r;induction r with
 |zero =>
  intro base t cl n hs hb h;simp only[fnd] at h;exact one (fun x hx=>Fl hs.w hs.n cs 0 hcs (by omega) x hx) (by simp) h
 |succ r ih =>
  intro base t cl n hs hb h;simp only[fnd] at h;have hso:StG d g.v t (opC g t cl):=hs.op (O9);refine one (fun x hx=>?_) (fun m h60 hm=>?_) h
  ·split at hx
   ·exact Fl hs.w hs.n cs 0 hcs (by omega) x hx
   ·simp at hx
  ·split at hm
   ·rename_i hall
    cases hc:chl (fnd d cs g r) d t (brF d g.v t (opC g t cl) []) (base+1) with
    |none=>rw[hc] at hm;simp[mk2] at hm
    |some y =>
     rw[hc] at hm;simp only[mk2,C9.injEq] at hm;subst hm;have hLl:(brF d g.v t (opC g t cl) []).length<=64:=by
      have:=(uz hd hso.w hso.s (P:=fun _=>True) (opC g t cl) 0 [] (fun c hc=>⟨cm _ none hso.c c hc,trivial⟩) ⟨E7 _,by simp⟩ (by simp) (by simp)).1.l
      have:=hso.l;omega
     have hyl:=(Fk (mz d cs g r) _ _ y (by omega) hc).2
     obtain⟨k1,k2⟩:=Sv _ _ y (fun b hb' base' n' hb2 hn'=>⟨mz d cs g r base' _ _ n' hb2 hn',ih base' _ _ n' (hso.next hd hb' (by simpa using E3.1 hall b hb')) hb2 hn'⟩) (by omega) hc
     intro x hx;rcases E1.1 hx with e |hx
     ·subst e
      exact⟨by show(0:Int)<=2/\(2:Int)<=3;decide,by show y.1.length<=64;omega,k1,by show(0:Int)<=0/\(0:Int)<=3;decide,J0 _,by simp⟩
     ·exact k2 x hx
   ·simp at hm
end Go.Q
namespace Go.Q
open Go
def rf:Option PnM->List D
 |some x=>[.int x.k,.int x.c,.bool true,.sl (x.nx.map al),.sl (x.s.map Bnd.row)]
 |none=>[.int 0,.int 0,.bool false,.sl [],.sl []]
theorem Ym{P B:List PnM}{x:PnM}:(P++x::B)[P.length]'(by simp)=x:=by simp
theorem ve{P B:List PnM}(a nx:List Int):over P.length [over 1 [.sl (nx.map al)] (rowAt ((P++(⟨2,a,0,[]⟩:PnM)::B).map PnM.row) P.length)] ((P++(⟨2,a,0,[]⟩:PnM)::B).map PnM.row)=(P++(⟨2,nx,0,[]⟩:PnM)::B).map PnM.row:=by
 have hl:P.length<(P++(⟨2,a,0,[]⟩:PnM)::B).length:=by simp
 rw[ab hl,gv _ _ _ (by rw[B6];exact hl),Ym]
 simp only[D5,C4];rw[List.set_append_right _ _ (by rw[B6];exact E7 _),B6,Nat.sub_self]
 rfl
theorem Xa{P B:List PnM}(a:List Int)(cs:aa)(nx:List Int)(h:cs=nx.map al):over P.length [over 1 [.sl cs] (rowAt (over P.length [over 1 [.sl []] (rowAt ((P++(⟨2,a,0,[]⟩:PnM)::B).map PnM.row) P.length)] ((P++(⟨2,a,0,[]⟩:PnM)::B).map PnM.row)) P.length)] (over P.length [over 1 [.sl []] (rowAt ((P++(⟨2,a,0,[]⟩:PnM)::B).map PnM.row) P.length)] ((P++(⟨2,a,0,[]⟩:PnM)::B).map PnM.row))=(P++(⟨2,nx,0,[]⟩:PnM)::B).map PnM.row:=by
 subst h;have e:(D.sl []:D)=.sl (([]:List Int).map al):=rfl;rw[e,ve a [],ve [] nx]
theorem Xb{P B:List PnM}(a:List Int):(over P.length [over 1 [.sl []] (rowAt ((P++(⟨2,a,0,[]⟩:PnM)::B).map PnM.row) P.length)] ((P++(⟨2,a,0,[]⟩:PnM)::B).map PnM.row)).length=P.length+(B.length+1):=by
 have e:(D.sl []:D)=.sl (([]:List Int).map al):=rfl;rw[e,ve a []];simp
theorem ab9{P B:List PnM}(a:List Int):(nth (rowAt ((P++(⟨2,a,0,[]⟩:PnM)::B).map PnM.row) P.length) 1).L=a.map al:=by
 have hl:P.length<(P++(⟨2,a,0,[]⟩:PnM)::B).length:=by simp
 rw[ab hl,Ym];rfl
theorem yv{base:Nat}{op:List Int}{cir:Option PnM}{k:Option (List PnM)}(h:base=60):qx base op cir k=none:=by unfold qx;rw[H5 h]
theorem Fm{base:Nat}{op:List Int}{cir:Option PnM}{k:Option (List PnM)}(h:base≠60)(h0:op.length=0):qx base op cir k=some [⟨1,[],0,[]⟩]:=by unfold qx;rw[H6 h,H5 h0]
theorem Fo{base:Nat}{op:List Int}{x:PnM}{k:Option (List PnM)}(h:base≠60)(h0:op.length≠0):qx base op (some x) k=some [x]:=by unfold qx;rw[H6 h,H6 h0]
theorem wu{base:Nat}{op:List Int}{k:Option (List PnM)}(h:base≠60)(h0:op.length≠0):qx base op none k=k:=by unfold qx;rw[H6 h,H6 h0]
end Go.Q
namespace Go.Q
open Go
theorem vf{d:DfM}{cs:List ClM}:∀ (n i:Nat) (ps:List (List PnM)),prL d cs n i=some ps->ps.length=n
 |0,i,ps,h=>by simp only[prL,C9.injEq] at h;subst h;rfl
 |n+1,i,ps,h=>by
  simp only[prL] at h;cases h1:fpR d cs (i:Int) with
  |none=>rw[h1] at h;simp at h
  |some p =>
   rw[h1] at h;simp only at h;cases h2:prL d cs n (i+1) with
   |none=>rw[h2] at h;simp at h
   |some r =>
    rw[h2] at h;simp only[C9.injEq] at h;subst h;simp only[C2,vf n (i+1) r h2]
theorem Bg{cs:List ClM}(h:gk cs=true):∀ c∈cs,c.l.nodes<=60:=fun c hc=>by
 have:=E3.1 h c hc;simp only[ClM.valid,jn,B9] at this;exact az this.1.2.2.2.2.1
end Go.Q
end
section
/- The rows of the proofs that are found. -/
namespace Go.Q
open Go
theorem Sw{d:DfM}(hd:DfB d){cs:List ClM}(hcs:∀ c∈cs,ClB c)(hcd:∀ c∈cs,c.d=d){k:Int}{ns:List PnM}(h:fpR d cs k=some ns):ns.length<=60/\∀ x∈ns,wq x:=by
 unfold fpR at h;cases hq:yp cs k with
 |none=>rw[hq] at h;simp at h
 |some g =>
  rw[hq] at h;simp only at h;obtain⟨h3,hv,ha⟩:=qm hq;have hm:g∈cs:=by
   unfold qw at ha;split at ha
   ·exact N7 ha
   ·simp at ha
  have hgv:g.valid=true:=E3.1 hv _ hm;have hst:=StG.start (hcs _ hm) hgv;rw[hcd _ hm] at hst;have h1:=mz _ _ _ _ _ _ _ _ (J0 _) h;exact⟨by omega,Zo hd (fun c hc=>⟨(hcs c hc).wl,Bg hv c hc⟩) h3 _ _ _ _ _ hst (J0 _) h⟩
theorem Sx{d:DfM}(hd:DfB d){cs:List ClM}(hcs:∀ c∈cs,ClB c)(hcd:∀ c∈cs,c.d=d):∀ (n i:Nat) (ps:List (List PnM)),prL d cs n i=some ps->∀ p∈ps,p.length<=60/\∀ x∈p,wq x
 |0,i,ps,h=>by simp only[prL,C9.injEq] at h;subst h;simp
 |n+1,i,ps,h=>by
  simp only[prL] at h;cases h1:fpR d cs (i:Int) with
  |none=>rw[h1] at h;simp at h
  |some p =>
   rw[h1] at h;simp only at h;cases h2:prL d cs n (i+1) with
   |none=>rw[h2] at h;simp at h
   |some r =>
    rw[h2] at h;simp only[C9.injEq] at h;subst h;intro q hq;rcases E1.1 hq with e |hq
    ·subst e;exact Sw hd hcs hcd h1
    ·exact Sx hd hcs hcd n (i+1) r h2 q hq
theorem Ll(o:Option (List PnM)):fpD o=[.bool o.isSome,.sl ((o.getD []).map PnM.row)]:=by cases o<;>rfl
theorem Zp(o:Option (List (List PnM))):paD o=[.bool (decide (0<(o.getD []).length)),.sl ((o.getD []).map jh)]:=by cases o<;>rfl
theorem Fq{d:DfM}(hd:DfB d){cs:List ClM}(hcs:∀ c∈cs,ClB c)(hcd:∀ c∈cs,c.d=d){k:Int}:((fpR d cs k).getD []).length<=60/\∀ x∈(fpR d cs k).getD [],wq x:=by
 cases h:fpR d cs k with
 |none=>exact⟨J0 _,by simp⟩
 |some ns=>exact Sw hd hcs hcd h
theorem Xc{d:DfM}(hd:DfB d){cs:List ClM}(hcs:∀ c∈cs,ClB c)(hcd:∀ c∈cs,c.d=d):((prL d cs cs.length 0).getD []).length<=cs.length/\∀ p∈(prL d cs cs.length 0).getD [],p.length<=60/\∀ x∈p,wq x:=by
 cases h:prL d cs cs.length 0 with
 |none=>exact⟨J0 _,by simp⟩
 |some ns=>exact⟨Nat.le_of_eq (vf _ _ _ h),Sx hd hcs hcd _ _ _ h⟩
end Go.Q
end
section
/- Paths and tests of symbolic terms. -/
namespace Go.Q
open Go
abbrev Stp:=Nat×List Int
structure PtM where
 k:Int
 st:List Stp
 t:Tm
 c:List Int
def PtM.row(v:List ByteArray)(p:PtM):List D:=[.int p.k,.sl (p.st.map Dj),.sl (v.map ag),.int p.t.k,.int p.t.n,.str p.t.s,.sl (p.t.as.map Tm.row),.sl (p.c.map al)]
end Go.Q
end
section
/- One step of a symbolic term. -/
namespace Go.Q
open Go
end Go.Q
end
section
/- A match makes the pattern equal to the term;drawn terms. -/
namespace Go.Q
open Go
theorem Xd:∀ t u:Tm,t.row=u.row->t=u:=Tm.ind fun t ih u h=>by
 rw[Tm.row_eq,Tm.row_eq u] at h;simp only[Q5.injEq,D.int.injEq,D.str.injEq,D.sl.injEq,and_true] at h;obtain⟨h1,h2,h3,h4⟩:=h;have key:∀ (xs ys:List Tm),(∀ a∈xs,a∈t.as)->xs.map Tm.row=ys.map Tm.row->xs=ys:=by
  intro xs;induction xs with
  |nil=>intro ys _ h;cases ys with
   |nil=>rfl
   |cons y ys=>simp at h
  |cons x xs ihx =>
   intro ys hm h;cases ys with
   |nil=>simp at h
   |cons y ys =>
    simp only[C4,Q5.injEq] at h;rw[ih x (hm x (C6 ..)) y h.1,ihx ys (fun a ha=>hm a (C7 _ ha)) h.2]
 have e:=key t.as u.as (fun _ h=>h) h4
 cases t;cases u
 simp only[Tm.k,Tm.n,Tm.s,Tm.as] at h1 h2 h3 e;rw[h1,h2,h3,e]
theorem Zq{t u:Tm}:eqb t.row u.row=true↔t=u:=by
 rw[jb];exact⟨Xd t u,fun h=>by rw[h]⟩
def Ext(l l':List Bnd):Prop:=∀ s v,bnd l s=some v->bnd l' s=some v
theorem Ext.refl(l:List Bnd):Ext l l:=fun _ _ h=>h
theorem Ext.trans{a b c:List Bnd}(h:Ext a b)(k:Ext b c):Ext a c:=fun s v e=>k s v (h s v e)
inductive Dt(m:Nat):Tm->Prop
 |var {s:ByteArray}:s.size<=m->Dt m (.mk 1 0 s [])
 |word {n:Int}:0<=n->n<=255->Dt m (.mk 3 n ⟨#[]⟩ [])
 |app {s:ByteArray} {as:List Tm}:s.size<=m->as.length<=2->(∀ a∈as,Dt m a)->Dt m (.mk 2 0 s as)
theorem Dt.sub{m:Nat}{t a:Tm}(h:Dt m t)(ha:a∈t.as):Dt m a:=by
 cases h with
 |var _=>simp[Tm.as] at ha
 |word=>simp[Tm.as] at ha
 |app _ _ h=>exact h a ha
theorem Dt.mono{m n:Nat}{t:Tm}(h:Dt m t)(hn:m<=n):Dt n t:=by
 induction h with
 |var h=>exact .var (G7 h hn)
 |word h1 h2=>exact .word h1 h2
 |app h1 h2 _ ih=>exact .app (G7 h1 hn) h2 ih
theorem Dt.aS{m:Nat}{l:List Bnd}(hl:∀ b∈l,Dt m b.2):∀ t,Dt m t->Dt m (aS l t):=Tm.ind fun t ih h=>by
 rw[eo];split
 ·rename_i u hu
  split at hu
  ·obtain⟨b,h1,rfl⟩:=dr hu;exact hl b h1
  ·simp at hu
 ·cases h with
  |var h=>exact .var h
  |word h1 h2=>exact .word h1 h2
  | @app s as h1 h2 h3 =>
   refine .app h1 (by simpa[Tm.as] using h2) fun a ha=>?_
   simp only[Tm.as,F8] at ha;obtain⟨b,hb,rfl⟩:=ha;exact ih b hb (h3 b hb)
/- Variables get an ending. -/
end Go.Q
end
section
/- Compositions of substitutions;unification. -/
namespace Go.Q
open Go
theorem pw{l:List Bnd}{t v:Tm}(hk:t.k=1)(h:bnd l t.s=some v):aS l t=v:=by
 rw[eo,H5 hk,h]
theorem jp{l:List Bnd}{t:Tm}(h:t.k=1->bnd l t.s=none):aS l t=.mk t.k t.n t.s (t.as.map (aS l)):=by
 rw[eo];by_cases hk:t.k=1
 ·rw[H5 hk,h hk]
 ·rw[H6 hk]
def cmS(a b:List Bnd):List Bnd:=a.map (fun x=>(x.1,aS b x.2))++b.filter fun x=>(bnd a x.1).isNone
theorem Nm(f:Tm->Tm)(s:ByteArray):∀ a:List Bnd,bnd (a.map fun x=>(x.1,f x.2)) s=(bnd a s).map f
 | []=>rfl
 |b::a=>by
  simp only[C4,bnd];by_cases h:b.1=s
  ·rw[H5 h,H5 h];rfl
  ·rw[H6 h,H6 h,Nm f s a]
theorem Bh(a:List Bnd)(s:ByteArray)(h:bnd a s=none):∀ b:List Bnd,bnd (b.filter fun x=>(bnd a x.1).isNone) s=bnd b s
 | []=>rfl
 |x::b=>by
  have ih:=Bh a s h b;rw[O0];by_cases e:x.1=s
  ·rw[H5 (by rw[e,h];rfl)]
   simp only[bnd,H5 e]
  ·split
   ·simp only[bnd,H6 e,ih]
   ·simp only[bnd,H6 e,ih]
theorem qn(a b:List Bnd)(s:ByteArray):bnd (cmS a b) s=match bnd a s with
 |some u=>some (aS b u)
 |none=>bnd b s:=by
 unfold cmS;rw[Fe,Nm];cases h:bnd a s with
 |some u=>rfl
 |none=>simp only[T4];exact Bh a s h b
theorem Fr(a b:List Bnd):∀ t,aS (cmS a b) t=aS b (aS a t):=Tm.ind fun t ih=>by
 have hm:t.as.map (aS (cmS a b))=(t.as.map (aS a)).map (aS b):=by
  rw[K9];exact N2 fun x hx=>ih x hx
 have hc:=qn a b t.s;by_cases hk:t.k=1
 ·cases ha:bnd a t.s with
  |some u =>
   rw[ha] at hc;rw[pw hk hc,pw hk ha]
  |none =>
   rw[ha] at hc;rw[jp (l:=a) fun _=>ha]
   cases hb:bnd b t.s with
   |some u =>
    rw[pw hk (hc.trans hb),pw (t:=.mk t.k t.n t.s (t.as.map (aS a))) hk hb]
   |none =>
    rw[jp fun _=>hc.trans hb,jp (t:=.mk t.k t.n t.s (t.as.map (aS a))) fun _=>hb,hm];rfl
 ·rw[jp fun h=>absurd h hk,jp (l:=a) fun h=>absurd h hk,jp (t:=.mk t.k t.n t.s (t.as.map (aS a))) fun h=>absurd h hk,hm];rfl
theorem Tm.mk_eta(t:Tm):Tm.mk t.k t.n t.s t.as=t:=by cases t;rfl
theorem fj(t:Tm)(w:ByteArray):w∈t.names↔(t.k=1/\w=t.s)\/∃ a∈t.as,w∈a.names:=by
 rw[Tm.names_eq,D6,K4];by_cases hk:t.k=1
 ·rw[H5 hk];simp[hk]
 ·rw[H6 hk];simp[hk]
theorem Sy(k n:Int)(s:ByteArray)(as:List Tm)(w:ByteArray):w∈(Tm.mk k n s as).names↔(k=1/\w=s)\/∃ a∈as,w∈a.names:=fj _ w
theorem Lm(l:List Bnd)(w:ByteArray):∀ t,w∈(aS l t).names->(w∈t.names/\bnd l w=none)\/∃ s v,s∈t.names/\bnd l s=some v/\w∈v.names:=Tm.ind fun t ih h=>by
 by_cases hb:∃ v,t.k=1/\bnd l t.s=some v
 ·obtain⟨v,hk,hb⟩:=hb
  rw[pw hk hb] at h;exact .inr ⟨t.s,v,(fj t _).2 (.inl ⟨hk,rfl⟩),hb,h⟩
 ·have hf:t.k=1->bnd l t.s=none:=fun hk=>by
   cases hq:bnd l t.s with
   |none=>rfl
   |some v=>exact absurd ⟨v,hk,hq⟩ hb
  rw[jp hf,Sy] at h;rcases h with ⟨hk,rfl⟩|⟨a,ha,hw⟩
  ·exact .inl ⟨(fj t _).2 (.inl ⟨hk,rfl⟩),hf hk⟩
  ·obtain⟨c,hc,rfl⟩:=F8.1 ha
   rcases ih c hc hw with ⟨h1,h2⟩|⟨s,v,h1,h2,h3⟩
   ·exact .inl ⟨(fj t _).2 (.inr ⟨c,hc,h1⟩),h2⟩
   ·exact .inr ⟨s,v,(fj t _).2 (.inr ⟨c,hc,h1⟩),h2,h3⟩
def Fx(l:List Bnd)(t:Tm):Prop:=∀ w∈t.names,bnd l w=none
theorem Fx.sub{l:List Bnd}{t a:Tm}(h:Fx l t)(ha:a∈t.as):Fx l a:=fun w hw=>h w ((fj t w).2 (.inr ⟨a,ha,hw⟩))
theorem Zr{l:List Bnd}:∀ t,Fx l t->aS l t=t:=Tm.ind fun t ih h=>by
 rw[jp fun hk=>h _ ((fj t _).2 (.inl ⟨hk,rfl⟩))]
 have:t.as.map (aS l)=t.as:=by
  conv=>rhs;rw[<-List.map_id t.as]
  exact N2 fun a ha=>ih a ha (h.sub ha)
 rw[this,Tm.mk_eta]
def Idm(l:List Bnd):Prop:=∀ s v,bnd l s=some v->Fx l v
theorem Yn{l:List Bnd}(h:Idm l)(t:Tm):Fx l (aS l t):=fun w hw=>by
 rcases Lm l w t hw with ⟨_,h1⟩|⟨s,v,_,h2,h3⟩
 ·exact h1
 ·exact h s v h2 w h3
theorem qo(s w:ByteArray)(y:Tm):bnd [(s,y)] w=if s=w then some y else none:=by simp[bnd]
theorem Dr{s w:ByteArray}{y t:Tm}(hs:s∉y.names)(hw:w∈(aS [(s,y)] t).names):w≠s/\(w∈t.names\/w∈y.names):=by
 rcases Lm _ w t hw with ⟨h1,h2⟩|⟨s',v,h1,h2,h3⟩
 ·rw[qo] at h2
  refine⟨fun e=>?_,.inl h1⟩
  rw[H5 e.symm] at h2;exact absurd h2 (by simp)
 ·rw[qo] at h2
  split at h2
  ·rename_i e
   simp only[C9.injEq] at h2;subst h2;exact⟨fun e=>hs (e▸h3),.inr h3⟩
  ·simp at h2
theorem Zs{l:List Bnd}(h:Idm l){s:ByteArray}{y:Tm}(hy:Fx l y)(hs:s∉y.names):Idm (cmS l [(s,y)]):=by
 have key:∀ w,bnd l w=none->w≠s->bnd (cmS l [(s,y)]) w=none:=fun w h1 h2=>by
  rw[qn,h1];simp only;rw[qo,H6 (Ne.symm h2)]
 intro s' v hv w hw;rw[qn] at hv;cases hq:bnd l s' with
 |some u =>
  rw[hq] at hv;simp only[C9.injEq] at hv;subst hv;obtain⟨h1,h2⟩:=Dr hs hw;exact key w (by rcases h2 with h2 |h2;exact h s' u hq w h2;exact hy w h2) h1
 |none =>
  rw[hq] at hv;simp only at hv;rw[qo] at hv;split at hv
  ·simp only[C9.injEq] at hv
   subst hv;exact key w (hy w hw) (fun e=>hs (e▸hw))
  ·simp at hv
inductive Cov:List Tm->Tm->Prop
 |one {t:Tm}:Cov [t] t
 |drop {x:Tm} {xs:List Tm} {t:Tm}:Cov (x::xs) t->Cov xs t
 |args {x:Tm} {xs:List Tm} {t:Tm}:Cov (x::xs) t->x.k≠1->Cov (x.as++xs) t
theorem Cov.nodes{xs:List Tm}{t:Tm}(h:Cov xs t):(xs.map Tm.nodes).sum<=t.nodes:=by
 induction h with
 |one=>simp
 |drop _ ih=>simp only[C4,K1] at ih;omega
 | @args x xs t _ _ ih =>
  simp only[C4,K1] at ih;rw[D5,List.sum_append];have:=Tm.nodes_eq x;omega
theorem Cov.names{xs:List Tm}{t:Tm}(h:Cov xs t):∀ x∈xs,∀ w∈x.names,w∈t.names:=by
 induction h with
 |one=>intro x hx w hw;rw[F2.1 hx] at hw;exact hw
 |drop _ ih=>exact fun x hx=>ih x (C7 _ hx)
 | @args x xs t _ _ ih =>
  intro z hz w hw;rcases D6.1 hz with hz |hz
  ·exact ih x (C6 ..) w ((fj x w).2 (.inr ⟨z,hz,hw⟩))
  ·exact ih z (C7 _ hz) w hw
theorem Cov.sub{xs:List Tm}{t:Tm}(r:List Bnd)(h:Cov xs t):Cov (xs.map (aS r)) (aS r t):=by
 induction h with
 |one=>exact .one
 |drop _ ih=>exact .drop ih
 | @args x xs t _ hk ih =>
  have e:aS r x=.mk x.k x.n x.s (x.as.map (aS r)):=jp fun h=>absurd h hk
  rw[C4,e] at ih;rw[D5];exact ih.args hk
open Classical in
noncomputable def trt(x y:Tm)(l:List Bnd):Option (List Bnd×List (Tm×Tm)) :=
 if eqb x.row y.row=true then some (l,[]) else
 if x.k=1 then (if x.s∈y.names then none else some (cmS l [(x.s,y)],[])) else
 if y.k=1 then (if y.s∈x.names then none else some (cmS l [(y.s,x)],[])) else
 if x.k=2/\y.k=2/\x.s=y.s/\x.as.length=y.as.length then some (l,x.as.zip y.as) else none
def lrg(l:List Bnd):Bool:=l.any fun b=>decide (400<b.2.nodes)
theorem Pm{x y:Tm}{l l1:List Bnd}{m:List (Tm×Tm)}(h:trt x y l=some (l1,m)) :
 (x=y/\l1=l/\m=[])\/(∃ v u,(x.k=1/\v=x.s/\u=y\/y.k=1/\v=y.s/\u=x)/\v∉u.names/\l1=cmS l [(v,u)]/\m=[]) ∨
 (x.k=2/\y.k=2/\x.s=y.s/\x.as.length=y.as.length/\l1=l/\m=x.as.zip y.as):=by
 unfold trt at h;split at h
 ·rename_i e
  simp only[C9.injEq,G9.injEq] at h;exact .inl ⟨Zq.1 e,h.1.symm,h.2.symm⟩
 split at h
 ·rename_i hk
  split at h
  ·simp at h
  ·rename_i hn
   simp only[C9.injEq,G9.injEq] at h;exact .inr (.inl ⟨x.s,y,.inl ⟨hk,rfl,rfl⟩,hn,h.1.symm,h.2.symm⟩)
 split at h
 ·rename_i hk
  split at h
  ·simp at h
  ·rename_i hn
   simp only[C9.injEq,G9.injEq] at h;exact .inr (.inl ⟨y.s,x,.inr ⟨hk,rfl,rfl⟩,hn,h.1.symm,h.2.symm⟩)
 split at h
 ·rename_i hc
  simp only[C9.injEq,G9.injEq] at h;exact .inr (.inr ⟨hc.1,hc.2.1,hc.2.2.1,hc.2.2.2,h.1.symm,h.2.symm⟩)
 ·simp at h
def ub(V:List ByteArray)(l:List Bnd):Nat:=(V.filter fun w=>(bnd l w).isNone).length
theorem ac0{V:List ByteArray}{l:List Bnd}{s:ByteArray}{y:Tm}(hs:s∈V)(hb:bnd l s=none):ub V (cmS l [(s,y)])<ub V l:=by
 unfold ub;have hle:∀ w,(bnd (cmS l [(s,y)]) w).isNone=true->(bnd l w).isNone=true:=fun w h=>by
  rw[qn] at h;cases hq:bnd l w with
  |none=>rfl
  |some u=>rw[hq] at h;simp at h
 have hS:bnd (cmS l [(s,y)]) s=some y:=by
  rw[qn,hb];simp only;rw[qo,H5 rfl]
 have hgen:∀ V:List ByteArray,(V.filter fun w=>(bnd (cmS l [(s,y)]) w).isNone).length<=(V.filter fun w=>(bnd l w).isNone).length:=by
  intro V;induction V with
  |nil=>simp
  |cons w V ih =>
   rw[O0,O0];by_cases h:(bnd (cmS l [(s,y)]) w).isNone=true
   ·rw[H5 h,H5 (hle w h)];simp;exact ih
   ·rw[H6 h];split
    ·simp;omega
    ·exact ih
 induction V with
 |nil=>simp at hs
 |cons w V ih =>
  rw[O0,O0];rcases E1.1 hs with e |hs
  ·subst e
   rw[H6 (by rw[hS];simp),H5 (by rw[hb];rfl)]
   have:=hgen V;simp;omega
  ·have:=ih hs
   by_cases h:(bnd (cmS l [(s,y)]) w).isNone=true
   ·rw[H5 h,H5 (hle w h)];simp;exact this
   ·rw[H6 h];split
    ·simp;omega
    ·exact this
theorem Xe(l:List Bnd)(b:Bnd):(cmS l [b]).length<=l.length+1:=by
 unfold cmS;rw[E6,B6];have:=Q0 (fun x:Bnd=>(bnd l x.1).isNone) [b]
 simp only[C2,C5] at this;omega
theorem Zt{m:Nat}{l b:List Bnd}(hl:∀ x∈l,Dt m x.2)(hb:∀ x∈b,Dt m x.2):∀ x∈cmS l b,Dt m x.2:=fun x hx=>by
 unfold cmS at hx;rcases D6.1 hx with hx |hx
 ·obtain⟨z,hz,rfl⟩:=F8.1 hx
  exact(hl z hz).aS hb
 ·exact hb x (S0.1 hx).1
structure Uni(A B:Tm)(l:List Bnd)(r:List (Tm×Tm)):Prop where
 idm:Idm l
 nm:∀ s v,bnd l s=some v->∀ w∈v.names,w∈A.names++B.names
 ld:∀ b∈l,Dt 2 b.2
 ln:∀ b∈l,b.2.nodes<=400
 ll:l.length+ub (A.names++B.names) l<=(A.names++B.names).length
 rd:∀ e∈r,Dt 2 e.1/\Dt 2 e.2
 ca:Cov (r.map fun e=>aS l e.1) (aS l A)
 cb:Cov (r.map fun e=>aS l e.2) (aS l B)
theorem Ds{V:List ByteArray}{l:List Bnd}(hn:∀ s v,bnd l s=some v->∀ w∈v.names,w∈V){t:Tm}(ht:∀ w∈t.names,w∈V):∀ w∈(aS l t).names,w∈V:=fun w hw=>by
 rcases Lm l w t hw with ⟨h1,_⟩|⟨s,v,_,h2,h3⟩
 ·exact ht w h1
 ·exact hn s v h2 w h3
theorem Zu{l:List Bnd}(h:lrg l=false):∀ b∈l,b.2.nodes<=400:=fun b hb=>by
 unfold lrg at h;have:=List.any_eq_false.1 h b hb;simp only[decide_eq_true_eq] at this;omega
theorem xy{xs ys:List Tm}(h:xs.length=ys.length)(f:Tm->Tm):(xs.zip ys).map (fun e=>f e.1)=xs.map f:=by
 have:(xs.zip ys).map (fun e=>f e.1)=((xs.zip ys).map Prod.fst).map f:=by rw[K9];rfl
 rw[this,List.map_fst_zip (by omega)]
theorem Jn{xs ys:List Tm}(h:xs.length=ys.length)(f:Tm->Tm):(xs.zip ys).map (fun e=>f e.2)=ys.map f:=by
 have:(xs.zip ys).map (fun e=>f e.2)=((xs.zip ys).map Prod.snd).map f:=by rw[K9];rfl
 rw[this,List.map_snd_zip (by omega)]
theorem Fs{l:List Bnd}{xs:List Tm}(h:∀ x∈xs,Fx l x):xs.map (aS l)=xs:=by
 conv=>rhs;rw[<-List.map_id xs]
 exact N2 fun a ha=>Zr a (h a ha)
theorem Uni.next{A B:Tm}{l l1:List Bnd}{x y:Tm}{r m:List (Tm×Tm)}(h:Uni A B l ((x,y)::r))(ht:trt (aS l x) (aS l y) l=some (l1,m))(hl:lrg l1=false) :
 Uni A B l1 (m++r)/\(ub (A.names++B.names) l1<ub (A.names++B.names) l\/l1=l/\((m++r).map fun e=>(aS l e.1).nodes).sum<(((x,y)::r).map fun e=>(aS l e.1).nodes).sum):=by
 have hca:=h.ca;have hcb:=h.cb;simp only[C4] at hca hcb;have nA:=Ds h.nm (t:=A) fun w hw=>List.mem_append_left _ hw
 have nB:=Ds h.nm (t:=B) fun w hw=>List.mem_append_right _ hw
 have nx:∀ w∈(aS l x).names,w∈A.names++B.names:=fun w hw=>nA w (hca.names _ (C6 ..) w hw)
 have ny:∀ w∈(aS l y).names,w∈A.names++B.names:=fun w hw=>nB w (hcb.names _ (C6 ..) w hw)
 have dx:=(h.rd _ (C6 ..)).1.aS h.ld;have dy:=(h.rd _ (C6 ..)).2.aS h.ld;have fx:=Yn h.idm x;have fy:=Yn h.idm y;have hrd:∀ e∈r,Dt 2 e.1/\Dt 2 e.2:=fun e he=>h.rd e (C7 _ he)
 rcases Pm ht with ⟨_,rfl,rfl⟩|⟨v,u,hvu,hn,rfl,rfl⟩|⟨k1,k2,hs,hlen,rfl,rfl⟩
 ·refine⟨⟨h.idm,h.nm,h.ld,h.ln,h.ll,hrd,hca.drop,hcb.drop⟩,.inr ⟨rfl,?_⟩⟩
  simp only[D8,C4,K1];have:=Tm.nodes_eq (aS l1 x);omega
 ·have hv:v∈A.names++B.names/\bnd l v=none/\Fx l u/\(∀ w∈u.names,w∈A.names++B.names)/\Dt 2 u:=by
   rcases hvu with ⟨hk,rfl,rfl⟩|⟨hk,rfl,rfl⟩
   ·have hm:=(fj (aS l x) _).2 (.inl ⟨hk,rfl⟩)
    exact⟨nx _ hm,fx _ hm,fy,ny,dy⟩
   ·have hm:=(fj (aS l y) _).2 (.inl ⟨hk,rfl⟩)
    exact⟨ny _ hm,fy _ hm,fx,nx,dx⟩
  obtain⟨hv1,hv2,hv3,hv4,hv5⟩:=hv;have hub:=ac0 (y:=u) hv1 hv2;refine⟨⟨Zs h.idm hv3 hn,?_,Zt h.ld (by simpa using hv5),Zu hl,?_,hrd,?_,?_⟩,.inl hub⟩
  ·intro s w hw z hz
   rw[qn] at hw;cases hq:bnd l s with
   |some q =>
    rw[hq] at hw;simp only[C9.injEq] at hw;subst hw;rcases(Dr hn hz).2 with e |e
    ·exact h.nm s q hq z e
    ·exact hv4 z e
   |none =>
    rw[hq] at hw;simp only at hw;rw[qo] at hw;split at hw
    ·simp only[C9.injEq] at hw;subst hw;exact hv4 z hz
    ·simp at hw
  ·have h1:=Xe l (v,u)
   have h2:=h.ll;omega
  ·have:=(hca.sub [(v,u)]).drop
   rw[K9] at this;rw[D8,Fr];have e:(r.map fun e=>aS (cmS l [(v,u)]) e.1)=r.map ((aS [(v,u)]) ∘ fun e=>aS l e.1):=N2 fun e _=>Fr ..
   rw[e];exact this
  ·have:=(hcb.sub [(v,u)]).drop
   rw[K9] at this;rw[D8,Fr];have e:(r.map fun e=>aS (cmS l [(v,u)]) e.2)=r.map ((aS [(v,u)]) ∘ fun e=>aS l e.2):=N2 fun e _=>Fr ..
   rw[e];exact this
 ·have fxs:=fun a (ha:a∈(aS l1 x).as)=>fx.sub ha
  have fys:=fun a (ha:a∈(aS l1 y).as)=>fy.sub ha
  refine⟨⟨h.idm,h.nm,h.ld,h.ln,h.ll,?_,?_,?_⟩,.inr ⟨rfl,?_⟩⟩
  ·intro e he
   rcases D6.1 he with he |he
   ·obtain⟨q1,q2⟩:=List.of_mem_zip (a:=e.1) (b:=e.2) he
    exact⟨dx.sub q1,dy.sub q2⟩
   ·exact hrd e he
  ·rw[D5,xy hlen,Fs fxs]
   exact hca.args (by omega)
  ·rw[D5,Jn hlen,Fs fys]
   exact hcb.args (by omega)
  ·have e:(((aS l1 x).as.zip (aS l1 y).as).map fun e=>(aS l1 e.1).nodes)=(aS l1 x).as.map Tm.nodes:=by
    have:(((aS l1 x).as.zip (aS l1 y).as).map fun e=>(aS l1 e.1).nodes)=(((aS l1 x).as.zip (aS l1 y).as).map fun e=>aS l1 e.1).map Tm.nodes:=by rw[K9];rfl
    rw[this,xy hlen,Fs fxs]
   rw[D5,List.sum_append,e,C4,K1];have:=Tm.nodes_eq (aS l1 x);simp only;omega
end Go.Q
end
section
/- What unification gives. -/
namespace Go.Q
open Go
theorem Dt.small{m:Nat}:∀ t:Tm,Dt m t->au t:=Tm.ind fun t ih h=>by
 refine .mk ?_ fun a ha=>ih a ha (h.sub ha)
 cases h with
 |var _=>exact J0 _
 |word=>exact J0 _
 |app _ h _=>exact G7 h (by decide)
end Go.Q
end
section
/- Comparisons: a program with itself,turned about,and what a difference says. -/
namespace Go.Q
open Go
noncomputable def rnA(x:SyM)(c:Int):Option Al:=wk x.d (S.instR x.v x.t c) 200
def opn(x y:SyM)(c:Int):Prop:=¬ ∃ p q,rnA x c=some p/\rnA y c=some q/\p.o=1/\q.o=1
end Go.Q
end
section
/- Drawn terms,rules and definitions: their bounds. -/
namespace Go.Q
open Go
structure Wn(m:Nat)(t:Tm):Prop where
 w:Wt t
 n:t.nodes<=m
theorem Wn.mono{m k:Nat}{t:Tm}(h:Wn m t)(hm:m<=k):Wn k t:=⟨h.w,G7 h.n hm⟩
theorem Wn.small{m:Nat}{t:Tm}(h:Wn m t)(hm:m<=1048576):au t:=ao _ (by have:=h.n;omega)
theorem xz{k n:Int}{s:ByteArray}{as:List Tm}(hk:-1000<=k)(hk':k<=1000)(hn:-1000<=n)(hn':n<=1000)(hs:s.size<=1000)(hl:as.length<=1000)(h:∀ a∈as,Wt a):Wt (.mk k n s as) :=
 .mk (S.i64ok_of (by show _<=k;omega) (by show k<=_;omega)) (S.i64ok_of (by show _<=n;omega) (by show n<=_;omega)) (by show s.size<=maxLen;unfold maxLen;omega) (by show as.length<=maxLen;unfold maxLen;omega) h
theorem Dt.wt{m:Nat}(hm:m<=1000):∀ t:Tm,Dt m t->Wt t:=Tm.ind fun t ih h=>by
 have hs:∀ a∈t.as,Wt a:=fun a ha=>ih a ha (h.sub ha)
 cases h with
 |var h=>exact xz (by decide) (by decide) (by decide) (by decide) (by omega) (by simp) hs
 |word h1 h2=>exact xz (by decide) (by decide) (by omega) (by omega) (by decide) (by simp) hs
 |app h1 h2 _=>exact xz (by decide) (by decide) (by decide) (by decide) (by omega) (by omega) hs
theorem Dt.wn{k m:Nat}{t:Tm}(h:Dt k t)(hk:k<=1000)(hm:t.nodes<=m):Wn m t:=⟨Dt.wt hk t h,hm⟩
def tV(s:ByteArray):Tm:=.mk 1 0 s []
def tW(n:Int):Tm:=.mk 3 n ⟨#[]⟩ []
def tC(s:ByteArray):Tm:=.mk 2 0 s []
def tO(s:ByteArray)(t:Tm):Tm:=.mk 2 0 s [t]
def tP(s:ByteArray)(t u:Tm):Tm:=.mk 2 0 s [t,u]
theorem Bi{s:ByteArray}(h:s.size<=1000):Wn 1 (tV s):=⟨xz (by decide) (by decide) (by decide) (by decide) h (by simp) (by simp),by simp[tV,Tm.nodes,Tm.nodesL]⟩
theorem vg{n:Int}(h:0<=n)(h1:n<=255):Wn 1 (tW n):=⟨xz (by decide) (by decide) (by omega) (by omega) (by decide) (by simp) (by simp),by simp[tW,Tm.nodes,Tm.nodesL]⟩
theorem Sz{s:ByteArray}(h:s.size<=1000):Wn 1 (tC s):=⟨xz (by decide) (by decide) (by decide) (by decide) h (by simp) (by simp),by simp[tC,Tm.nodes,Tm.nodesL]⟩
theorem ol{s:ByteArray}{m:Nat}{t:Tm}(h:s.size<=1000)(ht:Wn m t):Wn (m+1) (tO s t):=⟨xz (by decide) (by decide) (by decide) (by decide) h (by simp) (by simpa using ht.w),by have:=ht.n;simp[tO,Tm.nodes,Tm.nodesL];omega⟩
theorem ge{s:ByteArray}{m k:Nat}{t u:Tm}(h:s.size<=1000)(ht:Wn m t)(hu:Wn k u):Wn (m+k+1) (tP s t u):=⟨xz (by decide) (by decide) (by decide) (by decide) h (by simp) (by simp[ht.w,hu.w]),by have:=ht.n;have:=hu.n;simp[tP,Tm.nodes,Tm.nodesL];omega⟩
theorem ac1{m:Nat}{t:Tm}(h:Wn m t):Wn m (rW t):=⟨Mw t h.w,G7 (gi t) h.n⟩
structure GuW(g:Gu):Prop where
 k:0<=g.k/\g.k<=5
 l:Wn 3000 g.l
 r:Wn 3000 g.r
theorem GuW.b{g:Gu}(h:GuW g):GuB g:=⟨h.l.w,h.r.w,by have:=h.l.n;omega,by have:=h.r.n;omega⟩
structure RuW(u:RuM):Prop where
 n:u.n.size<=1000
 l:Wn 3000 u.l
 r:Wn 3000 u.r
 g:u.g.length<=10
 ga:∀ g∈u.g,GuW g
theorem RuW.b{r:RuM}(h:RuW r):RuB r:=⟨by have:=h.n;unfold maxLen;omega,h.l.w,h.r.w,by have:=h.l.n;omega,by have:=h.r.n;omega,by have:=h.g;omega,fun g hg=>(h.ga g hg).b⟩
structure DfW(d:DfM):Prop where
 so:d.so.length<=10
 sos:∀ x∈d.so,x.size<=1000
 op:d.op.length<=10
 opa:∀ o∈d.op,o.n.size<=1000/\o.a.length<=10/\(∀ x∈o.a,x.size<=1000)/\o.r.size<=1000
 ru:d.ru.length<=10
 rua:∀ r∈d.ru,RuW r
 st:d.st.length<=10
theorem DfW.sig{d:DfM}(h:DfW d):pn d.op:=⟨by have:=h.op;omega,fun o ho=>by have:=(h.opa o ho).2.1;show o.a.length<=_;omega⟩
theorem DfW.b{d:DfM}(h:DfW d):DfB d:=⟨by have:=h.so;omega,fun x hx=>by have:=h.sos x hx;unfold maxLen;omega,h.sig,fun o ho=>by have:=(h.opa o ho).1;unfold maxLen;omega,by have:=h.ru;omega,fun r hr=>(h.rua r hr).b,by have:=h.st;omega⟩
def jl:List ByteArray:=[⟨#[101]⟩,⟨#[107]⟩]
def iq:List OpM:=[⟨⟨#[97]⟩,[],⟨#[101]⟩⟩,⟨⟨#[98]⟩,[],⟨#[101]⟩⟩,⟨⟨#[103]⟩,[⟨#[101]⟩],⟨#[101]⟩⟩,⟨⟨#[102]⟩,[⟨#[101]⟩,⟨#[101]⟩],⟨#[101]⟩⟩,⟨⟨#[104]⟩,[⟨#[101]⟩,⟨#[119,111,114,100]⟩],⟨#[101]⟩⟩,⟨⟨#[110,117,109]⟩,[⟨#[119,111,114,100]⟩],⟨#[101]⟩⟩,⟨⟨#[116,111,112]⟩,[⟨#[101]⟩],⟨#[107]⟩⟩]
def opW(o:OpM):Bool:=decide (o.n.size<=1000)&&(decide (o.a.length<=10)&&(o.a.all (fun x=>decide (x.size<=1000))&&decide (o.r.size<=1000)))
theorem Ta{o:OpM}(h:opW o=true):o.n.size<=1000/\o.a.length<=10/\(∀ x∈o.a,x.size<=1000)/\o.r.size<=1000:=by
 simp only[opW,B9,decide_eq_true_eq,E3] at h;exact⟨h.1,h.2.1,h.2.2.1,h.2.2.2⟩
theorem ww:∀ o∈iq,o.n.size<=1000/\o.a.length<=10/\(∀ x∈o.a,x.size<=1000)/\o.r.size<=1000:=fun o ho=>Ta (E3.1 (show iq.all opW=true from by decide) o ho)
theorem Du:∀ x∈jl,x.size<=1000:=fun x hx=>by
 have:=E3.1 (show jl.all (fun x=>decide (x.size<=1000))=true from by decide) x hx
 simpa using this
end Go.Q
end
section
/- All steps of a term;a trace replayed;runs and traces. -/
namespace Go.Q
open Go
end Go.Q
end
section
/- A symbolic step stands for the step of every case;the tests of a symbolic term. -/
namespace Go.Q
open Go
end Go.Q
end
section
/- The runs of the cases of a path;the tests of different paths. -/
namespace Go.Q
open Go
end Go.Q
end
section
/- Paths: their traces,and that none is without a case. -/
namespace Go.Q
open Go
end Go.Q
end
section
/- Runs that are computed: an evaluator of shallow functions is Rf. Open cases where a case may be none. -/
namespace Go.Q
open Go
def pS(f:ByteArray->List D->R):List D->R
 |.str x::l=>f x l
 |_=>none
def pI(f:Int->List D->R):List D->R
 |.int x::l=>f x l
 |_=>none
def pB(f:Bool->List D->R):List D->R
 |.bool x::l=>f x l
 |_=>none
def pL(f:aa->List D->R):List D->R
 |.sl x::l=>f x l
 |_=>none
def pE(b:R):List D->R
 | []=>b
 |_=>none
def Sd(H:Tab)(P:Program)(c:Key->List D->R)(k:Key)(pre:List D->List D)(v:List D->R):Prop:=∀ l r,v l=some r->step H c P k (pre l)=some r
section
variable{H:Tab}{P:Program}{c:Key->List D->R}{k:Key}{pre:List D->List D}
theorem Sd.S{f:ByteArray->List D->R}(h:∀ x,Sd H P c k (fun l=>pre (.str x::l)) (f x)):Sd H P c k pre (pS f):=fun l r e=>by
 unfold pS at e;split at e
 ·exact h _ _ _ e
 ·simp at e
theorem Sd.I{f:Int->List D->R}(h:∀ x,Sd H P c k (fun l=>pre (.int x::l)) (f x)):Sd H P c k pre (pI f):=fun l r e=>by
 unfold pI at e;split at e
 ·exact h _ _ _ e
 ·simp at e
theorem Sd.B{f:Bool->List D->R}(h:∀ x,Sd H P c k (fun l=>pre (.bool x::l)) (f x)):Sd H P c k pre (pB f):=fun l r e=>by
 unfold pB at e;split at e
 ·exact h _ _ _ e
 ·simp at e
theorem Sd.L{f:aa->List D->R}(h:∀ x,Sd H P c k (fun l=>pre (.sl x::l)) (f x)):Sd H P c k pre (pL f):=fun l r e=>by
 unfold pL at e;split at e
 ·exact h _ _ _ e
 ·simp at e
theorem Sd.E{b:R}(h:step H c P k (pre [])=b):Sd H P c k pre (pE b):=fun l r e=>by
 unfold pE at e;split at e
 ·exact h.trans e
 ·simp at e
end
theorem cnd{b:Bool}{x y:R}{r:Nat×List D}{Q:Prop}(h:(bif b then x else y)=some r)(h1:b=true->x=some r->Q)(h2:b=false->y=some r->Q):Q:=by
 cases b
 ·exact h2 rfl h
 ·exact h1 rfl h
def tNn:Tm:=tV ⟨#[78]⟩
def tMm:Tm:=tV ⟨#[77]⟩
def iv:DfM:=⟨[⟨#[99]⟩],[⟨⟨#[108,111,111,112]⟩,[⟨#[119,111,114,100]⟩,⟨#[119,111,114,100]⟩],⟨#[99]⟩⟩,⟨⟨#[100,111,110,101]⟩,[⟨#[119,111,114,100]⟩],⟨#[99]⟩⟩],
 [⟨⟨#[116,117,114,110]⟩,tP ⟨#[108,111,111,112]⟩ tNn tMm,tP ⟨#[108,111,111,112]⟩ (tP ⟨#[109,105,110,117,115]⟩ tNn (tW 1)) (tP ⟨#[112,108,117,115]⟩ tMm (tW 1)),[⟨3,tW 0,tNn⟩]⟩,⟨⟨#[101,110,100]⟩,tP ⟨#[108,111,111,112]⟩ (tW 0) tMm,tO ⟨#[100,111,110,101]⟩ tMm,[]⟩],[]⟩
theorem px:DfW iv:=by
 have n1:Wn 1 tNn:=Bi (by decide)
 have m1:Wn 1 tMm:=Bi (by decide)
 have w0:Wn 1 (tW 0):=vg (by decide) (by decide)
 have w1:Wn 1 (tW 1):=vg (by decide) (by decide)
 refine⟨by decide,fun x hx=>?_,by decide,fun o ho=>Ta (E3.1 (show iv.op.all opW=true from by decide) o ho),by decide,fun r hr=>?_,by decide⟩
 ·have:=E3.1 (show iv.so.all (fun x:ByteArray=>decide (x.size<=1000))=true from by decide) x hx
  simpa using this
 ·simp only[iv,E1,N0,or_false] at hr
  rcases hr with rfl |rfl
  ·refine⟨by decide,(ge (by decide) n1 m1).mono (by decide),(ge (by decide) (ge (by decide) n1 w1) (ge (by decide) m1 w1)).mono (by decide),by simp,fun g hg=>?_⟩
   rw[F2.1 hg];exact⟨by decide,w0.mono (by decide),n1.mono (by decide)⟩
  ·exact⟨by decide,(ge (by decide) w0 m1).mono (by decide),(ol (by decide) m1).mono (by decide),by simp,by simp⟩
structure ClW(vl:List ByteArray)(lt rt:Tm)(gl:List Gu):Prop where
 v:vl.length<=20
 vs:∀ x∈vl,x.size<=1000
 l:Wn 3000 lt
 r:Wn 3000 rt
 g:gl.length<=20
 ga:∀ x∈gl,GuW x
theorem ClW.b{v:List ByteArray}{l r:Tm}{g:List Gu}(h:ClW v l r g){d:DfM}(hd:DfB d):ClB ⟨d,v,l,r,g⟩ :=
 ⟨hd,by have:=h.v;show v.length<=_;omega,fun x hx=>by have:=h.vs x hx;unfold maxLen;omega,h.l.w,h.r.w,by have:=h.l.n;show l.nodes<=_;omega,by have:=h.r.n;show r.nodes<=_;omega,by have:=h.g;show g.length<=_;omega,fun x hx=>(h.ga x hx).b⟩
end Go.Q
end
section
/- Proofs that are found are right;claims that are proved have no refutation. -/
namespace Go.Q
open Go
def At(ns:List PnM)(b:Nat)(l:List PnM):Prop:=∃ pre post,ns=pre++(l++post)/\pre.length=b
theorem At.fst{ns:List PnM}{b:Nat}{x:PnM}{l:List PnM}(h:At ns b (x::l)):ns[b]?=some x/\b<ns.length/\At ns (b+1) l:=by
 obtain⟨pre,post,rfl,rfl⟩:=h;refine⟨by simp,by simp,pre++[x],post,by simp,by simp⟩
theorem At.app{ns:List PnM}{b:Nat}{l m:List PnM}(h:At ns b (l++m)):At ns b l/\At ns (b+l.length) m:=by
 obtain⟨pre,post,rfl,rfl⟩:=h;exact⟨⟨pre,m++post,by simp,rfl⟩,⟨pre++l,post,by simp,by simp⟩⟩
theorem Jo{g:ClM}{t:Tm}{op:List Int}:∀ (cs:List ClM) (i:Nat) (x:PnM),ji g t op cs i=some x->∃ j c,cs[j]?=some c/\x.k=3/\x.c=((i+j:Nat):Int)/\op.all (pu c x.s g t)=true
 | [],i,x,h=>by simp[ji] at h
 |c::r,i,x,h=>by
  have rc:ji g t op r (i+1)=some x->∃ j c',(c::r)[j]?=some c'/\x.k=3/\x.c=((i+j:Nat):Int)/\op.all (pu c' x.s g t)=true:=fun h=>by
   obtain⟨j,c',h1,h2,h3,h4⟩:=Jo r (i+1) x h;exact⟨j+1,c',by simpa using h1,h2,by rw[h3];congr 1;omega,h4⟩
  simp only[ji] at h;cases hm:mT c.l t [] with
  |none=>rw[hm] at h;exact rc h
  |some l =>
   rw[hm] at h;simp only at h;split at h
   ·rename_i ha
    simp only[C9.injEq] at h;subst h;exact⟨0,c,rfl,rfl,rfl,ha⟩
   ·exact rc h
theorem Nn{f:Nat->Tm->List Int->Option (List PnM)}{d:DfM}{t:Tm}{ns:List PnM}:∀ (L:List (Bk×List Int)) (base:Nat) (y:List Int×List PnM),chl f d t L base=some y->At ns base y.2->y.1.length=L.length/\∀ p∈L.zip y.1,∃ m n1,p.2=((m:Nat):Int)/\base<=m/\f m (bT d t p.1.1) p.1.2=some n1/\At ns m n1
 | [],base,y,h,_=>by simp only[chl,C9.injEq] at h;subst h;simp
 |b::r,base,y,h,ha=>by
  simp only[chl] at h;cases h1:f base (bT d t b.1) b.2 with
  |none=>rw[h1] at h;simp at h
  |some n1 =>
   rw[h1] at h;simp only at h;cases h3:chl f d t r (base+n1.length) with
   |none=>rw[h3] at h;simp at h
   |some z =>
    rw[h3] at h;simp only[C9.injEq] at h;subst h;obtain⟨a1,a2⟩:=ha.app;obtain⟨l1,l2⟩:=Nn r _ z h3 a2;refine⟨by simp[l1],fun p hp=>?_⟩
    rw[S6] at hp;rcases E1.1 hp with rfl |hp
    ·exact⟨base,n1,rfl,E7 _,h1,a1⟩
    ·obtain⟨m,n2,q1,q2,q3,q4⟩:=l2 p hp
     exact⟨m,n2,q1,by omega,q3,q4⟩
theorem Xf{d:DfM}{cs:List ClM}{g:ClM}{ns:List PnM}:∀ (r base:Nat) (t:Tm) (cl:List Int) (nl:List PnM) (f:Nat) (st:Bool),fnd d cs g r base t cl=some nl->At ns base nl->ns.length<=f+base->(r<12->st=true)->rgt d cs g ns f (base:Int) t cl st=true:=by
 have one:∀ (base:Nat) (t:Tm) (cl:List Int) (nl:List PnM) (f:Nat) (st:Bool) (cir:Option PnM) (k:Option (List PnM)),qx base (opC g t cl) cir k=some nl->At ns base nl->ns.length<=f+base →
  (∀ x,cir=some x->st=true/\∃ i,ji g t (opC g t cl) cs i=some x/\i=0) →
  (∀ nl',k=some nl'->At ns base nl'->∃ y:List Int×List PnM,nl'=⟨2,y.1,0,[]⟩::y.2/\y.1.length=(brF d g.v t (opC g t cl) []).length/\∀ p∈(brF d g.v t (opC g t cl) []).zip y.1,bK d t p.1.1=2/\∃ m:Nat,p.2=(m:Int)/\base<m/\rgt d cs g ns (f-1) (m:Int) (bT d t p.1.1) p.1.2 true=true)->rgt d cs g ns f (base:Int) t cl st=true:=by
  intro base t cl nl f st cir k h ha hf hc hk;have hf1:∀ x l,nl=x::l->∃ e,f=e+1:=fun x l e=>by
   subst e;have:=(ha.fst).2.1;exact⟨f-1,by omega⟩
  unfold qx at h;split at h
  ·simp at h
  split at h
  ·rename_i h0
   simp only[C9.injEq] at h;subst h;obtain⟨e,rfl⟩:=hf1 _ _ rfl;obtain⟨a1,_,_⟩:=ha.fst;unfold rgt;rw[H6 (by omega),B7,a1]
   simp only[h0,if_true,H3]
  ·cases cir with
   |some x =>
    simp only[C9.injEq] at h;subst h;obtain⟨e,rfl⟩:=hf1 _ _ rfl;obtain⟨a1,_,_⟩:=ha.fst;obtain⟨hst,i,hx,rfl⟩:=hc x rfl;obtain⟨j,c,c1,c2,c3,c4⟩:=Jo _ _ _ hx;unfold rgt;rw[H6 (by omega),B7,a1]
    simp only[c2];rw[H6 (by decide),H6 (by decide),H5 trivial,hst]
    have hcl:qw cs x.c=some c:=by
     unfold qw;rw[c3,H5 (by omega),B7,D0,c1]
    rw[hcl];simp only[c4,Q2]
   |none =>
    simp only at h;obtain⟨y,rfl,y2,y3⟩:=hk nl h ha;obtain⟨e,rfl⟩:=hf1 _ _ rfl;obtain⟨a1,_,_⟩:=ha.fst;unfold rgt;rw[H6 (by omega),B7,a1]
    simp only;rw[H6 (by decide),H5 trivial,B9,E3]
    refine⟨H7 y2.symm,fun p hp=>?_⟩
    obtain⟨b1,m,b2,b3,b4⟩:=y3 p hp;rw[b2];simp only[B9,decide_eq_true_eq,F1,decide_eq_false_iff_not];exact⟨b1,by omega,b4⟩
 intro r;induction r with
 |zero =>
  intro base t cl nl f st h ha hf hst;simp only[fnd] at h;exact one base t cl nl f st _ _ h ha hf (fun x hx=>⟨hst (by decide),0,hx,rfl⟩) (by simp)
 |succ r ih =>
  intro base t cl nl f st h ha hf hst;simp only[fnd] at h;refine one base t cl nl f st _ _ h ha hf (fun x hx=>?_) (fun nl' hk ha'=>?_)
  ·split at hx
   ·rename_i hr
    exact⟨hst hr,0,hx,rfl⟩
   ·simp at hx
  ·split at hk
   ·rename_i hall
    cases hy:chl (fnd d cs g r) d t (brF d g.v t (opC g t cl) []) (base+1) with
    |none=>rw[hy] at hk;simp[mk2] at hk
    |some y =>
     rw[hy] at hk;simp only[mk2,C9.injEq] at hk;subst hk;obtain⟨_,hlt,ha2⟩:=ha'.fst;obtain⟨l1,l2⟩:=Nn _ _ y hy ha2;refine⟨y,rfl,l1,fun p hp=>?_⟩
     obtain⟨m,n1,q1,q2,q3,q4⟩:=l2 p hp;have hb:=E3.1 hall p.1 (List.of_mem_zip hp).1;exact⟨by simpa using hb,m,q1,by omega,ih m _ _ n1 (f-1) true q3 q4 (by omega) (fun _=>rfl)⟩
   ·simp at hk
theorem Np{d:DfM}{cs:List ClM}{k:Int}{ns:List PnM}(h:fpR d cs k=some ns):Lj d cs k ns=true:=by
 unfold fpR at h;unfold Lj;cases hq:yp cs k with
 |none=>rw[hq] at h;simp at h
 |some g =>
  rw[hq] at h;simp only at h ⊢;have h1:=mz _ _ _ _ _ _ _ _ (J0 _) h;rw[B9,decide_eq_true_eq];exact⟨by omega,Xf 12 0 _ _ ns ns.length false h ⟨[],[],by simp,rfl⟩ (by omega) (fun h=>absurd h (by decide))⟩
theorem Jp{d:DfM}{cs:List ClM}:∀ (n i:Nat) (ps:List (List PnM)),prL d cs n i=some ps->ps.length=n/\Jj d cs i ps=true
 |0,i,ps,h=>by simp only[prL,C9.injEq] at h;subst h;exact⟨rfl,rfl⟩
 |n+1,i,ps,h=>by
  simp only[prL] at h;cases h1:fpR d cs (i:Int) with
  |none=>rw[h1] at h;simp at h
  |some p =>
   rw[h1] at h;simp only at h;cases h2:prL d cs n (i+1) with
   |none=>rw[h2] at h;simp at h
   |some r =>
    rw[h2] at h;simp only[C9.injEq] at h;subst h;obtain⟨g1,g2⟩:=Jp n (i+1) r h2;exact⟨by simp[g1],by simp only[Jj,Np h1,g2,Q2]⟩
theorem Xg{d:DfM}{cs:List ClM}{ps:List (List PnM)}(h:prL d cs cs.length 0=some ps)(h0:0<cs.length):Su d cs ps=true:=by
 obtain⟨g1,g2⟩:=Jp _ _ _ h;unfold Su;simp only[g1,g2,h0,H3,Q2]
end Go.Q
end
section
/- aa of proofs that are changed;loops that go through. -/
namespace Go.Q
open Go
theorem pnK(x:PnM)(b:Int):over 0 [D.int b] (PnM.row x)=PnM.row ⟨b,x.nx,x.c,x.s⟩:=rfl
theorem pnS(x:PnM):over 3 [D.sl []] (PnM.row x)=PnM.row ⟨x.k,x.nx,x.c,[]⟩:=rfl
theorem pnC(x:PnM)(b:Int):over 2 [D.int b] (PnM.row x)=PnM.row ⟨x.k,x.nx,b,x.s⟩:=rfl
theorem pnE(x:PnM):over 1 [D.sl []] (PnM.row x)=PnM.row ⟨x.k,[],x.c,x.s⟩:=rfl
theorem pnN(x:PnM)(b:Int):over 1 [D.sl (x.nx.map al++[[D.int b]])] (PnM.row ⟨x.k,[],x.c,x.s⟩)=PnM.row ⟨x.k,x.nx++[b],x.c,x.s⟩:=by
 show _=[D.int x.k,D.sl ((x.nx++[b]).map al),D.int x.c,D.sl (x.s.map Bnd.row)]
 rw[D5];rfl
theorem pn1(x:PnM):(nth (PnM.row x) 1).L=x.nx.map al:=rfl
section
variable{L:List PnM}{m:Nat}
theorem ov1(hm:m<L.length)(y:PnM):over m [PnM.row y] (L.map PnM.row)=(L.set m y).map PnM.row:=by
 rw[gv _ _ _ (by simpa using hm),List.map_set]
theorem ovN(hm:m<L.length)(y z:PnM):over m [PnM.row z] (over m [PnM.row y] (L.map PnM.row))=(L.set m z).map PnM.row:=by
 rw[S.over_row_two (by simpa using hm),ov1 hm]
theorem ovA(hm:m<L.length)(y:PnM):rowAt (over m [PnM.row y] (L.map PnM.row)) m=PnM.row y:=S.over_row_at (by simpa using hm)
theorem ovL(hm:m<L.length)(y:PnM):(over m [PnM.row y] (L.map PnM.row)).length=L.length:=by
 rw[S.over_row_len (by simpa using hm),B6]
theorem gf(h:∀ n∈L,PnB n)(y:PnM)(hy:PnB y):∀ n∈L.set m y,PnB n:=fun n hn=>by
 rcases K7 hn with hn |rfl
 ·exact h n hn
 ·exact hy
end
theorem wq.b{n:PnM}(h:wq n):PnB n:=⟨by have:=h.nl;omega,by have:=h.sl;omega,fun b hb=>ao _ (by have:=(h.sb b hb).2.2;omega)⟩
def dfN:List PnM:=[⟨2,[1],0,[]⟩,⟨1,[],0,[]⟩]
theorem Nq:([[.int 2,.sl [[.int 1]],.int 0,.sl []],[.int 1,.sl [],.int 0,.sl []]]:aa)=dfN.map PnM.row:=rfl
theorem Ft:∀ n∈dfN,PnB n/\n.nx.length<=64:=fun n hn=>by
 simp only[dfN,E1,N0,or_false] at hn;rcases hn with rfl |rfl<;>exact⟨⟨by simp,by simp,by simp⟩,by simp⟩
structure ClL(df:DfM)(cs:List ClM):Prop where
 d:DfW df
 l:0<cs.length/\cs.length<=2
 b:∀ c∈cs,ClB c
 e:∀ c∈cs,c.d=df
structure NdL(ns:List PnM):Prop where
 l:ns.length<=60
 b:∀ n∈ns,PnB n
theorem Tb{F:Nat->R}{n:Nat}{A:R}(hs:∀ i,i<n->F i=F (i+1))(he:F n=A):F 0=A:=by
 have key:∀ k i,i+k=n->F i=A:=by
  intro k;induction k with
  |zero =>
   intro i hi;have e:i=n:=by omega
   rw[e];exact he
  |succ k ih=>intro i hi;rw[hs i (by omega)];exact ih (i+1) (by omega)
 exact key n 0 (D0 n)
end Go.Q
end
section
/- An evaluator that asks proved summaries. -/
namespace Go.Q
open Go
mutual
def dqD:D->D->Bool
 |.int a,.int b=>decide (a=b)
 |.bool a,.bool b=>decide (a=b)
 |.str a,.str b=>decide (a=b)
 |.sl a,.sl b=>dqR a b
 |_,_=>false
def dqL:List D->List D->Bool
 | [],[]=>true
 |x::xs,y::ys=>dqD x y&&dqL xs ys
 |_,_=>false
def dqR:List (List D)->List (List D)->Bool
 | [],[]=>true
 |x::xs,y::ys=>dqL x y&&dqR xs ys
 |_,_=>false
end
mutual
theorem Zv:∀ a b,dqD a b=true->a=b
 |.int a,b,h=>by cases b<;>simp[dqD] at h ⊢;exact h
 |.bool a,b,h=>by cases b<;>simp[dqD] at h ⊢;exact h
 |.str a,b,h=>by cases b<;>simp[dqD] at h ⊢;exact h
 |.sl a,b,h=>by
  cases b with
  |sl b=>rw[dqD] at h;rw[Tc a b h]
  |_=>simp[dqD] at h
theorem Ln:∀ a b,dqL a b=true->a=b
 | [],b,h=>by cases b with
  |nil=>rfl
  |cons y ys=>simp[dqL] at h
 |x::xs,b,h=>by
  cases b with
  |nil=>simp[dqL] at h
  |cons y ys =>
   rw[dqL,B9] at h;rw[Zv x y h.1,Ln xs ys h.2]
theorem Tc:∀ a b,dqR a b=true->a=b
 | [],b,h=>by cases b with
  |nil=>rfl
  |cons y ys=>simp[dqR] at h
 |x::xs,b,h=>by
  cases b with
  |nil=>simp[dqR] at h
  |cons y ys =>
   rw[dqR,B9] at h;rw[Ln x y h.1,Tc xs ys h.2]
end
def orc(T:List (List D))(l:List D):R:=bif T.any (dqL l) then some (0,[.bool true]) else none
theorem Td{H:Tab}{P:Program}{k:Key}{T:List (List D)}{l:List D}{r:Nat×List D}(h:∀ x∈T,run H P k x=some (0,[.bool true]))(e:orc T l=some r):run H P k l=some r:=by
 unfold orc at e;cases ha:T.any (dqL l) with
 |false=>rw[ha] at e;simp at e
 |true =>
  rw[ha] at e;obtain⟨x,hx,hq⟩:=R0.1 ha;rw[Ln _ _ hq];exact(h x hx).trans e
theorem Sd.rn{H:Tab}{P:Program}{c:Key->List D->R}{k:Key}{v:List D->R}(hc:∀ k l r,c k l=some r->run H P k l=some r)(h:Sd H P c k (fun l=>l) v){l:List D}{r:Nat×List D}(e:v l=some r):run H P k l=some r:=Kh (qd hc (h l r e))
structure En(H:Tab)(P:Program) where
 k:Key
 v:List D->R
 h:∀ l r,v l=some r->run H P k l=some r
def OkC(H:Tab)(P:Program)(c:Key->List D->R):Prop:=∀ k l r,c k l=some r->run H P k l=some r
theorem Sd.en{H:Tab}{P:Program}{c:Key->List D->R}{k:Key}{v:List D->R}(hc:OkC H P c)(h:Sd H P c k (fun l=>l) v):∀ l r,v l=some r->run H P k l=some r:=fun l r e=>Sd.rn hc h e
def lkE{H:Tab}{P:Program}(k:Key)(l:List D):List (En H P)->R
 | []=>none
 |e::t=>bif E9 k.f e.k.f&&(E9 k.n e.k.n&&E9 k.v e.k.v) then e.v l else lkE k l t
theorem Tf{H:Tab}{P:Program}{k:Key}{l:List D}{r:Nat×List D}:∀ T:List (En H P),lkE k l T=some r->run H P k l=some r
 | [],h=>by simp[lkE] at h
 |e::t,h=>cnd h (fun a b=>by
  simp only[B9] at a;have e1:k=e.k:=by
   obtain⟨f,v,n⟩:=k;have a1:=R7 a.1;have a2:=R7 a.2.1;have a3:=R7 a.2.2;simp only at a1 a2 a3;rw[a1,a2,a3]
  rw[e1];exact e.h l r b) fun _ b=>Tf t b
def evE{H:Tab}{P:Program}(T:(c:Key->List D->R)->OkC H P c->List (En H P)):Nat->{c:Key->List D->R // OkC H P c}
 |0=>⟨fun _ _=>none,fun k l r h=>by simp at h⟩
 |n+1=>⟨fun k l=>lkE k l (T (evE T n).1 (evE T n).2),fun k l r h=>Tf _ h⟩
def lpT:List Tm:=[tP ⟨#[108,111,111,112]⟩ tNn tMm,tP ⟨#[108,111,111,112]⟩ (tP ⟨#[109,105,110,117,115]⟩ tNn (tW 1)) (tP ⟨#[112,108,117,115]⟩ tMm (tW 1)),tW 0,tNn,tP ⟨#[108,111,111,112]⟩ (tW 0) tMm,tO ⟨#[100,111,110,101]⟩ tMm]
theorem Zw:∀ t∈lpT,Wn 9 t:=fun t ht=>by
 have n1:Wn 1 tNn:=Bi (by decide)
 have m1:Wn 1 tMm:=Bi (by decide)
 have w0:Wn 1 (tW 0):=vg (by decide) (by decide)
 have w1:Wn 1 (tW 1):=vg (by decide) (by decide)
 simp only[lpT,E1,N0,or_false] at ht;rcases ht with rfl |rfl |rfl |rfl |rfl |rfl
 ·exact(ge (by decide) n1 m1).mono (by decide)
 ·exact(ge (by decide) (ge (by decide) n1 w1) (ge (by decide) m1 w1)).mono (by decide)
 ·exact w0.mono (by decide)
 ·exact n1.mono (by decide)
 ·exact(ge (by decide) w0 m1).mono (by decide)
 ·exact(ol (by decide) m1).mono (by decide)
end Go.Q
end
