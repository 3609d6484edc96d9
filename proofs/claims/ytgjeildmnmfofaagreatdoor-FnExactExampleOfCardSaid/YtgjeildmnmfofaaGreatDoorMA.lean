/- The plain laws of what the functions answer, part 1. -/
import Derived.Test.YtgjeildmnmfofaaGreatDoorQC
set_option linter.unusedVariables false
set_option linter.unusedSimpArgs false
open Bool renaming and_eq_true->B4,not_eq_true'->C5
open Int renaming tmod_lt_of_pos->J3,tmod_nonneg->K7
open List renaming mem_cons_self->B5,mem_cons_of_mem->B6,mem_append->B8,getElem?_eq_some_iff->B9,map_cons->C0,mem_cons->C1,all_eq_true->C6,mem_map->D0,length_eq_zero_iff->D4,mem_singleton->E1,mem_flatMap->E4,length_cons->E8,cons_append->E9,getElem_mem->F7,map_congr_left->F9,map_map->G5,nil_append->G6,sum_cons->J2,not_mem_nil->J4,mem_or_eq_of_mem_set->K5,mem_of_getElem?->K9,map_append->N0,flatMap_cons->N3,cons->N7,filter_cons->N9,length_map->O2,set_cons_succ->O4,mem_filterMap->O5
open Nat renaming eq_of_beq_eq_true->K4
open Option renaming some->B7,map_some->O3
open Prod renaming mk->C8
section
namespace Go.Q
open Go
inductive Tm where
 | mk (k n:Int) (s:ByteArray) (as:List Tm)
namespace Tm
def k:Tm->Int | mk k _ _ _=>k
def n:Tm->Int | mk _ n _ _=>n
def s:Tm->ByteArray | mk _ _ s _=>s
def as:Tm->List Tm | mk _ _ _ as=>as
mutual
def row:Tm->List D
 | mk k n s as=>[.int k,.int n,.str s,.sl (rows as)]
def rows:List Tm->List (List D)
 | []=>[]
 | t::ts=>row t::rows ts
end
theorem xe:∀ ts:List Tm,rows ts=ts.map row
 | []=>rfl
 | t::ts=>by simp only [rows,C0,xe ts]
theorem row_eq (t:Tm):t.row=[.int t.k,.int t.n,.str t.s,.sl (t.as.map row)]:=by
 cases t; simp only [row,xe,Tm.k,Tm.n,Tm.s,Tm.as]
theorem ind {P:Tm->Prop} (h:∀ t,(∀ a∈t.as,P a)->P t):∀ t,P t:=by
 have key:∀ (N:Nat) (t:Tm),SizeOf.sizeOf t<N->P t:=by
  intro N;induction N with
  | zero=>intro t ht; omega
  | succ N ih =>
   intro t ht;refine h t fun a ha=>ih a ?_
   cases t with
   | mk k n s as =>
    simp only [Tm.as] at ha;have:=List.sizeOf_lt_of_mem ha;simp only [mk.sizeOf_spec] at ht;omega
 exact fun t=>key _ t (Nat.lt_succ_self _)
end Tm
inductive Small:Tm->Prop
 | mk {t:Tm}:t.as.length<=1048576->(∀ a∈t.as,Small a)->Small t
theorem Small.len {t:Tm} (h:Small t):t.as.length<=1048576:=by cases h; assumption
theorem Small.sub {t a:Tm} (h:Small t) (ha:a∈t.as):Small a:=by cases h with | mk _ h=>exact h a ha
structure Ol (H:Tab) (e:TypeId) (lay:List CT):Prop where
 eq:lay=[.int .i64,.int .i64,.str,.sl e]
 ty:∃ ti,H.ty e=some ti/\ti.lay=lay
abbrev Bnd:=ByteArray×Tm
def Bnd.row (b:Bnd):List D:=.str b.1::b.2.row
def bnd:List Bnd->ByteArray->Option Tm
 | [],_=>none
 | b::r,s=>if b.1=s then some b.2 else bnd r s
def tm0:Tm:=.mk 0 0 ⟨#[]⟩ []
theorem eg {l:List Bnd} {s:ByteArray} {t:Tm} (h:bnd l s=some t):∃ b∈l,b.2=t:=by
 induction l with
 | nil=>simp [bnd] at h
 | cons b l ih =>
  simp only [bnd] at h;split at h
  · exact ⟨b,B5 ..,by simpa using h⟩
  · obtain ⟨b',h1,h2⟩:=ih h; exact ⟨b',B6 _ h1,h2⟩
mutual
def aS (l:List Bnd):Tm->Tm
 | .mk k n s as=>match (if k=1 then bnd l s else none) with
  | some u=>u
  | none=>.mk k n s (aSs l as)
def aSs (l:List Bnd):List Tm->List Tm
 | []=>[]
 | t::ts=>aS l t::aSs l ts
end
theorem zu (l:List Bnd):∀ ts,aSs l ts=ts.map (aS l)
 | []=>rfl
 | t::ts=>by simp only [aSs,C0,zu l ts]
theorem dk (l:List Bnd) (t:Tm):aS l t=match (if t.k=1 then bnd l t.s else none) with
 | some u=>u
 | none=>.mk t.k t.n t.s (t.as.map (aS l)):=by cases t; simp only [aS,zu,Tm.k,Tm.n,Tm.s,Tm.as]; rfl
def isW (t:Tm):Bool:=decide (t.k=3)&&(decide (0<=t.n)&&(decide (t.n<4)&&(decide (t.s=⟨#[]⟩)&&decide (t.as.length=0))))
def Lq:ByteArray:=⟨#[112,108,117,115]⟩
def Dx:ByteArray:=⟨#[109,105,110,117,115]⟩
def Mp:ByteArray:=⟨#[116,105,109,101,115]⟩
def isB (s:ByteArray):Bool:=decide (s=Lq)||(decide (s=Dx)||decide (s=Mp))
def cmp (s:ByteArray) (a b:Int):Int:=if s=Lq then (a+b).tmod 4 else if s=Dx then (a-b+4).tmod 4 else (a*b).tmod 4
def rW1 (k n:Int) (s:ByteArray) (as:List Tm):Tm :=
 match as with
 | [x,y]=>if k=2/\n=0/\isB s=true/\isW x=true/\isW y=true then .mk 3 (cmp s x.n y.n) ⟨#[]⟩ [] else .mk k n s as
 | _=>.mk k n s as
mutual
def rW:Tm->Tm
 | .mk k n s as=>rW1 k n s (rWs as)
def rWs:List Tm->List Tm
 | []=>[]
 | t::ts=>rW t::rWs ts
end
theorem zv:∀ ts,rWs ts=ts.map rW
 | []=>rfl
 | t::ts=>by simp only [rWs,C0,zv ts]
theorem ou (t:Tm):rW t=rW1 t.k t.n t.s (t.as.map rW):=by cases t; simp only [rW,zv,Tm.k,Tm.n,Tm.s,Tm.as]
def Dy (n:Nat):Int:=if n<=3 then 4 ^ n else 0
def isC (n:Nat) (c:Int):Bool:=decide (0<=c)&&decide (c<Dy n)
def vals (n:Nat) (c:Int):List Int :=
 if isC n c then (match n with
  | 0=>[]
  | 1=>[c.tmod 4]
  | 2=>[(c.tdiv 4).tmod 4,c.tmod 4]
  | _=>[((c.tdiv 4).tdiv 4).tmod 4,(c.tdiv 4).tmod 4,c.tmod 4]) else []
def word (n:Int):Tm:=.mk 3 n ⟨#[]⟩ []
def ey (vars:List ByteArray) (c:Int):List Bnd:=(vars.zip (vals vars.length c)).map fun p=>(p.1,word p.2)
def gi (vars:List ByteArray) (t:Tm) (c:Int):Tm:=rW (aS (ey vars c) t)
end Go.Q
end
section
namespace Go.Q
open Go
def Bp (s:ByteArray):List D:=[.str s]
def Io (n:Int):List D:=[.int n]
theorem xf {n:Nat} (h:3<n):Dy n=0:=by unfold Dy; rw [H6 (by omega)]
theorem Ip (n:Nat):0<=Dy n/\Dy n<=64:=by
 by_cases h:3<n
 · rw [xf h]; decide
 · obtain rfl | rfl | rfl | rfl:n=0\/n=1\/n=2\/n=3:=by omega
   all_goals decide
theorem yz {n:Nat} {c:Int} (h:isC n c=true):n<=3/\0<=c/\c<64:=by
 simp only [isC,B4,decide_eq_true_eq] at h;obtain ⟨h1,h2⟩:=h;have h3:=Ip n;by_cases hn:3<n
 · rw [xf hn] at h2; omega
 · omega
end Go.Q
namespace Go.Q
end Go.Q
end
section
namespace Go.Q
open Go
namespace Tm
mutual
def names:Tm->List ByteArray
 | .mk k _ s as=>(if k=1 then [s] else [])++uz as
def uz:List Tm->List ByteArray
 | []=>[]
 | t::ts=>names t++uz ts
end
theorem sj:∀ ts,uz ts=ts.flatMap names
 | []=>rfl
 | t::ts=>by simp only [uz,N3,sj ts]
theorem names_eq (t:Tm):t.names=(if t.k=1 then [t.s] else [])++t.as.flatMap names:=by cases t; simp only [names,sj,Tm.k,Tm.s,Tm.as]; rfl
theorem as_mk (k n:Int) (s:ByteArray) (as:List Tm):(Tm.mk k n s as).as=as:=rfl
theorem k_mk (k n:Int) (s:ByteArray) (as:List Tm):(Tm.mk k n s as).k=k:=rfl
theorem s_mk (k n:Int) (s:ByteArray) (as:List Tm):(Tm.mk k n s as).s=s:=rfl
mutual
def nodes:Tm->Nat
 | .mk _ _ _ as=>1+nodesL as
def nodesL:List Tm->Nat
 | []=>0
 | t::ts=>nodes t+nodesL ts
end
theorem sk:∀ ts,nodesL ts=(ts.map nodes).sum
 | []=>rfl
 | t::ts=>by simp only [nodesL,C0,J2,sk ts]
theorem nodes_eq (t:Tm):t.nodes=1+(t.as.map nodes).sum:=by cases t; simp only [nodes,sk,Tm.as]
end Tm
theorem Dz {α:Type} {xs:List α} {f g:α->Nat} (h:∀ x∈xs,f x<=g x):(xs.map f).sum<=(xs.map g).sum:=by
 induction xs with
 | nil=>simp
 | cons x xs ih =>
  simp only [C0,J2];have h1:=h x (B5 ..);have h2:=ih fun y hy=>h y (B6 _ hy)
  omega
theorem ve {α:Type} {xs:List α} {f:α->Nat} {x:α} (h:x∈xs):f x<=(xs.map f).sum:=by
 induction xs with
 | nil=>simp at h
 | cons y xs ih =>
  simp only [C0,J2];rcases C1.1 h with rfl | h
  · omega
  · have:=ih h; omega
theorem Iq {xs:List Tm}:xs.length<=(xs.map Tm.nodes).sum:=by
 induction xs with
 | nil=>simp
 | cons x xs ih =>
  simp only [C0,J2,E8];have:=Tm.nodes_eq x; omega
theorem Ea:∀ t:Tm,t.nodes<=1048577->Small t:=Tm.ind fun t ih h=>by
 have h1:=Tm.nodes_eq t;have h2:=Iq (xs:=t.as);exact .mk (by omega) fun a ha=>ih a ha (by have:=ve (f:=Tm.nodes) ha; omega)
theorem Eb {l:List Bnd} (hl:∀ b∈l,b.2.nodes=1):∀ t,(aS l t).nodes<=t.nodes:=Tm.ind fun t ih=>by
 rw [dk];have h1:=Tm.nodes_eq t;split
 · rename_i u hu
   split at hu
   · obtain ⟨b,h1,rfl⟩:=eg hu; rw [hl b h1]; omega
   · simp at hu
 · rw [Tm.nodes_eq]
   simp only [Tm.as_mk,G5];have:=Dz (xs:=t.as) (f:=Tm.nodes ∘ aS l) (g:=Tm.nodes) ih;omega
theorem Bq (k n:Int) (s:ByteArray) (us:List Tm):(rW1 k n s us).nodes<=1+(us.map Tm.nodes).sum:=by
 unfold rW1;split
 · split
   · simp only [Tm.nodes,Tm.nodesL]; omega
   · rw [Tm.nodes_eq,Tm.as_mk]; omega
 · rw [Tm.nodes_eq,Tm.as_mk]; omega
theorem xg:∀ t,(rW t).nodes<=t.nodes:=Tm.ind fun t ih=>by
 have h1:=Tm.nodes_eq t;have h2:=Dz (xs:=t.as) (f:=Tm.nodes ∘ rW) (g:=Tm.nodes) ih;have h3:=Bq t.k t.n t.s (t.as.map rW);rw [G5] at h3;rw [ou];omega
theorem sm {t:Tm} (h:isW t=true):t.names=[]:=by
 simp only [isW,B4,decide_eq_true_eq] at h;rw [Tm.names_eq,H6 (by omega),D4.1 h.2.2.2.2]
 rfl
theorem Br (k n:Int) (s:ByteArray) (us:List Tm):(rW1 k n s us).names=(if k=1 then [s] else [])++us.flatMap Tm.names:=by
 unfold rW1;split
 · rename_i x y
   split
   · rename_i h
     have e1:=sm h.2.2.2.1;have e2:=sm h.2.2.2.2;obtain ⟨rfl,_⟩:=h;show ([]:List ByteArray)=([]:List ByteArray)++[x,y].flatMap Tm.names
     simp [e1,e2]
   · rw [Tm.names_eq]; rfl
 · rw [Tm.names_eq]; rfl
theorem qt {xs:List Tm} {f g:Tm->List ByteArray} (h:∀ x∈xs,f x=g x):xs.flatMap f=xs.flatMap g:=by
 induction xs with
 | nil=>rfl
 | cons x xs ih=>rw [N3,N3,h x (B5 ..),ih fun y hy=>h y (B6 _ hy)]
theorem xh:∀ t,(rW t).names=t.names:=Tm.ind fun t ih=>by
 have e:(t.as.map rW).flatMap Tm.names=t.as.flatMap Tm.names:=by
  rw [List.flatMap_map];exact qt fun x hx=>ih x hx
 rw [ou,Tm.names_eq t,<- e];exact Br ..
def isG (t:Tm):Bool:=decide ((t.names.length:Int)=0)
structure Gu where
 k:Int
 l:Tm
 r:Tm
def Gu.row (g:Gu):List D:=[.int g.k,.int g.l.k,.int g.l.n,.str g.l.s,.sl (g.l.as.map Tm.row),.int g.r.k,.int g.r.n,.str g.r.s,.sl (g.r.as.map Tm.row)]
noncomputable def holds (g:Gu):Bool :=
 isG g.l&&(isG g.r&&(if g.k=1 then eqb (rW g.l).row (rW g.r).row else if g.k=2 then !eqb (rW g.l).row (rW g.r).row else if g.k=3 then isW (rW g.l)&&(isW (rW g.r)&&decide ((rW g.l).n<(rW g.r).n)) else false))
def Om (l:List Bnd) (g:Gu):Gu:=⟨g.k,aS l g.l,aS l g.r⟩
def Gu.ok (g:Gu):Prop:=g.l.nodes<=1048577/\g.r.nodes<=1048577
def qu (r:R) (Q:Nat×List D->Prop):Prop:=∃ x,r=some x/\Q x
theorem qu.bind {r:R} {f:Nat×List D->R} {P Q:Nat×List D->Prop} (h:qu r P) (k:∀ x,P x->qu (f x) Q):qu (r.bind f) Q:=by
 obtain ⟨x,rfl,hx⟩:=h;exact k x hx
theorem qu.ret {x:Nat×List D} {Q:Nat×List D->Prop} (h:Q x):qu (some x) Q:=⟨x,rfl,h⟩
theorem qu.mono {r:R} {P Q:Nat×List D->Prop} (h:qu r P) (k:∀ x,P x->Q x):qu r Q:=by
 obtain ⟨x,h1,h2⟩:=h;exact ⟨x,h1,k x h2⟩
end Go.Q
namespace Go.Q
open Go
end Go.Q
end
section
namespace Go.Q.S
open Go Go.Q
end Go.Q.S
end
section
/- Marks: numbers written into all that a row of data holds,and read again. -/
namespace Go.Q.S
open Go Go.Q
variable {mt:Int->ByteArray}
end Go.Q.S
end
section
/- Terms that are made are well typed; how many marks they bear. -/
namespace Go.Q.S
open Go Go.Q
def i64ok (n:Int):Prop:=(Lit.int .i64 n).wf=true
theorem i64ok_of {n:Int} (h:-9223372036854775808<=n) (h':n<=9223372036854775807):i64ok n:=by
 have h1:IntKind.i64.min=-9223372036854775808:=by decide
 have h2:IntKind.i64.max=9223372036854775807:=by decide
 unfold i64ok Lit.wf;simp only [h1,h2,B4,decide_eq_true_eq];exact ⟨h,h'⟩
section
variable {H:Tab} {e:TypeId} {lay:List CT} (hT:Ol H e lay)
include hT
omit hT in
theorem cmp_ok {s:ByteArray} {x y:Tm} (hx:isW x=true) (hy:isW y=true):i64ok (cmp s x.n y.n):=by
 simp only [isW,B4,decide_eq_true_eq] at hx hy;obtain ⟨_,a1,a2,_⟩:=hx;obtain ⟨_,b1,b2,_⟩:=hy;unfold cmp;split
 · have h1:=J3 (x.n+y.n) (show (0:Int)<4 by decide)
   have h2:=K7 4 (show 0<=x.n+y.n by omega)
   exact i64ok_of (by omega) (by omega)
 · split
   · have h1:=J3 (x.n-y.n+4) (show (0:Int)<4 by decide)
     have h2:=K7 4 (show 0<=x.n-y.n+4 by omega)
     exact i64ok_of (by omega) (by omega)
   · have h1:=J3 (x.n*y.n) (show (0:Int)<4 by decide)
     have h2:=K7 4 (show 0<=x.n*y.n from Int.mul_nonneg a1 b1)
     exact i64ok_of (by omega) (by omega)
end
def instR (vars:List ByteArray) (t:Tm) (c:Int):Tm:=if isC vars.length c then gi vars t c else tm0
end Go.Q.S
end
section
/- Cells laid together; filters that may break off. -/
namespace Go.Q.S
open Go Go.Q
section
variable {H:Tab} {ds:List D} {cts:List CT}
end
theorem ne (t:Tm):tm0.nodes<=t.nodes:=by
 have h1:tm0.nodes=1:=by rw [Tm.nodes_eq]; simp [tm0,Tm.as]
 have:=Tm.nodes_eq t;omega
end Go.Q.S
end
section
namespace Go.Q
open Go
end Go.Q
end
section
/- Guards and other rows out of data. -/
namespace Go.Q.S
open Go Go.Q
end Go.Q.S
namespace Go.Q.S
open Go Go.Q
end Go.Q.S
end
section
/- Names,terms,signatures,rules: what their checks compute. -/
namespace Go.Q
open Go
def On (b:UInt8):Bool:=(decide (97<=b.toNat)&&decide (b.toNat<=122))||(decide (48<=b.toNat)&&decide (b.toNat<=57))
def Lr (lo hi:Nat):List UInt8->Bool
 | []=>false
 | b::r=>decide ((b::r).length<=8)&&((decide (lo<=b.toNat)&&decide (b.toNat<=hi))&&r.all On)
def Ir (s:ByteArray):Bool:=Lr 97 122 s.data.toList
def Nu (s:ByteArray):Bool:=Lr 65 90 s.data.toList
namespace Tm
mutual
def depth:Tm->Nat
 | .mk _ _ _ as=>depthL as+1
def depthL:List Tm->Nat
 | []=>0
 | t::ts=>max (depth t) (depthL ts)
end
theorem depth_eq (t:Tm):t.depth=depthL t.as+1:=by cases t; rfl
def nodeN (t:Tm):Bool :=
 if t.k=1 then decide (t.n=0)&&(decide (t.as.length=0)&&Nu t.s) else if t.k=3 then isW t else if t.k=2 then decide (t.n=0)&&Ir t.s else false
mutual
def areN:Tm->Bool
 | .mk k n s as=>nodeN (.mk k n s as)&&areNL as
def areNL:List Tm->Bool
 | []=>true
 | t::ts=>areN t&&areNL ts
end
theorem areN_eq (t:Tm):t.areN=(nodeN t&&areNL t.as):=by cases t; rfl
theorem areNL_all:∀ l:List Tm,areNL l=l.all areN
 | []=>rfl
 | t::l=>by simp only [areNL,List.all_cons,areNL_all l]
def valid (t:Tm):Bool:=decide (t.nodes<=60)&&(decide (t.depth<=16)&&t.areN)
end Tm
inductive Wt:Tm->Prop
 | mk {t:Tm}:S.i64ok t.k->S.i64ok t.n->t.s.size<=maxLen->t.as.length<=maxLen->(∀ a∈t.as,Wt a)->Wt t
theorem Wt.k {t:Tm} (h:Wt t):S.i64ok t.k:=by cases h; assumption
theorem Wt.n {t:Tm} (h:Wt t):S.i64ok t.n:=by cases h; assumption
theorem Wt.s {t:Tm} (h:Wt t):t.s.size<=maxLen:=by cases h; assumption
theorem Wt.l {t:Tm} (h:Wt t):t.as.length<=maxLen:=by cases h; assumption
theorem Wt.sub {t a:Tm} (h:Wt t) (ha:a∈t.as):Wt a:=by cases h with | mk _ _ _ _ h=>exact h a ha
def dis (l:List ByteArray):Bool:=decide l.Nodup
def Ec (r:List ByteArray) (s:ByteArray):Bool:=r.any fun y=>decide (y=s)
theorem Ed {r:List ByteArray} {s:ByteArray}:Ec r s=true↔s∈r:=by
 simp only [Ec,List.any_eq_true,decide_eq_true_eq];exact ⟨fun ⟨y,h,e⟩=>e▸h,fun h=>⟨s,h,rfl⟩⟩
abbrev jl:ByteArray:=⟨#[119,111,114,100]⟩
abbrev e0:ByteArray:=⟨#[]⟩
structure OpM where
 n:ByteArray
 a:List ByteArray
 r:ByteArray
def OpM.row (o:OpM):List D:=[.str o.n,.sl (o.a.map Bp),.str o.r]
def OpM.ok (o:OpM):Prop:=o.a.length<=1048576
structure Nv (ops:List OpM):Prop where
 l:ops.length<=1048576
 a:∀ o∈ops,o.ok
def gf (ops:List OpM) (s:ByteArray):Option OpM:=if isB s then some ⟨s,[jl,jl],jl⟩ else ops.find? fun o=>decide (o.n=s)
abbrev VS:=ByteArray×ByteArray
def VS.row (v:VS):List D:=[.str v.1,.str v.2]
def xi (vs:List VS) (s:ByteArray):ByteArray:=match vs.find? fun v=>decide (v.1=s) with | some v=>v.2 | none=>e0
mutual
def au (ops:List OpM) (vs:List VS):Tm->ByteArray
 | .mk k n s as=>if k=3 then jl else if k=1 then xi vs s else if k=2 then (match gf ops s with
  | none=>e0
  | some o=>if o.a.length=as.length then (if bo ops vs as o.a then o.r else e0) else e0) else e0
def bo (ops:List OpM) (vs:List VS):List Tm->List ByteArray->Bool
 | [],_=>true
 | t::ts,[]=>true
 | t::ts,x::xs=>(!decide (au ops vs t=e0)&&decide (au ops vs t=x))&&bo ops vs ts xs
end
theorem cf (ops:List OpM) (vs:List VS) (t:Tm):au ops vs t=if t.k=3 then jl else if t.k=1 then xi vs t.s else if t.k=2 then (match gf ops t.s with
 | none=>e0
 | some o=>if o.a.length=t.as.length then (if bo ops vs t.as o.a then o.r else e0) else e0) else e0:=by cases t; simp only [au,Tm.k,Tm.s,Tm.as]; rfl
mutual
def mj (ops:List OpM):Tm->ByteArray->List VS->Option (List VS)
 | .mk k n s as,so,vs=>if k=1 then (match vs.find? fun v=>decide (v.1=s) with
  | some v=>if v.2=so then some vs else none
  | none=>some (vs++[(s,so)])) else qv ops as (if k=2 then (match gf ops s with | some o=>o.a | none=>[]) else []) vs
def qv (ops:List OpM):List Tm->List ByteArray->List VS->Option (List VS)
 | [],_,vs=>some vs
 | t::ts,[],vs=>match mj ops t e0 vs with | some vs'=>qv ops ts [] vs' | none=>none
 | t::ts,x::xs,vs=>match mj ops t x vs with | some vs'=>qv ops ts xs vs' | none=>none
end
theorem vf (ops:List OpM) (t:Tm) (so:ByteArray) (vs:List VS):mj ops t so vs=if t.k=1 then (match vs.find? fun v=>decide (v.1=t.s) with
 | some v=>if v.2=so then some vs else none
 | none=>some (vs++[(t.s,so)])) else qv ops t.as (if t.k=2 then (match gf ops t.s with | some o=>o.a | none=>[]) else []) vs:=by cases t; simp only [mj,Tm.k,Tm.s,Tm.as]; rfl
def Bs (ops:List OpM) (t:Tm) (so:ByteArray):Option (List VS):=match mj ops t so [] with
 | some vs=>if so=e0 then none else if au ops vs t=so then some vs else none
 | none=>none
def Nw (so:List ByteArray) (ops:List OpM):Bool :=
 decide (so.length<=4)&&(dis so&&(decide (ops.length<=16)&&((so.all fun x=>Ir x&&!decide (x=jl))&&((ops.all fun o=>Ir o.n&&(!isB o.n&&(decide (o.a.length<=3)&&(o.a.all (fun x=>decide (x=jl)||Ec so x)&&(decide (o.r=jl)||Ec so o.r)))))&&dis (ops.map (·.n))))))
structure RuM where
 n:ByteArray
 l:Tm
 r:Tm
 g:List Gu
def RuM.row (r:RuM):List D:=[.str r.n,.int r.l.k,.int r.l.n,.str r.l.s,.sl (r.l.as.map Tm.row),.int r.r.k,.int r.r.n,.str r.r.s,.sl (r.r.as.map Tm.row),.sl (r.g.map Gu.row)]
def RuM.ok (r:RuM):Prop:=r.l.nodes<=1048577/\r.r.nodes<=1048577/\r.g.length<=1048576/\∀ g∈r.g,g.ok
mutual
def Ls:Tm->Bool
 | .mk k n s as=>!(decide (k=2)&&isB s)&&Ee as
def Ee:List Tm->Bool
 | []=>true
 | t::ts=>Ls t&&Ee ts
end
def nf (t:Tm) (names:List ByteArray):Bool:=t.names.all fun s=>Ec names s
def Nx (ops:List OpM) (vs:List VS) (g:Gu):Bool :=
 (decide (1<=g.k)&&decide (g.k<=3))&&(g.l.valid&&(g.r.valid&&(!decide (au ops vs g.l=e0)&&(decide (au ops vs g.l=au ops vs g.r)&&!(decide (g.k=3)&&!decide (au ops vs g.l=jl))))))
def Ef (ops:List OpM) (vs:List VS) (gs:List Gu):Bool:=gs.all (Nx ops vs)&&decide (gs.length<=2)
def xj (ops:List OpM) (r:RuM):Bool :=
 Ir r.n&&(r.l.valid&&(decide (r.l.k=2)&&(Ls r.l&&(r.r.valid&&(match gf ops r.l.s with
  | none=>false
  | some o=>match Bs ops r.l o.r with
   | none=>false
   | some vs=>decide (au ops vs r.r=o.r)&&(nf r.r r.l.names&&Ef ops vs r.g))))))
structure StM where
 o:ByteArray
 a:Int
def StM.row (s:StM):List D:=[.str s.o,.int s.a]
structure DfM where
 so:List ByteArray
 op:List OpM
 ru:List RuM
 st:List StM
structure DfM.ok (d:DfM):Prop where
 so:d.so.length<=1048576
 op:d.op.length<=1048576
 opa:∀ o∈d.op,o.ok
 ru:d.ru.length<=1048576
 rua:∀ r∈d.ru,r.ok
 st:d.st.length<=1048576
def Mq (ops:List OpM) (s:StM):Bool:=match gf ops s.o with
 | none=>false
 | some o=>!isB s.o&&(decide (0<=s.a)&&decide (s.a<o.a.length))
def zw (ops:List OpM):List StM->List StM->Bool
 | _,[]=>true
 | pre,x::r=>Mq ops x&&(!(pre.any fun y=>decide (y.o=x.o)&&decide (y.a=x.a))&&zw ops (pre++[x]) r)
def DfM.valid (d:DfM):Bool:=Nw d.so d.op&&(decide (d.ru.length<=16)&&(decide (d.st.length<=8)&&(d.ru.all (xj d.op)&&(zw d.op [] d.st&&dis (d.ru.map (·.n))))))
end Go.Q
end
section
namespace Go.Q
open Go
structure GuB (g:Gu):Prop where
 wl:Wt g.l
 wr:Wt g.r
 ln:g.l.nodes<=1048577
 rn:g.r.nodes<=1048577
structure RuB (r:RuM):Prop where
 n:r.n.size<=maxLen
 wl:Wt r.l
 wr:Wt r.r
 ln:r.l.nodes<=1048577
 rn:r.r.nodes<=1048577
 g:r.g.length<=1048576
 ga:∀ g∈r.g,GuB g
structure DfB (d:DfM):Prop where
 so:d.so.length<=1048576
 sos:∀ x∈d.so,x.size<=maxLen
 op:Nv d.op
 opn:∀ o∈d.op,o.n.size<=maxLen
 ru:d.ru.length<=1048576
 rua:∀ r∈d.ru,RuB r
 st:d.st.length<=1048576
theorem jx (ops:List OpM) (vs:List VS):∀ (l:List Tm) (xs:List ByteArray),l.length<=xs.length->bo ops vs l xs=true->∀ t∈l,au ops vs t≠e0
 | [],_,_,_,t,ht=>by simp at ht
 | t::l,[],hl,_,_,_=>by simp at hl
 | t::l,x::xs,hl,h,u,hu=>by
  simp only [bo,B4,C5,decide_eq_false_iff_not,decide_eq_true_eq] at h;rcases C1.1 hu with e | hu
  · exact e▸h.1.1
  · exact jx ops vs l xs (by simpa using hl) h.2 u hu
theorem Eg {ops:List OpM} {t:Tm} {x:ByteArray} {vs:List VS} (h:Bs ops t x=some vs):mj ops t x []=some vs:=by
 unfold Bs at h;cases hq:mj ops t x [] with
 | none=>rw [hq] at h; simp at h
 | some w =>
  rw [hq] at h;simp only at h;split at h
  · simp at h
  · split at h
    · exact h
    · simp at h
theorem il {t:Tm} {names:List ByteArray}:nf t names=true↔∀ x∈t.names,x∈names:=by
 simp only [nf,C6,Ed]
theorem ei {t:Tm} (h:t.valid=true):t.areN=true:=by
 simp only [Tm.valid,B4] at h; exact h.2.2
end Go.Q
end
section
namespace Go.Q
open Go
def wv (vars:List ByteArray):List VS:=vars.map fun s=>(s,jl)
def qw (d:DfM) (vars:List ByteArray) (t:Tm):Bool :=
 d.valid&&(decide (vars.length<=3)&&(dis vars&&(vars.all Nu&&(t.valid&&(nf t vars&&!decide (au d.op (wv vars) t=e0))))))
structure ClM where
 d:DfM
 v:List ByteArray
 l:Tm
 r:Tm
 g:List Gu
def ClM.row (c:ClM):List D:=[.sl (c.d.so.map Bp),.sl (c.d.op.map OpM.row),.sl (c.d.ru.map RuM.row),.sl (c.d.st.map StM.row),.sl (c.v.map Bp),.int c.l.k,.int c.l.n,.str c.l.s,.sl (c.l.as.map Tm.row),.int c.r.k,.int c.r.n,.str c.r.s,.sl (c.r.as.map Tm.row),.sl (c.g.map Gu.row)]
structure ClB (c:ClM):Prop where
 d:DfB c.d
 v:c.v.length<=1048576
 vs:∀ x∈c.v,x.size<=maxLen
 wl:Wt c.l
 wr:Wt c.r
 ln:c.l.nodes<=1048577
 rn:c.r.nodes<=1048577
 g:c.g.length<=1048576
 ga:∀ g∈c.g,GuB g
def ClM.valid (c:ClM):Bool:=qw c.d c.v c.l&&(qw c.d c.v c.r&&(decide (au c.d.op (wv c.v) c.l=au c.d.op (wv c.v) c.r)&&Ef c.d.op (wv c.v) c.g))
end Go.Q
end
section
/- Definitions and claims out of data. -/
namespace Go.Q.S
open Go Go.Q
end Go.Q.S
end
section
/- Matching,firing,sorts along a step. -/
namespace Go.Q
open Go
theorem It (l l':List Bnd) (s:ByteArray):bnd (l++l') s=match bnd l s with
 | some v=>some v
 | none=>bnd l' s:=by
 induction l with
 | nil=>rfl
 | cons b l ih =>
  simp only [E9,bnd];by_cases h:b.1=s
  · rw [H5 h,H5 h]
  · rw [H6 h,H6 h,ih]
mutual
noncomputable def mT:Tm->Tm->List Bnd->Option (List Bnd)
 | .mk k n s as,u,l =>
  if k=1 then (match bnd l s with
   | some v=>if eqb v.row u.row=true then some l else none
   | none=>some (l++[(s,u)]))
  else if k=u.k then (if n=u.n then (if s=u.s then (if as.length=u.as.length then mTs as u.as l else none) else none) else none) else none
noncomputable def mTs:List Tm->List Tm->List Bnd->Option (List Bnd)
 | [],_,l=>some l
 | _::_,[],_=>none
 | t::ts,u::us,l=>match mT t u l with
  | some l'=>mTs ts us l'
  | none=>none
end
theorem Ny (t u:Tm) (l:List Bnd):mT t u l=if t.k=1 then (match bnd l t.s with
 | some v=>if eqb v.row u.row=true then some l else none
 | none=>some (l++[(t.s,u)]))
 else if t.k=u.k then (if t.n=u.n then (if t.s=u.s then (if t.as.length=u.as.length then mTs t.as u.as l else none) else none) else none) else none:=by
 cases t; simp only [mT,Tm.k,Tm.n,Tm.s,Tm.as]; rfl
theorem xk {t u:Tm} {l l':List Bnd} (h:mT t u l=some l') :
 (t.k=1/\(∃ v,bnd l t.s=some v)/\l'=l)\/(t.k=1/\bnd l t.s=none/\l'=l++[(t.s,u)]) ∨
 (t.k≠1/\t.k=u.k/\t.n=u.n/\t.s=u.s/\t.as.length=u.as.length/\mTs t.as u.as l=some l'):=by
 rw [Ny] at h;by_cases h1:t.k=1
 · rw [H5 h1] at h
   cases hb:bnd l t.s with
   | some v =>
    rw [hb] at h;simp only at h;split at h
    · simp only [B7.injEq] at h; exact .inl ⟨h1,⟨v,rfl⟩,h.symm⟩
    · simp at h
   | none =>
    rw [hb] at h;simp only [B7.injEq] at h;exact .inr (.inl ⟨h1,rfl,h.symm⟩)
 · rw [H6 h1] at h
   split at h
   · split at h
     · split at h
       · split at h
         · exact .inr (.inr ⟨h1,by assumption,by assumption,by assumption,by assumption,h⟩)
         · simp at h
       · simp at h
     · simp at h
   · simp at h
noncomputable def sn (r:RuM) (u:Tm):Option Tm:=match mT r.l u [] with
 | none=>none
 | some l=>if (r.g.all fun g=>holds (Om l g))=true then some (rW (aS l r.r)) else none
def dv (vs:List VS) (s:ByteArray):Option VS:=vs.find? fun v=>decide (v.1=s)
theorem xl (vs:List VS) (s:ByteArray):xi vs s=match dv vs s with | some v=>v.2 | none=>e0:=rfl
theorem sq (vs:List VS) (x:VS) (s:ByteArray):dv (vs++[x]) s=match dv vs s with
 | some v=>some v
 | none=>if x.1=s then some x else none:=by
 unfold dv;rw [List.find?_append];cases h:vs.find? fun v=>decide (v.1=s) with
 | some v=>rfl
 | none=>by_cases e:x.1=s <;> simp [e]
def sr (ops:List OpM) (vs:List VS) (l:List Bnd):Prop:=∀ s,match dv vs s,bnd l s with
 | none,none=>True
 | some v,some w=>au ops [] w=v.2
 | _,_=>False
theorem sr.none {ops:List OpM} {vs:List VS} {l:List Bnd} (h:sr ops vs l) {s:ByteArray} (hv:dv vs s=Option.none):bnd l s=Option.none:=by
 have:=h s;rw [hv] at this;cases hb:bnd l s with
 | none=>rfl
 | some w=>rw [hb] at this; exact this.elim
theorem sr.some {ops:List OpM} {vs:List VS} {l:List Bnd} (h:sr ops vs l) {s:ByteArray} {v:VS} (hv:dv vs s=some v):∃ w,bnd l s=some w/\au ops [] w=v.2:=by
 have:=h s;rw [hv] at this;cases hb:bnd l s with
 | none=>rw [hb] at this; exact this.elim
 | some w=>rw [hb] at this; exact ⟨w,rfl,this⟩
theorem ez {ops:List OpM} {vs:List VS} {t:Tm} (hk:t.k=2) (hs:au ops vs t≠e0):∃ o,gf ops t.s=some o/\o.a.length=t.as.length/\bo ops vs t.as o.a=true/\au ops vs t=o.r:=by
 rw [cf,H6 (by omega),H6 (by omega),H5 hk] at hs
 rw [cf,H6 (by omega),H6 (by omega),H5 hk]
 cases hf:gf ops t.s with
 | none=>rw [hf] at hs; exact absurd rfl hs
 | some o =>
  rw [hf] at hs;simp only at hs ⊢;by_cases hl:o.a.length=t.as.length
  · rw [H5 hl] at hs ⊢
    by_cases hq:bo ops vs t.as o.a=true
    · exact ⟨o,rfl,hl,hq,by rw [H5 hq]⟩
    · rw [H6 hq] at hs; exact absurd rfl hs
  · rw [H6 hl] at hs; exact absurd rfl hs
theorem io {ops:List OpM} {vs:List VS} {t:Tm} (hk:t.k=2) {o:OpM} (hf:gf ops t.s=some o) (hl:o.a.length=t.as.length) (hq:bo ops vs t.as o.a=true):au ops vs t=o.r:=by
 rw [cf,H6 (by omega),H6 (by omega),H5 hk,hf]
 simp only [H5 hl,H5 hq]
theorem cr {t:Tm} (h:t.areN=true):(t.k=1/\t.as=[])\/(t.k=3/\isW t=true/\t.as=[])\/t.k=2:=by
 rw [Tm.areN_eq,B4] at h;have h:=h.1;unfold Tm.nodeN at h;by_cases h1:t.k=1
 · rw [H5 h1] at h
   simp only [B4,decide_eq_true_eq] at h;exact .inl ⟨h1,D4.1 h.2.1⟩
 · rw [H6 h1] at h
   by_cases h3:t.k=3
   · rw [H5 h3] at h
     have h':=h;simp only [isW,B4,decide_eq_true_eq] at h';exact .inr (.inl ⟨h3,h,D4.1 h'.2.2.2.2⟩)
   · rw [H6 h3] at h
     by_cases h2:t.k=2
     · exact .inr (.inr h2)
     · rw [H6 h2] at h; simp at h
theorem dc {t a:Tm} (h:t.areN=true) (ha:a∈t.as):a.areN=true:=by
 rw [Tm.areN_eq,B4,Tm.areNL_all,C6] at h;exact h.2 a ha
theorem Iu {ops:List OpM} {vs:List VS} {l:List Bnd} (hA:sr ops vs l):∀ t,t.areN=true->au ops vs t≠e0->au ops [] (aS l t)=au ops vs t:=Tm.ind fun t ih hn hs=>by
 rcases cr hn with ⟨h1,ha⟩|⟨h3,_,ha⟩ | h2
 · have e:au ops vs t=xi vs t.s:=by rw [cf,H6 (by omega),H5 h1]
   rw [e] at hs ⊢;rw [xl] at hs ⊢;cases hv:dv vs t.s with
   | none=>rw [hv] at hs; exact absurd rfl hs
   | some v =>
    obtain ⟨w,hb,hw⟩:=hA.some hv;rw [dk,H5 h1,hb];exact hw
 · rw [dk,H6 (by omega)]
   rw [cf,cf ops vs,H5 (show (Tm.mk t.k t.n t.s _).k=3 from h3),H5 h3]
 · obtain ⟨o,hf,hl,hss,e⟩:=ez h2 hs
   rw [dk,H6 (by omega),e]
   have key:∀ (ts:List Tm) (xs:List ByteArray),(∀ a∈ts,a∈t.as)->bo ops vs ts xs=true->bo ops [] (ts.map (aS l)) xs=true:=by
    intro ts;induction ts with
    | nil=>intro xs _ _; rfl
    | cons a ts ihs =>
     intro xs hts h;cases xs with
     | nil=>rfl
     | cons y xs =>
      simp only [bo,B4,C5,decide_eq_false_iff_not,decide_eq_true_eq] at h;have q:=ih a (hts a (B5 ..)) (dc hn (hts a (B5 ..))) h.1.1;simp only [C0,bo,B4,C5,decide_eq_false_iff_not,decide_eq_true_eq,q];exact ⟨h.1,ihs xs (fun z hz=>hts z (B6 _ hz)) h.2⟩
   exact io (t:=.mk t.k t.n t.s (t.as.map (aS l))) h2 hf (by simpa [Tm.as] using hl) (key _ _ (fun _ h=>h) hss)
theorem zx (ops:List OpM) (vs:List VS):∀ t,t.areN=true->au ops vs t≠e0->au ops vs (rW t)=au ops vs t:=Tm.ind fun t ih hn hs=>by
 have plain:au ops vs (.mk t.k t.n t.s (t.as.map rW))=au ops vs t:=by
  rcases cr hn with ⟨h1,ha⟩|⟨h3,_,ha⟩ | h2
  · rw [cf,cf ops vs t,H6 (show ¬(Tm.mk t.k t.n t.s _).k=3 by show ¬ t.k=3; omega),H5 (show (Tm.mk t.k t.n t.s _).k=1 from h1),H6 (by omega),H5 h1]; rfl
  · rw [cf,cf ops vs t,H5 (show (Tm.mk t.k t.n t.s _).k=3 from h3),H5 h3]
  · obtain ⟨o,hf,hl,hss,e⟩:=ez h2 hs
    rw [e];have key:∀ (ts:List Tm) (xs:List ByteArray),(∀ a∈ts,a∈t.as)->bo ops vs ts xs=true->bo ops vs (ts.map rW) xs=true:=by
     intro ts;induction ts with
     | nil=>intro xs _ _; rfl
     | cons a ts ihs =>
      intro xs hts h;cases xs with
      | nil=>rfl
      | cons y xs =>
       simp only [bo,B4,C5,decide_eq_false_iff_not,decide_eq_true_eq] at h;have q:=ih a (hts a (B5 ..)) (dc hn (hts a (B5 ..))) h.1.1;simp only [C0,bo,B4,C5,decide_eq_false_iff_not,decide_eq_true_eq,q];exact ⟨h.1,ihs xs (fun z hz=>hts z (B6 _ hz)) h.2⟩
    exact io (t:=.mk t.k t.n t.s (t.as.map rW)) h2 hf (by simpa [Tm.as] using hl) (key _ _ (fun _ h=>h) hss)
 rw [ou];unfold rW1;split
 · rename_i x y hxy
   split
   · rename_i hc
     obtain ⟨hk,_,hB,_,_⟩:=hc;obtain ⟨o,hf,_,_,e⟩:=ez hk hs;rw [e];unfold gf at hf;rw [H5 hB] at hf;simp only [B7.injEq] at hf;subst hf;rw [cf]; rfl
   · exact plain
 · exact plain
end Go.Q
end
section
/- qu terms stay good along a step. -/
namespace Go.Q
open Go
theorem Mr {s:ByteArray} {x y:Tm} (hx:isW x=true) (hy:isW y=true):0<=cmp s x.n y.n/\cmp s x.n y.n<4:=by
 simp only [isW,B4,decide_eq_true_eq] at hx hy;obtain ⟨_,a1,a2,_⟩:=hx;obtain ⟨_,b1,b2,_⟩:=hy;unfold cmp;split
 · exact ⟨K7 4 (by omega),J3 _ (by decide)⟩
 · split
   · exact ⟨K7 4 (by omega),J3 _ (by decide)⟩
   · exact ⟨K7 4 (Int.mul_nonneg a1 b1),J3 _ (by decide)⟩
theorem Tm.n_mk (k n:Int) (s:ByteArray) (as:List Tm):(Tm.mk k n s as).n=n:=rfl
theorem vg {t:Tm} (h:t.areN=true) {as:List Tm} (hl:as.length=t.as.length) (ha:∀ a∈as,a.areN=true):(Tm.mk t.k t.n t.s as).areN=true:=by
 rw [Tm.areN_eq,B4] at h ⊢;refine ⟨?_,by rw [Tm.areNL_all,C6]; exact ha⟩
 have h:=h.1;unfold Tm.nodeN isW at h ⊢;simp only [Tm.k_mk,Tm.n_mk,Tm.s_mk,Tm.as_mk,hl];exact h
theorem zy {l:List Bnd} (hl:∀ b∈l,b.2.areN=true):∀ t,t.areN=true->(aS l t).areN=true:=Tm.ind fun t ih h=>by
 rw [dk];split
 · rename_i u hu
   split at hu
   · obtain ⟨b,h1,rfl⟩:=eg hu; exact hl b h1
   · simp at hu
 · exact vg h (by simp) fun a ha=>by
    obtain ⟨x,hx,rfl⟩:=D0.1 ha;exact ih x hx (dc h hx)
theorem Iv:∀ t,t.areN=true->(rW t).areN=true:=Tm.ind fun t ih h=>by
 have plain:(Tm.mk t.k t.n t.s (t.as.map rW)).areN=true:=vg h (by simp) fun a ha=>by
  obtain ⟨x,hx,rfl⟩:=D0.1 ha;exact ih x hx (dc h hx)
 rw [ou];unfold rW1;split
 · rename_i x y hxy
   split
   · rename_i hc
     obtain ⟨c1,c2⟩:=Mr (s:=t.s) hc.2.2.2.1 hc.2.2.2.2;rw [Tm.areN_eq];unfold Tm.nodeN isW;simp only [Tm.k_mk,Tm.n_mk,Tm.s_mk,Tm.as_mk];simp [Tm.areNL,c1,c2]
   · exact plain
 · exact plain
theorem Eh {t:Tm} (h:Wt t) {as:List Tm} (hl:as.length=t.as.length) (ha:∀ a∈as,Wt a):Wt (.mk t.k t.n t.s as):=.mk h.k h.n h.s (by rw [Tm.as_mk,hl]; exact h.l) ha
theorem Lt {l:List Bnd} (hl:∀ b∈l,Wt b.2):∀ t,Wt t->Wt (aS l t):=Tm.ind fun t ih h=>by
 rw [dk];split
 · rename_i u hu
   split at hu
   · obtain ⟨b,h1,rfl⟩:=eg hu; exact hl b h1
   · simp at hu
 · exact Eh h (by simp) fun a ha=>by
    obtain ⟨x,hx,rfl⟩:=D0.1 ha;exact ih x hx (h.sub hx)
theorem Lu:∀ t,Wt t->Wt (rW t):=Tm.ind fun t ih h=>by
 have plain:Wt (Tm.mk t.k t.n t.s (t.as.map rW)):=Eh h (by simp) fun a ha=>by
  obtain ⟨x,hx,rfl⟩:=D0.1 ha;exact ih x hx (h.sub hx)
 rw [ou];unfold rW1;split
 · rename_i x y hxy
   split
   · rename_i hc
     exact .mk (show S.i64ok 3 from S.i64ok_of (by decide) (by decide)) (S.cmp_ok hc.2.2.2.1 hc.2.2.2.2) (show (⟨#[]⟩:ByteArray).size<=maxLen by decide) (Nat.zero_le _) (by intro a ha; rw [Tm.as_mk] at ha; simp at ha)
   · exact plain
 · exact plain
theorem Iw {xs:List Tm} {f g:Tm->Nat} {m:Nat} (h:∀ x∈xs,f x<=m*g x):(xs.map f).sum<=m*(xs.map g).sum:=by
 induction xs with
 | nil=>simp
 | cons x xs ih =>
  have h1:=h x (B5 ..);have h2:=ih fun y hy=>h y (B6 _ hy)
  simp only [C0,J2,Nat.mul_add]; omega
theorem Bt {l:List Bnd} {m:Nat} (hm:1<=m) (hl:∀ b∈l,b.2.nodes<=m):∀ t,(aS l t).nodes<=m*t.nodes:=Tm.ind fun t ih=>by
 rw [dk];have h1:=Tm.nodes_eq t;split
 · rename_i u hu
   split at hu
   · obtain ⟨b,hb,rfl⟩:=eg hu
     have:=hl b hb;rw [h1,Nat.mul_add]; omega
   · simp at hu
 · rw [Tm.nodes_eq]
   simp only [Tm.as_mk,G5];have:=Iw (xs:=t.as) (f:=Tm.nodes ∘ aS l) (g:=Tm.nodes) ih;rw [h1,Nat.mul_add]; omega
structure Gt (ops:List OpM) (t:Tm):Prop where
 w:Wt t
 n:t.areN=true
 s:au ops [] t≠e0
theorem Gt.arr {ops:List OpM} {t:Tm} (h:Gt ops t) (hk:t.k=2):∃ o,gf ops t.s=some o/\o.a.length=t.as.length/\bo ops [] t.as o.a=true/\au ops [] t=o.r:=ez hk h.s
theorem Gt.sub {ops:List OpM} {t a:Tm} (h:Gt ops t) (ha:a∈t.as):Gt ops a:=by
 refine ⟨h.w.sub ha,dc h.n ha,?_⟩;rcases cr h.n with ⟨_,q⟩|⟨_,_,q⟩ | h2
 · rw [q] at ha; simp at ha
 · rw [q] at ha; simp at ha
 · obtain ⟨o,_,hl,hs,_⟩:=h.arr h2
   exact jx ops [] t.as o.a (by omega) hs a ha
structure RuG (ops:List OpM) (r:RuM):Prop where
 b:RuB r
 lv:r.l.valid=true
 lk:r.l.k=2
 rv:r.r.valid=true
 gl:∀ g∈r.g,g.l.valid=true/\g.r.valid=true
 inf:∃ o vs,gf ops r.l.s=some o/\Bs ops r.l o.r=some vs/\au ops vs r.r=o.r
theorem Ms {ops:List OpM} {r:RuM} (hb:RuB r) (h:xj ops r=true):RuG ops r:=by
 unfold xj at h;simp only [B4,decide_eq_true_eq] at h;obtain ⟨_,h1,h2,_,h3,h4⟩:=h;cases hf:gf ops r.l.s with
 | none=>rw [hf] at h4; simp at h4
 | some o =>
  rw [hf] at h4;simp only at h4;cases hi:Bs ops r.l o.r with
  | none=>rw [hi] at h4; simp at h4
  | some vs =>
   rw [hi] at h4;simp only [B4,decide_eq_true_eq,Ef,C6] at h4;refine ⟨hb,h1,h2,h3,fun g hg=>?_,o,vs,hf,hi,h4.1⟩
   have:=h4.2.2.1 g hg;simp only [Nx,B4] at this;exact ⟨this.2.1,this.2.2.1⟩
theorem gg {t:Tm} (h:t.valid=true):t.nodes<=60:=by
 simp only [Tm.valid,B4,decide_eq_true_eq] at h; exact h.1
def atT:Tm->List Int->Option Tm
 | t,[]=>some t
 | t,i::p=>if h:i.toNat<t.as.length then (if 0<=i then atT t.as[i.toNat] p else none) else none
def kd:Tm->List Int->Tm->Tm
 | _,[],w=>w
 | t,i::p,w=>if h:i.toNat<t.as.length then .mk t.k t.n t.s (t.as.set i.toNat (kd t.as[i.toNat] p w)) else t
theorem de {t u:Tm} {i:Int} {p:List Int} (h:atT t (i::p)=some u):∃ hi:i.toNat<t.as.length,0<=i/\atT t.as[i.toNat] p=some u:=by
 simp only [atT] at h;split at h
 · rename_i hi
   split at h
   · exact ⟨hi,by assumption,h⟩
   · simp at h
 · simp at h
theorem qx {ops:List OpM} {vs:List VS}:∀ (l:List Tm) (xs:List ByteArray) (i:Nat) (hi:i<l.length) (x:Tm),au ops vs x=au ops vs l[i]->bo ops vs (l.set i x) xs=bo ops vs l xs
 | [],_,i,hi,_,_=>by simp at hi
 | a::l,xs,0,hi,x,h=>by
  cases xs with
  | nil=>rfl
  | cons y xs =>
   simp only [List.getElem_cons_zero] at h;simp only [List.set_cons_zero,bo,h]
 | a::l,xs,i+1,hi,x,h=>by
  cases xs with
  | nil=>rfl
  | cons y xs =>
   simp only [List.getElem_cons_succ] at h;simp only [O4,bo];rw [qx l xs i (by simpa using hi) x h]
theorem ng:∀ (p:List Int) (t u:Tm),atT t p=some u->u.nodes+p.length<=t.nodes
 | [],t,u,h=>by simp only [atT,B7.injEq] at h; subst h; simp
 | i::p,t,u,h=>by
  obtain ⟨hi,h0,h1⟩:=de h;have h2:=ng p _ u h1;have:=ve (f:=Tm.nodes) (F7 hi);have:=Tm.nodes_eq t;simp only [E8]; omega
theorem zz:∀ (l:List Tm) (i:Nat) (hi:i<l.length) (x:Tm),((l.set i x).map Tm.nodes).sum<=(l.map Tm.nodes).sum+x.nodes
 | [],i,hi,_=>by simp at hi
 | a::l,0,hi,x=>by simp only [List.set_cons_zero,C0,J2]; omega
 | a::l,i+1,hi,x=>by
  have:=zz l i (by simpa using hi) x
  simp only [O4,C0,J2]; omega
theorem su (w:Tm):∀ (p:List Int) (t:Tm),(kd t p w).nodes<=t.nodes*(p.length+1)+w.nodes
 | [],t=>by simp [kd]
 | i::p,t=>by
  simp only [kd];split
  · rename_i hi
    have h1:=su w p t.as[i.toNat];have h2:=zz t.as i.toNat hi (kd t.as[i.toNat] p w);have h3:=ve (f:=Tm.nodes) (F7 hi);have h4:=Tm.nodes_eq t;rw [Tm.nodes_eq,Tm.as_mk];have h5:t.as[i.toNat].nodes*(p.length+1)<=t.nodes*(p.length+1):=Nat.mul_le_mul_right _ (by omega)
    have h6:t.nodes*((i::p).length+1)=t.nodes*(p.length+1)+t.nodes:=by rw [E8,Nat.mul_add _ _ 1,Nat.mul_one]
    omega
  · have:t.nodes<=t.nodes*((i::p).length+1):=Nat.le_mul_of_pos_right _ (by simp)
    omega
theorem Aa {P:Tm->Prop} (hP:∀ t a,P t->a∈t.as->P a):∀ (p:List Int) (t u:Tm),P t->atT t p=some u->P u
 | [],t,u,ht,h=>by simp only [atT,B7.injEq] at h; subst h; exact ht
 | i::p,t,u,ht,h=>by
  obtain ⟨hi,h0,h1⟩:=de h;exact Aa hP p _ u (hP t _ ht (F7 hi)) h1
def Nz (st:List StM) (s:ByteArray):List Int:=(st.filter fun x=>decide (x.o=s)).map (·.a)
def stL (st:List StM) (t:Tm):List Int:=if t.k=2 then Nz st t.s else []
noncomputable def xm (ru:List RuM) (u:Tm):Option Nat:=ru.findIdx? fun r=>(sn r u).isSome
def Ab (l:List Int) (rs:List (Option (Nat×List Int))):Option (Nat×List Int):=l.findSome? fun i=>if 0<=i then (match rs[i.toNat]? with | some (some x)=>some (x.1,i::x.2) | _=>none) else none
mutual
noncomputable def nx (d:DfM):Tm->Option (Nat×List Int)
 | .mk k n s as=>match Ab (if k=2 then Nz d.st s else []) (nxs d as) with
  | some x=>some x
  | none=>(xm d.ru (.mk k n s as)).map fun i=>(i,[])
noncomputable def nxs (d:DfM):List Tm->List (Option (Nat×List Int))
 | []=>[]
 | t::ts=>nx d t::nxs d ts
end
theorem Ac (d:DfM):∀ ts,nxs d ts=ts.map (nx d)
 | []=>by simp only [nxs,List.map_nil]
 | t::ts=>by simp only [nxs,C0,Ac d ts]
theorem Oa (d:DfM) (t:Tm):nx d t=match Ab (stL d.st t) (t.as.map (nx d)) with
 | some x=>some x
 | none=>(xm d.ru t).map fun i=>(i,[]):=by
 cases t
 simp only [nx,Ac,stL,Tm.k,Tm.s,Tm.as]; rfl
theorem Bu {ru:List RuM} {u:Tm} {i:Nat} (h:xm ru u=some i):∃ r w,ru[i]?=some r/\sn r u=some w:=by
 unfold xm at h;rw [List.findIdx?_eq_some_iff_getElem] at h;obtain ⟨hi,h1,_⟩:=h;cases hf:sn ru[i] u with
 | none=>rw [hf] at h1; simp at h1
 | some w=>exact ⟨ru[i],w,by simp [hi],hf⟩
theorem Ad (d:DfM):∀ t i p,nx d t=some (i,p)->∃ u r w,atT t p=some u/\d.ru[i]?=some r/\sn r u=some w:=Tm.ind fun t ih i p h=>by
 rw [Oa] at h;cases hp:Ab (stL d.st t) (t.as.map (nx d)) with
 | some x =>
  rw [hp] at h;simp only [B7.injEq] at h;subst h;unfold Ab at hp;obtain ⟨j,hj,h1⟩:=List.exists_of_findSome?_eq_some hp;split at h1
  · rename_i h0
    split at h1
    · rename_i y hy
      simp only [B7.injEq,C8.injEq] at h1;obtain ⟨e1,e2⟩:=h1;subst e1; subst e2;rw [List.getElem?_map] at hy;cases hg:t.as[j.toNat]? with
      | none=>rw [hg] at hy; simp at hy
      | some a =>
       rw [hg] at hy;simp only [O3,B7.injEq] at hy;obtain ⟨hlt,he⟩:=B9.1 hg;obtain ⟨u,r,w,q1,q2,q3⟩:=ih a (he▸F7 hlt) y.1 y.2 hy;refine ⟨u,r,w,?_,q2,q3⟩;simp only [atT,dif_pos hlt,H5 h0,he];exact q1
    · simp at h1
  · simp at h1
 | none =>
  rw [hp] at h;simp only at h;cases hr:xm d.ru t with
  | none=>rw [hr] at h; simp at h
  | some j =>
   rw [hr] at h;simp only [O3,B7.injEq,C8.injEq] at h;obtain ⟨e1,e2⟩:=h;subst e1; subst e2;obtain ⟨r,w,q1,q2⟩:=Bu hr;exact ⟨t,r,w,rfl,q1,q2⟩
noncomputable def sv (d:DfM) (t:Tm) (i:Nat) (p:List Int):Tm:=match atT t p,d.ru[i]? with
 | some u,some r=>(match sn r u with | some w=>kd t p w | none=>t)
 | _,_=>t
structure Mt where
 o:Int
 t:Tm
 st:List Tm
 rd:List (Nat×List Int)
noncomputable def Ei (d:DfM):Nat->Tm->Mt
 | 0,t=>match nx d t with
  | none=>⟨1,t,[],[]⟩
  | some _=>⟨2,t,[],[]⟩
 | n+1,t=>match nx d t with
  | none=>⟨1,t,[],[]⟩
  | some (i,p)=>if (sv d t i p).valid=true then ⟨(Ei d n (sv d t i p)).o,(Ei d n (sv d t i p)).t,sv d t i p::(Ei d n (sv d t i p)).st,(i,p)::(Ei d n (sv d t i p)).rd⟩ else ⟨3,t,[],[]⟩
structure DfG (d:DfM):Prop where
 b:DfB d
 v:d.valid=true
theorem DfG.ru {d:DfM} (h:DfG d) {r:RuM} (hr:r∈d.ru):RuG d.op r:=by
 have:=h.v;simp only [DfM.valid,B4,C6] at this;exact Ms (h.b.rua r hr) (this.2.2.2.1 r hr)
theorem sw (ops:List OpM):∀ (l pre:List StM),zw ops pre l=true->∀ x∈l,Mq ops x=true
 | [],_,_,x,hx=>by simp at hx
 | y::l,pre,h,x,hx=>by
  simp only [zw,B4] at h;rcases C1.1 hx with e | hx
  · exact e▸h.1
  · exact sw ops l _ h.2.2 x hx
theorem DfG.st {d:DfM} (h:DfG d) {x:StM} (hx:x∈d.st):Mq d.op x=true:=by
 have:=h.v;simp only [DfM.valid,B4] at this;exact sw d.op d.st [] this.2.2.2.2.1 x hx
end Go.Q
end
section
namespace Go.Q
open Go
end Go.Q
namespace Go.Q
open Go
end Go.Q
end
section
namespace Go.Q
open Go
noncomputable def cfg (d:DfM) (t:Tm):Bool:=d.valid&&(t.valid&&(isG t&&!decide (au d.op [] t=e0)))
theorem Mu {d:DfM} {t:Tm} (hb:DfB d) (hw:Wt t) (h:cfg d t=true):DfG d/\Gt d.op t/\t.nodes<=60:=by
 simp only [cfg,B4,C5,decide_eq_false_iff_not] at h;exact ⟨⟨hb,h.1⟩,⟨hw,ei h.2.1,h.2.2.2⟩,gg h.2.1⟩
def Ob (x:Nat×List Int):List D:=[.int (x.1:Int),.sl (x.2.map Io)]
noncomputable def Oo (d:DfM) (t:Tm) (f:Int):Option Mt:=if 0<=f/\f<=200/\cfg d t=true then some (Ei d f.toNat t) else none
end Go.Q
namespace Go.Q
open Go
end Go.Q
end
section
namespace Go.Q
open Go
end Go.Q
namespace Go.Q
open Go
theorem wt0:Wt tm0:=.mk (S.i64ok_of (by decide) (by decide)) (S.i64ok_of (by decide) (by decide)) (by decide) (by decide) (by intro a ha; simp [tm0,Tm.as] at ha)
end Go.Q
end
section
/- Translations,instances that are configurations,refutations. -/
namespace Go.Q
open Go
theorem nj {f:Tm->Tm}:∀ (l:List Tm),(∀ a∈l,(f a).depth<=a.depth)->Tm.depthL (l.map f)<=Tm.depthL l
 | [],_=>Nat.le_refl _
 | a::l,h=>by
  have h1:=h a (B5 ..);have h2:=nj l fun b hb=>h b (B6 _ hb)
  simp only [C0,Tm.depthL]; omega
theorem Ej {l:List Bnd} (hl:∀ b∈l,b.2.depth=1):∀ t,(aS l t).depth<=t.depth:=Tm.ind fun t ih=>by
 rw [dk];have h1:=Tm.depth_eq t;split
 · rename_i u hu
   split at hu
   · obtain ⟨b,hb,rfl⟩:=eg hu
     rw [hl b hb]; omega
   · simp at hu
 · rw [Tm.depth_eq,Tm.as_mk]
   have:=nj t.as ih;omega
theorem Ek:∀ t,(rW t).depth<=t.depth:=Tm.ind fun t ih=>by
 have h1:=Tm.depth_eq t;have plain:(Tm.mk t.k t.n t.s (t.as.map rW)).depth<=t.depth:=by
  rw [Tm.depth_eq,Tm.as_mk];have:=nj t.as ih;omega
 rw [ou];unfold rW1;split
 · rename_i x y hxy
   split
   · rw [Tm.depth_eq,Tm.as_mk]; simp only [Tm.depthL]; omega
   · exact plain
 · exact plain
theorem xn {n:Nat} {c:Int} (h:isC n c=true):(vals n c).length=n:=by
 have h3:=(yz h).1;unfold vals;rw [H5 h]
 match n,h3 with
 | 0,_=>rfl
 | 1,_=>rfl
 | 2,_=>rfl
 | 3,_=>rfl
theorem El {n:Nat} {c:Int} (h:isC n c=true):∀ x∈vals n c,0<=x/\x<4:=fun x hx=>by
 obtain ⟨h3,h0,_⟩:=yz h;have hm:∀ a:Int,0<=a->0<=a.tmod 4/\a.tmod 4<4:=fun a ha=>⟨K7 4 ha,J3 _ (by decide)⟩
 have hd:∀ a:Int,0<=a->0<=a.tdiv 4:=fun a ha=>Int.tdiv_nonneg ha (by decide)
 unfold vals at hx;rw [H5 h] at hx
 match n,h3 with
 | 0,_=>simp at hx
 | 1,_ =>
  simp only [E1] at hx;subst hx; exact hm _ h0
 | 2,_ =>
  simp only [C1,J4,or_false] at hx;rcases hx with e | e
  · subst e; exact hm _ (hd _ h0)
  · subst e; exact hm _ h0
 | 3,_ =>
  simp only [C1,J4,or_false] at hx;rcases hx with e | e | e
  · subst e; exact hm _ (hd _ (hd _ h0))
  · subst e; exact hm _ (hd _ h0)
  · subst e; exact hm _ h0
theorem Bv (ops:List OpM) (n:Int):au ops [] (word n)=jl:=by unfold word; rw [cf]; rfl
theorem sx (ops:List OpM):∀ (vars:List ByteArray) (vs:List Int),vs.length=vars.length->sr ops (wv vars) ((vars.zip vs).map fun p=>(p.1,word p.2))
 | [],[],_=>by
  intro s; simp [wv,dv,bnd]
 | [],_::_,h=>by simp at h
 | _::_,[],h=>by simp at h
 | x::vars,v::vs,h=>by
  have ih:=sx ops vars vs (by simpa using h)
  intro s;have hs:=ih s;unfold wv dv at hs ⊢;simp only [C0,List.zip_cons_cons,List.find?_cons,bnd];by_cases e:x=s
  · simp only [e,H3,if_true]
    exact Bv ops v
  · simp only [e,H4,if_false]
    exact hs
theorem Ae:∀ (vars:List ByteArray) (vs:List Int) (s:ByteArray),vs.length=vars.length->s∈vars->∃ n∈vs,bnd ((vars.zip vs).map fun p=>(p.1,word p.2)) s=some (word n)
 | [],_,s,_,h=>by simp at h
 | _::_,[],_,h,_=>by simp at h
 | x::vars,v::vs,s,h,hs=>by
  simp only [List.zip_cons_cons,C0,bnd];by_cases e:x=s
  · exact ⟨v,B5 ..,by rw [H5 e]⟩
  · rw [H6 e]
    obtain ⟨n,h1,h2⟩:=Ae vars vs s (by simpa using h) (by
     rcases C1.1 hs with q | q
     · exact absurd q.symm e
     · exact q)
    exact ⟨n,B6 _ h1,h2⟩
theorem Bw {l:List Bnd} (hg:∀ b∈l,b.2.names=[]):∀ t,(∀ s∈t.names,bnd l s≠none)->(aS l t).names=[]:=Tm.ind fun t ih h=>by
 rw [Tm.names_eq] at h;rw [dk];by_cases hk:t.k=1
 · rw [H5 hk] at h ⊢
   cases hb:bnd l t.s with
   | some v =>
    obtain ⟨b,h1,rfl⟩:=eg hb;exact hg b h1
   | none=>exact absurd hb (h t.s (by simp))
 · rw [H6 hk] at h ⊢
   simp only;rw [Tm.names_eq,Tm.k_mk,Tm.as_mk,H6 hk,G6,List.flatMap_map];rw [qt (g:=fun _=>[]) fun a ha=>ih a ha fun s hs=>h s (B8.2 (.inr (E4.2 ⟨a,ha,hs⟩)))]
   induction t.as with
   | nil=>rfl
   | cons a l ih=>rw [N3,ih]; rfl
theorem Em {d:DfM} {vars:List ByteArray} {t:Tm} (hs:qw d vars t=true) {c:Int} (hc:isC vars.length c=true):cfg d (gi vars t c)=true:=by
 simp only [qw,B4,C5,decide_eq_false_iff_not] at hs;obtain ⟨hv,_,_,_,htv,hwi,hso⟩:=hs;have hlen:=xn hc;have hA:=sx d.op vars (vals vars.length c) hlen;have htn:=ei htv;have hw:∀ b∈ey vars c,b.2.areN=true/\(b.2.names=[]/\(b.2.depth=1/\b.2.nodes=1)):=fun b hb=>by
  unfold ey at hb;simp only [D0] at hb;obtain ⟨p,hp,rfl⟩:=hb;obtain ⟨v1,v2⟩:=El hc _ (List.of_mem_zip hp).2;refine ⟨?_,rfl,rfl,rfl⟩;show (word p.2).areN=true
  unfold word;rw [Tm.areN_eq];unfold Tm.nodeN isW;simp only [Tm.k_mk,Tm.n_mk,Tm.s_mk,Tm.as_mk];simp [Tm.areNL,v1,v2]
 have hn1:=zy (fun b hb=>(hw b hb).1) t htn
 have hs1:au d.op [] (aS (ey vars c) t)=au d.op (wv vars) t:=Iu hA t htn hso;have hs2:au d.op [] (gi vars t c)=au d.op (wv vars) t:=by unfold gi; rw [zx d.op [] _ hn1 (by rw [hs1]; exact hso),hs1]
 simp only [cfg,B4,C5,decide_eq_false_iff_not];refine ⟨hv,?_,?_,by rw [hs2]; exact hso⟩
 · simp only [Tm.valid,B4,decide_eq_true_eq] at htv ⊢
   have a1:=Eb (fun b hb=>(hw b hb).2.2.2) t
   have a2:=xg (aS (ey vars c) t);have a3:=Ej (fun b hb=>(hw b hb).2.2.1) t
   have a4:=Ek (aS (ey vars c) t);exact ⟨by unfold gi; omega,by unfold gi; omega,Iv _ hn1⟩
 · unfold isG gi
   rw [xh,Bw (fun b hb=>(hw b hb).2.1) t fun s hs=>by
    obtain ⟨n,_,e⟩:=Ae vars (vals vars.length c) s hlen (il.1 hwi s hs);show bnd (ey vars c) s≠none
    unfold ey;rw [e]; simp]
   rfl
theorem Ix {vars:List ByteArray} {t:Tm} {c:Int} (h:isC vars.length c=true):S.instR vars t c=gi vars t c:=by unfold S.instR; rw [H5 h]
end Go.Q
namespace Go.Q
open Go
theorem Iy {n:Int} (h0:0<=n) (h1:n<4):Wt (word n):=.mk (S.i64ok_of (by show _<=(3:Int); decide) (by show (3:Int)<=_; decide)) (S.i64ok_of (by show _<=n; omega) (by show n<=_; omega)) (by show (⟨#[]⟩:ByteArray).size<=maxLen; decide) (Nat.zero_le _) (by intro a ha; simp [word,Tm.as] at ha)
theorem Eo {vars:List ByteArray} {t:Tm} (h:Wt t) (c:Int):Wt (S.instR vars t c):=by
 unfold S.instR;split
 · rename_i hc
   refine Lu _ (Lt (fun b hb=>?_) t h)
   unfold ey at hb;simp only [D0] at hb;obtain ⟨p,hp,rfl⟩:=hb;obtain ⟨v1,v2⟩:=El hc _ (List.of_mem_zip hp).2;exact Iy v1 v2
 · exact wt0
end Go.Q
end
section
/- Symbolic terms with cases; comparison. -/
namespace Go.Q
open Go
def kz (n:Nat):Option Int->List Int->Bool
 | _,[]=>true
 | p,c::r=>isC n c&&((match p with | some q=>!decide (c<=q) | none=>true)&&kz n (some c) r)
theorem xo {n:Nat}:∀ (cs:List Int) (p:Option Int),kz n p cs=true->∀ c∈cs,isC n c=true
 | [],_,_,c,hc=>by simp at hc
 | x::r,p,h,c,hc=>by
  simp only [kz,B4] at h;rcases C1.1 hc with e | hc
  · subst e; exact h.1
  · exact xo r _ h.2.2 c hc
structure SyM where
 d:DfM
 v:List ByteArray
 t:Tm
 c:List Int
def SyM.row (s:SyM):List D:=[.sl (s.d.so.map Bp),.sl (s.d.op.map OpM.row),.sl (s.d.ru.map RuM.row),.sl (s.d.st.map StM.row),.sl (s.v.map Bp),.int s.t.k,.int s.t.n,.str s.t.s,.sl (s.t.as.map Tm.row),.sl (s.c.map Io)]
end Go.Q
end
section
/- Places of terms,steps of symbolic terms,branches. -/
namespace Go.Q
open Go
def atO (t:Tm) (p:List Int):Tm:=(atT t p).getD tm0
theorem ne:tm0.nodes=1:=by rw [Tm.nodes_eq]; rfl
theorem sy (t:Tm) (p:List Int) {m:Nat} (hm:1<=m) (h:t.nodes<=m):(atO t p).nodes<=m:=by
 unfold atO;cases ha:atT t p with
 | none=>rw [Option.getD_none,ne]; exact hm
 | some u=>have:=ng p t u ha; rw [Option.getD_some]; omega
theorem Ep {t:Tm} (h:Wt t) (p:List Int):Wt (atO t p):=by
 unfold atO;cases ha:atT t p with
 | none=>exact wt0
 | some u=>exact Aa (fun t a h ha=>h.sub ha) p t u h ha
theorem Er {w:Tm} (hw:Wt w):∀ (p:List Int) (t:Tm),Wt t->Wt (kd t p w)
 | [],t,_=>hw
 | i::p,t,h=>by
  simp only [kd];split
  · rename_i hi
    refine Eh h (by simp) fun a ha=>?_
    rcases K5 ha with q | q
    · exact h.sub q
    · exact q▸Er hw p _ (h.sub (F7 hi))
  · exact h
mutual
def za:Tm->List Int->List (List Int)
 | .mk _ _ _ as,p=>p::By as p 0
def By:List Tm->List Int->Nat->List (List Int)
 | [],_,_=>[]
 | a::r,p,i=>za a (p++[(i:Int)])++By r p (i+1)
end
theorem vh (t:Tm) (p:List Int):za t p=p::By t.as p 0:=by cases t; simp only [za,Tm.as]
def cB1 (l u:Tm) (p:List Int):Option Bnd:=if (atO l p).k=1 then some ((atO l p).s,atO u p) else none
def nk (l u:Tm):List Bnd:=(za l []).filterMap (cB1 l u)
theorem xp {l u:Tm} {P:Tm->Prop} (h:∀ p,P (atO u p)):∀ b∈nk l u,P b.2:=fun b hb=>by
 unfold nk at hb;obtain ⟨p,_,hp⟩:=O5.1 hb;unfold cB1 at hp;split at hp
 · simp only [B7.injEq] at hp; subst hp; exact h p
 · simp at hp
theorem Lw {t:Tm} {i:Nat} (h:i<(rW t).as.length):∃ hi:i<t.as.length,(rW t).as[i]=rW t.as[i]:=by
 have key:(rW t).as=[]\/(rW t).as=t.as.map rW:=by
  rw [ou];unfold rW1;split
  · split
    · exact .inl rfl
    · rename_i hxy _; rw [Tm.as_mk,hxy]; exact .inr rfl
  · exact .inr rfl
 rcases key with e | e
 · rw [e] at h; simp at h
 · have hi:i<t.as.length:=by rw [e] at h; simpa using h
   refine ⟨hi,?_⟩;simp only [e,List.getElem_map]
theorem Af {l:List Bnd} (hl:∀ b∈l,b.2.as=[]):∀ (p:List Int) (t u:Tm),atT (rW (aS l t)) p=some u->∃ v,atT t p=some v
 | [],t,u,h=>⟨t,rfl⟩
 | i::p,t,u,h=>by
  obtain ⟨hi,h0,h1⟩:=de h;obtain ⟨hi2,e2⟩:=Lw hi;have key:∃ hi3:i.toNat<t.as.length,(aS l t).as[i.toNat]=aS l t.as[i.toNat]:=by
   have hc:(aS l t).as=[]\/(aS l t).as=t.as.map (aS l):=by
    rw [dk];split
    · rename_i v hv
      split at hv
      · obtain ⟨b,hb,rfl⟩:=eg hv; exact .inl (hl b hb)
      · simp at hv
    · exact .inr rfl
   rcases hc with e | e
   · rw [e] at hi2; simp at hi2
   · have hi3:i.toNat<t.as.length:=by rw [e] at hi2; simpa using hi2
     exact ⟨hi3,by simp only [e,List.getElem_map]⟩
  obtain ⟨hi3,e3⟩:=key;rw [e2,e3] at h1;obtain ⟨v,hv⟩:=Af hl p _ u h1;exact ⟨v,by simp only [atT,dif_pos hi3,H5 h0]; exact hv⟩
theorem xq (vars:List ByteArray) (c:Int):∀ b∈ey vars c,b.2.as=[]:=fun b hb=>by
 unfold ey at hb;simp only [D0] at hb;obtain ⟨p,_,rfl⟩:=hb;rfl
def ke (d:DfM) (t:Tm) (x:Nat×List Int):Tm:=match d.ru[x.1]? with
 | some r=>rW (kd t x.2 (aS (nk r.l (atO t x.2)) r.r))
 | none=>tm0
abbrev Bk:=Option (Nat×List Int)
def bK (d:DfM) (t:Tm):Bk->Int
 | none=>1
 | some y=>if (ke d t y).valid=true then 2 else 3
def bT (d:DfM) (t:Tm):Bk->Tm
 | none=>t
 | some y=>if (ke d t y).valid=true then ke d t y else tm0
def Oq (out:List (Bk×List Int)) (x:Bk):Option Nat:=out.findIdx? fun b=>decide (b.1=x)
def Mv (out:List (Bk×List Int)) (x:Bk) (c:Int):List (Bk×List Int):=match Oq out x with
 | some i=>(match out[i]? with | some b=>out.set i (b.1,b.2++[c]) | none=>out)
 | none=>out++[(x,[c])]
noncomputable def brF (d:DfM) (v:List ByteArray) (t:Tm):List Int->List (Bk×List Int)->List (Bk×List Int)
 | [],out=>out
 | c::r,out=>brF d v t r (Mv out (nx d (gi v t c)) c)
theorem Mw {d:DfM} (hd:DfG d) {t:Tm} (hw:Wt t) (hn:t.nodes<=60) {x:Nat×List Int} (hp:x.2.length<=60):Wt (ke d t x)/\(ke d t x).nodes<=7260:=by
 unfold ke;cases hr:d.ru[x.1]? with
 | none=>exact ⟨wt0,by rw [ne]; decide⟩
 | some r =>
  have hrg:=hd.ru (K9 hr);have a1:=Bt (m:=60) (by decide) (xp (l:=r.l) (P:=fun t=>t.nodes<=60) fun p=>sy (atO t x.2) p (by decide) (sy t x.2 (by decide) hn)) r.r
  have a2:=gg hrg.rv;have a3:=su (aS (nk r.l (atO t x.2)) r.r) x.2 t;have a4:=xg (kd t x.2 (aS (nk r.l (atO t x.2)) r.r));have a5:t.nodes*(x.2.length+1)<=60*61:=Nat.mul_le_mul hn (by omega)
  refine ⟨Lu _ (Er (Lt (xp (P:=Wt) fun p=>Ep (Ep hw x.2) p) r.r hrg.b.wr) x.2 t hw),?_⟩
  simp only;omega
theorem ow {α:Type}:∀ (i:Nat) (x:α) (l:List α),i<l.length->over i [x] l=l.set i x
 | i,x,[],h=>by simp at h
 | 0,x,a::l,_=>by cases l <;> rfl
 | i+1,x,a::l,h=>by simp only [over,O4,ow i x l (by simpa using h)]
structure BkG (d:DfM) (t:Tm) (x:Bk):Prop where
 i:∀ y,x=some y->y.1<d.ru.length/\y.2.length<=60/\∃ u,atT t y.2=some u
theorem Es {d:DfM} {v:List ByteArray} {t:Tm} (hb:DfB d) (hw:Wt t) (hs:qw d v t=true) {c:Int} (hc:isC v.length c=true):DfG d/\t.nodes<=60/\Gt d.op (gi v t c)/\(gi v t c).nodes<=60/\BkG d t (nx d (gi v t c)):=by
 have hwi:Wt (gi v t c):=Ix hc▸Eo hw c;obtain ⟨h1,h2,h3⟩:=Mu hb hwi (Em hs hc);have htn:t.nodes<=60:=by
  simp only [qw,B4] at hs;exact gg hs.2.2.2.2.1
 refine ⟨h1,htn,h2,h3,⟨fun y hy=>?_⟩⟩
 obtain ⟨u,r,w,q1,q2,_⟩:=Ad d (gi v t c) y.1 y.2 hy;have q3:=ng y.2 _ u q1;exact ⟨(B9.1 q2).1,by omega,Af (xq v c) y.2 t u q1⟩
end Go.Q
end
section
/- Branches: bounds of what is answered. -/
namespace Go.Q
open Go
end Go.Q
end
section
/- Symbolic terms stay symbolic along a step. -/
namespace Go.Q
open Go
theorem xr:∀ {l:List Bnd} {s:ByteArray} {w:Tm},bnd l s=some w->(s,w)∈l
 | [],s,w,h=>by simp [bnd] at h
 | b::l,s,w,h=>by
  simp only [bnd] at h;split at h
  · rename_i e
    simp only [B7.injEq] at h;obtain ⟨b1,b2⟩:=b;simp only at e h;subst e; subst h;exact B5 ..
  · exact B6 _ (xr h)
theorem qy:∀ {l:List Bnd} {s:ByteArray} {w:Tm},(s,w)∈l->∃ w',bnd l s=some w'
 | [],s,w,h=>by simp at h
 | b::l,s,w,h=>by
  simp only [bnd];by_cases e:b.1=s
  · exact ⟨b.2,H5 e⟩
  · rw [H6 e]
    rcases C1.1 h with h | h
    · exact absurd (by rw [<- h]) e
    · exact qy h
theorem qz:∀ (as:List Tm) (p:List Int) (i:Nat) (q:List Int),q∈By as p i↔∃ j,∃ h:j<as.length,q∈za as[j] (p++[((i+j:Nat):Int)])
 | [],p,i,q=>by simp [By]
 | a::r,p,i,q=>by
  simp only [By,B8];rw [qz r p (i+1) q];constructor
  · rintro (h | ⟨j,hj,h⟩)
    · exact ⟨0,by simp,by simpa using h⟩
    · exact ⟨j+1,by simpa using hj,by rw [show i+(j+1)=i+1+j by omega]; simpa using h⟩
  · rintro ⟨j,hj,h⟩
    cases j with
    | zero=>exact .inl (by simpa using h)
    | succ j=>exact .inr ⟨j,by simpa using hj,by rw [show i+1+j=i+(j+1) by omega]; simpa using h⟩
theorem xt {t:Tm} {j:Nat} (h:j<t.as.length) (q:List Int):atT t ((j:Int)::q)=atT t.as[j] q:=by
 simp only [atT,Int.toNat_natCast,dif_pos h];rw [H5 (by omega)]
theorem Iz:∀ t:Tm,∀ p q,q∈za t p->∃ q' a,q=p++q'/\atT t q'=some a:=Tm.ind fun t ih p q hq=>by
 rw [vh] at hq;rcases C1.1 hq with e | hq
 · exact ⟨[],t,by simp [e],rfl⟩
 · obtain ⟨j,hj,h⟩:=(qz t.as p 0 q).1 hq
   obtain ⟨q',a,e,h1⟩:=ih _ (F7 hj) _ q h;refine ⟨(j:Int)::q',a,?_,by rw [xt hj]; exact h1⟩
   rw [e,Nat.zero_add]; simp
theorem Ag:∀ (q:List Int) (t:Tm) (p:List Int) (a:Tm),atT t q=some a->p++q∈za t p
 | [],t,p,a,_=>by rw [vh]; simp
 | i::q,t,p,a,h=>by
  obtain ⟨hi,h0,h1⟩:=de h;rw [vh];refine B6 _ ((qz t.as p 0 _).2 ⟨i.toNat,hi,?_⟩);have:=Ag q _ (p++[i]) a h1;rw [Nat.zero_add,show ((i.toNat:Nat):Int)=i by omega]
  simpa using this
theorem Et:∀ t:Tm,∀ s∈t.names,∃ q a,atT t q=some a/\a.k=1/\a.s=s:=Tm.ind fun t ih s hs=>by
 rw [Tm.names_eq] at hs;rcases B8.1 hs with h | h
 · split at h
   · rename_i hk
     simp only [E1] at h;exact ⟨[],t,rfl,hk,h.symm⟩
   · simp at h
 · obtain ⟨x,hx,hs⟩:=E4.1 h
   obtain ⟨j,hj,e⟩:=List.getElem_of_mem hx;obtain ⟨q,a,h1,h2,h3⟩:=ih x hx s hs;exact ⟨(j:Int)::q,a,by rw [xt hj,e]; exact h1,h2,h3⟩
theorem rb:∀ (q:List Int) (t u:Tm),atT t q=some u->∀ s∈u.names,s∈t.names
 | [],t,u,h,s,hs=>by simp only [atT,B7.injEq] at h; subst h; exact hs
 | i::q,t,u,h,s,hs=>by
  obtain ⟨hi,h0,h1⟩:=de h;rw [Tm.names_eq];exact B8.2 (.inr (E4.2 ⟨_,F7 hi,rb q _ u h1 s hs⟩))
theorem Bz {l u:Tm} {s:ByteArray} {w:Tm} (h:(s,w)∈nk l u):∃ q a,atT l q=some a/\a.k=1/\a.s=s/\w=atO u q:=by
 unfold nk at h;obtain ⟨q,hq,h1⟩:=O5.1 h;obtain ⟨q',a,e,ha⟩:=Iz l [] q hq;simp only [G6] at e;subst e;have e:atO l q=a:=by simp [atO,ha]
 unfold cB1 at h1;rw [e] at h1;split at h1
 · rename_i hk
   simp only [B7.injEq,C8.injEq] at h1;exact ⟨q,a,ha,hk,h1.1,h1.2.symm⟩
 · simp at h1
theorem xu {l u:Tm} {s:ByteArray} (h:s∈l.names):∃ w,bnd (nk l u) s=some w:=by
 obtain ⟨q,a,h1,h2,h3⟩:=Et l s h;have hq:=Ag q l [] a h1;simp only [G6] at hq;have e:atO l q=a:=by simp [atO,h1]
 refine qy (w:=atO u q) (O5.2 ⟨q,hq,?_⟩);unfold cB1;rw [e,H5 h2,h3]
theorem Mx {k n:Int} {s:ByteArray} {as:List Tm} (h:(rW1 k n s as).k=2):k=2/\rW1 k n s as=.mk k n s as:=by
 unfold rW1 at h ⊢;split at h
 · split at h
   · exact absurd h (by show ¬(3:Int)=2; decide)
   · rename_i hc; rw [H6 hc]; exact ⟨h,rfl⟩
 · exact ⟨h,rfl⟩
theorem xv {σ:List Bnd} (hσ:∀ b∈σ,b.2.as=[]/\b.2.k=3) {u:Tm} (hu:u.areN=true) (h:(rW (aS σ u)).k=2):u.k=2/\(rW (aS σ u)).s=u.s/\(rW (aS σ u)).as=u.as.map fun a=>rW (aS σ a):=by
 rw [ou] at h ⊢;obtain ⟨h1,h2⟩:=Mx h;rw [h2];have hk:u.k=2:=by
  rcases cr hu with ⟨q,_⟩|⟨q,_,_⟩ | q
  · rw [dk,H5 q] at h1
    cases hb:bnd σ u.s with
    | some w =>
     rw [hb] at h1;obtain ⟨b,hbm,rfl⟩:=eg hb;have:=(hσ b hbm).2;simp only at h1; omega
    | none=>rw [hb] at h1; simp only [Tm.k_mk] at h1; omega
  · rw [dk,H6 (by omega)] at h1; simp only [Tm.k_mk] at h1; omega
  · exact q
 have e:aS σ u=.mk u.k u.n u.s (u.as.map (aS σ)):=by rw [dk,H6 (by omega)]
 refine ⟨hk,?_,?_⟩
 · rw [e]; rfl
 · rw [e,Tm.as_mk,Tm.as_mk,G5]; rfl
theorem xw {l:List Bnd} (hl:∀ b∈l,b.2.as=[]):∀ (p:List Int) (t u:Tm),atT (rW (aS l t)) p=some u->∃ v,atT t p=some v/\u=rW (aS l v)
 | [],t,u,h=>by simp only [atT,B7.injEq] at h; exact ⟨t,rfl,h.symm⟩
 | i::p,t,u,h=>by
  obtain ⟨hi,h0,h1⟩:=de h;obtain ⟨hi2,e2⟩:=Lw hi;have key:∃ hi3:i.toNat<t.as.length,(aS l t).as[i.toNat]=aS l t.as[i.toNat]:=by
   have hc:(aS l t).as=[]\/(aS l t).as=t.as.map (aS l):=by
    rw [dk];split
    · rename_i v hv
      split at hv
      · obtain ⟨b,hb,rfl⟩:=eg hv; exact .inl (hl b hb)
      · simp at hv
    · exact .inr rfl
   rcases hc with e | e
   · rw [e] at hi2; simp at hi2
   · have hi3:i.toNat<t.as.length:=by rw [e] at hi2; simpa using hi2
     exact ⟨hi3,by simp only [e,List.getElem_map]⟩
  obtain ⟨hi3,e3⟩:=key;rw [e2,e3] at h1;obtain ⟨v,hv,e⟩:=xw hl p _ u h1;exact ⟨v,by simp only [atT,dif_pos hi3,H5 h0]; exact hv,e⟩
def Ja (vs vs':List VS):Prop:=∀ s y,dv vs s=some y->dv vs' s=some y
theorem rc (ops:List OpM):∀ (l:List Tm),(∀ t∈l,∀ x vs vs',mj ops t x vs=some vs'->Ja vs vs')->∀ xs vs vs',qv ops l xs vs=some vs'->Ja vs vs'
 | [],_,xs,vs,vs',h=>by simp only [qv,B7.injEq] at h; subst h; exact fun _ _ h=>h
 | t::l,ih,xs,vs,vs',h=>by
  have step:∀ x ys v,mj ops t x vs=some v->qv ops l ys v=some vs'->Ja vs vs':=fun x ys v hq h=>by
   have h1:=ih t (B5 ..) x vs v hq;have h2:=rc ops l (fun a ha=>ih a (B6 _ ha)) ys v vs' h
   exact fun s y hy=>h2 s y (h1 s y hy)
  cases xs with
  | nil =>
   simp only [qv] at h;cases hq:mj ops t e0 vs with
   | none=>rw [hq] at h; simp at h
   | some v=>rw [hq] at h; exact step _ _ _ hq h
  | cons x ys =>
   simp only [qv] at h;cases hq:mj ops t x vs with
   | none=>rw [hq] at h; simp at h
   | some v=>rw [hq] at h; exact step _ _ _ hq h
theorem Eu (ops:List OpM):∀ t:Tm,∀ x vs vs',mj ops t x vs=some vs'->Ja vs vs':=Tm.ind fun t ih x vs vs' h=>by
 rw [vf] at h;split at h
 · split at h
   · split at h
     · simp only [B7.injEq] at h; subst h; exact fun _ _ h=>h
     · simp at h
   · simp only [B7.injEq] at h; subst h
     intro s y hy;rw [sq,hy]
 · exact rc ops t.as ih _ _ _ h
theorem Ev (ops:List OpM) (wvs:List VS) {σ:List Bnd} (hσ:∀ b∈σ,b.2.as=[]/\b.2.k=3):∀ l:Tm,l.areN=true->∀ u x vs vs' acc acc',u.areN=true->au ops wvs u=x->x≠e0->mj ops l x vs=some vs'->mT l (rW (aS σ u)) acc=some acc' →
 ∀ q a,atT l q=some a->a.k=1->∃ w y,atT u q=some w/\dv vs' a.s=some y/\au ops wvs w=y.2:=Tm.ind fun l ih hn u x vs vs' acc acc' hun hu hx hi hm q a ha hk=>by
 rcases cr hn with ⟨h1,has⟩|⟨h3,_,has⟩ | h2
 · cases q with
   | cons i q=>obtain ⟨hlt,_,_⟩:=de ha; rw [has] at hlt; simp at hlt
   | nil =>
    simp only [atT,B7.injEq] at ha;subst ha;rw [vf,H5 h1] at hi;cases hv:dv vs l.s with
    | some y =>
     have hv':=hv;unfold dv at hv;rw [hv] at hi;simp only at hi;split at hi
     · rename_i e
       simp only [B7.injEq] at hi;subst hi;exact ⟨u,y,rfl,hv',by rw [hu]; exact e.symm⟩
     · simp at hi
    | none =>
     have hv':=hv;unfold dv at hv;rw [hv] at hi;simp only [B7.injEq] at hi;subst hi;exact ⟨u,(l.s,x),rfl,by rw [sq,hv']; simp,hu⟩
 · cases q with
   | cons i q=>obtain ⟨hlt,_,_⟩:=de ha; rw [has] at hlt; simp at hlt
   | nil=>simp only [atT,B7.injEq] at ha; subst ha; omega
 · cases q with
   | nil=>simp only [atT,B7.injEq] at ha; subst ha; omega
   | cons i q =>
    rcases xk hm with ⟨e,_⟩|⟨e,_⟩|⟨_,e1,_,e3,e4,hms⟩
    · omega
    · omega
    obtain ⟨b1,b2,b3⟩:=xv hσ hun (by omega)
    obtain ⟨o,hf,hl,hss,_⟩:=ez (t:=u) b1 (by rw [hu]; exact hx)
    rw [vf,H6 (by omega),H5 h2,e3,b2,hf] at hi
    simp only at hi;rw [b3] at hms e4;rw [O2] at e4;obtain ⟨hlt,h0,h1⟩:=de ha;have key:∀ (ts us:List Tm) (xs:List ByteArray) (vs:List VS) (acc:List Bnd),(∀ t∈ts,t∈l.as)->(∀ t∈us,t∈u.as)->us.length<=xs.length->bo ops wvs us xs=true->qv ops ts xs vs=some vs'->mTs ts (us.map fun a=>rW (aS σ a)) acc=some acc' →
     ∀ j (hj:j<ts.length) (hj':j<us.length),atT ts[j] q=some a->∃ w y,atT us[j] q=some w/\dv vs' a.s=some y/\au ops wvs w=y.2:=by
     intro ts;induction ts with
     | nil=>intro us xs vs acc _ _ _ _ _ _ j hj; simp at hj
     | cons t ts ihs =>
      intro us xs vs acc hts hus hlen hs hi hm j hj hj' hat;cases us with
      | nil=>simp at hj'
      | cons u1 us =>
       cases xs with
       | nil=>simp at hlen
       | cons y xs =>
        simp only [bo,B4,C5,decide_eq_false_iff_not,decide_eq_true_eq] at hs;simp only [qv] at hi;simp only [C0,mTs] at hm;cases hi1:mj ops t y vs with
        | none=>rw [hi1] at hi; simp at hi
        | some vs1 =>
         rw [hi1] at hi;cases hm1:mT t (rW (aS σ u1)) acc with
         | none=>rw [hm1] at hm; simp at hm
         | some acc1 =>
          rw [hm1] at hm;simp only at hi hm;cases j with
          | zero =>
           obtain ⟨w,z,k1,k2,k3⟩:=ih t (hts t (B5 ..)) (dc hn (hts t (B5 ..))) u1 y vs vs1 acc acc1 (dc hun (hus u1 (B5 ..))) hs.1.2 (by rw [<- hs.1.2]; exact hs.1.1) hi1 hm1 q a hat hk
           exact ⟨w,z,k1,rc ops ts (fun t _=>Eu ops t) xs vs1 vs' hi _ _ k2,k3⟩
          | succ j =>
           exact ihs us xs vs1 acc1 (fun t ht=>hts t (B6 _ ht)) (fun t ht=>hus t (B6 _ ht)) (by simpa using hlen) hs.2 hi hm j (by simpa using hj) (by simpa using hj') hat
    have hlt':i.toNat<u.as.length:=by omega
    obtain ⟨w,y,k1,k2,k3⟩:=key l.as u.as o.a vs acc (fun _ h=>h) (fun _ h=>h) (by omega) hss hi hms i.toNat hlt hlt' h1
    exact ⟨w,y,by simp only [atT,dif_pos hlt',H5 h0]; exact k1,k2,k3⟩
theorem Ew {ops:List OpM} {vs vs1:List VS} {l:List Bnd}:∀ t:Tm,t.areN=true->au ops vs t≠e0->(∀ s∈t.names,∃ w,bnd l s=some w/\∀ y,dv vs s=some y->au ops vs1 w=y.2)->au ops vs1 (aS l t)=au ops vs t:=Tm.ind fun t ih hn hs hA=>by
 rw [Tm.names_eq] at hA;rcases cr hn with ⟨h1,ha⟩|⟨h3,_,ha⟩ | h2
 · have e:au ops vs t=xi vs t.s:=by rw [cf,H6 (by omega),H5 h1]
   rw [e] at hs ⊢;rw [xl] at hs ⊢;cases hv:dv vs t.s with
   | none=>rw [hv] at hs; exact absurd rfl hs
   | some v =>
    obtain ⟨w,hb,hw⟩:=hA t.s (by simp [h1])
    rw [dk,H5 h1,hb];exact hw v hv
 · rw [dk,H6 (by omega)]
   rw [cf,cf ops vs,H5 (show (Tm.mk t.k t.n t.s _).k=3 from h3),H5 h3]
 · obtain ⟨o,hf,hl,hss,e⟩:=ez h2 hs
   rw [dk,H6 (by omega),e]
   have key:∀ (ts:List Tm) (xs:List ByteArray),(∀ a∈ts,a∈t.as)->bo ops vs ts xs=true->bo ops vs1 (ts.map (aS l)) xs=true:=by
    intro ts;induction ts with
    | nil=>intro xs _ _; rfl
    | cons a ts ihs =>
     intro xs hts h;cases xs with
     | nil=>rfl
     | cons y xs =>
      simp only [bo,B4,C5,decide_eq_false_iff_not,decide_eq_true_eq] at h;have hm:=hts a (B5 ..);have q:=ih a hm (dc hn hm) h.1.1 fun s hs=>hA s (B8.2 (.inr (E4.2 ⟨a,hm,hs⟩)))
      simp only [C0,bo,B4,C5,decide_eq_false_iff_not,decide_eq_true_eq,q];exact ⟨h.1,ihs xs (fun z hz=>hts z (B6 _ hz)) h.2⟩
   exact io (t:=.mk t.k t.n t.s (t.as.map (aS l))) h2 hf (by simpa [Tm.as] using hl) (key _ _ (fun _ h=>h) hss)
theorem vi {ops:List OpM} {vs:List VS}:∀ (p:List Int) (t u:Tm),t.areN=true->au ops vs t≠e0->atT t p=some u->u.areN=true/\au ops vs u≠e0
 | [],t,u,hn,hs,h=>by simp only [atT,B7.injEq] at h; subst h; exact ⟨hn,hs⟩
 | i::p,t,u,hn,hs,h=>by
  obtain ⟨hi,h0,h1⟩:=de h;have h2:t.k=2:=by
   rcases cr hn with ⟨_,q⟩|⟨_,_,q⟩ | h2
   · rw [q] at hi; simp at hi
   · rw [q] at hi; simp at hi
   · exact h2
  obtain ⟨o,hf,hl,hss,e⟩:=ez h2 hs;exact vi p _ u (dc hn (F7 hi)) (jx ops vs t.as o.a (by omega) hss _ (F7 hi)) h1
theorem xy {ops:List OpM} {vs:List VS} {w:Tm} (hw:w.areN=true):∀ (p:List Int) (t u:Tm),t.areN=true->au ops vs t≠e0->atT t p=some u->au ops vs w=au ops vs u->(kd t p w).areN=true/\au ops vs (kd t p w)=au ops vs t
 | [],t,u,hn,hs,h,he=>by simp only [atT,B7.injEq] at h; subst h; exact ⟨hw,he⟩
 | i::p,t,u,hn,hs,h,he=>by
  obtain ⟨hi,h0,h1⟩:=de h;have h2:t.k=2:=by
   rcases cr hn with ⟨_,q⟩|⟨_,_,q⟩ | h2
   · rw [q] at hi; simp at hi
   · rw [q] at hi; simp at hi
   · exact h2
  obtain ⟨o,hf,hl,hss,e⟩:=ez h2 hs;have hm:=F7 hi;obtain ⟨g1,g2⟩:=xy hw p _ u (dc hn hm) (jx ops vs t.as o.a (by omega) hss _ hm) h1 he
  simp only [kd,dif_pos hi];refine ⟨vg hn (by simp) fun a ha=>?_,?_⟩
  · rcases K5 ha with q | q
    · exact dc hn q
    · exact q▸g1
  · rw [e]
    refine io (t:=.mk t.k t.n t.s _) h2 hf (by rw [Tm.as_mk,List.length_set]; exact hl) ?_
    rw [Tm.as_mk,qx t.as o.a i.toNat hi _ g2]; exact hss
theorem Ex {l:List Bnd}:∀ t:Tm,∀ s∈(aS l t).names,(s∈t.names/\bnd l s=none)\/∃ b∈l,s∈b.2.names:=Tm.ind fun t ih s hs=>by
 rw [dk] at hs;by_cases hk:t.k=1
 · rw [H5 hk] at hs
   cases hb:bnd l t.s with
   | some v =>
    rw [hb] at hs;obtain ⟨b,h1,rfl⟩:=eg hb;exact .inr ⟨b,h1,hs⟩
   | none =>
    rw [hb] at hs;simp only at hs;rw [Tm.names_eq,Tm.k_mk,H5 hk] at hs;rcases B8.1 hs with h | h
    · simp only [E1] at h
      have h:s=t.s:=h;exact .inl ⟨by rw [Tm.names_eq,H5 hk]; simp [h],by rw [h]; exact hb⟩
    · obtain ⟨x,hx,hs⟩:=E4.1 h
      obtain ⟨a,ha,rfl⟩:=D0.1 hx;rcases ih a ha s hs with ⟨q1,q2⟩ | q
      · exact .inl ⟨by rw [Tm.names_eq]; exact B8.2 (.inr (E4.2 ⟨a,ha,q1⟩)),q2⟩
      · exact .inr q
 · rw [H6 hk] at hs
   simp only at hs;rw [Tm.names_eq,Tm.k_mk,H6 hk,G6] at hs;obtain ⟨x,hx,hs⟩:=E4.1 hs;obtain ⟨a,ha,rfl⟩:=D0.1 hx;rcases ih a ha s hs with ⟨q1,q2⟩ | q
   · exact .inl ⟨by rw [Tm.names_eq]; exact B8.2 (.inr (E4.2 ⟨a,ha,q1⟩)),q2⟩
   · exact .inr q
theorem sz {w:Tm}:∀ (p:List Int) (t:Tm),∀ s∈(kd t p w).names,s∈t.names\/s∈w.names
 | [],t,s,hs=>.inr hs
 | i::p,t,s,hs=>by
  simp only [kd] at hs;split at hs
  · rename_i hi
    rw [Tm.names_eq,Tm.k_mk,Tm.as_mk] at hs;rw [Tm.names_eq];rcases B8.1 hs with h | h
    · exact .inl (B8.2 (.inl h))
    · obtain ⟨x,hx,hs⟩:=E4.1 h
      rcases K5 hx with q | q
      · exact .inl (B8.2 (.inr (E4.2 ⟨x,q,hs⟩)))
      · subst q
        rcases sz p _ s hs with q | q
        · exact .inl (B8.2 (.inr (E4.2 ⟨_,F7 hi,q⟩)))
        · exact .inr q
  · exact .inl hs
theorem Ah {vars:List ByteArray} {c:Int}:∀ b∈ey vars c,b.2.as=[]/\b.2.k=3:=fun b hb=>by
 unfold ey at hb;simp only [D0] at hb;obtain ⟨p,_,rfl⟩:=hb;exact ⟨rfl,rfl⟩
theorem zb {ops:List OpM} {r:RuM} (h:xj ops r=true):∀ s∈r.r.names,s∈r.l.names:=by
 unfold xj at h;simp only [B4,decide_eq_true_eq] at h;obtain ⟨_,_,_,_,_,h4⟩:=h;cases hf:gf ops r.l.s with
 | none=>rw [hf] at h4; simp at h4
 | some o =>
  rw [hf] at h4;simp only at h4;cases hi:Bs ops r.l o.r with
  | none=>rw [hi] at h4; simp at h4
  | some vs =>
   rw [hi] at h4;simp only [B4] at h4;exact il.1 h4.2.1
theorem Ey {d:DfM} {v:List ByteArray} {t:Tm} (hb:DfB d) (hw:Wt t) (hs:qw d v t=true) {c:Int} (hc:isC v.length c=true) {x:Nat×List Int} (hx:nx d (gi v t c)=some x) (hv:(ke d t x).valid=true):qw d v (ke d t x)=true:=by
 obtain ⟨hd,htn,hg,hgn,_⟩:=Es hb hw hs hc;have hs':=hs;simp only [qw,B4,C5,decide_eq_false_iff_not] at hs' ⊢;obtain ⟨s1,s2,s3,s4,s5,s6,s7⟩:=hs';refine ⟨s1,s2,s3,s4,hv,?_⟩;have hna:=ei s5;obtain ⟨u',r,w',q1,q2,q3⟩:=Ad d (gi v t c) x.1 x.2 hx;obtain ⟨u,hu,rfl⟩:=xw (xq v c) x.2 t u' q1;obtain ⟨hun,hus⟩:=vi x.2 t u hna s7 hu;have hr:=hd.ru (K9 q2);have hrw:∀ s∈r.r.names,s∈r.l.names:=by
  have:=hd.v;simp only [DfM.valid,B4,C6] at this;exact zb (this.2.2.2.1 r (K9 q2))
 unfold sn at q3;cases hm:mT r.l (rW (aS (ey v c) u)) [] with
 | none=>rw [hm] at q3; simp at q3
 | some l' =>
 obtain ⟨o,vs,hf,hi,hso⟩:=hr.inf;have hk:(rW (aS (ey v c) u)).k=2/\(rW (aS (ey v c) u)).s=r.l.s:=by
  rcases xk hm with ⟨q,_⟩|⟨q,_⟩|⟨_,q1,_,q2,_⟩
  · have:=hr.lk; omega
  · have:=hr.lk; omega
  · exact ⟨by rw [<- q1]; exact hr.lk,q2.symm⟩
 obtain ⟨b1,b2,b3⟩:=xv Ah hun hk.1;obtain ⟨o',hf',hl',hss',he'⟩:=ez b1 hus;rw [<- b2,hk.2,hf] at hf';simp only [B7.injEq] at hf';subst hf';have hne:o.r≠e0:=he'▸hus;have hP:=Ev d.op (wv v) Ah r.l (ei hr.lv) u o.r [] vs [] l' hun he' hne (Eg hi) hm
 -- bindings
 have hB:∀ b∈nk r.l (atO t x.2),∃ q a y,atT r.l q=some a/\a.k=1/\a.s=b.1/\atT u q=some b.2/\dv vs b.1=some y/\au d.op (wv v) b.2=y.2:=fun b hb'=>by
  obtain ⟨s,w⟩:=b;obtain ⟨q,a,k1,k2,k3,k4⟩:=Bz hb';have eu:atO t x.2=u:=by simp [atO,hu]
  obtain ⟨w2,y,m1,m2,m3⟩:=hP q a k1 k2;have ew:w=w2:=by rw [k4,eu]; simp [atO,m1]
  subst ew;exact ⟨q,a,y,k1,k2,k3,m1,by rw [<- k3]; exact m2,m3⟩
 have hBn:∀ b∈nk r.l (atO t x.2),b.2.areN=true:=fun b hb'=>by
  obtain ⟨q,a,y,_,_,_,m1,_⟩:=hB b hb';exact (vi q u b.2 hun hus m1).1
 have hBw:∀ b∈nk r.l (atO t x.2),∀ s∈b.2.names,s∈t.names:=fun b hb' s hs=>by
  obtain ⟨q,a,y,_,_,_,m1,_⟩:=hB b hb';exact rb x.2 t u hu s (rb q u b.2 m1 s hs)
 have hrn:=zy hBn r.r (ei hr.rv);have hrs:au d.op (wv v) (aS (nk r.l (atO t x.2)) r.r)=o.r:=by
  rw [<- hso];refine Ew r.r (ei hr.rv) (by rw [hso]; exact hne) fun s hs=>?_
  obtain ⟨w,hbw⟩:=xu (u:=atO t x.2) (hrw s hs);refine ⟨w,hbw,fun y hy=>?_⟩
  obtain ⟨q,a,y',_,_,_,_,m2,m3⟩:=hB _ (xr hbw);rw [hy] at m2;simp only [B7.injEq] at m2;rw [m2]; exact m3
 obtain ⟨p1,p2⟩:=xy hrn x.2 t u hna s7 hu (by rw [hrs,he'])
 have ec:ke d t x=rW (kd t x.2 (aS (nk r.l (atO t x.2)) r.r)):=by
  unfold ke; rw [q2]
 rw [ec];refine ⟨il.2 fun s hs=>?_,by rw [zx d.op (wv v) _ p1 (by rw [p2]; exact s7),p2]; exact s7⟩
 rw [xh] at hs;refine il.1 s6 s ?_;rcases sz x.2 t s hs with h | h
 · exact h
 · rcases Ex r.r s h with ⟨h1,h2⟩|⟨b,h1,h2⟩
   · obtain ⟨w,hbw⟩:=xu (u:=atO t x.2) (hrw s h1)
     rw [hbw] at h2; simp at h2
   · exact hBw b h1 s h2
end Go.Q
end
section
/- Proofs of claims. -/
namespace Go.Q
open Go
structure PnM where
 k:Int
 nx:List Int
 c:Int
 s:List Bnd
def PnM.row (n:PnM):List D:=[.int n.k,.sl (n.nx.map Io),.int n.c,.sl (n.s.map Bnd.row)]
structure PnB (n:PnM):Prop where
 nx:n.nx.length<=1048576
 s:n.s.length<=1048576
 b:∀ b∈n.s,Small b.2
theorem Ca {n:Nat} {c:Int}:∀ (r:List Int) (p:Option Int),(∀ q,p=some q->q<=c)->kz n (some c) r=true->kz n p r=true
 | [],_,_,_=>rfl
 | x::r,p,hp,h=>by
  simp only [kz,B4,C5,decide_eq_false_iff_not] at h ⊢;refine ⟨h.1,?_,h.2.2⟩;cases p with
  | none=>rfl
  | some q=>simp only [C5,decide_eq_false_iff_not]; have:=hp q rfl; omega
theorem Cb {n:Nat} {p:Option Int} {c:Int} {r:List Int} (h:kz n p (c::r)=true):kz n p r=true:=by
 simp only [kz,B4] at h;refine Ca r p (fun q hq=>?_) h.2.2
 subst hq;have:=h.2.1;simp only [C5,decide_eq_false_iff_not] at this;omega
theorem xz {n:Nat} {l cl:List Int} (h:l.Sublist cl):∀ p,kz n p cl=true->kz n p l=true:=by
 induction h with
 | slnil=>intro p h; exact h
 | cons a _ ih=>intro p h; exact ih p (Cb h)
 | cons_cons a _ ih =>
  intro p h;simp only [kz,B4] at h ⊢;exact ⟨h.1,h.2.1,ih _ h.2.2⟩
def pvI:Option Int->Int
 | some q=>if 0<=q then q+1 else 0
 | none=>0
theorem ya {n:Nat}:∀ (cl:List Int) (p:Option Int),kz n p cl=true->(cl.length:Int)<=64-pvI p\/cl=[]
 | [],p,_=>.inr rfl
 | c::r,p,h=>by
  simp only [kz,B4] at h;have hc:=yz h.1;left;have h1:=ya r (some c) h.2.2;have hpc:pvI p<=c:=by
   cases p with
   | none=>exact hc.2.1
   | some q =>
    have:=h.2.1;simp only [C5,decide_eq_false_iff_not] at this;show (if 0<=q then q+1 else 0)<=c
    split <;> omega
  simp only [E8];rcases h1 with h1 | h1
  · have e:pvI (some c)=c+1:=by show (if 0<=c then c+1 else 0)=c+1; rw [H5 hc.2.1]
    rw [e] at h1; omega
  · subst h1; simp only [List.length_nil]; omega
theorem Ai {d:DfM} {v:List ByteArray} {t:Tm}:∀ (l P:List Int) (out:List (Bk×List Int)),(∀ b∈out,b.2.Sublist P/\∃ c∈P,nx d (gi v t c)=b.1)->∀ b∈brF d v t l out,b.2.Sublist (P++l)/\∃ c∈P++l,nx d (gi v t c)=b.1
 | [],P,out,h=>by simpa only [brF,List.append_nil] using h
 | c::r,P,out,h=>by
  have h1:∀ b∈Mv out (nx d (gi v t c)) c,b.2.Sublist (P++[c])/\∃ c'∈P++[c],nx d (gi v t c')=b.1:=fun b hb=>by
   have old:∀ b∈out,b.2.Sublist (P++[c])/\∃ c'∈P++[c],nx d (gi v t c')=b.1:=fun b hb=>by
    obtain ⟨k1,c',k2,k3⟩:=h b hb;exact ⟨k1.trans (List.sublist_append_left ..),c',B8.2 (.inl k2),k3⟩
   unfold Mv at hb;split at hb
   · split at hb
     · rename_i q hq
       rcases K5 hb with hb | hb
       · exact old b hb
       · subst hb
         obtain ⟨k1,c',k2,k3⟩:=h q (K9 hq);exact ⟨List.Sublist.append k1 (List.Sublist.refl _),c',B8.2 (.inl k2),k3⟩
     · exact old b hb
   · rcases B8.1 hb with hb | hb
     · exact old b hb
     · simp only [E1] at hb; subst hb
       exact ⟨List.sublist_append_right ..,c,by simp,rfl⟩
  have:=Ai r (P++[c]) _ h1;simpa only [brF,List.append_assoc,E9,G6] using this
structure StG (d:DfM) (v:List ByteArray) (t:Tm) (cl:List Int):Prop where
 w:Wt t
 s:qw d v t=true
 c:kz v.length none cl=true
theorem StG.n {d:DfM} {v:List ByteArray} {t:Tm} {cl:List Int} (h:StG d v t cl):t.nodes<=60:=by
 have:=h.s;simp only [qw,B4] at this;exact gg this.2.2.2.2.1
theorem StG.l {d:DfM} {v:List ByteArray} {t:Tm} {cl:List Int} (h:StG d v t cl):cl.length<=64:=by
 rcases ya cl none h.c with k | k
 · simp only [pvI] at k; omega
 · subst k; simp
theorem StG.op {d:DfM} {v:List ByteArray} {t:Tm} {cl:List Int} (h:StG d v t cl) {l:List Int} (hl:l.Sublist cl):StG d v t l:=⟨h.w,h.s,xz hl none h.c⟩
theorem StG.next {d:DfM} (hb:DfB d) {v:List ByteArray} {t:Tm} {cl:List Int} (h:StG d v t cl) {b:Bk×List Int} (hm:b∈brF d v t cl []) (hk:bK d t b.1=2):StG d v (bT d t b.1) b.2:=by
 obtain ⟨h1,c,h2,h3⟩:=Ai (d:=d) (v:=v) (t:=t) cl [] [] (by simp) b hm
 simp only [G6] at h1 h2;have hc:=xo cl none h.c c h2;obtain ⟨bk,bl⟩:=b;simp only at h3 hk h1 ⊢;cases bk with
 | none=>exact absurd hk (by show ¬(1:Int)=2; decide)
 | some y =>
  have hv:(ke d t y).valid=true:=by
   cases hq:(ke d t y).valid with
   | true=>rfl
   | false =>
    have:bK d t (some y)=3:=by show (if (ke d t y).valid=true then (2:Int) else 3)=3; rw [hq]; rfl
    omega
  have e:bT d t (some y)=ke d t y:=by show (if (ke d t y).valid=true then ke d t y else tm0)=_; rw [H5 hv]
  rw [e];obtain ⟨hd,_,_,_,hx⟩:=Es hb h.w h.s hc;rw [h3] at hx;exact ⟨(Mw hd h.w h.n (hx.i y rfl).2.1).1,Ey hb h.w h.s hc h3 hv,xz h1 none h.c⟩
end Go.Q
namespace Go.Q.S
open Go Go.Q
end Go.Q.S
end
section
/- Starts of claims; rows of claims. -/
namespace Go.Q
open Go
end Go.Q
namespace Go.Q.S
open Go Go.Q
end Go.Q.S
end
section
/- Lists of proofs; verdicts. -/
namespace Go.Q
open Go
end Go.Q
namespace Go.Q.S
open Go Go.Q
end Go.Q.S
end
section
/- The search for proofs. -/
namespace Go.Q
open Go
structure Oc (n:PnM):Prop where
 k:0<=n.k/\n.k<=3
 nl:n.nx.length<=64
 ni:∀ j∈n.nx,0<=j/\j<=60
 c:0<=n.c/\n.c<=3
 sl:n.s.length<=60
 sb:∀ b∈n.s,b.1.size<=maxLen/\Wt b.2/\b.2.nodes<=60
end Go.Q
namespace Go.Q
open Go
end Go.Q
namespace Go.Q
open Go
end Go.Q
end
section
/- The rows of the proofs that are found. -/
namespace Go.Q
open Go
end Go.Q
end
section
/- Paths and tests of symbolic terms. -/
namespace Go.Q
open Go
abbrev Stp:=Nat×List Int
structure PtM where
 k:Int
 st:List Stp
 t:Tm
 c:List Int
def PtM.row (v:List ByteArray) (p:PtM):List D:=[.int p.k,.sl (p.st.map Ob),.sl (v.map Bp),.int p.t.k,.int p.t.n,.str p.t.s,.sl (p.t.as.map Tm.row),.sl (p.c.map Io)]
end Go.Q
end
section
/- One step of a symbolic term. -/
namespace Go.Q
open Go
end Go.Q
end
section
/- A match makes the pattern equal to the term; drawn terms. -/
namespace Go.Q
open Go
theorem Jb:∀ t u:Tm,t.row=u.row->t=u:=Tm.ind fun t ih u h=>by
 rw [Tm.row_eq,Tm.row_eq u] at h;simp only [N7.injEq,D.int.injEq,D.str.injEq,D.sl.injEq,and_true] at h;obtain ⟨h1,h2,h3,h4⟩:=h;have key:∀ (xs ys:List Tm),(∀ a∈xs,a∈t.as)->xs.map Tm.row=ys.map Tm.row->xs=ys:=by
  intro xs;induction xs with
  | nil=>intro ys _ h; cases ys with
   | nil=>rfl
   | cons y ys=>simp at h
  | cons x xs ihx =>
   intro ys hm h;cases ys with
   | nil=>simp at h
   | cons y ys =>
    simp only [C0,N7.injEq] at h;rw [ih x (hm x (B5 ..)) y h.1,ihx ys (fun a ha=>hm a (B6 _ ha)) h.2]
 have e:=key t.as u.as (fun _ h=>h) h4
 cases t; cases u
 simp only [Tm.k,Tm.n,Tm.s,Tm.as] at h1 h2 h3 e;rw [h1,h2,h3,e]
theorem My {t u:Tm}:eqb t.row u.row=true↔t=u:=by
 rw [Hw]; exact ⟨Jb t u,fun h=>by rw [h]⟩
def Ext (l l':List Bnd):Prop:=∀ s v,bnd l s=some v->bnd l' s=some v
theorem Ext.refl (l:List Bnd):Ext l l:=fun _ _ h=>h
theorem Ext.trans {a b c:List Bnd} (h:Ext a b) (k:Ext b c):Ext a c:=fun s v e=>k s v (h s v e)
inductive Dt (m:Nat):Tm->Prop
 | var {s:ByteArray}:s.size<=m->Dt m (.mk 1 0 s [])
 | word {n:Int}:0<=n->n<=255->Dt m (.mk 3 n ⟨#[]⟩ [])
 | app {s:ByteArray} {as:List Tm}:s.size<=m->as.length<=2->(∀ a∈as,Dt m a)->Dt m (.mk 2 0 s as)
theorem Dt.sub {m:Nat} {t a:Tm} (h:Dt m t) (ha:a∈t.as):Dt m a:=by
 cases h with
 | var _=>simp [Tm.as] at ha
 | word=>simp [Tm.as] at ha
 | app _ _ h=>exact h a ha
theorem Dt.mono {m n:Nat} {t:Tm} (h:Dt m t) (hn:m<=n):Dt n t:=by
 induction h with
 | var h=>exact .var (Nat.le_trans h hn)
 | word h1 h2=>exact .word h1 h2
 | app h1 h2 _ ih=>exact .app (Nat.le_trans h1 hn) h2 ih
theorem Dt.aS {m:Nat} {l:List Bnd} (hl:∀ b∈l,Dt m b.2):∀ t,Dt m t->Dt m (aS l t):=Tm.ind fun t ih h=>by
 rw [dk];split
 · rename_i u hu
   split at hu
   · obtain ⟨b,h1,rfl⟩:=eg hu; exact hl b h1
   · simp at hu
 · cases h with
   | var h=>exact .var h
   | word h1 h2=>exact .word h1 h2
   | @app s as h1 h2 h3 =>
    refine .app h1 (by simpa [Tm.as] using h2) fun a ha=>?_
    simp only [Tm.as,D0] at ha;obtain ⟨b,hb,rfl⟩:=ha;exact ih b hb (h3 b hb)
/- Variables get an ending. -/
end Go.Q
end
section
/- Compositions of substitutions; unification. -/
namespace Go.Q
open Go
theorem jm {l:List Bnd} {t v:Tm} (hk:t.k=1) (h:bnd l t.s=some v):aS l t=v:=by
 rw [dk,H5 hk,h]
theorem fa {l:List Bnd} {t:Tm} (h:t.k=1->bnd l t.s=none):aS l t=.mk t.k t.n t.s (t.as.map (aS l)):=by
 rw [dk];by_cases hk:t.k=1
 · rw [H5 hk,h hk]
 · rw [H6 hk]
def cmS (a b:List Bnd):List Bnd:=a.map (fun x=>(x.1,aS b x.2))++b.filter fun x=>(bnd a x.1).isNone
theorem Aj (f:Tm->Tm) (s:ByteArray):∀ a:List Bnd,bnd (a.map fun x=>(x.1,f x.2)) s=(bnd a s).map f
 | []=>rfl
 | b::a=>by
  simp only [C0,bnd];by_cases h:b.1=s
  · rw [H5 h,H5 h]; rfl
  · rw [H6 h,H6 h,Aj f s a]
theorem re (a:List Bnd) (s:ByteArray) (h:bnd a s=none):∀ b:List Bnd,bnd (b.filter fun x=>(bnd a x.1).isNone) s=bnd b s
 | []=>rfl
 | x::b=>by
  have ih:=re a s h b;rw [N9];by_cases e:x.1=s
  · rw [H5 (by rw [e,h]; rfl)]
    simp only [bnd,H5 e]
  · split
    · simp only [bnd,H6 e,ih]
    · simp only [bnd,H6 e,ih]
theorem jy (a b:List Bnd) (s:ByteArray):bnd (cmS a b) s=match bnd a s with
 | some u=>some (aS b u)
 | none=>bnd b s:=by
 unfold cmS;rw [It,Aj];cases h:bnd a s with
 | some u=>rfl
 | none=>simp only [Option.map_none]; exact re a s h b
theorem vj (a b:List Bnd):∀ t,aS (cmS a b) t=aS b (aS a t):=Tm.ind fun t ih=>by
 have hm:t.as.map (aS (cmS a b))=(t.as.map (aS a)).map (aS b):=by
  rw [G5]; exact F9 fun x hx=>ih x hx
 have hc:=jy a b t.s;by_cases hk:t.k=1
 · cases ha:bnd a t.s with
   | some u =>
    rw [ha] at hc;rw [jm hk hc,jm hk ha]
   | none =>
    rw [ha] at hc;rw [fa (l:=a) fun _=>ha]
    cases hb:bnd b t.s with
    | some u =>
     rw [jm hk (hc.trans hb),jm (t:=.mk t.k t.n t.s (t.as.map (aS a))) hk hb]
    | none =>
     rw [fa fun _=>hc.trans hb,fa (t:=.mk t.k t.n t.s (t.as.map (aS a))) fun _=>hb,hm]; rfl
 · rw [fa fun h=>absurd h hk,fa (l:=a) fun h=>absurd h hk,fa (t:=.mk t.k t.n t.s (t.as.map (aS a))) fun h=>absurd h hk,hm]; rfl
theorem Tm.mk_eta (t:Tm):Tm.mk t.k t.n t.s t.as=t:=by cases t; rfl
theorem da (t:Tm) (w:ByteArray):w∈t.names↔(t.k=1/\w=t.s)\/∃ a∈t.as,w∈a.names:=by
 rw [Tm.names_eq,B8,E4];by_cases hk:t.k=1
 · rw [H5 hk]; simp [hk]
 · rw [H6 hk]; simp [hk]
theorem Ez (k n:Int) (s:ByteArray) (as:List Tm) (w:ByteArray):w∈(Tm.mk k n s as).names↔(k=1/\w=s)\/∃ a∈as,w∈a.names:=da _ w
theorem zd (l:List Bnd) (w:ByteArray):∀ t,w∈(aS l t).names->(w∈t.names/\bnd l w=none)\/∃ s v,s∈t.names/\bnd l s=some v/\w∈v.names:=Tm.ind fun t ih h=>by
 by_cases hb:∃ v,t.k=1/\bnd l t.s=some v
 · obtain ⟨v,hk,hb⟩:=hb
   rw [jm hk hb] at h;exact .inr ⟨t.s,v,(da t _).2 (.inl ⟨hk,rfl⟩),hb,h⟩
 · have hf:t.k=1->bnd l t.s=none:=fun hk=>by
    cases hq:bnd l t.s with
    | none=>rfl
    | some v=>exact absurd ⟨v,hk,hq⟩ hb
   rw [fa hf,Ez] at h;rcases h with ⟨hk,rfl⟩|⟨a,ha,hw⟩
   · exact .inl ⟨(da t _).2 (.inl ⟨hk,rfl⟩),hf hk⟩
   · obtain ⟨c,hc,rfl⟩:=D0.1 ha
     rcases ih c hc hw with ⟨h1,h2⟩|⟨s,v,h1,h2,h3⟩
     · exact .inl ⟨(da t _).2 (.inr ⟨c,hc,h1⟩),h2⟩
     · exact .inr ⟨s,v,(da t _).2 (.inr ⟨c,hc,h1⟩),h2,h3⟩
def Fx (l:List Bnd) (t:Tm):Prop:=∀ w∈t.names,bnd l w=none
theorem Fx.sub {l:List Bnd} {t a:Tm} (h:Fx l t) (ha:a∈t.as):Fx l a:=fun w hw=>h w ((da t w).2 (.inr ⟨a,ha,hw⟩))
theorem Mz {l:List Bnd}:∀ t,Fx l t->aS l t=t:=Tm.ind fun t ih h=>by
 rw [fa fun hk=>h _ ((da t _).2 (.inl ⟨hk,rfl⟩))]
 have:t.as.map (aS l)=t.as:=by
  conv=>rhs; rw [<- List.map_id t.as]
  exact F9 fun a ha=>ih a ha (h.sub ha)
 rw [this,Tm.mk_eta]
def Idm (l:List Bnd):Prop:=∀ s v,bnd l s=some v->Fx l v
theorem Lx {l:List Bnd} (h:Idm l) (t:Tm):Fx l (aS l t):=fun w hw=>by
 rcases zd l w t hw with ⟨_,h1⟩|⟨s,v,_,h2,h3⟩
 · exact h1
 · exact h s v h2 w h3
theorem jz (s w:ByteArray) (y:Tm):bnd [(s,y)] w=if s=w then some y else none:=by simp [bnd]
theorem ta {s w:ByteArray} {y t:Tm} (hs:s∉y.names) (hw:w∈(aS [(s,y)] t).names):w≠s/\(w∈t.names\/w∈y.names):=by
 rcases zd _ w t hw with ⟨h1,h2⟩|⟨s',v,h1,h2,h3⟩
 · rw [jz] at h2
   refine ⟨fun e=>?_,.inl h1⟩
   rw [H5 e.symm] at h2; exact absurd h2 (by simp)
 · rw [jz] at h2
   split at h2
   · rename_i e
     simp only [B7.injEq] at h2;subst h2;exact ⟨fun e=>hs (e▸h3),.inr h3⟩
   · simp at h2
theorem Na {l:List Bnd} (h:Idm l) {s:ByteArray} {y:Tm} (hy:Fx l y) (hs:s∉y.names):Idm (cmS l [(s,y)]):=by
 have key:∀ w,bnd l w=none->w≠s->bnd (cmS l [(s,y)]) w=none:=fun w h1 h2=>by
  rw [jy,h1]; simp only; rw [jz,H6 (Ne.symm h2)]
 intro s' v hv w hw;rw [jy] at hv;cases hq:bnd l s' with
 | some u =>
  rw [hq] at hv;simp only [B7.injEq] at hv;subst hv;obtain ⟨h1,h2⟩:=ta hs hw;exact key w (by rcases h2 with h2 | h2; exact h s' u hq w h2; exact hy w h2) h1
 | none =>
  rw [hq] at hv;simp only at hv;rw [jz] at hv;split at hv
  · simp only [B7.injEq] at hv
    subst hv;exact key w (hy w hw) (fun e=>hs (e▸hw))
  · simp at hv
inductive Cov:List Tm->Tm->Prop
 | one {t:Tm}:Cov [t] t
 | drop {x:Tm} {xs:List Tm} {t:Tm}:Cov (x::xs) t->Cov xs t
 | args {x:Tm} {xs:List Tm} {t:Tm}:Cov (x::xs) t->x.k≠1->Cov (x.as++xs) t
theorem Cov.nodes {xs:List Tm} {t:Tm} (h:Cov xs t):(xs.map Tm.nodes).sum<=t.nodes:=by
 induction h with
 | one=>simp
 | drop _ ih=>simp only [C0,J2] at ih; omega
 | @args x xs t _ _ ih =>
  simp only [C0,J2] at ih;rw [N0,List.sum_append];have:=Tm.nodes_eq x;omega
theorem Cov.names {xs:List Tm} {t:Tm} (h:Cov xs t):∀ x∈xs,∀ w∈x.names,w∈t.names:=by
 induction h with
 | one=>intro x hx w hw; rw [E1.1 hx] at hw; exact hw
 | drop _ ih=>exact fun x hx=>ih x (B6 _ hx)
 | @args x xs t _ _ ih =>
  intro z hz w hw;rcases B8.1 hz with hz | hz
  · exact ih x (B5 ..) w ((da x w).2 (.inr ⟨z,hz,hw⟩))
  · exact ih z (B6 _ hz) w hw
theorem Cov.sub {xs:List Tm} {t:Tm} (r:List Bnd) (h:Cov xs t):Cov (xs.map (aS r)) (aS r t):=by
 induction h with
 | one=>exact .one
 | drop _ ih=>exact .drop ih
 | @args x xs t _ hk ih =>
  have e:aS r x=.mk x.k x.n x.s (x.as.map (aS r)):=fa fun h=>absurd h hk
  rw [C0,e] at ih;rw [N0];exact ih.args hk
open Classical in
noncomputable def trt (x y:Tm) (l:List Bnd):Option (List Bnd×List (Tm×Tm)) :=
 if eqb x.row y.row=true then some (l,[]) else
 if x.k=1 then (if x.s∈y.names then none else some (cmS l [(x.s,y)],[])) else
 if y.k=1 then (if y.s∈x.names then none else some (cmS l [(y.s,x)],[])) else
 if x.k=2/\y.k=2/\x.s=y.s/\x.as.length=y.as.length then some (l,x.as.zip y.as) else none
def lrg (l:List Bnd):Bool:=l.any fun b=>decide (400<b.2.nodes)
theorem Cc {x y:Tm} {l l1:List Bnd} {m:List (Tm×Tm)} (h:trt x y l=some (l1,m)) :
 (x=y/\l1=l/\m=[])\/(∃ v u,(x.k=1/\v=x.s/\u=y\/y.k=1/\v=y.s/\u=x)/\v∉u.names/\l1=cmS l [(v,u)]/\m=[]) ∨
 (x.k=2/\y.k=2/\x.s=y.s/\x.as.length=y.as.length/\l1=l/\m=x.as.zip y.as):=by
 unfold trt at h;split at h
 · rename_i e
   simp only [B7.injEq,C8.injEq] at h;exact .inl ⟨My.1 e,h.1.symm,h.2.symm⟩
 split at h
 · rename_i hk
   split at h
   · simp at h
   · rename_i hn
     simp only [B7.injEq,C8.injEq] at h;exact .inr (.inl ⟨x.s,y,.inl ⟨hk,rfl,rfl⟩,hn,h.1.symm,h.2.symm⟩)
 split at h
 · rename_i hk
   split at h
   · simp at h
   · rename_i hn
     simp only [B7.injEq,C8.injEq] at h;exact .inr (.inl ⟨y.s,x,.inr ⟨hk,rfl,rfl⟩,hn,h.1.symm,h.2.symm⟩)
 split at h
 · rename_i hc
   simp only [B7.injEq,C8.injEq] at h;exact .inr (.inr ⟨hc.1,hc.2.1,hc.2.2.1,hc.2.2.2,h.1.symm,h.2.symm⟩)
 · simp at h
def ub (V:List ByteArray) (l:List Bnd):Nat:=(V.filter fun w=>(bnd l w).isNone).length
theorem Od {V:List ByteArray} {l:List Bnd} {s:ByteArray} {y:Tm} (hs:s∈V) (hb:bnd l s=none):ub V (cmS l [(s,y)])<ub V l:=by
 unfold ub;have hle:∀ w,(bnd (cmS l [(s,y)]) w).isNone=true->(bnd l w).isNone=true:=fun w h=>by
  rw [jy] at h;cases hq:bnd l w with
  | none=>rfl
  | some u=>rw [hq] at h; simp at h
 have hS:bnd (cmS l [(s,y)]) s=some y:=by
  rw [jy,hb]; simp only; rw [jz,H5 rfl]
 have hgen:∀ V:List ByteArray,(V.filter fun w=>(bnd (cmS l [(s,y)]) w).isNone).length<=(V.filter fun w=>(bnd l w).isNone).length:=by
  intro V;induction V with
  | nil=>simp
  | cons w V ih =>
   rw [N9,N9];by_cases h:(bnd (cmS l [(s,y)]) w).isNone=true
   · rw [H5 h,H5 (hle w h)]; simp; exact ih
   · rw [H6 h]; split
     · simp; omega
     · exact ih
 induction V with
 | nil=>simp at hs
 | cons w V ih =>
  rw [N9,N9];rcases C1.1 hs with e | hs
  · subst e
    rw [H6 (by rw [hS]; simp),H5 (by rw [hb]; rfl)]
    have:=hgen V;simp; omega
  · have:=ih hs
    by_cases h:(bnd (cmS l [(s,y)]) w).isNone=true
    · rw [H5 h,H5 (hle w h)]; simp; exact this
    · rw [H6 h]; split
      · simp; omega
      · exact this
theorem Jc (l:List Bnd) (b:Bnd):(cmS l [b]).length<=l.length+1:=by
 unfold cmS;rw [List.length_append,O2];have:=List.length_filter_le (fun x:Bnd=>(bnd l x.1).isNone) [b]
 simp only [E8,List.length_nil] at this;omega
theorem Nb {m:Nat} {l b:List Bnd} (hl:∀ x∈l,Dt m x.2) (hb:∀ x∈b,Dt m x.2):∀ x∈cmS l b,Dt m x.2:=fun x hx=>by
 unfold cmS at hx;rcases B8.1 hx with hx | hx
 · obtain ⟨z,hz,rfl⟩:=D0.1 hx
   exact (hl z hz).aS hb
 · exact hb x (List.mem_filter.1 hx).1
structure Uni (A B:Tm) (l:List Bnd) (r:List (Tm×Tm)):Prop where
 idm:Idm l
 nm:∀ s v,bnd l s=some v->∀ w∈v.names,w∈A.names++B.names
 ld:∀ b∈l,Dt 2 b.2
 ln:∀ b∈l,b.2.nodes<=400
 ll:l.length+ub (A.names++B.names) l<=(A.names++B.names).length
 rd:∀ e∈r,Dt 2 e.1/\Dt 2 e.2
 ca:Cov (r.map fun e=>aS l e.1) (aS l A)
 cb:Cov (r.map fun e=>aS l e.2) (aS l B)
theorem tc {V:List ByteArray} {l:List Bnd} (hn:∀ s v,bnd l s=some v->∀ w∈v.names,w∈V) {t:Tm} (ht:∀ w∈t.names,w∈V):∀ w∈(aS l t).names,w∈V:=fun w hw=>by
 rcases zd l w t hw with ⟨h1,_⟩|⟨s,v,_,h2,h3⟩
 · exact ht w h1
 · exact hn s v h2 w h3
theorem Nc {l:List Bnd} (h:lrg l=false):∀ b∈l,b.2.nodes<=400:=fun b hb=>by
 unfold lrg at h;have:=List.any_eq_false.1 h b hb;simp only [decide_eq_true_eq] at this;omega
theorem oz {xs ys:List Tm} (h:xs.length=ys.length) (f:Tm->Tm):(xs.zip ys).map (fun e=>f e.1)=xs.map f:=by
 have:(xs.zip ys).map (fun e=>f e.1)=((xs.zip ys).map Prod.fst).map f:=by rw [G5]; rfl
 rw [this,List.map_fst_zip (by omega)]
theorem yb {xs ys:List Tm} (h:xs.length=ys.length) (f:Tm->Tm):(xs.zip ys).map (fun e=>f e.2)=ys.map f:=by
 have:(xs.zip ys).map (fun e=>f e.2)=((xs.zip ys).map Prod.snd).map f:=by rw [G5]; rfl
 rw [this,List.map_snd_zip (by omega)]
theorem vk {l:List Bnd} {xs:List Tm} (h:∀ x∈xs,Fx l x):xs.map (aS l)=xs:=by
 conv=>rhs; rw [<- List.map_id xs]
 exact F9 fun a ha=>Mz a (h a ha)
theorem Uni.next {A B:Tm} {l l1:List Bnd} {x y:Tm} {r m:List (Tm×Tm)} (h:Uni A B l ((x,y)::r)) (ht:trt (aS l x) (aS l y) l=some (l1,m)) (hl:lrg l1=false) :
 Uni A B l1 (m++r)/\(ub (A.names++B.names) l1<ub (A.names++B.names) l\/l1=l/\((m++r).map fun e=>(aS l e.1).nodes).sum<(((x,y)::r).map fun e=>(aS l e.1).nodes).sum):=by
 have hca:=h.ca;have hcb:=h.cb;simp only [C0] at hca hcb;have nA:=tc h.nm (t:=A) fun w hw=>List.mem_append_left _ hw
 have nB:=tc h.nm (t:=B) fun w hw=>List.mem_append_right _ hw
 have nx:∀ w∈(aS l x).names,w∈A.names++B.names:=fun w hw=>nA w (hca.names _ (B5 ..) w hw)
 have ny:∀ w∈(aS l y).names,w∈A.names++B.names:=fun w hw=>nB w (hcb.names _ (B5 ..) w hw)
 have dx:=(h.rd _ (B5 ..)).1.aS h.ld;have dy:=(h.rd _ (B5 ..)).2.aS h.ld;have fx:=Lx h.idm x;have fy:=Lx h.idm y;have hrd:∀ e∈r,Dt 2 e.1/\Dt 2 e.2:=fun e he=>h.rd e (B6 _ he)
 rcases Cc ht with ⟨_,rfl,rfl⟩|⟨v,u,hvu,hn,rfl,rfl⟩|⟨k1,k2,hs,hlen,rfl,rfl⟩
 · refine ⟨⟨h.idm,h.nm,h.ld,h.ln,h.ll,hrd,hca.drop,hcb.drop⟩,.inr ⟨rfl,?_⟩⟩
   simp only [G6,C0,J2];have:=Tm.nodes_eq (aS l1 x);omega
 · have hv:v∈A.names++B.names/\bnd l v=none/\Fx l u/\(∀ w∈u.names,w∈A.names++B.names)/\Dt 2 u:=by
    rcases hvu with ⟨hk,rfl,rfl⟩|⟨hk,rfl,rfl⟩
    · have hm:=(da (aS l x) _).2 (.inl ⟨hk,rfl⟩)
      exact ⟨nx _ hm,fx _ hm,fy,ny,dy⟩
    · have hm:=(da (aS l y) _).2 (.inl ⟨hk,rfl⟩)
      exact ⟨ny _ hm,fy _ hm,fx,nx,dx⟩
   obtain ⟨hv1,hv2,hv3,hv4,hv5⟩:=hv;have hub:=Od (y:=u) hv1 hv2;refine ⟨⟨Na h.idm hv3 hn,?_,Nb h.ld (by simpa using hv5),Nc hl,?_,hrd,?_,?_⟩,.inl hub⟩
   · intro s w hw z hz
     rw [jy] at hw;cases hq:bnd l s with
     | some q =>
      rw [hq] at hw;simp only [B7.injEq] at hw;subst hw;rcases (ta hn hz).2 with e | e
      · exact h.nm s q hq z e
      · exact hv4 z e
     | none =>
      rw [hq] at hw;simp only at hw;rw [jz] at hw;split at hw
      · simp only [B7.injEq] at hw; subst hw; exact hv4 z hz
      · simp at hw
   · have h1:=Jc l (v,u)
     have h2:=h.ll;omega
   · have:=(hca.sub [(v,u)]).drop
     rw [G5] at this;rw [G6,vj];have e:(r.map fun e=>aS (cmS l [(v,u)]) e.1)=r.map ((aS [(v,u)]) ∘ fun e=>aS l e.1):=F9 fun e _=>vj ..
     rw [e]; exact this
   · have:=(hcb.sub [(v,u)]).drop
     rw [G5] at this;rw [G6,vj];have e:(r.map fun e=>aS (cmS l [(v,u)]) e.2)=r.map ((aS [(v,u)]) ∘ fun e=>aS l e.2):=F9 fun e _=>vj ..
     rw [e]; exact this
 · have fxs:=fun a (ha:a∈(aS l1 x).as)=>fx.sub ha
   have fys:=fun a (ha:a∈(aS l1 y).as)=>fy.sub ha
   refine ⟨⟨h.idm,h.nm,h.ld,h.ln,h.ll,?_,?_,?_⟩,.inr ⟨rfl,?_⟩⟩
   · intro e he
     rcases B8.1 he with he | he
     · obtain ⟨q1,q2⟩:=List.of_mem_zip (a:=e.1) (b:=e.2) he
       exact ⟨dx.sub q1,dy.sub q2⟩
     · exact hrd e he
   · rw [N0,oz hlen,vk fxs]
     exact hca.args (by omega)
   · rw [N0,yb hlen,vk fys]
     exact hcb.args (by omega)
   · have e:(((aS l1 x).as.zip (aS l1 y).as).map fun e=>(aS l1 e.1).nodes)=(aS l1 x).as.map Tm.nodes:=by
      have:(((aS l1 x).as.zip (aS l1 y).as).map fun e=>(aS l1 e.1).nodes)=(((aS l1 x).as.zip (aS l1 y).as).map fun e=>aS l1 e.1).map Tm.nodes:=by rw [G5]; rfl
      rw [this,oz hlen,vk fxs]
     rw [N0,List.sum_append,e,C0,J2];have:=Tm.nodes_eq (aS l1 x);simp only;omega
end Go.Q
end
section
/- What unification gives. -/
namespace Go.Q
open Go
end Go.Q
end
section
namespace Go.Q
open Go
end Go.Q
end
section
/- Comparisons: a program with itself,turned about,and what a difference says. -/
namespace Go.Q
open Go
noncomputable def rnA (x:SyM) (c:Int):Option Mt:=Oo x.d (S.instR x.v x.t c) 200
def opn (x y:SyM) (c:Int):Prop:=¬ ∃ p q,rnA x c=some p/\rnA y c=some q/\p.o=1/\q.o=1
end Go.Q
end
section
/- Drawn terms,rules and definitions: their bounds. -/
namespace Go.Q
open Go
structure Wn (m:Nat) (t:Tm):Prop where
 w:Wt t
 n:t.nodes<=m
theorem Wn.mono {m k:Nat} {t:Tm} (h:Wn m t) (hm:m<=k):Wn k t:=⟨h.w,Nat.le_trans h.n hm⟩
structure GuW (g:Gu):Prop where
 k:0<=g.k/\g.k<=5
 l:Wn 3000 g.l
 r:Wn 3000 g.r
theorem GuW.b {g:Gu} (h:GuW g):GuB g:=⟨h.l.w,h.r.w,by have:=h.l.n; omega,by have:=h.r.n; omega⟩
structure RuW (u:RuM):Prop where
 n:u.n.size<=1000
 l:Wn 3000 u.l
 r:Wn 3000 u.r
 g:u.g.length<=10
 ga:∀ g∈u.g,GuW g
theorem RuW.b {r:RuM} (h:RuW r):RuB r:=⟨by have:=h.n; unfold maxLen; omega,h.l.w,h.r.w,by have:=h.l.n; omega,by have:=h.r.n; omega,by have:=h.g; omega,fun g hg=>(h.ga g hg).b⟩
structure DfW (d:DfM):Prop where
 so:d.so.length<=10
 sos:∀ x∈d.so,x.size<=1000
 op:d.op.length<=10
 opa:∀ o∈d.op,o.n.size<=1000/\o.a.length<=10/\(∀ x∈o.a,x.size<=1000)/\o.r.size<=1000
 ru:d.ru.length<=10
 rua:∀ r∈d.ru,RuW r
 st:d.st.length<=10
theorem DfW.sig {d:DfM} (h:DfW d):Nv d.op:=⟨by have:=h.op; omega,fun o ho=>by have:=(h.opa o ho).2.1; show o.a.length<=_; omega⟩
theorem DfW.b {d:DfM} (h:DfW d):DfB d:=⟨by have:=h.so; omega,fun x hx=>by have:=h.sos x hx; unfold maxLen; omega,h.sig,fun o ho=>by have:=(h.opa o ho).1; unfold maxLen; omega,by have:=h.ru; omega,fun r hr=>(h.rua r hr).b,by have:=h.st; omega⟩
end Go.Q
end
section
/- All steps of a term; a trace replayed; runs and traces. -/
namespace Go.Q
open Go
end Go.Q
end
section
/- A symbolic step stands for the step of every case; the tests of a symbolic term. -/
namespace Go.Q
open Go
end Go.Q
end
section
/- The runs of the cases of a path; the tests of different paths. -/
namespace Go.Q
open Go
end Go.Q
end
section
/- Paths: their traces,and that none is without a case. -/
namespace Go.Q
open Go
end Go.Q
end
section
/- Runs that are computed: an evaluator of shallow functions is Do. Open cases where a case may be none. -/
namespace Go.Q
open Go
def pS (f:ByteArray->List D->R):List D->R
 | .str x::l=>f x l
 | _=>none
def pI (f:Int->List D->R):List D->R
 | .int x::l=>f x l
 | _=>none
def pB (f:Bool->List D->R):List D->R
 | .bool x::l=>f x l
 | _=>none
def pL (f:ak->List D->R):List D->R
 | .sl x::l=>f x l
 | _=>none
def pE (b:R):List D->R
 | []=>b
 | _=>none
def Sd (H:Tab) (P:Program) (c:Key->List D->R) (k:Key) (pre:List D->List D) (v:List D->R):Prop:=∀ l r,v l=some r->step H c P k (pre l)=some r
section
variable {H:Tab} {P:Program} {c:Key->List D->R} {k:Key} {pre:List D->List D}
theorem Sd.S {f:ByteArray->List D->R} (h:∀ x,Sd H P c k (fun l=>pre (.str x::l)) (f x)):Sd H P c k pre (pS f):=fun l r e=>by
 unfold pS at e;split at e
 · exact h _ _ _ e
 · simp at e
theorem Sd.I {f:Int->List D->R} (h:∀ x,Sd H P c k (fun l=>pre (.int x::l)) (f x)):Sd H P c k pre (pI f):=fun l r e=>by
 unfold pI at e;split at e
 · exact h _ _ _ e
 · simp at e
theorem Sd.B {f:Bool->List D->R} (h:∀ x,Sd H P c k (fun l=>pre (.bool x::l)) (f x)):Sd H P c k pre (pB f):=fun l r e=>by
 unfold pB at e;split at e
 · exact h _ _ _ e
 · simp at e
theorem Sd.L {f:ak->List D->R} (h:∀ x,Sd H P c k (fun l=>pre (.sl x::l)) (f x)):Sd H P c k pre (pL f):=fun l r e=>by
 unfold pL at e;split at e
 · exact h _ _ _ e
 · simp at e
theorem Sd.E {b:R} (h:step H c P k (pre [])=b):Sd H P c k pre (pE b):=fun l r e=>by
 unfold pE at e;split at e
 · exact h.trans e
 · simp at e
end
theorem cnd {b:Bool} {x y:R} {r:Nat×List D} {Q:Prop} (h:(bif b then x else y)=some r) (h1:b=true->x=some r->Q) (h2:b=false->y=some r->Q):Q:=by
 cases b
 · exact h2 rfl h
 · exact h1 rfl h
structure ClW (vl:List ByteArray) (lt rt:Tm) (gl:List Gu):Prop where
 v:vl.length<=20
 vs:∀ x∈vl,x.size<=1000
 l:Wn 3000 lt
 r:Wn 3000 rt
 g:gl.length<=20
 ga:∀ x∈gl,GuW x
theorem ClW.b {v:List ByteArray} {l r:Tm} {g:List Gu} (h:ClW v l r g) {d:DfM} (hd:DfB d):ClB ⟨d,v,l,r,g⟩ :=
 ⟨hd,by have:=h.v; show v.length<=_; omega,fun x hx=>by have:=h.vs x hx; unfold maxLen; omega,h.l.w,h.r.w,by have:=h.l.n; show l.nodes<=_; omega,by have:=h.r.n; show r.nodes<=_; omega,by have:=h.g; show g.length<=_; omega,fun x hx=>(h.ga x hx).b⟩
end Go.Q
end
section
/- Proofs that are found are right; claims that are Hf have no refutation. -/
namespace Go.Q
open Go
def At (ns:List PnM) (b:Nat) (l:List PnM):Prop:=∃ pre post,ns=pre++(l++post)/\pre.length=b
theorem At.fst {ns:List PnM} {b:Nat} {x:PnM} {l:List PnM} (h:At ns b (x::l)):ns[b]?=some x/\b<ns.length/\At ns (b+1) l:=by
 obtain ⟨pre,post,rfl,rfl⟩:=h;refine ⟨by simp,by simp,pre++[x],post,by simp,by simp⟩
theorem At.app {ns:List PnM} {b:Nat} {l m:List PnM} (h:At ns b (l++m)):At ns b l/\At ns (b+l.length) m:=by
 obtain ⟨pre,post,rfl,rfl⟩:=h;exact ⟨⟨pre,m++post,by simp,rfl⟩,⟨pre++l,post,by simp,by simp⟩⟩
end Go.Q
end
section
/- ak of proofs that are changed; loops that go through. -/
namespace Go.Q
open Go
section
variable {L:List PnM} {m:Nat}
end
theorem Oc.b {n:PnM} (h:Oc n):PnB n:=⟨by have:=h.nl; omega,by have:=h.sl; omega,fun b hb=>Ea _ (by have:=(h.sb b hb).2.2; omega)⟩
end Go.Q
end
section
/- An evaluator that asks Hf summaries. -/
namespace Go.Q
open Go
theorem Sd.rn {H:Tab} {P:Program} {c:Key->List D->R} {k:Key} {v:List D->R} (hc:∀ k l r,c k l=some r->run H P k l=some r) (h:Sd H P c k (fun l=>l) v) {l:List D} {r:Nat×List D} (e:v l=some r):run H P k l=some r:=yn (js hc (h l r e))
structure En (H:Tab) (P:Program) where
 k:Key
 v:List D->R
 h:∀ l r,v l=some r->run H P k l=some r
def OkC (H:Tab) (P:Program) (c:Key->List D->R):Prop:=∀ k l r,c k l=some r->run H P k l=some r
theorem Sd.en {H:Tab} {P:Program} {c:Key->List D->R} {k:Key} {v:List D->R} (hc:OkC H P c) (h:Sd H P c k (fun l=>l) v):∀ l r,v l=some r->run H P k l=some r:=fun l r e=>Sd.rn hc h e
def lkE {H:Tab} {P:Program} (k:Key) (l:List D):List (En H P)->R
 | []=>none
 | e::t=>bif Nat.beq k.f e.k.f&&(Nat.beq k.n e.k.n&&Nat.beq k.v e.k.v) then e.v l else lkE k l t
theorem Fa {H:Tab} {P:Program} {k:Key} {l:List D} {r:Nat×List D}:∀ T:List (En H P),lkE k l T=some r->run H P k l=some r
 | [],h=>by simp [lkE] at h
 | e::t,h=>cnd h (fun a b=>by
  simp only [B4] at a;have e1:k=e.k:=by
   obtain ⟨f,v,n⟩:=k;have a1:=K4 a.1;have a2:=K4 a.2.1;have a3:=K4 a.2.2;simp only at a1 a2 a3;rw [a1,a2,a3]
  rw [e1];exact e.h l r b) fun _ b=>Fa t b
def evE {H:Tab} {P:Program} (T:(c:Key->List D->R)->OkC H P c->List (En H P)):Nat->{c:Key->List D->R // OkC H P c}
 | 0=>⟨fun _ _=>none,fun k l r h=>by simp at h⟩
 | n+1=>⟨fun k l=>lkE k l (T (evE T n).1 (evE T n).2),fun k l r h=>Fa _ h⟩
end Go.Q
end
section
/- ak that are written over. -/
namespace Go.Q
open Go
def Jd (r:List D):Nat×Nat×Nat:=(((nth r 3).L).length,((nth r 8).L).length,r.length)
theorem Cd {R:ak} {i j:Nat} {x:List D} (hi:i<R.length):rowAt (R.set i x) j=if i=j then x else rowAt R j:=by
 unfold rowAt;simp only [List.getD_eq_getElem?_getD,List.getElem?_set];by_cases h:i=j
 · subst h; simp [hi]
 · simp [h]
structure RwI (R R':ak):Prop where
 l:R'.length=R.length
 e:∀ j,Jd (rowAt R' j)=Jd (rowAt R j)
theorem RwI.refl (R:ak):RwI R R:=⟨rfl,fun _=>rfl⟩
theorem RwI.trans {A B C:ak} (h:RwI A B) (k:RwI B C):RwI A C:=⟨k.l.trans h.l,fun j=>(k.e j).trans (h.e j)⟩
theorem RwI.set {R:ak} {i:Nat} (hi:i<R.length) {x:List D} (hx:Jd x=Jd (rowAt R i)):RwI R (over i [x] R):=by
 rw [ow _ _ _ hi];refine ⟨by simp,fun j=>?_⟩
 rw [Cd hi];split
 · rename_i h; subst h; exact hx
 · rfl
end Go.Q
end
section
/- Texts of terms,guards and claims. -/
namespace Go.Q
open Go
end Go.Q
end
