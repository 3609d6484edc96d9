/- The plain laws of what the functions answer, part 1. -/
import Derived.Test.YtellefgblgipoaaDoorQC
set_option linter.unusedVariables false
set_option linter.unusedSimpArgs false
open Bool renaming and_eq_true->B5,not_eq_true'->D1
open Int renaming tmod_lt_of_pos->N3,tmod_nonneg->O6
open List renaming mem_cons_of_mem->B6,mem_cons_self->B7,map_cons->B9,getElem_mem->C1,mem_append->C2,getElem?_eq_some_iff->C3,mem_cons->C4,all_eq_true->C7,length_map->D2,length_eq_zero_iff->D5,append_assoc->D6,cons_append->D8,mem_map->D9,nil_append->E4,length_cons->F1,sum_cons->F7,length_append->G5,mem_flatMap->G6,mem_singleton->J0,drop_zero->J1,cons->J3,map_map->J4,map_congr_left->J5,mem_or_eq_of_mem_set->N0,map_nil->N4,map_append->O5,mem_of_getElem?->O8,set_cons_succ->P3,length_nil->P5,flatMap_cons->P9,filter_cons->Q3,mem_filterMap->Q6
open Nat renaming lt_succ_self->F6,le_trans->F9,zero_add->K3,zero_le->O9
open Option renaming some->C0
open Prod renaming mk->D7
section
namespace Go.Q
open Go
inductive Tm where
 | mk (k n:Int) (s:ByteArray) (as:List Tm)
namespace Tm
def k:Tm->Int | mk k _ _ _=>k
def n:Tm->Int | mk _ n _ _=>n
def s:Tm->ByteArray | mk _ _ s _=>s
def as:Tm->List Tm | mk _ _ _ as=>as
mutual
def row:Tm->List D
 | mk k n s as=>[.int k,.int n,.str s,.sl (rows as)]
def rows:List Tm->List (List D)
 | []=>[]
 | t::ts=>row t::rows ts
end
theorem rows_map:∀ ts:List Tm,rows ts=ts.map row
 | []=>rfl
 | t::ts=>by simp only [rows,B9,rows_map ts]
theorem row_eq (t:Tm):t.row=[.int t.k,.int t.n,.str t.s,.sl (t.as.map row)]:=by
 cases t; simp only [row,rows_map,Tm.k,Tm.n,Tm.s,Tm.as]
theorem ind {P:Tm->Prop} (h:∀ t,(∀ a∈t.as,P a)->P t):∀ t,P t:=by
 have key:∀ (N:Nat) (t:Tm),SizeOf.sizeOf t<N->P t:=by
  intro N;induction N with
  | zero=>intro t ht; omega
  | succ N ih =>
   intro t ht;refine h t fun a ha=>ih a ?_
   cases t with
   | mk k n s as =>
    simp only [Tm.as] at ha;have:=List.sizeOf_lt_of_mem ha;simp only [mk.sizeOf_spec] at ht;omega
 exact fun t=>key _ t (F6 _)
end Tm
inductive Small:Tm->Prop
 | mk {t:Tm}:t.as.length<=1048576->(∀ a∈t.as,Small a)->Small t
theorem Small.len {t:Tm} (h:Small t):t.as.length<=1048576:=by cases h; assumption
theorem Small.sub {t a:Tm} (h:Small t) (ha:a∈t.as):Small a:=by cases h with | mk _ h=>exact h a ha
structure TmTy (H:Tab) (e:TypeId) (lay:List CT):Prop where
 eq:lay=[.int .i64,.int .i64,.str,.sl e]
 ty:∃ ti,H.ty e=some ti/\ti.lay=lay
theorem tm_of {H:Tab} {e:TypeId} {lay:List CT} (hT:TmTy H e lay):∀ (N:Nat) (ds:List D),SizeOf.sizeOf ds<N->WL H ds lay->szL ds<=1048576->∃ t:Tm,ds=t.row/\Small t
 | 0,ds,hN,_,_=>absurd hN (Nat.not_lt_zero _)
 | N+1,ds,hN,h,hz=>by
  have h0:=h;obtain ⟨ti,hty,hl⟩:=hT.ty;rw [hT.eq] at h;obtain ⟨a0,_,rfl,_,h⟩:=wl_int h;obtain ⟨a1,_,rfl,_,h⟩:=wl_int h;obtain ⟨a2,_,rfl,b2,h⟩:=wl_str h;obtain ⟨a3,_,rfl,b3,c3,h⟩:=wl_sl hty h;obtain rfl:=wl_nil h;simp only [szL,D.sz] at hz;have key:∀ rs:Rows,(∀ r∈rs,r∈a3)->∃ ts:List Tm,rs=ts.map Tm.row/\∀ t∈ts,Small t:=by
   intro rs;induction rs with
   | nil=>intro _; exact ⟨[],rfl,by simp⟩
   | cons r rs ih =>
    intro hm;obtain ⟨ts,e1,e2⟩:=ih fun r hr=>hm r (B6 _ hr)
    have hr:=hm r (B7 ..);have hw:=WRs_mem c3 hr;rw [hl] at hw;have h1:=size_row hr;obtain ⟨t,e3,e4⟩:=tm_of hT N r (by simp only [J3.sizeOf_spec,D.sl.sizeOf_spec] at hN; omega) hw (by have:=szR_mem hr; omega)
    exact ⟨t::ts,by rw [e1,e3]; rfl,fun x hx=>by
     rcases C4.1 hx with rfl | hx
     · exact e4
     · exact e2 x hx⟩
  obtain ⟨ts,e1,e2⟩:=key a3 fun _ h=>h
  refine ⟨.mk a0 a1 a2 ts,by rw [Tm.row_eq]; simp only [Tm.k,Tm.n,Tm.s,Tm.as,e1],.mk ?_ e2⟩
  have:a3.length=ts.length:=by rw [e1]; simp
  simp only [Tm.as]; omega
theorem strs_of {H:Tab}:∀ (rs:Rows),WRs H rs [.str]->∃ ss:List ByteArray,rs=ss.map fun s=>[.str s]
 | [],_=>⟨[],rfl⟩
 | r::rs,h=>by
  simp only [WRs] at h;obtain ⟨a,_,rfl,_,h1⟩:=wl_str h.1;obtain rfl:=wl_nil h1;obtain ⟨ss,rfl⟩:=strs_of rs h.2;exact ⟨a::ss,rfl⟩
abbrev Bnd:=ByteArray×Tm
def Bnd.row (b:Bnd):List D:=.str b.1::b.2.row
def bnd:List Bnd->ByteArray->Option Tm
 | [],_=>none
 | b::r,s=>if b.1=s then some b.2 else bnd r s
def tm0:Tm:=.mk 0 0 ⟨#[]⟩ []
theorem bnd_mem {l:List Bnd} {s:ByteArray} {t:Tm} (h:bnd l s=some t):∃ b∈l,b.2=t:=by
 induction l with
 | nil=>simp [bnd] at h
 | cons b l ih =>
  simp only [bnd] at h;split at h
  · exact ⟨b,B7 ..,by simpa using h⟩
  · obtain ⟨b',h1,h2⟩:=ih h; exact ⟨b',B6 _ h1,h2⟩
mutual
def aS (l:List Bnd):Tm->Tm
 | .mk k n s as=>match (if k=1 then bnd l s else none) with
  | some u=>u
  | none=>.mk k n s (aSs l as)
def aSs (l:List Bnd):List Tm->List Tm
 | []=>[]
 | t::ts=>aS l t::aSs l ts
end
theorem aSs_map (l:List Bnd):∀ ts,aSs l ts=ts.map (aS l)
 | []=>rfl
 | t::ts=>by simp only [aSs,B9,aSs_map l ts]
theorem aS_eq (l:List Bnd) (t:Tm):aS l t=match (if t.k=1 then bnd l t.s else none) with
 | some u=>u
 | none=>.mk t.k t.n t.s (t.as.map (aS l)):=by cases t; simp only [aS,aSs_map,Tm.k,Tm.n,Tm.s,Tm.as]; rfl
def isW (t:Tm):Bool:=decide (t.k=3)&&(decide (0<=t.n)&&(decide (t.n<4)&&(decide (t.s=⟨#[]⟩)&&decide (t.as.length=0))))
def plusS:ByteArray:=⟨#[112,108,117,115]⟩
def minusS:ByteArray:=⟨#[109,105,110,117,115]⟩
def timesS:ByteArray:=⟨#[116,105,109,101,115]⟩
def isB (s:ByteArray):Bool:=decide (s=plusS)||(decide (s=minusS)||decide (s=timesS))
def cmp (s:ByteArray) (a b:Int):Int:=if s=plusS then (a+b).tmod 4 else if s=minusS then (a-b+4).tmod 4 else (a*b).tmod 4
def rW1 (k n:Int) (s:ByteArray) (as:List Tm):Tm :=
 match as with
 | [x,y]=>if k=2/\n=0/\isB s=true/\isW x=true/\isW y=true then .mk 3 (cmp s x.n y.n) ⟨#[]⟩ [] else .mk k n s as
 | _=>.mk k n s as
mutual
def rW:Tm->Tm
 | .mk k n s as=>rW1 k n s (rWs as)
def rWs:List Tm->List Tm
 | []=>[]
 | t::ts=>rW t::rWs ts
end
theorem rWs_map:∀ ts,rWs ts=ts.map rW
 | []=>rfl
 | t::ts=>by simp only [rWs,B9,rWs_map ts]
theorem rW_eq (t:Tm):rW t=rW1 t.k t.n t.s (t.as.map rW):=by cases t; simp only [rW,rWs_map,Tm.k,Tm.n,Tm.s,Tm.as]
def cnt4 (n:Nat):Int:=if n<=3 then 4 ^ n else 0
def isC (n:Nat) (c:Int):Bool:=decide (0<=c)&&decide (c<cnt4 n)
def vals (n:Nat) (c:Int):List Int :=
 if isC n c then (match n with
  | 0=>[]
  | 1=>[c.tmod 4]
  | 2=>[(c.tdiv 4).tmod 4,c.tmod 4]
  | _=>[((c.tdiv 4).tdiv 4).tmod 4,(c.tdiv 4).tmod 4,c.tmod 4]) else []
def word (n:Int):Tm:=.mk 3 n ⟨#[]⟩ []
def caseS (vars:List ByteArray) (c:Int):List Bnd:=(vars.zip (vals vars.length c)).map fun p=>(p.1,word p.2)
def inst (vars:List ByteArray) (t:Tm) (c:Int):Tm:=rW (aS (caseS vars c) t)
theorem map_loop {α:Type} {F:Nat->Rows->R} {xs:List α} (g:α->List D) {K:Rows->R}
 (hs:∀ i (hi:i<xs.length) acc,acc.length=i->F i acc=F (i+1) (acc++[g xs[i]])) (he:∀ acc,F xs.length acc=K acc):F 0 []=K (xs.map g):=by
 have key:∀ (n i:Nat),i+n=xs.length->F i ((xs.take i).map g)=K (xs.map g):=by
  intro n;induction n with
  | zero =>
   intro i hi;have:i=xs.length:=by omega
   subst this;rw [he,List.take_length]
  | succ n ih =>
   intro i hi;have hlt:i<xs.length:=by omega
   rw [hs i hlt _ (by simp; omega),<- ih (i+1) (by omega),List.take_succ_eq_append_getElem hlt]
   simp only [O5,B9,N4]
 simpa using key xs.length 0 (by omega)
theorem rowAt_map {α:Type} {xs:List α} {g:α->List D} {i:Nat} (hi:i<xs.length):rowAt (xs.map g) i=g xs[i]:=by simp [rowAt,List.getD,hi]
end Go.Q
end
section
namespace Go.Q
open Go
def sRow (s:ByteArray):List D:=[.str s]
def iRow (n:Int):List D:=[.int n]
theorem strs_of' {H:Tab} {rs:Rows} (h:WRs H rs [.str]):∃ ss:List ByteArray,rs=ss.map sRow:=strs_of rs h
theorem cnt4_big {n:Nat} (h:3<n):cnt4 n=0:=by unfold cnt4; rw [H6 (by omega)]
theorem cnt4_le (n:Nat):0<=cnt4 n/\cnt4 n<=64:=by
 by_cases h:3<n
 · rw [cnt4_big h]; decide
 · obtain rfl | rfl | rfl | rfl:n=0\/n=1\/n=2\/n=3:=by omega
   all_goals decide
theorem isC_le {n:Nat} {c:Int} (h:isC n c=true):n<=3/\0<=c/\c<64:=by
 simp only [isC,B5,decide_eq_true_eq] at h;obtain ⟨h1,h2⟩:=h;have h3:=cnt4_le n;by_cases hn:3<n
 · rw [cnt4_big hn] at h2; omega
 · omega
end Go.Q
namespace Go.Q
end Go.Q
end
section
namespace Go.Q
open Go
namespace Tm
mutual
def names:Tm->List ByteArray
 | .mk k _ s as=>(if k=1 then [s] else [])++namesL as
def namesL:List Tm->List ByteArray
 | []=>[]
 | t::ts=>names t++namesL ts
end
theorem namesL_eq:∀ ts,namesL ts=ts.flatMap names
 | []=>rfl
 | t::ts=>by simp only [namesL,P9,namesL_eq ts]
theorem names_eq (t:Tm):t.names=(if t.k=1 then [t.s] else [])++t.as.flatMap names:=by cases t; simp only [names,namesL_eq,Tm.k,Tm.s,Tm.as]; rfl
theorem as_mk (k n:Int) (s:ByteArray) (as:List Tm):(Tm.mk k n s as).as=as:=rfl
theorem k_mk (k n:Int) (s:ByteArray) (as:List Tm):(Tm.mk k n s as).k=k:=rfl
theorem s_mk (k n:Int) (s:ByteArray) (as:List Tm):(Tm.mk k n s as).s=s:=rfl
mutual
def nodes:Tm->Nat
 | .mk _ _ _ as=>1+nodesL as
def nodesL:List Tm->Nat
 | []=>0
 | t::ts=>nodes t+nodesL ts
end
theorem nodesL_eq:∀ ts,nodesL ts=(ts.map nodes).sum
 | []=>rfl
 | t::ts=>by simp only [nodesL,B9,F7,nodesL_eq ts]
theorem nodes_eq (t:Tm):t.nodes=1+(t.as.map nodes).sum:=by cases t; simp only [nodes,nodesL_eq,Tm.as]
end Tm
theorem sum_le {α:Type} {xs:List α} {f g:α->Nat} (h:∀ x∈xs,f x<=g x):(xs.map f).sum<=(xs.map g).sum:=by
 induction xs with
 | nil=>simp
 | cons x xs ih =>
  simp only [B9,F7];have h1:=h x (B7 ..);have h2:=ih fun y hy=>h y (B6 _ hy)
  omega
theorem mem_sum {α:Type} {xs:List α} {f:α->Nat} {x:α} (h:x∈xs):f x<=(xs.map f).sum:=by
 induction xs with
 | nil=>simp at h
 | cons y xs ih =>
  simp only [B9,F7];rcases C4.1 h with rfl | h
  · omega
  · have:=ih h; omega
theorem len_sum {xs:List Tm}:xs.length<=(xs.map Tm.nodes).sum:=by
 induction xs with
 | nil=>simp
 | cons x xs ih =>
  simp only [B9,F7,F1];have:=Tm.nodes_eq x; omega
theorem small_of:∀ t:Tm,t.nodes<=1048577->Small t:=Tm.ind fun t ih h=>by
 have h1:=Tm.nodes_eq t;have h2:=len_sum (xs:=t.as);exact .mk (by omega) fun a ha=>ih a ha (by have:=mem_sum (f:=Tm.nodes) ha; omega)
theorem aS_nodes {l:List Bnd} (hl:∀ b∈l,b.2.nodes=1):∀ t,(aS l t).nodes<=t.nodes:=Tm.ind fun t ih=>by
 rw [aS_eq];have h1:=Tm.nodes_eq t;split
 · rename_i u hu
   split at hu
   · obtain ⟨b,h1,rfl⟩:=bnd_mem hu; rw [hl b h1]; omega
   · simp at hu
 · rw [Tm.nodes_eq]
   simp only [Tm.as_mk,J4];have:=sum_le (xs:=t.as) (f:=Tm.nodes ∘ aS l) (g:=Tm.nodes) ih;omega
theorem rW1_nodes (k n:Int) (s:ByteArray) (us:List Tm):(rW1 k n s us).nodes<=1+(us.map Tm.nodes).sum:=by
 unfold rW1;split
 · split
   · simp only [Tm.nodes,Tm.nodesL]; omega
   · rw [Tm.nodes_eq,Tm.as_mk]; omega
 · rw [Tm.nodes_eq,Tm.as_mk]; omega
theorem rW_nodes:∀ t,(rW t).nodes<=t.nodes:=Tm.ind fun t ih=>by
 have h1:=Tm.nodes_eq t;have h2:=sum_le (xs:=t.as) (f:=Tm.nodes ∘ rW) (g:=Tm.nodes) ih;have h3:=rW1_nodes t.k t.n t.s (t.as.map rW);rw [J4] at h3;rw [rW_eq];omega
theorem isW_names {t:Tm} (h:isW t=true):t.names=[]:=by
 simp only [isW,B5,decide_eq_true_eq] at h;rw [Tm.names_eq,H6 (by omega),D5.1 h.2.2.2.2]
 rfl
theorem rW1_names (k n:Int) (s:ByteArray) (us:List Tm):(rW1 k n s us).names=(if k=1 then [s] else [])++us.flatMap Tm.names:=by
 unfold rW1;split
 · rename_i x y
   split
   · rename_i h
     have e1:=isW_names h.2.2.2.1;have e2:=isW_names h.2.2.2.2;obtain ⟨rfl,_⟩:=h;show ([]:List ByteArray)=([]:List ByteArray)++[x,y].flatMap Tm.names
     simp [e1,e2]
   · rw [Tm.names_eq]; rfl
 · rw [Tm.names_eq]; rfl
theorem flat_congr {xs:List Tm} {f g:Tm->List ByteArray} (h:∀ x∈xs,f x=g x):xs.flatMap f=xs.flatMap g:=by
 induction xs with
 | nil=>rfl
 | cons x xs ih=>rw [P9,P9,h x (B7 ..),ih fun y hy=>h y (B6 _ hy)]
theorem rW_names:∀ t,(rW t).names=t.names:=Tm.ind fun t ih=>by
 have e:(t.as.map rW).flatMap Tm.names=t.as.flatMap Tm.names:=by
  rw [List.flatMap_map];exact flat_congr fun x hx=>ih x hx
 rw [rW_eq,Tm.names_eq t,<- e];exact rW1_names ..
def isG (t:Tm):Bool:=decide ((t.names.length:Int)=0)
structure Gu where
 k:Int
 l:Tm
 r:Tm
def Gu.row (g:Gu):List D:=[.int g.k,.int g.l.k,.int g.l.n,.str g.l.s,.sl (g.l.as.map Tm.row),.int g.r.k,.int g.r.n,.str g.r.s,.sl (g.r.as.map Tm.row)]
noncomputable def holds (g:Gu):Bool :=
 isG g.l&&(isG g.r&&(if g.k=1 then eqb (rW g.l).row (rW g.r).row else if g.k=2 then !eqb (rW g.l).row (rW g.r).row else if g.k=3 then isW (rW g.l)&&(isW (rW g.r)&&decide ((rW g.l).n<(rW g.r).n)) else false))
def appG (l:List Bnd) (g:Gu):Gu:=⟨g.k,aS l g.l,aS l g.r⟩
def Gu.ok (g:Gu):Prop:=g.l.nodes<=1048577/\g.r.nodes<=1048577
def Good (r:R) (Q:Nat×List D->Prop):Prop:=∃ x,r=some x/\Q x
theorem Good.bind {r:R} {f:Nat×List D->R} {P Q:Nat×List D->Prop} (h:Good r P) (k:∀ x,P x->Good (f x) Q):Good (r.bind f) Q:=by
 obtain ⟨x,rfl,hx⟩:=h;exact k x hx
theorem Good.ret {x:Nat×List D} {Q:Nat×List D->Prop} (h:Q x):Good (some x) Q:=⟨x,rfl,h⟩
theorem Good.mono {r:R} {P Q:Nat×List D->Prop} (h:Good r P) (k:∀ x,P x->Q x):Good r Q:=by
 obtain ⟨x,h1,h2⟩:=h;exact ⟨x,h1,k x h2⟩
end Go.Q
namespace Go.Q
open Go
end Go.Q
end
section
namespace Go.Q.S
open Go Go.Q
end Go.Q.S
end
section
/- Marks: numbers written into all that a row of data holds,and read again. -/
namespace Go.Q.S
open Go Go.Q
mutual
def cntD:D->Nat
 | .int _=>1
 | .bool _=>0
 | .str _=>1
 | .sl rows=>cntR rows
def cntL:List D->Nat
 | []=>0
 | d::ds=>cntD d+cntL ds
def cntR:List (List D)->Nat
 | []=>0
 | r::rs=>cntL r+cntR rs
end
variable {mt:Int->ByteArray}
end Go.Q.S
end
section
/- Terms that are made are well typed; how many marks they bear. -/
namespace Go.Q.S
open Go Go.Q
def i64ok (n:Int):Prop:=(Lit.int .i64 n).wf=true
theorem i64ok_of {n:Int} (h:-9223372036854775808<=n) (h':n<=9223372036854775807):i64ok n:=by
 have h1:IntKind.i64.min=-9223372036854775808:=by decide
 have h2:IntKind.i64.max=9223372036854775807:=by decide
 unfold i64ok Lit.wf;simp only [h1,h2,B5,decide_eq_true_eq];exact ⟨h,h'⟩
section
variable {H:Tab} {e:TypeId} {lay:List CT} (hT:TmTy H e lay)
theorem wrs_map {α:Type} {g:α->List D}:∀ {l:List α},WRs H (l.map g) lay↔∀ a∈l,WL H (g a) lay
 | []=>by simp [WRs]
 | a::l=>by simp only [B9,WRs,wrs_map (l:=l),List.forall_mem_cons]
include hT
theorem wl_row (t:Tm):WL H t.row lay↔i64ok t.k/\i64ok t.n/\t.s.size<=maxLen/\t.as.length<=maxLen/\∀ a∈t.as,WL H a.row lay:=by
 obtain ⟨ti,hty,hl⟩:=hT.ty;rw [Tm.row_eq];have hw:=@wrs_map H lay Tm Tm.row t.as;rw [hT.eq] at hw ⊢;simp only [WL,WD,i64ok];constructor
 · rintro ⟨_,_,h1,⟨k1,rfl,h2⟩,_,_,rfl,⟨k2,rfl,h3⟩,_,_,rfl,⟨rfl,h4⟩,_,_,rfl,⟨e',ti',rfl,h5,h6,h7⟩,h8⟩
   simp only [J3.injEq,CT.int.injEq,CT.sl.injEq] at h1;obtain ⟨rfl,rfl,_,rfl,rfl⟩:=h1;rw [hty] at h5;obtain rfl:ti=ti':=by simpa using h5
   rw [hl,hT.eq] at h7;exact ⟨h2,h3,h4,by simpa using h6,hw.1 h7⟩
 · rintro ⟨h1,h2,h3,h4,h5⟩
   exact ⟨_,_,rfl,⟨_,rfl,h1⟩,_,_,rfl,⟨_,rfl,h2⟩,_,_,rfl,⟨rfl,h3⟩,_,_,rfl,⟨e,ti,rfl,hty,by simpa using h4,by rw [hl,hT.eq]; exact hw.2 h5⟩,rfl⟩
omit hT in
theorem cmp_ok {s:ByteArray} {x y:Tm} (hx:isW x=true) (hy:isW y=true):i64ok (cmp s x.n y.n):=by
 simp only [isW,B5,decide_eq_true_eq] at hx hy;obtain ⟨_,a1,a2,_⟩:=hx;obtain ⟨_,b1,b2,_⟩:=hy;unfold cmp;split
 · have h1:=N3 (x.n+y.n) (show (0:Int)<4 by decide)
   have h2:=O6 4 (show 0<=x.n+y.n by omega)
   exact i64ok_of (by omega) (by omega)
 · split
   · have h1:=N3 (x.n-y.n+4) (show (0:Int)<4 by decide)
     have h2:=O6 4 (show 0<=x.n-y.n+4 by omega)
     exact i64ok_of (by omega) (by omega)
   · have h1:=N3 (x.n*y.n) (show (0:Int)<4 by decide)
     have h2:=O6 4 (show 0<=x.n*y.n from Int.mul_nonneg a1 b1)
     exact i64ok_of (by omega) (by omega)
end
def instR (vars:List ByteArray) (t:Tm) (c:Int):Tm:=if isC vars.length c then inst vars t c else tm0
theorem szR_map {α:Type} {g:α->List D}:∀ (l:List α),szR (l.map g)=(l.map fun a=>szL (g a)).sum
 | []=>rfl
 | a::l=>by simp only [B9,szR,szR_map l,F7]
theorem cntR_map {α:Type} {g:α->List D}:∀ (l:List α),cntR (l.map g)=(l.map fun a=>cntL (g a)).sum
 | []=>rfl
 | a::l=>by simp only [B9,cntR,cntR_map l,F7]
theorem tm_nodes:∀ t:Tm,t.nodes<=1+szL t.row:=Tm.ind fun t ih=>by
 rw [Tm.nodes_eq,Tm.row_eq];simp only [szL,D.sz,D2,szR_map];have h:(t.as.map Tm.nodes).sum<=(t.as.map fun a=>1+szL a.row).sum:=sum_le fun a ha=>ih a ha
 have h2:∀ l:List Tm,(l.map fun a=>1+szL a.row).sum=l.length+(l.map fun a=>szL a.row).sum:=fun l=>by
  induction l with
  | nil=>rfl
  | cons a l ih=>simp only [B9,F7,F1,ih]; omega
 rw [h2] at h;omega
theorem tm_cnt:∀ t:Tm,cntL t.row<=3*t.nodes:=Tm.ind fun t ih=>by
 rw [Tm.nodes_eq,Tm.row_eq];simp only [cntL,cntD,cntR_map];have h:(t.as.map fun a=>cntL a.row).sum<=(t.as.map fun a=>3*a.nodes).sum:=sum_le fun a ha=>ih a ha
 have h2:∀ l:List Tm,(l.map fun a=>3*a.nodes).sum=3*(l.map Tm.nodes).sum:=fun l=>by
  induction l with
  | nil=>rfl
  | cons a l ih=>simp only [B9,F7,ih]; omega
 rw [h2] at h;omega
theorem tm_cntR (t:Tm):cntR (t.as.map Tm.row)<=3*t.nodes:=by
 have:=tm_cnt t;rw [Tm.row_eq] at this;simp only [cntL,cntD] at this;omega
end Go.Q.S
end
section
/- Cells laid together; filters that may break off. -/
namespace Go.Q.S
open Go Go.Q
section
variable {H:Tab} {ds:List D} {cts:List CT}
end
theorem tm0_nodes (t:Tm):tm0.nodes<=t.nodes:=by
 have h1:tm0.nodes=1:=by rw [Tm.nodes_eq]; simp [tm0,Tm.as]
 have:=Tm.nodes_eq t;omega
end Go.Q.S
end
section
namespace Go.Q
open Go
abbrev Ky:=List UInt8
theorem key_inj {a b:ByteArray} (h:a.data.toList=b.data.toList):a=b:=by
 cases a; cases b; simp only at h; congr 1; exact Array.ext' h
def ofK (k:Ky):ByteArray:=⟨k.toArray⟩
def toK (b:ByteArray):Ky:=b.data.toList
theorem ofK_toK (b:ByteArray):ofK (toK b)=b:=by simp [ofK,toK]
theorem rowS_sRow (k:Ky):rowS k=sRow (ofK k):=rfl
theorem sRow_map (l:List ByteArray):l.map sRow=(l.map toK).map rowS:=by
 rw [J4];exact J5 fun b _=>by simp only [Function.comp,rowS_sRow,ofK_toK]
end Go.Q
end
section
/- Guards and other rows out of data. -/
namespace Go.Q.S
open Go Go.Q
theorem gu_of {H:Tab} {e:TypeId} {lay:List CT} (hT:TmTy H e lay) {r:List D} (h:WL H r (.int .i64::(lay++lay))) (hz:szL r<=1048575):∃ g:Gu,r=g.row/\g.ok/\Small g.l/\Small g.r/\WL H g.l.row lay/\WL H g.r.row lay/\i64ok g.k:=by
 obtain ⟨k,ds,rfl,hk,h1⟩:=wl_int h;have hlen:lay.length=4:=by rw [hT.eq]; rfl
 have hd:=h1.len;have h2:=WL.part 0 4 h1;have h3:=WL.part 4 4 h1;rw [J1,J1,List.take_left' hlen] at h2;rw [show ((lay++lay).drop 4).take 4=lay by rw [List.drop_left' hlen]; exact List.take_of_length_le (by omega)] at h3
 rw [G5,hlen] at hd;have hs:ds=ds.take 4++(ds.drop 4).take 4:=by
  rw [List.take_of_length_le (l:=ds.drop 4) (by simp [hd]),List.take_append_drop]
 have hsz:szL (.int k::ds)=szL (ds.take 4)+szL ((ds.drop 4).take 4):=by
  have key:∀ a b:List D,szL (a++b)=szL a+szL b:=fun a b=>by
   induction a with
   | nil=>simp [szL]
   | cons x a ih=>simp only [D8,szL,ih]; omega
  conv=>lhs; rw [hs]
  simp only [szL,D.sz,key]; omega
 obtain ⟨l,e1,s1⟩:=tm_of hT _ _ (F6 _) h2 (by omega)
 obtain ⟨r,e2,s2⟩:=tm_of hT _ _ (F6 _) h3 (by omega)
 have n1:=tm_nodes l;have n2:=tm_nodes r;rw [<- e1] at n1;rw [<- e2] at n2;have b1:szL (ds.take 4)<=1048575:=by omega
 have b2:szL ((ds.drop 4).take 4)<=1048575:=by omega
 refine ⟨⟨k,l,r⟩,?_,⟨F9 n1 (by omega),F9 n2 (by omega)⟩,s1,s2,by rw [<- e1]; exact h2,by rw [<- e2]; exact h3,hk⟩
 rw [hs,e1,e2,Tm.row_eq,Tm.row_eq]; rfl
theorem gus_of {H:Tab} {e:TypeId} {lay:List CT} (hT:TmTy H e lay):∀ {rs:Rows},WRs H rs (.int .i64::(lay++lay))->rs.length+szR rs<=1048576->∃ gs:List Gu,rs=gs.map Gu.row/\∀ g∈gs,g.ok/\Small g.l/\Small g.r/\WL H g.l.row lay/\WL H g.r.row lay/\i64ok g.k
 | [],_,_=>⟨[],rfl,by simp⟩
 | r::rs,h,hz=>by
  simp only [WRs] at h;simp only [szR,F1] at hz;obtain ⟨g,rfl,h1⟩:=gu_of hT h.1 (by omega)
  obtain ⟨gs,rfl,h2⟩:=gus_of hT h.2 (by omega)
  exact ⟨g::gs,rfl,fun x hx=>by
   rcases C4.1 hx with rfl | hx
   · exact h1
   · exact h2 x hx⟩
end Go.Q.S
namespace Go.Q.S
open Go Go.Q
end Go.Q.S
end
section
/- Names,terms,signatures,rules: what their checks compute. -/
namespace Go.Q
open Go
theorem size_list (s:ByteArray):s.size=s.data.toList.length:=by rw [Array.length_toList]; rfl
theorem get_list {s:ByteArray} {i:Nat} (h:i<s.data.toList.length):s.get! i=s.data.toList[i]:=by
 have h':i<s.data.size:=by simpa using h
 show s.data[i]! = _
 rw [getElem!_pos s.data i h'];simp
def lowB (b:UInt8):Bool:=(decide (97<=b.toNat)&&decide (b.toNat<=122))||(decide (48<=b.toNat)&&decide (b.toNat<=57))
def nameK (lo hi:Nat):List UInt8->Bool
 | []=>false
 | b::r=>decide ((b::r).length<=8)&&((decide (lo<=b.toNat)&&decide (b.toNat<=hi))&&r.all lowB)
def isNm (s:ByteArray):Bool:=nameK 97 122 s.data.toList
def isVr (s:ByteArray):Bool:=nameK 65 90 s.data.toList
theorem nil_list (s:ByteArray):s=⟨#[]⟩↔s.data.toList=[]:=⟨fun h=>by rw [h],fun h=>key_inj h⟩
theorem nameK_len {lo hi:Nat} {l:List UInt8} (h:nameK lo hi l=true):l.length<=8:=by
 cases l with
 | nil=>simp
 | cons b r=>simp only [nameK,B5,decide_eq_true_eq] at h; exact h.1
theorem nv0 (a:D) (l:List D):nth (a::l) 0=a:=id rfl
theorem nvS (a:D) (l:List D) (i:Nat):nth (a::l) (i+1)=nth l i:=id rfl
theorem dvI (n:Int):(D.int n).I=n:=id rfl
theorem dvB (b:Bool):(D.bool b).B=b:=id rfl
theorem dvS (s:ByteArray):(D.str s).S=s:=id rfl
theorem dvL (r:Rows):(D.sl r).L=r:=id rfl
namespace Tm
mutual
def depth:Tm->Nat
 | .mk _ _ _ as=>depthL as+1
def depthL:List Tm->Nat
 | []=>0
 | t::ts=>max (depth t) (depthL ts)
end
theorem depth_eq (t:Tm):t.depth=depthL t.as+1:=by cases t; rfl
theorem depth_nodes:∀ t:Tm,t.depth<=t.nodes:=Tm.ind fun t ih=>by
 have h:∀ l:List Tm,(∀ a∈l,a.depth<=a.nodes)->depthL l<=(l.map nodes).sum:=fun l=>by
  induction l with
  | nil=>intro _; exact Nat.le_refl _
  | cons a l ih =>
   intro hl;have h1:=hl a (B7 ..);have h2:=ih fun b hb=>hl b (B6 _ hb)
   simp only [depthL,B9,F7]; omega
 have:=h t.as ih;rw [depth_eq,nodes_eq]; omega
def nodeN (t:Tm):Bool :=
 if t.k=1 then decide (t.n=0)&&(decide (t.as.length=0)&&isVr t.s) else if t.k=3 then isW t else if t.k=2 then decide (t.n=0)&&isNm t.s else false
mutual
def areN:Tm->Bool
 | .mk k n s as=>nodeN (.mk k n s as)&&areNL as
def areNL:List Tm->Bool
 | []=>true
 | t::ts=>areN t&&areNL ts
end
theorem areN_eq (t:Tm):t.areN=(nodeN t&&areNL t.as):=by cases t; rfl
theorem areNL_all:∀ l:List Tm,areNL l=l.all areN
 | []=>rfl
 | t::l=>by simp only [areNL,List.all_cons,areNL_all l]
def valid (t:Tm):Bool:=decide (t.nodes<=60)&&(decide (t.depth<=16)&&t.areN)
end Tm
inductive Wt:Tm->Prop
 | mk {t:Tm}:S.i64ok t.k->S.i64ok t.n->t.s.size<=maxLen->t.as.length<=maxLen->(∀ a∈t.as,Wt a)->Wt t
theorem Wt.k {t:Tm} (h:Wt t):S.i64ok t.k:=by cases h; assumption
theorem Wt.n {t:Tm} (h:Wt t):S.i64ok t.n:=by cases h; assumption
theorem Wt.s {t:Tm} (h:Wt t):t.s.size<=maxLen:=by cases h; assumption
theorem Wt.l {t:Tm} (h:Wt t):t.as.length<=maxLen:=by cases h; assumption
theorem Wt.sub {t a:Tm} (h:Wt t) (ha:a∈t.as):Wt a:=by cases h with | mk _ _ _ _ h=>exact h a ha
theorem wt_iff {H:Tab} {e:TypeId} {lay:List CT} (hT:TmTy H e lay):∀ t:Tm,WL H t.row lay↔Wt t:=Tm.ind fun t ih=>by
 rw [S.wl_row hT];constructor
 · rintro ⟨h1,h2,h3,h4,h5⟩
   exact .mk h1 h2 h3 h4 fun a ha=>(ih a ha).1 (h5 a ha)
 · intro h
   exact ⟨h.k,h.n,h.s,h.l,fun a ha=>(ih a ha).2 (h.sub ha)⟩
def dis (l:List ByteArray):Bool:=decide l.Nodup
def hasS (r:List ByteArray) (s:ByteArray):Bool:=r.any fun y=>decide (y=s)
theorem hasS_iff {r:List ByteArray} {s:ByteArray}:hasS r s=true↔s∈r:=by
 simp only [hasS,List.any_eq_true,decide_eq_true_eq];exact ⟨fun ⟨y,h,e⟩=>e▸h,fun h=>⟨s,h,rfl⟩⟩
abbrev wordS:ByteArray:=⟨#[119,111,114,100]⟩
abbrev e0:ByteArray:=⟨#[]⟩
structure OpM where
 n:ByteArray
 a:List ByteArray
 r:ByteArray
def OpM.row (o:OpM):List D:=[.str o.n,.sl (o.a.map sRow),.str o.r]
def OpM.ok (o:OpM):Prop:=o.a.length<=1048576
structure SigB (ops:List OpM):Prop where
 l:ops.length<=1048576
 a:∀ o∈ops,o.ok
def findO (ops:List OpM) (s:ByteArray):Option OpM:=if isB s then some ⟨s,[wordS,wordS],wordS⟩ else ops.find? fun o=>decide (o.n=s)
abbrev VS:=ByteArray×ByteArray
def VS.row (v:VS):List D:=[.str v.1,.str v.2]
def lookV (vs:List VS) (s:ByteArray):ByteArray:=match vs.find? fun v=>decide (v.1=s) with | some v=>v.2 | none=>e0
mutual
def sortT (ops:List OpM) (vs:List VS):Tm->ByteArray
 | .mk k n s as=>if k=3 then wordS else if k=1 then lookV vs s else if k=2 then (match findO ops s with
  | none=>e0
  | some o=>if o.a.length=as.length then (if sortsT ops vs as o.a then o.r else e0) else e0) else e0
def sortsT (ops:List OpM) (vs:List VS):List Tm->List ByteArray->Bool
 | [],_=>true
 | t::ts,[]=>true
 | t::ts,x::xs=>(!decide (sortT ops vs t=e0)&&decide (sortT ops vs t=x))&&sortsT ops vs ts xs
end
theorem sortT_eq (ops:List OpM) (vs:List VS) (t:Tm):sortT ops vs t=if t.k=3 then wordS else if t.k=1 then lookV vs t.s else if t.k=2 then (match findO ops t.s with
 | none=>e0
 | some o=>if o.a.length=t.as.length then (if sortsT ops vs t.as o.a then o.r else e0) else e0) else e0:=by cases t; simp only [sortT,Tm.k,Tm.s,Tm.as]; rfl
mutual
def infT (ops:List OpM):Tm->ByteArray->List VS->Option (List VS)
 | .mk k n s as,so,vs=>if k=1 then (match vs.find? fun v=>decide (v.1=s) with
  | some v=>if v.2=so then some vs else none
  | none=>some (vs++[(s,so)])) else infL ops as (if k=2 then (match findO ops s with | some o=>o.a | none=>[]) else []) vs
def infL (ops:List OpM):List Tm->List ByteArray->List VS->Option (List VS)
 | [],_,vs=>some vs
 | t::ts,[],vs=>match infT ops t e0 vs with | some vs'=>infL ops ts [] vs' | none=>none
 | t::ts,x::xs,vs=>match infT ops t x vs with | some vs'=>infL ops ts xs vs' | none=>none
end
theorem infT_eq (ops:List OpM) (t:Tm) (so:ByteArray) (vs:List VS):infT ops t so vs=if t.k=1 then (match vs.find? fun v=>decide (v.1=t.s) with
 | some v=>if v.2=so then some vs else none
 | none=>some (vs++[(t.s,so)])) else infL ops t.as (if t.k=2 then (match findO ops t.s with | some o=>o.a | none=>[]) else []) vs:=by cases t; simp only [infT,Tm.k,Tm.s,Tm.as]; rfl
def infV (ops:List OpM) (t:Tm) (so:ByteArray):Option (List VS):=match infT ops t so [] with
 | some vs=>if so=e0 then none else if sortT ops vs t=so then some vs else none
 | none=>none
def sigOK (so:List ByteArray) (ops:List OpM):Bool :=
 decide (so.length<=4)&&(dis so&&(decide (ops.length<=16)&&((so.all fun x=>isNm x&&!decide (x=wordS))&&((ops.all fun o=>isNm o.n&&(!isB o.n&&(decide (o.a.length<=3)&&(o.a.all (fun x=>decide (x=wordS)||hasS so x)&&(decide (o.r=wordS)||hasS so o.r)))))&&dis (ops.map (·.n))))))
structure RuM where
 n:ByteArray
 l:Tm
 r:Tm
 g:List Gu
def RuM.row (r:RuM):List D:=[.str r.n,.int r.l.k,.int r.l.n,.str r.l.s,.sl (r.l.as.map Tm.row),.int r.r.k,.int r.r.n,.str r.r.s,.sl (r.r.as.map Tm.row),.sl (r.g.map Gu.row)]
def RuM.ok (r:RuM):Prop:=r.l.nodes<=1048577/\r.r.nodes<=1048577/\r.g.length<=1048576/\∀ g∈r.g,g.ok
mutual
def lackB:Tm->Bool
 | .mk k n s as=>!(decide (k=2)&&isB s)&&lackBL as
def lackBL:List Tm->Bool
 | []=>true
 | t::ts=>lackB t&&lackBL ts
end
def within (t:Tm) (names:List ByteArray):Bool:=t.names.all fun s=>hasS names s
def guOK (ops:List OpM) (vs:List VS) (g:Gu):Bool :=
 (decide (1<=g.k)&&decide (g.k<=3))&&(g.l.valid&&(g.r.valid&&(!decide (sortT ops vs g.l=e0)&&(decide (sortT ops vs g.l=sortT ops vs g.r)&&!(decide (g.k=3)&&!decide (sortT ops vs g.l=wordS))))))
def gusOK (ops:List OpM) (vs:List VS) (gs:List Gu):Bool:=gs.all (guOK ops vs)&&decide (gs.length<=2)
def rulOK (ops:List OpM) (r:RuM):Bool :=
 isNm r.n&&(r.l.valid&&(decide (r.l.k=2)&&(lackB r.l&&(r.r.valid&&(match findO ops r.l.s with
  | none=>false
  | some o=>match infV ops r.l o.r with
   | none=>false
   | some vs=>decide (sortT ops vs r.r=o.r)&&(within r.r r.l.names&&gusOK ops vs r.g))))))
structure StM where
 o:ByteArray
 a:Int
def StM.row (s:StM):List D:=[.str s.o,.int s.a]
structure DfM where
 so:List ByteArray
 op:List OpM
 ru:List RuM
 st:List StM
structure DfM.ok (d:DfM):Prop where
 so:d.so.length<=1048576
 op:d.op.length<=1048576
 opa:∀ o∈d.op,o.ok
 ru:d.ru.length<=1048576
 rua:∀ r∈d.ru,r.ok
 st:d.st.length<=1048576
def stOK (ops:List OpM) (s:StM):Bool:=match findO ops s.o with
 | none=>false
 | some o=>!isB s.o&&(decide (0<=s.a)&&decide (s.a<o.a.length))
def strOK (ops:List OpM):List StM->List StM->Bool
 | _,[]=>true
 | pre,x::r=>stOK ops x&&(!(pre.any fun y=>decide (y.o=x.o)&&decide (y.a=x.a))&&strOK ops (pre++[x]) r)
def DfM.valid (d:DfM):Bool:=sigOK d.so d.op&&(decide (d.ru.length<=16)&&(decide (d.st.length<=8)&&(d.ru.all (rulOK d.op)&&(strOK d.op [] d.st&&dis (d.ru.map (·.n))))))
end Go.Q
end
section
namespace Go.Q
open Go
structure GuB (g:Gu):Prop where
 wl:Wt g.l
 wr:Wt g.r
 ln:g.l.nodes<=1048577
 rn:g.r.nodes<=1048577
structure RuB (r:RuM):Prop where
 n:r.n.size<=maxLen
 wl:Wt r.l
 wr:Wt r.r
 ln:r.l.nodes<=1048577
 rn:r.r.nodes<=1048577
 g:r.g.length<=1048576
 ga:∀ g∈r.g,GuB g
structure DfB (d:DfM):Prop where
 so:d.so.length<=1048576
 sos:∀ x∈d.so,x.size<=maxLen
 op:SigB d.op
 opn:∀ o∈d.op,o.n.size<=maxLen
 ru:d.ru.length<=1048576
 rua:∀ r∈d.ru,RuB r
 st:d.st.length<=1048576
theorem sortsT_ne (ops:List OpM) (vs:List VS):∀ (l:List Tm) (xs:List ByteArray),l.length<=xs.length->sortsT ops vs l xs=true->∀ t∈l,sortT ops vs t≠e0
 | [],_,_,_,t,ht=>by simp at ht
 | t::l,[],hl,_,_,_=>by simp at hl
 | t::l,x::xs,hl,h,u,hu=>by
  simp only [sortsT,B5,D1,decide_eq_false_iff_not,decide_eq_true_eq] at h;rcases C4.1 hu with e | hu
  · exact e▸h.1.1
  · exact sortsT_ne ops vs l xs (by simpa using hl) h.2 u hu
theorem infV_inf {ops:List OpM} {t:Tm} {x:ByteArray} {vs:List VS} (h:infV ops t x=some vs):infT ops t x []=some vs:=by
 unfold infV at h;cases hq:infT ops t x [] with
 | none=>rw [hq] at h; simp at h
 | some w =>
  rw [hq] at h;simp only at h;split at h
  · simp at h
  · split at h
    · exact h
    · simp at h
theorem within_iff {t:Tm} {names:List ByteArray}:within t names=true↔∀ x∈t.names,x∈names:=by
 simp only [within,C7,hasS_iff]
theorem valid_areN {t:Tm} (h:t.valid=true):t.areN=true:=by
 simp only [Tm.valid,B5] at h; exact h.2.2
end Go.Q
end
section
namespace Go.Q
open Go
def wv (vars:List ByteArray):List VS:=vars.map fun s=>(s,wordS)
def symV (d:DfM) (vars:List ByteArray) (t:Tm):Bool :=
 d.valid&&(decide (vars.length<=3)&&(dis vars&&(vars.all isVr&&(t.valid&&(within t vars&&!decide (sortT d.op (wv vars) t=e0))))))
structure ClM where
 d:DfM
 v:List ByteArray
 l:Tm
 r:Tm
 g:List Gu
def ClM.row (c:ClM):List D:=[.sl (c.d.so.map sRow),.sl (c.d.op.map OpM.row),.sl (c.d.ru.map RuM.row),.sl (c.d.st.map StM.row),.sl (c.v.map sRow),.int c.l.k,.int c.l.n,.str c.l.s,.sl (c.l.as.map Tm.row),.int c.r.k,.int c.r.n,.str c.r.s,.sl (c.r.as.map Tm.row),.sl (c.g.map Gu.row)]
structure ClB (c:ClM):Prop where
 d:DfB c.d
 v:c.v.length<=1048576
 vs:∀ x∈c.v,x.size<=maxLen
 wl:Wt c.l
 wr:Wt c.r
 ln:c.l.nodes<=1048577
 rn:c.r.nodes<=1048577
 g:c.g.length<=1048576
 ga:∀ g∈c.g,GuB g
def ClM.valid (c:ClM):Bool:=symV c.d c.v c.l&&(symV c.d c.v c.r&&(decide (sortT c.d.op (wv c.v) c.l=sortT c.d.op (wv c.v) c.r)&&gusOK c.d.op (wv c.v) c.g))
end Go.Q
end
section
/- Definitions and claims out of data. -/
namespace Go.Q.S
open Go Go.Q
theorem gub_of {H:Tab} {e:TypeId} {lay:List CT} (hT:TmTy H e lay) {rs:Rows} (h:WRs H rs (.int .i64::(lay++lay))) (hz:rs.length+szR rs<=1048576):∃ gs:List Gu,rs=gs.map Gu.row/\∀ g∈gs,GuB g:=by
 obtain ⟨gs,e1,h1⟩:=gus_of hT h hz;exact ⟨gs,e1,fun g hg=>by
  obtain ⟨ok,_,_,w1,w2,_⟩:=h1 g hg;exact ⟨(wt_iff hT _).1 w1,(wt_iff hT _).1 w2,ok.1,ok.2⟩⟩
end Go.Q.S
end
section
/- Matching,firing,sorts along a step. -/
namespace Go.Q
open Go
theorem bnd_app (l l':List Bnd) (s:ByteArray):bnd (l++l') s=match bnd l s with
 | some v=>some v
 | none=>bnd l' s:=by
 induction l with
 | nil=>rfl
 | cons b l ih =>
  simp only [D8,bnd];by_cases h:b.1=s
  · rw [H5 h,H5 h]
  · rw [H6 h,H6 h,ih]
mutual
noncomputable def mT:Tm->Tm->List Bnd->Option (List Bnd)
 | .mk k n s as,u,l =>
  if k=1 then (match bnd l s with
   | some v=>if eqb v.row u.row=true then some l else none
   | none=>some (l++[(s,u)]))
  else if k=u.k then (if n=u.n then (if s=u.s then (if as.length=u.as.length then mTs as u.as l else none) else none) else none) else none
noncomputable def mTs:List Tm->List Tm->List Bnd->Option (List Bnd)
 | [],_,l=>some l
 | _::_,[],_=>none
 | t::ts,u::us,l=>match mT t u l with
  | some l'=>mTs ts us l'
  | none=>none
end
theorem mT_eq (t u:Tm) (l:List Bnd):mT t u l=if t.k=1 then (match bnd l t.s with
 | some v=>if eqb v.row u.row=true then some l else none
 | none=>some (l++[(t.s,u)]))
 else if t.k=u.k then (if t.n=u.n then (if t.s=u.s then (if t.as.length=u.as.length then mTs t.as u.as l else none) else none) else none) else none:=by
 cases t; simp only [mT,Tm.k,Tm.n,Tm.s,Tm.as]; rfl
theorem mT_cases {t u:Tm} {l l':List Bnd} (h:mT t u l=some l') :
 (t.k=1/\(∃ v,bnd l t.s=some v)/\l'=l)\/(t.k=1/\bnd l t.s=none/\l'=l++[(t.s,u)]) ∨
 (t.k≠1/\t.k=u.k/\t.n=u.n/\t.s=u.s/\t.as.length=u.as.length/\mTs t.as u.as l=some l'):=by
 rw [mT_eq] at h;by_cases h1:t.k=1
 · rw [H5 h1] at h
   cases hb:bnd l t.s with
   | some v =>
    rw [hb] at h;simp only at h;split at h
    · simp only [C0.injEq] at h; exact .inl ⟨h1,⟨v,rfl⟩,h.symm⟩
    · simp at h
   | none =>
    rw [hb] at h;simp only [C0.injEq] at h;exact .inr (.inl ⟨h1,rfl,h.symm⟩)
 · rw [H6 h1] at h
   split at h
   · split at h
     · split at h
       · split at h
         · exact .inr (.inr ⟨h1,by assumption,by assumption,by assumption,by assumption,h⟩)
         · simp at h
       · simp at h
     · simp at h
   · simp at h
noncomputable def fireR (r:RuM) (u:Tm):Option Tm:=match mT r.l u [] with
 | none=>none
 | some l=>if (r.g.all fun g=>holds (appG l g))=true then some (rW (aS l r.r)) else none
def vfind (vs:List VS) (s:ByteArray):Option VS:=vs.find? fun v=>decide (v.1=s)
theorem lookV_eq (vs:List VS) (s:ByteArray):lookV vs s=match vfind vs s with | some v=>v.2 | none=>e0:=rfl
theorem vfind_app (vs:List VS) (x:VS) (s:ByteArray):vfind (vs++[x]) s=match vfind vs s with
 | some v=>some v
 | none=>if x.1=s then some x else none:=by
 unfold vfind;rw [List.find?_append];cases h:vs.find? fun v=>decide (v.1=s) with
 | some v=>rfl
 | none=>by_cases e:x.1=s <;> simp [e]
def Agree (ops:List OpM) (vs:List VS) (l:List Bnd):Prop:=∀ s,match vfind vs s,bnd l s with
 | none,none=>True
 | some v,some w=>sortT ops [] w=v.2
 | _,_=>False
theorem Agree.none {ops:List OpM} {vs:List VS} {l:List Bnd} (h:Agree ops vs l) {s:ByteArray} (hv:vfind vs s=Option.none):bnd l s=Option.none:=by
 have:=h s;rw [hv] at this;cases hb:bnd l s with
 | none=>rfl
 | some w=>rw [hb] at this; exact this.elim
theorem Agree.some {ops:List OpM} {vs:List VS} {l:List Bnd} (h:Agree ops vs l) {s:ByteArray} {v:VS} (hv:vfind vs s=some v):∃ w,bnd l s=some w/\sortT ops [] w=v.2:=by
 have:=h s;rw [hv] at this;cases hb:bnd l s with
 | none=>rw [hb] at this; exact this.elim
 | some w=>rw [hb] at this; exact ⟨w,rfl,this⟩
theorem sort_op {ops:List OpM} {vs:List VS} {t:Tm} (hk:t.k=2) (hs:sortT ops vs t≠e0):∃ o,findO ops t.s=some o/\o.a.length=t.as.length/\sortsT ops vs t.as o.a=true/\sortT ops vs t=o.r:=by
 rw [sortT_eq,H6 (by omega),H6 (by omega),H5 hk] at hs
 rw [sortT_eq,H6 (by omega),H6 (by omega),H5 hk]
 cases hf:findO ops t.s with
 | none=>rw [hf] at hs; exact absurd rfl hs
 | some o =>
  rw [hf] at hs;simp only at hs ⊢;by_cases hl:o.a.length=t.as.length
  · rw [H5 hl] at hs ⊢
    by_cases hq:sortsT ops vs t.as o.a=true
    · exact ⟨o,rfl,hl,hq,by rw [H5 hq]⟩
    · rw [H6 hq] at hs; exact absurd rfl hs
  · rw [H6 hl] at hs; exact absurd rfl hs
theorem sort_of_op {ops:List OpM} {vs:List VS} {t:Tm} (hk:t.k=2) {o:OpM} (hf:findO ops t.s=some o) (hl:o.a.length=t.as.length) (hq:sortsT ops vs t.as o.a=true):sortT ops vs t=o.r:=by
 rw [sortT_eq,H6 (by omega),H6 (by omega),H5 hk,hf]
 simp only [H5 hl,H5 hq]
theorem nodeN_cases {t:Tm} (h:t.areN=true):(t.k=1/\t.as=[])\/(t.k=3/\isW t=true/\t.as=[])\/t.k=2:=by
 rw [Tm.areN_eq,B5] at h;have h:=h.1;unfold Tm.nodeN at h;by_cases h1:t.k=1
 · rw [H5 h1] at h
   simp only [B5,decide_eq_true_eq] at h;exact .inl ⟨h1,D5.1 h.2.1⟩
 · rw [H6 h1] at h
   by_cases h3:t.k=3
   · rw [H5 h3] at h
     have h':=h;simp only [isW,B5,decide_eq_true_eq] at h';exact .inr (.inl ⟨h3,h,D5.1 h'.2.2.2.2⟩)
   · rw [H6 h3] at h
     by_cases h2:t.k=2
     · exact .inr (.inr h2)
     · rw [H6 h2] at h; simp at h
theorem areN_sub {t a:Tm} (h:t.areN=true) (ha:a∈t.as):a.areN=true:=by
 rw [Tm.areN_eq,B5,Tm.areNL_all,C7] at h;exact h.2 a ha
theorem sort_aS {ops:List OpM} {vs:List VS} {l:List Bnd} (hA:Agree ops vs l):∀ t,t.areN=true->sortT ops vs t≠e0->sortT ops [] (aS l t)=sortT ops vs t:=Tm.ind fun t ih hn hs=>by
 rcases nodeN_cases hn with ⟨h1,ha⟩|⟨h3,_,ha⟩ | h2
 · have e:sortT ops vs t=lookV vs t.s:=by rw [sortT_eq,H6 (by omega),H5 h1]
   rw [e] at hs ⊢;rw [lookV_eq] at hs ⊢;cases hv:vfind vs t.s with
   | none=>rw [hv] at hs; exact absurd rfl hs
   | some v =>
    obtain ⟨w,hb,hw⟩:=hA.some hv;rw [aS_eq,H5 h1,hb];exact hw
 · rw [aS_eq,H6 (by omega)]
   rw [sortT_eq,sortT_eq ops vs,H5 (show (Tm.mk t.k t.n t.s _).k=3 from h3),H5 h3]
 · obtain ⟨o,hf,hl,hss,e⟩:=sort_op h2 hs
   rw [aS_eq,H6 (by omega),e]
   have key:∀ (ts:List Tm) (xs:List ByteArray),(∀ a∈ts,a∈t.as)->sortsT ops vs ts xs=true->sortsT ops [] (ts.map (aS l)) xs=true:=by
    intro ts;induction ts with
    | nil=>intro xs _ _; rfl
    | cons a ts ihs =>
     intro xs hts h;cases xs with
     | nil=>rfl
     | cons y xs =>
      simp only [sortsT,B5,D1,decide_eq_false_iff_not,decide_eq_true_eq] at h;have q:=ih a (hts a (B7 ..)) (areN_sub hn (hts a (B7 ..))) h.1.1;simp only [B9,sortsT,B5,D1,decide_eq_false_iff_not,decide_eq_true_eq,q];exact ⟨h.1,ihs xs (fun z hz=>hts z (B6 _ hz)) h.2⟩
   exact sort_of_op (t:=.mk t.k t.n t.s (t.as.map (aS l))) h2 hf (by simpa [Tm.as] using hl) (key _ _ (fun _ h=>h) hss)
theorem sort_rW (ops:List OpM) (vs:List VS):∀ t,t.areN=true->sortT ops vs t≠e0->sortT ops vs (rW t)=sortT ops vs t:=Tm.ind fun t ih hn hs=>by
 have plain:sortT ops vs (.mk t.k t.n t.s (t.as.map rW))=sortT ops vs t:=by
  rcases nodeN_cases hn with ⟨h1,ha⟩|⟨h3,_,ha⟩ | h2
  · rw [sortT_eq,sortT_eq ops vs t,H6 (show ¬(Tm.mk t.k t.n t.s _).k=3 by show ¬ t.k=3; omega),H5 (show (Tm.mk t.k t.n t.s _).k=1 from h1),H6 (by omega),H5 h1]; rfl
  · rw [sortT_eq,sortT_eq ops vs t,H5 (show (Tm.mk t.k t.n t.s _).k=3 from h3),H5 h3]
  · obtain ⟨o,hf,hl,hss,e⟩:=sort_op h2 hs
    rw [e];have key:∀ (ts:List Tm) (xs:List ByteArray),(∀ a∈ts,a∈t.as)->sortsT ops vs ts xs=true->sortsT ops vs (ts.map rW) xs=true:=by
     intro ts;induction ts with
     | nil=>intro xs _ _; rfl
     | cons a ts ihs =>
      intro xs hts h;cases xs with
      | nil=>rfl
      | cons y xs =>
       simp only [sortsT,B5,D1,decide_eq_false_iff_not,decide_eq_true_eq] at h;have q:=ih a (hts a (B7 ..)) (areN_sub hn (hts a (B7 ..))) h.1.1;simp only [B9,sortsT,B5,D1,decide_eq_false_iff_not,decide_eq_true_eq,q];exact ⟨h.1,ihs xs (fun z hz=>hts z (B6 _ hz)) h.2⟩
    exact sort_of_op (t:=.mk t.k t.n t.s (t.as.map rW)) h2 hf (by simpa [Tm.as] using hl) (key _ _ (fun _ h=>h) hss)
 rw [rW_eq];unfold rW1;split
 · rename_i x y hxy
   split
   · rename_i hc
     obtain ⟨hk,_,hB,_,_⟩:=hc;obtain ⟨o,hf,_,_,e⟩:=sort_op hk hs;rw [e];unfold findO at hf;rw [H5 hB] at hf;simp only [C0.injEq] at hf;subst hf;rw [sortT_eq]; rfl
   · exact plain
 · exact plain
end Go.Q
end
section
/- Good terms stay good along a step. -/
namespace Go.Q
open Go
theorem cmp_lt {s:ByteArray} {x y:Tm} (hx:isW x=true) (hy:isW y=true):0<=cmp s x.n y.n/\cmp s x.n y.n<4:=by
 simp only [isW,B5,decide_eq_true_eq] at hx hy;obtain ⟨_,a1,a2,_⟩:=hx;obtain ⟨_,b1,b2,_⟩:=hy;unfold cmp;split
 · exact ⟨O6 4 (by omega),N3 _ (by decide)⟩
 · split
   · exact ⟨O6 4 (by omega),N3 _ (by decide)⟩
   · exact ⟨O6 4 (Int.mul_nonneg a1 b1),N3 _ (by decide)⟩
theorem Tm.n_mk (k n:Int) (s:ByteArray) (as:List Tm):(Tm.mk k n s as).n=n:=rfl
theorem areN_mk {t:Tm} (h:t.areN=true) {as:List Tm} (hl:as.length=t.as.length) (ha:∀ a∈as,a.areN=true):(Tm.mk t.k t.n t.s as).areN=true:=by
 rw [Tm.areN_eq,B5] at h ⊢;refine ⟨?_,by rw [Tm.areNL_all,C7]; exact ha⟩
 have h:=h.1;unfold Tm.nodeN isW at h ⊢;simp only [Tm.k_mk,Tm.n_mk,Tm.s_mk,Tm.as_mk,hl];exact h
theorem areN_aS {l:List Bnd} (hl:∀ b∈l,b.2.areN=true):∀ t,t.areN=true->(aS l t).areN=true:=Tm.ind fun t ih h=>by
 rw [aS_eq];split
 · rename_i u hu
   split at hu
   · obtain ⟨b,h1,rfl⟩:=bnd_mem hu; exact hl b h1
   · simp at hu
 · exact areN_mk h (by simp) fun a ha=>by
    obtain ⟨x,hx,rfl⟩:=D9.1 ha;exact ih x hx (areN_sub h hx)
theorem areN_rW:∀ t,t.areN=true->(rW t).areN=true:=Tm.ind fun t ih h=>by
 have plain:(Tm.mk t.k t.n t.s (t.as.map rW)).areN=true:=areN_mk h (by simp) fun a ha=>by
  obtain ⟨x,hx,rfl⟩:=D9.1 ha;exact ih x hx (areN_sub h hx)
 rw [rW_eq];unfold rW1;split
 · rename_i x y hxy
   split
   · rename_i hc
     obtain ⟨c1,c2⟩:=cmp_lt (s:=t.s) hc.2.2.2.1 hc.2.2.2.2;rw [Tm.areN_eq];unfold Tm.nodeN isW;simp only [Tm.k_mk,Tm.n_mk,Tm.s_mk,Tm.as_mk];simp [Tm.areNL,c1,c2]
   · exact plain
 · exact plain
theorem wt_mk {t:Tm} (h:Wt t) {as:List Tm} (hl:as.length=t.as.length) (ha:∀ a∈as,Wt a):Wt (.mk t.k t.n t.s as):=.mk h.k h.n h.s (by rw [Tm.as_mk,hl]; exact h.l) ha
theorem wt_aS {l:List Bnd} (hl:∀ b∈l,Wt b.2):∀ t,Wt t->Wt (aS l t):=Tm.ind fun t ih h=>by
 rw [aS_eq];split
 · rename_i u hu
   split at hu
   · obtain ⟨b,h1,rfl⟩:=bnd_mem hu; exact hl b h1
   · simp at hu
 · exact wt_mk h (by simp) fun a ha=>by
    obtain ⟨x,hx,rfl⟩:=D9.1 ha;exact ih x hx (h.sub hx)
theorem wt_rW:∀ t,Wt t->Wt (rW t):=Tm.ind fun t ih h=>by
 have plain:Wt (Tm.mk t.k t.n t.s (t.as.map rW)):=wt_mk h (by simp) fun a ha=>by
  obtain ⟨x,hx,rfl⟩:=D9.1 ha;exact ih x hx (h.sub hx)
 rw [rW_eq];unfold rW1;split
 · rename_i x y hxy
   split
   · rename_i hc
     exact .mk (show S.i64ok 3 from S.i64ok_of (by decide) (by decide)) (S.cmp_ok hc.2.2.2.1 hc.2.2.2.2) (show (⟨#[]⟩:ByteArray).size<=maxLen by decide) (O9 _) (by intro a ha; rw [Tm.as_mk] at ha; simp at ha)
   · exact plain
 · exact plain
theorem sum_mul {xs:List Tm} {f g:Tm->Nat} {m:Nat} (h:∀ x∈xs,f x<=m*g x):(xs.map f).sum<=m*(xs.map g).sum:=by
 induction xs with
 | nil=>simp
 | cons x xs ih =>
  have h1:=h x (B7 ..);have h2:=ih fun y hy=>h y (B6 _ hy)
  simp only [B9,F7,Nat.mul_add]; omega
theorem aS_nodesM {l:List Bnd} {m:Nat} (hm:1<=m) (hl:∀ b∈l,b.2.nodes<=m):∀ t,(aS l t).nodes<=m*t.nodes:=Tm.ind fun t ih=>by
 rw [aS_eq];have h1:=Tm.nodes_eq t;split
 · rename_i u hu
   split at hu
   · obtain ⟨b,hb,rfl⟩:=bnd_mem hu
     have:=hl b hb;rw [h1,Nat.mul_add]; omega
   · simp at hu
 · rw [Tm.nodes_eq]
   simp only [Tm.as_mk,J4];have:=sum_mul (xs:=t.as) (f:=Tm.nodes ∘ aS l) (g:=Tm.nodes) ih;rw [h1,Nat.mul_add]; omega
structure Gt (ops:List OpM) (t:Tm):Prop where
 w:Wt t
 n:t.areN=true
 s:sortT ops [] t≠e0
theorem Gt.arr {ops:List OpM} {t:Tm} (h:Gt ops t) (hk:t.k=2):∃ o,findO ops t.s=some o/\o.a.length=t.as.length/\sortsT ops [] t.as o.a=true/\sortT ops [] t=o.r:=sort_op hk h.s
theorem Gt.sub {ops:List OpM} {t a:Tm} (h:Gt ops t) (ha:a∈t.as):Gt ops a:=by
 refine ⟨h.w.sub ha,areN_sub h.n ha,?_⟩;rcases nodeN_cases h.n with ⟨_,q⟩|⟨_,_,q⟩ | h2
 · rw [q] at ha; simp at ha
 · rw [q] at ha; simp at ha
 · obtain ⟨o,_,hl,hs,_⟩:=h.arr h2
   exact sortsT_ne ops [] t.as o.a (by omega) hs a ha
structure RuG (ops:List OpM) (r:RuM):Prop where
 b:RuB r
 lv:r.l.valid=true
 lk:r.l.k=2
 rv:r.r.valid=true
 gl:∀ g∈r.g,g.l.valid=true/\g.r.valid=true
 inf:∃ o vs,findO ops r.l.s=some o/\infV ops r.l o.r=some vs/\sortT ops vs r.r=o.r
theorem ruG_of {ops:List OpM} {r:RuM} (hb:RuB r) (h:rulOK ops r=true):RuG ops r:=by
 unfold rulOK at h;simp only [B5,decide_eq_true_eq] at h;obtain ⟨_,h1,h2,_,h3,h4⟩:=h;cases hf:findO ops r.l.s with
 | none=>rw [hf] at h4; simp at h4
 | some o =>
  rw [hf] at h4;simp only at h4;cases hi:infV ops r.l o.r with
  | none=>rw [hi] at h4; simp at h4
  | some vs =>
   rw [hi] at h4;simp only [B5,decide_eq_true_eq,gusOK,C7] at h4;refine ⟨hb,h1,h2,h3,fun g hg=>?_,o,vs,hf,hi,h4.1⟩
   have:=h4.2.2.1 g hg;simp only [guOK,B5] at this;exact ⟨this.2.1,this.2.2.1⟩
theorem valid_nodes {t:Tm} (h:t.valid=true):t.nodes<=60:=by
 simp only [Tm.valid,B5,decide_eq_true_eq] at h; exact h.1
def atT:Tm->List Int->Option Tm
 | t,[]=>some t
 | t,i::p=>if h:i.toNat<t.as.length then (if 0<=i then atT t.as[i.toNat] p else none) else none
def putT:Tm->List Int->Tm->Tm
 | _,[],w=>w
 | t,i::p,w=>if h:i.toNat<t.as.length then .mk t.k t.n t.s (t.as.set i.toNat (putT t.as[i.toNat] p w)) else t
theorem atT_cons {t u:Tm} {i:Int} {p:List Int} (h:atT t (i::p)=some u):∃ hi:i.toNat<t.as.length,0<=i/\atT t.as[i.toNat] p=some u:=by
 simp only [atT] at h;split at h
 · rename_i hi
   split at h
   · exact ⟨hi,by assumption,h⟩
   · simp at h
 · simp at h
theorem sortsT_set {ops:List OpM} {vs:List VS}:∀ (l:List Tm) (xs:List ByteArray) (i:Nat) (hi:i<l.length) (x:Tm),sortT ops vs x=sortT ops vs l[i]->sortsT ops vs (l.set i x) xs=sortsT ops vs l xs
 | [],_,i,hi,_,_=>by simp at hi
 | a::l,xs,0,hi,x,h=>by
  cases xs with
  | nil=>rfl
  | cons y xs =>
   simp only [List.getElem_cons_zero] at h;simp only [List.set_cons_zero,sortsT,h]
 | a::l,xs,i+1,hi,x,h=>by
  cases xs with
  | nil=>rfl
  | cons y xs =>
   simp only [List.getElem_cons_succ] at h;simp only [P3,sortsT];rw [sortsT_set l xs i (by simpa using hi) x h]
theorem atT_nodes:∀ (p:List Int) (t u:Tm),atT t p=some u->u.nodes+p.length<=t.nodes
 | [],t,u,h=>by simp only [atT,C0.injEq] at h; subst h; simp
 | i::p,t,u,h=>by
  obtain ⟨hi,h0,h1⟩:=atT_cons h;have h2:=atT_nodes p _ u h1;have:=mem_sum (f:=Tm.nodes) (C1 hi);have:=Tm.nodes_eq t;simp only [F1]; omega
theorem sum_set:∀ (l:List Tm) (i:Nat) (hi:i<l.length) (x:Tm),((l.set i x).map Tm.nodes).sum<=(l.map Tm.nodes).sum+x.nodes
 | [],i,hi,_=>by simp at hi
 | a::l,0,hi,x=>by simp only [List.set_cons_zero,B9,F7]; omega
 | a::l,i+1,hi,x=>by
  have:=sum_set l i (by simpa using hi) x
  simp only [P3,B9,F7]; omega
theorem put_nodes (w:Tm):∀ (p:List Int) (t:Tm),(putT t p w).nodes<=t.nodes*(p.length+1)+w.nodes
 | [],t=>by simp [putT]
 | i::p,t=>by
  simp only [putT];split
  · rename_i hi
    have h1:=put_nodes w p t.as[i.toNat];have h2:=sum_set t.as i.toNat hi (putT t.as[i.toNat] p w);have h3:=mem_sum (f:=Tm.nodes) (C1 hi);have h4:=Tm.nodes_eq t;rw [Tm.nodes_eq,Tm.as_mk];have h5:t.as[i.toNat].nodes*(p.length+1)<=t.nodes*(p.length+1):=Nat.mul_le_mul_right _ (by omega)
    have h6:t.nodes*((i::p).length+1)=t.nodes*(p.length+1)+t.nodes:=by rw [F1,Nat.mul_add _ _ 1,Nat.mul_one]
    omega
  · have:t.nodes<=t.nodes*((i::p).length+1):=Nat.le_mul_of_pos_right _ (by simp)
    omega
theorem atT_sub {P:Tm->Prop} (hP:∀ t a,P t->a∈t.as->P a):∀ (p:List Int) (t u:Tm),P t->atT t p=some u->P u
 | [],t,u,ht,h=>by simp only [atT,C0.injEq] at h; subst h; exact ht
 | i::p,t,u,ht,h=>by
  obtain ⟨hi,h0,h1⟩:=atT_cons h;exact atT_sub hP p _ u (hP t _ ht (C1 hi)) h1
def strA (st:List StM) (s:ByteArray):List Int:=(st.filter fun x=>decide (x.o=s)).map (·.a)
def stL (st:List StM) (t:Tm):List Int:=if t.k=2 then strA st t.s else []
noncomputable def rootF (ru:List RuM) (u:Tm):Option Nat:=ru.findIdx? fun r=>(fireR r u).isSome
def pickF (l:List Int) (rs:List (Option (Nat×List Int))):Option (Nat×List Int):=l.findSome? fun i=>if 0<=i then (match rs[i.toNat]? with | some (some x)=>some (x.1,i::x.2) | _=>none) else none
mutual
noncomputable def nx (d:DfM):Tm->Option (Nat×List Int)
 | .mk k n s as=>match pickF (if k=2 then strA d.st s else []) (nxs d as) with
  | some x=>some x
  | none=>(rootF d.ru (.mk k n s as)).map fun i=>(i,[])
noncomputable def nxs (d:DfM):List Tm->List (Option (Nat×List Int))
 | []=>[]
 | t::ts=>nx d t::nxs d ts
end
theorem nxs_map (d:DfM):∀ ts,nxs d ts=ts.map (nx d)
 | []=>by simp only [nxs,N4]
 | t::ts=>by simp only [nxs,B9,nxs_map d ts]
theorem nx_eq (d:DfM) (t:Tm):nx d t=match pickF (stL d.st t) (t.as.map (nx d)) with
 | some x=>some x
 | none=>(rootF d.ru t).map fun i=>(i,[]):=by
 cases t
 simp only [nx,nxs_map,stL,Tm.k,Tm.s,Tm.as]; rfl
theorem root_spec {ru:List RuM} {u:Tm} {i:Nat} (h:rootF ru u=some i):∃ r w,ru[i]?=some r/\fireR r u=some w:=by
 unfold rootF at h;rw [List.findIdx?_eq_some_iff_getElem] at h;obtain ⟨hi,h1,_⟩:=h;cases hf:fireR ru[i] u with
 | none=>rw [hf] at h1; simp at h1
 | some w=>exact ⟨ru[i],w,by simp [hi],hf⟩
theorem nx_spec (d:DfM):∀ t i p,nx d t=some (i,p)->∃ u r w,atT t p=some u/\d.ru[i]?=some r/\fireR r u=some w:=Tm.ind fun t ih i p h=>by
 rw [nx_eq] at h;cases hp:pickF (stL d.st t) (t.as.map (nx d)) with
 | some x =>
  rw [hp] at h;simp only [C0.injEq] at h;subst h;unfold pickF at hp;obtain ⟨j,hj,h1⟩:=List.exists_of_findSome?_eq_some hp;split at h1
  · rename_i h0
    split at h1
    · rename_i y hy
      simp only [C0.injEq,D7.injEq] at h1;obtain ⟨e1,e2⟩:=h1;subst e1; subst e2;rw [List.getElem?_map] at hy;cases hg:t.as[j.toNat]? with
      | none=>rw [hg] at hy; simp at hy
      | some a =>
       rw [hg] at hy;simp only [Option.map_some,C0.injEq] at hy;obtain ⟨hlt,he⟩:=C3.1 hg;obtain ⟨u,r,w,q1,q2,q3⟩:=ih a (he▸C1 hlt) y.1 y.2 hy;refine ⟨u,r,w,?_,q2,q3⟩;simp only [atT,dif_pos hlt,H5 h0,he];exact q1
    · simp at h1
  · simp at h1
 | none =>
  rw [hp] at h;simp only at h;cases hr:rootF d.ru t with
  | none=>rw [hr] at h; simp at h
  | some j =>
   rw [hr] at h;simp only [Option.map_some,C0.injEq,D7.injEq] at h;obtain ⟨e1,e2⟩:=h;subst e1; subst e2;obtain ⟨r,w,q1,q2⟩:=root_spec hr;exact ⟨t,r,w,rfl,q1,q2⟩
noncomputable def stepT (d:DfM) (t:Tm) (i:Nat) (p:List Int):Tm:=match atT t p,d.ru[i]? with
 | some u,some r=>(match fireR r u with | some w=>putT t p w | none=>t)
 | _,_=>t
structure RunR where
 o:Int
 t:Tm
 st:List Tm
 rd:List (Nat×List Int)
noncomputable def runF (d:DfM):Nat->Tm->RunR
 | 0,t=>match nx d t with
  | none=>⟨1,t,[],[]⟩
  | some _=>⟨2,t,[],[]⟩
 | n+1,t=>match nx d t with
  | none=>⟨1,t,[],[]⟩
  | some (i,p)=>if (stepT d t i p).valid=true then ⟨(runF d n (stepT d t i p)).o,(runF d n (stepT d t i p)).t,stepT d t i p::(runF d n (stepT d t i p)).st,(i,p)::(runF d n (stepT d t i p)).rd⟩ else ⟨3,t,[],[]⟩
structure DfG (d:DfM):Prop where
 b:DfB d
 v:d.valid=true
theorem DfG.ru {d:DfM} (h:DfG d) {r:RuM} (hr:r∈d.ru):RuG d.op r:=by
 have:=h.v;simp only [DfM.valid,B5,C7] at this;exact ruG_of (h.b.rua r hr) (this.2.2.2.1 r hr)
theorem strOK_all (ops:List OpM):∀ (l pre:List StM),strOK ops pre l=true->∀ x∈l,stOK ops x=true
 | [],_,_,x,hx=>by simp at hx
 | y::l,pre,h,x,hx=>by
  simp only [strOK,B5] at h;rcases C4.1 hx with e | hx
  · exact e▸h.1
  · exact strOK_all ops l _ h.2.2 x hx
theorem DfG.st {d:DfM} (h:DfG d) {x:StM} (hx:x∈d.st):stOK d.op x=true:=by
 have:=h.v;simp only [DfM.valid,B5] at this;exact strOK_all d.op d.st [] this.2.2.2.2.1 x hx
end Go.Q
end
section
namespace Go.Q
open Go
end Go.Q
namespace Go.Q
open Go
end Go.Q
end
section
namespace Go.Q
open Go
noncomputable def cfg (d:DfM) (t:Tm):Bool:=d.valid&&(t.valid&&(isG t&&!decide (sortT d.op [] t=e0)))
theorem cfg_of {d:DfM} {t:Tm} (hb:DfB d) (hw:Wt t) (h:cfg d t=true):DfG d/\Gt d.op t/\t.nodes<=60:=by
 simp only [cfg,B5,D1,decide_eq_false_iff_not] at h;exact ⟨⟨hb,h.1⟩,⟨hw,valid_areN h.2.1,h.2.2.2⟩,valid_nodes h.2.1⟩
def rdRow (x:Nat×List Int):List D:=[.int (x.1:Int),.sl (x.2.map iRow)]
noncomputable def runT (d:DfM) (t:Tm) (f:Int):Option RunR:=if 0<=f/\f<=200/\cfg d t=true then some (runF d f.toNat t) else none
end Go.Q
namespace Go.Q
open Go
end Go.Q
end
section
namespace Go.Q
open Go
end Go.Q
namespace Go.Q
open Go
theorem wt0:Wt tm0:=.mk (S.i64ok_of (by decide) (by decide)) (S.i64ok_of (by decide) (by decide)) (by decide) (by decide) (by intro a ha; simp [tm0,Tm.as] at ha)
end Go.Q
end
section
/- Translations,instances that are configurations,refutations. -/
namespace Go.Q
open Go
theorem depthL_le {f:Tm->Tm}:∀ (l:List Tm),(∀ a∈l,(f a).depth<=a.depth)->Tm.depthL (l.map f)<=Tm.depthL l
 | [],_=>Nat.le_refl _
 | a::l,h=>by
  have h1:=h a (B7 ..);have h2:=depthL_le l fun b hb=>h b (B6 _ hb)
  simp only [B9,Tm.depthL]; omega
theorem depth_aS {l:List Bnd} (hl:∀ b∈l,b.2.depth=1):∀ t,(aS l t).depth<=t.depth:=Tm.ind fun t ih=>by
 rw [aS_eq];have h1:=Tm.depth_eq t;split
 · rename_i u hu
   split at hu
   · obtain ⟨b,hb,rfl⟩:=bnd_mem hu
     rw [hl b hb]; omega
   · simp at hu
 · rw [Tm.depth_eq,Tm.as_mk]
   have:=depthL_le t.as ih;omega
theorem depth_rW:∀ t,(rW t).depth<=t.depth:=Tm.ind fun t ih=>by
 have h1:=Tm.depth_eq t;have plain:(Tm.mk t.k t.n t.s (t.as.map rW)).depth<=t.depth:=by
  rw [Tm.depth_eq,Tm.as_mk];have:=depthL_le t.as ih;omega
 rw [rW_eq];unfold rW1;split
 · rename_i x y hxy
   split
   · rw [Tm.depth_eq,Tm.as_mk]; simp only [Tm.depthL]; omega
   · exact plain
 · exact plain
theorem vals_eq_len {n:Nat} {c:Int} (h:isC n c=true):(vals n c).length=n:=by
 have h3:=(isC_le h).1;unfold vals;rw [H5 h]
 match n,h3 with
 | 0,_=>rfl
 | 1,_=>rfl
 | 2,_=>rfl
 | 3,_=>rfl
theorem vals_w {n:Nat} {c:Int} (h:isC n c=true):∀ x∈vals n c,0<=x/\x<4:=fun x hx=>by
 obtain ⟨h3,h0,_⟩:=isC_le h;have hm:∀ a:Int,0<=a->0<=a.tmod 4/\a.tmod 4<4:=fun a ha=>⟨O6 4 ha,N3 _ (by decide)⟩
 have hd:∀ a:Int,0<=a->0<=a.tdiv 4:=fun a ha=>Int.tdiv_nonneg ha (by decide)
 unfold vals at hx;rw [H5 h] at hx
 match n,h3 with
 | 0,_=>simp at hx
 | 1,_ =>
  simp only [J0] at hx;subst hx; exact hm _ h0
 | 2,_ =>
  simp only [C4,List.not_mem_nil,or_false] at hx;rcases hx with e | e
  · subst e; exact hm _ (hd _ h0)
  · subst e; exact hm _ h0
 | 3,_ =>
  simp only [C4,List.not_mem_nil,or_false] at hx;rcases hx with e | e | e
  · subst e; exact hm _ (hd _ (hd _ h0))
  · subst e; exact hm _ (hd _ h0)
  · subst e; exact hm _ h0
theorem sort_word (ops:List OpM) (n:Int):sortT ops [] (word n)=wordS:=by unfold word; rw [sortT_eq]; rfl
theorem zip_agree (ops:List OpM):∀ (vars:List ByteArray) (vs:List Int),vs.length=vars.length->Agree ops (wv vars) ((vars.zip vs).map fun p=>(p.1,word p.2))
 | [],[],_=>by
  intro s; simp [wv,vfind,bnd]
 | [],_::_,h=>by simp at h
 | _::_,[],h=>by simp at h
 | x::vars,v::vs,h=>by
  have ih:=zip_agree ops vars vs (by simpa using h)
  intro s;have hs:=ih s;unfold wv vfind at hs ⊢;simp only [B9,List.zip_cons_cons,List.find?_cons,bnd];by_cases e:x=s
  · simp only [e,H3,if_true]
    exact sort_word ops v
  · simp only [e,H4,if_false]
    exact hs
theorem zip_bnd:∀ (vars:List ByteArray) (vs:List Int) (s:ByteArray),vs.length=vars.length->s∈vars->∃ n∈vs,bnd ((vars.zip vs).map fun p=>(p.1,word p.2)) s=some (word n)
 | [],_,s,_,h=>by simp at h
 | _::_,[],_,h,_=>by simp at h
 | x::vars,v::vs,s,h,hs=>by
  simp only [List.zip_cons_cons,B9,bnd];by_cases e:x=s
  · exact ⟨v,B7 ..,by rw [H5 e]⟩
  · rw [H6 e]
    obtain ⟨n,h1,h2⟩:=zip_bnd vars vs s (by simpa using h) (by
     rcases C4.1 hs with q | q
     · exact absurd q.symm e
     · exact q)
    exact ⟨n,B6 _ h1,h2⟩
theorem aS_ground {l:List Bnd} (hg:∀ b∈l,b.2.names=[]):∀ t,(∀ s∈t.names,bnd l s≠none)->(aS l t).names=[]:=Tm.ind fun t ih h=>by
 rw [Tm.names_eq] at h;rw [aS_eq];by_cases hk:t.k=1
 · rw [H5 hk] at h ⊢
   cases hb:bnd l t.s with
   | some v =>
    obtain ⟨b,h1,rfl⟩:=bnd_mem hb;exact hg b h1
   | none=>exact absurd hb (h t.s (by simp))
 · rw [H6 hk] at h ⊢
   simp only;rw [Tm.names_eq,Tm.k_mk,Tm.as_mk,H6 hk,E4,List.flatMap_map];rw [flat_congr (g:=fun _=>[]) fun a ha=>ih a ha fun s hs=>h s (C2.2 (.inr (G6.2 ⟨a,ha,hs⟩)))]
   induction t.as with
   | nil=>rfl
   | cons a l ih=>rw [P9,ih]; rfl
theorem cfg_inst {d:DfM} {vars:List ByteArray} {t:Tm} (hs:symV d vars t=true) {c:Int} (hc:isC vars.length c=true):cfg d (inst vars t c)=true:=by
 simp only [symV,B5,D1,decide_eq_false_iff_not] at hs;obtain ⟨hv,_,_,_,htv,hwi,hso⟩:=hs;have hlen:=vals_eq_len hc;have hA:=zip_agree d.op vars (vals vars.length c) hlen;have htn:=valid_areN htv;have hw:∀ b∈caseS vars c,b.2.areN=true/\(b.2.names=[]/\(b.2.depth=1/\b.2.nodes=1)):=fun b hb=>by
  unfold caseS at hb;simp only [D9] at hb;obtain ⟨p,hp,rfl⟩:=hb;obtain ⟨v1,v2⟩:=vals_w hc _ (List.of_mem_zip hp).2;refine ⟨?_,rfl,rfl,rfl⟩;show (word p.2).areN=true
  unfold word;rw [Tm.areN_eq];unfold Tm.nodeN isW;simp only [Tm.k_mk,Tm.n_mk,Tm.s_mk,Tm.as_mk];simp [Tm.areNL,v1,v2]
 have hn1:=areN_aS (fun b hb=>(hw b hb).1) t htn
 have hs1:sortT d.op [] (aS (caseS vars c) t)=sortT d.op (wv vars) t:=sort_aS hA t htn hso;have hs2:sortT d.op [] (inst vars t c)=sortT d.op (wv vars) t:=by unfold inst; rw [sort_rW d.op [] _ hn1 (by rw [hs1]; exact hso),hs1]
 simp only [cfg,B5,D1,decide_eq_false_iff_not];refine ⟨hv,?_,?_,by rw [hs2]; exact hso⟩
 · simp only [Tm.valid,B5,decide_eq_true_eq] at htv ⊢
   have a1:=aS_nodes (fun b hb=>(hw b hb).2.2.2) t
   have a2:=rW_nodes (aS (caseS vars c) t);have a3:=depth_aS (fun b hb=>(hw b hb).2.2.1) t
   have a4:=depth_rW (aS (caseS vars c) t);exact ⟨by unfold inst; omega,by unfold inst; omega,areN_rW _ hn1⟩
 · unfold isG inst
   rw [rW_names,aS_ground (fun b hb=>(hw b hb).2.1) t fun s hs=>by
    obtain ⟨n,_,e⟩:=zip_bnd vars (vals vars.length c) s hlen (within_iff.1 hwi s hs);show bnd (caseS vars c) s≠none
    unfold caseS;rw [e]; simp]
   rfl
theorem instR_C {vars:List ByteArray} {t:Tm} {c:Int} (h:isC vars.length c=true):S.instR vars t c=inst vars t c:=by unfold S.instR; rw [H5 h]
end Go.Q
namespace Go.Q
open Go
theorem wt_word {n:Int} (h0:0<=n) (h1:n<4):Wt (word n):=.mk (S.i64ok_of (by show _<=(3:Int); decide) (by show (3:Int)<=_; decide)) (S.i64ok_of (by show _<=n; omega) (by show n<=_; omega)) (by show (⟨#[]⟩:ByteArray).size<=maxLen; decide) (O9 _) (by intro a ha; simp [word,Tm.as] at ha)
theorem wt_instR {vars:List ByteArray} {t:Tm} (h:Wt t) (c:Int):Wt (S.instR vars t c):=by
 unfold S.instR;split
 · rename_i hc
   refine wt_rW _ (wt_aS (fun b hb=>?_) t h)
   unfold caseS at hb;simp only [D9] at hb;obtain ⟨p,hp,rfl⟩:=hb;obtain ⟨v1,v2⟩:=vals_w hc _ (List.of_mem_zip hp).2;exact wt_word v1 v2
 · exact wt0
end Go.Q
end
section
/- Symbolic terms with cases; comparison. -/
namespace Go.Q
open Go
def incC (n:Nat):Option Int->List Int->Bool
 | _,[]=>true
 | p,c::r=>isC n c&&((match p with | some q=>!decide (c<=q) | none=>true)&&incC n (some c) r)
theorem incC_isC {n:Nat}:∀ (cs:List Int) (p:Option Int),incC n p cs=true->∀ c∈cs,isC n c=true
 | [],_,_,c,hc=>by simp at hc
 | x::r,p,h,c,hc=>by
  simp only [incC,B5] at h;rcases C4.1 hc with e | hc
  · subst e; exact h.1
  · exact incC_isC r _ h.2.2 c hc
structure SyM where
 d:DfM
 v:List ByteArray
 t:Tm
 c:List Int
def SyM.row (s:SyM):List D:=[.sl (s.d.so.map sRow),.sl (s.d.op.map OpM.row),.sl (s.d.ru.map RuM.row),.sl (s.d.st.map StM.row),.sl (s.v.map sRow),.int s.t.k,.int s.t.n,.str s.t.s,.sl (s.t.as.map Tm.row),.sl (s.c.map iRow)]
end Go.Q
end
section
/- Places of terms,steps of symbolic terms,branches. -/
namespace Go.Q
open Go
def atO (t:Tm) (p:List Int):Tm:=(atT t p).getD tm0
theorem tm0_nodes:tm0.nodes=1:=by rw [Tm.nodes_eq]; rfl
theorem atO_nodes (t:Tm) (p:List Int) {m:Nat} (hm:1<=m) (h:t.nodes<=m):(atO t p).nodes<=m:=by
 unfold atO;cases ha:atT t p with
 | none=>rw [Option.getD_none,tm0_nodes]; exact hm
 | some u=>have:=atT_nodes p t u ha; rw [Option.getD_some]; omega
theorem atO_wt {t:Tm} (h:Wt t) (p:List Int):Wt (atO t p):=by
 unfold atO;cases ha:atT t p with
 | none=>exact wt0
 | some u=>exact atT_sub (fun t a h ha=>h.sub ha) p t u h ha
theorem wt_put {w:Tm} (hw:Wt w):∀ (p:List Int) (t:Tm),Wt t->Wt (putT t p w)
 | [],t,_=>hw
 | i::p,t,h=>by
  simp only [putT];split
  · rename_i hi
    refine wt_mk h (by simp) fun a ha=>?_
    rcases N0 ha with q | q
    · exact h.sub q
    · exact q▸wt_put hw p _ (h.sub (C1 hi))
  · exact h
mutual
def posT:Tm->List Int->List (List Int)
 | .mk _ _ _ as,p=>p::posL as p 0
def posL:List Tm->List Int->Nat->List (List Int)
 | [],_,_=>[]
 | a::r,p,i=>posT a (p++[(i:Int)])++posL r p (i+1)
end
theorem posT_eq (t:Tm) (p:List Int):posT t p=p::posL t.as p 0:=by cases t; simp only [posT,Tm.as]
def cB1 (l u:Tm) (p:List Int):Option Bnd:=if (atO l p).k=1 then some ((atO l p).s,atO u p) else none
def carB (l u:Tm):List Bnd:=(posT l []).filterMap (cB1 l u)
theorem carB_mem {l u:Tm} {P:Tm->Prop} (h:∀ p,P (atO u p)):∀ b∈carB l u,P b.2:=fun b hb=>by
 unfold carB at hb;obtain ⟨p,_,hp⟩:=Q6.1 hb;unfold cB1 at hp;split at hp
 · simp only [C0.injEq] at hp; subst hp; exact h p
 · simp at hp
theorem rW_as {t:Tm} {i:Nat} (h:i<(rW t).as.length):∃ hi:i<t.as.length,(rW t).as[i]=rW t.as[i]:=by
 have key:(rW t).as=[]\/(rW t).as=t.as.map rW:=by
  rw [rW_eq];unfold rW1;split
  · split
    · exact .inl rfl
    · rename_i hxy _; rw [Tm.as_mk,hxy]; exact .inr rfl
  · exact .inr rfl
 rcases key with e | e
 · rw [e] at h; simp at h
 · have hi:i<t.as.length:=by rw [e] at h; simpa using h
   refine ⟨hi,?_⟩;simp only [e,List.getElem_map]
theorem inst_at {l:List Bnd} (hl:∀ b∈l,b.2.as=[]):∀ (p:List Int) (t u:Tm),atT (rW (aS l t)) p=some u->∃ v,atT t p=some v
 | [],t,u,h=>⟨t,rfl⟩
 | i::p,t,u,h=>by
  obtain ⟨hi,h0,h1⟩:=atT_cons h;obtain ⟨hi2,e2⟩:=rW_as hi;have key:∃ hi3:i.toNat<t.as.length,(aS l t).as[i.toNat]=aS l t.as[i.toNat]:=by
   have hc:(aS l t).as=[]\/(aS l t).as=t.as.map (aS l):=by
    rw [aS_eq];split
    · rename_i v hv
      split at hv
      · obtain ⟨b,hb,rfl⟩:=bnd_mem hv; exact .inl (hl b hb)
      · simp at hv
    · exact .inr rfl
   rcases hc with e | e
   · rw [e] at hi2; simp at hi2
   · have hi3:i.toNat<t.as.length:=by rw [e] at hi2; simpa using hi2
     exact ⟨hi3,by simp only [e,List.getElem_map]⟩
  obtain ⟨hi3,e3⟩:=key;rw [e2,e3] at h1;obtain ⟨v,hv⟩:=inst_at hl p _ u h1;exact ⟨v,by simp only [atT,dif_pos hi3,H5 h0]; exact hv⟩
theorem caseS_as (vars:List ByteArray) (c:Int):∀ b∈caseS vars c,b.2.as=[]:=fun b hb=>by
 unfold caseS at hb;simp only [D9] at hb;obtain ⟨p,_,rfl⟩:=hb;rfl
def carT (d:DfM) (t:Tm) (x:Nat×List Int):Tm:=match d.ru[x.1]? with
 | some r=>rW (putT t x.2 (aS (carB r.l (atO t x.2)) r.r))
 | none=>tm0
abbrev Bk:=Option (Nat×List Int)
def bK (d:DfM) (t:Tm):Bk->Int
 | none=>1
 | some y=>if (carT d t y).valid=true then 2 else 3
def bT (d:DfM) (t:Tm):Bk->Tm
 | none=>t
 | some y=>if (carT d t y).valid=true then carT d t y else tm0
def fndB (out:List (Bk×List Int)) (x:Bk):Option Nat:=out.findIdx? fun b=>decide (b.1=x)
def addB (out:List (Bk×List Int)) (x:Bk) (c:Int):List (Bk×List Int):=match fndB out x with
 | some i=>(match out[i]? with | some b=>out.set i (b.1,b.2++[c]) | none=>out)
 | none=>out++[(x,[c])]
noncomputable def brF (d:DfM) (v:List ByteArray) (t:Tm):List Int->List (Bk×List Int)->List (Bk×List Int)
 | [],out=>out
 | c::r,out=>brF d v t r (addB out (nx d (inst v t c)) c)
theorem carT_b {d:DfM} (hd:DfG d) {t:Tm} (hw:Wt t) (hn:t.nodes<=60) {x:Nat×List Int} (hp:x.2.length<=60):Wt (carT d t x)/\(carT d t x).nodes<=7260:=by
 unfold carT;cases hr:d.ru[x.1]? with
 | none=>exact ⟨wt0,by rw [tm0_nodes]; decide⟩
 | some r =>
  have hrg:=hd.ru (O8 hr);have a1:=aS_nodesM (m:=60) (by decide) (carB_mem (l:=r.l) (P:=fun t=>t.nodes<=60) fun p=>atO_nodes (atO t x.2) p (by decide) (atO_nodes t x.2 (by decide) hn)) r.r
  have a2:=valid_nodes hrg.rv;have a3:=put_nodes (aS (carB r.l (atO t x.2)) r.r) x.2 t;have a4:=rW_nodes (putT t x.2 (aS (carB r.l (atO t x.2)) r.r));have a5:t.nodes*(x.2.length+1)<=60*61:=Nat.mul_le_mul hn (by omega)
  refine ⟨wt_rW _ (wt_put (wt_aS (carB_mem (P:=Wt) fun p=>atO_wt (atO_wt hw x.2) p) r.r hrg.b.wr) x.2 t hw),?_⟩
  simp only;omega
theorem over_eq_set {α:Type}:∀ (i:Nat) (x:α) (l:List α),i<l.length->over i [x] l=l.set i x
 | i,x,[],h=>by simp at h
 | 0,x,a::l,_=>by cases l <;> rfl
 | i+1,x,a::l,h=>by simp only [over,P3,over_eq_set i x l (by simpa using h)]
structure BkG (d:DfM) (t:Tm) (x:Bk):Prop where
 i:∀ y,x=some y->y.1<d.ru.length/\y.2.length<=60/\∃ u,atT t y.2=some u
theorem nx_bkG {d:DfM} {v:List ByteArray} {t:Tm} (hb:DfB d) (hw:Wt t) (hs:symV d v t=true) {c:Int} (hc:isC v.length c=true):DfG d/\t.nodes<=60/\Gt d.op (inst v t c)/\(inst v t c).nodes<=60/\BkG d t (nx d (inst v t c)):=by
 have hwi:Wt (inst v t c):=instR_C hc▸wt_instR hw c;obtain ⟨h1,h2,h3⟩:=cfg_of hb hwi (cfg_inst hs hc);have htn:t.nodes<=60:=by
  simp only [symV,B5] at hs;exact valid_nodes hs.2.2.2.2.1
 refine ⟨h1,htn,h2,h3,⟨fun y hy=>?_⟩⟩
 obtain ⟨u,r,w,q1,q2,_⟩:=nx_spec d (inst v t c) y.1 y.2 hy;have q3:=atT_nodes y.2 _ u q1;exact ⟨(C3.1 q2).1,by omega,inst_at (caseS_as v c) y.2 t u q1⟩
end Go.Q
end
section
/- Branches: bounds of what is answered. -/
namespace Go.Q
open Go
end Go.Q
end
section
/- Symbolic terms stay symbolic along a step. -/
namespace Go.Q
open Go
theorem bnd_memp:∀ {l:List Bnd} {s:ByteArray} {w:Tm},bnd l s=some w->(s,w)∈l
 | [],s,w,h=>by simp [bnd] at h
 | b::l,s,w,h=>by
  simp only [bnd] at h;split at h
  · rename_i e
    simp only [C0.injEq] at h;obtain ⟨b1,b2⟩:=b;simp only at e h;subst e; subst h;exact B7 ..
  · exact B6 _ (bnd_memp h)
theorem bnd_of_mem:∀ {l:List Bnd} {s:ByteArray} {w:Tm},(s,w)∈l->∃ w',bnd l s=some w'
 | [],s,w,h=>by simp at h
 | b::l,s,w,h=>by
  simp only [bnd];by_cases e:b.1=s
  · exact ⟨b.2,H5 e⟩
  · rw [H6 e]
    rcases C4.1 h with h | h
    · exact absurd (by rw [<- h]) e
    · exact bnd_of_mem h
theorem posL_iff:∀ (as:List Tm) (p:List Int) (i:Nat) (q:List Int),q∈posL as p i↔∃ j,∃ h:j<as.length,q∈posT as[j] (p++[((i+j:Nat):Int)])
 | [],p,i,q=>by simp [posL]
 | a::r,p,i,q=>by
  simp only [posL,C2];rw [posL_iff r p (i+1) q];constructor
  · rintro (h | ⟨j,hj,h⟩)
    · exact ⟨0,by simp,by simpa using h⟩
    · exact ⟨j+1,by simpa using hj,by rw [show i+(j+1)=i+1+j by omega]; simpa using h⟩
  · rintro ⟨j,hj,h⟩
    cases j with
    | zero=>exact .inl (by simpa using h)
    | succ j=>exact .inr ⟨j,by simpa using hj,by rw [show i+1+j=i+(j+1) by omega]; simpa using h⟩
theorem atT_step {t:Tm} {j:Nat} (h:j<t.as.length) (q:List Int):atT t ((j:Int)::q)=atT t.as[j] q:=by
 simp only [atT,Int.toNat_natCast,dif_pos h];rw [H5 (by omega)]
theorem posT_at:∀ t:Tm,∀ p q,q∈posT t p->∃ q' a,q=p++q'/\atT t q'=some a:=Tm.ind fun t ih p q hq=>by
 rw [posT_eq] at hq;rcases C4.1 hq with e | hq
 · exact ⟨[],t,by simp [e],rfl⟩
 · obtain ⟨j,hj,h⟩:=(posL_iff t.as p 0 q).1 hq
   obtain ⟨q',a,e,h1⟩:=ih _ (C1 hj) _ q h;refine ⟨(j:Int)::q',a,?_,by rw [atT_step hj]; exact h1⟩
   rw [e,K3]; simp
theorem at_posT:∀ (q:List Int) (t:Tm) (p:List Int) (a:Tm),atT t q=some a->p++q∈posT t p
 | [],t,p,a,_=>by rw [posT_eq]; simp
 | i::q,t,p,a,h=>by
  obtain ⟨hi,h0,h1⟩:=atT_cons h;rw [posT_eq];refine B6 _ ((posL_iff t.as p 0 _).2 ⟨i.toNat,hi,?_⟩);have:=at_posT q _ (p++[i]) a h1;rw [K3,show ((i.toNat:Nat):Int)=i by omega]
  simpa using this
theorem names_at:∀ t:Tm,∀ s∈t.names,∃ q a,atT t q=some a/\a.k=1/\a.s=s:=Tm.ind fun t ih s hs=>by
 rw [Tm.names_eq] at hs;rcases C2.1 hs with h | h
 · split at h
   · rename_i hk
     simp only [J0] at h;exact ⟨[],t,rfl,hk,h.symm⟩
   · simp at h
 · obtain ⟨x,hx,hs⟩:=G6.1 h
   obtain ⟨j,hj,e⟩:=List.getElem_of_mem hx;obtain ⟨q,a,h1,h2,h3⟩:=ih x hx s hs;exact ⟨(j:Int)::q,a,by rw [atT_step hj,e]; exact h1,h2,h3⟩
theorem at_names:∀ (q:List Int) (t u:Tm),atT t q=some u->∀ s∈u.names,s∈t.names
 | [],t,u,h,s,hs=>by simp only [atT,C0.injEq] at h; subst h; exact hs
 | i::q,t,u,h,s,hs=>by
  obtain ⟨hi,h0,h1⟩:=atT_cons h;rw [Tm.names_eq];exact C2.2 (.inr (G6.2 ⟨_,C1 hi,at_names q _ u h1 s hs⟩))
theorem carB_spec {l u:Tm} {s:ByteArray} {w:Tm} (h:(s,w)∈carB l u):∃ q a,atT l q=some a/\a.k=1/\a.s=s/\w=atO u q:=by
 unfold carB at h;obtain ⟨q,hq,h1⟩:=Q6.1 h;obtain ⟨q',a,e,ha⟩:=posT_at l [] q hq;simp only [E4] at e;subst e;have e:atO l q=a:=by simp [atO,ha]
 unfold cB1 at h1;rw [e] at h1;split at h1
 · rename_i hk
   simp only [C0.injEq,D7.injEq] at h1;exact ⟨q,a,ha,hk,h1.1,h1.2.symm⟩
 · simp at h1
theorem carB_has {l u:Tm} {s:ByteArray} (h:s∈l.names):∃ w,bnd (carB l u) s=some w:=by
 obtain ⟨q,a,h1,h2,h3⟩:=names_at l s h;have hq:=at_posT q l [] a h1;simp only [E4] at hq;have e:atO l q=a:=by simp [atO,h1]
 refine bnd_of_mem (w:=atO u q) (Q6.2 ⟨q,hq,?_⟩);unfold cB1;rw [e,H5 h2,h3]
theorem rW1_k2 {k n:Int} {s:ByteArray} {as:List Tm} (h:(rW1 k n s as).k=2):k=2/\rW1 k n s as=.mk k n s as:=by
 unfold rW1 at h ⊢;split at h
 · split at h
   · exact absurd h (by show ¬(3:Int)=2; decide)
   · rename_i hc; rw [H6 hc]; exact ⟨h,rfl⟩
 · exact ⟨h,rfl⟩
theorem inst_app {σ:List Bnd} (hσ:∀ b∈σ,b.2.as=[]/\b.2.k=3) {u:Tm} (hu:u.areN=true) (h:(rW (aS σ u)).k=2):u.k=2/\(rW (aS σ u)).s=u.s/\(rW (aS σ u)).as=u.as.map fun a=>rW (aS σ a):=by
 rw [rW_eq] at h ⊢;obtain ⟨h1,h2⟩:=rW1_k2 h;rw [h2];have hk:u.k=2:=by
  rcases nodeN_cases hu with ⟨q,_⟩|⟨q,_,_⟩ | q
  · rw [aS_eq,H5 q] at h1
    cases hb:bnd σ u.s with
    | some w =>
     rw [hb] at h1;obtain ⟨b,hbm,rfl⟩:=bnd_mem hb;have:=(hσ b hbm).2;simp only at h1; omega
    | none=>rw [hb] at h1; simp only [Tm.k_mk] at h1; omega
  · rw [aS_eq,H6 (by omega)] at h1; simp only [Tm.k_mk] at h1; omega
  · exact q
 have e:aS σ u=.mk u.k u.n u.s (u.as.map (aS σ)):=by rw [aS_eq,H6 (by omega)]
 refine ⟨hk,?_,?_⟩
 · rw [e]; rfl
 · rw [e,Tm.as_mk,Tm.as_mk,J4]; rfl
theorem inst_at2 {l:List Bnd} (hl:∀ b∈l,b.2.as=[]):∀ (p:List Int) (t u:Tm),atT (rW (aS l t)) p=some u->∃ v,atT t p=some v/\u=rW (aS l v)
 | [],t,u,h=>by simp only [atT,C0.injEq] at h; exact ⟨t,rfl,h.symm⟩
 | i::p,t,u,h=>by
  obtain ⟨hi,h0,h1⟩:=atT_cons h;obtain ⟨hi2,e2⟩:=rW_as hi;have key:∃ hi3:i.toNat<t.as.length,(aS l t).as[i.toNat]=aS l t.as[i.toNat]:=by
   have hc:(aS l t).as=[]\/(aS l t).as=t.as.map (aS l):=by
    rw [aS_eq];split
    · rename_i v hv
      split at hv
      · obtain ⟨b,hb,rfl⟩:=bnd_mem hv; exact .inl (hl b hb)
      · simp at hv
    · exact .inr rfl
   rcases hc with e | e
   · rw [e] at hi2; simp at hi2
   · have hi3:i.toNat<t.as.length:=by rw [e] at hi2; simpa using hi2
     exact ⟨hi3,by simp only [e,List.getElem_map]⟩
  obtain ⟨hi3,e3⟩:=key;rw [e2,e3] at h1;obtain ⟨v,hv,e⟩:=inst_at2 hl p _ u h1;exact ⟨v,by simp only [atT,dif_pos hi3,H5 h0]; exact hv,e⟩
def ExtV (vs vs':List VS):Prop:=∀ s y,vfind vs s=some y->vfind vs' s=some y
theorem infL_ext (ops:List OpM):∀ (l:List Tm),(∀ t∈l,∀ x vs vs',infT ops t x vs=some vs'->ExtV vs vs')->∀ xs vs vs',infL ops l xs vs=some vs'->ExtV vs vs'
 | [],_,xs,vs,vs',h=>by simp only [infL,C0.injEq] at h; subst h; exact fun _ _ h=>h
 | t::l,ih,xs,vs,vs',h=>by
  have step:∀ x ys v,infT ops t x vs=some v->infL ops l ys v=some vs'->ExtV vs vs':=fun x ys v hq h=>by
   have h1:=ih t (B7 ..) x vs v hq;have h2:=infL_ext ops l (fun a ha=>ih a (B6 _ ha)) ys v vs' h
   exact fun s y hy=>h2 s y (h1 s y hy)
  cases xs with
  | nil =>
   simp only [infL] at h;cases hq:infT ops t e0 vs with
   | none=>rw [hq] at h; simp at h
   | some v=>rw [hq] at h; exact step _ _ _ hq h
  | cons x ys =>
   simp only [infL] at h;cases hq:infT ops t x vs with
   | none=>rw [hq] at h; simp at h
   | some v=>rw [hq] at h; exact step _ _ _ hq h
theorem infT_ext (ops:List OpM):∀ t:Tm,∀ x vs vs',infT ops t x vs=some vs'->ExtV vs vs':=Tm.ind fun t ih x vs vs' h=>by
 rw [infT_eq] at h;split at h
 · split at h
   · split at h
     · simp only [C0.injEq] at h; subst h; exact fun _ _ h=>h
     · simp at h
   · simp only [C0.injEq] at h; subst h
     intro s y hy;rw [vfind_app,hy]
 · exact infL_ext ops t.as ih _ _ _ h
theorem pos_sort (ops:List OpM) (wvs:List VS) {σ:List Bnd} (hσ:∀ b∈σ,b.2.as=[]/\b.2.k=3):∀ l:Tm,l.areN=true->∀ u x vs vs' acc acc',u.areN=true->sortT ops wvs u=x->x≠e0->infT ops l x vs=some vs'->mT l (rW (aS σ u)) acc=some acc' →
 ∀ q a,atT l q=some a->a.k=1->∃ w y,atT u q=some w/\vfind vs' a.s=some y/\sortT ops wvs w=y.2:=Tm.ind fun l ih hn u x vs vs' acc acc' hun hu hx hi hm q a ha hk=>by
 rcases nodeN_cases hn with ⟨h1,has⟩|⟨h3,_,has⟩ | h2
 · cases q with
   | cons i q=>obtain ⟨hlt,_,_⟩:=atT_cons ha; rw [has] at hlt; simp at hlt
   | nil =>
    simp only [atT,C0.injEq] at ha;subst ha;rw [infT_eq,H5 h1] at hi;cases hv:vfind vs l.s with
    | some y =>
     have hv':=hv;unfold vfind at hv;rw [hv] at hi;simp only at hi;split at hi
     · rename_i e
       simp only [C0.injEq] at hi;subst hi;exact ⟨u,y,rfl,hv',by rw [hu]; exact e.symm⟩
     · simp at hi
    | none =>
     have hv':=hv;unfold vfind at hv;rw [hv] at hi;simp only [C0.injEq] at hi;subst hi;exact ⟨u,(l.s,x),rfl,by rw [vfind_app,hv']; simp,hu⟩
 · cases q with
   | cons i q=>obtain ⟨hlt,_,_⟩:=atT_cons ha; rw [has] at hlt; simp at hlt
   | nil=>simp only [atT,C0.injEq] at ha; subst ha; omega
 · cases q with
   | nil=>simp only [atT,C0.injEq] at ha; subst ha; omega
   | cons i q =>
    rcases mT_cases hm with ⟨e,_⟩|⟨e,_⟩|⟨_,e1,_,e3,e4,hms⟩
    · omega
    · omega
    obtain ⟨b1,b2,b3⟩:=inst_app hσ hun (by omega)
    obtain ⟨o,hf,hl,hss,_⟩:=sort_op (t:=u) b1 (by rw [hu]; exact hx)
    rw [infT_eq,H6 (by omega),H5 h2,e3,b2,hf] at hi
    simp only at hi;rw [b3] at hms e4;rw [D2] at e4;obtain ⟨hlt,h0,h1⟩:=atT_cons ha;have key:∀ (ts us:List Tm) (xs:List ByteArray) (vs:List VS) (acc:List Bnd),(∀ t∈ts,t∈l.as)->(∀ t∈us,t∈u.as)->us.length<=xs.length->sortsT ops wvs us xs=true->infL ops ts xs vs=some vs'->mTs ts (us.map fun a=>rW (aS σ a)) acc=some acc' →
     ∀ j (hj:j<ts.length) (hj':j<us.length),atT ts[j] q=some a->∃ w y,atT us[j] q=some w/\vfind vs' a.s=some y/\sortT ops wvs w=y.2:=by
     intro ts;induction ts with
     | nil=>intro us xs vs acc _ _ _ _ _ _ j hj; simp at hj
     | cons t ts ihs =>
      intro us xs vs acc hts hus hlen hs hi hm j hj hj' hat;cases us with
      | nil=>simp at hj'
      | cons u1 us =>
       cases xs with
       | nil=>simp at hlen
       | cons y xs =>
        simp only [sortsT,B5,D1,decide_eq_false_iff_not,decide_eq_true_eq] at hs;simp only [infL] at hi;simp only [B9,mTs] at hm;cases hi1:infT ops t y vs with
        | none=>rw [hi1] at hi; simp at hi
        | some vs1 =>
         rw [hi1] at hi;cases hm1:mT t (rW (aS σ u1)) acc with
         | none=>rw [hm1] at hm; simp at hm
         | some acc1 =>
          rw [hm1] at hm;simp only at hi hm;cases j with
          | zero =>
           obtain ⟨w,z,k1,k2,k3⟩:=ih t (hts t (B7 ..)) (areN_sub hn (hts t (B7 ..))) u1 y vs vs1 acc acc1 (areN_sub hun (hus u1 (B7 ..))) hs.1.2 (by rw [<- hs.1.2]; exact hs.1.1) hi1 hm1 q a hat hk
           exact ⟨w,z,k1,infL_ext ops ts (fun t _=>infT_ext ops t) xs vs1 vs' hi _ _ k2,k3⟩
          | succ j =>
           exact ihs us xs vs1 acc1 (fun t ht=>hts t (B6 _ ht)) (fun t ht=>hus t (B6 _ ht)) (by simpa using hlen) hs.2 hi hm j (by simpa using hj) (by simpa using hj') hat
    have hlt':i.toNat<u.as.length:=by omega
    obtain ⟨w,y,k1,k2,k3⟩:=key l.as u.as o.a vs acc (fun _ h=>h) (fun _ h=>h) (by omega) hss hi hms i.toNat hlt hlt' h1
    exact ⟨w,y,by simp only [atT,dif_pos hlt',H5 h0]; exact k1,k2,k3⟩
theorem sort_aSw {ops:List OpM} {vs vs1:List VS} {l:List Bnd}:∀ t:Tm,t.areN=true->sortT ops vs t≠e0->(∀ s∈t.names,∃ w,bnd l s=some w/\∀ y,vfind vs s=some y->sortT ops vs1 w=y.2)->sortT ops vs1 (aS l t)=sortT ops vs t:=Tm.ind fun t ih hn hs hA=>by
 rw [Tm.names_eq] at hA;rcases nodeN_cases hn with ⟨h1,ha⟩|⟨h3,_,ha⟩ | h2
 · have e:sortT ops vs t=lookV vs t.s:=by rw [sortT_eq,H6 (by omega),H5 h1]
   rw [e] at hs ⊢;rw [lookV_eq] at hs ⊢;cases hv:vfind vs t.s with
   | none=>rw [hv] at hs; exact absurd rfl hs
   | some v =>
    obtain ⟨w,hb,hw⟩:=hA t.s (by simp [h1])
    rw [aS_eq,H5 h1,hb];exact hw v hv
 · rw [aS_eq,H6 (by omega)]
   rw [sortT_eq,sortT_eq ops vs,H5 (show (Tm.mk t.k t.n t.s _).k=3 from h3),H5 h3]
 · obtain ⟨o,hf,hl,hss,e⟩:=sort_op h2 hs
   rw [aS_eq,H6 (by omega),e]
   have key:∀ (ts:List Tm) (xs:List ByteArray),(∀ a∈ts,a∈t.as)->sortsT ops vs ts xs=true->sortsT ops vs1 (ts.map (aS l)) xs=true:=by
    intro ts;induction ts with
    | nil=>intro xs _ _; rfl
    | cons a ts ihs =>
     intro xs hts h;cases xs with
     | nil=>rfl
     | cons y xs =>
      simp only [sortsT,B5,D1,decide_eq_false_iff_not,decide_eq_true_eq] at h;have hm:=hts a (B7 ..);have q:=ih a hm (areN_sub hn hm) h.1.1 fun s hs=>hA s (C2.2 (.inr (G6.2 ⟨a,hm,hs⟩)))
      simp only [B9,sortsT,B5,D1,decide_eq_false_iff_not,decide_eq_true_eq,q];exact ⟨h.1,ihs xs (fun z hz=>hts z (B6 _ hz)) h.2⟩
   exact sort_of_op (t:=.mk t.k t.n t.s (t.as.map (aS l))) h2 hf (by simpa [Tm.as] using hl) (key _ _ (fun _ h=>h) hss)
theorem at_sort {ops:List OpM} {vs:List VS}:∀ (p:List Int) (t u:Tm),t.areN=true->sortT ops vs t≠e0->atT t p=some u->u.areN=true/\sortT ops vs u≠e0
 | [],t,u,hn,hs,h=>by simp only [atT,C0.injEq] at h; subst h; exact ⟨hn,hs⟩
 | i::p,t,u,hn,hs,h=>by
  obtain ⟨hi,h0,h1⟩:=atT_cons h;have h2:t.k=2:=by
   rcases nodeN_cases hn with ⟨_,q⟩|⟨_,_,q⟩ | h2
   · rw [q] at hi; simp at hi
   · rw [q] at hi; simp at hi
   · exact h2
  obtain ⟨o,hf,hl,hss,e⟩:=sort_op h2 hs;exact at_sort p _ u (areN_sub hn (C1 hi)) (sortsT_ne ops vs t.as o.a (by omega) hss _ (C1 hi)) h1
theorem put_sort {ops:List OpM} {vs:List VS} {w:Tm} (hw:w.areN=true):∀ (p:List Int) (t u:Tm),t.areN=true->sortT ops vs t≠e0->atT t p=some u->sortT ops vs w=sortT ops vs u->(putT t p w).areN=true/\sortT ops vs (putT t p w)=sortT ops vs t
 | [],t,u,hn,hs,h,he=>by simp only [atT,C0.injEq] at h; subst h; exact ⟨hw,he⟩
 | i::p,t,u,hn,hs,h,he=>by
  obtain ⟨hi,h0,h1⟩:=atT_cons h;have h2:t.k=2:=by
   rcases nodeN_cases hn with ⟨_,q⟩|⟨_,_,q⟩ | h2
   · rw [q] at hi; simp at hi
   · rw [q] at hi; simp at hi
   · exact h2
  obtain ⟨o,hf,hl,hss,e⟩:=sort_op h2 hs;have hm:=C1 hi;obtain ⟨g1,g2⟩:=put_sort hw p _ u (areN_sub hn hm) (sortsT_ne ops vs t.as o.a (by omega) hss _ hm) h1 he
  simp only [putT,dif_pos hi];refine ⟨areN_mk hn (by simp) fun a ha=>?_,?_⟩
  · rcases N0 ha with q | q
    · exact areN_sub hn q
    · exact q▸g1
  · rw [e]
    refine sort_of_op (t:=.mk t.k t.n t.s _) h2 hf (by rw [Tm.as_mk,List.length_set]; exact hl) ?_
    rw [Tm.as_mk,sortsT_set t.as o.a i.toNat hi _ g2]; exact hss
theorem names_aS {l:List Bnd}:∀ t:Tm,∀ s∈(aS l t).names,(s∈t.names/\bnd l s=none)\/∃ b∈l,s∈b.2.names:=Tm.ind fun t ih s hs=>by
 rw [aS_eq] at hs;by_cases hk:t.k=1
 · rw [H5 hk] at hs
   cases hb:bnd l t.s with
   | some v =>
    rw [hb] at hs;obtain ⟨b,h1,rfl⟩:=bnd_mem hb;exact .inr ⟨b,h1,hs⟩
   | none =>
    rw [hb] at hs;simp only at hs;rw [Tm.names_eq,Tm.k_mk,H5 hk] at hs;rcases C2.1 hs with h | h
    · simp only [J0] at h
      have h:s=t.s:=h;exact .inl ⟨by rw [Tm.names_eq,H5 hk]; simp [h],by rw [h]; exact hb⟩
    · obtain ⟨x,hx,hs⟩:=G6.1 h
      obtain ⟨a,ha,rfl⟩:=D9.1 hx;rcases ih a ha s hs with ⟨q1,q2⟩ | q
      · exact .inl ⟨by rw [Tm.names_eq]; exact C2.2 (.inr (G6.2 ⟨a,ha,q1⟩)),q2⟩
      · exact .inr q
 · rw [H6 hk] at hs
   simp only at hs;rw [Tm.names_eq,Tm.k_mk,H6 hk,E4] at hs;obtain ⟨x,hx,hs⟩:=G6.1 hs;obtain ⟨a,ha,rfl⟩:=D9.1 hx;rcases ih a ha s hs with ⟨q1,q2⟩ | q
   · exact .inl ⟨by rw [Tm.names_eq]; exact C2.2 (.inr (G6.2 ⟨a,ha,q1⟩)),q2⟩
   · exact .inr q
theorem names_put {w:Tm}:∀ (p:List Int) (t:Tm),∀ s∈(putT t p w).names,s∈t.names\/s∈w.names
 | [],t,s,hs=>.inr hs
 | i::p,t,s,hs=>by
  simp only [putT] at hs;split at hs
  · rename_i hi
    rw [Tm.names_eq,Tm.k_mk,Tm.as_mk] at hs;rw [Tm.names_eq];rcases C2.1 hs with h | h
    · exact .inl (C2.2 (.inl h))
    · obtain ⟨x,hx,hs⟩:=G6.1 h
      rcases N0 hx with q | q
      · exact .inl (C2.2 (.inr (G6.2 ⟨x,q,hs⟩)))
      · subst q
        rcases names_put p _ s hs with q | q
        · exact .inl (C2.2 (.inr (G6.2 ⟨_,C1 hi,q⟩)))
        · exact .inr q
  · exact .inl hs
theorem caseS_w {vars:List ByteArray} {c:Int}:∀ b∈caseS vars c,b.2.as=[]/\b.2.k=3:=fun b hb=>by
 unfold caseS at hb;simp only [D9] at hb;obtain ⟨p,_,rfl⟩:=hb;exact ⟨rfl,rfl⟩
theorem rul_within {ops:List OpM} {r:RuM} (h:rulOK ops r=true):∀ s∈r.r.names,s∈r.l.names:=by
 unfold rulOK at h;simp only [B5,decide_eq_true_eq] at h;obtain ⟨_,_,_,_,_,h4⟩:=h;cases hf:findO ops r.l.s with
 | none=>rw [hf] at h4; simp at h4
 | some o =>
  rw [hf] at h4;simp only at h4;cases hi:infV ops r.l o.r with
  | none=>rw [hi] at h4; simp at h4
  | some vs =>
   rw [hi] at h4;simp only [B5] at h4;exact within_iff.1 h4.2.1
theorem sym_step {d:DfM} {v:List ByteArray} {t:Tm} (hb:DfB d) (hw:Wt t) (hs:symV d v t=true) {c:Int} (hc:isC v.length c=true) {x:Nat×List Int} (hx:nx d (inst v t c)=some x) (hv:(carT d t x).valid=true):symV d v (carT d t x)=true:=by
 obtain ⟨hd,htn,hg,hgn,_⟩:=nx_bkG hb hw hs hc;have hs':=hs;simp only [symV,B5,D1,decide_eq_false_iff_not] at hs' ⊢;obtain ⟨s1,s2,s3,s4,s5,s6,s7⟩:=hs';refine ⟨s1,s2,s3,s4,hv,?_⟩;have hna:=valid_areN s5;obtain ⟨u',r,w',q1,q2,q3⟩:=nx_spec d (inst v t c) x.1 x.2 hx;obtain ⟨u,hu,rfl⟩:=inst_at2 (caseS_as v c) x.2 t u' q1;obtain ⟨hun,hus⟩:=at_sort x.2 t u hna s7 hu;have hr:=hd.ru (O8 q2);have hrw:∀ s∈r.r.names,s∈r.l.names:=by
  have:=hd.v;simp only [DfM.valid,B5,C7] at this;exact rul_within (this.2.2.2.1 r (O8 q2))
 unfold fireR at q3;cases hm:mT r.l (rW (aS (caseS v c) u)) [] with
 | none=>rw [hm] at q3; simp at q3
 | some l' =>
 obtain ⟨o,vs,hf,hi,hso⟩:=hr.inf;have hk:(rW (aS (caseS v c) u)).k=2/\(rW (aS (caseS v c) u)).s=r.l.s:=by
  rcases mT_cases hm with ⟨q,_⟩|⟨q,_⟩|⟨_,q1,_,q2,_⟩
  · have:=hr.lk; omega
  · have:=hr.lk; omega
  · exact ⟨by rw [<- q1]; exact hr.lk,q2.symm⟩
 obtain ⟨b1,b2,b3⟩:=inst_app caseS_w hun hk.1;obtain ⟨o',hf',hl',hss',he'⟩:=sort_op b1 hus;rw [<- b2,hk.2,hf] at hf';simp only [C0.injEq] at hf';subst hf';have hne:o.r≠e0:=he'▸hus;have hP:=pos_sort d.op (wv v) caseS_w r.l (valid_areN hr.lv) u o.r [] vs [] l' hun he' hne (infV_inf hi) hm
 -- bindings
 have hB:∀ b∈carB r.l (atO t x.2),∃ q a y,atT r.l q=some a/\a.k=1/\a.s=b.1/\atT u q=some b.2/\vfind vs b.1=some y/\sortT d.op (wv v) b.2=y.2:=fun b hb'=>by
  obtain ⟨s,w⟩:=b;obtain ⟨q,a,k1,k2,k3,k4⟩:=carB_spec hb';have eu:atO t x.2=u:=by simp [atO,hu]
  obtain ⟨w2,y,m1,m2,m3⟩:=hP q a k1 k2;have ew:w=w2:=by rw [k4,eu]; simp [atO,m1]
  subst ew;exact ⟨q,a,y,k1,k2,k3,m1,by rw [<- k3]; exact m2,m3⟩
 have hBn:∀ b∈carB r.l (atO t x.2),b.2.areN=true:=fun b hb'=>by
  obtain ⟨q,a,y,_,_,_,m1,_⟩:=hB b hb';exact (at_sort q u b.2 hun hus m1).1
 have hBw:∀ b∈carB r.l (atO t x.2),∀ s∈b.2.names,s∈t.names:=fun b hb' s hs=>by
  obtain ⟨q,a,y,_,_,_,m1,_⟩:=hB b hb';exact at_names x.2 t u hu s (at_names q u b.2 m1 s hs)
 have hrn:=areN_aS hBn r.r (valid_areN hr.rv);have hrs:sortT d.op (wv v) (aS (carB r.l (atO t x.2)) r.r)=o.r:=by
  rw [<- hso];refine sort_aSw r.r (valid_areN hr.rv) (by rw [hso]; exact hne) fun s hs=>?_
  obtain ⟨w,hbw⟩:=carB_has (u:=atO t x.2) (hrw s hs);refine ⟨w,hbw,fun y hy=>?_⟩
  obtain ⟨q,a,y',_,_,_,_,m2,m3⟩:=hB _ (bnd_memp hbw);rw [hy] at m2;simp only [C0.injEq] at m2;rw [m2]; exact m3
 obtain ⟨p1,p2⟩:=put_sort hrn x.2 t u hna s7 hu (by rw [hrs,he'])
 have ec:carT d t x=rW (putT t x.2 (aS (carB r.l (atO t x.2)) r.r)):=by
  unfold carT; rw [q2]
 rw [ec];refine ⟨within_iff.2 fun s hs=>?_,by rw [sort_rW d.op (wv v) _ p1 (by rw [p2]; exact s7),p2]; exact s7⟩
 rw [rW_names] at hs;refine within_iff.1 s6 s ?_;rcases names_put x.2 t s hs with h | h
 · exact h
 · rcases names_aS r.r s h with ⟨h1,h2⟩|⟨b,h1,h2⟩
   · obtain ⟨w,hbw⟩:=carB_has (u:=atO t x.2) (hrw s h1)
     rw [hbw] at h2; simp at h2
   · exact hBw b h1 s h2
end Go.Q
end
section
/- Proofs of claims. -/
namespace Go.Q
open Go
structure PnM where
 k:Int
 nx:List Int
 c:Int
 s:List Bnd
def PnM.row (n:PnM):List D:=[.int n.k,.sl (n.nx.map iRow),.int n.c,.sl (n.s.map Bnd.row)]
structure PnB (n:PnM):Prop where
 nx:n.nx.length<=1048576
 s:n.s.length<=1048576
 b:∀ b∈n.s,Small b.2
theorem incC_weak {n:Nat} {c:Int}:∀ (r:List Int) (p:Option Int),(∀ q,p=some q->q<=c)->incC n (some c) r=true->incC n p r=true
 | [],_,_,_=>rfl
 | x::r,p,hp,h=>by
  simp only [incC,B5,D1,decide_eq_false_iff_not] at h ⊢;refine ⟨h.1,?_,h.2.2⟩;cases p with
  | none=>rfl
  | some q=>simp only [D1,decide_eq_false_iff_not]; have:=hp q rfl; omega
theorem incC_tail {n:Nat} {p:Option Int} {c:Int} {r:List Int} (h:incC n p (c::r)=true):incC n p r=true:=by
 simp only [incC,B5] at h;refine incC_weak r p (fun q hq=>?_) h.2.2
 subst hq;have:=h.2.1;simp only [D1,decide_eq_false_iff_not] at this;omega
theorem incC_sub {n:Nat} {l cl:List Int} (h:l.Sublist cl):∀ p,incC n p cl=true->incC n p l=true:=by
 induction h with
 | slnil=>intro p h; exact h
 | cons a _ ih=>intro p h; exact ih p (incC_tail h)
 | cons_cons a _ ih =>
  intro p h;simp only [incC,B5] at h ⊢;exact ⟨h.1,h.2.1,ih _ h.2.2⟩
def pvI:Option Int->Int
 | some q=>if 0<=q then q+1 else 0
 | none=>0
theorem incC_len {n:Nat}:∀ (cl:List Int) (p:Option Int),incC n p cl=true->(cl.length:Int)<=64-pvI p\/cl=[]
 | [],p,_=>.inr rfl
 | c::r,p,h=>by
  simp only [incC,B5] at h;have hc:=isC_le h.1;left;have h1:=incC_len r (some c) h.2.2;have hpc:pvI p<=c:=by
   cases p with
   | none=>exact hc.2.1
   | some q =>
    have:=h.2.1;simp only [D1,decide_eq_false_iff_not] at this;show (if 0<=q then q+1 else 0)<=c
    split <;> omega
  simp only [F1];rcases h1 with h1 | h1
  · have e:pvI (some c)=c+1:=by show (if 0<=c then c+1 else 0)=c+1; rw [H5 hc.2.1]
    rw [e] at h1; omega
  · subst h1; simp only [P5]; omega
theorem brF_sub {d:DfM} {v:List ByteArray} {t:Tm}:∀ (l P:List Int) (out:List (Bk×List Int)),(∀ b∈out,b.2.Sublist P/\∃ c∈P,nx d (inst v t c)=b.1)->∀ b∈brF d v t l out,b.2.Sublist (P++l)/\∃ c∈P++l,nx d (inst v t c)=b.1
 | [],P,out,h=>by simpa only [brF,List.append_nil] using h
 | c::r,P,out,h=>by
  have h1:∀ b∈addB out (nx d (inst v t c)) c,b.2.Sublist (P++[c])/\∃ c'∈P++[c],nx d (inst v t c')=b.1:=fun b hb=>by
   have old:∀ b∈out,b.2.Sublist (P++[c])/\∃ c'∈P++[c],nx d (inst v t c')=b.1:=fun b hb=>by
    obtain ⟨k1,c',k2,k3⟩:=h b hb;exact ⟨k1.trans (List.sublist_append_left ..),c',C2.2 (.inl k2),k3⟩
   unfold addB at hb;split at hb
   · split at hb
     · rename_i q hq
       rcases N0 hb with hb | hb
       · exact old b hb
       · subst hb
         obtain ⟨k1,c',k2,k3⟩:=h q (O8 hq);exact ⟨List.Sublist.append k1 (List.Sublist.refl _),c',C2.2 (.inl k2),k3⟩
     · exact old b hb
   · rcases C2.1 hb with hb | hb
     · exact old b hb
     · simp only [J0] at hb; subst hb
       exact ⟨List.sublist_append_right ..,c,by simp,rfl⟩
  have:=brF_sub r (P++[c]) _ h1;simpa only [brF,D6,D8,E4] using this
structure StG (d:DfM) (v:List ByteArray) (t:Tm) (cl:List Int):Prop where
 w:Wt t
 s:symV d v t=true
 c:incC v.length none cl=true
theorem StG.n {d:DfM} {v:List ByteArray} {t:Tm} {cl:List Int} (h:StG d v t cl):t.nodes<=60:=by
 have:=h.s;simp only [symV,B5] at this;exact valid_nodes this.2.2.2.2.1
theorem StG.l {d:DfM} {v:List ByteArray} {t:Tm} {cl:List Int} (h:StG d v t cl):cl.length<=64:=by
 rcases incC_len cl none h.c with k | k
 · simp only [pvI] at k; omega
 · subst k; simp
theorem StG.op {d:DfM} {v:List ByteArray} {t:Tm} {cl:List Int} (h:StG d v t cl) {l:List Int} (hl:l.Sublist cl):StG d v t l:=⟨h.w,h.s,incC_sub hl none h.c⟩
theorem StG.next {d:DfM} (hb:DfB d) {v:List ByteArray} {t:Tm} {cl:List Int} (h:StG d v t cl) {b:Bk×List Int} (hm:b∈brF d v t cl []) (hk:bK d t b.1=2):StG d v (bT d t b.1) b.2:=by
 obtain ⟨h1,c,h2,h3⟩:=brF_sub (d:=d) (v:=v) (t:=t) cl [] [] (by simp) b hm
 simp only [E4] at h1 h2;have hc:=incC_isC cl none h.c c h2;obtain ⟨bk,bl⟩:=b;simp only at h3 hk h1 ⊢;cases bk with
 | none=>exact absurd hk (by show ¬(1:Int)=2; decide)
 | some y =>
  have hv:(carT d t y).valid=true:=by
   cases hq:(carT d t y).valid with
   | true=>rfl
   | false =>
    have:bK d t (some y)=3:=by show (if (carT d t y).valid=true then (2:Int) else 3)=3; rw [hq]; rfl
    omega
  have e:bT d t (some y)=carT d t y:=by show (if (carT d t y).valid=true then carT d t y else tm0)=_; rw [H5 hv]
  rw [e];obtain ⟨hd,_,_,_,hx⟩:=nx_bkG hb h.w h.s hc;rw [h3] at hx;exact ⟨(carT_b hd h.w h.n (hx.i y rfl).2.1).1,sym_step hb h.w h.s hc h3 hv,incC_sub h1 none h.c⟩
end Go.Q
namespace Go.Q.S
open Go Go.Q
end Go.Q.S
end
section
/- Starts of claims; rows of claims. -/
namespace Go.Q
open Go
end Go.Q
namespace Go.Q.S
open Go Go.Q
end Go.Q.S
end
section
/- Lists of proofs; verdicts. -/
namespace Go.Q
open Go
end Go.Q
namespace Go.Q.S
open Go Go.Q
end Go.Q.S
end
section
/- The search for proofs. -/
namespace Go.Q
open Go
structure PnOK (n:PnM):Prop where
 k:0<=n.k/\n.k<=3
 nl:n.nx.length<=64
 ni:∀ j∈n.nx,0<=j/\j<=60
 c:0<=n.c/\n.c<=3
 sl:n.s.length<=60
 sb:∀ b∈n.s,b.1.size<=maxLen/\Wt b.2/\b.2.nodes<=60
end Go.Q
namespace Go.Q
open Go
end Go.Q
namespace Go.Q
open Go
end Go.Q
end
section
/- The rows of the proofs that are found. -/
namespace Go.Q
open Go
end Go.Q
end
section
/- Paths and tests of symbolic terms. -/
namespace Go.Q
open Go
abbrev Stp:=Nat×List Int
structure PtM where
 k:Int
 st:List Stp
 t:Tm
 c:List Int
def PtM.row (v:List ByteArray) (p:PtM):List D:=[.int p.k,.sl (p.st.map rdRow),.sl (v.map sRow),.int p.t.k,.int p.t.n,.str p.t.s,.sl (p.t.as.map Tm.row),.sl (p.c.map iRow)]
end Go.Q
end
section
/- One step of a symbolic term. -/
namespace Go.Q
open Go
end Go.Q
end
section
/- A match makes the pattern equal to the term; drawn terms. -/
namespace Go.Q
open Go
theorem row_inj:∀ t u:Tm,t.row=u.row->t=u:=Tm.ind fun t ih u h=>by
 rw [Tm.row_eq,Tm.row_eq u] at h;simp only [J3.injEq,D.int.injEq,D.str.injEq,D.sl.injEq,and_true] at h;obtain ⟨h1,h2,h3,h4⟩:=h;have key:∀ (xs ys:List Tm),(∀ a∈xs,a∈t.as)->xs.map Tm.row=ys.map Tm.row->xs=ys:=by
  intro xs;induction xs with
  | nil=>intro ys _ h; cases ys with
   | nil=>rfl
   | cons y ys=>simp at h
  | cons x xs ihx =>
   intro ys hm h;cases ys with
   | nil=>simp at h
   | cons y ys =>
    simp only [B9,J3.injEq] at h;rw [ih x (hm x (B7 ..)) y h.1,ihx ys (fun a ha=>hm a (B6 _ ha)) h.2]
 have e:=key t.as u.as (fun _ h=>h) h4
 cases t; cases u
 simp only [Tm.k,Tm.n,Tm.s,Tm.as] at h1 h2 h3 e;rw [h1,h2,h3,e]
theorem eqb_tm {t u:Tm}:eqb t.row u.row=true↔t=u:=by
 rw [eqb_iff]; exact ⟨row_inj t u,fun h=>by rw [h]⟩
def Ext (l l':List Bnd):Prop:=∀ s v,bnd l s=some v->bnd l' s=some v
theorem Ext.refl (l:List Bnd):Ext l l:=fun _ _ h=>h
theorem Ext.trans {a b c:List Bnd} (h:Ext a b) (k:Ext b c):Ext a c:=fun s v e=>k s v (h s v e)
inductive Dt (m:Nat):Tm->Prop
 | var {s:ByteArray}:s.size<=m->Dt m (.mk 1 0 s [])
 | word {n:Int}:0<=n->n<=255->Dt m (.mk 3 n ⟨#[]⟩ [])
 | app {s:ByteArray} {as:List Tm}:s.size<=m->as.length<=2->(∀ a∈as,Dt m a)->Dt m (.mk 2 0 s as)
theorem Dt.sub {m:Nat} {t a:Tm} (h:Dt m t) (ha:a∈t.as):Dt m a:=by
 cases h with
 | var _=>simp [Tm.as] at ha
 | word=>simp [Tm.as] at ha
 | app _ _ h=>exact h a ha
theorem Dt.mono {m n:Nat} {t:Tm} (h:Dt m t) (hn:m<=n):Dt n t:=by
 induction h with
 | var h=>exact .var (F9 h hn)
 | word h1 h2=>exact .word h1 h2
 | app h1 h2 _ ih=>exact .app (F9 h1 hn) h2 ih
theorem Dt.aS {m:Nat} {l:List Bnd} (hl:∀ b∈l,Dt m b.2):∀ t,Dt m t->Dt m (aS l t):=Tm.ind fun t ih h=>by
 rw [aS_eq];split
 · rename_i u hu
   split at hu
   · obtain ⟨b,h1,rfl⟩:=bnd_mem hu; exact hl b h1
   · simp at hu
 · cases h with
   | var h=>exact .var h
   | word h1 h2=>exact .word h1 h2
   | @app s as h1 h2 h3 =>
    refine .app h1 (by simpa [Tm.as] using h2) fun a ha=>?_
    simp only [Tm.as,D9] at ha;obtain ⟨b,hb,rfl⟩:=ha;exact ih b hb (h3 b hb)
/- Variables get an ending. -/
end Go.Q
end
section
/- Compositions of substitutions; unification. -/
namespace Go.Q
open Go
theorem aS_bound {l:List Bnd} {t v:Tm} (hk:t.k=1) (h:bnd l t.s=some v):aS l t=v:=by
 rw [aS_eq,H5 hk,h]
theorem aS_free {l:List Bnd} {t:Tm} (h:t.k=1->bnd l t.s=none):aS l t=.mk t.k t.n t.s (t.as.map (aS l)):=by
 rw [aS_eq];by_cases hk:t.k=1
 · rw [H5 hk,h hk]
 · rw [H6 hk]
def cmS (a b:List Bnd):List Bnd:=a.map (fun x=>(x.1,aS b x.2))++b.filter fun x=>(bnd a x.1).isNone
theorem bnd_map (f:Tm->Tm) (s:ByteArray):∀ a:List Bnd,bnd (a.map fun x=>(x.1,f x.2)) s=(bnd a s).map f
 | []=>rfl
 | b::a=>by
  simp only [B9,bnd];by_cases h:b.1=s
  · rw [H5 h,H5 h]; rfl
  · rw [H6 h,H6 h,bnd_map f s a]
theorem bnd_filter (a:List Bnd) (s:ByteArray) (h:bnd a s=none):∀ b:List Bnd,bnd (b.filter fun x=>(bnd a x.1).isNone) s=bnd b s
 | []=>rfl
 | x::b=>by
  have ih:=bnd_filter a s h b;rw [Q3];by_cases e:x.1=s
  · rw [H5 (by rw [e,h]; rfl)]
    simp only [bnd,H5 e]
  · split
    · simp only [bnd,H6 e,ih]
    · simp only [bnd,H6 e,ih]
theorem bnd_cmS (a b:List Bnd) (s:ByteArray):bnd (cmS a b) s=match bnd a s with
 | some u=>some (aS b u)
 | none=>bnd b s:=by
 unfold cmS;rw [bnd_app,bnd_map];cases h:bnd a s with
 | some u=>rfl
 | none=>simp only [Option.map_none]; exact bnd_filter a s h b
theorem aS_cmS (a b:List Bnd):∀ t,aS (cmS a b) t=aS b (aS a t):=Tm.ind fun t ih=>by
 have hm:t.as.map (aS (cmS a b))=(t.as.map (aS a)).map (aS b):=by
  rw [J4]; exact J5 fun x hx=>ih x hx
 have hc:=bnd_cmS a b t.s;by_cases hk:t.k=1
 · cases ha:bnd a t.s with
   | some u =>
    rw [ha] at hc;rw [aS_bound hk hc,aS_bound hk ha]
   | none =>
    rw [ha] at hc;rw [aS_free (l:=a) fun _=>ha]
    cases hb:bnd b t.s with
    | some u =>
     rw [aS_bound hk (hc.trans hb),aS_bound (t:=.mk t.k t.n t.s (t.as.map (aS a))) hk hb]
    | none =>
     rw [aS_free fun _=>hc.trans hb,aS_free (t:=.mk t.k t.n t.s (t.as.map (aS a))) fun _=>hb,hm]; rfl
 · rw [aS_free fun h=>absurd h hk,aS_free (l:=a) fun h=>absurd h hk,aS_free (t:=.mk t.k t.n t.s (t.as.map (aS a))) fun h=>absurd h hk,hm]; rfl
theorem Tm.mk_eta (t:Tm):Tm.mk t.k t.n t.s t.as=t:=by cases t; rfl
theorem mem_names (t:Tm) (w:ByteArray):w∈t.names↔(t.k=1/\w=t.s)\/∃ a∈t.as,w∈a.names:=by
 rw [Tm.names_eq,C2,G6];by_cases hk:t.k=1
 · rw [H5 hk]; simp [hk]
 · rw [H6 hk]; simp [hk]
theorem names_mk (k n:Int) (s:ByteArray) (as:List Tm) (w:ByteArray):w∈(Tm.mk k n s as).names↔(k=1/\w=s)\/∃ a∈as,w∈a.names:=mem_names _ w
theorem namesS (l:List Bnd) (w:ByteArray):∀ t,w∈(aS l t).names->(w∈t.names/\bnd l w=none)\/∃ s v,s∈t.names/\bnd l s=some v/\w∈v.names:=Tm.ind fun t ih h=>by
 by_cases hb:∃ v,t.k=1/\bnd l t.s=some v
 · obtain ⟨v,hk,hb⟩:=hb
   rw [aS_bound hk hb] at h;exact .inr ⟨t.s,v,(mem_names t _).2 (.inl ⟨hk,rfl⟩),hb,h⟩
 · have hf:t.k=1->bnd l t.s=none:=fun hk=>by
    cases hq:bnd l t.s with
    | none=>rfl
    | some v=>exact absurd ⟨v,hk,hq⟩ hb
   rw [aS_free hf,names_mk] at h;rcases h with ⟨hk,rfl⟩|⟨a,ha,hw⟩
   · exact .inl ⟨(mem_names t _).2 (.inl ⟨hk,rfl⟩),hf hk⟩
   · obtain ⟨c,hc,rfl⟩:=D9.1 ha
     rcases ih c hc hw with ⟨h1,h2⟩|⟨s,v,h1,h2,h3⟩
     · exact .inl ⟨(mem_names t _).2 (.inr ⟨c,hc,h1⟩),h2⟩
     · exact .inr ⟨s,v,(mem_names t _).2 (.inr ⟨c,hc,h1⟩),h2,h3⟩
def Fx (l:List Bnd) (t:Tm):Prop:=∀ w∈t.names,bnd l w=none
theorem Fx.sub {l:List Bnd} {t a:Tm} (h:Fx l t) (ha:a∈t.as):Fx l a:=fun w hw=>h w ((mem_names t w).2 (.inr ⟨a,ha,hw⟩))
theorem aS_fix {l:List Bnd}:∀ t,Fx l t->aS l t=t:=Tm.ind fun t ih h=>by
 rw [aS_free fun hk=>h _ ((mem_names t _).2 (.inl ⟨hk,rfl⟩))]
 have:t.as.map (aS l)=t.as:=by
  conv=>rhs; rw [<- List.map_id t.as]
  exact J5 fun a ha=>ih a ha (h.sub ha)
 rw [this,Tm.mk_eta]
def Idm (l:List Bnd):Prop:=∀ s v,bnd l s=some v->Fx l v
theorem fx_aS {l:List Bnd} (h:Idm l) (t:Tm):Fx l (aS l t):=fun w hw=>by
 rcases namesS l w t hw with ⟨_,h1⟩|⟨s,v,_,h2,h3⟩
 · exact h1
 · exact h s v h2 w h3
theorem bnd_one (s w:ByteArray) (y:Tm):bnd [(s,y)] w=if s=w then some y else none:=by simp [bnd]
theorem names_one {s w:ByteArray} {y t:Tm} (hs:s∉y.names) (hw:w∈(aS [(s,y)] t).names):w≠s/\(w∈t.names\/w∈y.names):=by
 rcases namesS _ w t hw with ⟨h1,h2⟩|⟨s',v,h1,h2,h3⟩
 · rw [bnd_one] at h2
   refine ⟨fun e=>?_,.inl h1⟩
   rw [H5 e.symm] at h2; exact absurd h2 (by simp)
 · rw [bnd_one] at h2
   split at h2
   · rename_i e
     simp only [C0.injEq] at h2;subst h2;exact ⟨fun e=>hs (e▸h3),.inr h3⟩
   · simp at h2
theorem idm_cm {l:List Bnd} (h:Idm l) {s:ByteArray} {y:Tm} (hy:Fx l y) (hs:s∉y.names):Idm (cmS l [(s,y)]):=by
 have key:∀ w,bnd l w=none->w≠s->bnd (cmS l [(s,y)]) w=none:=fun w h1 h2=>by
  rw [bnd_cmS,h1]; simp only; rw [bnd_one,H6 (Ne.symm h2)]
 intro s' v hv w hw;rw [bnd_cmS] at hv;cases hq:bnd l s' with
 | some u =>
  rw [hq] at hv;simp only [C0.injEq] at hv;subst hv;obtain ⟨h1,h2⟩:=names_one hs hw;exact key w (by rcases h2 with h2 | h2; exact h s' u hq w h2; exact hy w h2) h1
 | none =>
  rw [hq] at hv;simp only at hv;rw [bnd_one] at hv;split at hv
  · simp only [C0.injEq] at hv
    subst hv;exact key w (hy w hw) (fun e=>hs (e▸hw))
  · simp at hv
inductive Cov:List Tm->Tm->Prop
 | one {t:Tm}:Cov [t] t
 | drop {x:Tm} {xs:List Tm} {t:Tm}:Cov (x::xs) t->Cov xs t
 | args {x:Tm} {xs:List Tm} {t:Tm}:Cov (x::xs) t->x.k≠1->Cov (x.as++xs) t
theorem Cov.nodes {xs:List Tm} {t:Tm} (h:Cov xs t):(xs.map Tm.nodes).sum<=t.nodes:=by
 induction h with
 | one=>simp
 | drop _ ih=>simp only [B9,F7] at ih; omega
 | @args x xs t _ _ ih =>
  simp only [B9,F7] at ih;rw [O5,List.sum_append];have:=Tm.nodes_eq x;omega
theorem Cov.names {xs:List Tm} {t:Tm} (h:Cov xs t):∀ x∈xs,∀ w∈x.names,w∈t.names:=by
 induction h with
 | one=>intro x hx w hw; rw [J0.1 hx] at hw; exact hw
 | drop _ ih=>exact fun x hx=>ih x (B6 _ hx)
 | @args x xs t _ _ ih =>
  intro z hz w hw;rcases C2.1 hz with hz | hz
  · exact ih x (B7 ..) w ((mem_names x w).2 (.inr ⟨z,hz,hw⟩))
  · exact ih z (B6 _ hz) w hw
theorem Cov.sub {xs:List Tm} {t:Tm} (r:List Bnd) (h:Cov xs t):Cov (xs.map (aS r)) (aS r t):=by
 induction h with
 | one=>exact .one
 | drop _ ih=>exact .drop ih
 | @args x xs t _ hk ih =>
  have e:aS r x=.mk x.k x.n x.s (x.as.map (aS r)):=aS_free fun h=>absurd h hk
  rw [B9,e] at ih;rw [O5];exact ih.args hk
open Classical in
noncomputable def trt (x y:Tm) (l:List Bnd):Option (List Bnd×List (Tm×Tm)) :=
 if eqb x.row y.row=true then some (l,[]) else
 if x.k=1 then (if x.s∈y.names then none else some (cmS l [(x.s,y)],[])) else
 if y.k=1 then (if y.s∈x.names then none else some (cmS l [(y.s,x)],[])) else
 if x.k=2/\y.k=2/\x.s=y.s/\x.as.length=y.as.length then some (l,x.as.zip y.as) else none
def lrg (l:List Bnd):Bool:=l.any fun b=>decide (400<b.2.nodes)
theorem trt_cases {x y:Tm} {l l1:List Bnd} {m:List (Tm×Tm)} (h:trt x y l=some (l1,m)) :
 (x=y/\l1=l/\m=[])\/(∃ v u,(x.k=1/\v=x.s/\u=y\/y.k=1/\v=y.s/\u=x)/\v∉u.names/\l1=cmS l [(v,u)]/\m=[]) ∨
 (x.k=2/\y.k=2/\x.s=y.s/\x.as.length=y.as.length/\l1=l/\m=x.as.zip y.as):=by
 unfold trt at h;split at h
 · rename_i e
   simp only [C0.injEq,D7.injEq] at h;exact .inl ⟨eqb_tm.1 e,h.1.symm,h.2.symm⟩
 split at h
 · rename_i hk
   split at h
   · simp at h
   · rename_i hn
     simp only [C0.injEq,D7.injEq] at h;exact .inr (.inl ⟨x.s,y,.inl ⟨hk,rfl,rfl⟩,hn,h.1.symm,h.2.symm⟩)
 split at h
 · rename_i hk
   split at h
   · simp at h
   · rename_i hn
     simp only [C0.injEq,D7.injEq] at h;exact .inr (.inl ⟨y.s,x,.inr ⟨hk,rfl,rfl⟩,hn,h.1.symm,h.2.symm⟩)
 split at h
 · rename_i hc
   simp only [C0.injEq,D7.injEq] at h;exact .inr (.inr ⟨hc.1,hc.2.1,hc.2.2.1,hc.2.2.2,h.1.symm,h.2.symm⟩)
 · simp at h
def ub (V:List ByteArray) (l:List Bnd):Nat:=(V.filter fun w=>(bnd l w).isNone).length
theorem ub_cm {V:List ByteArray} {l:List Bnd} {s:ByteArray} {y:Tm} (hs:s∈V) (hb:bnd l s=none):ub V (cmS l [(s,y)])<ub V l:=by
 unfold ub;have hle:∀ w,(bnd (cmS l [(s,y)]) w).isNone=true->(bnd l w).isNone=true:=fun w h=>by
  rw [bnd_cmS] at h;cases hq:bnd l w with
  | none=>rfl
  | some u=>rw [hq] at h; simp at h
 have hS:bnd (cmS l [(s,y)]) s=some y:=by
  rw [bnd_cmS,hb]; simp only; rw [bnd_one,H5 rfl]
 have hgen:∀ V:List ByteArray,(V.filter fun w=>(bnd (cmS l [(s,y)]) w).isNone).length<=(V.filter fun w=>(bnd l w).isNone).length:=by
  intro V;induction V with
  | nil=>simp
  | cons w V ih =>
   rw [Q3,Q3];by_cases h:(bnd (cmS l [(s,y)]) w).isNone=true
   · rw [H5 h,H5 (hle w h)]; simp; exact ih
   · rw [H6 h]; split
     · simp; omega
     · exact ih
 induction V with
 | nil=>simp at hs
 | cons w V ih =>
  rw [Q3,Q3];rcases C4.1 hs with e | hs
  · subst e
    rw [H6 (by rw [hS]; simp),H5 (by rw [hb]; rfl)]
    have:=hgen V;simp; omega
  · have:=ih hs
    by_cases h:(bnd (cmS l [(s,y)]) w).isNone=true
    · rw [H5 h,H5 (hle w h)]; simp; exact this
    · rw [H6 h]; split
      · simp; omega
      · exact this
theorem cmS_len (l:List Bnd) (b:Bnd):(cmS l [b]).length<=l.length+1:=by
 unfold cmS;rw [G5,D2];have:=List.length_filter_le (fun x:Bnd=>(bnd l x.1).isNone) [b]
 simp only [F1,P5] at this;omega
theorem cmS_dt {m:Nat} {l b:List Bnd} (hl:∀ x∈l,Dt m x.2) (hb:∀ x∈b,Dt m x.2):∀ x∈cmS l b,Dt m x.2:=fun x hx=>by
 unfold cmS at hx;rcases C2.1 hx with hx | hx
 · obtain ⟨z,hz,rfl⟩:=D9.1 hx
   exact (hl z hz).aS hb
 · exact hb x (List.mem_filter.1 hx).1
structure Uni (A B:Tm) (l:List Bnd) (r:List (Tm×Tm)):Prop where
 idm:Idm l
 nm:∀ s v,bnd l s=some v->∀ w∈v.names,w∈A.names++B.names
 ld:∀ b∈l,Dt 2 b.2
 ln:∀ b∈l,b.2.nodes<=400
 ll:l.length+ub (A.names++B.names) l<=(A.names++B.names).length
 rd:∀ e∈r,Dt 2 e.1/\Dt 2 e.2
 ca:Cov (r.map fun e=>aS l e.1) (aS l A)
 cb:Cov (r.map fun e=>aS l e.2) (aS l B)
theorem aS_namesV {V:List ByteArray} {l:List Bnd} (hn:∀ s v,bnd l s=some v->∀ w∈v.names,w∈V) {t:Tm} (ht:∀ w∈t.names,w∈V):∀ w∈(aS l t).names,w∈V:=fun w hw=>by
 rcases namesS l w t hw with ⟨h1,_⟩|⟨s,v,_,h2,h3⟩
 · exact ht w h1
 · exact hn s v h2 w h3
theorem lrg_ok {l:List Bnd} (h:lrg l=false):∀ b∈l,b.2.nodes<=400:=fun b hb=>by
 unfold lrg at h;have:=List.any_eq_false.1 h b hb;simp only [decide_eq_true_eq] at this;omega
theorem map_zip_fst {xs ys:List Tm} (h:xs.length=ys.length) (f:Tm->Tm):(xs.zip ys).map (fun e=>f e.1)=xs.map f:=by
 have:(xs.zip ys).map (fun e=>f e.1)=((xs.zip ys).map Prod.fst).map f:=by rw [J4]; rfl
 rw [this,List.map_fst_zip (by omega)]
theorem map_zip_snd {xs ys:List Tm} (h:xs.length=ys.length) (f:Tm->Tm):(xs.zip ys).map (fun e=>f e.2)=ys.map f:=by
 have:(xs.zip ys).map (fun e=>f e.2)=((xs.zip ys).map Prod.snd).map f:=by rw [J4]; rfl
 rw [this,List.map_snd_zip (by omega)]
theorem map_fix {l:List Bnd} {xs:List Tm} (h:∀ x∈xs,Fx l x):xs.map (aS l)=xs:=by
 conv=>rhs; rw [<- List.map_id xs]
 exact J5 fun a ha=>aS_fix a (h a ha)
theorem Uni.next {A B:Tm} {l l1:List Bnd} {x y:Tm} {r m:List (Tm×Tm)} (h:Uni A B l ((x,y)::r)) (ht:trt (aS l x) (aS l y) l=some (l1,m)) (hl:lrg l1=false) :
 Uni A B l1 (m++r)/\(ub (A.names++B.names) l1<ub (A.names++B.names) l\/l1=l/\((m++r).map fun e=>(aS l e.1).nodes).sum<(((x,y)::r).map fun e=>(aS l e.1).nodes).sum):=by
 have hca:=h.ca;have hcb:=h.cb;simp only [B9] at hca hcb;have nA:=aS_namesV h.nm (t:=A) fun w hw=>List.mem_append_left _ hw
 have nB:=aS_namesV h.nm (t:=B) fun w hw=>List.mem_append_right _ hw
 have nx:∀ w∈(aS l x).names,w∈A.names++B.names:=fun w hw=>nA w (hca.names _ (B7 ..) w hw)
 have ny:∀ w∈(aS l y).names,w∈A.names++B.names:=fun w hw=>nB w (hcb.names _ (B7 ..) w hw)
 have dx:=(h.rd _ (B7 ..)).1.aS h.ld;have dy:=(h.rd _ (B7 ..)).2.aS h.ld;have fx:=fx_aS h.idm x;have fy:=fx_aS h.idm y;have hrd:∀ e∈r,Dt 2 e.1/\Dt 2 e.2:=fun e he=>h.rd e (B6 _ he)
 rcases trt_cases ht with ⟨_,rfl,rfl⟩|⟨v,u,hvu,hn,rfl,rfl⟩|⟨k1,k2,hs,hlen,rfl,rfl⟩
 · refine ⟨⟨h.idm,h.nm,h.ld,h.ln,h.ll,hrd,hca.drop,hcb.drop⟩,.inr ⟨rfl,?_⟩⟩
   simp only [E4,B9,F7];have:=Tm.nodes_eq (aS l1 x);omega
 · have hv:v∈A.names++B.names/\bnd l v=none/\Fx l u/\(∀ w∈u.names,w∈A.names++B.names)/\Dt 2 u:=by
    rcases hvu with ⟨hk,rfl,rfl⟩|⟨hk,rfl,rfl⟩
    · have hm:=(mem_names (aS l x) _).2 (.inl ⟨hk,rfl⟩)
      exact ⟨nx _ hm,fx _ hm,fy,ny,dy⟩
    · have hm:=(mem_names (aS l y) _).2 (.inl ⟨hk,rfl⟩)
      exact ⟨ny _ hm,fy _ hm,fx,nx,dx⟩
   obtain ⟨hv1,hv2,hv3,hv4,hv5⟩:=hv;have hub:=ub_cm (y:=u) hv1 hv2;refine ⟨⟨idm_cm h.idm hv3 hn,?_,cmS_dt h.ld (by simpa using hv5),lrg_ok hl,?_,hrd,?_,?_⟩,.inl hub⟩
   · intro s w hw z hz
     rw [bnd_cmS] at hw;cases hq:bnd l s with
     | some q =>
      rw [hq] at hw;simp only [C0.injEq] at hw;subst hw;rcases (names_one hn hz).2 with e | e
      · exact h.nm s q hq z e
      · exact hv4 z e
     | none =>
      rw [hq] at hw;simp only at hw;rw [bnd_one] at hw;split at hw
      · simp only [C0.injEq] at hw; subst hw; exact hv4 z hz
      · simp at hw
   · have h1:=cmS_len l (v,u)
     have h2:=h.ll;omega
   · have:=(hca.sub [(v,u)]).drop
     rw [J4] at this;rw [E4,aS_cmS];have e:(r.map fun e=>aS (cmS l [(v,u)]) e.1)=r.map ((aS [(v,u)]) ∘ fun e=>aS l e.1):=J5 fun e _=>aS_cmS ..
     rw [e]; exact this
   · have:=(hcb.sub [(v,u)]).drop
     rw [J4] at this;rw [E4,aS_cmS];have e:(r.map fun e=>aS (cmS l [(v,u)]) e.2)=r.map ((aS [(v,u)]) ∘ fun e=>aS l e.2):=J5 fun e _=>aS_cmS ..
     rw [e]; exact this
 · have fxs:=fun a (ha:a∈(aS l1 x).as)=>fx.sub ha
   have fys:=fun a (ha:a∈(aS l1 y).as)=>fy.sub ha
   refine ⟨⟨h.idm,h.nm,h.ld,h.ln,h.ll,?_,?_,?_⟩,.inr ⟨rfl,?_⟩⟩
   · intro e he
     rcases C2.1 he with he | he
     · obtain ⟨q1,q2⟩:=List.of_mem_zip (a:=e.1) (b:=e.2) he
       exact ⟨dx.sub q1,dy.sub q2⟩
     · exact hrd e he
   · rw [O5,map_zip_fst hlen,map_fix fxs]
     exact hca.args (by omega)
   · rw [O5,map_zip_snd hlen,map_fix fys]
     exact hcb.args (by omega)
   · have e:(((aS l1 x).as.zip (aS l1 y).as).map fun e=>(aS l1 e.1).nodes)=(aS l1 x).as.map Tm.nodes:=by
      have:(((aS l1 x).as.zip (aS l1 y).as).map fun e=>(aS l1 e.1).nodes)=(((aS l1 x).as.zip (aS l1 y).as).map fun e=>aS l1 e.1).map Tm.nodes:=by rw [J4]; rfl
      rw [this,map_zip_fst hlen,map_fix fxs]
     rw [O5,List.sum_append,e,B9,F7];have:=Tm.nodes_eq (aS l1 x);simp only;omega
end Go.Q
end
section
/- What unification gives. -/
namespace Go.Q
open Go
end Go.Q
end
section
namespace Go.Q
open Go
end Go.Q
end
section
/- Comparisons: a program with itself,turned about,and what a difference says. -/
namespace Go.Q
open Go
noncomputable def rnA (x:SyM) (c:Int):Option RunR:=runT x.d (S.instR x.v x.t c) 200
def opn (x y:SyM) (c:Int):Prop:=¬ ∃ p q,rnA x c=some p/\rnA y c=some q/\p.o=1/\q.o=1
end Go.Q
end
section
/- Drawn terms,rules and definitions: their bounds. -/
namespace Go.Q
open Go
structure Wn (m:Nat) (t:Tm):Prop where
 w:Wt t
 n:t.nodes<=m
theorem Wn.mono {m k:Nat} {t:Tm} (h:Wn m t) (hm:m<=k):Wn k t:=⟨h.w,F9 h.n hm⟩
structure GuW (g:Gu):Prop where
 k:0<=g.k/\g.k<=5
 l:Wn 3000 g.l
 r:Wn 3000 g.r
theorem GuW.b {g:Gu} (h:GuW g):GuB g:=⟨h.l.w,h.r.w,by have:=h.l.n; omega,by have:=h.r.n; omega⟩
structure RuW (u:RuM):Prop where
 n:u.n.size<=1000
 l:Wn 3000 u.l
 r:Wn 3000 u.r
 g:u.g.length<=10
 ga:∀ g∈u.g,GuW g
theorem RuW.b {r:RuM} (h:RuW r):RuB r:=⟨by have:=h.n; unfold maxLen; omega,h.l.w,h.r.w,by have:=h.l.n; omega,by have:=h.r.n; omega,by have:=h.g; omega,fun g hg=>(h.ga g hg).b⟩
structure DfW (d:DfM):Prop where
 so:d.so.length<=10
 sos:∀ x∈d.so,x.size<=1000
 op:d.op.length<=10
 opa:∀ o∈d.op,o.n.size<=1000/\o.a.length<=10/\(∀ x∈o.a,x.size<=1000)/\o.r.size<=1000
 ru:d.ru.length<=10
 rua:∀ r∈d.ru,RuW r
 st:d.st.length<=10
theorem DfW.sig {d:DfM} (h:DfW d):SigB d.op:=⟨by have:=h.op; omega,fun o ho=>by have:=(h.opa o ho).2.1; show o.a.length<=_; omega⟩
theorem DfW.b {d:DfM} (h:DfW d):DfB d:=⟨by have:=h.so; omega,fun x hx=>by have:=h.sos x hx; unfold maxLen; omega,h.sig,fun o ho=>by have:=(h.opa o ho).1; unfold maxLen; omega,by have:=h.ru; omega,fun r hr=>(h.rua r hr).b,by have:=h.st; omega⟩
end Go.Q
end
section
/- All steps of a term; a trace replayed; runs and traces. -/
namespace Go.Q
open Go
end Go.Q
end
section
/- A symbolic step stands for the step of every case; the tests of a symbolic term. -/
namespace Go.Q
open Go
end Go.Q
end
section
/- The runs of the cases of a path; the tests of different paths. -/
namespace Go.Q
open Go
end Go.Q
end
section
/- Paths: their traces,and that none is without a case. -/
namespace Go.Q
open Go
end Go.Q
end
section
/- Runs that are computed: an evaluator of shallow functions is sound. Open cases where a case may be none. -/
namespace Go.Q
open Go
def pS (f:ByteArray->List D->R):List D->R
 | .str x::l=>f x l
 | _=>none
def pI (f:Int->List D->R):List D->R
 | .int x::l=>f x l
 | _=>none
def pB (f:Bool->List D->R):List D->R
 | .bool x::l=>f x l
 | _=>none
def pL (f:Rows->List D->R):List D->R
 | .sl x::l=>f x l
 | _=>none
def pE (b:R):List D->R
 | []=>b
 | _=>none
def Sd (H:Tab) (P:Program) (c:Key->List D->R) (k:Key) (pre:List D->List D) (v:List D->R):Prop:=∀ l r,v l=some r->step H c P k (pre l)=some r
section
variable {H:Tab} {P:Program} {c:Key->List D->R} {k:Key} {pre:List D->List D}
theorem Sd.S {f:ByteArray->List D->R} (h:∀ x,Sd H P c k (fun l=>pre (.str x::l)) (f x)):Sd H P c k pre (pS f):=fun l r e=>by
 unfold pS at e;split at e
 · exact h _ _ _ e
 · simp at e
theorem Sd.I {f:Int->List D->R} (h:∀ x,Sd H P c k (fun l=>pre (.int x::l)) (f x)):Sd H P c k pre (pI f):=fun l r e=>by
 unfold pI at e;split at e
 · exact h _ _ _ e
 · simp at e
theorem Sd.B {f:Bool->List D->R} (h:∀ x,Sd H P c k (fun l=>pre (.bool x::l)) (f x)):Sd H P c k pre (pB f):=fun l r e=>by
 unfold pB at e;split at e
 · exact h _ _ _ e
 · simp at e
theorem Sd.L {f:Rows->List D->R} (h:∀ x,Sd H P c k (fun l=>pre (.sl x::l)) (f x)):Sd H P c k pre (pL f):=fun l r e=>by
 unfold pL at e;split at e
 · exact h _ _ _ e
 · simp at e
theorem Sd.E {b:R} (h:step H c P k (pre [])=b):Sd H P c k pre (pE b):=fun l r e=>by
 unfold pE at e;split at e
 · exact h.trans e
 · simp at e
end
structure ClW (vl:List ByteArray) (lt rt:Tm) (gl:List Gu):Prop where
 v:vl.length<=20
 vs:∀ x∈vl,x.size<=1000
 l:Wn 3000 lt
 r:Wn 3000 rt
 g:gl.length<=20
 ga:∀ x∈gl,GuW x
theorem ClW.b {v:List ByteArray} {l r:Tm} {g:List Gu} (h:ClW v l r g) {d:DfM} (hd:DfB d):ClB ⟨d,v,l,r,g⟩ :=
 ⟨hd,by have:=h.v; show v.length<=_; omega,fun x hx=>by have:=h.vs x hx; unfold maxLen; omega,h.l.w,h.r.w,by have:=h.l.n; show l.nodes<=_; omega,by have:=h.r.n; show r.nodes<=_; omega,by have:=h.g; show g.length<=_; omega,fun x hx=>(h.ga x hx).b⟩
end Go.Q
end
section
/- Proofs that are found are right; claims that are proved have no refutation. -/
namespace Go.Q
open Go
def At (ns:List PnM) (b:Nat) (l:List PnM):Prop:=∃ pre post,ns=pre++(l++post)/\pre.length=b
theorem At.fst {ns:List PnM} {b:Nat} {x:PnM} {l:List PnM} (h:At ns b (x::l)):ns[b]?=some x/\b<ns.length/\At ns (b+1) l:=by
 obtain ⟨pre,post,rfl,rfl⟩:=h;refine ⟨by simp,by simp,pre++[x],post,by simp,by simp⟩
theorem At.app {ns:List PnM} {b:Nat} {l m:List PnM} (h:At ns b (l++m)):At ns b l/\At ns (b+l.length) m:=by
 obtain ⟨pre,post,rfl,rfl⟩:=h;exact ⟨⟨pre,m++post,by simp,rfl⟩,⟨pre++l,post,by simp,by simp⟩⟩
end Go.Q
end
section
/- Rows of proofs that are changed; loops that go through. -/
namespace Go.Q
open Go
section
variable {L:List PnM} {m:Nat}
end
theorem PnOK.b {n:PnM} (h:PnOK n):PnB n:=⟨by have:=h.nl; omega,by have:=h.sl; omega,fun b hb=>small_of _ (by have:=(h.sb b hb).2.2; omega)⟩
end Go.Q
end
section
/- An evaluator that asks proved summaries. -/
namespace Go.Q
open Go
theorem Sd.rn {H:Tab} {P:Program} {c:Key->List D->R} {k:Key} {v:List D->R} (hc:∀ k l r,c k l=some r->run H P k l=some r) (h:Sd H P c k (fun l=>l) v) {l:List D} {r:Nat×List D} (e:v l=some r):run H P k l=some r:=run_le (step_mono hc (h l r e))
def OkC (H:Tab) (P:Program) (c:Key->List D->R):Prop:=∀ k l r,c k l=some r->run H P k l=some r
theorem Sd.en {H:Tab} {P:Program} {c:Key->List D->R} {k:Key} {v:List D->R} (hc:OkC H P c) (h:Sd H P c k (fun l=>l) v):∀ l r,v l=some r->run H P k l=some r:=fun l r e=>Sd.rn hc h e
end Go.Q
end
section
/- Rows that are written over. -/
namespace Go.Q
open Go
def lens (r:List D):Nat×Nat×Nat:=(((nth r 3).L).length,((nth r 8).L).length,r.length)
theorem rowAt_set {R:Rows} {i j:Nat} {x:List D} (hi:i<R.length):rowAt (R.set i x) j=if i=j then x else rowAt R j:=by
 unfold rowAt;simp only [List.getD_eq_getElem?_getD,List.getElem?_set];by_cases h:i=j
 · subst h; simp [hi]
 · simp [h]
structure RwI (R R':Rows):Prop where
 l:R'.length=R.length
 e:∀ j,lens (rowAt R' j)=lens (rowAt R j)
theorem RwI.refl (R:Rows):RwI R R:=⟨rfl,fun _=>rfl⟩
theorem RwI.trans {A B C:Rows} (h:RwI A B) (k:RwI B C):RwI A C:=⟨k.l.trans h.l,fun j=>(k.e j).trans (h.e j)⟩
theorem RwI.set {R:Rows} {i:Nat} (hi:i<R.length) {x:List D} (hx:lens x=lens (rowAt R i)):RwI R (over i [x] R):=by
 rw [over_eq_set _ _ _ hi];refine ⟨by simp,fun j=>?_⟩
 rw [rowAt_set hi];split
 · rename_i h; subst h; exact hx
 · rfl
end Go.Q
end
section
/- Texts of terms,guards and claims. -/
namespace Go.Q
open Go
def dgS (n:Int):ByteArray:=⟨(Lib.decDigits n.toNat).toArray⟩
def cmB:ByteArray:=⟨#[44,32]⟩
def opB:ByteArray:=⟨#[40]⟩
def clB:ByteArray:=⟨#[41]⟩
def tailB:List ByteArray->ByteArray->ByteArray
 | [],a=>a
 | y::l,a=>tailB l ((a++cmB)++y)
def finB (s:ByteArray):List ByteArray->ByteArray
 | []=>s
 | x::l=>tailB l ((s++opB)++x)++clB
mutual
def Tm.txt:Tm->ByteArray
 | .mk k n s as=>if k=3 then dgS n else finB s (Tm.txts as)
def Tm.txts:List Tm->List ByteArray
 | []=>[]
 | t::ts=>Tm.txt t::Tm.txts ts
end
theorem Tm.txts_map:∀ ts:List Tm,Tm.txts ts=ts.map Tm.txt
 | []=>rfl
 | t::ts=>by simp only [Tm.txts,B9,Tm.txts_map ts]
theorem Tm.txt_eq (t:Tm):t.txt=if t.k=3 then dgS t.n else finB t.s (t.as.map Tm.txt):=by
 cases t; simp only [Tm.txt,Tm.txts_map,Tm.k,Tm.n,Tm.s,Tm.as]; rfl
theorem size_apB (a b:ByteArray):(a++b).size=a.size+b.size:=ByteArray.size_append
theorem tailB_size:∀ (l:List ByteArray) (a:ByteArray),(tailB l a).size=a.size+(l.map fun y=>y.size+2).sum
 | [],a=>by simp [tailB]
 | y::l,a=>by
  simp only [tailB,tailB_size l,B9,F7,size_apB];have:cmB.size=2:=rfl;omega
theorem tailB_join:∀ (l:List ByteArray) (a:ByteArray),(tailB l a).data.toList=a.data.toList++Lib.joinTail cmB.data.toList (l.map fun y=>y.data.toList)
 | [],a=>by simp [tailB,Lib.joinTail]
 | y::l,a=>by
  rw [tailB,tailB_join l];simp only [Lib.joinTail,B9,List.flatten_cons,ByteArray.data_append,Array.toList_append,D6]
theorem finB_join (s x:ByteArray) (l:List ByteArray):finB s (x::l)=((s++opB)++⟨(Lib.join ((x::l).map fun y=>y.data.toList) cmB.data.toList).toArray⟩)++clB:=by
 simp only [finB];congr 1
 refine key_inj ?_;rw [tailB_join,B9,Lib.join_cons];simp only [ByteArray.data_append,Array.toList_append,D6,List.toList_toArray]
theorem nodeN_s {t:Tm} (h:t.nodeN=true):t.s.size<=8/\(t.k=3->t.s=⟨#[]⟩/\0<=t.n/\t.n<4)/\(t.k≠3->t.s≠⟨#[]⟩):=by
 unfold Tm.nodeN at h;have hsz:∀ {lo hi:Nat},nameK lo hi t.s.data.toList=true->t.s.size<=8/\t.s≠⟨#[]⟩:=fun {lo hi} h=>by
  refine ⟨by have:=nameK_len h; rw [Array.length_toList] at this; exact this,fun e=>?_⟩
  have h':nameK lo hi []=true:=by rw [e] at h; exact h
  exact Bool.noConfusion h'
 by_cases h1:t.k=1
 · rw [H5 h1] at h
   simp only [B5,isVr] at h;obtain ⟨a,b⟩:=hsz h.2.2;exact ⟨a,fun e=>by omega,fun _=>b⟩
 · rw [H6 h1] at h
   by_cases h3:t.k=3
   · rw [H5 h3] at h
     unfold isW at h;simp only [B5,decide_eq_true_eq] at h;obtain ⟨_,a,b,c,_⟩:=h;exact ⟨by rw [c]; decide,fun _=>⟨c,a,b⟩,fun e=>absurd h3 e⟩
   · rw [H6 h3] at h
     by_cases h2:t.k=2
     · rw [H5 h2] at h
       simp only [B5,isNm] at h;obtain ⟨a,b⟩:=hsz h.2;exact ⟨a,fun e=>by omega,fun _=>b⟩
     · rw [H6 h2] at h; simp at h
theorem dgS_size {n:Int} (h0:0<=n) (h1:n<4):(dgS n).size=1:=by
 unfold dgS;rw [Lib.decDigits_one (by omega)]
 rfl
theorem txt_size:∀ t:Tm,t.areN=true->t.txt.size+2<=16*t.nodes:=Tm.ind fun t ih h=>by
 rw [Tm.areN_eq,B5,Tm.areNL_all] at h;obtain ⟨hn,ha⟩:=h;obtain ⟨h1,h2,h3⟩:=nodeN_s hn;have hnd:=Tm.nodes_eq t;rw [Tm.txt_eq];by_cases hk:t.k=3
 · obtain ⟨_,a,b⟩:=h2 hk
   rw [H5 hk,dgS_size a b]; omega
 · rw [H6 hk]
   have key:∀ l:List Tm,(∀ a∈l,a.txt.size+2<=16*a.nodes)->((l.map Tm.txt).map fun y=>y.size+2).sum<=16*(l.map Tm.nodes).sum:=fun l=>by
    induction l with
    | nil=>simp
    | cons a l ih =>
     intro h;have:=ih fun b hb=>h b (B6 _ hb)
     have h0:=h a (B7 ..);simp only [B9,F7]; omega
   have hs:=key t.as fun a hm=>ih a hm (C7.1 ha a hm)
   cases hl:t.as.map Tm.txt with
   | nil=>simp only [finB]; omega
   | cons x l =>
    rw [hl] at hs;simp only [B9,F7] at hs;simp only [finB,size_apB,tailB_size];have o1:opB.size=1:=rfl;have o2:clB.size=1:=rfl;omega
theorem txt_ne {t:Tm} (h:t.areN=true):t.txt≠⟨#[]⟩:=by
 rw [Tm.areN_eq,B5] at h;obtain ⟨h1,h2,h3⟩:=nodeN_s h.1;intro e;have e:=congrArg ByteArray.size e;rw [Tm.txt_eq] at e;by_cases hk:t.k=3
 · obtain ⟨_,a,b⟩:=h2 hk
   rw [H5 hk,dgS_size a b] at e;exact absurd e (by decide)
 · rw [H6 hk] at e
   cases hl:t.as.map Tm.txt with
   | nil =>
    rw [hl] at e;refine h3 hk (key_inj (D5.1 ?_));have e':t.s.data.size=0:=e;simpa using e'
   | cons x l =>
    rw [hl] at e;simp only [finB,size_apB] at e;have o2:clB.size=1:=rfl;have o0:(⟨#[]⟩:ByteArray).size=0:=rfl;omega
def tF (t:Tm):ByteArray:=if t.valid then t.txt else ⟨#[]⟩
theorem tF_size (t:Tm):(tF t).size<=960:=by
 unfold tF;split
 · rename_i h
   unfold Tm.valid at h;simp only [B5,decide_eq_true_eq] at h;have:=txt_size t h.2.2;omega
 · exact O9 _
theorem tF_ne {t:Tm} (h:t.valid=true):tF t≠⟨#[]⟩:=by
 unfold tF;rw [H5 h];unfold Tm.valid at h;simp only [B5] at h;exact txt_ne h.2.2
def sgB (k:Int):ByteArray:=if k=1 then ⟨#[32,61,61,32]⟩ else if k=2 then ⟨#[32,33,61,32]⟩ else ⟨#[32,60,32]⟩
def gF (g:Gu):ByteArray:=if (decide (1<=g.k)&&decide (g.k<=3))&&(g.l.valid&&g.r.valid) then (tF g.l++sgB g.k)++tF g.r else ⟨#[]⟩
theorem gF_size (g:Gu):(gF g).size<=2000:=by
 unfold gF;split
 · have h1:=tF_size g.l
   have h2:=tF_size g.r
   have h3:(sgB g.k).size<=4:=by unfold sgB; split; · decide
                                 · split <;> decide
   simp only [size_apB]; omega
 · exact O9 _
def ifB:ByteArray:=⟨#[32,105,102,32]⟩
def amB:ByteArray:=⟨#[32,38,32]⟩
def arB:ByteArray:=⟨#[32,61,62,32]⟩
def gsF:List Gu->Bool->ByteArray->ByteArray
 | [],_,a=>a
 | g::l,b,a=>gsF l false ((a++bif b then ifB else amB)++gF g)
theorem gsF_app (p:ByteArray):∀ (l:List Gu) (b:Bool) (a:ByteArray),gsF l b (p++a)=p++gsF l b a
 | [],_,a=>rfl
 | g::l,b,a=>by
  simp only [gsF];rw [<- gsF_app p l];congr 1
  simp only [ByteArray.append_assoc]
theorem gsF_size:∀ (l:List Gu) (b:Bool) (a:ByteArray),(gsF l b a).size<=a.size+2004*l.length
 | [],_,a=>by simp [gsF]
 | g::l,b,a=>by
  have h:=gsF_size l false ((a++bif b then ifB else amB)++gF g)
  have h2:=gF_size g;have h3:(bif b then ifB else amB).size<=4:=by cases b <;> decide
  simp only [gsF,F1,size_apB] at h ⊢;omega
def sdF (l r:Tm) (g:List Gu):ByteArray:=gsF g true ((tF l++arB)++tF r)
theorem sdF_size (l r:Tm) (g:List Gu):(sdF l r g).size<=2000+2004*g.length:=by
 have h:=gsF_size g true ((tF l++arB)++tF r);have h1:=tF_size l;have h2:=tF_size r;have h3:arB.size=4:=rfl;simp only [size_apB] at h;unfold sdF;omega
theorem ext_pre (p a:ByteArray) {n m:Nat} (hn:n=p.size) (hm:m=(p++a).size):(p++a).extract n m=a:=by
 exact ByteArray.extract_append_eq_right hn (by rw [hm,ByteArray.size_append])
end Go.Q
end
