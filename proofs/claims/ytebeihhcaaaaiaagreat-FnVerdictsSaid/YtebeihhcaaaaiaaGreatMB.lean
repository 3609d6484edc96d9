/- The plain laws of what the functions answer, part 2. -/
import Derived.Test.YtebeihhcaaaaiaaGreatMA
set_option linter.unusedVariables false
set_option linter.unusedSimpArgs false
open Bool renaming and_eq_true->B9,not_eq_true'->E7,and_self->O2
open Int renaming toNat_natCast->B7
open List renaming mem_cons->E1,all_eq_true->E3,mem_of_getElem?->N0,not_mem_nil->N2,any_eq_true->P8,mem_map_of_mem->S9,getElem_of_mem->T9
open Nat renaming zero_add->D1,le_refl->E8,beq->F4,zero_le->G9,eq_of_beq_eq_true->S4
open Option renaming some->C9
section
/- Proofs that are found are right;claims that are proved have no refutation. -/
namespace Go.Q
open Go
def At(ns:List PnM)(b:Nat)(l:List PnM):Prop:=∃ pre post,ns=pre++(l++post)/\pre.length=b
theorem At.fst{ns:List PnM}{b:Nat}{x:PnM}{l:List PnM}(h:At ns b (x::l)):ns[b]?=some x/\b<ns.length/\At ns (b+1) l:=by
 obtain⟨pre,post,rfl,rfl⟩:=h;refine⟨by simp,by simp,pre++[x],post,by simp,by simp⟩
theorem At.app{ns:List PnM}{b:Nat}{l m:List PnM}(h:At ns b (l++m)):At ns b l/\At ns (b+l.length) m:=by
 obtain⟨pre,post,rfl,rfl⟩:=h;exact⟨⟨pre,m++post,by simp,rfl⟩,⟨pre++l,post,by simp,by simp⟩⟩
theorem Kp{g:ClM}{t:Tm}{op:List Int}:∀ (cs:List ClM) (i:Nat) (x:PnM),js g t op cs i=some x->∃ j c,cs[j]?=some c/\x.k=3/\x.c=((i+j:Nat):Int)/\op.all (pi c x.s g t)=true
 | [],i,x,h=>by simp[js] at h
 |c::r,i,x,h=>by
  have rc:js g t op r (i+1)=some x->∃ j c',(c::r)[j]?=some c'/\x.k=3/\x.c=((i+j:Nat):Int)/\op.all (pi c' x.s g t)=true:=fun h=>by
   obtain⟨j,c',h1,h2,h3,h4⟩:=Kp r (i+1) x h;exact⟨j+1,c',by simpa using h1,h2,by rw[h3];congr 1;omega,h4⟩
  simp only[js] at h;cases hm:mT c.l t [] with
  |none=>rw[hm] at h;exact rc h
  |some l =>
   rw[hm] at h;simp only at h;split at h
   ·rename_i ha
    simp only[C9.injEq] at h;subst h;exact⟨0,c,rfl,rfl,rfl,ha⟩
   ·exact rc h
theorem Ow{f:Nat->Tm->List Int->Option (List PnM)}{d:DfM}{t:Tm}{ns:List PnM}:∀ (L:List (Bk×List Int)) (base:Nat) (y:List Int×List PnM),chl f d t L base=some y->At ns base y.2->y.1.length=L.length/\∀ p∈L.zip y.1,∃ m n1,p.2=((m:Nat):Int)/\base<=m/\f m (bT d t p.1.1) p.1.2=some n1/\At ns m n1
 | [],base,y,h,_=>by simp only[chl,C9.injEq] at h;subst h;simp
 |b::r,base,y,h,ha=>by
  simp only[chl] at h;cases h1:f base (bT d t b.1) b.2 with
  |none=>rw[h1] at h;simp at h
  |some n1 =>
   rw[h1] at h;simp only at h;cases h3:chl f d t r (base+n1.length) with
   |none=>rw[h3] at h;simp at h
   |some z =>
    rw[h3] at h;simp only[C9.injEq] at h;subst h;obtain⟨a1,a2⟩:=ha.app;obtain⟨l1,l2⟩:=Ow r _ z h3 a2;refine⟨by simp[l1],fun p hp=>?_⟩
    rw[List.zip_cons_cons] at hp;rcases E1.1 hp with rfl |hp
    ·exact⟨base,n1,rfl,E8 _,h1,a1⟩
    ·obtain⟨m,n2,q1,q2,q3,q4⟩:=l2 p hp
     exact⟨m,n2,q1,by omega,q3,q4⟩
theorem Yt{d:DfM}{cs:List ClM}{g:ClM}{ns:List PnM}:∀ (r base:Nat) (t:Tm) (cl:List Int) (nl:List PnM) (f:Nat) (st:Bool),fnd d cs g r base t cl=some nl->At ns base nl->ns.length<=f+base->(r<12->st=true)->rgt d cs g ns f (base:Int) t cl st=true:=by
 have one:∀ (base:Nat) (t:Tm) (cl:List Int) (nl:List PnM) (f:Nat) (st:Bool) (cir:Option PnM) (k:Option (List PnM)),ry base (opC g t cl) cir k=some nl->At ns base nl->ns.length<=f+base →
  (∀ x,cir=some x->st=true/\∃ i,js g t (opC g t cl) cs i=some x/\i=0) →
  (∀ nl',k=some nl'->At ns base nl'->∃ y:List Int×List PnM,nl'=⟨2,y.1,0,[]⟩::y.2/\y.1.length=(brF d g.v t (opC g t cl) []).length/\∀ p∈(brF d g.v t (opC g t cl) []).zip y.1,bK d t p.1.1=2/\∃ m:Nat,p.2=(m:Int)/\base<m/\rgt d cs g ns (f-1) (m:Int) (bT d t p.1.1) p.1.2 true=true)->rgt d cs g ns f (base:Int) t cl st=true:=by
  intro base t cl nl f st cir k h ha hf hc hk;have hf1:∀ x l,nl=x::l->∃ e,f=e+1:=fun x l e=>by
   subst e;have:=(ha.fst).2.1;exact⟨f-1,by omega⟩
  unfold ry at h;split at h
  ·simp at h
  split at h
  ·rename_i h0
   simp only[C9.injEq] at h;subst h;obtain⟨e,rfl⟩:=hf1 _ _ rfl;obtain⟨a1,_,_⟩:=ha.fst;unfold rgt;rw[H6 (by omega),B7,a1]
   simp only[h0,if_true,H3]
  ·cases cir with
   |some x =>
    simp only[C9.injEq] at h;subst h;obtain⟨e,rfl⟩:=hf1 _ _ rfl;obtain⟨a1,_,_⟩:=ha.fst;obtain⟨hst,i,hx,rfl⟩:=hc x rfl;obtain⟨j,c,c1,c2,c3,c4⟩:=Kp _ _ _ hx;unfold rgt;rw[H6 (by omega),B7,a1]
    simp only[c2];rw[H6 (by decide),H6 (by decide),H5 trivial,hst]
    have hcl:lf cs x.c=some c:=by
     unfold lf;rw[c3,H5 (by omega),B7,D1,c1]
    rw[hcl];simp only[c4,O2]
   |none =>
    simp only at h;obtain⟨y,rfl,y2,y3⟩:=hk nl h ha;obtain⟨e,rfl⟩:=hf1 _ _ rfl;obtain⟨a1,_,_⟩:=ha.fst;unfold rgt;rw[H6 (by omega),B7,a1]
    simp only;rw[H6 (by decide),H5 trivial,B9,E3]
    refine⟨H7 y2.symm,fun p hp=>?_⟩
    obtain⟨b1,m,b2,b3,b4⟩:=y3 p hp;rw[b2];simp only[B9,decide_eq_true_eq,E7,decide_eq_false_iff_not];exact⟨b1,by omega,b4⟩
 intro r;induction r with
 |zero =>
  intro base t cl nl f st h ha hf hst;simp only[fnd] at h;exact one base t cl nl f st _ _ h ha hf (fun x hx=>⟨hst (by decide),0,hx,rfl⟩) (by simp)
 |succ r ih =>
  intro base t cl nl f st h ha hf hst;simp only[fnd] at h;refine one base t cl nl f st _ _ h ha hf (fun x hx=>?_) (fun nl' hk ha'=>?_)
  ·split at hx
   ·rename_i hr
    exact⟨hst hr,0,hx,rfl⟩
   ·simp at hx
  ·split at hk
   ·rename_i hall
    cases hy:chl (fnd d cs g r) d t (brF d g.v t (opC g t cl) []) (base+1) with
    |none=>rw[hy] at hk;simp[mk2] at hk
    |some y =>
     rw[hy] at hk;simp only[mk2,C9.injEq] at hk;subst hk;obtain⟨_,hlt,ha2⟩:=ha'.fst;obtain⟨l1,l2⟩:=Ow _ _ y hy ha2;refine⟨y,rfl,l1,fun p hp=>?_⟩
     obtain⟨m,n1,q1,q2,q3,q4⟩:=l2 p hp;have hb:=E3.1 hall p.1 (List.of_mem_zip hp).1;exact⟨by simpa using hb,m,q1,by omega,ih m _ _ n1 (f-1) true q3 q4 (by omega) (fun _=>rfl)⟩
   ·simp at hk
theorem Yu{d:DfM}{cs:List ClM}{k:Int}{ns:List PnM}(h:fpR d cs k=some ns):Cq d cs k ns=true:=by
 unfold fpR at h;unfold Cq;cases hq:jr cs k with
 |none=>rw[hq] at h;simp at h
 |some g =>
  rw[hq] at h;simp only at h ⊢;have h1:=nv _ _ _ _ _ _ _ _ (G9 _) h;rw[B9,decide_eq_true_eq];exact⟨by omega,Yt 12 0 _ _ ns ns.length false h ⟨[],[],by simp,rfl⟩ (by omega) (fun h=>absurd h (by decide))⟩
theorem Kq{d:DfM}{cs:List ClM}:∀ (n i:Nat) (ps:List (List PnM)),prL d cs n i=some ps->ps.length=n/\wi d cs i ps=true
 |0,i,ps,h=>by simp only[prL,C9.injEq] at h;subst h;exact⟨rfl,rfl⟩
 |n+1,i,ps,h=>by
  simp only[prL] at h;cases h1:fpR d cs (i:Int) with
  |none=>rw[h1] at h;simp at h
  |some p =>
   rw[h1] at h;simp only at h;cases h2:prL d cs n (i+1) with
   |none=>rw[h2] at h;simp at h
   |some r =>
    rw[h2] at h;simp only[C9.injEq] at h;subst h;obtain⟨g1,g2⟩:=Kq n (i+1) r h2;exact⟨by simp[g1],by simp only[wi,Yu h1,g2,O2]⟩
def Rch(d:DfM)(N:Nat)(u w:Tm):Prop:=∃ x∈u::(dz d N u).st,x.row=w.row
theorem Yv{g:ClM}{t:Tm}{cl:List Int}{k:Int}(hk:k∈cl)(h:k∉opC g t cl):(S.instR g.v t k).row=(S.instR g.v g.r k).row:=by
 unfold opC at h;rw[List.mem_filter] at h;simp only[hk,true_and,E7,Bool.not_eq_false] at h;exact gf.1 h
theorem Yw{d:DfM}(hd:DfB d){cs:List ClM}{g:ClM}{ns:List PnM}{n:Nat}(hv:∀ c∈cs,True)
 (ih:∀ N,N<n->∀ c∈cs,∀ k∈dk c.v c.g,(dz d N (bw c.v c.l (k:Int))).o=1->Rch d N (bw c.v c.l (k:Int)) (S.instR c.v c.r (k:Int))) :
 ∀ (f:Nat) (m:Int) (t:Tm) (cl:List Int) (st:Bool),StG d g.v t cl->rgt d cs g ns f m t cl st=true->∀ k∈cl,∀ N,N<=n->(st=true->N<n)->(dz d N (bw g.v t k)).o=1->Rch d N (bw g.v t k) (S.instR g.v g.r k):=by
 intro f;induction f with
 |zero=>intro m t cl st _ h;simp[rgt] at h
 |succ f ihf =>
  intro m t cl st hs h k hk N hN hst ho;have hC:isC g.v.length k=true:=ce cl none hs.c k hk;have eI:S.instR g.v t k=bw g.v t k:=by unfold S.instR;rw[H5 hC]
  by_cases hop:k∈opC g t cl
  case neg=>exact⟨_,List.mem_cons_self ..,by rw[<-eI];exact Yv hk hop⟩
  unfold rgt at h;split at h
  ·simp at h
  rename_i hm0;cases hx:ns[m.toNat]? with
  |none=>rw[hx] at h;simp at h
  |some x =>
   rw[hx] at h;simp only at h;split at h
   ·rw[decide_eq_true_eq] at h
    rw[List.length_eq_zero_iff.1 h] at hop;simp at hop
   split at h
   ·rw[B9,decide_eq_true_eq,E3] at h
    obtain⟨h1,h2⟩:=h;have hs2:StG d g.v t (opC g t cl):=hs.op (List.filter_sublist ..);obtain⟨b,hb,hkb⟩:=List.mem_flatMap.1 ((Ko d g.v t (opC g t cl) []).mem_iff.2 (by simpa using hop))
    obtain⟨i,hi,rfl⟩:=T9 hb;have hz:((brF d g.v t (opC g t cl) [])[i],x.nx[i]'(by omega))∈(brF d g.v t (opC g t cl) []).zip x.nx:=by
     have:i<((brF d g.v t (opC g t cl) []).zip x.nx).length:=by rw[List.length_zip];omega
     have e:((brF d g.v t (opC g t cl) []).zip x.nx)[i]=_:=List.getElem_zip;rw[<-e];exact List.getElem_mem this
    have h3:=h2 _ hz;simp only[B9,decide_eq_true_eq,E7,decide_eq_false_iff_not] at h3;obtain⟨h4,_,h5⟩:=h3;have hkey:=Ov d g.v t (opC g t cl) [] (by simp) _ hb k hkb
    have hnx:=hs2.next hd hb h4;have h6:=ihf _ _ _ true hnx h5 k hkb;generalize (brF d g.v t (opC g t cl) [])[i]=b at hb hkb h4 h5 hkey hnx h6;cases hq:b.1 with
    |none=>rw[hq] at h4;simp[bK] at h4
    |some y =>
     rw[hq] at hkey hnx h6 h4;have hvv:(dc d t y).valid=true:=by
      have h7:(if (dc d t y).valid=true then (2:Int) else 3)=2:=h4
      split at h7
      ·assumption
      ·simp at h7
     have e:bT d t (some y)=dc d t y:=by show(if (dc d t y).valid=true then dc d t y else tm0)=_;rw[H5 hvv]
     rw[e] at hnx h6;have hsim:=sim hd hs.w hs.s hC hkey;have hval:(cd d (bw g.v t k) y.1 y.2).valid=true:=by
      have:=wb hnx.s hC;rw[hsim] at this;simp only[cfg,B9] at this;exact this.2.1
     cases N with
     |zero=>rw[rb hkey] at ho;simp at ho
     |succ N =>
      rw[wa hkey hval,<-hsim] at ho;obtain⟨z,z1,z2⟩:=h6 N (by omega) (fun _=>by omega) ho
      refine⟨z,?_,z2⟩;rw[wa hkey hval,<-hsim];exact List.mem_cons_of_mem _ z1
   split at h
   ·rw[B9] at h
    obtain⟨h1,h2⟩:=h;have hN2:=hst h1;cases hcl:lf cs x.c with
    |none=>rw[hcl] at h2;simp at h2
    |some c =>
     rw[hcl] at h2;simp only[E3] at h2;have h3:=h2 k hop;unfold pi at h3;simp only[B9] at h3;obtain⟨p1,p2,p3,p4⟩:=h3;have hcm:c∈cs:=by
      unfold lf at hcl;split at hcl
      ·exact N0 hcl
      ·simp at hcl
     have hC2:=Gz p1;have hin:=Ki ((Ke hC2).trans p2);obtain⟨j,hj,ej⟩:=List.mem_map.1 hin;rw[<-ej] at p3 p4 hC2;have p3:=gf.1 p3;have p4:=gf.1 p4;have eJ:S.instR c.v c.l (j:Int)=bw c.v c.l (j:Int):=by unfold S.instR;rw[H5 hC2]
     rw[eI,eJ] at p3;have p5:=Ot _ _ p3;have:=ih N hN2 c hcm j hj (by rw[p5];exact ho)
     rw[p5] at this;obtain⟨z,z1,z2⟩:=this;exact⟨z,z1,z2.trans p4⟩
   ·simp at h
theorem Qo{d:DfM}(hd:DfB d){cs:List ClM}(hcs:∀ c∈cs,ClB c)(hcd:∀ c∈cs,c.d=d)(hv:∀ c∈cs,c.valid=true)
 (hp:∀ g∈cs,∃ ns:List PnM,rgt d cs g ns ns.length 0 g.l ((dk g.v g.g).map fun (i:Nat)=>(i:Int)) false=true) :
 ∀ n,∀ g∈cs,∀ k∈dk g.v g.g,(dz d n (bw g.v g.l (k:Int))).o=1->Rch d n (bw g.v g.l (k:Int)) (S.instR g.v g.r (k:Int)):=by
 intro n;induction n using Nat.strongRecOn with
 |_ n ih =>
  intro g hg k hk ho;obtain⟨ns,hr⟩:=hp g hg;have hst:=StG.start (hcs g hg) (hv g hg);rw[hcd g hg] at hst;exact Yw hd (fun _ _=>trivial) ih _ _ _ _ _ hst hr (k:Int) (S9 hk) n (E8 _) (by simp) ho
theorem Qp{d:DfM}(hd:DfB d){cs:List ClM}(hcs:∀ c∈cs,ClB c)(hcd:∀ c∈cs,c.d=d){ps:List (List PnM)}(h:Di d cs ps=true):∀ g∈cs,tq g=none:=by
 intro g hg;unfold Di at h;simp only[B9,decide_eq_true_eq] at h;obtain⟨h1,h2,h3⟩:=h;have all:∀ (ps:List (List PnM)) (i:Nat),wi d cs i ps=true->∀ j (hj:j<ps.length),Cq d cs ((i+j:Nat):Int) ps[j]=true:=by
  intro ps;induction ps with
  |nil=>intro i _ j hj;simp at hj
  |cons p r ihp =>
   intro i h j hj;simp only[wi,B9] at h;cases j with
   |zero=>exact h.1
   |succ j =>
    have:=ihp (i+1) h.2 j (by simpa using hj)
    rw[show i+1+j=i+(j+1) by omega] at this
    exact this
 have hp:∀ j (hj:j<cs.length),da cs=true/\∃ ns:List PnM,rgt d cs cs[j] ns ns.length 0 cs[j].l ((dk cs[j].v cs[j].g).map fun (i:Nat)=>(i:Int)) false=true:=fun j hj=>by
  have:=all ps 0 h2 j (by omega)
  rw[D1] at this;unfold Cq at this;cases hq:jr cs (j:Int) with
  |none=>rw[hq] at this;simp at this
  |some g' =>
   rw[hq] at this;obtain⟨q1,q2,q3⟩:=gm hq;unfold lf at q3;rw[H5 (by omega),B7,List.getElem?_eq_getElem hj] at q3
   simp only[C9.injEq] at q3;subst q3;simp only[B9] at this;exact⟨q2,_,this.2⟩
 obtain⟨i,hi,rfl⟩:=T9 hg;have hvv:=(hp i hi).1;have hv:∀ c∈cs,c.valid=true:=E3.1 hvv;have hall:=Qo hd hcs hcd hv (fun g hg=>by
  obtain⟨j,hj,rfl⟩:=T9 hg;exact(hp j hj).2) 200 cs[i] hg
 unfold tq;rw[H5 (hv _ hg),List.find?_eq_none];intro k hk hr;have hC:=Cf hk;have eI:S.instR cs[i].v cs[i].l (k:Int)=bw cs[i].v cs[i].l (k:Int):=by unfold S.instR;rw[H5 hC]
 rw[hcd _ hg] at hr;unfold wc at hr;cases hR:jv d (S.instR cs[i].v cs[i].l (k:Int)) 200 with
 |none=>rw[hR] at hr;simp at hr
 |some r =>
  rw[hR] at hr;simp only[B9,decide_eq_true_eq,E7] at hr;unfold jv at hR;split at hR
  ·simp only[C9.injEq] at hR
   rw[eI] at hR hr;have e200:(200:Int).toNat=200:=rfl;rw[e200] at hR;obtain⟨x,x1,x2⟩:=hall k hk (by rw[hR];exact hr.1)
   rw[hR] at x1;have hrr:=hr.2;simp only[xv,List.any_eq_false] at hrr;exact hrr x x1 (gf.2 x2)
  ·simp at hR
theorem Yx{d:DfM}{cs:List ClM}{ps:List (List PnM)}(h:prL d cs cs.length 0=some ps)(h0:0<cs.length):Di d cs ps=true:=by
 obtain⟨g1,g2⟩:=Kq _ _ _ h;unfold Di;simp only[g1,g2,h0,H3,O2]
end Go.Q
end
section
/- aa of proofs that are changed;loops that go through. -/
namespace Go.Q
open Go
theorem pnK(x:PnM)(b:Int):over 0 [D.int b] (PnM.row x)=PnM.row ⟨b,x.nx,x.c,x.s⟩:=rfl
theorem pnS(x:PnM):over 3 [D.sl []] (PnM.row x)=PnM.row ⟨x.k,x.nx,x.c,[]⟩:=rfl
theorem pnC(x:PnM)(b:Int):over 2 [D.int b] (PnM.row x)=PnM.row ⟨x.k,x.nx,b,x.s⟩:=rfl
theorem pnE(x:PnM):over 1 [D.sl []] (PnM.row x)=PnM.row ⟨x.k,[],x.c,x.s⟩:=rfl
theorem pnN(x:PnM)(b:Int):over 1 [D.sl (x.nx.map am++[[D.int b]])] (PnM.row ⟨x.k,[],x.c,x.s⟩)=PnM.row ⟨x.k,x.nx++[b],x.c,x.s⟩:=by
 show _=[D.int x.k,D.sl ((x.nx++[b]).map am),D.int x.c,D.sl (x.s.map Bnd.row)]
 rw[List.map_append];rfl
theorem pn1(x:PnM):(nth (PnM.row x) 1).L=x.nx.map am:=rfl
section
variable{L:List PnM}{m:Nat}
theorem ov1(hm:m<L.length)(y:PnM):over m [PnM.row y] (L.map PnM.row)=(L.set m y).map PnM.row:=by
 rw[il _ _ _ (by simpa using hm),List.map_set]
theorem ovN(hm:m<L.length)(y z:PnM):over m [PnM.row z] (over m [PnM.row y] (L.map PnM.row))=(L.set m z).map PnM.row:=by
 rw[S.over_row_two (by simpa using hm),ov1 hm]
theorem ovA(hm:m<L.length)(y:PnM):rowAt (over m [PnM.row y] (L.map PnM.row)) m=PnM.row y:=S.over_row_at (by simpa using hm)
theorem ovL(hm:m<L.length)(y:PnM):(over m [PnM.row y] (L.map PnM.row)).length=L.length:=by
 rw[S.over_row_len (by simpa using hm),List.length_map]
theorem gu(h:∀ n∈L,PnB n)(y:PnM)(hy:PnB y):∀ n∈L.set m y,PnB n:=fun n hn=>by
 rcases List.mem_or_eq_of_mem_set hn with hn |rfl
 ·exact h n hn
 ·exact hy
end
theorem xz.b{n:PnM}(h:xz n):PnB n:=⟨by have:=h.nl;omega,by have:=h.sl;omega,fun b hb=>ak _ (by have:=(h.sb b hb).2.2;omega)⟩
def dfN:List PnM:=[⟨2,[1],0,[]⟩,⟨1,[],0,[]⟩]
theorem Ox:([[.int 2,.sl [[.int 1]],.int 0,.sl []],[.int 1,.sl [],.int 0,.sl []]]:aa)=dfN.map PnM.row:=rfl
theorem Hg:∀ n∈dfN,PnB n/\n.nx.length<=64:=fun n hn=>by
 simp only[dfN,E1,N2,or_false] at hn;rcases hn with rfl |rfl<;>exact⟨⟨by simp,by simp,by simp⟩,by simp⟩
structure ClL(df:DfM)(cs:List ClM):Prop where
 d:DfW df
 l:0<cs.length/\cs.length<=2
 b:∀ c∈cs,ClB c
 e:∀ c∈cs,c.d=df
structure NdL(ns:List PnM):Prop where
 l:ns.length<=60
 b:∀ n∈ns,PnB n
theorem Ur{c:ClM}{k:Nat}(h:tq c=some k):k∈dk c.v c.g/\wc c.d (S.instR c.v c.l (k:Int)) (S.instR c.v c.r (k:Int))=true:=by
 unfold tq at h;split at h
 ·exact⟨List.mem_of_find?_eq_some h,by simpa using List.find?_some h⟩
 ·simp at h
theorem Kr:∀ (cs:List ClM) (i:Nat) (x:Nat×Nat),pj cs i=some x->∃ j c,cs[j]?=some c/\x.1=i+j/\tq c=some x.2
 | [],i,x,h=>by simp[pj] at h
 |c::r,i,x,h=>by
  simp only[pj] at h;cases hf:tq c with
  |none =>
   rw[hf] at h;obtain⟨j,c',h1,h2,h3⟩:=Kr r (i+1) x h;exact⟨j+1,c',by simpa using h1,by omega,h3⟩
  |some k =>
   rw[hf] at h;simp only[C9.injEq] at h;subst h;exact⟨0,c,rfl,rfl,hf⟩
theorem Us{d:DfM}{cs:List ClM}(hcd:∀ c∈cs,c.d=d):Kh d cs (veR d cs).k (veR d cs).p (veR d cs).c (veR d cs).n=(decide ((veR d cs).k=1)||decide ((veR d cs).k=2))/\((veR d cs).k=1->Di d cs (veR d cs).p=true):=by
 unfold veR;split
 ·rename_i ha
  obtain⟨g0,hg0⟩:=Option.isSome_iff_exists.1 ha;obtain⟨h1,h2,h3⟩:=gm hg0;have hpos:0<cs.length:=by
   unfold lf at h3;split at h3
   ·exact Nat.lt_of_le_of_lt (G9 _) (List.getElem?_eq_some_iff.1 h3).1
   ·simp at h3
  cases hp:prL d cs cs.length 0 with
  |some ps =>
   have:=Yx hp hpos;refine⟨?_,fun _=>this⟩
   unfold Kh;rw[H5 rfl,this];rfl
  |none =>
   simp only;cases hr:pj cs 0 with
   |none=>exact⟨rfl,fun h=>by simp at h⟩
   |some x =>
    refine⟨?_,fun h=>by simp at h⟩
    obtain⟨j,c,c1,c2,c3⟩:=Kr cs 0 x hr;obtain⟨f1,f2⟩:=Ur c3;have hm:c∈cs:=N0 c1;rw[hcd c hm] at f2;have hA:jr cs (x.1:Int)=some c:=by
     unfold jr;rw[H5 ⟨h1,h2⟩];unfold lf;rw[H5 (by omega),B7,c2,D1,c1]
    show Kh d cs 2 [] (x.1:Int) (x.2:Int)=(decide ((2:Int)=1)||decide ((2:Int)=2))
    unfold Kh;rw[H6 (by decide),H5 rfl,hA]
    have hI:nq ((dk c.v c.g).map fun (i:Nat)=>(i:Int)) (x.2:Int)=true:=by
     simp only[nq,P8,decide_eq_true_eq];exact⟨_,S9 f1,rfl⟩
    simp only[hI,f2,O2];rfl
 ·exact⟨rfl,fun h=>by simp at h⟩
theorem Ks{F:Nat->R}{n:Nat}{A:R}(hs:∀ i,i<n->F i=F (i+1))(he:F n=A):F 0=A:=by
 have key:∀ k i,i+k=n->F i=A:=by
  intro k;induction k with
  |zero =>
   intro i hi;have e:i=n:=by omega
   rw[e];exact he
  |succ k ih=>intro i hi;rw[hs i (by omega)];exact ih (i+1) (by omega)
 exact key n 0 (D1 n)
end Go.Q
end
section
/- An evaluator that asks proved summaries. -/
namespace Go.Q
open Go
mutual
def dqD:D->D->Bool
 |.int a,.int b=>decide (a=b)
 |.bool a,.bool b=>decide (a=b)
 |.str a,.str b=>decide (a=b)
 |.sl a,.sl b=>dqR a b
 |_,_=>false
def dqL:List D->List D->Bool
 | [],[]=>true
 |x::xs,y::ys=>dqD x y&&dqL xs ys
 |_,_=>false
def dqR:List (List D)->List (List D)->Bool
 | [],[]=>true
 |x::xs,y::ys=>dqL x y&&dqR xs ys
 |_,_=>false
end
mutual
theorem ae1:∀ a b,dqD a b=true->a=b
 |.int a,b,h=>by cases b<;>simp[dqD] at h ⊢;exact h
 |.bool a,b,h=>by cases b<;>simp[dqD] at h ⊢;exact h
 |.str a,b,h=>by cases b<;>simp[dqD] at h ⊢;exact h
 |.sl a,b,h=>by
  cases b with
  |sl b=>rw[dqD] at h;rw[Ut a b h]
  |_=>simp[dqD] at h
theorem Mq:∀ a b,dqL a b=true->a=b
 | [],b,h=>by cases b with
  |nil=>rfl
  |cons y ys=>simp[dqL] at h
 |x::xs,b,h=>by
  cases b with
  |nil=>simp[dqL] at h
  |cons y ys =>
   rw[dqL,B9] at h;rw[ae1 x y h.1,Mq xs ys h.2]
theorem Ut:∀ a b,dqR a b=true->a=b
 | [],b,h=>by cases b with
  |nil=>rfl
  |cons y ys=>simp[dqR] at h
 |x::xs,b,h=>by
  cases b with
  |nil=>simp[dqR] at h
  |cons y ys =>
   rw[dqR,B9] at h;rw[Mq x y h.1,Ut xs ys h.2]
end
def orc(T:List (List D))(l:List D):R:=bif T.any (dqL l) then some (0,[.bool true]) else none
theorem Uu{H:Tab}{P:Program}{k:Key}{T:List (List D)}{l:List D}{r:Nat×List D}(h:∀ x∈T,run H P k x=some (0,[.bool true]))(e:orc T l=some r):run H P k l=some r:=by
 unfold orc at e;cases ha:T.any (dqL l) with
 |false=>rw[ha] at e;simp at e
 |true =>
  rw[ha] at e;obtain⟨x,hx,hq⟩:=P8.1 ha;rw[Mq _ _ hq];exact(h x hx).trans e
theorem Sd.rn{H:Tab}{P:Program}{c:Key->List D->R}{k:Key}{v:List D->R}(hc:∀ k l r,c k l=some r->run H P k l=some r)(h:Sd H P c k (fun l=>l) v){l:List D}{r:Nat×List D}(e:v l=some r):run H P k l=some r:=Ll (qt hc (h l r e))
structure En(H:Tab)(P:Program) where
 k:Key
 v:List D->R
 h:∀ l r,v l=some r->run H P k l=some r
def OkC(H:Tab)(P:Program)(c:Key->List D->R):Prop:=∀ k l r,c k l=some r->run H P k l=some r
theorem Sd.en{H:Tab}{P:Program}{c:Key->List D->R}{k:Key}{v:List D->R}(hc:OkC H P c)(h:Sd H P c k (fun l=>l) v):∀ l r,v l=some r->run H P k l=some r:=fun l r e=>Sd.rn hc h e
def lkE{H:Tab}{P:Program}(k:Key)(l:List D):List (En H P)->R
 | []=>none
 |e::t=>bif F4 k.f e.k.f&&(F4 k.n e.k.n&&F4 k.v e.k.v) then e.v l else lkE k l t
theorem Uv{H:Tab}{P:Program}{k:Key}{l:List D}{r:Nat×List D}:∀ T:List (En H P),lkE k l T=some r->run H P k l=some r
 | [],h=>by simp[lkE] at h
 |e::t,h=>cnd h (fun a b=>by
  simp only[B9] at a;have e1:k=e.k:=by
   obtain⟨f,v,n⟩:=k;have a1:=S4 a.1;have a2:=S4 a.2.1;have a3:=S4 a.2.2;simp only at a1 a2 a3;rw[a1,a2,a3]
  rw[e1];exact e.h l r b) fun _ b=>Uv t b
def evE{H:Tab}{P:Program}(T:(c:Key->List D->R)->OkC H P c->List (En H P)):Nat->{c:Key->List D->R // OkC H P c}
 |0=>⟨fun _ _=>none,fun k l r h=>by simp at h⟩
 |n+1=>⟨fun k l=>lkE k l (T (evE T n).1 (evE T n).2),fun k l r h=>Uv _ h⟩
def lpT:List Tm:=[tP ⟨#[108,111,111,112]⟩ tNn tMm,tP ⟨#[108,111,111,112]⟩ (tP ⟨#[109,105,110,117,115]⟩ tNn (tW 1)) (tP ⟨#[112,108,117,115]⟩ tMm (tW 1)),tW 0,tNn,tP ⟨#[108,111,111,112]⟩ (tW 0) tMm,tO ⟨#[100,111,110,101]⟩ tMm]
theorem ae2:∀ t∈lpT,Wn 9 t:=fun t ht=>by
 have n1:Wn 1 tNn:=Cv (by decide)
 have m1:Wn 1 tMm:=Cv (by decide)
 have w0:Wn 1 (tW 0):=wk (by decide) (by decide)
 have w1:Wn 1 (tW 1):=wk (by decide) (by decide)
 simp only[lpT,E1,N2,or_false] at ht;rcases ht with rfl |rfl |rfl |rfl |rfl |rfl
 ·exact(gt (by decide) n1 m1).mono (by decide)
 ·exact(gt (by decide) (gt (by decide) n1 w1) (gt (by decide) m1 w1)).mono (by decide)
 ·exact w0.mono (by decide)
 ·exact n1.mono (by decide)
 ·exact(gt (by decide) w0 m1).mono (by decide)
 ·exact(pk (by decide) m1).mono (by decide)
end Go.Q
end
