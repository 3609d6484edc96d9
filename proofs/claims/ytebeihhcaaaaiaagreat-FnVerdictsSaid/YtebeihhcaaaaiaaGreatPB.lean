/- The functions of this seat, as that machine runs them, part 2. -/
import Derived.Test.YtebeihhcaaaaiaaGreatPA
import Derived.Test.YtebeihhcaaaaiaaGreatMB
import Derived.Test.YtebeihhcaaaaiaaGreatQD
import Derived.Test.YtebeihhcaaaaiaaGreatfwX2
import Derived.Test.YtebeihhcaaaaiaaGreatChecked
set_option linter.unusedVariables false
set_option linter.unusedSimpArgs false
open Bool renaming and_eq_true->B9,not_true->D0,true_and->D9,not_false->G7,false_and->N4,false_eq_true->N6,and_self->O2,and_false->P2,and_eq_false_iff->P5
open Int renaming toNat_natCast->B7,ofNat_lt->C1,natCast_zero->C3,tmod->P0,toNat->P1,eq_ofNat_of_zero_le->Q2
open List renaming length_map->B6,drop_eq_getElem_cons->B8,getElem_mem->C0,length_cons->C2,map_cons->C4,length_nil->C5,drop_length->C6,drop_zero->D2,map_nil->D4,map_append->D6,mem_append->D7,nil_append->D8,mem_cons->E1,append_assoc->E2,all_eq_true->E3,length_append->E6,mem_singleton->F1,cons_append->F2,getElem?_eq_getElem->F6,mem_map->F8,append_nil->G5,all_cons->J2,length_set->K0,all_nil->K8,not_mem_nil->N2,filter_sublist->N8,filter_cons->O7,mem_of_mem_take->P9,length_singleton->Q6,getElem?_eq_none->Q7,length_filterMap_le->S8,filter_nil->T5,findIdx?_nil->V4
open Nat renaming zero_add->D1,lt_irrefl->D3,beq_refl->D5,le_refl->E8,ble_eq_true_of_le->E9,beq->F4,ble->F5,zero_le->G9,le_trans->J0,blt->J7,mul_le_mul->V0
open Option renaming bind_some->B5,some->C9,map_some->K2,isSome_some->O5,map_none->U1
section
namespace Go.Q.S
open Go Go.Q Go.Proofs
theorem b63{n:Nat}(h:n<=4194304):F5 (n+1) M63=true:=nb (by omega)
theorem Vc(l u r t:Tm)(hl:l.nodes<=60)(xr:Int)(xat gs:aa)(nm:ByteArray)(ps:List (List Int))(hps:ps.length<=60)(hpl:∀ p∈ps,p.length<=1048576):∀ n i (acc:List Bnd),i+n=ps.length->acc.length<=i →
 rn ⟨143,0,1⟩ [.int (ps.length:Int),.int (i:Int),.int t.k,.int t.n,.str t.s,.sl (t.as.map Tm.row),.int xr,.sl xat,.int 0,.int 0,.str e0,.str nm,.int l.k,.int l.n,.str l.s,.sl (l.as.map Tm.row),.int r.k,.int r.n,.str r.s,.sl (r.as.map Tm.row),.sl gs,.int u.k,.int u.n,.str u.s,.sl (u.as.map Tm.row),.sl (acc.map Bnd.row),.sl (ps.map qm),.sl []]=some (0,[.int t.k,.int t.n,.str t.s,.sl (t.as.map Tm.row),.int xr,.sl xat,.int 0,.int 0,.str e0,.str nm,.int l.k,.int l.n,.str l.s,.sl (l.as.map Tm.row),.int r.k,.int r.n,.str r.s,.sl (r.as.map Tm.row),.sl gs,.sl ((acc++(ps.drop i).filterMap (cB1 l u)).map Bnd.row),.sl []]):=by
 intro n;induction n with
 |zero =>
  intro i acc hi _;obtain rfl:i=ps.length:=by omega
  rw[e143_0_1];simp only[B6,C1,D3,H4,H2,C6,List.filterMap_nil,G5]
 |succ n ih =>
  intro i acc hi ha;have hlt:i<ps.length:=by omega
  have hp:=hpl _ (C0 hlt);have h1:=atI l ps[i] hp;have h2:=atI u ps[i] hp;have b1:F5 (acc.length+1) M63=true:=b63 (by omega)
  rw[B8 hlt,List.filterMap_cons,e143_0_1];simp only[B6,C1,hlt,H3,H1,aq,B7,ab hlt,ae hlt (ba (by omega)),qm,nv0,nvS,dvI,dvB,dvS,dvL,B5,h1,h2,C2,C5,D1,b1]
  by_cases hk:(atO l ps[i]).k=1
  ·have e:cB1 l u ps[i]=some ((atO l ps[i]).s,atO u ps[i]):=by rw[cB1,H5 hk]
   have h3:=ih (i+1) (acc++[((atO l ps[i]).s,atO u ps[i])]) (by omega) (by simp;omega)
   simp only[D6,C4,D4,gq,E2,F2,D8,qm] at h3;simp only[hk,e,H3,H1,E2,D6,C4,F2,D8,gq];exact h3
  ·have e:cB1 l u ps[i]=none:=by rw[cB1,H6 hk]
   have h3:=ih (i+1) acc (by omega) (by omega)
   simp only[hk,e,H4,H2];exact h3
theorem aj5(d:DfM)(hd:DfG d)(t:Tm)(hw:Wt t)(hn:t.nodes<=60)(i:Nat)(hi:i<d.ru.length)(p:List Int)(hp:p.length<=60)(hat:∃ u,atT t p=some u):rn ⟨143,0,0⟩ [.sl (d.so.map ag),.sl (d.op.map OpM.row),.sl (d.ru.map RuM.row),.sl (d.st.map StM.row),.int t.k,.int t.n,.str t.s,.sl (t.as.map Tm.row),.int (i:Int),.sl (p.map am)]=some (0,[.int (bT d t (some (i,p))).k,.int (bT d t (some (i,p))).n,.str (bT d t (some (i,p))).s,.bool (dc d t (i,p)).valid,.sl ((bT d t (some (i,p))).as.map Tm.row)]):=by
 have hr:=hd.ru (C0 hi);have hln:=az hr.lv;have hrn:=az hr.rv;obtain⟨u,hu⟩:=hat;have hpl:=ql d.ru[i].l [];have hun:=jj t p (by decide) hn
 have hbn:∀ b∈jw d.ru[i].l (atO t p),b.2.nodes<=60:=Ci (P:=fun t=>t.nodes<=60) fun q=>jj (atO t p) q (by decide) hun
 have hbs:∀ b∈jw d.ru[i].l (atO t p),au b.2:=fun b hb=>ak _ (by have:=hbn b hb;omega)
 have hbl:(jw d.ru[i].l (atO t p)).length<=60:=J0 (S8 ..) (by omega)
 have a1:=jh (m:=60) (by decide) hbn d.ru[i].r
 have a2:=gy (aS (jw d.ru[i].l (atO t p)) d.ru[i].r);have a3:=my (rW (aS (jw d.ru[i].l (atO t p)) d.ru[i].r)) p t;have a5:t.nodes*(p.length+1)<=60*61:=V0 hn (by omega)
 have e2:dc d t (i,p)=rW (cu t p (aS (jw d.ru[i].l (atO t p)) d.ru[i].r)):=by
  simp only[dc,F6 hi]
 obtain⟨c1,c2⟩:=Mj hd hw hn (x:=(i,p)) hp;have h1:=atI t p (by omega)
 have h2:=r203 d.ru[i].l (by omega)
 have h3:=Vc d.ru[i].l (atO t p) d.ru[i].r t hln (i:Int) (p.map am) (d.ru[i].g.map Gu.row) d.ru[i].n (gr d.ru[i].l []) (by omega) (fun q hq=>by have:=Jw d.ru[i].l [] q hq;simp at this;omega) _ 0 [] (D1 _) (E8 _)
 rw[hpl] at h3;simp only[D2,D8,C3,D4] at h3;have h4:=r125 _ (by omega) hbs d.ru[i].r (ak _ (by omega))
 have h5:=r124 (aS (jw d.ru[i].l (atO t p)) d.ru[i].r) (ak _ (by omega))
 have h6:=r204 (rW (aS (jw d.ru[i].l (atO t p)) d.ru[i].r)) p t u (by omega) (by omega) hu
 have h7:=r124 (cu t p (rW (aS (jw d.ru[i].l (atO t p)) d.ru[i].r))) (ak _ (by omega))
 rw[Tp,<-e2] at h7;have h8:=r155 (dc d t (i,p)) (by omega) c1
 unfold jw at h4 h5 h6 h7;rw[e143_0_0];simp only[h1,h2,nv0,nvS,dvI,dvB,dvS,dvL,B5,aq,B6,hi,H3,H1,B7,ab hi,RuM.row,hpl,h3,D5,H1,H2,h4,h5,h6,h7,h8];have hb:bT d t (some (i,p))=if (dc d t (i,p)).valid=true then dc d t (i,p) else tm0:=rfl
 rw[hb];cases (dc d t (i,p)).valid<;>rfl
theorem r242(l u:Tm)(hl:l.nodes<=60)(hu:u.nodes<=60):rn ⟨242,0,0⟩ [.int l.k,.int l.n,.str l.s,.sl (l.as.map Tm.row),.int u.k,.int u.n,.str u.s,.sl (u.as.map Tm.row)]=some (0,[.sl ((nu l u (gr l []) []).map Bnd.row)]):=by
 have hpl:=ql l [];have hps:∀ p∈gr l [],p.length<=1048576:=fun q hq=>by have:=Jw l [] q hq;simp at this;omega
 have h2:=r261 l (by omega)
 have hlp:∀ n i (acc:List Bnd),i+n=(gr l []).length->acc.length<=i->(∀ b∈acc,au b.2)->rn ⟨242,0,1⟩ [.int (i:Int),.int l.k,.int l.n,.str l.s,.sl (l.as.map Tm.row),.int u.k,.int u.n,.str u.s,.sl (u.as.map Tm.row),.sl (acc.map Bnd.row),.sl ((gr l []).map qm)]=some (0,[.sl ((nu l u ((gr l []).drop i) acc).map Bnd.row)]):=by
  generalize gr l []=ps at hpl hps ⊢;intro n;induction n with
  |zero =>
   intro i acc hi _ _;obtain rfl:i=ps.length:=by omega
   rw[e242_0_1];simp only[B6,C1,D3,H4,H2,C6,nu]
  |succ n ih =>
   intro i acc hi ha hs;have hlt:i<ps.length:=by omega
   have hp:=hps _ (C0 hlt);have h1:=atS l (by omega) ps[i] hp
   have h2:=atS u (by omega) ps[i] hp
   have b1:F5 (acc.length+1) M63=true:=b63 (by omega)
   have hun:=jj u ps[i] (by decide) hu
   rw[B8 hlt,e242_0_1];simp only[nu,B6,C1,hlt,H3,H1,aq,B7,ab hlt,ae hlt (ba (by omega)),qm,nv0,nvS,dvI,dvB,dvS,dvL,B5,h1,h2,C2,C5,D1,b1]
   have h4:=ih (i+1) acc (by omega) (by omega) hs
   by_cases hk:(atO l ps[i]).k=1
   ·have h3:=ih (i+1) (acc++[((atO l ps[i]).s,atO u ps[i])]) (by omega) (by simp;omega) (fun b hb=>by
     rcases D7.1 hb with hb |hb
     ·exact hs b hb
     ·simp only[F1] at hb;subst hb;exact ak _ (show(atO u ps[i]).nodes<=1048577 by omega))
    simp only[D6,C4,D4,gq,qm] at h3 h4;simp only[hk,H3,H1,gq];rcases r177 acc (by omega) (atO l ps[i]).s with ⟨e,h5⟩|⟨j,hj,e,h5⟩
    ·simp only[h5,nv0,nvS,dvI,dvB,dvS,dvL,B5,e,show decide ((-1:Int)<0)=true from rfl,H1,and_self,if_true]
     exact h3
    ·have q:¬((j:Int)<0):=by omega
     simp only[h5,nv0,nvS,dvI,dvB,dvS,dvL,B5,e,q,H4,H2,reduceCtorEq,and_false,if_false];exact h4
   ·simp only[hk,H4,H2,false_and,if_false]
    exact h4
 have h3:=hlp _ 0 [] (D1 _) (E8 _) (by simp)
 simp only[D2,C3,D4] at h3;rw[e242_0_0];simp only[h2,nv0,nvS,dvI,dvB,dvS,dvL,B5,h3,D5,H1,H2]
theorem r205(d:DfM)(hd:DfG d)(v cs:aa)(t:Tm)(hw:Wt t)(hn:t.nodes<=60)(i:Nat)(hi:i<d.ru.length)(p:List Int)(hp:p.length<=60)(hat:∃ u,atT t p=some u):rn ⟨205,0,0⟩ [.sl (d.so.map ag),.sl (d.op.map OpM.row),.sl (d.ru.map RuM.row),.sl (d.st.map StM.row),.sl v,.int t.k,.int t.n,.str t.s,.sl (t.as.map Tm.row),.sl cs,.int (i:Int),.sl (p.map am)]=some (0,[.int (dc d t (i,p)).k,.int (dc d t (i,p)).n,.str (dc d t (i,p)).s,.sl ((dc d t (i,p)).as.map Tm.row)]):=by
 have hr:=hd.ru (C0 hi);have hln:=az hr.lv;have hrn:=az hr.rv;obtain⟨u,hu⟩:=hat;have hpl:=ql d.ru[i].l [];have hun:=jj t p (by decide) hn
 have hbn:∀ b∈nu d.ru[i].l (atO t p) (gr d.ru[i].l []) [],b.2.nodes<=60:=Jy (P:=fun t=>t.nodes<=60) (fun q=>jj (atO t p) q (by decide) hun) _ [] (by simp)
 have hbs:∀ b∈nu d.ru[i].l (atO t p) (gr d.ru[i].l []) [],au b.2:=fun b hb=>ak _ (by have:=hbn b hb;omega)
 have hbl:=Jz d.ru[i].l (atO t p) (gr d.ru[i].l []) [];have a1:=jh (m:=60) (by decide) hbn d.ru[i].r
 have a3:=my (aS (nu d.ru[i].l (atO t p) (gr d.ru[i].l []) []) d.ru[i].r) p t;have a5:t.nodes*(p.length+1)<=60*61:=V0 hn (by omega)
 have e2:dc d t (i,p)=rW (cu t p (aS (nu d.ru[i].l (atO t p) (gr d.ru[i].l []) []) d.ru[i].r)):=by
  simp only[dc,F6 hi,Ym]
 have h1:=atS t (by omega) p (by omega)
 have h2:=r242 d.ru[i].l (atO t p) hln hun;have h4:=r70 _ (by simp at hbl;omega) hbs d.ru[i].r (ak _ (by omega))
 have h6:=r176 (aS (nu d.ru[i].l (atO t p) (gr d.ru[i].l []) []) d.ru[i].r) (by omega) p t u (by omega) (by omega) hu
 have h7:=r69 (cu t p (aS (nu d.ru[i].l (atO t p) (gr d.ru[i].l []) []) d.ru[i].r)) (ak _ (by omega))
 rw[<-e2] at h7;rw[e205_0_0];simp only[h1,nv0,nvS,dvI,dvB,dvS,dvL,B5,aq,B6,hi,H3,H1,B7,ab hi,RuM.row,h2,h4,h6,h7]
theorem r149(d:DfM)(hd:DfG d)(v:List ByteArray)(hv:v.length<=1048576)(cs:aa)(t:Tm)(hw:Wt t)(hn:t.nodes<=60)(x:Bk)(hx:BkG d t x):rn ⟨149,0,0⟩ [.sl (d.so.map ag),.sl (d.op.map OpM.row),.sl (d.ru.map RuM.row),.sl (d.st.map StM.row),.sl (v.map ag),.int t.k,.int t.n,.str t.s,.sl (t.as.map Tm.row),.sl cs,.int (bR x),.bool x.isSome,.sl ((bP x).map am)]=some (0,[.int (bK d t x),.int (bR x),.int (bT d t x).k,.int (bT d t x).n,.str (bT d t x).s,.sl ((bP x).map am),.sl (v.map ag),.sl ((bT d t x).as.map Tm.row),.sl []]):=by
 have b1:F5 v.length M63=true:=by simpa using nb (n:=v.length) (m:=0) (by omega)
 have h1:=r65 t (ak t (by omega))
 rw[e149_0_0];simp only[C5,D1,B6,b1,H1,h1,nv0,nvS,dvI,dvB,dvS,dvL,B5,D8];cases x with
 |none=>rfl
 |some y =>
  obtain⟨y1,y2,y3⟩:=hx.i y rfl;have h2:=r205 d hd (v.map ag) cs t hw hn y.1 y1 y.2 y2 y3;obtain⟨c1,c2⟩:=Mj hd hw hn (x:=y) y2;have h3:=r100 (dc d t y) (by omega) c1
  simp only[bR,bP,O5,D0,H2,h2,nv0,nvS,dvI,dvB,dvS,dvL,B5,h3];have hb:bT d t (some y)=if (dc d t y).valid=true then dc d t y else tm0:=rfl
  have hk:bK d t (some y)=if (dc d t y).valid=true then 2 else 3:=rfl
  rw[hb,hk];cases (dc d t y).valid<;>rfl
theorem Fd(out:List (Bk×List Int))(x:Bk):Dh out x=match (out.drop 0).findIdx? (fun b=>decide (b.1=x)) with |some i=>((0+i:Nat):Int) |none=>-1:=by
 unfold Dh Cj;rw[D2];cases out.findIdx? fun b=>decide (b.1=x) with
 |none=>rfl
 |some i=>simp
theorem ai0(d:DfM)(v:List ByteArray)(t:Tm)(out:List (Bk×List Int))(ho:out.length<=1048576)(hp:∀ b∈out,(bP b.1).length<=1048576)(x:Bk):∃ w1 w2 w3,rn ⟨140,0,0⟩ [.sl (out.map (bj d v t)),.bool x.isSome,.int (bR x),.sl ((bP x).map am)]=some (0,[.int (Dh out x),.bool w1,.int w2,.sl w3])/\w1=x.isSome/\w2=bR x/\w3=(bP x).map am:=by
 have hlp:∀ n i,i+n=out.length->rn ⟨140,0,1⟩ [.sl (out.map (bj d v t)),.int (out.length:Int),.int (i:Int),.bool x.isSome,.int (bR x),.sl ((bP x).map am)]=match (out.drop i).findIdx? (fun b=>decide (b.1=x)) with
  |some j=>some (1,[.int ((i+j:Nat):Int),.bool x.isSome,.int (bR x),.sl ((bP x).map am)])
  |none=>some (0,[.bool x.isSome,.int (bR x),.sl ((bP x).map am)]):=by
  intro n;induction n with
  |zero =>
   intro i hi;obtain rfl:i=out.length:=by omega
   rw[e140_0_1];simp only[B6,C1,D3,H4,H2,C6,V4]
  |succ n ih =>
   intro i hi;have hlt:i<out.length:=by omega
   have h2:=r142 (bR out[i].1) (bR x) (bP out[i].1) (bP x) (hp _ (C0 hlt));have h1:rn ⟨141,0,0⟩ [.int (bK d t out[i].1),.int (bR out[i].1),.sl ((bP out[i].1).map am),.sl (v.map ag),.int (bT d t out[i].1).k,.int (bT d t out[i].1).n,.str (bT d t out[i].1).s,.sl ((bT d t out[i].1).as.map Tm.row),.sl (out[i].2.map am),.bool x.isSome,.int (bR x),.sl ((bP x).map am)]=some (0,[.bool (decide (out[i].1=x)),.bool x.isSome,.int (bR x),.sl ((bP x).map am)]):=by
    rw[e141_0_0,<-aa4 d t];simp only[h2,nv0,nvS,dvI,dvB,dvS,dvL,B5];cases (decide (bK d t out[i].1=1)==!x.isSome)<;>rfl
   rw[Ew _ _ hlt,e140_0_1];simp only[B6,C1,hlt,H3,H1,aq,B7,ab hlt,ae hlt (ba (by omega)),bj,nv0,nvS,dvI,dvB,dvS,dvL,B5,h1]
   have h3:=ih (i+1) (by omega)
   cases decide (out[i].1=x) with
   |true=>rfl
   |false =>
    simp only[H2,N6,if_false,h3];cases (out.drop (i+1)).findIdx? (fun b=>decide (b.1=x)) with
    |none=>rfl
    |some j=>simp only[K2,show i+1+j=i+(j+1) by omega]
 have h1:=hlp out.length 0 (D1 _);rw[C3] at h1;rw[e140_0_0,Fd];simp only[B6,h1];cases (out.drop 0).findIdx? (fun b=>decide (b.1=x)) with
 |none=>exact⟨_,_,_,rfl,rfl,rfl,rfl⟩
 |some j=>exact⟨_,_,_,rfl,rfl,rfl,rfl⟩
theorem r148(d:DfM)(v:List ByteArray)(t:Tm)(out:List (Bk×List Int))(ho:out.length<=1048576)(hp:∀ b∈out,(bP b.1).length<=1048576)(x:Bk):rn ⟨148,0,0⟩ [.sl (out.map (bj d v t)),.int (bR x),.sl ((bP x).map am),.bool x.isSome]=some (0,[.int (Dh out x)]):=by
 have hlp:∀ n i,i+n=out.length->rn ⟨148,0,1⟩ [.sl (out.map (bj d v t)),.bool x.isSome,.int (i:Int),.int (bR x),.sl ((bP x).map am)]=match (out.drop i).findIdx? (fun b=>decide (b.1=x)) with
  |some j=>some (1,[.int ((i+j:Nat):Int)])
  |none=>some (0,[]):=by
  intro n;induction n with
  |zero =>
   intro i hi;obtain rfl:i=out.length:=by omega
   rw[e148_0_1];simp only[B6,C1,D3,H4,H2,C6,V4]
  |succ n ih =>
   intro i hi;have hlt:i<out.length:=by omega
   have h2:=r55 (bP out[i].1) (bP x) (hp _ (C0 hlt));have h3:=ih (i+1) (by omega)
   have hno:∀ y,x=some y->¬ bK d t (some y)=1:=fun y _=>by
    show ¬(if (dc d t y).valid=true then (2:Int) else 3)=1
    by_cases q:(dc d t y).valid=true<;>simp[q]
   have h4:(match (match (out.drop (i+1)).findIdx? (fun b=>decide (b.1=x)) with |some j=>some (j+1) |none=>none) with |some j=>some (1,[D.int ((i+j:Nat):Int)]) |none=>some (0,[]))=rn ⟨148,0,1⟩ [.sl (out.map (bj d v t)),.bool x.isSome,.int ((i+1:Nat):Int),.int (bR x),.sl ((bP x).map am)]:=by
    rw[ih (i+1) (by omega)]
    cases (out.drop (i+1)).findIdx? (fun b=>decide (b.1=x)) with
    |none=>rfl
    |some j=>simp only[show i+1+j=i+(j+1) by omega]
   have h5:(bif !(x.isSome==decide (bK d t out[i].1=1)) then bif !x.isSome then some (1,[D.int (i:Int)]) else bif decide (bR out[i].1=bR x) then bif decide (bP out[i].1=bP x) then some (1,[.int (i:Int)]) else rn ⟨148,0,1⟩ [.sl (out.map (bj d v t)),.bool x.isSome,.int ((i+1:Nat):Int),.int (bR x),.sl ((bP x).map am)] else rn ⟨148,0,1⟩ [.sl (out.map (bj d v t)),.bool x.isSome,.int ((i+1:Nat):Int),.int (bR x),.sl ((bP x).map am)] else rn ⟨148,0,1⟩ [.sl (out.map (bj d v t)),.bool x.isSome,.int ((i+1:Nat):Int),.int (bR x),.sl ((bP x).map am)])=match (if decide (out[i].1=x)=true then some 0 else ((out.drop (i+1)).findIdx? (fun b=>decide (b.1=x))).map (·+1)) with
    |some j=>some (1,[.int ((i+j:Nat):Int)])
    |none=>some (0,[]):=by
    rw[<-aa4 d t out[i].1 x];rw[<-h4];generalize (out.drop (i+1)).findIdx? (fun b=>decide (b.1=x))=F
    generalize hg:out[i].1=y;cases x with
    |none =>
     cases y with
     |none=>simp[bK,bR,bP]
     |some z =>
      have:¬ bK d t (some z)=1:=by
       show ¬(if (dc d t z).valid=true then (2:Int) else 3)=1
       by_cases q:(dc d t z).valid=true<;>simp[q]
      simp only[this,H4,Option.isSome_none];cases F<;>rfl
    |some w =>
     cases y with
     |none=>cases F<;>simp[bK]
     |some z =>
      have:¬ bK d t (some z)=1:=by
       show ¬(if (dc d t z).valid=true then (2:Int) else 3)=1
       by_cases q:(dc d t z).valid=true<;>simp[q]
      simp only[this,H4,O5];cases decide (bR (some z)=bR (some w))<;>cases decide (bP (some z)=bP (some w))<;>cases F<;>rfl
   rw[Ew _ _ hlt,<-h5,e148_0_1];simp only[B6,C1,hlt,H3,H1,aq,B7,ab hlt,ae hlt (ba (by omega)),bj,nv0,nvS,dvI,dvB,dvS,dvL,B5,h2]
 have h1:=hlp out.length 0 (D1 _);rw[C3] at h1;rw[e148_0_0,Fd];simp only[h1];cases (out.drop 0).findIdx? (fun b=>decide (b.1=x))<;>rfl
theorem Zk(d:DfM)(hb:DfB d)(v:List ByteArray)(hv:v.length<=1048576)(t:Tm)(hw:Wt t)(cs:List Int)(hcl:cs.length<=1048576)(hs:jq d v t=true)(hcs:∀ c∈cs,isC v.length c=true):∀ n i (out:List (Bk×List Int)),i+n=cs.length->BrB i out->(∀ b∈out,BkG d t b.1) →
 rn ⟨83,0,1⟩ [.sl (cs.map am),.int (cs.length:Int),.int (i:Int),.sl (d.so.map ag),.sl (d.op.map OpM.row),.sl (d.ru.map RuM.row),.sl (d.st.map StM.row),.sl (v.map ag),.int t.k,.int t.n,.str t.s,.sl (t.as.map Tm.row),.sl (cs.map am),.sl (out.map (bj d v t))]=some (0,[.sl ((brF d v t (cs.drop i) out).map (bj d v t))]):=by
 intro n;induction n with
 |zero =>
  intro i out hi _ _;obtain rfl:i=cs.length:=by omega
  rw[e83_0_1];simp only[B6,C1,D3,H4,H2,C6,brF]
 |succ n ih =>
  intro i out hi ho hk;have hlt:i<cs.length:=by omega
  have hc:=hcs _ (C0 hlt);obtain⟨hd,htn,hg,hgn,hx⟩:=xy hb hw hs hc;have hol:=ho.l;have hpl:∀ b∈out,(bP b.1).length<=1048576:=fun b hb'=>by
   have h1:=(hk b hb').i;cases hq:b.1 with
   |none=>exact G9 _
   |some y=>have:=(h1 y hq).2.1;show y.2.length<=_;omega
  have h1:=r77 v t (ak t (by omega)) (cs.map am) cs[i]
  rw[lx hc] at h1;have h2:=r139 d hd (bw v t cs[i]) hg hgn [] (by simp;omega)
  rw[ac9,D4] at h2;obtain⟨w1,w2,w3,h3,rfl,rfl,rfl⟩:=ai0 d v t out (by omega) hpl (nx d (bw v t cs[i]))
  have h4:=r75 (v.map ag) (cs.map am) [[.int cs[i]]] t (ak t (by omega)) (by rw[B6];omega) (by simp)
  have hob:=Mi ho (nx d (bw v t cs[i])) cs[i];have hkb:∀ b∈ph out (nx d (bw v t cs[i])) cs[i],BkG d t b.1:=Mm hk hx;rw[B8 hlt,e83_0_1];simp only[brF,B6,C1,hlt,H3,H1,aq,B7,ab hlt,ae hlt (ba (by omega)),am,nv0,nvS,dvI,dvB,dvS,dvL,B5,h1,h2,h3]
  have h5:=ih (i+1) _ (by omega) hob hkb
  generalize nx d (bw v t cs[i])=x at hx h3 h5 ⊢;generalize hc0:cs[i]=c at h4 h5 ⊢;cases hf:Cj out x with
  |some j =>
   obtain⟨hj,hjx⟩:=Ab hf;have e8:(nth (rowAt (out.map (bj d v t)) j) 8).L=out[j].2.map am:=by rw[ab hj];rfl
   have hset:=Mk (d:=d) (v:=v) (t:=t) hj (out[j].2.map am++[[.int c]]) (out[j].2++[c]) (by simp[am])
   have hlen:=Ml (d:=d) (v:=v) (t:=t) hj;have b1:F5 (out[j].2.length+1) M63=true:=b63 (by have:=ho.c _ (C0 hj);omega)
   have b2:J7 j out.length=true:=E9 hj;have b3:decide ((0:Int)<=(j:Int))=true:=by simp
   rw[re hf hj] at h5 ⊢;simp only[Dh,hf,b3,H1,aq,hlen,B6,hj,H3,B7,b2,e8,C2,C5,D1,b1,D5,O2,hset,h5]
  |none =>
   have b1:F5 (out.length+1) M63=true:=b63 (by omega)
   rw[rf hf] at h5 ⊢;simp only[D6,C4,D4] at h5 ⊢;simp only[Dh,hf,show decide ((0:Int)<=-1)=false from rfl,H2,h4,nv0,nvS,dvI,dvB,dvS,dvL,B5,C2,C5,D1,b1,B6]
   cases x with
   |none=>exact h5
   |some y =>
    obtain⟨y1,y2,y3⟩:=hx.i y rfl;have h6:=aj5 d hd t hw htn y.1 y1 y.2 y2 y3;simp only[bR,bP,O5,H1,h6,nv0,nvS,dvI,dvB,dvS,dvL,B5];have hk1:bK d t (some y)=if (dc d t y).valid=true then 2 else 3:=rfl
    cases hvv:(dc d t (y.1,y.2)).valid with
    |true =>
     have hk2:bK d t (some y)=2:=by rw[hk1,H5 hvv]
     simp only[bj,hk2] at h5;exact h5
    |false =>
     have hk2:bK d t (some y)=3:=by rw[hk1,H6 (by show ¬(dc d t (y.1,y.2)).valid=true;rw[hvv];simp)]
     simp only[bj,hk2] at h5;exact h5
theorem r83(s:SyM)(hs:SyB s)(h:Cg s.d s.v s.t s.c=true):rn ⟨83,0,0⟩ s.row=some (0,[.sl ((brL s).map (bj s.d s.v s.t))]):=by
 have h':=h;simp only[Cg,B9] at h';have h1:=Zk s.d hs.d s.v hs.v s.t hs.w s.c hs.c h'.1 (ce s.c none h'.2) s.c.length 0 [] (D1 _) ⟨E8 _,by simp⟩ (by simp)
 simp only[C3,D4,D2] at h1;unfold SyM.row brL;rw[e83_0_0,H5 h];simp only[B6,h1,nv0,nvS,dvI,dvB,dvS,dvL,B5,D5,H1,H2]
theorem Zl(s:SyM)(hs:SyB s)(h:Cg s.d s.v s.t s.c=true):∀ n i (out:List (Bk×List Int)),i+n=s.c.length->BrB i out->(∀ b∈out,BkG s.d s.t b.1) →
 rn ⟨87,0,1⟩ [.int (i:Int),.sl (s.d.so.map ag),.sl (s.d.op.map OpM.row),.sl (s.d.ru.map RuM.row),.sl (s.d.st.map StM.row),.sl (s.v.map ag),.int s.t.k,.int s.t.n,.str s.t.s,.sl (s.t.as.map Tm.row),.sl (s.c.map am),.sl (out.map (bj s.d s.v s.t))]=some (0,[.sl ((brF s.d s.v s.t (s.c.drop i) out).map (bj s.d s.v s.t))]):=by
 have h0:=ah9 s.d hs.d s.v hs.v hs.vs s.t hs.w hs.n s.c hs.c;have h':=h;simp only[Cg,B9] at h';have hcs:=ce s.c none h'.2;have hb:=hs.d;have hv:=hs.v;have hw:=hs.w;have hcl:=hs.c;have hsy:=h'.1;obtain⟨d,v,t,cs⟩:=s;simp only at h h0 hcs hb hv hw hcl hsy ⊢;intro n;induction n with
 |zero =>
  intro i out hi _ _;obtain rfl:i=cs.length:=by omega
  rw[e87_0_1];simp only[B6,C1,D3,H4,H2,C6,brF]
 |succ n ih =>
  intro i out hi ho hk;have hlt:i<cs.length:=by omega
  have hc:=hcs _ (C0 hlt);obtain⟨hd,htn,hg,hgn,hx⟩:=xy hb hw hsy hc;have hol:=ho.l;have hpl:∀ b∈out,(bP b.1).length<=1048576:=fun b hb'=>by
   have h1:=(hk b hb').i;cases hq:b.1 with
   |none=>exact G9 _
   |some y=>have:=(h1 y hq).2.1;show y.2.length<=_;omega
  have h1:=r39 v t (ak t (by omega)) cs[i]
  have h2:=r109 d hd (bw v t cs[i]) hg hgn;rw[ad0] at h2;have h3:=r148 d v t out (by omega) hpl (nx d (bw v t cs[i]))
  have h4:=r149 d hd v hv (cs.map am) t hw htn (nx d (bw v t cs[i])) hx;have hob:=Mi ho (nx d (bw v t cs[i])) cs[i];have hkb:∀ b∈ph out (nx d (bw v t cs[i])) cs[i],BkG d t b.1:=Mm hk hx;have h5:=ih (i+1) _ (by omega) hob hkb
  rw[B8 hlt,e87_0_1];simp only[brF,B6,C1,hlt,H3,H1,aq,B7,ab hlt,ae hlt (ba (by omega)),h0,h,am,nv0,nvS,dvI,dvB,dvS,dvL,B5,h1,h2,h3,h4]
  generalize nx d (bw v t cs[i])=x at hx h5 ⊢;generalize hc0:cs[i]=c at h5 ⊢;cases hf:Cj out x with
  |some j =>
   obtain⟨hj,hjx⟩:=Ab hf;have e8:(nth (rowAt (out.map (bj d v t)) j) 8).L=out[j].2.map am:=by rw[ab hj];rfl
   have hset:=Mk (d:=d) (v:=v) (t:=t) hj (out[j].2.map am++[[.int c]]) (out[j].2++[c]) (by simp[am])
   have hlen:=Ml (d:=d) (v:=v) (t:=t) hj;have b1:F5 (out[j].2.length+1) M63=true:=b63 (by have:=ho.c _ (C0 hj);omega)
   have b2:J7 j out.length=true:=E9 hj;have b3:¬((j:Int)<0):=by omega
   rw[re hf hj] at h5 ⊢;simp only[Dh,hf,b3,H4,H2,H1,aq,hlen,B6,hj,H3,B7,b2,e8,C2,C5,D1,b1,D5,O2,hset,h5]
  |none =>
   have b1:F5 (out.length+1) M63=true:=b63 (by omega)
   have hj:out.length<(out++[(x,([]:List Int))]).length:=by simp
   have hr:out.map (bj d v t)++[[.int (bK d t x),.int (bR x),.sl ((bP x).map am),.sl (v.map ag),.int (bT d t x).k,.int (bT d t x).n,.str (bT d t x).s,.sl ((bT d t x).as.map Tm.row),.sl []]]=(out++[(x,([]:List Int))]).map (bj d v t):=by rw[D6];rfl
   have e0:(out++[(x,([]:List Int))])[out.length]=(x,[]):=by simp
   have e8:(nth (rowAt ((out++[(x,([]:List Int))]).map (bj d v t)) out.length) 8).L=[]:=by rw[ab hj,e0];rfl
   have hset:=Mk (d:=d) (v:=v) (t:=t) hj [[.int c]] [c] rfl;rw[e0,Tq] at hset;have hlen:=Ml (d:=d) (v:=v) (t:=t) hj;have b2:J7 out.length (out.length+1)=true:=E9 (E8 _);have b4:out.length<out.length+1:=Nat.lt_succ_self _;have b5:F5 1 M63=true:=rfl;rw[rf hf] at h5 ⊢;simp only[Dh,hf,show decide ((-1:Int)<0)=true from rfl,H1,hr,aq,hlen,B6,E6,C2,C5,D1,B7,b1,b2,b4,b5,H3,e8,D8,D5,O2,hset,h5]
theorem r87(s:SyM)(hs:SyB s):rn ⟨87,0,0⟩ s.row=some (0,[.sl ((brL s).map (bj s.d s.v s.t))]):=by
 cases h:Cg s.d s.v s.t s.c with
 |true =>
  have h1:=Zl s hs h s.c.length 0 [] (D1 _) ⟨E8 _,by simp⟩ (by simp)
  simp only[C3,D4,D2] at h1;unfold SyM.row brL;rw[e87_0_0,H5 h];simp only[h1,nv0,nvS,dvI,dvB,dvS,dvL,B5,D5,H1,H2]
 |false =>
  have h0:=ah9 s.d hs.d s.v hs.v hs.vs s.t hs.w hs.n s.c hs.c;have h1:rn ⟨87,0,1⟩ [.int 0,.sl (s.d.so.map ag),.sl (s.d.op.map OpM.row),.sl (s.d.ru.map RuM.row),.sl (s.d.st.map StM.row),.sl (s.v.map ag),.int (s.t).k,.int (s.t).n,.str (s.t).s,.sl ((s.t).as.map Tm.row),.sl (s.c.map am),.sl []]=some (0,[.sl []]):=by
   rw[e87_0_1];simp only[h0,h,nv0,nvS,dvI,dvB,dvS,dvL,B5,H2];cases decide ((0:Int)<((s.c.map am).length:Nat))<;>rfl
  unfold SyM.row brL;rw[e87_0_0,h];simp only[h1,nv0,nvS,dvI,dvB,dvS,dvL,B5,D5,H1,H2];rfl
theorem opI(g:ClM)(hb:ClB g)(t:Tm)(ht:au t)(cl:List Int)(hcl:cl.length<=1048576)(hc:∀ k∈cl,isC g.v.length k=true):rn ⟨82,0,0⟩ [.sl (g.v.map ag),.int (g.l).k,.int (g.l).n,.str (g.l).s,.sl ((g.l).as.map Tm.row),.int (g.r).k,.int (g.r).n,.str (g.r).s,.sl ((g.r).as.map Tm.row),.sl (g.g.map Gu.row),.sl (g.v.map ag),.int t.k,.int t.n,.str t.s,.sl (t.as.map Tm.row),.sl (cl.map am)]=some (0,[.sl ((opC g t cl).map am)]):=by
 have hrn:=hb.rn;have hlp:∀ n i (acc:List Int),i+n=cl.length->acc.length<=i->rn ⟨82,0,1⟩ [.sl (cl.map am),.int (cl.length:Int),.int (i:Int),.sl (g.v.map ag),.int (g.l).k,.int (g.l).n,.str (g.l).s,.sl ((g.l).as.map Tm.row),.int (g.r).k,.int (g.r).n,.str (g.r).s,.sl ((g.r).as.map Tm.row),.sl (g.g.map Gu.row),.sl (g.v.map ag),.int t.k,.int t.n,.str t.s,.sl (t.as.map Tm.row),.sl (cl.map am),.sl (acc.map am)]=some (0,[.sl ((acc++opC g t (cl.drop i)).map am)]):=by
  intro n;induction n with
  |zero =>
   intro i acc hi _;obtain rfl:i=cl.length:=by omega
   rw[e82_0_1];simp only[B6,C1,D3,H4,H2,C6,opC,T5,G5]
  |succ n ih =>
   intro i acc hi ha;have hlt:i<cl.length:=by omega
   have hk:=hc _ (C0 hlt);have h1:=r77 g.v t ht (cl.map am) cl[i];rw[hk] at h1;have h2:=r80 g.v g.l g.r (ak _ hrn) (g.g.map Gu.row) cl[i];have h3:=r129 (S.instR g.v t cl[i]) (S.instR g.v g.r cl[i]) (S.instR_small ht cl[i]);have b1:F5 (acc.length+1) M63=true:=nb (by omega)
   have i1:=ih (i+1) acc (by omega) (by omega)
   have i2:=ih (i+1) (acc++[cl[i]]) (by omega) (by simp;omega)
   simp only[D6,C4,D4,E2,F2,D8] at i2;unfold opC at i1 i2 ⊢;rw[B8 hlt,O7,e82_0_1];simp only[B6,C1,hlt,H3,H1,aq,B7,ab hlt,ae hlt (ba (by omega)),am,nv0,nvS,dvI,dvB,dvS,dvL,B5,h1,h2,h3,D0,H2,C2,C5,D1,b1]
   cases eqb (S.instR g.v t cl[i]).row (S.instR g.v g.r cl[i]).row with
   |true=>exact i1
   |false =>
    simp only[G7,H1,if_true,D6,C4];exact i2
 have h1:=hlp cl.length 0 [] (D1 _) (E8 _);simp only[C3,D2,D4,D8] at h1;rw[e82_0_0];simp only[B6,h1,nv0,nvS,dvI,dvB,dvS,dvL,B5,D5,H1,H2]
theorem opS(g:ClM)(hb:ClB g)(t:Tm)(ht:au t)(cl:List Int)(hcl:cl.length<=1048576)(hc:∀ k∈cl,isC g.v.length k=true):rn ⟨146,0,0⟩ [.sl (g.v.map ag),.int (g.l).k,.int (g.l).n,.str (g.l).s,.sl ((g.l).as.map Tm.row),.int (g.r).k,.int (g.r).n,.str (g.r).s,.sl ((g.r).as.map Tm.row),.sl (g.g.map Gu.row),.sl (g.v.map ag),.int t.k,.int t.n,.str t.s,.sl (t.as.map Tm.row),.sl (cl.map am)]=some (0,[.sl ((opC g t cl).map am)]):=by
 have hrn:=hb.rn;have hlp:∀ n i (acc:List Int),i+n=cl.length->acc.length<=i->rn ⟨146,0,1⟩ [.int (i:Int),.sl (g.v.map ag),.int (g.l).k,.int (g.l).n,.str (g.l).s,.sl ((g.l).as.map Tm.row),.int (g.r).k,.int (g.r).n,.str (g.r).s,.sl ((g.r).as.map Tm.row),.sl (g.g.map Gu.row),.sl (g.v.map ag),.int t.k,.int t.n,.str t.s,.sl (t.as.map Tm.row),.sl (cl.map am),.sl (acc.map am)]=some (0,[.sl ((acc++opC g t (cl.drop i)).map am)]):=by
  intro n;induction n with
  |zero =>
   intro i acc hi _;obtain rfl:i=cl.length:=by omega
   rw[e146_0_1];simp only[B6,C1,D3,H4,H2,C6,opC,T5,G5]
  |succ n ih =>
   intro i acc hi ha;have hlt:i<cl.length:=by omega
   have hk:=hc _ (C0 hlt);have h1:=r72 g.v t ht (cl.map am) cl[i];rw[hk] at h1;have h2:=r40 g.v g.l g.r (ak _ hrn) (g.g.map Gu.row) cl[i];have h3:=r68 (S.instR g.v t cl[i]) (S.instR g.v g.r cl[i]) (S.instR_small ht cl[i]);have b1:F5 (acc.length+1) M63=true:=nb (by omega)
   have i1:=ih (i+1) acc (by omega) (by omega)
   have i2:=ih (i+1) (acc++[cl[i]]) (by omega) (by simp;omega)
   simp only[D6,C4,D4,E2,F2,D8] at i2;unfold opC at i1 i2 ⊢;rw[B8 hlt,O7,e146_0_1];simp only[B6,C1,hlt,H3,H1,aq,B7,ab hlt,ae hlt (ba (by omega)),am,nv0,nvS,dvI,dvB,dvS,dvL,B5,h1,h2,h3,D0,H2,C2,C5,D1,b1]
   cases eqb (S.instR g.v t cl[i]).row (S.instR g.v g.r cl[i]).row with
   |true=>exact i1
   |false =>
    simp only[G7,H1,if_true,D6,C4];exact i2
 have h1:=hlp cl.length 0 [] (D1 _) (E8 _);simp only[C3,D2,D4,D8] at h1;rw[e146_0_0];simp only[h1,nv0,nvS,dvI,dvB,dvS,dvL,B5,D5,H1,H2]
theorem mpI(vars:List ByteArray)(c:Int)(target:List ByteArray)(l:List Bnd)(hl:l.length<=1048576)(hs:∀ b∈l,au b.2):rn ⟨144,0,0⟩ [.sl (vars.map ag),.int c,.sl (target.map ag),.sl (l.map Bnd.row)]=some (0,[.int (gc vars c target l).1,.bool (gc vars c target l).2]):=by
 have hi:=r123 vars.length c;rw[<-Ej,e144_0_0];simp only[B6,hi,nv0,nvS,dvI,dvB,dvS,dvL,B5];cases hC:isC vars.length c with
 |false=>simp
 |true =>
  simp only[D0,H2];by_cases h3:target.length<=3
  case neg =>
   rw[H6 (fun h=>h3 h.2),H7 (by omega:(3:Int)<(target.length:Int))];rfl
  rw[H5 ⟨trivial,h3⟩,H8 (by omega:¬(3:Int)<(target.length:Int))]
  simp only[H2];have hf:=Ei (F:=fun i s=>rn ⟨144,0,1⟩ [.sl (vars.map ag),.int c,.sl (l.map Bnd.row),.int s,.sl (target.map ag),.int (target.length:Int),.int (i:Int)]) (xs:=target) (gk vars c l) (A:=fun s=>some (0,[.int s])) (B:=some (1,[.int 0])) (fun i hi s=>?_) (fun s=>?_) 0
  ·simp only[C3] at hf
   rw[hf];cases mv (gk vars c l) target 0<;>rfl
  ·have hb:=r184 l hl target[i]
   rw[e144_0_1];simp only[B6,C1,hi,H3,H1,aq,B7,ab hi,ae hi (ba (by omega)),ag,nv0,nvS,dvI,dvB,dvS,dvL,B5]
   rw[hb];unfold gk;cases hq:bnd l target[i] with
   |none=>rfl
   |some t =>
    obtain⟨b,hbm,rfl⟩:=eh hq;have h1:=r122 vars c;have h2:=r125 (bn vars c) (nc vars c) (fh vars c) b.2 (hs b hbm);have h3:=r124 (aS (bn vars c) b.2) (mu (fh vars c) b.2 (hs b hbm));have h4:=r182 (rW (aS (bn vars c) b.2));simp only[h1,h2,h3,h4,nv0,nvS,dvI,dvB,dvS,dvL,B5,D0,H2];unfold bw;cases isW (rW (aS (bn vars c) b.2))<;>rfl
  ·rw[e144_0_1]
   simp
theorem mpS(vars:List ByteArray)(c:Int)(target:List ByteArray)(l:List Bnd)(hl:l.length<=1048576)(hs:∀ b∈l,au b.2):rn ⟨147,0,0⟩ [.sl (vars.map ag),.int c,.sl (target.map ag),.sl (l.map Bnd.row)]=some (0,[.int (gc vars c target l).1,.bool (gc vars c target l).2]):=by
 have hi:=r103 vars.length;have hj:=rIn c 0 (IntKind.i64.wrap (gx vars.length-1));rw[Zf] at hj;rw[<-Ej,e147_0_0];simp only[B6,hi,hj,nv0,nvS,dvI,dvB,dvS,dvL,B5];cases hC:isC vars.length c with
 |false=>simp
 |true =>
  simp only[D0,H2];by_cases h3:target.length<=3
  case neg =>
   rw[H6 (fun h=>h3 h.2),H7 (by omega:(3:Int)<(target.length:Int))];rfl
  rw[H5 ⟨trivial,h3⟩,H8 (by omega:¬(3:Int)<(target.length:Int))]
  simp only[H2];have hf:=Ei (F:=fun i s=>rn ⟨147,0,1⟩ [.sl (vars.map ag),.int c,.sl (target.map ag),.sl (l.map Bnd.row),.int s,.int (i:Int)]) (xs:=target) (gk vars c l) (A:=fun s=>some (0,[.int s])) (B:=some (1,[.int 0])) (fun i hi s=>?_) (fun s=>?_) 0
  ·simp only[C3] at hf
   rw[hf];cases mv (gk vars c l) target 0<;>rfl
  ·have hb:=r115 l hl hs target[i]
   rw[e147_0_1];simp only[B6,C1,hi,H3,H1,aq,B7,ab hi,ae hi (ba (by omega)),ag,nv0,nvS,dvI,dvB,dvS,dvL,B5]
   rw[hb];unfold gk;cases hq:bnd l target[i] with
   |none =>
    have h1:=r39 vars tm0 (kq ..) c;have h1':rn ⟨39,0,0⟩ [.sl (vars.map ag),.int 0,.int 0,.str ⟨#[]⟩,.sl [],.int c]=_:=h1;simp only[nv0,nvS,dvI,dvB,dvS,dvL,B5,h1'];rfl
   |some t =>
    obtain⟨b,hbm,rfl⟩:=eh hq;have h1:=r39 vars b.2 (hs b hbm) c;have h4:=r112 (bw vars b.2 c);simp only[nv0,nvS,dvI,dvB,dvS,dvL,B5,h1,h4,D0,H2];have e:IntKind.i64.wrap (s*4)=IntKind.i64.wrap (4*s):=by rw[Int.mul_comm]
    rw[e];cases isW (bw vars b.2 c)<;>rfl
  ·rw[e147_0_1]
   simp
theorem r84(c:ClM)(hc:ClB c)(sub:List Bnd)(hsl:sub.length<=1048576)(hs:∀ b∈sub,au b.2)(g:ClM)(hg:ClB g)(t:Tm)(ht:au t)(cl:List Int)(k:Int)(hk:isC g.v.length k=true)(hgu:∀ q∈c.g,q.ok):rn ⟨84,0,0⟩ [.sl (c.v.map ag),.int (c.l).k,.int (c.l).n,.str (c.l).s,.sl ((c.l).as.map Tm.row),.int (c.r).k,.int (c.r).n,.str (c.r).s,.sl ((c.r).as.map Tm.row),.sl (c.g.map Gu.row),.sl (sub.map Bnd.row),.sl (g.v.map ag),.int (g.l).k,.int (g.l).n,.str (g.l).s,.sl ((g.l).as.map Tm.row),.int (g.r).k,.int (g.r).n,.str (g.r).s,.sl ((g.r).as.map Tm.row),.sl (g.g.map Gu.row),.sl (g.v.map ag),.int t.k,.int t.n,.str t.s,.sl (t.as.map Tm.row),.sl (cl.map am),.int k]=some (0,[.bool (pi c sub g t k)]):=by
 have h1:=mpI g.v k c.v sub hsl hs;rw[e84_0_0];simp only[h1,nv0,nvS,dvI,dvB,dvS,dvL,B5];unfold pi;cases hm:(gc g.v k c.v sub).2 with
 |false=>rfl
 |true =>
  have hn:=Gz hm;generalize (gc g.v k c.v sub).1=n at hn ⊢;have h2:=r122 c.v n;have h3:=r121 (bn c.v n) (nc c.v n) (fun b hb=>by unfold bn at hb;obtain⟨p,_,rfl⟩:=F8.1 hb;rfl) c.g hc.g hgu
  have h4:=r77 c.v c.l (ak _ hc.ln) [] n;rw[hn] at h4;have h5:=r77 g.v t ht (cl.map am) k;have h6:=r129 (S.instR c.v c.l n) (S.instR g.v t k) (S.instR_small (ak _ hc.ln) n);have h7:=r80 c.v c.l c.r (ak _ hc.rn) (c.g.map Gu.row) n;have h8:=r80 g.v g.l g.r (ak _ hg.rn) (g.g.map Gu.row) k;have h9:=r129 (S.instR c.v c.r n) (S.instR g.v g.r k) (S.instR_small (ak _ hc.rn) n);simp only[D0,H2,h2,h3,nv0,nvS,dvI,dvB,dvS,dvL,B5,D9];cases c.g.all fun q=>holds (du (bn c.v n) q) with
  |false=>rfl
  |true =>
   simp only[D0,H2,h4,h5,h6,nv0,nvS,dvI,dvB,dvS,dvL,B5,D9];cases eqb (S.instR c.v c.l n).row (S.instR g.v t k).row with
   |false=>rfl
   |true=>simp only[H1,h7,h8,h9,nv0,nvS,dvI,dvB,dvS,dvL,B5,D9]
theorem tu{n:Nat}(h:n<=1048577):IntKind.i64.wrap ((n:Int)-1)=(n:Int)-1:=IntWalk.i64_in _ (by omega)
theorem gn{cs:List ClM}{i:Int}{c:ClM}(h:lf cs i=some c):∃ j:Nat,i=(j:Int)/\∃ hj:j<cs.length,cs[j]=c:=by
 unfold lf at h;split at h
 ·obtain⟨hj,e⟩:=List.getElem?_eq_some_iff.1 h
  exact⟨i.toNat,by omega,hj,e⟩
 ·simp at h
theorem ke{cs:List ClM}{i:Int}(h:lf cs i=none):i<0\/(cs.length:Int)<=i:=by
 unfold lf at h;split at h
 ·rw[List.getElem?_eq_none_iff] at h;omega
 ·omega
theorem Vd{cs:List ClM}{j:Nat}(h:j<cs.length):lf cs (j:Int)=some cs[j]:=by
 unfold lf;rw[H5 (by omega)];simp[h]
theorem r86(cs:List ClM)(hcs:∀ c∈cs,ClB c)(hgu:∀ c∈cs,∀ q∈c.g,q.ok)(hcl:cs.length<=1048576)(j:Nat)(hj:j<cs.length)(x:PnM)(hx:PnB x)(t:Tm)(ht:au t)(cl:List Int)(hl:cl.length<=1048576)(hk:∀ k∈cl,isC cs[j].v.length k=true):rn ⟨86,0,0⟩ [.sl (cs.map bf),.int (j:Int),.sl (cs[j].v.map ag),.int t.k,.int t.n,.str t.s,.sl (t.as.map Tm.row),.sl (cl.map am),.int x.k,.sl (x.nx.map am),.int x.c,.sl (x.s.map Bnd.row)]=some (0,[.bool (match lf cs x.c with |some c=>cl.all (pi c x.s cs[j] t) |none=>false)]):=by
 have hin:=rIn x.c 0 (IntKind.i64.wrap ((cs.length:Int)-1));rw[tu (by omega)] at hin
 rw[e86_0_0];simp only[B6,tu (show cs.length<=1048577 by omega),hin,nv0,nvS,dvI,dvB,dvS,dvL,B5]
 cases hq:lf cs x.c with
 |none =>
  have:=ke hq;have e:(decide ((0:Int)<=x.c)&&decide (x.c<=(cs.length:Int)-1))=false:=by
   rw[P5];rcases this with h |h
   ·exact .inl (H8 (by omega))
   ·exact .inr (H8 (by omega))
  simp only[e,G7,H1]
 |some c =>
  obtain⟨i,hi,hic,e⟩:=gn hq;subst e;have hci:=hcs _ (C0 hic);have hcj:=hcs _ (C0 hj);have e:(decide ((0:Int)<=(i:Int))&&decide ((i:Int)<=(cs.length:Int)-1))=true:=by simp;omega
  have hlp:∀ n m,m+n=cl.length->rn ⟨86,0,1⟩ [.sl (cs.map bf),.int (j:Int),.int (m:Int),.sl (cs[j].v.map ag),.int t.k,.int t.n,.str t.s,.sl (t.as.map Tm.row),.sl (cl.map am),.int x.k,.sl (x.nx.map am),.int (i:Int),.sl (x.s.map Bnd.row),.sl (cs[i].v.map ag),.int (cs[i].l).k,.int (cs[i].l).n,.str (cs[i].l).s,.sl ((cs[i].l).as.map Tm.row),.int (cs[i].r).k,.int (cs[i].r).n,.str (cs[i].r).s,.sl ((cs[i].r).as.map Tm.row),.sl (cs[i].g.map Gu.row)]=bif (cl.drop m).all (pi cs[i] x.s cs[j] t) then some (0,[]) else some (1,[]):=by
   intro n;induction n with
   |zero =>
    intro m hm;obtain rfl:m=cl.length:=by omega
    rw[e86_0_1];simp only[B6,C1,D3,H4,H2,C6,K8,H1]
   |succ n ih =>
    intro m hm;have hlt:m<cl.length:=by omega
    have hkm:=hk _ (C0 hlt);have h1:=mpS cs[j].v cl[m] cs[i].v x.s hx.s hx.b;have h0:=ih (m+1) (by omega)
    rw[B8 hlt,J2,e86_0_1];simp only[B6,C1,hlt,H3,H1,aq,B7,ab hlt,ae hlt (ba (by omega)),am,nv0,nvS,dvI,dvB,dvS,dvL,B5,h1]
    unfold pi at h0 ⊢;cases hmr:(gc cs[j].v cl[m] cs[i].v x.s).2 with
    |false=>rfl
    |true =>
     have hn:=Gz hmr;generalize (gc cs[j].v cl[m] cs[i].v x.s).1=a at hn ⊢;have h2:=r66 cs[i].v cs[i].g hci.g (hgu _ (C0 hic));have h3:=r46 ((dk cs[i].v cs[i].g).map fun (i:Nat)=>(i:Int)) (by rw[B6];have:=S.allC_len cs[i].v cs[i].g;unfold maxLen;omega) a
     rw[Ke hn] at h3;have h4:=r39 cs[i].v cs[i].l (ak _ hci.ln) a;have h5:=r39 cs[j].v t ht cl[m];have h6:=r68 (bw cs[i].v cs[i].l a) (bw cs[j].v t cl[m]) (Bs (ak _ hci.ln) a);have h7:=r40 cs[i].v cs[i].l cs[i].r (ak _ hci.rn) (cs[i].g.map Gu.row) a;have h8:=r40 cs[j].v cs[j].l cs[j].r (ak _ hcj.rn) (cs[j].g.map Gu.row) cl[m];have h9:=r68 (S.instR cs[i].v cs[i].r a) (S.instR cs[j].v cs[j].r cl[m]) (S.instR_small (ak _ hci.rn) a);rw[lx hn,lx hkm];simp only[D0,H2,h2,jk,h3,nv0,nvS,dvI,dvB,dvS,dvL,B5,D9];cases cs[i].g.all fun q=>holds (du (bn cs[i].v a) q) with
     |false=>rfl
     |true =>
      simp only[D0,H2,h4,h5,h6,nv0,nvS,dvI,dvB,dvS,dvL,B5,D9];cases eqb (bw cs[i].v cs[i].l a).row (bw cs[j].v t cl[m]).row with
      |false=>rfl
      |true =>
       simp only[D0,H2,ab hj,bf,hj,H3,H1,h7,h8,h9,nv0,nvS,dvI,dvB,dvS,dvL,B5,D9];cases eqb (S.instR cs[i].v cs[i].r a).row (S.instR cs[j].v cs[j].r cl[m]).row with
       |false=>rfl
       |true=>simp only[D0,H2,D9];exact h0
  have h1:=hlp cl.length 0 (D1 _);simp only[C3,D2] at h1;rw[hi];simp only[e,D0,H2,aq,hic,H3,H1,B7,ab hic,nv0,nvS,dvI,dvB,dvS,dvL,B5];rw[show ∀ q:Bool,(bif q then (some (0,[]):R) else some (1,[]))=bif q then some (0,[]) else some (1,[]) from fun _=>rfl] at h1
  show(rn ⟨86,0,1⟩ [.sl (cs.map bf),.int (j:Int),.int 0,.sl (cs[j].v.map ag),.int t.k,.int t.n,.str t.s,.sl (t.as.map Tm.row),.sl (cl.map am),.int x.k,.sl (x.nx.map am),.int (i:Int),.sl (x.s.map Bnd.row),.sl (cs[i].v.map ag),.int (cs[i].l).k,.int (cs[i].l).n,.str (cs[i].l).s,.sl ((cs[i].l).as.map Tm.row),.int (cs[i].r).k,.int (cs[i].r).n,.str (cs[i].r).s,.sl ((cs[i].r).as.map Tm.row),.sl (cs[i].g.map Gu.row)]).bind _=_
  rw[h1];cases cl.all (pi cs[i] x.s cs[j] t)<;>rfl
theorem r31(d:DfM)(cs:List ClM)(hcs:∀ c∈cs,ClB c)(hcd:∀ c∈cs,c.d=d)(hcl:cs.length<=1048576)(k:Int):rn ⟨31,0,0⟩ [.sl (d.so.map ag),.sl (d.op.map OpM.row),.sl (d.ru.map RuM.row),.sl (d.st.map StM.row),.sl (cs.map bf),.int k]=some (0,[.bool (jr cs k).isSome]):=by
 have hlp:∀ n i,i+n=cs.length->rn ⟨93,0,1⟩ [.sl (cs.map bf),.int (cs.length:Int),.int (i:Int),.sl (d.so.map ag),.sl (d.op.map OpM.row),.sl (d.ru.map RuM.row),.sl (d.st.map StM.row)]=bif (cs.drop i).all ClM.valid then some (0,[.sl (d.so.map ag),.sl (d.op.map OpM.row),.sl (d.ru.map RuM.row),.sl (d.st.map StM.row)]) else some (1,[.int (((cs.drop i).takeWhile ClM.valid).length+i:Nat),.sl (d.so.map ag),.sl (d.op.map OpM.row),.sl (d.ru.map RuM.row),.sl (d.st.map StM.row)]):=by
  intro n;induction n with
  |zero =>
   intro i hi;obtain rfl:i=cs.length:=by omega
   rw[e93_0_1];simp only[B6,C1,D3,H4,H2,C6,K8,H1]
  |succ n ih =>
   intro i hi;have hlt:i<cs.length:=by omega
   have hm:=C0 hlt;have h1:=r60 cs[i] (hcs _ hm);unfold ClM.row at h1;rw[hcd _ hm] at h1;have h2:rn ⟨59,0,0⟩ [.sl (cs[i].v.map ag),.int (cs[i].l).k,.int (cs[i].l).n,.str (cs[i].l).s,.sl ((cs[i].l).as.map Tm.row),.int (cs[i].r).k,.int (cs[i].r).n,.str (cs[i].r).s,.sl ((cs[i].r).as.map Tm.row),.sl (cs[i].g.map Gu.row),.sl (d.so.map ag),.sl (d.op.map OpM.row),.sl (d.ru.map RuM.row),.sl (d.st.map StM.row)]=some (0,[.bool !cs[i].valid,.sl (d.so.map ag),.sl (d.op.map OpM.row),.sl (d.ru.map RuM.row),.sl (d.st.map StM.row)]):=by
    rw[e59_0_0];simp only[h1,nv0,nvS,dvI,dvB,dvS,dvL,B5]
   have h3:=ih (i+1) (by omega)
   rw[B8 hlt,J2,List.takeWhile_cons,e93_0_1];simp only[B6,C1,hlt,H3,H1,aq,B7,ab hlt,ae hlt (ba (by omega)),bf,nv0,nvS,dvI,dvB,dvS,dvL,B5,h2]
   cases cs[i].valid with
   |false=>simp
   |true =>
    simp only[D0,H2,D9,if_true,C2];rw[show((cs.drop (i+1)).takeWhile ClM.valid).length+1+i=((cs.drop (i+1)).takeWhile ClM.valid).length+(i+1) by omega]
    exact h3
 have h1:=hlp cs.length 0 (D1 _);simp only[C3,D2] at h1;have h2:∃ w,rn ⟨58,0,0⟩ [.sl (cs.map bf),.sl (d.so.map ag),.sl (d.op.map OpM.row),.sl (d.ru.map RuM.row),.sl (d.st.map StM.row)]=some (0,[.bool !da cs,.sl (d.so.map ag),.sl (d.op.map OpM.row),.sl (d.ru.map RuM.row),.sl (d.st.map StM.row)])/\w=0:=by
  refine⟨0,?_,rfl⟩;rw[e58_0_0,e93_0_0];simp only[B6,h1];unfold da;cases cs.all ClM.valid with
  |true=>rfl
  |false =>
   simp only[H2,nv0,nvS,dvI,dvB,dvS,dvL,B5,G7];have e:decide ((0:Int)<=(((cs.takeWhile ClM.valid).length+0:Nat):Int))=true:=by simp
   simp only[show F4 1 0=false from rfl,show F4 1 1=true from rfl,H2,H1,B5,nv0,nvS,dvI,dvB,dvS,dvL,B5,e]
 obtain⟨_,h2,_⟩:=h2;rw[e31_0_0];simp only[B6];unfold jr;by_cases h3:cs.length<=3
 ·have e3:decide ((cs.length:Int)<=3)=true:=H7 (by omega)
  simp only[e3,H1];cases hq:lf cs k with
  |none =>
   have e:(if cs.length<=3/\da cs=true then (none:Option ClM) else none)=none:=by split<;>rfl
   rw[e];rcases ke hq with h |h
   ·rw[H8 (show ¬(0:Int)<=k by omega)];rfl
   ·by_cases h0:(0:Int)<=k
    ·rw[H7 h0,H8 (show ¬ k<(cs.length:Int) by omega)];rfl
    ·rw[H8 h0];rfl
  |some c =>
   obtain⟨j,rfl,hj,e⟩:=gn hq;rw[H7 (show(0:Int)<=(j:Int) by omega),H7 (show(j:Int)<(cs.length:Int) by omega)]
   simp only[H1,h2,nv0,nvS,dvI,dvB,dvS,dvL,B5,Bool.not_not];cases hv:da cs with
   |true=>rw[H5 ⟨h3,rfl⟩];rfl
   |false=>rw[H6 (by simp)];rfl
 ·rw[H8 (by omega:¬(cs.length:Int)<=3),H6 (fun h=>h3 h.1)];rfl
theorem r34(d:DfM)(cs:List ClM)(hcs:∀ c∈cs,ClB c)(hcd:∀ c∈cs,c.d=d)(hcl:cs.length<=1048576):rn ⟨34,0,0⟩ [.sl (d.so.map ag),.sl (d.op.map OpM.row),.sl (d.ru.map RuM.row),.sl (d.st.map StM.row),.sl (cs.map bf)]=some (0,[.bool (da cs&&(decide (1<=cs.length)&&decide (cs.length<=3)))]):=by
 have hlp:∀ n i,i+n=cs.length->rn ⟨34,0,1⟩ [.sl (cs.map bf),.int (i:Int),.sl (d.so.map ag),.sl (d.op.map OpM.row),.sl (d.ru.map RuM.row),.sl (d.st.map StM.row)]=bif (cs.drop i).all ClM.valid then some (0,[.sl (cs.map bf)]) else some (1,[]):=by
  intro n;induction n with
  |zero =>
   intro i hi;obtain rfl:i=cs.length:=by omega
   rw[e34_0_1];simp only[B6,C1,D3,H4,H2,C6,K8,H1]
  |succ n ih =>
   intro i hi;have hlt:i<cs.length:=by omega
   have hm:=C0 hlt;have h1:=r36 cs[i] (hcs _ hm);unfold ClM.row at h1;rw[hcd _ hm] at h1;have h3:=ih (i+1) (by omega)
   rw[B8 hlt,J2,e34_0_1];simp only[B6,C1,hlt,H3,H1,aq,B7,ab hlt,ae hlt (ba (by omega)),bf,nv0,nvS,dvI,dvB,dvS,dvL,B5,h1]
   cases cs[i].valid with
   |false=>rfl
   |true=>simp only[D0,H2,D9];exact h3
 have h1:=hlp cs.length 0 (D1 _);simp only[C3,D2] at h1;rw[e34_0_0,h1];unfold da;cases cs.all ClM.valid with
 |false=>rfl
 |true =>
  have e1:decide ((1:Int)<=(cs.length:Int))=decide (1<=cs.length):=by by_cases q:1<=cs.length<;>simp[q]<;>omega
  have e2:decide ((cs.length:Int)<=3)=decide (cs.length<=3):=by by_cases q:cs.length<=3<;>simp[q]<;>omega
  simp only[H1,nv0,nvS,dvI,dvB,dvS,dvL,B5,D5,H1,H2,B6,rIn,e1,e2,D9]
theorem aj6(d:DfM)(hd:DfB d)(cs:List ClM)(hcs:∀ c∈cs,ClB c)(hcl:cs.length<=1048576)(j:Nat)(hj:j<cs.length)(ns:List PnM)(hns:∀ n∈ns,PnB n)(hnl:ns.length<=1048576):∀ (f:Nat) (n:Int) (t:Tm) (cl:List Int) (st:Bool),(ns.length:Int)<=n+f->StG d cs[j].v t cl →
 rn ⟨49,0,0⟩ [.sl (d.so.map ag),.sl (d.op.map OpM.row),.sl (d.ru.map RuM.row),.sl (d.st.map StM.row),.sl (cs.map bf),.int (j:Int),.sl (ns.map PnM.row),.int n,.sl (cs[j].v.map ag),.int t.k,.int t.n,.str t.s,.sl (t.as.map Tm.row),.sl (cl.map am),.bool st]=some (0,[.bool (rgt d cs cs[j] ns f n t cl st)]):=by
 have hg:=hcs _ (C0 hj);have hgu:∀ c∈cs,∀ q∈c.g,q.ok:=fun c hc q hq=>⟨((hcs c hc).ga q hq).ln,((hcs c hc).ga q hq).rn⟩
 intro f;induction f with
 |zero =>
  intro n t cl st hf hs;have e1:¬ n<0:=by omega
  have e2:(ns.length:Int)<=n:=by omega
  rw[e49_0_0];simp only[e1,e2,H4,H3,H2,H1,B6];rfl
 |succ f ih =>
  intro n t cl st hf hs;rw[e49_0_0];by_cases h0:n<0
  ·have e:rgt d cs cs[j] ns (f+1) n t cl st=false:=by simp only[rgt,H5 h0]
   rw[e];simp only[h0,H3,H1]
  obtain⟨m,rfl⟩:∃ m:Nat,n=(m:Int):=⟨n.toNat,by omega⟩
  by_cases hm:m<ns.length
  case neg =>
   have e:rgt d cs cs[j] ns (f+1) (m:Int) t cl st=false:=by
    simp only[rgt,H6 h0,B7,Q7 (show ns.length<=m by omega)]
   have e2:(ns.length:Int)<=(m:Int):=by omega
   rw[e];simp only[h0,e2,H4,H3,H2,H1,B6]
  have e2:¬(ns.length:Int)<=(m:Int):=by omega
  have hx:=hns _ (C0 hm);have hsm:=ak t (by have:=hs.n;omega)
  have hci:=ce cl none hs.c;have h1:=opI cs[j] hg t hsm cl (by have:=hs.l;omega) hci
  have hso:StG d cs[j].v t (opC cs[j] t cl):=hs.op (N8);have hol:=hso.l;simp only[h0,e2,H4,H2,B6,aq,hj,hm,H3,H1,B7,ab hj,ab hm,bf,PnM.row,nv0,nvS,dvI,dvB,dvS,dvL,B5,h1];simp only[rgt,H6 h0,B7,F6 hm];generalize hop:opC cs[j] t cl=op at hso hol ⊢;by_cases k1:ns[m].k=1
  ·have e:decide ((op.length:Int)=0)=decide (op.length=0):=by by_cases q:op.length=0<;>simp[q]
   simp only[k1,H3,H1,if_true,e]
  by_cases k2:ns[m].k=2
  ·have h2:=r75 (cs[j].v.map ag) (cl.map am) (op.map am) t hsm (by rw[B6];have:=hg.v;omega) (by rw[B6];omega)
   obtain⟨s1,s2,s3⟩:=hso.sy hd hg;have h3:=r83 _ s1 s2;rw[s3] at h3;unfold SyM.row at h3;simp only at h3;have k2':¬(2:Int)=1:=by decide
   simp only[k2,k2',H4,H3,H2,H1,if_true,if_false,h2,nv0,nvS,dvI,dvB,dvS,dvL,B5,h3];have hmem:∀ b∈brF d cs[j].v t op [],bK d t b.1=2->StG d cs[j].v (bT d t b.1) b.2:=fun b hb hk=>hso.next hd hb hk
   have hLl:(brF d cs[j].v t op []).length<=64:=by
    have:=(rh hd hso.w hso.s (P:=fun _=>True) op 0 [] (fun c hc=>⟨ce op none hso.c c hc,trivial⟩) ⟨E8 _,by simp⟩ (by simp) (by simp)).1.l
    omega
   generalize brF d cs[j].v t op []=L at hmem hLl ⊢;by_cases hle:L.length=ns[m].nx.length
   case neg =>
    have e:¬((L.length:Int)=(ns[m].nx.length:Int)):=by omega
    simp only[B6,e,hle,H4,G7,H1,N4]
   have e:((L.length:Int)=(ns[m].nx.length:Int)):=by omega
   have hlp:∀ n i,i+n=L.length->rn ⟨49,0,2⟩ [.sl (cs.map bf),.int (j:Int),.int (m:Int),.int (L.length:Int),.int (i:Int),.sl (d.so.map ag),.sl (d.op.map OpM.row),.sl (d.ru.map RuM.row),.sl (d.st.map StM.row),.sl (ns.map PnM.row),.int 2,.sl (ns[m].nx.map am),.int ns[m].c,.sl (ns[m].s.map Bnd.row),.sl (L.map (bj d cs[j].v t))]=bif zx (fun (b:Bk×List Int) (q:Int)=>decide (bK d t b.1=2)&&(!decide (q<=(m:Int))&&rgt d cs cs[j] ns f q (bT d t b.1) b.2 true)) (L.drop i) (ns[m].nx.drop i) then some (0,[]) else some (1,[]):=by
    intro n;induction n with
    |zero =>
     intro i hi;obtain rfl:i=L.length:=by omega
     rw[e49_0_2];simp only[B6,C1,D3,H4,H2,C6,zx,H1]
    |succ n ih2 =>
     intro i hi;have hlt:i<L.length:=by omega
     have hlt2:i<ns[m].nx.length:=by omega
     have h4:=ih2 (i+1) (by omega)
     rw[B8 hlt,B8 hlt2,e49_0_2];simp only[B6,C1,hlt,H3,H1,aq,B7,ab hlt,ae hlt (ba (by omega)),hlt2,ab hlt2,am,bj,nv0,nvS,dvI,dvB,dvS,dvL,B5,zx]
     by_cases q2:bK d t L[i].1=2
     ·by_cases q3:ns[m].nx[i]<=(m:Int)
      ·simp only[q2,q3,H3,D0,G7,H2,H1,D9,N4]
      ·have h5:=ih ns[m].nx[i] (bT d t L[i].1) L[i].2 true (by omega) (hmem _ (C0 hlt) q2)
       simp only[q2,q3,H3,H4,D0,G7,H2,H1,D9,h5,nv0,nvS,dvI,dvB,dvS,dvL,B5];cases rgt d cs cs[j] ns f ns[m].nx[i] (bT d t L[i].1) L[i].2 true with
       |false=>rfl
       |true=>simp only[D0,H2,D9];exact h4
     ·simp only[q2,H4,G7,H1,N4,H2]
   have h4:=hlp L.length 0 (D1 _);simp only[C3,D2] at h4;rw[Cs _ _ _ hle] at h4;simp only[B6,e,hle,H3,D0,H2,h4,D9];rw[hle] at h4;simp only[h4];cases (L.zip ns[m].nx).all _<;>rfl
  by_cases k3:ns[m].k=3
  ·have k31:¬(3:Int)=1:=by decide
   have k32:¬(3:Int)=2:=by decide
   simp only[k3,k31,k32,H4,H3,H2,H1,if_true,if_false];cases st with
   |false=>simp only[G7,H1,N4]
   |true =>
    simp only[D0,H2,D9];cases hq:lf cs ns[m].c with
    |none =>
     by_cases q1:ns[m].c<0
     ·simp only[q1,H3,H1]
     ·have q2:(cs.length:Int)<=ns[m].c:=by rcases ke hq with h |h<;>omega
      simp only[q1,q2,H3,H4,H1,H2]
    |some c =>
     obtain⟨i,hi,hic,e⟩:=gn hq;subst e;have q1:¬ ns[m].c<0:=by omega
     have q2:¬(cs.length:Int)<=ns[m].c:=by omega
     have hopc:∀ k∈op,isC cs[j].v.length k=true:=ce op none hso.c;have hlp:∀ n a,a+n=op.length->rn ⟨49,0,4⟩ [.sl (cs.map bf),.int (j:Int),.int (op.length:Int),.int (a:Int),.sl (cs[j].v.map ag),.int t.k,.int t.n,.str t.s,.sl (t.as.map Tm.row),.sl (cl.map am),.int 3,.sl (ns[m].nx.map am),.int (i:Int),.sl (ns[m].s.map Bnd.row),.sl (op.map am)]=bif (op.drop a).all (pi cs[i] ns[m].s cs[j] t) then some (0,[]) else some (1,[]):=by
      intro n;induction n with
      |zero =>
       intro a ha;obtain rfl:a=op.length:=by omega
       rw[e49_0_4];simp only[B6,C1,D3,H4,H2,C6,K8,H1]
      |succ n ih2 =>
       intro a ha;have hlt:a<op.length:=by omega
       have h4:=r84 cs[i] (hcs _ (C0 hic)) ns[m].s hx.s hx.b cs[j] hg t hsm cl op[a] (hopc _ (C0 hlt)) (hgu _ (C0 hic));have h5:=ih2 (a+1) (by omega)
       rw[B8 hlt,J2,e49_0_4];simp only[B6,C1,hlt,H3,H1,aq,B7,ab hlt,ae hlt (ba (by omega)),hj,hic,ab hj,ab hic,bf,am,nv0,nvS,dvI,dvB,dvS,dvL,B5,h4]
       cases pi cs[i] ns[m].s cs[j] t op[a] with
       |false=>rfl
       |true=>simp only[D0,H2,D9];exact h5
     have h4:=hlp op.length 0 (D1 _);simp only[C3,D2,<-hi] at h4;simp only[q1,q2,H4,H2,h4];cases op.all (pi cs[i] ns[m].s cs[j] t)<;>rfl
  ·simp only[k1,k2,k3,H4,H2,if_false]
theorem r20(d:DfM)(hd:DfB d)(cs:List ClM)(hcs:∀ c∈cs,ClB c)(hcd:∀ c∈cs,c.d=d)(hcl:cs.length<=1048576)(k:Int)(ns:List PnM)(hns:∀ n∈ns,PnB n)(hnl:ns.length<=1048576):rn ⟨20,0,0⟩ [.sl (d.so.map ag),.sl (d.op.map OpM.row),.sl (d.ru.map RuM.row),.sl (d.st.map StM.row),.sl (cs.map bf),.int k,.sl (ns.map PnM.row)]=some (0,[.bool (Cq d cs k ns)]):=by
 have h1:=r31 d cs hcs hcd hcl k;rw[e20_0_0];simp only[h1,nv0,nvS,dvI,dvB,dvS,dvL,B5];unfold Cq;cases hq:jr cs k with
 |none=>rfl
 |some g =>
  obtain⟨_,hv,ha⟩:=gm hq;obtain⟨j,rfl,hj,e⟩:=gn ha;subst e;have hg:=hcs _ (C0 hj);have hgv:cs[j].valid=true:=E3.1 hv _ (C0 hj);have hst:=StG.start hg hgv;rw[hcd _ (C0 hj)] at hst;have h2:=r44 cs[j].v hg.v cs[j].l cs[j].r (ak _ hg.ln) cs[j].g hg.g (fun q hq=>⟨(hg.ga q hq).ln,(hg.ga q hq).rn⟩)
  rw[jk] at h2;have h3:=aj6 d hd cs hcs hcl j hj ns hns hnl ns.length 0 cs[j].l _ false (by omega) hst
  have e:decide ((ns.length:Int)<=60)=decide (ns.length<=60):=by by_cases q:ns.length<=60<;>simp[q]<;>omega
  simp only[O5,H1,B6,e,aq,hj,H3,B7,ab hj,bf,nv0,nvS,dvI,dvB,dvS,dvL,B5,h2,h3];cases decide (ns.length<=60)<;>rfl
theorem r85(g:ClM)(hb:ClB g)(t:Tm)(ht:au t)(cl:List Int)(hcl:cl.length<=1048576)(hc:∀ k∈cl,isC g.v.length k=true):rn ⟨85,0,0⟩ [.sl (g.v.map ag),.int (g.l).k,.int (g.l).n,.str (g.l).s,.sl ((g.l).as.map Tm.row),.int (g.r).k,.int (g.r).n,.str (g.r).s,.sl ((g.r).as.map Tm.row),.sl (g.g.map Gu.row),.sl (g.v.map ag),.int t.k,.int t.n,.str t.s,.sl (t.as.map Tm.row),.sl (cl.map am)]=some (0,[.int t.k,.int t.n,.str t.s,.sl (g.v.map ag),.sl (t.as.map Tm.row),.sl ((opC g t cl).map am)]):=by
 have h1:=opS g hb t ht cl hcl hc;have hv:=hb.v;have b1:F5 (0+g.v.length) M63=true:=nb (by omega)
 have b2:F5 (0+cl.length) M63=true:=nb (by omega)
 have h2:=r65 t ht;have h3:rn ⟨145,0,0⟩ [.sl (g.v.map ag),.int t.k,.int t.n,.str t.s,.sl (t.as.map Tm.row),.sl (cl.map am)]=some (0,[.int t.k,.int t.n,.str t.s,.sl (g.v.map ag),.sl (t.as.map Tm.row),.sl (cl.map am)]):=by
  rw[e145_0_0];simp only[C5,B6,b1,b2,H1,h2,nv0,nvS,dvI,dvB,dvS,dvL,B5,D8]
 rw[e85_0_0];simp only[h3,h1,nv0,nvS,dvI,dvB,dvS,dvL,B5]
theorem aj7(d:DfM)(hd:DfB d)(cs:List ClM)(hcs:∀ c∈cs,ClB c)(hcl:cs.length<=1048576)(j:Nat)(hj:j<cs.length)(ns:List PnM)(hns:∀ n∈ns,PnB n)(hnl:ns.length<=1048576):∀ (f:Nat) (n:Int) (t:Tm) (cl:List Int) (st:Bool),(ns.length:Int)<=n+f->StG d cs[j].v t cl →
 rn ⟨50,0,0⟩ [.sl (d.so.map ag),.sl (d.op.map OpM.row),.sl (d.ru.map RuM.row),.sl (d.st.map StM.row),.sl (cs.map bf),.int (j:Int),.sl (ns.map PnM.row),.int n,.sl (cs[j].v.map ag),.int t.k,.int t.n,.str t.s,.sl (t.as.map Tm.row),.sl (cl.map am),.bool st]=some (0,[.bool (rgt d cs cs[j] ns f n t cl st)]):=by
 have hg:=hcs _ (C0 hj);have hgu:∀ c∈cs,∀ q∈c.g,q.ok:=fun c hc q hq=>⟨((hcs c hc).ga q hq).ln,((hcs c hc).ga q hq).rn⟩
 intro f;induction f with
 |zero =>
  intro n t cl st hf hs;have e2:¬ n<=(ns.length:Int)-1:=by omega
  rw[e50_0_0];simp only[B6,tu (show ns.length<=1048577 by omega),rIn,e2,H4,P2,nv0,nvS,dvI,dvB,dvS,dvL,B5,G7,H1]
  rfl
 |succ f ih =>
  intro n t cl st hf hs;rw[e50_0_0];simp only[B6,tu (show ns.length<=1048577 by omega),rIn]
  by_cases h0:n<0
  ·have e:rgt d cs cs[j] ns (f+1) n t cl st=false:=by simp only[rgt,H5 h0]
   have e2:¬ 0<=n:=by omega
   rw[e];simp only[e2,H4,N4,nv0,nvS,dvI,dvB,dvS,dvL,B5,G7,H1]
  obtain⟨m,rfl⟩:∃ m:Nat,n=(m:Int):=⟨n.toNat,by omega⟩
  by_cases hm:m<ns.length
  case neg =>
   have e:rgt d cs cs[j] ns (f+1) (m:Int) t cl st=false:=by
    simp only[rgt,H6 h0,B7,Q7 (show ns.length<=m by omega)]
   have e2:¬(m:Int)<=(ns.length:Int)-1:=by omega
   rw[e];simp only[e2,H4,P2,nv0,nvS,dvI,dvB,dvS,dvL,B5,G7,H1]
  have e1:(0:Int)<=(m:Int):=by omega
  have e2:(m:Int)<=(ns.length:Int)-1:=by omega
  have hx:=hns _ (C0 hm);have hsm:=ak t (by have:=hs.n;omega)
  have hci:=ce cl none hs.c;have h1:=r85 cs[j] hg t hsm cl (by have:=hs.l;omega) hci
  have hso:StG d cs[j].v t (opC cs[j] t cl):=hs.op (N8);have hol:=hso.l;simp only[e1,e2,O2,D0,H2,aq,hj,hm,H3,H1,B7,ab hj,ab hm,bf,PnM.row,nv0,nvS,dvI,dvB,dvS,dvL,B5,h1,B6];simp only[rgt,H6 h0,B7,F6 hm];generalize hop:opC cs[j] t cl=op at hso hol ⊢;by_cases k1:ns[m].k=1
  ·have e:decide ((op.length:Int)=0)=decide (op.length=0):=by by_cases q:op.length=0<;>simp[q]
   simp only[k1,H3,H1,if_true,e]
  by_cases k3:ns[m].k=3
  ·have k31:¬(3:Int)=1:=by decide
   have k32:¬(3:Int)=2:=by decide
   have h4:=r86 cs hcs hgu hcl j hj ns[m] hx t hsm op (by omega) (ce op none hso.c)
   rw[k3] at h4;simp only[k3,k31,k32,H4,H3,H2,H1,if_true,if_false,h4,nv0,nvS,dvI,dvB,dvS,dvL,B5];cases st<;>rfl
  by_cases k2:ns[m].k=2
  ·obtain⟨s1,s2,s3⟩:=hso.sy hd hg
   have h3:=r87 _ s1;rw[s3] at h3;unfold SyM.row at h3;simp only at h3;have k2':¬(2:Int)=1:=by decide
   have k23:¬(2:Int)=3:=by decide
   simp only[k2,k2',k23,H4,H3,H2,H1,if_true,if_false,nv0,nvS,dvI,dvB,dvS,dvL,B5,h3];have hmem:∀ b∈brF d cs[j].v t op [],bK d t b.1=2->StG d cs[j].v (bT d t b.1) b.2:=fun b hb hk=>hso.next hd hb hk
   have hLl:(brF d cs[j].v t op []).length<=64:=by
    have:=(rh hd hso.w hso.s (P:=fun _=>True) op 0 [] (fun c hc=>⟨ce op none hso.c c hc,trivial⟩) ⟨E8 _,by simp⟩ (by simp) (by simp)).1.l
    omega
   generalize brF d cs[j].v t op []=L at hmem hLl ⊢;have hlp:∀ n i,i+n=L.length->rn ⟨50,0,2⟩ [.sl (cs.map bf),.int (j:Int),.int (m:Int),.int (i:Int),.sl (d.so.map ag),.sl (d.op.map OpM.row),.sl (d.ru.map RuM.row),.sl (d.st.map StM.row),.sl (ns.map PnM.row),.int 2,.sl (ns[m].nx.map am),.int ns[m].c,.sl (ns[m].s.map Bnd.row),.sl (L.map (bj d cs[j].v t))]=bif zx (fun (b:Bk×List Int) (q:Int)=>decide (bK d t b.1=2)&&(!decide (q<=(m:Int))&&rgt d cs cs[j] ns f q (bT d t b.1) b.2 true)) (L.drop i) (ns[m].nx.drop i) then some (0,[.int 2,.sl (ns[m].nx.map am),.int ns[m].c,.sl (ns[m].s.map Bnd.row),.sl (L.map (bj d cs[j].v t))]) else some (1,[]):=by
    intro n;induction n with
    |zero =>
     intro i hi;obtain rfl:i=L.length:=by omega
     rw[e50_0_2];simp only[B6,C1,D3,H4,H2,C6,zx,H1]
    |succ n ih2 =>
     intro i hi;have hlt:i<L.length:=by omega
     have h4:=ih2 (i+1) (by omega)
     rw[B8 hlt,e50_0_2];by_cases hlt2:i<ns[m].nx.length
     case neg =>
      have e:(ns[m].nx.length:Int)<=(i:Int):=by omega
      rw[List.drop_eq_nil_of_le (show ns[m].nx.length<=i by omega)]
      simp only[B6,C1,hlt,H3,H1,aq,B7,ab hlt,ae hlt (ba (by omega)),e,zx,H2]
     have e:¬(ns[m].nx.length:Int)<=(i:Int):=by omega
     rw[B8 hlt2];simp only[B6,C1,hlt,H3,H1,aq,B7,ab hlt,ae hlt (ba (by omega)),e,H4,H2,hlt2,ab hlt2,am,bj,nv0,nvS,dvI,dvB,dvS,dvL,B5,zx]
     by_cases q2:bK d t L[i].1=2
     ·by_cases q3:ns[m].nx[i]<=(m:Int)
      ·simp only[q2,q3,H3,D0,G7,H2,H1,D9,N4]
      ·have h5:=ih ns[m].nx[i] (bT d t L[i].1) L[i].2 true (by omega) (hmem _ (C0 hlt) q2)
       simp only[q2,q3,H3,H4,D0,G7,H2,H1,D9,h5,nv0,nvS,dvI,dvB,dvS,dvL,B5];cases rgt d cs cs[j] ns f ns[m].nx[i] (bT d t L[i].1) L[i].2 true with
       |false=>rfl
       |true=>simp only[D0,H2,D9];exact h4
     ·simp only[q2,H4,G7,H1,N4,H2]
   have h4:=hlp L.length 0 (D1 _);simp only[C3,D2] at h4;simp only[h4];by_cases hle:L.length=ns[m].nx.length
   ·have e:((L.length:Int)=(ns[m].nx.length:Int)):=by omega
    rw[Cs _ _ _ hle];cases (L.zip ns[m].nx).all _ with
    |true=>simp only[H1,nv0,nvS,dvI,dvB,dvS,dvL,B5,D5,H1,H2,B6,e,hle,H3,D9]
    |false=>simp only[hle,H3,D9];rfl
   ·have e:¬((L.length:Int)=(ns[m].nx.length:Int)):=by omega
    cases zx _ L ns[m].nx with
    |true=>simp only[H1,nv0,nvS,dvI,dvB,dvS,dvL,B5,D5,H1,H2,B6,e,hle,H4,N4]
    |false=>simp only[hle,H4,N4];rfl
  ·simp only[k1,k2,k3,H4,H2,if_false]
theorem r22(d:DfM)(hd:DfB d)(cs:List ClM)(hcs:∀ c∈cs,ClB c)(hcd:∀ c∈cs,c.d=d)(hcl:cs.length<=1048576)(k:Int)(ns:List PnM)(hns:∀ n∈ns,PnB n)(hnl:ns.length<=1048576):rn ⟨22,0,0⟩ [.sl (d.so.map ag),.sl (d.op.map OpM.row),.sl (d.ru.map RuM.row),.sl (d.st.map StM.row),.sl (cs.map bf),.int k,.sl (ns.map PnM.row)]=some (0,[.bool (Cq d cs k ns)]):=by
 have h1:=r34 d cs hcs hcd hcl;rw[e22_0_0];simp only[h1,nv0,nvS,dvI,dvB,dvS,dvL,B5,B6,tu (show cs.length<=1048577 by omega),rIn]
 unfold Cq;cases hq:jr cs k with
 |none =>
  unfold jr at hq;by_cases hc:cs.length<=3/\da cs=true
  ·rw[H5 hc] at hq
   rw[hc.2];rcases ke hq with h |h
   ·cases decide (1<=cs.length)&&decide (cs.length<=3) with
    |false=>rfl
    |true=>rw[H8 (show ¬(0:Int)<=k by omega)];rfl
   ·cases decide (1<=cs.length)&&decide (cs.length<=3) with
    |false=>rfl
    |true=>rw[H8 (show ¬ k<=(cs.length:Int)-1 by omega),P2];rfl
  ·have e:(da cs&&(decide (1<=cs.length)&&decide (cs.length<=3)))=false:=by
    rw[P5,P5];by_cases h3:cs.length<=3
    ·left
     cases hb:da cs with
     |false=>rfl
     |true=>exact absurd ⟨h3,hb⟩ hc
    ·exact .inr (.inr (H8 h3))
   rw[e];rfl
 |some g =>
  obtain⟨h3,hv,ha⟩:=gm hq;obtain⟨j,rfl,hj,e⟩:=gn ha;subst e;have hg:=hcs _ (C0 hj);have hgv:cs[j].valid=true:=E3.1 hv _ (C0 hj);have hst:=StG.start hg hgv;rw[hcd _ (C0 hj)] at hst;have h2:=r37 cs[j].v hg.v cs[j].l cs[j].r (ak _ hg.ln) cs[j].g hg.g (fun q hq=>⟨(hg.ga q hq).ln,(hg.ga q hq).rn⟩)
  rw[jk] at h2;have h4:=aj7 d hd cs hcs hcl j hj ns hns hnl ns.length 0 cs[j].l _ false (by omega) hst
  have e1:(0:Int)<=(j:Int):=by omega
  have e2:(j:Int)<=(cs.length:Int)-1:=by omega
  have e3:1<=cs.length:=by omega
  by_cases h60:ns.length<=60
  ·have e:¬(60:Int)<(ns.length:Int):=by omega
   simp only[hv,h3,e1,e2,e3,e,h60,H3,H4,O2,D0,H2,aq,hj,H1,B7,ab hj,bf,nv0,nvS,dvI,dvB,dvS,dvL,B5,h2,h4,D9]
  ·have e:(60:Int)<(ns.length:Int):=by omega
   simp only[hv,h3,e1,e2,e3,e,h60,H3,H4,O2,D0,H2,H1,N4]
theorem r18(d:DfM)(hd:DfB d)(cs:List ClM)(hcs:∀ c∈cs,ClB c)(hcd:∀ c∈cs,c.d=d)(hcl:cs.length<=1048576)(ps:List (List PnM))(hps:∀ p∈ps,PfB p)(hpl:ps.length<=1048576):rn ⟨18,0,0⟩ [.sl (d.so.map ag),.sl (d.op.map OpM.row),.sl (d.ru.map RuM.row),.sl (d.st.map StM.row),.sl (cs.map bf),.sl (ps.map dm)]=some (0,[.bool (Di d cs ps)]):=by
 have hlp:∀ n i,i+n=ps.length->rn ⟨18,0,1⟩ [.sl (cs.map bf),.sl (ps.map dm),.sl (ps.map dm),.int (ps.length:Int),.int (i:Int),.sl (d.so.map ag),.sl (d.op.map OpM.row),.sl (d.ru.map RuM.row),.sl (d.st.map StM.row)]=bif wi d cs i (ps.drop i) then some (0,[.sl (ps.map dm)]) else some (1,[]):=by
  intro n;induction n with
  |zero =>
   intro i hi;obtain rfl:i=ps.length:=by omega
   rw[e18_0_1];simp only[B6,C1,D3,H4,H2,C6,wi,H1]
  |succ n ih =>
   intro i hi;have hlt:i<ps.length:=by omega
   have hp:=hps _ (C0 hlt);have h1:=r20 d hd cs hcs hcd hcl (i:Int) ps[i] hp.b hp.l;have h2:=ih (i+1) (by omega)
   rw[B8 hlt,e18_0_1];simp only[B6,C1,hlt,H3,H1,aq,B7,ab hlt,ae hlt (ba (by omega)),dm,nv0,nvS,dvI,dvB,dvS,dvL,B5,h1,wi]
   cases Cq d cs (i:Int) ps[i] with
   |false=>rfl
   |true=>simp only[D0,H2,D9];exact h2
 have h1:=hlp ps.length 0 (D1 _);simp only[C3,D2] at h1;rw[e18_0_0];simp only[B6,h1];unfold Di;by_cases hl:ps.length=cs.length
 ·have e:((ps.length:Int)=(cs.length:Int)):=by omega
  have e2:decide ((0:Int)<(cs.length:Int))=decide (0<cs.length):=by by_cases q:0<cs.length<;>simp[q]<;>omega
  simp only[hl,e,H3,D0,H2,D9];cases wi d cs 0 ps with
  |false=>rfl
  |true=>simp only[H1,nv0,nvS,dvI,dvB,dvS,dvL,B5,D5,H1,H2,B6,hl,e2,D9]
 ·have e:¬((ps.length:Int)=(cs.length:Int)):=by omega
  simp only[hl,e,H4,G7,H1,N4]
theorem r19(d:DfM)(hd:DfB d)(cs:List ClM)(hcs:∀ c∈cs,ClB c)(hcd:∀ c∈cs,c.d=d)(hcl:cs.length<=1048576)(ps:List (List PnM))(hps:∀ p∈ps,PfB p)(hpl:ps.length<=1048576):rn ⟨19,0,0⟩ [.sl (d.so.map ag),.sl (d.op.map OpM.row),.sl (d.ru.map RuM.row),.sl (d.st.map StM.row),.sl (cs.map bf),.sl (ps.map dm)]=some (0,[.bool (Di d cs ps)]):=by
 have hlp:∀ n i,i+n=ps.length->rn ⟨19,0,1⟩ [.sl (cs.map bf),.sl (ps.map dm),.int (i:Int),.sl (d.so.map ag),.sl (d.op.map OpM.row),.sl (d.ru.map RuM.row),.sl (d.st.map StM.row)]=bif wi d cs i (ps.drop i) then some (0,[.sl (cs.map bf)]) else some (1,[]):=by
  intro n;induction n with
  |zero =>
   intro i hi;obtain rfl:i=ps.length:=by omega
   rw[e19_0_1];simp only[B6,C1,D3,H4,H2,C6,wi,H1]
  |succ n ih =>
   intro i hi;have hlt:i<ps.length:=by omega
   have hp:=hps _ (C0 hlt);have h1:=r22 d hd cs hcs hcd hcl (i:Int) ps[i] hp.b hp.l;have h2:=ih (i+1) (by omega)
   rw[B8 hlt,e19_0_1];simp only[B6,C1,hlt,H3,H1,aq,B7,ab hlt,ae hlt (ba (by omega)),dm,nv0,nvS,dvI,dvB,dvS,dvL,B5,h1,wi]
   cases Cq d cs (i:Int) ps[i] with
   |false=>rfl
   |true=>simp only[D0,H2,D9];exact h2
 have h1:=hlp ps.length 0 (D1 _);simp only[C3,D2] at h1;rw[e19_0_0];simp only[B6,h1];unfold Di;by_cases hl:ps.length=cs.length
 ·have e:((ps.length:Int)=(cs.length:Int)):=by omega
  have e2:decide ((0:Int)<(cs.length:Int))=decide (0<cs.length):=by by_cases q:0<cs.length<;>simp[q]<;>omega
  simp only[hl,e,H3,D0,H2,D9];cases wi d cs 0 ps with
  |false=>rfl
  |true=>simp only[H1,nv0,nvS,dvI,dvB,dvS,dvL,B5,D5,H1,H2,B6,e2,D9]
 ·have e:¬((ps.length:Int)=(cs.length:Int)):=by omega
  simp only[hl,e,H4,G7,H1,N4]
theorem r15(d:DfM)(hd:DfB d)(cs:List ClM)(hcs:∀ c∈cs,ClB c)(hcd:∀ c∈cs,c.d=d)(hcl:cs.length<=1048576)(code:Int)(ps:List (List PnM))(hps:∀ p∈ps,PfB p)(hpl:ps.length<=1048576)(cl k:Int):rn ⟨15,0,0⟩ [.sl (d.so.map ag),.sl (d.op.map OpM.row),.sl (d.ru.map RuM.row),.sl (d.st.map StM.row),.sl (cs.map bf),.int code,.sl (ps.map dm),.int cl,.int k]=some (0,[.bool (Kh d cs code ps cl k)]):=by
 have h1:=r18 d hd cs hcs hcd hcl ps hps hpl;have h2:=r31 d cs hcs hcd hcl cl;rw[e15_0_0];unfold Kh;by_cases k1:code=1
 ·simp only[k1,H3,H1,if_true,h1,nv0,nvS,dvI,dvB,dvS,dvL,B5]
 by_cases k2:code=2
 ·have k21:¬(2:Int)=1:=by decide
  simp only[k2,k21,H3,H4,H1,H2,if_true,if_false,h2,nv0,nvS,dvI,dvB,dvS,dvL,B5];cases hq:jr cs cl with
  |none=>rfl
  |some g =>
   obtain⟨_,hv,ha⟩:=gm hq;obtain⟨j,rfl,hj,e⟩:=gn ha;subst e;have hg:=hcs _ (C0 hj);have h3:=r44 cs[j].v hg.v cs[j].l cs[j].r (ak _ hg.ln) cs[j].g hg.g (fun q hq=>⟨(hg.ga q hq).ln,(hg.ga q hq).rn⟩)
   rw[jk] at h3;have h4:=af4 ((dk cs[j].v cs[j].g).map fun (i:Nat)=>(i:Int)) (by rw[B6];have:=S.allC_len cs[j].v cs[j].g;unfold maxLen;omega) k
   have h5:=r45 cs[j] hg k;rw[hcd _ (C0 hj)] at h5;simp only[O5,D0,H2,B6,aq,hj,H3,H1,B7,ab hj,bf,nv0,nvS,dvI,dvB,dvS,dvL,B5,h3,h4,h5];cases nq ((dk cs[j].v cs[j].g).map fun (i:Nat)=>(i:Int)) k<;>rfl
 ·simp only[k1,k2,H4,H2,if_false]
theorem r16(d:DfM)(hd:DfB d)(cs:List ClM)(hcs:∀ c∈cs,ClB c)(hcd:∀ c∈cs,c.d=d)(hcl:cs.length<=1048576)(code:Int)(ps:List (List PnM))(hps:∀ p∈ps,PfB p)(hpl:ps.length<=1048576)(cl k:Int):rn ⟨16,0,0⟩ [.sl (d.so.map ag),.sl (d.op.map OpM.row),.sl (d.ru.map RuM.row),.sl (d.st.map StM.row),.sl (cs.map bf),.int code,.sl (ps.map dm),.int cl,.int k]=some (0,[.bool (Kh d cs code ps cl k)]):=by
 have h1:=r19 d hd cs hcs hcd hcl ps hps hpl;have h2:=r34 d cs hcs hcd hcl;rw[e16_0_0];unfold Kh;by_cases k1:code=1
 ·simp only[k1,H3,H1,if_true,h1,nv0,nvS,dvI,dvB,dvS,dvL,B5]
 by_cases k2:code=2
 ·have k21:¬(2:Int)=1:=by decide
  simp only[k2,k21,H3,H4,H1,H2,if_true,if_false,h2,nv0,nvS,dvI,dvB,dvS,dvL,B5,B6,tu (show cs.length<=1048577 by omega),rIn]
  cases hq:jr cs cl with
  |none =>
   unfold jr at hq;by_cases hc:cs.length<=3/\da cs=true
   ·rw[H5 hc] at hq
    rw[hc.2];rcases ke hq with h |h
    ·cases decide (1<=cs.length)&&decide (cs.length<=3) with
     |false=>rfl
     |true=>rw[H8 (show ¬(0:Int)<=cl by omega)];rfl
    ·cases decide (1<=cs.length)&&decide (cs.length<=3) with
     |false=>rfl
     |true=>rw[H8 (show ¬ cl<=(cs.length:Int)-1 by omega),P2];rfl
   ·have e:(da cs&&(decide (1<=cs.length)&&decide (cs.length<=3)))=false:=by
     rw[P5,P5];by_cases h3:cs.length<=3
     ·left
      cases hb:da cs with
      |false=>rfl
      |true=>exact absurd ⟨h3,hb⟩ hc
     ·exact .inr (.inr (H8 h3))
    rw[e];rfl
  |some g =>
   obtain⟨h3,hv,ha⟩:=gm hq;obtain⟨j,rfl,hj,e⟩:=gn ha;subst e;have hg:=hcs _ (C0 hj);have hgv:cs[j].valid=true:=E3.1 hv _ (C0 hj);simp only[ClM.valid,B9] at hgv;have h4:=r37 cs[j].v hg.v cs[j].l cs[j].r (ak _ hg.ln) cs[j].g hg.g (fun q hq=>⟨(hg.ga q hq).ln,(hg.ga q hq).rn⟩)
   rw[jk] at h4;have h5:=r46 ((dk cs[j].v cs[j].g).map fun (i:Nat)=>(i:Int)) (by rw[B6];have:=S.allC_len cs[j].v cs[j].g;unfold maxLen;omega) k
   have e1:(0:Int)<=(j:Int):=by omega
   have e2:(j:Int)<=(cs.length:Int)-1:=by omega
   have e3:1<=cs.length:=by omega
   simp only[hv,h3,e1,e2,e3,H3,O2,D0,H2,aq,hj,H1,B7,ab hj,bf,nv0,nvS,dvI,dvB,dvS,dvL,B5,h4,h5];cases hh:nq ((dk cs[j].v cs[j].g).map fun (i:Nat)=>(i:Int)) k with
   |false=>rfl
   |true =>
    obtain⟨i,hi,rfl⟩:=F8.1 (Ki hh);have hC:isC cs[j].v.length (i:Int)=true:=Cf hi;have h6:=r39 cs[j].v cs[j].l (ak _ hg.ln) (i:Int);rw[<-lx hC] at h6;have h7:=r40 cs[j].v cs[j].l cs[j].r (ak _ hg.rn) (cs[j].g.map Gu.row) (i:Int);have hcf:cfg cs[j].d (S.instR cs[j].v cs[j].l (i:Int))=true:=by rw[lx hC];exact wb hgv.1 hC
    rw[hcd _ (C0 hj)] at hcf;have h8:=r38 d hd _ (qk hg.wl (i:Int)) hcf (S.instR cs[j].v cs[j].r (i:Int));simp only[H1,h6,h7,h8,nv0,nvS,dvI,dvB,dvS,dvL,B5,D9]
 ·simp only[k1,k2,H4,H2,if_false]
theorem r243(l:List Bnd)(hl:l.length<=1048576)(hs:∀ b∈l,au b.2)(s:ByteArray):rn ⟨243,0,0⟩ [.sl (l.map Bnd.row),.str s]=match bnd l s with
 |some t=>some (0,[.int t.k,.int t.n,.str t.s,.bool true,.sl (t.as.map Tm.row)])
 |none=>some (0,[.int 0,.int 0,.str ⟨#[]⟩,.bool false,.sl []]):=by
 have hb:=r184 l hl s;rw[e243_0_0,hb];cases hq:bnd l s with
 |some t =>
  obtain⟨b,hbm,rfl⟩:=eh hq;have hc:=r118 b.2 (hs b hbm);simp only[nv0,nvS,dvI,dvB,dvS,dvL,B5,hc]
 |none =>
  have hc:=r118 tm0 (kq ..);have hc':rn ⟨118,0,0⟩ [.int 0,.int 0,.str ⟨#[]⟩,.sl []]=_:=hc;simp only[nv0,nvS,dvI,dvB,dvS,dvL,B5,hc'];rfl
theorem r207(l:List Bnd)(hl:l.length<=1048576)(hs:∀ b∈l,au b.2)(ns:List ByteArray)(hn:ns.length<=1048577):rn ⟨207,0,0⟩ [.sl (l.map Bnd.row),.sl (ns.map ag)]=some (0,[.sl ((rsB l (bx ns)).map Bnd.row)]):=by
 have h1:=r214 ns (by omega)
 have hsl:=dl ns;rw[e207_0_0,h1];generalize bx ns=ms at hsl ⊢;have key:∀ n i (acc:List Bnd),i+n=ms.length->acc.length<=i->rn ⟨207,0,1⟩ [.sl (l.map Bnd.row),.int (ms.length:Int),.int (i:Int),.sl (acc.map Bnd.row),.sl (ms.map ag)]=some (0,[.sl ((acc++rsB l (ms.drop i)).map Bnd.row)]):=by
  intro n;induction n with
  |zero =>
   intro i acc hi ha;obtain rfl:i=ms.length:=by omega
   rw[e207_0_1];simp only[B6,C1,D3,H4,H2,C6,rsB,List.filterMap_nil,G5]
  |succ n ih =>
   intro i acc hi ha;have hlt:i<ms.length:=by omega
   rw[e207_0_1,B8 hlt,Jt];have hbd:=r243 l hl hs ms[i];have hb2:F5 (acc.length+1) M63=true:=nb (by omega)
   simp only[B6,C1,hlt,H3,H1,aq,B7,ab hlt,ae hlt (ba (by omega)),ag,nv0,nvS,dvI,dvB,dvS,dvL,B5,hbd]
   cases hq:bnd l ms[i] with
   |none =>
    have h2:=ih (i+1) acc (by omega) (by omega)
    simp only[nv0,nvS,dvI,dvB,dvS,dvL,B5,H2,h2]
   |some v =>
    have h2:=ih (i+1) (acc++[(ms[i],v)]) (by omega) (by simp;omega)
    simp only[D6,C4,D4,gq,ag] at h2;simp only[nv0,nvS,dvI,dvB,dvS,dvL,B5,H1,C2,C5,D1,hb2,h2,D6,C4,E2,F2,D8,gq]
 have h:=key ms.length 0 [] (by omega) (G9 _)
 simp only[C3,D4,D2,D8] at h;simp only[B6,h,nv0,nvS,dvI,dvB,dvS,dvL,B5,D5,H1,H2]
theorem r208(t:Tm)(h:t.nodes<=1048577):rn ⟨208,0,0⟩ [.int t.k,.int t.n,.str t.s,.sl (t.as.map Tm.row)]=some (0,[.sl ((bx t.names).map ag)]):=by
 have h1:=r220 t h;have hnl:=br t;have h2:=r214 t.names (by omega)
 rw[e208_0_0];simp only[h1,nv0,nvS,dvI,dvB,dvS,dvL,B5,h2]
theorem r150(t u:Tm)(ht:t.nodes<=1048576)(hu:au u):rn ⟨150,0,0⟩ [.int t.k,.int t.n,.str t.s,.sl (t.as.map Tm.row),.int u.k,.int u.n,.str u.s,.sl (u.as.map Tm.row)]=some (0,foI ((mT t u []).map (rsl t)) []):=by
 have h1:=mI1 t u [] hu (by simp) (by simpa using ht)
 have h3:=r208 t (by omega)
 have hnl:=br t;have hsl:=dl t.names;rw[e150_0_0];simp only[D4] at h1;rw[h1];cases hq:mT t u [] with
 |none=>simp only[foI,nv0,nvS,dvI,dvB,dvS,dvL,B5,U1];rfl
 |some l =>
  have hls:=kz au (fun t a h ha=>h.sub ha) t u [] l hu (by simp) hq
  have hln:=xo _ _ _ _ hq;simp only[C5] at hln;have h4:=r207 l (by omega) hls (bx t.names) (by omega)
  simp only[foI,nv0,nvS,dvI,dvB,dvS,dvL,B5,D5,H1,H2,D0,h3,h4,K2,rsl]
theorem Ve{t u:Tm}{l:List Bnd}(ht:t.nodes<=1048576)(hu:au u)(h:mT t u []=some l):(rsl t l).length<=1048576/\∀ b∈rsl t l,au b.2:=by
 have hls:=kz au (fun t a h ha=>h.sub ha) t u [] l hu (by simp) h
 have h1:=dl t.names;have h2:=dl (bx t.names);have h3:=br t;refine⟨J0 (S8 ..) (by omega),fun b hb=>hls _ (Kk hb).2⟩
theorem r91(cs:List ClM)(hcs:∀ c∈cs,ClB c)(hln:∀ c∈cs,c.l.nodes<=60)(hcl:cs.length<=1048576)(j:Nat)(hj:j<cs.length)(t:Tm)(ht:au t)(cl op:List Int)(hl:op.length<=1048576)(hk:∀ k∈op,isC cs[j].v.length k=true):rn ⟨91,0,0⟩ [.sl (cs.map bf),.int (j:Int),.sl (cs[j].v.map ag),.int t.k,.int t.n,.str t.s,.sl (t.as.map Tm.row),.sl (cl.map am),.sl (op.map am)]=some (0,se (js cs[j] t op cs 0)):=by
 have hgu:∀ c∈cs,∀ q∈c.g,q.ok:=fun c hc q hq=>⟨((hcs c hc).ga q hq).ln,((hcs c hc).ga q hq).rn⟩
 have hg:=hcs _ (C0 hj);have hin:∀ (i:Nat) (hi:i<cs.length) (sub:List Bnd),sub.length<=1048576->(∀ b∈sub,au b.2)->∀ n m (ok:Bool),m+n=op.length->rn ⟨91,0,3⟩ [.sl (cs.map bf),.int (j:Int),.sl (op.map am),.int (i:Int),.bool ok,.sl (cs.map bf),.int (cs.length:Int),.int (i:Int),.sl (op.map am),.int (op.length:Int),.int (m:Int),.sl (cs[j].v.map ag),.int t.k,.int t.n,.str t.s,.sl (t.as.map Tm.row),.sl (cl.map am),.int 0,.int 0,.sl (cs[i].v.map ag),.int (cs[i].l).k,.int (cs[i].l).n,.str (cs[i].l).s,.sl ((cs[i].l).as.map Tm.row),.int (cs[i].r).k,.int (cs[i].r).n,.str (cs[i].r).s,.sl ((cs[i].r).as.map Tm.row),.sl (cs[i].g.map Gu.row),.sl (sub.map Bnd.row),.sl [],.sl []]=some (0,[.sl (cs.map bf),.int (j:Int),.sl (op.map am),.int (i:Int),.bool (ok&&(op.drop m).all (pi cs[i] sub cs[j] t)),.sl (cs.map bf),.int (cs.length:Int),.int (i:Int),.sl (cs[j].v.map ag),.int t.k,.int t.n,.str t.s,.sl (t.as.map Tm.row),.sl (cl.map am),.int 0,.int 0,.sl (sub.map Bnd.row),.sl [],.sl []]):=by
  intro i hi sub hs1 hs2 n;induction n with
  |zero =>
   intro m ok hm;obtain rfl:m=op.length:=by omega
   rw[e91_0_3];simp only[B6,C1,D3,H4,H2,C6,K8,Bool.and_true]
  |succ n ih =>
   intro m ok hm;have hlt:m<op.length:=by omega
   rw[B8 hlt,J2,e91_0_3];have h1:=r84 cs[i] (hcs _ (C0 hi)) sub hs1 hs2 cs[j] hg t ht cl op[m] (hk _ (C0 hlt)) (hgu _ (C0 hi));cases ok with
   |false =>
    have h2:=ih (m+1) false (by omega)
    simp only[B6,C1,hlt,H3,H1,aq,B7,ab hlt,ae hlt (ba (by omega)),H2,h2,N4]
   |true =>
    have h2:=ih (m+1) (pi cs[i] sub cs[j] t op[m]) (by omega)
    simp only[B6,C1,hlt,H3,H1,aq,B7,ab hlt,ae hlt (ba (by omega)),hj,ab hj,bf,am,nv0,nvS,dvI,dvB,dvS,dvL,B5,h1,h2,D9]
 have hlp:∀ n i,i+n=cs.length->rn ⟨91,0,1⟩ [.sl (cs.map bf),.int (j:Int),.sl (op.map am),.sl (cs.map bf),.int (cs.length:Int),.int (i:Int),.sl (cs[j].v.map ag),.int t.k,.int t.n,.str t.s,.sl (t.as.map Tm.row),.sl (cl.map am),.int 0,.int 0,.sl [],.sl []]=match js cs[j] t op (cs.drop i) i with
  |some x=>some (1,[.int x.k,.int x.c,.sl (x.nx.map am),.sl (x.s.map Bnd.row)])
  |none=>some (0,[.int 0,.int 0,.sl [],.sl []]):=by
  intro n;induction n with
  |zero =>
   intro i hi;obtain rfl:i=cs.length:=by omega
   rw[e91_0_1];simp only[B6,C1,D3,H4,H2,C6,js]
  |succ n ih =>
   intro i hi;have hlt:i<cs.length:=by omega
   have hci:=C0 hlt;have h1:=r150 cs[i].l t (by have:=hln _ hci;omega) ht
   have h0:=ih (i+1) (by omega)
   rw[B8 hlt,e91_0_1];simp only[B6,C1,hlt,H3,H1,aq,B7,ab hlt,ae hlt (ba (by omega)),bf,nv0,nvS,dvI,dvB,dvS,dvL,B5,h1,js]
   cases hq:mT cs[i].l t [] with
   |none =>
    have h2:=hin i hlt [] (by simp) (by simp) op.length 0 false (D1 _)
    simp only[C3,D4,N4] at h2;simp only[U1,foI,nv0,nvS,dvI,dvB,dvS,dvL,B5,h2,D5,H1,H2,ae hlt (ba (by omega)),h0]
   |some l =>
    obtain⟨q1,q2⟩:=Ve (by have:=hln _ hci;omega) ht hq
    have h2:=hin i hlt (rsl cs[i].l l) q1 q2 op.length 0 true (D1 _);simp only[C3,D9,D2] at h2;simp only[K2,foI,nv0,nvS,dvI,dvB,dvS,dvL,B5,h2,D5,H1,H2,ae hlt (ba (by omega)),h0]
    cases op.all (pi cs[i] (rsl cs[i].l l) cs[j] t)<;>rfl
 have h1:=hlp cs.length 0 (D1 _);simp only[C3,D2] at h1;rw[e91_0_0];simp only[B6,h1];cases js cs[j] t op cs 0<;>rfl
theorem r92(cs:List ClM)(hcs:∀ c∈cs,ClB c)(hln:∀ c∈cs,c.l.nodes<=60)(hcl:cs.length<=1048576)(j:Nat)(hj:j<cs.length)(t:Tm)(ht:au t)(op:List Int)(hl:op.length<=1048576)(hk:∀ k∈op,isC cs[j].v.length k=true):rn ⟨92,0,0⟩ [.sl (cs.map bf),.int (j:Int),.sl (cs[j].v.map ag),.int t.k,.int t.n,.str t.s,.sl (t.as.map Tm.row),.sl (op.map am)]=some (0,se (js cs[j] t op cs 0)):=by
 have hgu:∀ c∈cs,∀ q∈c.g,q.ok:=fun c hc q hq=>⟨((hcs c hc).ga q hq).ln,((hcs c hc).ga q hq).rn⟩
 have hlp:∀ n i,i+n=cs.length->rn ⟨92,0,1⟩ [.sl (cs.map bf),.int (j:Int),.int (i:Int),.sl (cs[j].v.map ag),.int t.k,.int t.n,.str t.s,.sl (t.as.map Tm.row),.sl (op.map am),.int 0,.int 0,.sl [],.sl []]=match js cs[j] t op (cs.drop i) i with
  |some x=>some (1,[.int x.k,.int x.c,.sl (x.nx.map am),.sl (x.s.map Bnd.row)])
  |none=>some (0,[.int 0,.int 0,.sl [],.sl []]):=by
  intro n;induction n with
  |zero =>
   intro i hi;obtain rfl:i=cs.length:=by omega
   rw[e92_0_1];simp only[B6,C1,D3,H4,H2,C6,js]
  |succ n ih =>
   intro i hi;have hlt:i<cs.length:=by omega
   have hci:=C0 hlt;have h1:=r151 cs[i].l t (by have:=hln _ hci;omega) ht
   have h0:=ih (i+1) (by omega)
   rw[B8 hlt,e92_0_1];simp only[B6,C1,hlt,H3,H1,aq,B7,ab hlt,ae hlt (ba (by omega)),bf,nv0,nvS,dvI,dvB,dvS,dvL,B5,h1,js]
   cases hq:mT cs[i].l t [] with
   |none=>simp only[U1,foI,nv0,nvS,dvI,dvB,dvS,dvL,B5,H2,h0]
   |some l =>
    obtain⟨q1,q2⟩:=Ve (by have:=hln _ hci;omega) ht hq
    have h2:=r86 cs hcs hgu hcl j hj ⟨3,[],(i:Int),rsl cs[i].l l⟩ ⟨G9 _,q1,q2⟩ t ht op hl hk;simp only[Vd hlt,D4] at h2;unfold rsl at h2 ⊢;simp only[K2,foI,nv0,nvS,dvI,dvB,dvS,dvL,B5,h2,H1];cases op.all (pi cs[i] (rsB l (bx (bx cs[i].l.names))) cs[j] t) with
    |true=>rfl
    |false=>simp only[H2,h0,N6,if_false]
 have h1:=hlp cs.length 0 (D1 _);simp only[C3,D2] at h1;rw[e92_0_0];simp only[h1];cases js cs[j] t op cs 0<;>rfl
theorem Dh(d:DfM)(hd:DfB d)(cs:List ClM)(hcs:∀ c∈cs,ClB c)(hln:∀ c∈cs,c.l.nodes<=60)(hcl:cs.length<=1048576)(j:Nat)(hj:j<cs.length):∀ (r:Nat) (t:Tm) (cl:List Int) (P:List PnM),r<=12->P.length<=60->StG d cs[j].v t cl →
 ∃ X:aa,rn ⟨53,0,0⟩ [.sl (d.so.map ag),.sl (d.op.map OpM.row),.sl (d.ru.map RuM.row),.sl (d.st.map StM.row),.sl (cs.map bf),.int (j:Int),.sl (cs[j].v.map ag),.int t.k,.int t.n,.str t.s,.sl (t.as.map Tm.row),.sl (cl.map am),.bool (decide (r<12)),.int ((12-r:Nat):Int),.sl (P.map PnM.row)]=match fnd d cs cs[j] r P.length t cl with
  |some n=>some (0,[.bool true,.sl ((P++n).map PnM.row)])
  |none=>some (0,[.bool false,.sl X]):=by
 have hg:=hcs _ (C0 hj);intro r;induction r with
 |zero =>
  intro t cl P hr hP hs;have hsm:=ak t (by have:=hs.n;omega)
  have hci:=ce cl none hs.c;have h1:=opI cs[j] hg t hsm cl (by have:=hs.l;omega) hci
  have hso:StG d cs[j].v t (opC cs[j] t cl):=hs.op (N8);have hol:=hso.l;have h2:=r91 cs hcs hln hcl j hj t hsm cl (opC cs[j] t cl) (by omega) (ce _ none hso.c)
  have b61:F5 (P.length+1) M63=true:=b63 (by omega)
  rw[e53_0_0];simp only[B6,aq,hj,H3,H1,B7,ab hj,bf,nv0,nvS,dvI,dvB,dvS,dvL,B5,h1,fnd];by_cases e60:P.length=60
  ·have e:((P.length:Int)=60):=by omega
   rw[Ac e60];exact⟨_,by simp only[e,H3,H1];rfl⟩
  have e:¬((P.length:Int)=60):=by omega
  simp only[e,H4,H2];by_cases e0:(opC cs[j] t cl).length=0
  ·rw[Hc e60 e0]
   exact⟨[],by simp only[e0,C3,H3,H1,C2,C5,D1,b61,D6,C4,D4,PnM.row]⟩
  have e0':¬(((opC cs[j] t cl).length:Int)=0):=by omega
  have e12:((12:Int)<=((12-0:Nat):Int)):=by decide
  simp only[e0',H4,H2,show decide ((0:Nat)<12)=true from rfl,H1,h2]
  cases js cs[j] t (opC cs[j] t cl) cs 0 with
  |some x =>
   rw[Hd e60 e0];exact⟨[],by simp only[se,nv0,nvS,dvI,dvB,dvS,dvL,B5,H1,C2,C5,D1,b61,D6,C4,D4,PnM.row]⟩
  |none =>
   rw[ya e60 e0];exact⟨_,by simp only[se,nv0,nvS,dvI,dvB,dvS,dvL,B5,H2,e12,H3,H1];rfl⟩
 |succ r ih =>
  intro t cl P hr hP hs;have hsm:=ak t (by have:=hs.n;omega)
  have hci:=ce cl none hs.c;have h1:=opI cs[j] hg t hsm cl (by have:=hs.l;omega) hci
  have hso:StG d cs[j].v t (opC cs[j] t cl):=hs.op (N8);have hol:=hso.l;have h2:=r91 cs hcs hln hcl j hj t hsm cl (opC cs[j] t cl) (by omega) (ce _ none hso.c)
  have h3:=r75 (cs[j].v.map ag) (cl.map am) ((opC cs[j] t cl).map am) t hsm (by rw[B6];have:=hg.v;omega) (by rw[B6];omega)
  obtain⟨s1,s2,s3⟩:=hso.sy hd hg;have h4:=r83 _ s1 s2;rw[s3] at h4;unfold SyM.row at h4;simp only at h4;have hmem:∀ b∈brF d cs[j].v t (opC cs[j] t cl) [],bK d t b.1=2->StG d cs[j].v (bT d t b.1) b.2:=fun b hb hk=>hso.next hd hb hk
  have hLl:(brF d cs[j].v t (opC cs[j] t cl) []).length<=64:=by
   have:=(rh hd hso.w hso.s (P:=fun _=>True) (opC cs[j] t cl) 0 [] (fun c hc=>⟨ce _ none hso.c c hc,trivial⟩) ⟨E8 _,by simp⟩ (by simp) (by simp)).1.l
   omega
  have b61:F5 (P.length+1) M63=true:=b63 (by omega)
  rw[e53_0_0];simp only[B6,aq,hj,H3,H1,B7,ab hj,bf,nv0,nvS,dvI,dvB,dvS,dvL,B5,h1,fnd];by_cases e60:P.length=60
  ·have e:((P.length:Int)=60):=by omega
   rw[Ac e60];exact⟨_,by simp only[e,H3,H1];rfl⟩
  have e:¬((P.length:Int)=60):=by omega
  simp only[e,H4,H2];by_cases e0:(opC cs[j] t cl).length=0
  ·rw[Hc e60 e0]
   exact⟨[],by simp only[e0,C3,H3,H1,C2,C5,D1,b61,D6,C4,D4,PnM.row]⟩
  have e0':¬(((opC cs[j] t cl).length:Int)=0):=by omega
  have e12:¬((12:Int)<=((12-(r+1):Nat):Int)):=by omega
  simp only[e0',H4,H2];generalize brF d cs[j].v t (opC cs[j] t cl) []=L at hmem hLl h4 ⊢;have hL1:rn ⟨53,0,1⟩ [.sl (cs.map bf),.int (j:Int),.int ((12-(r+1):Nat):Int),.int (P.length:Int),.int (L.length:Int),.int 0,.sl (d.so.map ag),.sl (d.op.map OpM.row),.sl (d.ru.map RuM.row),.sl (d.st.map StM.row),.sl (L.map (bj d cs[j].v t)),.sl (P.map PnM.row)]=bif L.all (fun b=>decide (bK d t b.1=2)) then some (0,[.sl (cs.map bf),.int (j:Int),.int ((12-(r+1):Nat):Int),.int (P.length:Int),.sl (d.so.map ag),.sl (d.op.map OpM.row),.sl (d.ru.map RuM.row),.sl (d.st.map StM.row),.sl (L.map (bj d cs[j].v t)),.sl (P.map PnM.row)]) else some (1,[.sl (P.map PnM.row)]):=by
   have key:∀ n i,i+n=L.length->rn ⟨53,0,1⟩ [.sl (cs.map bf),.int (j:Int),.int ((12-(r+1):Nat):Int),.int (P.length:Int),.int (L.length:Int),.int (i:Int),.sl (d.so.map ag),.sl (d.op.map OpM.row),.sl (d.ru.map RuM.row),.sl (d.st.map StM.row),.sl (L.map (bj d cs[j].v t)),.sl (P.map PnM.row)]=bif (L.drop i).all (fun b=>decide (bK d t b.1=2)) then some (0,[.sl (cs.map bf),.int (j:Int),.int ((12-(r+1):Nat):Int),.int (P.length:Int),.sl (d.so.map ag),.sl (d.op.map OpM.row),.sl (d.ru.map RuM.row),.sl (d.st.map StM.row),.sl (L.map (bj d cs[j].v t)),.sl (P.map PnM.row)]) else some (1,[.sl (P.map PnM.row)]):=by
    intro n;induction n with
    |zero =>
     intro i hi;obtain rfl:i=L.length:=by omega
     rw[e53_0_1];simp only[B6,C1,D3,H4,H2,C6,K8,H1]
    |succ n ih2 =>
     intro i hi;have hlt:i<L.length:=by omega
     have h5:=ih2 (i+1) (by omega)
     rw[B8 hlt,J2,e53_0_1];simp only[B6,C1,hlt,H3,H1,aq,B7,ab hlt,ae hlt (ba (by omega)),bj,nv0,nvS,dvI,dvB,dvS,dvL,B5]
     cases decide (bK d t L[i].1=2) with
     |false=>rfl
     |true=>simp only[D0,H2,D9];exact h5
   have:=key L.length 0 (D1 _);simpa only[C3,D2] using this
  have hP1:P.map PnM.row++[[.int 2,.sl [],.int 0,.sl []]]=(P++[(⟨2,[],0,[]⟩:PnM)]).map PnM.row:=by rw[D6];rfl
  have hL3:L.all (fun b=>decide (bK d t b.1=2))=true->∃ Y:aa,rn ⟨53,0,3⟩ [.sl (cs.map bf),.int (j:Int),.int ((12-(r+1):Nat):Int),.int (P.length:Int),.int (L.length:Int),.int 0,.sl (d.so.map ag),.sl (d.op.map OpM.row),.sl (d.ru.map RuM.row),.sl (d.st.map StM.row),.sl [],.sl (L.map (bj d cs[j].v t)),.sl ((P++[(⟨2,[],0,[]⟩:PnM)]).map PnM.row)]=match chl (fnd d cs cs[j] r) d t L (P.length+1) with
   |some y=>some (0,[.int (P.length:Int),.sl (y.1.map am),.sl ((P++[(⟨2,[],0,[]⟩:PnM)]++y.2).map PnM.row)])
   |none=>some (1,[.sl Y]):=by
   intro hall;have key:∀ n i (N:List Int) (Q:List PnM),i+n=L.length->Q.length<=60->N.length<=i->∃ Y:aa,rn ⟨53,0,3⟩ [.sl (cs.map bf),.int (j:Int),.int ((12-(r+1):Nat):Int),.int (P.length:Int),.int (L.length:Int),.int (i:Int),.sl (d.so.map ag),.sl (d.op.map OpM.row),.sl (d.ru.map RuM.row),.sl (d.st.map StM.row),.sl (N.map am),.sl (L.map (bj d cs[j].v t)),.sl (Q.map PnM.row)]=match chl (fnd d cs cs[j] r) d t (L.drop i) Q.length with
    |some y=>some (0,[.int (P.length:Int),.sl ((N++y.1).map am),.sl ((Q++y.2).map PnM.row)])
    |none=>some (1,[.sl Y]):=by
    intro n;induction n with
    |zero =>
     intro i N Q hi hQ hN;obtain rfl:i=L.length:=by omega
     refine⟨[],?_⟩;rw[e53_0_3];simp only[B6,C1,D3,H4,H2,C6,chl,G5]
    |succ n ih2 =>
     intro i N Q hi hQ hN;have hlt:i<L.length:=by omega
     have hk2:bK d t L[i].1=2:=by simpa using E3.1 hall _ (C0 hlt)
     obtain⟨X,h5⟩:=ih (bT d t L[i].1) L[i].2 Q (by omega) hQ (hmem _ (C0 hlt) hk2)
     have hdt:decide (r<12)=true:=H7 (by omega)
     have hdd:IntKind.i64.wrap (((12-(r+1):Nat):Int)+1)=((12-r:Nat):Int):=by rw[IntWalk.i64_in _ (by omega)];omega
     have b1:F5 (N.length+1) M63=true:=b63 (by omega)
     rw[hdt] at h5;rw[B8 hlt,e53_0_3];simp only[B6,C1,hlt,H3,H1,aq,B7,ab hlt,ae hlt (ba (by omega)),bj,nv0,nvS,dvI,dvB,dvS,dvL,B5,C2,C5,D1,b1,hdd,h5,chl]
     cases hf:fnd d cs cs[j] r Q.length (bT d t L[i].1) L[i].2 with
     |none=>exact⟨X,rfl⟩
     |some n1 =>
      have hq1:=nv d cs cs[j] r _ _ _ n1 hQ hf;obtain⟨Y,h6⟩:=ih2 (i+1) (N++[(Q.length:Int)]) (Q++n1) (by omega) (by rw[E6];omega) (by simp;omega)
      refine⟨Y,?_⟩;rw[E6] at h6;have e5:N.map am++[[.int (Q.length:Int)]]=(N++[(Q.length:Int)]).map am:=by rw[D6];rfl
      simp only[nv0,nvS,dvI,dvB,dvS,dvL,B5,D0,H2,e5,h6];cases chl (fnd d cs cs[j] r) d t (L.drop (i+1)) (Q.length+n1.length) with
      |none=>rfl
      |some y=>simp only[E2,F2,D8]
   obtain⟨Y,h5⟩:=key L.length 0 [] (P++[(⟨2,[],0,[]⟩:PnM)]) (D1 _) (by simp;omega) (E8 _)
   refine⟨Y,?_⟩;simpa only[C3,D4,D2,D8,E6,C2,C5,D1] using h5
  by_cases h12:r+1<12
  ·simp only[h12,H3,H1,h2,if_true]
   cases js cs[j] t (opC cs[j] t cl) cs 0 with
   |some x =>
    rw[Hd e60 e0];exact⟨[],by simp only[se,nv0,nvS,dvI,dvB,dvS,dvL,B5,H1,C2,C5,D1,b61,D6,C4,D4,PnM.row]⟩
   |none =>
    rw[ya e60 e0];simp only[se,nv0,nvS,dvI,dvB,dvS,dvL,B5,H2];simp only[e12,H4,H2,h3,nv0,nvS,dvI,dvB,dvS,dvL,B5,h4,B6,hL1];cases hall:L.all fun b=>decide (bK d t b.1=2) with
    |false=>exact⟨_,by simp only[H2,nv0,nvS,dvI,dvB,dvS,dvL,B5,D5,H1,H2,N6,if_false];rfl⟩
    |true =>
     obtain⟨Y,hL3⟩:=hL3 hall;simp only[H1,nv0,nvS,dvI,dvB,dvS,dvL,B5,D5,H1,H2,C2,C5,B6,D1,b61,if_true];rw[hP1,hL3];cases chl (fnd d cs cs[j] r) d t L (P.length+1) with
     |none=>exact⟨Y,rfl⟩
     |some y =>
      have hib:P.length<(P++(⟨2,[],0,[]⟩:PnM)::y.2).length:=by simp
      refine⟨[],?_⟩;simp only[nv0,nvS,dvI,dvB,dvS,dvL,B5,D5,H1,H2,mk2,E2,F2,D8,aq,B6,hib,H3,H1,B7,wj]
  ·simp only[h12,H4,H2,if_false]
   rw[ya e60 e0];simp only[e12,H4,H2,h3,nv0,nvS,dvI,dvB,dvS,dvL,B5,h4,B6,hL1];cases hall:L.all fun b=>decide (bK d t b.1=2) with
   |false=>exact⟨_,by simp only[H2,nv0,nvS,dvI,dvB,dvS,dvL,B5,D5,H1,H2,N6,if_false];rfl⟩
   |true =>
    obtain⟨Y,hL3⟩:=hL3 hall;simp only[H1,nv0,nvS,dvI,dvB,dvS,dvL,B5,D5,H1,H2,C2,C5,B6,D1,b61,if_true];rw[hP1,hL3];cases chl (fnd d cs cs[j] r) d t L (P.length+1) with
    |none=>exact⟨Y,rfl⟩
    |some y =>
     have hib:P.length<(P++(⟨2,[],0,[]⟩:PnM)::y.2).length:=by simp
     refine⟨[],?_⟩;simp only[nv0,nvS,dvI,dvB,dvS,dvL,B5,D5,H1,H2,mk2,E2,F2,D8,aq,B6,hib,H3,H1,B7,wj]
theorem aj8(d:DfM)(hd:DfB d)(cs:List ClM)(hcs:∀ c∈cs,ClB c)(hln:∀ c∈cs,c.l.nodes<=60)(hcl:cs.length<=1048576)(j:Nat)(hj:j<cs.length):∀ (r:Nat) (t:Tm) (cl:List Int) (P:List PnM),r<=12->P.length<=60->StG d cs[j].v t cl →
 ∃ X:aa,rn ⟨54,0,0⟩ [.sl (d.so.map ag),.sl (d.op.map OpM.row),.sl (d.ru.map RuM.row),.sl (d.st.map StM.row),.sl (cs.map bf),.int (j:Int),.sl (cs[j].v.map ag),.int t.k,.int t.n,.str t.s,.sl (t.as.map Tm.row),.sl (cl.map am),.int ((12-r:Nat):Int),.sl (P.map PnM.row)]=match fnd d cs cs[j] r P.length t cl with
  |some n=>some (0,[.bool true,.sl ((P++n).map PnM.row)])
  |none=>some (0,[.bool false,.sl X]):=by
 have hg:=hcs _ (C0 hj);intro r;induction r with
 |zero =>
  intro t cl P hr hP hs;have hsm:=ak t (by have:=hs.n;omega)
  have hci:=ce cl none hs.c;have h1:=r85 cs[j] hg t hsm cl (by have:=hs.l;omega) hci
  have hso:StG d cs[j].v t (opC cs[j] t cl):=hs.op (N8);have hol:=hso.l;have h2:=r92 cs hcs hln hcl j hj t hsm (opC cs[j] t cl) (by omega) (ce _ none hso.c)
  obtain⟨s1,s2,s3⟩:=hso.sy hd hg;have h4:=r87 _ s1;unfold SyM.row at h4;simp only at h4;have b61:F5 (P.length+1) M63=true:=b63 (by omega)
  rw[e54_0_0];simp only[B6,aq,hj,H3,H1,B7,ab hj,bf,nv0,nvS,dvI,dvB,dvS,dvL,B5,h1,fnd];by_cases e60:P.length=60
  ·have e:((P.length:Int)=60):=by omega
   rw[Ac e60];exact⟨_,by simp only[e,H3,H1];rfl⟩
  have e:¬((P.length:Int)=60):=by omega
  simp only[e,H4,H2];by_cases e0:(opC cs[j] t cl).length=0
  ·rw[Hc e60 e0]
   exact⟨[],by simp only[e0,C3,H3,H1,C2,C5,D1,b61,D6,C4,D4,PnM.row]⟩
  have e0':¬(((opC cs[j] t cl).length:Int)=0):=by omega
  have e12:((12:Int)<=((12-0:Nat):Int)):=by decide
  have ed:((0:Int)<((12-0:Nat):Int)):=by decide
  simp only[e0',ed,H3,H4,H1,H2,h2];cases js cs[j] t (opC cs[j] t cl) cs 0 with
  |some x =>
   rw[Hd e60 e0];exact⟨[],by simp only[se,nv0,nvS,dvI,dvB,dvS,dvL,B5,H1,C2,C5,D1,b61,D6,C4,D4,PnM.row]⟩
  |none =>
   rw[ya e60 e0];exact⟨_,by simp only[se,nv0,nvS,dvI,dvB,dvS,dvL,B5,H2,h4,e12,H3,H1];rfl⟩
 |succ r ih =>
  intro t cl P hr hP hs;have hsm:=ak t (by have:=hs.n;omega)
  have hci:=ce cl none hs.c;have h1:=r85 cs[j] hg t hsm cl (by have:=hs.l;omega) hci
  have hso:StG d cs[j].v t (opC cs[j] t cl):=hs.op (N8);have hol:=hso.l;have h2:=r92 cs hcs hln hcl j hj t hsm (opC cs[j] t cl) (by omega) (ce _ none hso.c)
  obtain⟨s1,s2,s3⟩:=hso.sy hd hg;have h4:=r87 _ s1;rw[s3] at h4;unfold SyM.row at h4;simp only at h4;have hmem:∀ b∈brF d cs[j].v t (opC cs[j] t cl) [],bK d t b.1=2->StG d cs[j].v (bT d t b.1) b.2:=fun b hb hk=>hso.next hd hb hk
  have hLl:(brF d cs[j].v t (opC cs[j] t cl) []).length<=64:=by
   have:=(rh hd hso.w hso.s (P:=fun _=>True) (opC cs[j] t cl) 0 [] (fun c hc=>⟨ce _ none hso.c c hc,trivial⟩) ⟨E8 _,by simp⟩ (by simp) (by simp)).1.l
   omega
  have b61:F5 (P.length+1) M63=true:=b63 (by omega)
  rw[e54_0_0];simp only[B6,aq,hj,H3,H1,B7,ab hj,bf,nv0,nvS,dvI,dvB,dvS,dvL,B5,h1,fnd];by_cases e60:P.length=60
  ·have e:((P.length:Int)=60):=by omega
   rw[Ac e60];exact⟨_,by simp only[e,H3,H1];rfl⟩
  have e:¬((P.length:Int)=60):=by omega
  simp only[e,H4,H2];by_cases e0:(opC cs[j] t cl).length=0
  ·rw[Hc e60 e0]
   exact⟨[],by simp only[e0,C3,H3,H1,C2,C5,D1,b61,D6,C4,D4,PnM.row]⟩
  have e0':¬(((opC cs[j] t cl).length:Int)=0):=by omega
  have e12:¬((12:Int)<=((12-(r+1):Nat):Int)):=by omega
  simp only[e0',H4,H2];generalize brF d cs[j].v t (opC cs[j] t cl) []=L at hmem hLl h4 ⊢;have hL1:rn ⟨54,0,1⟩ [.sl (cs.map bf),.int (j:Int),.int ((12-(r+1):Nat):Int),.int (P.length:Int),.int 0,.sl (d.so.map ag),.sl (d.op.map OpM.row),.sl (d.ru.map RuM.row),.sl (d.st.map StM.row),.sl (L.map (bj d cs[j].v t)),.sl (P.map PnM.row)]=bif L.all (fun b=>decide (bK d t b.1=2)) then some (0,[.sl (cs.map bf),.int (j:Int),.int ((12-(r+1):Nat):Int),.int (P.length:Int),.sl (d.so.map ag),.sl (d.op.map OpM.row),.sl (d.ru.map RuM.row),.sl (d.st.map StM.row),.sl (L.map (bj d cs[j].v t)),.sl (P.map PnM.row)]) else some (1,[.sl (P.map PnM.row)]):=by
   have key:∀ n i,i+n=L.length->rn ⟨54,0,1⟩ [.sl (cs.map bf),.int (j:Int),.int ((12-(r+1):Nat):Int),.int (P.length:Int),.int (i:Int),.sl (d.so.map ag),.sl (d.op.map OpM.row),.sl (d.ru.map RuM.row),.sl (d.st.map StM.row),.sl (L.map (bj d cs[j].v t)),.sl (P.map PnM.row)]=bif (L.drop i).all (fun b=>decide (bK d t b.1=2)) then some (0,[.sl (cs.map bf),.int (j:Int),.int ((12-(r+1):Nat):Int),.int (P.length:Int),.sl (d.so.map ag),.sl (d.op.map OpM.row),.sl (d.ru.map RuM.row),.sl (d.st.map StM.row),.sl (L.map (bj d cs[j].v t)),.sl (P.map PnM.row)]) else some (1,[.sl (P.map PnM.row)]):=by
    intro n;induction n with
    |zero =>
     intro i hi;obtain rfl:i=L.length:=by omega
     rw[e54_0_1];simp only[B6,C1,D3,H4,H2,C6,K8,H1]
    |succ n ih2 =>
     intro i hi;have hlt:i<L.length:=by omega
     have h5:=ih2 (i+1) (by omega)
     rw[B8 hlt,J2,e54_0_1];simp only[B6,C1,hlt,H3,H1,aq,B7,ab hlt,ae hlt (ba (by omega)),bj,nv0,nvS,dvI,dvB,dvS,dvL,B5]
     cases decide (bK d t L[i].1=2) with
     |false=>rfl
     |true=>simp only[D0,H2,D9];exact h5
   have:=key L.length 0 (D1 _);simpa only[C3,D2] using this
  have hP1:P.map PnM.row++[[.int 2,.sl [],.int 0,.sl []]]=(P++[(⟨2,[],0,[]⟩:PnM)]).map PnM.row:=by rw[D6];rfl
  have hL3:L.all (fun b=>decide (bK d t b.1=2))=true->∃ Y:aa,rn ⟨54,0,3⟩ [.sl (cs.map bf),.int (j:Int),.int ((12-(r+1):Nat):Int),.int (P.length:Int),.int 0,.sl (d.so.map ag),.sl (d.op.map OpM.row),.sl (d.ru.map RuM.row),.sl (d.st.map StM.row),.sl (L.map (bj d cs[j].v t)),.sl ((P++[(⟨2,[],0,[]⟩:PnM)]).map PnM.row)]=match chl (fnd d cs cs[j] r) d t L (P.length+1) with
   |some y=>some (0,[.sl ((P++(⟨2,y.1,0,[]⟩:PnM)::y.2).map PnM.row)])
   |none=>some (1,[.sl Y]):=by
   intro hall;have key:∀ n i (N:List Int) (B:List PnM),i+n=L.length->P.length+1+B.length<=60->N.length<=i->∃ Y:aa,rn ⟨54,0,3⟩ [.sl (cs.map bf),.int (j:Int),.int ((12-(r+1):Nat):Int),.int (P.length:Int),.int (i:Int),.sl (d.so.map ag),.sl (d.op.map OpM.row),.sl (d.ru.map RuM.row),.sl (d.st.map StM.row),.sl (L.map (bj d cs[j].v t)),.sl ((P++(⟨2,N,0,[]⟩:PnM)::B).map PnM.row)]=match chl (fnd d cs cs[j] r) d t (L.drop i) (P.length+1+B.length) with
    |some y=>some (0,[.sl ((P++(⟨2,N++y.1,0,[]⟩:PnM)::(B++y.2)).map PnM.row)])
    |none=>some (1,[.sl Y]):=by
    intro n;induction n with
    |zero =>
     intro i N B hi hB hN;obtain rfl:i=L.length:=by omega
     refine⟨[],?_⟩;rw[e54_0_3];simp only[B6,C1,D3,H4,H2,C6,chl,G5]
    |succ n ih2 =>
     intro i N B hi hB hN;have hlt:i<L.length:=by omega
     have hk2:bK d t L[i].1=2:=by simpa using E3.1 hall _ (C0 hlt)
     have hql:(P++(⟨2,N,0,[]⟩:PnM)::B).length=P.length+1+B.length:=by simp;omega
     obtain⟨X,h5⟩:=ih (bT d t L[i].1) L[i].2 (P++(⟨2,N,0,[]⟩:PnM)::B) (by omega) (by rw[hql];exact hB) (hmem _ (C0 hlt) hk2)
     rw[hql] at h5;have hdd:IntKind.i64.wrap (((12-(r+1):Nat):Int)+1)=((12-r:Nat):Int):=by rw[IntWalk.i64_in _ (by omega)];omega
     rw[B8 hlt,e54_0_3];simp only[B6,C1,hlt,H3,H1,aq,B7,ab hlt,ae hlt (ba (by omega)),bj,nv0,nvS,dvI,dvB,dvS,dvL,B5,hdd,h5,chl]
     cases hf:fnd d cs cs[j] r (P.length+1+B.length) (bT d t L[i].1) L[i].2 with
     |none=>exact⟨X,rfl⟩
     |some n1 =>
      have hq1:=nv d cs cs[j] r _ _ _ n1 hB hf;obtain⟨Y,h6⟩:=ih2 (i+1) (N++[((P.length+1+B.length:Nat):Int)]) (B++n1) (by omega) (by rw[E6];omega) (by simp;omega)
      refine⟨Y,?_⟩;rw[E6,<-Nat.add_assoc] at h6;have eQ:(P++(⟨2,N,0,[]⟩:PnM)::B)++n1=P++(⟨2,N,0,[]⟩:PnM)::(B++n1):=by rw[E2];rfl
      have hl2:P.length<P.length+((B++n1).length+1):=by omega
      have hib:P.length<(P++(⟨2,N,0,[]⟩:PnM)::(B++n1)).length:=by simp
      have hbt:J7 P.length (P++(⟨2,N,0,[]⟩:PnM)::(B++n1)).length=true:=E9 hib;have hbt2:J7 P.length (P.length+((B++n1).length+1))=true:=E9 hl2;have b1:F5 (N.length+1) M63=true:=b63 (by omega)
      have hst:=Yp (P:=P) (B:=B++n1) N (N.map am++[[.int ((P.length+1+B.length:Nat):Int)]]) (N++[((P.length+1+B.length:Nat):Int)]) (by rw[D6];rfl)
      simp only[nv0,nvS,dvI,dvB,dvS,dvL,B5,D0,H2,eQ,aq,B6,hib,H3,H1,B7,hbt,hql,ag9,C2,C5,D1,b1,Yq,hl2,hbt2,D5,O2,hst,h6];cases chl (fnd d cs cs[j] r) d t (L.drop (i+1)) (P.length+1+B.length+n1.length) with
      |none=>rfl
      |some y=>simp only[E2,F2,D8]
   obtain⟨Y,h5⟩:=key L.length 0 [] [] (D1 _) (by simp;omega) (E8 _)
   refine⟨Y,?_⟩;simpa only[C3,D2,D8,C5,Nat.add_zero] using h5
  have ed:decide ((0:Int)<((12-(r+1):Nat):Int))=decide (r+1<12):=by by_cases q:r+1<12<;>simp[q]<;>omega
  rw[ed];by_cases h12:r+1<12
  ·simp only[h12,H3,H1,h2,if_true]
   cases js cs[j] t (opC cs[j] t cl) cs 0 with
   |some x =>
    rw[Hd e60 e0];exact⟨[],by simp only[se,nv0,nvS,dvI,dvB,dvS,dvL,B5,H1,C2,C5,D1,b61,D6,C4,D4,PnM.row]⟩
   |none =>
    rw[ya e60 e0];simp only[se,nv0,nvS,dvI,dvB,dvS,dvL,B5,H2];simp only[h4,nv0,nvS,dvI,dvB,dvS,dvL,B5,e12,H4,H2,B6,hL1];cases hall:L.all fun b=>decide (bK d t b.1=2) with
    |false=>exact⟨_,by simp only[H2,nv0,nvS,dvI,dvB,dvS,dvL,B5,D5,H1,H2,N6,if_false];rfl⟩
    |true =>
     obtain⟨Y,hL3⟩:=hL3 hall;simp only[H1,nv0,nvS,dvI,dvB,dvS,dvL,B5,D5,H1,H2,C2,C5,B6,D1,b61,if_true];rw[hP1,hL3];cases chl (fnd d cs cs[j] r) d t L (P.length+1) with
     |none=>exact⟨Y,rfl⟩
     |some y=>exact⟨[],rfl⟩
  ·simp only[h12,H4,H2,if_false]
   rw[ya e60 e0];simp only[h4,nv0,nvS,dvI,dvB,dvS,dvL,B5,e12,H4,H2,B6,hL1];cases hall:L.all fun b=>decide (bK d t b.1=2) with
   |false=>exact⟨_,by simp only[H2,nv0,nvS,dvI,dvB,dvS,dvL,B5,D5,H1,H2,N6,if_false];rfl⟩
   |true =>
    obtain⟨Y,hL3⟩:=hL3 hall;simp only[H1,nv0,nvS,dvI,dvB,dvS,dvL,B5,D5,H1,H2,C2,C5,B6,D1,b61,if_true];rw[hP1,hL3];cases chl (fnd d cs cs[j] r) d t L (P.length+1) with
    |none=>exact⟨Y,rfl⟩
    |some y=>exact⟨[],rfl⟩
theorem r25(d:DfM)(hd:DfB d)(cs:List ClM)(hcs:∀ c∈cs,ClB c)(hcd:∀ c∈cs,c.d=d)(hcl:cs.length<=1048576)(k:Int):rn ⟨25,0,0⟩ [.sl (d.so.map ag),.sl (d.op.map OpM.row),.sl (d.ru.map RuM.row),.sl (d.st.map StM.row),.sl (cs.map bf),.int k]=some (0,fpD (fpR d cs k)):=by
 have h1:=r31 d cs hcs hcd hcl k;rw[e25_0_0];simp only[h1,nv0,nvS,dvI,dvB,dvS,dvL,B5];unfold fpR;cases hq:jr cs k with
 |none=>rfl
 |some g =>
  obtain⟨_,hv,ha⟩:=gm hq;obtain⟨j,rfl,hj,e⟩:=gn ha;subst e;have hg:=hcs _ (C0 hj);have hgv:cs[j].valid=true:=E3.1 hv _ (C0 hj);have hst:=StG.start hg hgv;rw[hcd _ (C0 hj)] at hst;have h2:=r44 cs[j].v hg.v cs[j].l cs[j].r (ak _ hg.ln) cs[j].g hg.g (fun q hq=>⟨(hg.ga q hq).ln,(hg.ga q hq).rn⟩)
  rw[jk] at h2;obtain⟨X,h3⟩:=Dh d hd cs hcs (Ct hv) hcl j hj 12 cs[j].l _ [] (E8 _) (G9 _) hst;simp only[D4,D8,C5,show decide (12<12)=false from rfl,Nat.sub_self,C3] at h3
  simp only[O5,D0,H2,B6,aq,hj,H3,H1,B7,ab hj,bf,nv0,nvS,dvI,dvB,dvS,dvL,B5,h2,h3];cases fnd d cs cs[j] 12 0 cs[j].l ((dk cs[j].v cs[j].g).map fun (i:Nat)=>(i:Int))<;>rfl
theorem r26(d:DfM)(hd:DfB d)(cs:List ClM)(hcs:∀ c∈cs,ClB c)(hcd:∀ c∈cs,c.d=d)(hcl:cs.length<=1048576)(k:Int):rn ⟨26,0,0⟩ [.sl (d.so.map ag),.sl (d.op.map OpM.row),.sl (d.ru.map RuM.row),.sl (d.st.map StM.row),.sl (cs.map bf),.int k]=some (0,fpD (fpR d cs k)):=by
 have h1:=r34 d cs hcs hcd hcl;rw[e26_0_0];simp only[h1,nv0,nvS,dvI,dvB,dvS,dvL,B5,B6,tu (show cs.length<=1048577 by omega),rIn]
 unfold fpR;cases hq:jr cs k with
 |none =>
  unfold jr at hq;by_cases hc:cs.length<=3/\da cs=true
  ·rw[H5 hc] at hq
   rw[hc.2];rcases ke hq with h |h
   ·cases decide (1<=cs.length)&&decide (cs.length<=3) with
    |false=>rfl
    |true=>rw[H8 (show ¬(0:Int)<=k by omega)];rfl
   ·cases decide (1<=cs.length)&&decide (cs.length<=3) with
    |false=>rfl
    |true=>rw[H8 (show ¬ k<=(cs.length:Int)-1 by omega),P2];rfl
  ·have e:(da cs&&(decide (1<=cs.length)&&decide (cs.length<=3)))=false:=by
    rw[P5,P5];by_cases h3:cs.length<=3
    ·left
     cases hb:da cs with
     |false=>rfl
     |true=>exact absurd ⟨h3,hb⟩ hc
    ·exact .inr (.inr (H8 h3))
   rw[e];rfl
 |some g =>
  obtain⟨h3,hv,ha⟩:=gm hq;obtain⟨j,rfl,hj,e⟩:=gn ha;subst e;have hg:=hcs _ (C0 hj);have hgv:cs[j].valid=true:=E3.1 hv _ (C0 hj);have hst:=StG.start hg hgv;rw[hcd _ (C0 hj)] at hst;have h2:=r37 cs[j].v hg.v cs[j].l cs[j].r (ak _ hg.ln) cs[j].g hg.g (fun q hq=>⟨(hg.ga q hq).ln,(hg.ga q hq).rn⟩)
  rw[jk] at h2;obtain⟨X,h4⟩:=aj8 d hd cs hcs (Ct hv) hcl j hj 12 cs[j].l _ [] (E8 _) (G9 _) hst;simp only[D4,D8,C5,Nat.sub_self,C3] at h4;have e1:(0:Int)<=(j:Int):=by omega
  have e2:(j:Int)<=(cs.length:Int)-1:=by omega
  have e3:1<=cs.length:=by omega
  simp only[hv,h3,e1,e2,e3,H3,O2,D0,H2,aq,hj,H1,B7,ab hj,bf,nv0,nvS,dvI,dvB,dvS,dvL,B5,h2,h4];cases fnd d cs cs[j] 12 0 cs[j].l ((dk cs[j].v cs[j].g).map fun (i:Nat)=>(i:Int))<;>rfl
theorem r29(d:DfM)(hd:DfB d)(cs:List ClM)(hcs:∀ c∈cs,ClB c)(hcd:∀ c∈cs,c.d=d)(hcl:cs.length<=1048576):rn ⟨29,0,0⟩ [.sl (d.so.map ag),.sl (d.op.map OpM.row),.sl (d.ru.map RuM.row),.sl (d.st.map StM.row),.sl (cs.map bf)]=some (0,paD (prL d cs cs.length 0)):=by
 have hlp:∀ n i (acc:List (List PnM)),i+n=cs.length->acc.length<=i->rn ⟨29,0,1⟩ [.sl (cs.map bf),.int (cs.length:Int),.int (i:Int),.sl (d.so.map ag),.sl (d.op.map OpM.row),.sl (d.ru.map RuM.row),.sl (d.st.map StM.row),.sl (acc.map dm)]=match prL d cs n i with
  |some ps=>some (0,[.sl ((acc++ps).map dm)])
  |none=>some (1,[.sl []]):=by
  intro n;induction n with
  |zero =>
   intro i acc hi _;obtain rfl:i=cs.length:=by omega
   rw[e29_0_1];simp only[B6,C1,D3,H4,H2,C6,prL,G5]
  |succ n ih =>
   intro i acc hi ha;have hlt:i<cs.length:=by omega
   have h1:=r25 d hd cs hcs hcd hcl (i:Int);have b1:F5 (acc.length+1) M63=true:=b63 (by omega)
   rw[e29_0_1];simp only[B6,C1,hlt,H3,H1,h1,nv0,nvS,dvI,dvB,dvS,dvL,B5,ae hlt (ba (by omega)),prL]
   cases fpR d cs (i:Int) with
   |none=>rfl
   |some p =>
    have h2:=ih (i+1) (acc++[p]) (by omega) (by simp;omega)
    have e:acc.map dm++[[.sl (p.map PnM.row)]]=(acc++[p]).map dm:=by rw[D6];rfl
    simp only[fpD,nv0,nvS,dvI,dvB,dvS,dvL,B5,D0,H2,C2,C5,D1,b1,H1,e,h2];cases prL d cs n (i+1) with
    |none=>rfl
    |some ps=>simp only[E2,F2,D8]
 have h1:=hlp cs.length 0 [] (D1 _) (E8 _);simp only[C3,D4,D8] at h1;rw[e29_0_0];simp only[B6,h1];cases hp:prL d cs cs.length 0 with
 |none=>rfl
 |some ps =>
  have hl:=rj _ _ _ hp;have e:decide ((0:Int)<(cs.length:Int))=decide (0<cs.length):=by by_cases q:0<cs.length<;>simp[q]<;>omega
  simp only[nv0,nvS,dvI,dvB,dvS,dvL,B5,D5,H1,H2,B6,paD,hl,e]
theorem r30(d:DfM)(hd:DfB d)(cs:List ClM)(hcs:∀ c∈cs,ClB c)(hcd:∀ c∈cs,c.d=d)(hcl:cs.length<=1048576):rn ⟨30,0,0⟩ [.sl (d.so.map ag),.sl (d.op.map OpM.row),.sl (d.ru.map RuM.row),.sl (d.st.map StM.row),.sl (cs.map bf)]=some (0,paD (prL d cs cs.length 0)):=by
 have hlp:∀ n i (acc:List (List PnM)),i+n=cs.length->acc.length<=i->rn ⟨30,0,1⟩ [.sl (cs.map bf),.int (i:Int),.sl (d.so.map ag),.sl (d.op.map OpM.row),.sl (d.ru.map RuM.row),.sl (d.st.map StM.row),.sl (acc.map dm)]=match prL d cs n i with
  |some ps=>some (0,[.sl (cs.map bf),.sl ((acc++ps).map dm)])
  |none=>some (1,[.sl []]):=by
  intro n;induction n with
  |zero =>
   intro i acc hi _;obtain rfl:i=cs.length:=by omega
   rw[e30_0_1];simp only[B6,C1,D3,H4,H2,C6,prL,G5]
  |succ n ih =>
   intro i acc hi ha;have hlt:i<cs.length:=by omega
   have h1:=r26 d hd cs hcs hcd hcl (i:Int);have b1:F5 (acc.length+1) M63=true:=b63 (by omega)
   rw[e30_0_1];simp only[B6,C1,hlt,H3,H1,h1,nv0,nvS,dvI,dvB,dvS,dvL,B5,ae hlt (ba (by omega)),prL]
   cases fpR d cs (i:Int) with
   |none=>rfl
   |some p =>
    have h2:=ih (i+1) (acc++[p]) (by omega) (by simp;omega)
    have e:acc.map dm++[[.sl (p.map PnM.row)]]=(acc++[p]).map dm:=by rw[D6];rfl
    simp only[fpD,nv0,nvS,dvI,dvB,dvS,dvL,B5,D0,H2,C2,C5,D1,b1,H1,e,h2];cases prL d cs n (i+1) with
    |none=>rfl
    |some ps=>simp only[E2,F2,D8]
 have h1:=hlp cs.length 0 [] (D1 _) (E8 _);simp only[C3,D4,D8] at h1;rw[e30_0_0];simp only[B6,h1];cases hp:prL d cs cs.length 0 with
 |none=>rfl
 |some ps =>
  have hl:=rj _ _ _ hp;have e:decide ((0:Int)<(cs.length:Int))=decide (0<cs.length):=by by_cases q:0<cs.length<;>simp[q]<;>omega
  simp only[nv0,nvS,dvI,dvB,dvS,dvL,B5,D5,H1,H2,B6,paD,hl,e]
theorem r8(d:DfM)(hd:DfB d)(cs:List ClM)(hcs:∀ c∈cs,ClB c)(hcd:∀ c∈cs,c.d=d)(hcl:cs.length<=1048576):rn ⟨8,0,0⟩ [.sl (d.so.map ag),.sl (d.op.map OpM.row),.sl (d.ru.map RuM.row),.sl (d.st.map StM.row),.sl (cs.map bf)]=some (0,[.int (veR d cs).k,.int (veR d cs).c,.int (veR d cs).n,.sl ((veR d cs).p.map dm)]):=by
 have h1:=r31 d cs hcs hcd hcl 0;have h2:=r29 d hd cs hcs hcd hcl;have hlp:∀ n i,i+n=cs.length->rn ⟨8,0,1⟩ [.sl (cs.map bf),.int (cs.length:Int),.int (i:Int),.sl (d.so.map ag),.sl (d.op.map OpM.row),.sl (d.ru.map RuM.row),.sl (d.st.map StM.row),.int 0,.int 0,.int 0,.sl []]=match pj (cs.drop i) i with
  |some x=>some (1,[.int 2,.int (x.1:Int),.int (x.2:Int),.sl []])
  |none=>some (0,[.int 0,.int 0,.int 0,.sl []]):=by
  intro n;induction n with
  |zero =>
   intro i hi;obtain rfl:i=cs.length:=by omega
   rw[e8_0_1];simp only[B6,C1,D3,H4,H2,C6,pj]
  |succ n ih =>
   intro i hi;have hlt:i<cs.length:=by omega
   have hm:=C0 hlt;have h3:=r32 cs[i] (hcs _ hm);unfold ClM.row at h3;rw[hcd _ hm] at h3;have h4:=ih (i+1) (by omega)
   rw[B8 hlt,e8_0_1];simp only[B6,C1,hlt,H3,H1,aq,B7,ab hlt,ae hlt (ba (by omega)),bf,nv0,nvS,dvI,dvB,dvS,dvL,B5,h3,pj]
   cases tq cs[i] with
   |none=>simp only[Tj,nv0,nvS,dvI,dvB,dvS,dvL,B5,H2,h4]
   |some k=>rfl
 have h3:=hlp cs.length 0 (D1 _);simp only[C3,D2] at h3;rw[e8_0_0];simp only[h1,nv0,nvS,dvI,dvB,dvS,dvL,B5];unfold veR;cases ha:(jr cs 0).isSome with
 |false=>rfl
 |true =>
  rw[Mn] at ha;simp only[B9,decide_eq_true_eq] at ha;simp only[D0,H2,h2,if_true];cases hp:prL d cs cs.length 0 with
  |some ps =>
   have hl:=rj _ _ _ hp;have e:decide (0<ps.length)=true:=H7 (by omega)
   simp only[paD,e,nv0,nvS,dvI,dvB,dvS,dvL,B5,H1]
  |none =>
   simp only[paD,nv0,nvS,dvI,dvB,dvS,dvL,B5,H2,B6,h3];cases pj cs 0<;>rfl
theorem r10(d:DfM)(hd:DfB d)(cs:List ClM)(hcs:∀ c∈cs,ClB c)(hcd:∀ c∈cs,c.d=d)(hcl:cs.length<=1048576):rn ⟨10,0,0⟩ [.sl (d.so.map ag),.sl (d.op.map OpM.row),.sl (d.ru.map RuM.row),.sl (d.st.map StM.row),.sl (cs.map bf)]=some (0,[.int (veR d cs).k,.int (veR d cs).c,.int (veR d cs).n,.sl ((veR d cs).p.map dm)]):=by
 have h1:=r34 d cs hcs hcd hcl;rw[<-Mn] at h1;have h2:=r30 d hd cs hcs hcd hcl;have hlp:∀ n i,i+n=cs.length->rn ⟨10,0,1⟩ [.sl (cs.map bf),.int (i:Int),.sl (d.so.map ag),.sl (d.op.map OpM.row),.sl (d.ru.map RuM.row),.sl (d.st.map StM.row),.int 0,.int 0,.int 0,.sl []]=match pj (cs.drop i) i with
  |some x=>some (1,[.int 2,.int (x.1:Int),.int (x.2:Int),.sl []])
  |none=>some (0,[.int 0,.int 0,.int 0,.sl []]):=by
  intro n;induction n with
  |zero =>
   intro i hi;obtain rfl:i=cs.length:=by omega
   rw[e10_0_1];simp only[B6,C1,D3,H4,H2,C6,pj]
  |succ n ih =>
   intro i hi;have hlt:i<cs.length:=by omega
   have hm:=C0 hlt;have h3:=r13 cs[i] (hcs _ hm);unfold ClM.row at h3;rw[hcd _ hm] at h3;have h4:=ih (i+1) (by omega)
   rw[B8 hlt,e10_0_1];simp only[B6,C1,hlt,H3,H1,aq,B7,ab hlt,ae hlt (ba (by omega)),bf,nv0,nvS,dvI,dvB,dvS,dvL,B5,h3,pj]
   cases tq cs[i] with
   |none=>simp only[Tj,nv0,nvS,dvI,dvB,dvS,dvL,B5,H2,h4]
   |some k=>rfl
 have h3:=hlp cs.length 0 (D1 _);simp only[C3,D2] at h3;rw[e10_0_0];simp only[h1,nv0,nvS,dvI,dvB,dvS,dvL,B5];unfold veR;cases ha:(jr cs 0).isSome with
 |false=>rfl
 |true =>
  rw[Mn] at ha;simp only[B9,decide_eq_true_eq] at ha;simp only[D0,H2,h2,if_true];cases hp:prL d cs cs.length 0 with
  |some ps =>
   have hl:=rj _ _ _ hp;have e:decide (0<ps.length)=true:=H7 (by omega)
   simp only[paD,e,nv0,nvS,dvI,dvB,dvS,dvL,B5,H1]
  |none =>
   simp only[paD,nv0,nvS,dvI,dvB,dvS,dvL,B5,H2,B6,h3];cases pj cs 0<;>rfl
theorem Zm{code:aa}(hl:code.length<=1048576)(i:Nat)(h:Int):aj (rn ⟨73,0,0⟩ [.sl code,.int (i:Int),.int h]) fun x=>∃ b:Int,∃ i':Nat,∃ h':Int,0<=b/\b<=255/\x=(0,[.int b,.sl code,.int ((i':Nat):Int),.int h']):=by
 rw[e73_0_0];rw[H7 (by decide:(0:Int)<=33),H7 (by decide:(0:Int)<=45)]
 simp only[H1];by_cases hi:i<code.length
 ·rw[H7 (by omega:(i:Int)<(code.length:Int))]
  simp only[H1,aq,hi,H3,ae hi (by unfold maxLen;omega)]
  obtain⟨h1,h2⟩:=Sv (IntKind.i64.wrap ((Cx .i64 (Pc .i64 (Cy .i64 (IntKind.i64.wrap ((IntKind.i64.wrap (h*6364136223846793005))+1442695040888963407)) 33) (Cy .i64 (IntKind.i64.wrap ((IntKind.i64.wrap (h*6364136223846793005))+1442695040888963407)) 45)) 255)+(IntKind.i64.wrap ((nth (rowAt code (P1 (i:Int))) 0).I))));exact aj.ret ⟨_,i+1,_,h1,h2,rfl⟩
 ·rw[H8 (by omega:¬(i:Int)<(code.length:Int))]
  simp only[H2];obtain⟨h1,h2⟩:=Sv (Pc .i64 (Cy .i64 (IntKind.i64.wrap ((IntKind.i64.wrap (h*6364136223846793005))+1442695040888963407)) 33) (Cy .i64 (IntKind.i64.wrap ((IntKind.i64.wrap (h*6364136223846793005))+1442695040888963407)) 45));exact aj.ret ⟨_,i,_,h1,h2,rfl⟩
theorem av{code:aa}(hl:code.length<=1048576)(i:Nat)(h:Int){n:Int}(h0:0<n)(h1:n<=256):aj (rn ⟨42,0,0⟩ [.int n,.sl code,.int (i:Int),.int h]) fun x=>∃ b:Int,∃ i':Nat,∃ h':Int,0<=b/\b<n/\x=(0,[.int b,.sl code,.int ((i':Nat):Int),.int h']):=by
 rw[e42_0_0];rw[H8 (by omega:¬ n<=0),H7 h1]
 simp only[H1,H2];refine aj.bind (Zm hl i h) ?_
 rintro _ ⟨b,i',h',b0,b1,rfl⟩
 simp only[nv0,nvS,dvI,dvB,dvS,dvL,B5];rw[H8 (by omega:¬ n=0)]
 exact aj.ret ⟨_,i',h',Int.tmod_nonneg _ b0,Int.tmod_lt_of_pos _ h0,rfl⟩
theorem et{code:aa}(hl:code.length<=1048576)(i:Nat)(h:Int){n:Int}(h0:0<n)(h1:n<=256):aj (rn ⟨48,0,0⟩ [.int n,.sl code,.int (i:Int),.int h]) fun x=>∃ b:Bool,∃ i':Nat,∃ h':Int,x=(0,[.bool b,.sl code,.int ((i':Nat):Int),.int h']):=by
 rw[e48_0_0];refine aj.bind (av hl i h h0 h1) ?_
 rintro _ ⟨b,i',h',b0,b1,rfl⟩
 exact aj.ret ⟨_,i',h',rfl⟩
theorem ro{code:aa}(hl:code.length<=1048576)(i:Nat)(h:Int){l:aa}(h0:0<l.length)(h1:l.length<=256)(m:Nat)(hs:∀ k,k<l.length->((nth (rowAt l k) 0).S).size<=m):aj (rn ⟨193,0,0⟩ [.sl l,.sl code,.int (i:Int),.int h]) fun x=>∃ s:ByteArray,∃ i':Nat,∃ h':Int,s.size<=m/\x=(0,[.str s,.sl code,.int ((i':Nat):Int),.int h']):=by
 rw[e193_0_0];refine aj.bind (av hl i h (by omega:(0:Int)<(l.length:Int)) (by omega)) ?_
 rintro _ ⟨b,i',h',b0,b1,rfl⟩
 simp only[nv0,nvS,dvI,dvB,dvS,dvL,B5];rw[show inb b l.length=true from by simp[inb,b0,b1]]
 exact aj.ret ⟨_,i',h',hs b.toNat (by omega),rfl⟩
theorem qo{code:aa}(hl:code.length<=1048576)(i:Nat)(h:Int)(ts:List Tm)(h0:0<ts.length)(h1:ts.length<=256):aj (rn ⟨134,0,0⟩ [.sl (ts.map Tm.row),.sl code,.int (i:Int),.int h]) fun x=>∃ t:Tm,∃ i':Nat,∃ h':Int,t∈ts/\x=(0,[.int t.k,.int t.n,.str t.s,.sl (t.as.map Tm.row),.sl code,.int ((i':Nat):Int),.int h']):=by
 rw[e134_0_0,B6];refine aj.bind (av hl i h (by omega:(0:Int)<(ts.length:Int)) (by omega)) ?_
 rintro _ ⟨b,i',h',b0,b1,rfl⟩
 obtain⟨n,rfl⟩:=Q2 b0;have hn:n<ts.length:=by omega
 simp only[nv0,nvS,dvI,dvB,dvS,dvL,B5,aq,hn,H3,H1,B7,ab hn,Tm.row_eq];exact aj.ret ⟨ts[n],i',h',C0 hn,rfl⟩
theorem Vf{code:aa}(hl:code.length<=1048576):aj (rn ⟨41,0,0⟩ [.sl code]) fun x=>∃ i':Nat,∃ h':Int,x=(0,[.sl code,.int ((i':Nat):Int),.int h']):=by
 have key:∀ (n i:Nat) (h:Int),i+n=code.length->∃ h':Int,rn ⟨41,0,1⟩ [.sl code,.int h,.int (i:Int)]=some (0,[.sl code,.int h']):=by
  intro n;induction n with
  |zero =>
   intro i h hi;rw[e41_0_1,H8 (by omega:¬(i:Int)<(code.length:Int))]
   exact⟨_,rfl⟩
  |succ n ih =>
   intro i h hi;have hlt:i<code.length:=by omega
   rw[e41_0_1,H7 (by omega:(i:Int)<(code.length:Int))]
   simp only[H1,aq,hlt,H3,ae hlt (by unfold maxLen;omega)]
   cases decide ((i:Int)<4000) with
   |true=>exact ih (i+1) _ (by omega)
   |false=>exact⟨_,rfl⟩
 rw[e41_0_0];obtain⟨h',e⟩:=key code.length 0 (IntKind.i64.wrap (26583+(code.length:Int))) (D1 _);simp only[C3] at e;rw[e];exact aj.ret ⟨0,h',rfl⟩
theorem r130(s:ByteArray):rn ⟨130,0,0⟩ [.str s]=some (0,[.int 1,.int 0,.str s,.sl []]):=by rw[e130_0_0]
theorem r189(s:ByteArray)(l:aa):rn ⟨189,0,0⟩ [.str s,.sl l]=some (0,[.int 2,.int 0,.str s,.sl l]):=by rw[e189_0_0]
theorem r189b(s:ByteArray)(l:aa):rn ⟨189,1,0⟩ [.str s,.sl l]=some (0,[.int 2,.int 0,.str s,.sl l]):=by rw[e189_1_0]
theorem r132(s:ByteArray)(t:Tm):rn ⟨132,0,0⟩ [.str s,.int t.k,.int t.n,.str t.s,.sl (t.as.map Tm.row)]=some (0,[.int 2,.int 0,.str s,.sl [t.row]]):=by
 rw[e132_0_0];simp only[r189,r189b,nv0,nvS,dvI,dvB,dvS,dvL,B5,Tm.row_eq t]
theorem r133(s:ByteArray)(t u:Tm):rn ⟨133,0,0⟩ [.str s,.int t.k,.int t.n,.str t.s,.sl (t.as.map Tm.row),.int u.k,.int u.n,.str u.s,.sl (u.as.map Tm.row)]=some (0,[.int 2,.int 0,.str s,.sl [t.row,u.row]]):=by
 rw[e133_0_0];simp only[r189,r189b,nv0,nvS,dvI,dvB,dvS,dvL,B5,Tm.row_eq t,Tm.row_eq u]
def DTk(code:aa)(k m:Nat)(x:Nat×List D):Prop:=∃ t:Tm,∃ i':Nat,∃ h':Int,Dt k t/\t.nodes<=m/\x=(0,[.int t.k,.int t.n,.str t.s,.sl code,.int (i':Int),.int h',.sl (t.as.map Tm.row)])
theorem lfV{code:aa}{k m:Nat}{s:ByteArray}{i:Nat}{h:Int}(hs:s.size<=k)(hm:1<=m):aj (some (0,[.int 1,.int 0,.str s,.sl code,.int (i:Int),.int h,.sl []])) (DTk code k m) :=
 aj.ret ⟨.mk 1 0 s [],i,h,.var hs,by simp[Tm.nodes,Tm.nodesL];exact hm,rfl⟩
theorem lfC{code:aa}{k m:Nat}{s:ByteArray}{i:Nat}{h:Int}(hs:s.size<=k)(hm:1<=m):aj (some (0,[.int 2,.int 0,.str s,.sl code,.int (i:Int),.int h,.sl []])) (DTk code k m) :=
 aj.ret ⟨.mk 2 0 s [],i,h,.app hs (by simp) (by simp),by simp[Tm.nodes,Tm.nodesL];exact hm,rfl⟩
theorem lfW{code:aa}{k m:Nat}{n:Int}{i:Nat}{h:Int}(h0:0<=n)(h1:n<=255)(hm:1<=m):aj (some (0,[.int 3,.int n,.str ⟨#[]⟩,.sl code,.int (i:Int),.int h,.sl []])) (DTk code k m) :=
 aj.ret ⟨.mk 3 n ⟨#[]⟩ [],i,h,.word h0 h1,by simp[Tm.nodes,Tm.nodesL];exact hm,rfl⟩
theorem lf1{code:aa}{k m:Nat}{s:ByteArray}{t:Tm}{i:Nat}{h:Int}(hs:s.size<=k)(ht:Dt k t)(hm:t.nodes+1<=m):aj (some (0,[.int 2,.int 0,.str s,.sl code,.int (i:Int),.int h,.sl [t.row]])) (DTk code k m) :=
 aj.ret ⟨.mk 2 0 s [t],i,h,.app hs (by simp) (by simpa using ht),by simp[Tm.nodes,Tm.nodesL];omega,rfl⟩
theorem lf2{code:aa}{k m:Nat}{s:ByteArray}{t u:Tm}{i:Nat}{h:Int}(hs:s.size<=k)(ht:Dt k t)(hu:Dt k u)(hm:t.nodes+u.nodes+1<=m):aj (some (0,[.int 2,.int 0,.str s,.sl code,.int (i:Int),.int h,.sl [t.row,u.row]])) (DTk code k m) :=
 aj.ret ⟨.mk 2 0 s [t,u],i,h,.app hs (by simp) (by simp[ht,hu]),by simp[Tm.nodes,Tm.nodesL];omega,rfl⟩
end Go.Q.S
end
section
namespace Go.Q.S
open Go Go.Q Go.Proofs
open Go.Q.D renaming int->i,sl->s,str->t,bool->b
open Go.Q renaming nth->g,rowAt->p
open Int renaming toNat->z
open Go.IntKind renaming wrap->w
open Decidable renaming decide->d
open Nat renaming beq->q,ble->l
open _root_.ByteArray renaming mk->m
noncomputable section
abbrev CF:=Key->List D->R
abbrev EV:=(c:CF)->OkC H Tryz.prog c->En H Tryz.prog
def Vg:EV:=fun c hc=>⟨⟨285,0,0⟩,pI fun x0=>pS fun x1=>pI fun x2=>pB fun x3=>pE ((c ⟨285,0,1⟩ [i x0,i x2,t x1,i x2,b x3,i 0,i 0,t (m #[]),s []]).bind fun r1=>bif q r1.1 0 then bif d ((0:Int)<=(g r1.2 1).I)&&(d (((g r1.2 1).I:Int)<=(g r1.2 3).I)&&d (((g r1.2 3).I:Int)<=(g r1.2 2).S.size)) then (c ⟨163,0,0⟩ [t ((g r1.2 2).S.extract (z (g r1.2 1).I) (z (g r1.2 3).I))]).bind fun r2=>bif (g r2.2 0).B then (c ⟨293,0,0⟩ [t (m #[40]),t (g r1.2 2).S,i (g r1.2 3).I,b (g r1.2 4).B]).bind fun r3=>bif !(g r3.2 0).B then some (0,[i 1,i 0,t ((g r1.2 2).S.extract (z (g r1.2 1).I) (z (g r1.2 3).I)),t (g r3.2 1).S,i (g r3.2 2).I,b (g r3.2 3).B,s []]) else (c ⟨285,0,4⟩ [i (g r1.2 0).I,i 0,t (g r3.2 1).S,i (w .i64 ((g r3.2 2).I+1)),b (g r3.2 3).B,i (g r1.2 5).I,i (g r1.2 6).I,t (g r1.2 7).S,i 1,i 0,t ((g r1.2 2).S.extract (z (g r1.2 1).I) (z (g r1.2 3).I)),s (g r1.2 8).L,s []]).bind fun r4=>bif q r4.1 0 then some (0,[i (g r4.2 6).I,i (g r4.2 7).I,t (g r4.2 8).S,t (g r4.2 0).S,i (g r4.2 1).I,b (g r4.2 2).B,s (g r4.2 10).L]) else none else bif d (((((g r1.2 2).S.extract (z (g r1.2 1).I) (z (g r1.2 3).I)).size):Int)=1) then bif inb 0 ((g r1.2 2).S.extract (z (g r1.2 1).I) (z (g r1.2 3).I)).size then (c ⟨254,0,0⟩ [i ((((g r1.2 2).S.extract (z (g r1.2 1).I) (z (g r1.2 3).I)).get! (z 0)).toNat)]).bind fun r5=>bif (g r5.2 0).B then bif inb 0 ((g r1.2 2).S.extract (z (g r1.2 1).I) (z (g r1.2 3).I)).size then (c ⟨113,0,0⟩ [i (w .i64 ((w .i64 ((((g r1.2 2).S.extract (z (g r1.2 1).I) (z (g r1.2 3).I)).get! (z 0)).toNat))-48))]).bind fun r6=>(c ⟨293,0,0⟩ [t (m #[40]),t (g r1.2 2).S,i (g r1.2 3).I,b (g r1.2 4).B]).bind fun r7=>bif !(g r7.2 0).B then some (0,[i (g r6.2 0).I,i (g r6.2 1).I,t (g r6.2 2).S,t (g r7.2 1).S,i (g r7.2 2).I,b (g r7.2 3).B,s (g r6.2 3).L]) else (c ⟨285,0,4⟩ [i (g r1.2 0).I,i 0,t (g r7.2 1).S,i (w .i64 ((g r7.2 2).I+1)),b (g r7.2 3).B,i (g r1.2 5).I,i (g r1.2 6).I,t (g r1.2 7).S,i (g r6.2 0).I,i (g r6.2 1).I,t (g r6.2 2).S,s (g r1.2 8).L,s (g r6.2 3).L]).bind fun r8=>bif q r8.1 0 then some (0,[i (g r8.2 6).I,i (g r8.2 7).I,t (g r8.2 8).S,t (g r8.2 0).S,i (g r8.2 1).I,b (g r8.2 2).B,s (g r8.2 10).L]) else none else none else (c ⟨293,0,0⟩ [t (m #[40]),t (g r1.2 2).S,i (g r1.2 3).I,b (g r1.2 4).B]).bind fun r9=>bif !(g r9.2 0).B then some (0,[i 2,i 0,t ((g r1.2 2).S.extract (z (g r1.2 1).I) (z (g r1.2 3).I)),t (g r9.2 1).S,i (g r9.2 2).I,b (g r9.2 3).B,s []]) else (c ⟨285,0,4⟩ [i (g r1.2 0).I,i 0,t (g r9.2 1).S,i (w .i64 ((g r9.2 2).I+1)),b (g r9.2 3).B,i (g r1.2 5).I,i (g r1.2 6).I,t (g r1.2 7).S,i 2,i 0,t ((g r1.2 2).S.extract (z (g r1.2 1).I) (z (g r1.2 3).I)),s (g r1.2 8).L,s []]).bind fun r10=>bif q r10.1 0 then some (0,[i (g r10.2 6).I,i (g r10.2 7).I,t (g r10.2 8).S,t (g r10.2 0).S,i (g r10.2 1).I,b (g r10.2 2).B,s (g r10.2 10).L]) else none else none else (c ⟨293,0,0⟩ [t (m #[40]),t (g r1.2 2).S,i (g r1.2 3).I,b (g r1.2 4).B]).bind fun r11=>bif !(g r11.2 0).B then some (0,[i 2,i 0,t ((g r1.2 2).S.extract (z (g r1.2 1).I) (z (g r1.2 3).I)),t (g r11.2 1).S,i (g r11.2 2).I,b (g r11.2 3).B,s []]) else (c ⟨285,0,4⟩ [i (g r1.2 0).I,i 0,t (g r11.2 1).S,i (w .i64 ((g r11.2 2).I+1)),b (g r11.2 3).B,i (g r1.2 5).I,i (g r1.2 6).I,t (g r1.2 7).S,i 2,i 0,t ((g r1.2 2).S.extract (z (g r1.2 1).I) (z (g r1.2 3).I)),s (g r1.2 8).L,s []]).bind fun r12=>bif q r12.1 0 then some (0,[i (g r12.2 6).I,i (g r12.2 7).I,t (g r12.2 8).S,t (g r12.2 0).S,i (g r12.2 1).I,b (g r12.2 2).B,s (g r12.2 10).L]) else none else none else none),Sd.en hc (.I fun _=>.S fun _=>.I fun _=>.B fun _=>.E (by kernel_rfl))⟩
def Vh:EV:=fun c hc=>⟨⟨285,0,1⟩,pI fun x0=>pI fun x1=>pS fun x2=>pI fun x3=>pB fun x4=>pI fun x5=>pI fun x6=>pS fun x7=>pL fun x8=>pE (bif d (x3<(x2).size) then bif inb x3 (x2).size then bif !d (((((x2).get! (z x3)).toNat):Int)=40) then bif inb x3 (x2).size then bif !d (((((x2).get! (z x3)).toNat):Int)=41) then bif inb x3 (x2).size then bif !d (((((x2).get! (z x3)).toNat):Int)=44) then bif inb x3 (x2).size then bif !d (((((x2).get! (z x3)).toNat):Int)=32) then c ⟨285,0,1⟩ [i x0,i x1,t x2,i (w .i64 (x3+1)),b x4,i x5,i x6,t x7,s x8] else some (0,[i x0,i x1,t x2,i x3,b x4,i x5,i x6,t x7,s x8]) else none else some (0,[i x0,i x1,t x2,i x3,b x4,i x5,i x6,t x7,s x8]) else none else some (0,[i x0,i x1,t x2,i x3,b x4,i x5,i x6,t x7,s x8]) else none else some (0,[i x0,i x1,t x2,i x3,b x4,i x5,i x6,t x7,s x8]) else none else some (0,[i x0,i x1,t x2,i x3,b x4,i x5,i x6,t x7,s x8])),Sd.en hc (.I fun _=>.I fun _=>.S fun _=>.I fun _=>.B fun _=>.I fun _=>.I fun _=>.S fun _=>.L fun _=>.E (by kernel_rfl))⟩
def Vi:EV:=fun c hc=>⟨⟨285,0,4⟩,pI fun x0=>pI fun x1=>pS fun x2=>pI fun x3=>pB fun x4=>pI fun x5=>pI fun x6=>pS fun x7=>pI fun x8=>pI fun x9=>pS fun x10=>pL fun x11=>pL fun x12=>pE (bif !x4 then bif d ((16:Int)<x0) then some (0,[t x2,i x3,b true,i x5,i x6,t x7,i x8,i x9,t x10,s x11,s x12]) else bif d ((60:Int)<x1) then some (0,[t x2,i x3,b true,i x5,i x6,t x7,i x8,i x9,t x10,s x11,s x12]) else (c ⟨285,0,0⟩ [i (w .i64 (x0+1)),t x2,i x3,b x4]).bind fun r1=>bif l (x12.length+(([[i (g r1.2 0).I,i (g r1.2 1).I,t (g r1.2 2).S,s (g r1.2 6).L]]:aa)).length) M63 then (c ⟨293,0,0⟩ [t (m #[41]),t (g r1.2 3).S,i (g r1.2 4).I,b (g r1.2 5).B]).bind fun r2=>bif (g r2.2 0).B then some (0,[t (g r2.2 1).S,i (w .i64 ((g r2.2 2).I+1)),b (g r2.2 3).B,i x5,i x6,t x7,i x8,i x9,t x10,s x11,s (x12++([[i (g r1.2 0).I,i (g r1.2 1).I,t (g r1.2 2).S,s (g r1.2 6).L]]:aa))]) else bif (g r2.2 3).B then c ⟨285,0,4⟩ [i x0,i (w .i64 (x1+1)),t (g r2.2 1).S,i (w .i64 ((g r2.2 2).I+2)),b true,i x5,i x6,t x7,i x8,i x9,t x10,s x11,s (x12++([[i (g r1.2 0).I,i (g r1.2 1).I,t (g r1.2 2).S,s (g r1.2 6).L]]:aa))] else (c ⟨293,0,0⟩ [t (m #[44,32]),t (g r2.2 1).S,i (g r2.2 2).I,b (g r2.2 3).B]).bind fun r3=>c ⟨285,0,4⟩ [i x0,i (w .i64 (x1+1)),t (g r3.2 1).S,i (w .i64 ((g r3.2 2).I+2)),b (!(g r3.2 0).B),i x5,i x6,t x7,i x8,i x9,t x10,s x11,s (x12++([[i (g r1.2 0).I,i (g r1.2 1).I,t (g r1.2 2).S,s (g r1.2 6).L]]:aa))] else none else some (0,[t x2,i x3,b x4,i x5,i x6,t x7,i x8,i x9,t x10,s x11,s x12])),Sd.en hc (.I fun _=>.I fun _=>.S fun _=>.I fun _=>.B fun _=>.I fun _=>.I fun _=>.S fun _=>.I fun _=>.I fun _=>.S fun _=>.L fun _=>.L fun _=>.E (by kernel_rfl))⟩
def Vj:EV:=fun c hc=>⟨⟨267,0,0⟩,pS fun x0=>pS fun x1=>pE ((c ⟨267,0,1⟩ [t x0,t x1,i 0]).bind fun r1=>bif q r1.1 0 then some (0,[t (g r1.2 0).S,t (m #[]),b false]) else bif q r1.1 1 then some (0,[t (g r1.2 0).S,t (g r1.2 1).S,b true]) else none),Sd.en hc (.S fun _=>.S fun _=>.E (by kernel_rfl))⟩
def Vk:EV:=fun c hc=>⟨⟨267,0,1⟩,pS fun x0=>pS fun x1=>pI fun x2=>pE (bif d (((w .i64 (x2+(x1).size)):Int)<=(x0).size) then bif d ((0:Int)<=x2)&&(d (x2<=w .i64 (x2+(x1).size))&&d ((w .i64 (x2+(x1).size):Int)<=(x0).size)) then bif d (((x0).extract (z x2) (z (w .i64 (x2+(x1).size))))=x1) then bif d ((0:Int)<=0)&&(d ((0:Int)<=x2)&&d (x2<=(x0).size)) then bif d ((0:Int)<=w .i64 (x2+(x1).size))&&(d ((w .i64 (x2+(x1).size):Int)<=((x0).size:Nat))&&d ((((x0).size:Nat):Int)<=(x0).size)) then some (1,[t ((x0).extract (z 0) (z x2)),t ((x0).extract (z (w .i64 (x2+(x1).size))) (z ((x0).size:Nat)))]) else none else none else c ⟨267,0,1⟩ [t x0,t x1,i (w .i64 (x2+1))] else none else some (0,[t x0])),Sd.en hc (.S fun _=>.S fun _=>.I fun _=>.E (by kernel_rfl))⟩
def Vl:EV:=fun c hc=>⟨⟨234,0,0⟩,pS fun x0=>pI fun x1=>pE ((c ⟨234,0,1⟩ [t x0,i x1,i 0,i 0,s ([]:aa)]).bind fun r1=>bif q r1.1 0 then some (0,[s (g r1.2 0).L]) else none),Sd.en hc (.S fun _=>.I fun _=>.E (by kernel_rfl))⟩
def Vm:EV:=fun c hc=>⟨⟨234,0,1⟩,pS fun x0=>pI fun x1=>pI fun x2=>pI fun x3=>pL fun x4=>pE (bif d (x3<=(x0).size) then bif d (x3=(x0).size) then bif d ((0:Int)<=x2)&&(d (x2<=x3)&&d (x3<=(x0).size)) then bif l (x4.length+(([[t ((x0).extract (z x2) (z x3))]]:aa)).length) M63 then c ⟨234,0,1⟩ [t x0,i x1,i (w .i64 (x3+1)),i (w .i64 (x3+1)),s (x4++([[t ((x0).extract (z x2) (z x3))]]:aa))] else none else none else bif inb x3 (x0).size then bif d (((((x0).get! (z x3)).toNat):Int)=x1) then bif d ((0:Int)<=x2)&&(d (x2<=x3)&&d (x3<=(x0).size)) then bif l (x4.length+(([[t ((x0).extract (z x2) (z x3))]]:aa)).length) M63 then c ⟨234,0,1⟩ [t x0,i x1,i (w .i64 (x3+1)),i (w .i64 (x3+1)),s (x4++([[t ((x0).extract (z x2) (z x3))]]:aa))] else none else none else c ⟨234,0,1⟩ [t x0,i x1,i x2,i (w .i64 (x3+1)),s x4] else none else some (0,[s x4])),Sd.en hc (.S fun _=>.I fun _=>.I fun _=>.I fun _=>.L fun _=>.E (by kernel_rfl))⟩
def Vn:EV:=fun c hc=>⟨⟨286,0,0⟩,pI fun x0=>pI fun x1=>pS fun x2=>pL fun x3=>pE (bif d (x0=3) then (c ⟨192,0,0⟩ [i x1]).bind fun r1=>some (0,[t (g r1.2 0).S]) else (c ⟨286,0,1⟩ [t x2,i 0,i x0,i x1,t x2,s x3]).bind fun r2=>bif q r2.1 0 then bif d ((0:Int)<(g r2.2 4).L.length) then bif d ((g r2.2 0).S.size+(m #[41]).size<=bd) then some (0,[t ((g r2.2 0).S++(m #[41]))]) else none else some (0,[t (g r2.2 0).S]) else none),Sd.en hc (.I fun _=>.I fun _=>.S fun _=>.L fun _=>.E (by kernel_rfl))⟩
def Vo:EV:=fun c hc=>⟨⟨286,0,1⟩,pS fun x0=>pI fun x1=>pI fun x2=>pI fun x3=>pS fun x4=>pL fun x5=>pE (bif d (x1<x5.length) then bif d (x1=0) then bif d (x0.size+(m #[40]).size<=bd) then bif inb x1 x5.length then (c ⟨286,0,0⟩ [i (g (p x5 (z x1)) 0).I,i (g (p x5 (z x1)) 1).I,t (g (p x5 (z x1)) 2).S,s (g (p x5 (z x1)) 3).L]).bind fun r1=>bif d ((x0++(m #[40])).size+(g r1.2 0).S.size<=bd) then c ⟨286,0,1⟩ [t ((x0++(m #[40]))++(g r1.2 0).S),i (w .i64 (x1+1)),i x2,i x3,t x4,s x5] else none else none else none else bif d (x0.size+(m #[44,32]).size<=bd) then bif inb x1 x5.length then (c ⟨286,0,0⟩ [i (g (p x5 (z x1)) 0).I,i (g (p x5 (z x1)) 1).I,t (g (p x5 (z x1)) 2).S,s (g (p x5 (z x1)) 3).L]).bind fun r2=>bif d ((x0++(m #[44,32])).size+(g r2.2 0).S.size<=bd) then c ⟨286,0,1⟩ [t ((x0++(m #[44,32]))++(g r2.2 0).S),i (w .i64 (x1+1)),i x2,i x3,t x4,s x5] else none else none else none else some (0,[t x0,i x2,i x3,t x4,s x5])),Sd.en hc (.S fun _=>.I fun _=>.I fun _=>.I fun _=>.S fun _=>.L fun _=>.E (by kernel_rfl))⟩
def Vp:EV:=fun c hc=>⟨⟨293,0,0⟩,pS fun x0=>pS fun x1=>pI fun x2=>pB fun x3=>pE (bif d (((w .i64 (x2+(x0).size)):Int)<=(x1).size) then bif d ((0:Int)<=x2)&&(d (x2<=w .i64 (x2+(x0).size))&&d ((w .i64 (x2+(x0).size):Int)<=(x1).size)) then some (0,[b (d (((x1).extract (z x2) (z (w .i64 (x2+(x0).size))))=x0)),t x1,i x2,b x3]) else none else some (0,[b false,t x1,i x2,b x3])),Sd.en hc (.S fun _=>.S fun _=>.I fun _=>.B fun _=>.E (by kernel_rfl))⟩
def Vq:EV:=fun c hc=>⟨⟨226,0,0⟩,pS fun x0=>pE ((c ⟨226,0,1⟩ [t x0,i 1]).bind fun r1=>bif q r1.1 0 then (c ⟨35,0,0⟩ [i ((g r1.2 0).S.size),i 1,i 8]).bind fun r2=>some (0,[b (g r2.2 0).B]) else bif q r1.1 1 then some (0,[b false]) else none),Sd.en hc (.S fun _=>.E (by kernel_rfl))⟩
def Vr:EV:=fun c hc=>⟨⟨226,0,1⟩,pS fun x0=>pI fun x1=>pE (bif d (x1<(x0).size) then bif inb x1 (x0).size then (c ⟨251,0,0⟩ [i (((x0).get! (z x1)).toNat)]).bind fun r1=>bif !(g r1.2 0).B then bif inb x1 (x0).size then (c ⟨254,0,0⟩ [i (((x0).get! (z x1)).toNat)]).bind fun r2=>bif !(g r2.2 0).B then some (1,[]) else c ⟨226,0,1⟩ [t x0,i (w .i64 (x1+1))] else none else c ⟨226,0,1⟩ [t x0,i (w .i64 (x1+1))] else none else some (0,[t x0])),Sd.en hc (.S fun _=>.I fun _=>.E (by kernel_rfl))⟩
def Vs:EV:=fun c hc=>⟨⟨251,0,0⟩,pI fun x0=>pE (bif d ((97:Int)<=x0) then some (0,[b (d (x0<=122))]) else some (0,[b false])),Sd.en hc (.I fun _=>.E (by kernel_rfl))⟩
def Vt:EV:=fun c hc=>⟨⟨254,0,0⟩,pI fun x0=>pE (bif d ((48:Int)<=x0) then some (0,[b (d (x0<=57))]) else some (0,[b false])),Sd.en hc (.I fun _=>.E (by kernel_rfl))⟩
def Zn:EV:=fun c hc=>⟨⟨35,0,0⟩,pI fun x0=>pI fun x1=>pI fun x2=>pE (bif d (x1<=x0) then some (0,[b (d (x0<=x2))]) else some (0,[b false])),Sd.en hc (.I fun _=>.I fun _=>.I fun _=>.E (by kernel_rfl))⟩
def Vu:EV:=fun c hc=>⟨⟨104,0,0⟩,pI fun x0=>pE ((c ⟨35,0,0⟩ [i x0,i 1,i 3]).bind fun r1=>bif !(g r1.2 0).B then some (0,[t (m #[])]) else bif inb x0 (([[t (m #[])],[t (m #[32,61,61,32])],[t (m #[32,33,61,32])],[t (m #[32,60,32])]]:aa)).length then some (0,[t (g (p ([[t (m #[])],[t (m #[32,61,61,32])],[t (m #[32,33,61,32])],[t (m #[32,60,32])]]:aa) (z x0)) 0).S]) else none),Sd.en hc (.I fun _=>.E (by kernel_rfl))⟩
def Vv:EV:=fun c hc=>⟨⟨113,0,0⟩,pI fun x0=>pE (some (0,[i 3,i x0,t (m #[]),s []])),Sd.en hc (.I fun _=>.E (by kernel_rfl))⟩
def Vw:EV:=fun c hc=>⟨⟨138,0,0⟩,pE ((c ⟨199,0,0⟩ [i 3]).bind fun r1=>(c ⟨198,0,0⟩ [t (g r1.2 0).S]).bind fun r2=>some (0,[s (g r2.2 1).L,s (g r2.2 2).L,s (g r2.2 3).L,s (g r2.2 4).L])),Sd.en hc (.E (by kernel_rfl))⟩
def Vx:EV:=fun c hc=>⟨⟨163,0,0⟩,pS fun x0=>pE (bif !d (x0=(m #[])) then bif inb 0 (x0).size then bif d ((65:Int)<=(((x0).get! (z 0)).toNat)) then bif inb 0 (x0).size then bif d (((((x0).get! (z 0)).toNat):Int)<=90) then (c ⟨226,0,0⟩ [t x0]).bind fun r1=>some (0,[b (g r1.2 0).B]) else some (0,[b false]) else none else some (0,[b false]) else none else some (0,[b false])),Sd.en hc (.S fun _=>.E (by kernel_rfl))⟩
def Vy:EV:=fun c hc=>⟨⟨192,0,0⟩,pI fun x0=>pE (bif d (x0=0) then some (0,[t (m #[48])]) else (c ⟨192,0,1⟩ [i x0,b (d (x0<0)),t (m #[])]).bind fun r1=>bif q r1.1 0 then bif (g r1.2 0).B then bif d ((m #[45]).size+(g r1.2 1).S.size<=bd) then some (0,[t ((m #[45])++(g r1.2 1).S)]) else none else some (0,[t (g r1.2 1).S]) else none),Sd.en hc (.I fun _=>.E (by kernel_rfl))⟩
def Vz:EV:=fun c hc=>⟨⟨192,0,1⟩,pI fun x0=>pB fun x1=>pS fun x2=>pE (bif !d (x0=0) then bif !d ((10:Int)=0) then bif d (((P0 x0 10):Int)<0) then bif d ((fk ([[i (IntKind.u8.wrap (w .i64 (48+(w .i64 (0-(P0 x0 10))))))]]:aa)).size+x2.size<=bd) then bif !d ((10:Int)=0) then c ⟨192,0,1⟩ [i (w .i64 (Int.tdiv x0 10)),b x1,t ((fk ([[i (IntKind.u8.wrap (w .i64 (48+(w .i64 (0-(P0 x0 10))))))]]:aa))++x2)] else none else none else bif d ((fk ([[i (IntKind.u8.wrap (w .i64 (48+(P0 x0 10))))]]:aa)).size+x2.size<=bd) then bif !d ((10:Int)=0) then c ⟨192,0,1⟩ [i (w .i64 (Int.tdiv x0 10)),b x1,t ((fk ([[i (IntKind.u8.wrap (w .i64 (48+(P0 x0 10))))]]:aa))++x2)] else none else none else none else some (0,[b x1,t x2])),Sd.en hc (.I fun _=>.B fun _=>.S fun _=>.E (by kernel_rfl))⟩
def Wa:EV:=fun c hc=>⟨⟨198,0,0⟩,pS fun x0=>pE ((c ⟨234,0,0⟩ [t x0,i 10]).bind fun r1=>bif inb (w .i64 ((g r1.2 0).L.length-1)) (g r1.2 0).L.length then bif d ((g (p (g r1.2 0).L (z (w .i64 ((g r1.2 0).L.length-1)))) 0).S=(m #[])) then bif d ((0:Int)<=0)&&(d ((0:Int)<=w .i64 ((g r1.2 0).L.length-1))&&d ((w .i64 ((g r1.2 0).L.length-1):Int)<=(g r1.2 0).L.length)) then (c ⟨198,0,1⟩ [t x0,s (((g r1.2 0).L.take (z (w .i64 ((g r1.2 0).L.length-1)))).drop (z 0)),i 0,s [],s [],s [],s [],s [],s [],s [],s []]).bind fun r2=>bif q r2.1 0 then (c ⟨236,0,0⟩ [s (g r2.2 6).L,s (g r2.2 7).L,s (g r2.2 8).L,s (g r2.2 9).L]).bind fun r3=>bif !d ((g r3.2 0).S=(g r2.2 0).S) then some (0,[i (g r2.2 1).L.length,s [],s [],s [],s []]) else some (0,[i (-1),s (g r2.2 6).L,s (g r2.2 7).L,s (g r2.2 8).L,s (g r2.2 9).L]) else bif q r2.1 1 then some (0,[i (g r2.2 0).I,s (g r2.2 1).L,s (g r2.2 2).L,s (g r2.2 3).L,s (g r2.2 4).L]) else none else none else (c ⟨198,0,1⟩ [t x0,s (g r1.2 0).L,i 0,s [],s [],s [],s [],s [],s [],s [],s []]).bind fun r4=>bif q r4.1 0 then (c ⟨236,0,0⟩ [s (g r4.2 6).L,s (g r4.2 7).L,s (g r4.2 8).L,s (g r4.2 9).L]).bind fun r5=>bif !d ((g r5.2 0).S=(g r4.2 0).S) then some (0,[i (g r4.2 1).L.length,s [],s [],s [],s []]) else some (0,[i (-1),s (g r4.2 6).L,s (g r4.2 7).L,s (g r4.2 8).L,s (g r4.2 9).L]) else bif q r4.1 1 then some (0,[i (g r4.2 0).I,s (g r4.2 1).L,s (g r4.2 2).L,s (g r4.2 3).L,s (g r4.2 4).L]) else none else none),Sd.en hc (.S fun _=>.E (by kernel_rfl))⟩
def Wb:EV:=fun c hc=>⟨⟨198,0,1⟩,pS fun x0=>pL fun x1=>pI fun x2=>pL fun x3=>pL fun x4=>pL fun x5=>pL fun x6=>pL fun x7=>pL fun x8=>pL fun x9=>pL fun x10=>pE (bif d (x2<x1.length) then bif inb x2 x1.length then (c ⟨235,1,0⟩ [t (g (p x1 (z x2)) 0).S,s x7,s x8,s x9,s x10]).bind fun r1=>bif !(g r1.2 0).B then some (1,[i x2,s [],s [],s [],s []]) else c ⟨198,0,1⟩ [t x0,s x1,i (w .i64 (x2+1)),s x3,s x4,s x5,s x6,s (g r1.2 1).L,s (g r1.2 2).L,s (g r1.2 3).L,s (g r1.2 4).L] else none else some (0,[t x0,s x1,s x3,s x4,s x5,s x6,s x7,s x8,s x9,s x10])),Sd.en hc (.S fun _=>.L fun _=>.I fun _=>.L fun _=>.L fun _=>.L fun _=>.L fun _=>.L fun _=>.L fun _=>.L fun _=>.L fun _=>.E (by kernel_rfl))⟩
def Wc:EV:=fun c hc=>⟨⟨199,0,0⟩,pI fun x0=>pE ((c ⟨237,0,0⟩ [i x0]).bind fun r1=>bif d (((g r1.2 0).L.length:Int)=0) then some (0,[t (m #[])]) else (c ⟨238,0,0⟩ [s (g r1.2 0).L,t (m #[10])]).bind fun r2=>bif d ((g r2.2 0).S.size+(m #[10]).size<=bd) then some (0,[t ((g r2.2 0).S++(m #[10]))]) else none),Sd.en hc (.I fun _=>.E (by kernel_rfl))⟩
def Wd:EV:=fun c hc=>⟨⟨222,0,0⟩,pS fun x0=>pE (bif !d (x0=(m #[])) then bif inb 0 (x0).size then (c ⟨251,0,0⟩ [i (((x0).get! (z 0)).toNat)]).bind fun r1=>bif (g r1.2 0).B then (c ⟨226,0,0⟩ [t x0]).bind fun r2=>some (0,[b (g r2.2 0).B]) else some (0,[b false]) else none else some (0,[b false])),Sd.en hc (.S fun _=>.E (by kernel_rfl))⟩
def We:EV:=fun c hc=>⟨⟨235,1,0⟩,pS fun x0=>pL fun x1=>pL fun x2=>pL fun x3=>pL fun x4=>pE ((c ⟨234,0,0⟩ [t x0,i 32]).bind fun r1=>bif inb 0 (g r1.2 0).L.length then bif d ((g (p (g r1.2 0).L (z 0)) 0).S=(m #[115,111,114,116])) then bif d ((0:Int)<=1)&&(d ((1:Int)<=((g r1.2 0).L.length:Nat))&&d ((((g r1.2 0).L.length:Nat):Int)<=(g r1.2 0).L.length)) then (c ⟨238,0,0⟩ [s (((g r1.2 0).L.take (z ((g r1.2 0).L.length:Nat))).drop (z 1)),t (m #[32])]).bind fun r2=>bif l (x1.length+(([[t (g r2.2 0).S]]:aa)).length) M63 then some (0,[b true,s (x1++([[t (g r2.2 0).S]]:aa)),s x2,s x3,s x4]) else none else none else bif d ((g (p (g r1.2 0).L (z 0)) 0).S=(m #[111,112])) then (c ⟨255,0,0⟩ [s (g r1.2 0).L]).bind fun r3=>bif l (x2.length+(([[t (g r3.2 0).S,s (g r3.2 2).L,t (g r3.2 1).S]]:aa)).length) M63 then some (0,[b true,s x1,s (x2++([[t (g r3.2 0).S,s (g r3.2 2).L,t (g r3.2 1).S]]:aa)),s x3,s x4]) else none else bif d ((g (p (g r1.2 0).L (z 0)) 0).S=(m #[115,116,114,105,99,116])) then bif inb (w .i64 ((g r1.2 0).L.length-1)) (g r1.2 0).L.length then (c ⟨256,0,0⟩ [t (g (p (g r1.2 0).L (z (w .i64 ((g r1.2 0).L.length-1)))) 0).S]).bind fun r4=>(c ⟨257,0,0⟩ [i 1,i (w .i64 ((g r1.2 0).L.length-1))]).bind fun r5=>bif inb (g r5.2 0).I (g r1.2 0).L.length then bif l (x4.length+(([[t (g (p (g r1.2 0).L (z (g r5.2 0).I)) 0).S,i (g r4.2 0).I]]:aa)).length) M63 then some (0,[b true,s x1,s x2,s x3,s (x4++([[t (g (p (g r1.2 0).L (z (g r5.2 0).I)) 0).S,i (g r4.2 0).I]]:aa))]) else none else none else none else bif d ((g (p (g r1.2 0).L (z 0)) 0).S=(m #[114,117,108,101])) then (c ⟨258,0,0⟩ [t x0]).bind fun r6=>bif l (x3.length+(([[t (g r6.2 0).S,i (g r6.2 1).I,i (g r6.2 2).I,t (g r6.2 3).S,s (g r6.2 8).L,i (g r6.2 4).I,i (g r6.2 5).I,t (g r6.2 6).S,s (g r6.2 9).L,s (g r6.2 10).L]]:aa)).length) M63 then some (0,[b (g r6.2 7).B,s x1,s x2,s (x3++([[t (g r6.2 0).S,i (g r6.2 1).I,i (g r6.2 2).I,t (g r6.2 3).S,s (g r6.2 8).L,i (g r6.2 4).I,i (g r6.2 5).I,t (g r6.2 6).S,s (g r6.2 9).L,s (g r6.2 10).L]]:aa)),s x4]) else none else some (0,[b false,s x1,s x2,s x3,s x4]) else none),Sd.en hc (.S fun _=>.L fun _=>.L fun _=>.L fun _=>.L fun _=>.E (by kernel_rfl))⟩
def Wf:EV:=fun c hc=>⟨⟨236,0,0⟩,pL fun x0=>pL fun x1=>pL fun x2=>pL fun x3=>pE ((c ⟨98,0,0⟩ [s x0,s x1,s x2,s x3]).bind fun r1=>bif !(g r1.2 0).B then some (0,[t (m #[])]) else (c ⟨236,0,1⟩ [t (m #[]),i 0,s x0,s x1,s x2,s x3]).bind fun r2=>bif q r2.1 0 then (c ⟨236,0,3⟩ [t (g r2.2 0).S,i 0,s (g r2.2 1).L,s (g r2.2 2).L,s (g r2.2 3).L,s (g r2.2 4).L]).bind fun r3=>bif q r3.1 0 then (c ⟨236,0,7⟩ [t (g r3.2 0).S,i 0,s (g r3.2 1).L,s (g r3.2 2).L,s (g r3.2 3).L,s (g r3.2 4).L]).bind fun r4=>bif q r4.1 0 then (c ⟨236,0,9⟩ [t (g r4.2 0).S,i 0,s (g r4.2 1).L,s (g r4.2 2).L,s (g r4.2 3).L,s (g r4.2 4).L]).bind fun r5=>bif q r5.1 0 then some (0,[t (g r5.2 0).S]) else none else none else none else none),Sd.en hc (.L fun _=>.L fun _=>.L fun _=>.L fun _=>.E (by kernel_rfl))⟩
def Wg:EV:=fun c hc=>⟨⟨236,0,1⟩,pS fun x0=>pI fun x1=>pL fun x2=>pL fun x3=>pL fun x4=>pL fun x5=>pE (bif d (x1<x2.length) then bif d (x0.size+(m #[115,111,114,116,32]).size<=bd) then bif inb x1 x2.length then bif d ((x0++(m #[115,111,114,116,32])).size+(g (p x2 (z x1)) 0).S.size<=bd) then bif d (((x0++(m #[115,111,114,116,32]))++(g (p x2 (z x1)) 0).S).size+(m #[10]).size<=bd) then c ⟨236,0,1⟩ [t (((x0++(m #[115,111,114,116,32]))++(g (p x2 (z x1)) 0).S)++(m #[10])),i (w .i64 (x1+1)),s x2,s x3,s x4,s x5] else none else none else none else none else some (0,[t x0,s x2,s x3,s x4,s x5])),Sd.en hc (.S fun _=>.I fun _=>.L fun _=>.L fun _=>.L fun _=>.L fun _=>.E (by kernel_rfl))⟩
def Wh:EV:=fun c hc=>⟨⟨236,0,3⟩,pS fun x0=>pI fun x1=>pL fun x2=>pL fun x3=>pL fun x4=>pL fun x5=>pE (bif d (x1<x3.length) then bif inb x1 x3.length then bif d (x0.size+(m #[111,112,32]).size<=bd) then bif d ((x0++(m #[111,112,32])).size+(g (p x3 (z x1)) 0).S.size<=bd) then (c ⟨236,0,5⟩ [t ((x0++(m #[111,112,32]))++(g (p x3 (z x1)) 0).S),i x1,i 0,s x2,s x3,s x4,s x5,t (g (p x3 (z x1)) 0).S,s (g (p x3 (z x1)) 1).L,t (g (p x3 (z x1)) 2).S]).bind fun r1=>bif q r1.1 0 then bif d ((g r1.2 0).S.size+(m #[32,58,32]).size<=bd) then bif d (((g r1.2 0).S++(m #[32,58,32])).size+(g r1.2 8).S.size<=bd) then bif d ((((g r1.2 0).S++(m #[32,58,32]))++(g r1.2 8).S).size+(m #[10]).size<=bd) then c ⟨236,0,3⟩ [t ((((g r1.2 0).S++(m #[32,58,32]))++(g r1.2 8).S)++(m #[10])),i (w .i64 ((g r1.2 1).I+1)),s (g r1.2 2).L,s (g r1.2 3).L,s (g r1.2 4).L,s (g r1.2 5).L] else none else none else none else none else none else none else none else some (0,[t x0,s x2,s x3,s x4,s x5])),Sd.en hc (.S fun _=>.I fun _=>.L fun _=>.L fun _=>.L fun _=>.L fun _=>.E (by kernel_rfl))⟩
def Wi:EV:=fun c hc=>⟨⟨236,0,5⟩,pS fun x0=>pI fun x1=>pI fun x2=>pL fun x3=>pL fun x4=>pL fun x5=>pL fun x6=>pS fun x7=>pL fun x8=>pS fun x9=>pE (bif d (x2<x8.length) then bif d (x0.size+(m #[32]).size<=bd) then bif inb x2 x8.length then bif d ((x0++(m #[32])).size+(g (p x8 (z x2)) 0).S.size<=bd) then c ⟨236,0,5⟩ [t ((x0++(m #[32]))++(g (p x8 (z x2)) 0).S),i x1,i (w .i64 (x2+1)),s x3,s x4,s x5,s x6,t x7,s x8,t x9] else none else none else none else some (0,[t x0,i x1,s x3,s x4,s x5,s x6,t x7,s x8,t x9])),Sd.en hc (.S fun _=>.I fun _=>.I fun _=>.L fun _=>.L fun _=>.L fun _=>.L fun _=>.S fun _=>.L fun _=>.S fun _=>.E (by kernel_rfl))⟩
def Wj:EV:=fun c hc=>⟨⟨236,0,7⟩,pS fun x0=>pI fun x1=>pL fun x2=>pL fun x3=>pL fun x4=>pL fun x5=>pE (bif d (x1<x5.length) then bif d (x0.size+(m #[115,116,114,105,99,116,32]).size<=bd) then bif inb x1 x5.length then bif d ((x0++(m #[115,116,114,105,99,116,32])).size+(g (p x5 (z x1)) 0).S.size<=bd) then bif d (((x0++(m #[115,116,114,105,99,116,32]))++(g (p x5 (z x1)) 0).S).size+(m #[32]).size<=bd) then bif inb x1 x5.length then (c ⟨192,0,0⟩ [i (g (p x5 (z x1)) 1).I]).bind fun r1=>bif d ((((x0++(m #[115,116,114,105,99,116,32]))++(g (p x5 (z x1)) 0).S)++(m #[32])).size+(g r1.2 0).S.size<=bd) then bif d (((((x0++(m #[115,116,114,105,99,116,32]))++(g (p x5 (z x1)) 0).S)++(m #[32]))++(g r1.2 0).S).size+(m #[10]).size<=bd) then c ⟨236,0,7⟩ [t (((((x0++(m #[115,116,114,105,99,116,32]))++(g (p x5 (z x1)) 0).S)++(m #[32]))++(g r1.2 0).S)++(m #[10])),i (w .i64 (x1+1)),s x2,s x3,s x4,s x5] else none else none else none else none else none else none else none else some (0,[t x0,s x2,s x3,s x4,s x5])),Sd.en hc (.S fun _=>.I fun _=>.L fun _=>.L fun _=>.L fun _=>.L fun _=>.E (by kernel_rfl))⟩
def Wk:EV:=fun c hc=>⟨⟨236,0,9⟩,pS fun x0=>pI fun x1=>pL fun x2=>pL fun x3=>pL fun x4=>pL fun x5=>pE (bif d (x1<x4.length) then bif inb x1 x4.length then (c ⟨259,0,0⟩ [t (g (p x4 (z x1)) 0).S,i (g (p x4 (z x1)) 1).I,i (g (p x4 (z x1)) 2).I,t (g (p x4 (z x1)) 3).S,s (g (p x4 (z x1)) 4).L,i (g (p x4 (z x1)) 5).I,i (g (p x4 (z x1)) 6).I,t (g (p x4 (z x1)) 7).S,s (g (p x4 (z x1)) 8).L,s (g (p x4 (z x1)) 9).L]).bind fun r1=>bif d (x0.size+(g r1.2 0).S.size<=bd) then bif d ((x0++(g r1.2 0).S).size+(m #[10]).size<=bd) then c ⟨236,0,9⟩ [t ((x0++(g r1.2 0).S)++(m #[10])),i (w .i64 (x1+1)),s x2,s x3,s x4,s x5] else none else none else none else some (0,[t x0])),Sd.en hc (.S fun _=>.I fun _=>.L fun _=>.L fun _=>.L fun _=>.L fun _=>.E (by kernel_rfl))⟩
def Wl:EV:=fun c hc=>⟨⟨237,0,0⟩,pI fun x0=>pE (bif d (x0=1) then some (0,[s ([[t (m #[115,111,114,116,32,101])],[t (m #[111,112,32,110,117,109,32,119,111,114,100,32,58,32,101])],[t (m #[111,112,32,97,100,100,32,101,32,101,32,58,32,101])],[t (m #[111,112,32,109,117,108,32,101,32,101,32,58,32,101])],[t (m #[111,112,32,105,102,122,32,101,32,101,32,101,32,58,32,101])],[t (m #[115,116,114,105,99,116,32,97,100,100,32,48])],[t (m #[115,116,114,105,99,116,32,97,100,100,32,49])],[t (m #[115,116,114,105,99,116,32,109,117,108,32,48])],[t (m #[115,116,114,105,99,116,32,109,117,108,32,49])],[t (m #[115,116,114,105,99,116,32,105,102,122,32,48])],[t (m #[114,117,108,101,32,97,100,100,58,32,97,100,100,40,110,117,109,40,78,41,44,32,110,117,109,40,77,41,41,32,61,62,32,110,117,109,40,112,108,117,115,40,78,44,32,77,41,41])],[t (m #[114,117,108,101,32,109,117,108,58,32,109,117,108,40,110,117,109,40,78,41,44,32,110,117,109,40,77,41,41,32,61,62,32,110,117,109,40,116,105,109,101,115,40,78,44,32,77,41,41])],[t (m #[114,117,108,101,32,122,101,114,111,58,32,105,102,122,40,110,117,109,40,48,41,44,32,88,44,32,89,41,32,61,62,32,88])],[t (m #[114,117,108,101,32,111,116,104,101,114,58,32,105,102,122,40,110,117,109,40,78,41,44,32,88,44,32,89,41,32,61,62,32,89,32,105,102,32,48,32,60,32,78])]]:aa)]) else bif d (x0=2) then some (0,[s ([[t (m #[115,111,114,116,32,101])],[t (m #[115,111,114,116,32,105])],[t (m #[115,111,114,116,32,115])],[t (m #[115,111,114,116,32,99])],[t (m #[111,112,32,110,117,109,32,119,111,114,100,32,58,32,101])],[t (m #[111,112,32,97,100,100,32,101,32,101,32,58,32,101])],[t (m #[111,112,32,109,117,108,32,101,32,101,32,58,32,101])],[t (m #[111,112,32,104,97,108,116,32,58,32,105])],[t (m #[111,112,32,112,117,115,104,32,119,111,114,100,32,105,32,58,32,105])],[t (m #[111,112,32,115,117,109,32,105,32,58,32,105])],[t (m #[111,112,32,112,114,111,100,32,105,32,58,32,105])],[t (m #[111,112,32,110,105,108,32,58,32,115])],[t (m #[111,112,32,99,111,110,115,32,119,111,114,100,32,115,32,58,32,115])],[t (m #[111,112,32,114,117,110,32,105,32,115,32,58,32,99])],[t (m #[111,112,32,99,111,109,112,32,101,32,105,32,58,32,105])],[t (m #[115,116,114,105,99,116,32,99,111,109,112,32,49])],[t (m #[115,116,114,105,99,116,32,114,117,110,32,48])],[t (m #[114,117,108,101,32,108,105,116,58,32,99,111,109,112,40,110,117,109,40,78,41,44,32,73,41,32,61,62,32,112,117,115,104,40,78,44,32,73,41])],[t (m #[114,117,108,101,32,99,115,117,109,58,32,99,111,109,112,40,97,100,100,40,88,44,32,89,41,44,32,73,41,32,61,62,32,99,111,109,112,40,88,44,32,99,111,109,112,40,89,44,32,115,117,109,40,73,41,41,41])],[t (m #[114,117,108,101,32,99,112,114,111,100,58,32,99,111,109,112,40,109,117,108,40,88,44,32,89,41,44,32,73,41,32,61,62,32,99,111,109,112,40,88,44,32,99,111,109,112,40,89,44,32,112,114,111,100,40,73,41,41,41])],[t (m #[114,117,108,101,32,112,117,115,104,58,32,114,117,110,40,112,117,115,104,40,78,44,32,73,41,44,32,83,41,32,61,62,32,114,117,110,40,73,44,32,99,111,110,115,40,78,44,32,83,41,41])],[t (m #[114,117,108,101,32,115,117,109,58,32,114,117,110,40,115,117,109,40,73,41,44,32,99,111,110,115,40,78,44,32,99,111,110,115,40,77,44,32,83,41,41,41,32,61,62,32,114,117,110,40,73,44,32,99,111,110,115,40,112,108,117,115,40,77,44,32,78,41,44,32,83,41,41])],[t (m #[114,117,108,101,32,112,114,111,100,58,32,114,117,110,40,112,114,111,100,40,73,41,44,32,99,111,110,115,40,78,44,32,99,111,110,115,40,77,44,32,83,41,41,41,32,61,62,32,114,117,110,40,73,44,32,99,111,110,115,40,116,105,109,101,115,40,77,44,32,78,41,44,32,83,41,41])]]:aa)]) else bif d (x0=3) then some (0,[s ([[t (m #[115,111,114,116,32,99])],[t (m #[111,112,32,108,111,111,112,32,119,111,114,100,32,119,111,114,100,32,58,32,99])],[t (m #[111,112,32,100,111,110,101,32,119,111,114,100,32,58,32,99])],[t (m #[114,117,108,101,32,116,117,114,110,58,32,108,111,111,112,40,78,44,32,77,41,32,61,62,32,108,111,111,112,40,109,105,110,117,115,40,78,44,32,49,41,44,32,112,108,117,115,40,77,44,32,49,41,41,32,105,102,32,48,32,60,32,78])],[t (m #[114,117,108,101,32,101,110,100,58,32,108,111,111,112,40,48,44,32,77,41,32,61,62,32,100,111,110,101,40,77,41])]]:aa)]) else some (0,[s ([]:aa)])),Sd.en hc (.I fun _=>.E (by kernel_rfl))⟩
def Wm:EV:=fun c hc=>⟨⟨238,0,0⟩,pL fun x0=>pS fun x1=>pE ((c ⟨238,0,1⟩ [s x0,t x1,i 0,s ([]:aa)]).bind fun r1=>bif q r1.1 0 then some (0,[t (fk (g r1.2 0).L)]) else none),Sd.en hc (.L fun _=>.S fun _=>.E (by kernel_rfl))⟩
def Wo:EV:=fun c hc=>⟨⟨238,0,1⟩,pL fun x0=>pS fun x1=>pI fun x2=>pL fun x3=>pE (bif d (x2<x0.length) then bif d ((0:Int)<x2) then bif l (x3.length+(kh x1).length) M63 then bif inb x2 x0.length then bif l ((x3++(kh x1)).length+(kh (g (p x0 (z x2)) 0).S).length) M63 then c ⟨238,0,1⟩ [s x0,t x1,i (w .i64 (x2+1)),s ((x3++(kh x1))++(kh (g (p x0 (z x2)) 0).S))] else none else none else none else bif inb x2 x0.length then bif l (x3.length+(kh (g (p x0 (z x2)) 0).S).length) M63 then c ⟨238,0,1⟩ [s x0,t x1,i (w .i64 (x2+1)),s (x3++(kh (g (p x0 (z x2)) 0).S))] else none else none else some (0,[s x3])),Sd.en hc (.L fun _=>.S fun _=>.I fun _=>.L fun _=>.E (by kernel_rfl))⟩
def Wp:EV:=fun c hc=>⟨⟨255,0,0⟩,pL fun x0=>pE ((c ⟨255,0,1⟩ [s x0,i 1,t (m #[]),t (m #[]),t (m #[]),t (m #[]),s [],s []]).bind fun r1=>bif q r1.1 0 then some (0,[t (g r1.2 2).S,t (g r1.2 3).S,s (g r1.2 5).L]) else bif q r1.1 1 then some (0,[t (g r1.2 0).S,t (g r1.2 1).S,s (g r1.2 2).L]) else none),Sd.en hc (.L fun _=>.E (by kernel_rfl))⟩
def Wq:EV:=fun c hc=>⟨⟨255,0,1⟩,pL fun x0=>pI fun x1=>pS fun x2=>pS fun x3=>pS fun x4=>pS fun x5=>pL fun x6=>pL fun x7=>pE (bif d (x1<x0.length) then bif d (x1=1) then bif inb x1 x0.length then c ⟨255,0,1⟩ [s x0,i (w .i64 (x1+1)),t x2,t x3,t (g (p x0 (z x1)) 0).S,t x5,s x6,s x7] else none else bif inb x1 x0.length then bif d ((g (p x0 (z x1)) 0).S=(m #[58])) then bif d (x1=(w .i64 (x0.length-2))) then bif inb (w .i64 (x1+1)) x0.length then some (1,[t x4,t (g (p x0 (z (w .i64 (x1+1)))) 0).S,s x7]) else none else bif inb x1 x0.length then bif l (x7.length+(([[t (g (p x0 (z x1)) 0).S]]:aa)).length) M63 then c ⟨255,0,1⟩ [s x0,i (w .i64 (x1+1)),t x2,t x3,t x4,t x5,s x6,s (x7++([[t (g (p x0 (z x1)) 0).S]]:aa))] else none else none else bif inb x1 x0.length then bif l (x7.length+(([[t (g (p x0 (z x1)) 0).S]]:aa)).length) M63 then c ⟨255,0,1⟩ [s x0,i (w .i64 (x1+1)),t x2,t x3,t x4,t x5,s x6,s (x7++([[t (g (p x0 (z x1)) 0).S]]:aa))] else none else none else none else some (0,[t x2,t x3,t x4,t x5,s x6,s x7])),Sd.en hc (.L fun _=>.I fun _=>.S fun _=>.S fun _=>.S fun _=>.S fun _=>.L fun _=>.L fun _=>.E (by kernel_rfl))⟩
def Wr:EV:=fun c hc=>⟨⟨256,0,0⟩,pS fun x0=>pE ((c ⟨266,0,0⟩ [t x0,i 6]).bind fun r1=>bif !(g r1.2 1).B then some (0,[i 0,b false]) else bif d (((g r1.2 0).I:Int)<0) then some (0,[i 0,b false]) else some (0,[i (g r1.2 0).I,b true])),Sd.en hc (.S fun _=>.E (by kernel_rfl))⟩
def Ws:EV:=fun c hc=>⟨⟨257,0,0⟩,pI fun x0=>pI fun x1=>pE (bif d (x0<x1) then some (0,[i x0]) else some (0,[i x1])),Sd.en hc (.I fun _=>.I fun _=>.E (by kernel_rfl))⟩
def Wu:EV:=fun c hc=>⟨⟨258,0,0⟩,pS fun x0=>pE (bif d (((x0).size:Int)<5) then some (0,[t (m #[]),i 0,i 0,t (m #[]),i 0,i 0,t (m #[]),b false,s [],s [],s []]) else bif d ((0:Int)<=0)&&(d ((0:Int)<=5)&&d ((5:Int)<=(x0).size)) then bif !d (((x0).extract (z 0) (z 5))=(m #[114,117,108,101,32])) then some (0,[t (m #[]),i 0,i 0,t (m #[]),i 0,i 0,t (m #[]),b false,s [],s [],s []]) else bif d ((0:Int)<=5)&&(d ((5:Int)<=((x0).size:Nat))&&d ((((x0).size:Nat):Int)<=(x0).size)) then (c ⟨267,0,0⟩ [t ((x0).extract (z 5) (z ((x0).size:Nat))),t (m #[58,32])]).bind fun r1=>(c ⟨267,0,0⟩ [t (g r1.2 1).S,t (m #[32,61,62,32])]).bind fun r2=>(c ⟨267,0,0⟩ [t (g r2.2 1).S,t (m #[32,105,102,32])]).bind fun r3=>(c ⟨268,0,0⟩ [t (g r2.2 0).S]).bind fun r4=>(c ⟨268,0,0⟩ [t (g r3.2 0).S]).bind fun r5=>bif !(g r1.2 2).B then some (0,[t (m #[]),i 0,i 0,t (m #[]),i 0,i 0,t (m #[]),b false,s [],s [],s []]) else bif !(g r2.2 2).B then some (0,[t (m #[]),i 0,i 0,t (m #[]),i 0,i 0,t (m #[]),b false,s [],s [],s []]) else bif !(g r4.2 3).B then some (0,[t (m #[]),i 0,i 0,t (m #[]),i 0,i 0,t (m #[]),b false,s [],s [],s []]) else bif !(g r5.2 3).B then some (0,[t (m #[]),i 0,i 0,t (m #[]),i 0,i 0,t (m #[]),b false,s [],s [],s []]) else (c ⟨222,0,0⟩ [t (g r1.2 0).S]).bind fun r6=>bif !(g r6.2 0).B then some (0,[t (m #[]),i 0,i 0,t (m #[]),i 0,i 0,t (m #[]),b false,s [],s [],s []]) else bif (g r3.2 2).B then (c ⟨269,0,0⟩ [t (g r3.2 1).S,t (m #[32,38,32])]).bind fun r7=>(c ⟨258,0,1⟩ [i 0,t (m #[]),i 0,i 0,t (m #[]),i 0,i 0,t (m #[]),t (g r1.2 0).S,i (g r4.2 0).I,i (g r4.2 1).I,t (g r4.2 2).S,i (g r5.2 0).I,i (g r5.2 1).I,t (g r5.2 2).S,s (g r7.2 0).L,s [],s [],s [],s (g r4.2 4).L,s (g r5.2 4).L,s []]).bind fun r8=>bif q r8.1 0 then some (0,[t (g r8.2 7).S,i (g r8.2 8).I,i (g r8.2 9).I,t (g r8.2 10).S,i (g r8.2 11).I,i (g r8.2 12).I,t (g r8.2 13).S,b true,s (g r8.2 17).L,s (g r8.2 18).L,s (g r8.2 19).L]) else bif q r8.1 1 then some (0,[t (g r8.2 0).S,i (g r8.2 1).I,i (g r8.2 2).I,t (g r8.2 3).S,i (g r8.2 4).I,i (g r8.2 5).I,t (g r8.2 6).S,b false,s (g r8.2 7).L,s (g r8.2 8).L,s (g r8.2 9).L]) else none else some (0,[t (g r1.2 0).S,i (g r4.2 0).I,i (g r4.2 1).I,t (g r4.2 2).S,i (g r5.2 0).I,i (g r5.2 1).I,t (g r5.2 2).S,b true,s (g r4.2 4).L,s (g r5.2 4).L,s []]) else none else none),Sd.en hc (.S fun _=>.E (by kernel_rfl))⟩
def Wv:EV:=fun c hc=>⟨⟨258,0,1⟩,pI fun x0=>pS fun x1=>pI fun x2=>pI fun x3=>pS fun x4=>pI fun x5=>pI fun x6=>pS fun x7=>pS fun x8=>pI fun x9=>pI fun x10=>pS fun x11=>pI fun x12=>pI fun x13=>pS fun x14=>pL fun x15=>pL fun x16=>pL fun x17=>pL fun x18=>pL fun x19=>pL fun x20=>pL fun x21=>pE (bif d (x0<x15.length) then bif inb x0 x15.length then (c ⟨270,0,0⟩ [t (g (p x15 (z x0)) 0).S]).bind fun r1=>bif !(g r1.2 7).B then some (1,[t (m #[]),i 0,i 0,t (m #[]),i 0,i 0,t (m #[]),s [],s [],s []]) else bif l (x21.length+(([[i (g r1.2 0).I,i (g r1.2 1).I,i (g r1.2 2).I,t (g r1.2 3).S,s (g r1.2 8).L,i (g r1.2 4).I,i (g r1.2 5).I,t (g r1.2 6).S,s (g r1.2 9).L]]:aa)).length) M63 then c ⟨258,0,1⟩ [i (w .i64 (x0+1)),t x1,i x2,i x3,t x4,i x5,i x6,t x7,t x8,i x9,i x10,t x11,i x12,i x13,t x14,s x15,s x16,s x17,s x18,s x19,s x20,s (x21++([[i (g r1.2 0).I,i (g r1.2 1).I,i (g r1.2 2).I,t (g r1.2 3).S,s (g r1.2 8).L,i (g r1.2 4).I,i (g r1.2 5).I,t (g r1.2 6).S,s (g r1.2 9).L]]:aa))] else none else none else some (0,[t x1,i x2,i x3,t x4,i x5,i x6,t x7,t x8,i x9,i x10,t x11,i x12,i x13,t x14,s x16,s x17,s x18,s x19,s x20,s x21])),Sd.en hc (.I fun _=>.S fun _=>.I fun _=>.I fun _=>.S fun _=>.I fun _=>.I fun _=>.S fun _=>.S fun _=>.I fun _=>.I fun _=>.S fun _=>.I fun _=>.I fun _=>.S fun _=>.L fun _=>.L fun _=>.L fun _=>.L fun _=>.L fun _=>.L fun _=>.L fun _=>.E (by kernel_rfl))⟩
def Ww:EV:=fun c hc=>⟨⟨259,0,0⟩,pS fun x0=>pI fun x1=>pI fun x2=>pS fun x3=>pL fun x4=>pI fun x5=>pI fun x6=>pS fun x7=>pL fun x8=>pL fun x9=>pE (bif d ((m #[114,117,108,101,32]).size+x0.size<=bd) then bif d (((m #[114,117,108,101,32])++x0).size+(m #[58,32]).size<=bd) then (c ⟨271,0,0⟩ [i x1,i x2,t x3,s x4]).bind fun r1=>bif d ((((m #[114,117,108,101,32])++x0)++(m #[58,32])).size+(g r1.2 0).S.size<=bd) then bif d (((((m #[114,117,108,101,32])++x0)++(m #[58,32]))++(g r1.2 0).S).size+(m #[32,61,62,32]).size<=bd) then (c ⟨271,0,0⟩ [i x5,i x6,t x7,s x8]).bind fun r2=>bif d ((((((m #[114,117,108,101,32])++x0)++(m #[58,32]))++(g r1.2 0).S)++(m #[32,61,62,32])).size+(g r2.2 0).S.size<=bd) then (c ⟨259,0,1⟩ [t ((((((m #[114,117,108,101,32])++x0)++(m #[58,32]))++(g r1.2 0).S)++(m #[32,61,62,32]))++(g r2.2 0).S),i 0,t x0,i x1,i x2,t x3,s x4,i x5,i x6,t x7,s x8,s x9]).bind fun r3=>bif q r3.1 0 then some (0,[t (g r3.2 0).S]) else none else none else none else none else none else none),Sd.en hc (.S fun _=>.I fun _=>.I fun _=>.S fun _=>.L fun _=>.I fun _=>.I fun _=>.S fun _=>.L fun _=>.L fun _=>.E (by kernel_rfl))⟩
def Wx:EV:=fun c hc=>⟨⟨259,0,1⟩,pS fun x0=>pI fun x1=>pS fun x2=>pI fun x3=>pI fun x4=>pS fun x5=>pL fun x6=>pI fun x7=>pI fun x8=>pS fun x9=>pL fun x10=>pL fun x11=>pE (bif d (x1<x11.length) then bif d (x1=0) then bif d (x0.size+(m #[32,105,102,32]).size<=bd) then bif inb x1 x11.length then (c ⟨272,0,0⟩ [i (g (p x11 (z x1)) 0).I,i (g (p x11 (z x1)) 1).I,i (g (p x11 (z x1)) 2).I,t (g (p x11 (z x1)) 3).S,s (g (p x11 (z x1)) 4).L,i (g (p x11 (z x1)) 5).I,i (g (p x11 (z x1)) 6).I,t (g (p x11 (z x1)) 7).S,s (g (p x11 (z x1)) 8).L]).bind fun r1=>bif d ((x0++(m #[32,105,102,32])).size+(g r1.2 0).S.size<=bd) then c ⟨259,0,1⟩ [t ((x0++(m #[32,105,102,32]))++(g r1.2 0).S),i (w .i64 (x1+1)),t x2,i x3,i x4,t x5,s x6,i x7,i x8,t x9,s x10,s x11] else none else none else none else bif d (x0.size+(m #[32,38,32]).size<=bd) then bif inb x1 x11.length then (c ⟨272,0,0⟩ [i (g (p x11 (z x1)) 0).I,i (g (p x11 (z x1)) 1).I,i (g (p x11 (z x1)) 2).I,t (g (p x11 (z x1)) 3).S,s (g (p x11 (z x1)) 4).L,i (g (p x11 (z x1)) 5).I,i (g (p x11 (z x1)) 6).I,t (g (p x11 (z x1)) 7).S,s (g (p x11 (z x1)) 8).L]).bind fun r2=>bif d ((x0++(m #[32,38,32])).size+(g r2.2 0).S.size<=bd) then c ⟨259,0,1⟩ [t ((x0++(m #[32,38,32]))++(g r2.2 0).S),i (w .i64 (x1+1)),t x2,i x3,i x4,t x5,s x6,i x7,i x8,t x9,s x10,s x11] else none else none else none else some (0,[t x0])),Sd.en hc (.S fun _=>.I fun _=>.S fun _=>.I fun _=>.I fun _=>.S fun _=>.L fun _=>.I fun _=>.I fun _=>.S fun _=>.L fun _=>.L fun _=>.E (by kernel_rfl))⟩
def Wy:EV:=fun c hc=>⟨⟨266,0,0⟩,pS fun x0=>pI fun x1=>pE (bif d ((0:Int)<(x0).size) then bif inb 0 (x0).size then bif d (((((x0).get! (z 0)).toNat):Int)=45) then bif d ((0:Int)<=1)&&(d ((1:Int)<=((x0).size:Nat))&&d ((((x0).size:Nat):Int)<=(x0).size)) then bif d (((((x0).extract (z 1) (z ((x0).size:Nat))).size):Int)<1) then some (0,[i 0,b false]) else bif d (x1<(((x0).extract (z 1) (z ((x0).size:Nat))).size)) then some (0,[i 0,b false]) else (c ⟨266,0,1⟩ [t x0,b (d (((((x0).get! (z 0)).toNat):Int)=45)),t ((x0).extract (z 1) (z ((x0).size:Nat))),i 0,i 0]).bind fun r1=>bif q r1.1 0 then bif (g r1.2 1).B then (c ⟨192,0,0⟩ [i (w .i64 (0-(g r1.2 2).I))]).bind fun r2=>bif !d ((g r2.2 0).S=(g r1.2 0).S) then some (0,[i 0,b false]) else some (0,[i (w .i64 (0-(g r1.2 2).I)),b true]) else (c ⟨192,0,0⟩ [i (g r1.2 2).I]).bind fun r3=>bif !d ((g r3.2 0).S=(g r1.2 0).S) then some (0,[i 0,b false]) else some (0,[i (g r1.2 2).I,b true]) else bif q r1.1 1 then some (0,[i (g r1.2 0).I,b false]) else none else none else bif d (((x0).size:Int)<1) then some (0,[i 0,b false]) else bif d (x1<(x0).size) then some (0,[i 0,b false]) else (c ⟨266,0,1⟩ [t x0,b (d (((((x0).get! (z 0)).toNat):Int)=45)),t x0,i 0,i 0]).bind fun r4=>bif q r4.1 0 then bif (g r4.2 1).B then (c ⟨192,0,0⟩ [i (w .i64 (0-(g r4.2 2).I))]).bind fun r5=>bif !d ((g r5.2 0).S=(g r4.2 0).S) then some (0,[i 0,b false]) else some (0,[i (w .i64 (0-(g r4.2 2).I)),b true]) else (c ⟨192,0,0⟩ [i (g r4.2 2).I]).bind fun r6=>bif !d ((g r6.2 0).S=(g r4.2 0).S) then some (0,[i 0,b false]) else some (0,[i (g r4.2 2).I,b true]) else bif q r4.1 1 then some (0,[i (g r4.2 0).I,b false]) else none else none else bif d (((x0).size:Int)<1) then some (0,[i 0,b false]) else bif d (x1<(x0).size) then some (0,[i 0,b false]) else (c ⟨266,0,1⟩ [t x0,b false,t x0,i 0,i 0]).bind fun r7=>bif q r7.1 0 then bif (g r7.2 1).B then (c ⟨192,0,0⟩ [i (w .i64 (0-(g r7.2 2).I))]).bind fun r8=>bif !d ((g r8.2 0).S=(g r7.2 0).S) then some (0,[i 0,b false]) else some (0,[i (w .i64 (0-(g r7.2 2).I)),b true]) else (c ⟨192,0,0⟩ [i (g r7.2 2).I]).bind fun r9=>bif !d ((g r9.2 0).S=(g r7.2 0).S) then some (0,[i 0,b false]) else some (0,[i (g r7.2 2).I,b true]) else bif q r7.1 1 then some (0,[i (g r7.2 0).I,b false]) else none),Sd.en hc (.S fun _=>.I fun _=>.E (by kernel_rfl))⟩
def Wz:EV:=fun c hc=>⟨⟨266,0,1⟩,pS fun x0=>pB fun x1=>pS fun x2=>pI fun x3=>pI fun x4=>pE (bif d (x4<(x2).size) then bif inb x4 (x2).size then bif d (((((x2).get! (z x4)).toNat):Int)<48) then some (1,[i 0]) else bif inb x4 (x2).size then bif d ((57:Int)<(((x2).get! (z x4)).toNat)) then some (1,[i 0]) else bif inb x4 (x2).size then c ⟨266,0,1⟩ [t x0,b x1,t x2,i (w .i64 ((w .i64 (10*x3))+(w .i64 (IntKind.u8.wrap ((((x2).get! (z x4)).toNat)-48))))),i (w .i64 (x4+1))] else none else none else none else some (0,[t x0,b x1,i x3])),Sd.en hc (.S fun _=>.B fun _=>.S fun _=>.I fun _=>.I fun _=>.E (by kernel_rfl))⟩
def Xa:EV:=fun c hc=>⟨⟨268,0,0⟩,pS fun x0=>pE (bif d ((600:Int)<(x0).size) then some (0,[i 0,i 0,t (m #[]),b false,s []]) else (c ⟨285,0,0⟩ [i 1,t x0,i 0,b false]).bind fun r1=>bif (g r1.2 5).B then some (0,[i 0,i 0,t (m #[]),b false,s []]) else bif d (x0=(m #[])) then some (0,[i 0,i 0,t (m #[]),b false,s []]) else (c ⟨271,0,0⟩ [i (g r1.2 0).I,i (g r1.2 1).I,t (g r1.2 2).S,s (g r1.2 6).L]).bind fun r2=>bif !d ((g r2.2 0).S=x0) then some (0,[i 0,i 0,t (m #[]),b false,s []]) else some (0,[i (g r1.2 0).I,i (g r1.2 1).I,t (g r1.2 2).S,b true,s (g r1.2 6).L])),Sd.en hc (.S fun _=>.E (by kernel_rfl))⟩
def Xb:EV:=fun c hc=>⟨⟨269,0,0⟩,pS fun x0=>pS fun x1=>pE ((c ⟨269,0,1⟩ [t x0,t x1,s ([]:aa)]).bind fun r1=>bif q r1.1 0 then some (0,[s (g r1.2 0).L]) else none),Sd.en hc (.S fun _=>.S fun _=>.E (by kernel_rfl))⟩
def Xc:EV:=fun c hc=>⟨⟨269,0,1⟩,pS fun x0=>pS fun x1=>pL fun x2=>pE ((c ⟨267,0,0⟩ [t x0,t x1]).bind fun r1=>bif l (x2.length+(([[t (g r1.2 0).S]]:aa)).length) M63 then bif !(g r1.2 2).B then some (0,[s (x2++([[t (g r1.2 0).S]]:aa))]) else c ⟨269,0,1⟩ [t (g r1.2 1).S,t x1,s (x2++([[t (g r1.2 0).S]]:aa))] else none),Sd.en hc (.S fun _=>.S fun _=>.L fun _=>.E (by kernel_rfl))⟩
def Xd:EV:=fun c hc=>⟨⟨270,0,0⟩,pS fun x0=>pE ((c ⟨270,0,1⟩ [t x0,i 1,i 0,i 0,i 0,t (m #[]),i 0,i 0,t (m #[]),s [],s []]).bind fun r1=>bif q r1.1 0 then some (0,[i 0,i 0,i 0,t (m #[]),i 0,i 0,t (m #[]),b false,s [],s []]) else bif q r1.1 1 then some (0,[i (g r1.2 0).I,i (g r1.2 1).I,i (g r1.2 2).I,t (g r1.2 3).S,i (g r1.2 4).I,i (g r1.2 5).I,t (g r1.2 6).S,b true,s (g r1.2 7).L,s (g r1.2 8).L]) else none),Sd.en hc (.S fun _=>.E (by kernel_rfl))⟩
def Xe:EV:=fun c hc=>⟨⟨270,0,1⟩,pS fun x0=>pI fun x1=>pI fun x2=>pI fun x3=>pI fun x4=>pS fun x5=>pI fun x6=>pI fun x7=>pS fun x8=>pL fun x9=>pL fun x10=>pE (bif d (x1<=3) then (c ⟨104,0,0⟩ [i x1]).bind fun r1=>(c ⟨267,0,0⟩ [t x0,t (g r1.2 0).S]).bind fun r2=>bif !(g r2.2 2).B then c ⟨270,0,1⟩ [t x0,i (w .i64 (x1+1)),i x2,i x3,i x4,t x5,i x6,i x7,t x8,s x9,s x10] else (c ⟨268,0,0⟩ [t (g r2.2 0).S]).bind fun r3=>(c ⟨268,0,0⟩ [t (g r2.2 1).S]).bind fun r4=>bif (g r3.2 3).B then bif (g r4.2 3).B then some (1,[i x1,i (g r3.2 0).I,i (g r3.2 1).I,t (g r3.2 2).S,i (g r4.2 0).I,i (g r4.2 1).I,t (g r4.2 2).S,s (g r3.2 4).L,s (g r4.2 4).L]) else c ⟨270,0,1⟩ [t x0,i (w .i64 (x1+1)),i x2,i x3,i x4,t x5,i x6,i x7,t x8,s x9,s x10] else c ⟨270,0,1⟩ [t x0,i (w .i64 (x1+1)),i x2,i x3,i x4,t x5,i x6,i x7,t x8,s x9,s x10] else some (0,[i x2,i x3,i x4,t x5,i x6,i x7,t x8,s x9,s x10])),Sd.en hc (.S fun _=>.I fun _=>.I fun _=>.I fun _=>.I fun _=>.S fun _=>.I fun _=>.I fun _=>.S fun _=>.L fun _=>.L fun _=>.E (by kernel_rfl))⟩
def Xf:EV:=fun c hc=>⟨⟨271,0,0⟩,pI fun x0=>pI fun x1=>pS fun x2=>pL fun x3=>pE ((c ⟨100,0,0⟩ [i x0,i x1,t x2,s x3]).bind fun r1=>bif !(g r1.2 0).B then some (0,[t (m #[])]) else (c ⟨286,0,0⟩ [i x0,i x1,t x2,s x3]).bind fun r2=>some (0,[t (g r2.2 0).S])),Sd.en hc (.I fun _=>.I fun _=>.S fun _=>.L fun _=>.E (by kernel_rfl))⟩
def Xg:EV:=fun c hc=>⟨⟨272,0,0⟩,pI fun x0=>pI fun x1=>pI fun x2=>pS fun x3=>pL fun x4=>pI fun x5=>pI fun x6=>pS fun x7=>pL fun x8=>pE ((c ⟨271,0,0⟩ [i x1,i x2,t x3,s x4]).bind fun r1=>(c ⟨271,0,0⟩ [i x5,i x6,t x7,s x8]).bind fun r2=>(c ⟨104,0,0⟩ [i x0]).bind fun r3=>bif d ((g r1.2 0).S=(m #[])) then some (0,[t (m #[])]) else bif d ((g r2.2 0).S=(m #[])) then some (0,[t (m #[])]) else bif d ((g r3.2 0).S=(m #[])) then some (0,[t (m #[])]) else bif d ((g r1.2 0).S.size+(g r3.2 0).S.size<=bd) then bif d (((g r1.2 0).S++(g r3.2 0).S).size+(g r2.2 0).S.size<=bd) then some (0,[t (((g r1.2 0).S++(g r3.2 0).S)++(g r2.2 0).S)]) else none else none),Sd.en hc (.I fun _=>.I fun _=>.I fun _=>.S fun _=>.L fun _=>.I fun _=>.I fun _=>.S fun _=>.L fun _=>.E (by kernel_rfl))⟩
def oT:En H Tryz.prog:=⟨⟨100,0,0⟩,orc (lpT.map fun t=>[.int t.k,.int t.n,.str t.s,.sl (t.as.map Tm.row)]),fun l r h=>Uu (fun x hx=>by
 obtain⟨t,ht,rfl⟩:=F8.1 hx;have hw:=ae2 t ht;have hv:=E3.1 (show lpT.all Tm.valid=true from by kernel_rfl) t ht
 have h1:=r100 t (by have:=hw.n;omega) hw.w
 rw[hv] at h1;exact h1) h⟩
def oD:En H Tryz.prog:=⟨⟨98,0,0⟩,orc [[.sl (jg.so.map ag),.sl (jg.op.map OpM.row),.sl (jg.ru.map RuM.row),.sl (jg.st.map StM.row)]],fun l r h=>Uu (fun x hx=>by
 rw[F1.1 hx];have h1:=r98 jg qn.b;rw[show jg.valid=true from by kernel_rfl] at h1
 exact h1) h⟩
def tb(c:CF)(hc:OkC H Tryz.prog c):List (En H Tryz.prog):=oT::oD::[Vg,Vh,Vi,Vj,Vk,Vl,Vm,Vn,Vo,Vp,Vq,Vr,Vs,Vt,Zn,Vu,Vv,Vw,Vx,Vy,Vz,Wa,Wb,Wc,Wd,We,Wf,Wg,Wh,Wi,Wj,Wk,Wl,Wm,Wo,Wp,Wq,Wr,Ws,Wu,Wv,Ww,Wx,Wy,Wz,Xa,Xb,Xc,Xd,Xe,Xf,Xg].map fun f=>f c hc
theorem rp:rn ⟨138,0,0⟩ []=some (0,[.sl (jg.so.map ag),.sl (jg.op.map OpM.row),.sl (jg.ru.map RuM.row),.sl (jg.st.map StM.row)]):=(evE tb 2000).2 _ _ _ (by kernel_rfl)
end
end Go.Q.S
end
section
namespace Go.Q.S
open Go Go.Q Go.Proofs
theorem Hl{code:aa}(hl:code.length<=1048576):∀ (d:Nat) (g:Bool) (i:Nat) (h:Int),d<=64->aj (rn ⟨195,0,0⟩ [.str (⟨#[119,111,114,100]⟩:ByteArray),.int (d:Int),.bool g,.sl code,.int (i:Int),.int h]) (DTk code 8 (4 ^ d)):=by
 intro d;induction d with
 |zero =>
  intro g i h hd;rw[e195_0_0];rw[H7 (rfl:(⟨#[119,111,114,100]⟩:ByteArray)=(⟨#[119,111,114,100]⟩:ByteArray)),H8 (by decide:¬(1:Int)<((0:Nat):Int))]
  simp only[H1,H2];repeat' (first
   |refine aj.ite (fun _=>?_) (fun _=>?_)
   |(refine aj.bind (et hl _ _ (by decide) (by decide)) ?_;rintro _ ⟨b,i,h,rfl⟩;simp only[nv0,nvS,dvI,dvB,dvS,dvL,B5])
   |(refine aj.bind (av hl _ _ (by decide) (by decide)) ?_;rintro _ ⟨b,i,h,_,_,rfl⟩;simp only[nv0,nvS,dvI,dvB,dvS,dvL,B5])
   |(refine aj.bind (ro hl _ _ (by decide) (by decide) 8 (by decide)) ?_;rintro _ ⟨b,i,h,_,rfl⟩;simp only[nv0,nvS,dvI,dvB,dvS,dvL,B5])
   |(simp only[r130,r113,r189,r189b,nv0,nvS,dvI,dvB,dvS,dvL,B5]))
  all_goals (first |exact lfV (by assumption) (by decide) |exact lfW (by assumption) (by omega) (by decide))
 |succ d ih =>
  intro g i h hd;have hp:4 ^ (d+1)=4*4 ^ d:=by omega
  have h1:1<=4 ^ d:=Nat.one_le_pow _ _ (by decide)
  rw[e195_0_0];rw[H7 (rfl:(⟨#[119,111,114,100]⟩:ByteArray)=(⟨#[119,111,114,100]⟩:ByteArray))];simp only[H1,Jf (show d<=64 by omega)]
  repeat' (first
   |(refine aj.bind (ih _ _ _ (by omega)) ?_;rintro _ ⟨t,i,h,_,_,rfl⟩;simp only[nv0,nvS,dvI,dvB,dvS,dvL,B5])
   |refine aj.ite (fun _=>?_) (fun _=>?_)
   |(refine aj.bind (et hl _ _ (by decide) (by decide)) ?_;rintro _ ⟨b,i,h,rfl⟩;simp only[nv0,nvS,dvI,dvB,dvS,dvL,B5])
   |(refine aj.bind (av hl _ _ (by decide) (by decide)) ?_;rintro _ ⟨b,i,h,_,_,rfl⟩;simp only[nv0,nvS,dvI,dvB,dvS,dvL,B5])
   |(refine aj.bind (ro hl _ _ (by decide) (by decide) 8 (by decide)) ?_;rintro _ ⟨b,i,h,_,rfl⟩;simp only[nv0,nvS,dvI,dvB,dvS,dvL,B5])
   |(simp only[r130,r113,r189,r189b,r132,r133,nv0,nvS,dvI,dvB,dvS,dvL,B5]))
  all_goals (first |exact lfV (by assumption) (by omega) |exact lfW (by assumption) (by omega) (by omega) |exact lf2 (by assumption) (by assumption) (by assumption) (by omega))
theorem Zo{code:aa}(hl:code.length<=1048576){s:ByteArray}(hs:s≠(⟨#[119,111,114,100]⟩:ByteArray)):∀ (d:Nat) (g:Bool) (i:Nat) (h:Int),d<=64->aj (rn ⟨195,0,0⟩ [.str s,.int (d:Int),.bool g,.sl code,.int (i:Int),.int h]) (DTk code 8 (8*4 ^ d)):=by
 have hE:(⟨#[101]⟩:ByteArray)≠(⟨#[119,111,114,100]⟩:ByteArray):=by decide
 have hW1:∀ g i h,aj (rn ⟨195,0,0⟩ [.str (⟨#[119,111,114,100]⟩:ByteArray),.int 1,.bool g,.sl code,.int ((i:Nat):Int),.int h]) (DTk code 8 4):=fun g i h=>Hl hl 1 g i h (by decide)
 intro d;induction d generalizing s with
 |zero =>
  intro g i h hd;rw[e195_0_0];rw[H8 hs,H7 (by decide:((0:Nat):Int)<2)]
  simp only[H1,H2];repeat' (first
   |(refine aj.bind (hW1 _ _ _) ?_;rintro _ ⟨t,i,h,_,_,rfl⟩;simp only[nv0,nvS,dvI,dvB,dvS,dvL,B5])
   |refine aj.ite (fun _=>?_) (fun _=>?_)
   |(refine aj.bind (et hl _ _ (by decide) (by decide)) ?_;rintro _ ⟨b,i,h,rfl⟩;simp only[nv0,nvS,dvI,dvB,dvS,dvL,B5])
   |(refine aj.bind (av hl _ _ (by decide) (by decide)) ?_;rintro _ ⟨b,i,h,_,_,rfl⟩;simp only[nv0,nvS,dvI,dvB,dvS,dvL,B5])
   |(refine aj.bind (ro hl _ _ (by decide) (by decide) 8 (by decide)) ?_;rintro _ ⟨b,i,h,_,rfl⟩;simp only[nv0,nvS,dvI,dvB,dvS,dvL,B5])
   |(simp only[r130,r113,r189,r189b,r132,r133,nv0,nvS,dvI,dvB,dvS,dvL,B5]))
  all_goals (first |exact lfV (by assumption) (by decide) |exact lfC (by assumption) (by decide) |exact lf1 (by first |assumption |decide) (by assumption) (by omega))
 |succ d ih =>
  intro g i h hd;have hp:4 ^ (d+1)=4*4 ^ d:=by omega
  have h1:1<=4 ^ d:=Nat.one_le_pow _ _ (by decide)
  rw[e195_0_0];rw[H8 hs];simp only[H2,Jf (show d<=64 by omega)]
  repeat' (first
   |(refine aj.bind (hW1 _ _ _) ?_;rintro _ ⟨t,i,h,_,_,rfl⟩;simp only[nv0,nvS,dvI,dvB,dvS,dvL,B5])
   |(refine aj.bind (ih hE _ _ _ (by omega)) ?_;rintro _ ⟨t,i,h,_,_,rfl⟩;simp only[nv0,nvS,dvI,dvB,dvS,dvL,B5])
   |(refine aj.bind (Hl hl d _ _ _ (by omega)) ?_;rintro _ ⟨t,i,h,_,_,rfl⟩;simp only[nv0,nvS,dvI,dvB,dvS,dvL,B5])
   |refine aj.ite (fun _=>?_) (fun _=>?_)
   |(refine aj.bind (et hl _ _ (by decide) (by decide)) ?_;rintro _ ⟨b,i,h,rfl⟩;simp only[nv0,nvS,dvI,dvB,dvS,dvL,B5])
   |(refine aj.bind (av hl _ _ (by decide) (by decide)) ?_;rintro _ ⟨b,i,h,_,_,rfl⟩;simp only[nv0,nvS,dvI,dvB,dvS,dvL,B5])
   |(refine aj.bind (ro hl _ _ (by decide) (by decide) 8 (by decide)) ?_;rintro _ ⟨b,i,h,_,rfl⟩;simp only[nv0,nvS,dvI,dvB,dvS,dvL,B5])
   |(simp only[r130,r113,r189,r189b,r132,r133,nv0,nvS,dvI,dvB,dvS,dvL,B5]))
  all_goals (first |exact lfV (by assumption) (by omega) |exact lfC (by assumption) (by omega) |exact lf1 (by first |assumption |decide) (by assumption) (by omega) |exact lf2 (by first |assumption |decide) (by assumption) (by assumption) (by omega))
theorem DTk.mono{code:aa}{k m m':Nat}{x:Nat×List D}(h:DTk code k m x)(hm:m<=m'):DTk code k m' x:=by
 obtain⟨t,i,h',h1,h2,e⟩:=h;exact⟨t,i,h',h1,J0 h2 hm,e⟩
theorem Xh{code:aa}(hl:code.length<=1048576)(d:Nat)(k:Int)(e:(d:Int)=k)(m:Nat)(hm:4 ^ d<=m)(hd:d<=64)(g:Bool)(i:Nat)(h:Int):aj (rn ⟨195,0,0⟩ [.str (⟨#[119,111,114,100]⟩:ByteArray),.int k,.bool g,.sl code,.int (i:Int),.int h]) (DTk code 8 m):=by
 subst e;exact aj.mono (Hl hl d g i h hd) fun x hx=>hx.mono hm
theorem Kw{code:aa}(hl:code.length<=1048576)(d:Nat)(k:Int)(e:(d:Int)=k)(m:Nat)(hm:8*4 ^ d<=m)(hd:d<=64)(g:Bool)(i:Nat)(h:Int):aj (rn ⟨195,0,0⟩ [.str (⟨#[101]⟩:ByteArray),.int k,.bool g,.sl code,.int (i:Int),.int h]) (DTk code 8 m):=by
 subst e;exact aj.mono (Zo hl (by decide) d g i h hd) fun x hx=>hx.mono hm
def DGu(code:aa)(x:Nat×List D):Prop:=∃ g:Gu,∃ i':Nat,∃ h':Int,GuW g/\x=(0,[.int g.k,.int g.l.k,.int g.l.n,.str g.l.s,.int g.r.k,.int g.r.n,.str g.r.s,.sl code,.int (i':Int),.int h',.sl (g.l.as.map Tm.row),.sl (g.r.as.map Tm.row)])
theorem je{code:aa}(hl:code.length<=1048576)(i:Nat)(h:Int):aj (rn ⟨232,0,0⟩ [.sl code,.int (i:Int),.int h]) (DGu code):=by
 rw[e232_0_0];refine aj.bind (et hl _ _ (by decide) (by decide)) ?_
 rintro _ ⟨g,i,h,rfl⟩
 simp only[nv0,nvS,dvI,dvB,dvS,dvL,B5];refine aj.bind (av hl _ _ (by decide) (by decide)) ?_
 rintro _ ⟨b,i,h,b0,b1,rfl⟩
 simp only[nv0,nvS,dvI,dvB,dvS,dvL,B5];have ew:IntKind.i64.wrap (1+b)=1+b:=IntWalk.i64_in _ (by omega)
 rw[ew];refine aj.bind (Xh hl 3 _ rfl 64 (by decide) (by decide) _ _ _) ?_
 rintro _ ⟨t,i,h,ht,htn,rfl⟩
 simp only[nv0,nvS,dvI,dvB,dvS,dvL,B5];refine aj.bind (Xh hl 2 _ rfl 64 (by decide) (by decide) _ _ _) ?_
 rintro _ ⟨u,i,h,hu,hun,rfl⟩
 simp only[nv0,nvS,dvI,dvB,dvS,dvL,B5];refine aj.bind (et hl _ _ (by decide) (by decide)) ?_
 rintro _ ⟨q,i,h,rfl⟩
 simp only[nv0,nvS,dvI,dvB,dvS,dvL,B5];refine aj.ite (fun _=>?_) (fun _=>?_)
 ·refine aj.bind (Kw hl 2 _ rfl 128 (by decide) (by decide) _ _ _) ?_
  rintro _ ⟨t',i,h,ht',htn',rfl⟩
  simp only[nv0,nvS,dvI,dvB,dvS,dvL,B5];refine aj.bind (Kw hl 2 _ rfl 128 (by decide) (by decide) _ _ _) ?_
  rintro _ ⟨u',i,h,hu',hun',rfl⟩
  exact aj.ret ⟨⟨1+b,t',u'⟩,i,h,⟨⟨by show 0<=1+b;omega,by show 1+b<=5;omega⟩,ht'.wn (by decide) (by show t'.nodes<=_;omega),hu'.wn (by decide) (by show u'.nodes<=_;omega)⟩,rfl⟩
 ·exact aj.ret ⟨⟨1+b,t,u⟩,i,h,⟨⟨by show 0<=1+b;omega,by show 1+b<=5;omega⟩,ht.wn (by decide) (by show t.nodes<=_;omega),hu.wn (by decide) (by show u.nodes<=_;omega)⟩,rfl⟩
theorem vV(s:ByteArray):rn ⟨130,0,0⟩ [.str s]=some (0,[.int (tV s).k,.int (tV s).n,.str (tV s).s,.sl ((tV s).as.map Tm.row)]):=r130 s
theorem vC(s:ByteArray):rn ⟨189,1,0⟩ [.str s,.sl []]=some (0,[.int (tC s).k,.int (tC s).n,.str (tC s).s,.sl ((tC s).as.map Tm.row)]):=r189b s []
theorem vW(n:Int):rn ⟨113,0,0⟩ [.int n]=some (0,[.int (tW n).k,.int (tW n).n,.str (tW n).s,.sl ((tW n).as.map Tm.row)]):=r113 n
theorem vO(s:ByteArray)(t:Tm):rn ⟨132,0,0⟩ [.str s,.int t.k,.int t.n,.str t.s,.sl (t.as.map Tm.row)]=some (0,[.int (tO s t).k,.int (tO s t).n,.str (tO s t).s,.sl ((tO s t).as.map Tm.row)]):=r132 s t
theorem vP(s:ByteArray)(t u:Tm):rn ⟨133,0,0⟩ [.str s,.int t.k,.int t.n,.str t.s,.sl (t.as.map Tm.row),.int u.k,.int u.n,.str u.s,.sl (u.as.map Tm.row)]=some (0,[.int (tP s t u).k,.int (tP s t u).n,.str (tP s t u).s,.sl ((tP s t u).as.map Tm.row)]):=r133 s t u
def DRu(code:aa)(s:ByteArray)(x:Nat×List D):Prop:=∃ r:RuM,∃ i':Nat,∃ h':Int,r.n=s/\RuW r/\x=(0,[.str r.n,.int r.l.k,.int r.l.n,.str r.l.s,.int (r.r).k,.int (r.r).n,.str (r.r).s,.sl ((r.r).as.map Tm.row),.sl code,.int (i':Int),.int h',.sl (r.l.as.map Tm.row),.sl (r.g.map Gu.row)])
theorem Zp{code:aa}(hl:code.length<=1048576)(s:ByteArray)(hs:s.size<=1000)(i:Nat)(h:Int):aj (rn ⟨191,0,0⟩ [.str s,.sl code,.int (i:Int),.int h]) (DRu code s):=by
 have W:∀ {m:Nat} {t:Tm},Wn m t->m<=3000->Wn 3000 t:=fun h hm=>h.mono hm
 have x1:Wn 1 (tV (⟨#[88]⟩:ByteArray)):=Cv (by decide)
 have n1:Wn 1 (tV (⟨#[78]⟩:ByteArray)):=Cv (by decide)
 have y1:Wn 1 (tV (⟨#[89]⟩:ByteArray)):=Cv (by decide)
 have m1:Wn 1 (tV (⟨#[77]⟩:ByteArray)):=Cv (by decide)
 have a1:Wn 1 (tC (⟨#[97]⟩:ByteArray)):=Ui (by decide)
 have b1:Wn 1 (tC (⟨#[98]⟩:ByteArray)):=Ui (by decide)
 rw[e191_0_0];simp only[vV,nv0,nvS,dvI,dvB,dvS,dvL,B5];refine aj.bind (av hl _ _ (by decide) (by decide)) ?_
 rintro _ ⟨b,i,h,b0,b1',rfl⟩
 simp only[vV,vO,vP,vW,vC,nv0,nvS,dvI,dvB,dvS,dvL,B5];refine aj.ite (fun _=>?_) (fun _=>?_)
 ·skip
  refine aj.bind (et hl _ _ (by decide) (by decide)) ?_
  rintro _ ⟨q,i,h,rfl⟩
  simp only[nv0,nvS,dvI,dvB,dvS,dvL,B5];refine aj.ite (fun _=>?_) (fun _=>?_)
  ·refine aj.bind (je hl _ _) ?_
   rintro _ ⟨g,i,h,hg,rfl⟩
   have hb63:F5 1 M63=true:=by decide
   simp only[nv0,nvS,dvI,dvB,dvS,dvL,B5,C2,C5,D1,hb63,H1];exact aj.ret ⟨⟨s,tO (⟨#[103]⟩:ByteArray) (tV (⟨#[88]⟩:ByteArray)),tV (⟨#[88]⟩:ByteArray),[g]⟩,i,h,rfl,⟨hs,W (pk (by decide) x1) (by decide),W x1 (by decide),by simp,by simp[hg]⟩,rfl⟩
  ·exact aj.ret ⟨⟨s,tO (⟨#[103]⟩:ByteArray) (tV (⟨#[88]⟩:ByteArray)),tV (⟨#[88]⟩:ByteArray),[]⟩,i,h,rfl,⟨hs,W (pk (by decide) x1) (by decide),W x1 (by decide),by simp,by simp⟩,rfl⟩
 refine aj.ite (fun _=>?_) (fun _=>?_)
 ·skip
  have hp:=qo hl i h [tV (⟨#[88]⟩:ByteArray),tV (⟨#[89]⟩:ByteArray),tC (⟨#[97]⟩:ByteArray)] (by decide) (by decide)
  simp only[C4,D4,Tm.row_eq] at hp;refine aj.bind hp ?_
  rintro _ ⟨t,i,h,ht,rfl⟩
  have hw:Wn 3000 t:=by
   simp only[E1,N2,or_false] at ht;rcases ht with rfl |rfl |rfl
   ·exact W x1 (by decide)
   ·exact W y1 (by decide)
   ·exact W a1 (by decide)
  simp only[nv0,nvS,dvI,dvB,dvS,dvL,B5];refine aj.bind (et hl _ _ (by decide) (by decide)) ?_
  rintro _ ⟨q,i,h,rfl⟩
  simp only[nv0,nvS,dvI,dvB,dvS,dvL,B5];refine aj.ite (fun _=>?_) (fun _=>?_)
  ·refine aj.bind (je hl _ _) ?_
   rintro _ ⟨g,i,h,hg,rfl⟩
   have hb63:F5 1 M63=true:=by decide
   simp only[nv0,nvS,dvI,dvB,dvS,dvL,B5,C2,C5,D1,hb63,H1];exact aj.ret ⟨⟨s,tP (⟨#[102]⟩:ByteArray) (tV (⟨#[88]⟩:ByteArray)) (tV (⟨#[89]⟩:ByteArray)),t,[g]⟩,i,h,rfl,⟨hs,W (gt (by decide) x1 y1) (by decide),hw,by simp,by simp[hg]⟩,rfl⟩
  ·exact aj.ret ⟨⟨s,tP (⟨#[102]⟩:ByteArray) (tV (⟨#[88]⟩:ByteArray)) (tV (⟨#[89]⟩:ByteArray)),t,[]⟩,i,h,rfl,⟨hs,W (gt (by decide) x1 y1) (by decide),hw,by simp,by simp⟩,rfl⟩
 refine aj.ite (fun _=>?_) (fun _=>?_)
 ·skip
  have hg0:GuW ⟨3,tW 0,tV (⟨#[78]⟩:ByteArray)⟩:=⟨by show(0:Int)<=3/\(3:Int)<=5;decide,W (wk (by decide) (by decide)) (by decide),W n1 (by decide)⟩
  refine aj.bind (et hl _ _ (by decide) (by decide)) ?_
  rintro _ ⟨q,i,h,rfl⟩
  simp only[nv0,nvS,dvI,dvB,dvS,dvL,B5];refine aj.ite (fun _=>?_) (fun _=>?_)
  ·refine aj.bind (je hl _ _) ?_
   rintro _ ⟨g,i,h,hg,rfl⟩
   have hb63:F5 (1+1) M63=true:=by decide
   simp only[nv0,nvS,dvI,dvB,dvS,dvL,B5,C2,C5,D1,hb63,H1];exact aj.ret ⟨⟨s,tP (⟨#[104]⟩:ByteArray) (tV (⟨#[88]⟩:ByteArray)) (tV (⟨#[78]⟩:ByteArray)),tP (⟨#[104]⟩:ByteArray) (tV (⟨#[88]⟩:ByteArray)) (tP (⟨#[109,105,110,117,115]⟩:ByteArray) (tV (⟨#[78]⟩:ByteArray)) (tW 1)),[⟨3,tW 0,tV (⟨#[78]⟩:ByteArray)⟩,g]⟩,i,h,rfl,⟨hs,W (gt (by decide) x1 n1) (by decide),W (gt (by decide) x1 (gt (by decide) n1 (wk (by decide) (by decide)))) (by decide),by simp,by simp[hg,hg0]⟩,rfl⟩
  ·exact aj.ret ⟨⟨s,tP (⟨#[104]⟩:ByteArray) (tV (⟨#[88]⟩:ByteArray)) (tV (⟨#[78]⟩:ByteArray)),tP (⟨#[104]⟩:ByteArray) (tV (⟨#[88]⟩:ByteArray)) (tP (⟨#[109,105,110,117,115]⟩:ByteArray) (tV (⟨#[78]⟩:ByteArray)) (tW 1)),[⟨3,tW 0,tV (⟨#[78]⟩:ByteArray)⟩]⟩,i,h,rfl,⟨hs,W (gt (by decide) x1 n1) (by decide),W (gt (by decide) x1 (gt (by decide) n1 (wk (by decide) (by decide)))) (by decide),by simp,by simp[hg0]⟩,rfl⟩
 refine aj.ite (fun _=>?_) (fun _=>?_)
 ·skip
  refine aj.bind (et hl _ _ (by decide) (by decide)) ?_
  rintro _ ⟨q,i,h,rfl⟩
  simp only[nv0,nvS,dvI,dvB,dvS,dvL,B5];refine aj.ite (fun _=>?_) (fun _=>?_)
  ·refine aj.bind (je hl _ _) ?_
   rintro _ ⟨g,i,h,hg,rfl⟩
   have hb63:F5 1 M63=true:=by decide
   simp only[nv0,nvS,dvI,dvB,dvS,dvL,B5,C2,C5,D1,hb63,H1];exact aj.ret ⟨⟨s,tP (⟨#[104]⟩:ByteArray) (tV (⟨#[88]⟩:ByteArray)) (tW 0),tV (⟨#[88]⟩:ByteArray),[g]⟩,i,h,rfl,⟨hs,W (gt (by decide) x1 (wk (by decide) (by decide))) (by decide),W x1 (by decide),by simp,by simp[hg]⟩,rfl⟩
  ·exact aj.ret ⟨⟨s,tP (⟨#[104]⟩:ByteArray) (tV (⟨#[88]⟩:ByteArray)) (tW 0),tV (⟨#[88]⟩:ByteArray),[]⟩,i,h,rfl,⟨hs,W (gt (by decide) x1 (wk (by decide) (by decide))) (by decide),W x1 (by decide),by simp,by simp⟩,rfl⟩
 refine aj.ite (fun _=>?_) (fun _=>?_)
 ·skip
  refine aj.bind (ro hl _ _ (by decide) (by decide) 8 (by decide)) ?_
  rintro _ ⟨z,i,h,hz,rfl⟩
  simp only[vV,vO,vP,vW,vC,nv0,nvS,dvI,dvB,dvS,dvL,B5];refine aj.bind (et hl _ _ (by decide) (by decide)) ?_
  rintro _ ⟨q,i,h,rfl⟩
  simp only[nv0,nvS,dvI,dvB,dvS,dvL,B5];refine aj.ite (fun _=>?_) (fun _=>?_)
  ·refine aj.bind (je hl _ _) ?_
   rintro _ ⟨g,i,h,hg,rfl⟩
   have hb63:F5 1 M63=true:=by decide
   simp only[nv0,nvS,dvI,dvB,dvS,dvL,B5,C2,C5,D1,hb63,H1];exact aj.ret ⟨⟨s,tP (⟨#[102]⟩:ByteArray) (tO (⟨#[110,117,109]⟩:ByteArray) (tV (⟨#[78]⟩:ByteArray))) (tO (⟨#[110,117,109]⟩:ByteArray) (tV (⟨#[77]⟩:ByteArray))),tO (⟨#[110,117,109]⟩:ByteArray) (tP z (tV (⟨#[78]⟩:ByteArray)) (tV (⟨#[77]⟩:ByteArray))),[g]⟩,i,h,rfl,⟨hs,W (gt (by decide) (pk (by decide) n1) (pk (by decide) m1)) (by decide),W (pk (by decide) (gt (by omega) n1 m1)) (by decide),by simp,by simp[hg]⟩,rfl⟩
  ·exact aj.ret ⟨⟨s,tP (⟨#[102]⟩:ByteArray) (tO (⟨#[110,117,109]⟩:ByteArray) (tV (⟨#[78]⟩:ByteArray))) (tO (⟨#[110,117,109]⟩:ByteArray) (tV (⟨#[77]⟩:ByteArray))),tO (⟨#[110,117,109]⟩:ByteArray) (tP z (tV (⟨#[78]⟩:ByteArray)) (tV (⟨#[77]⟩:ByteArray))),[]⟩,i,h,rfl,⟨hs,W (gt (by decide) (pk (by decide) n1) (pk (by decide) m1)) (by decide),W (pk (by decide) (gt (by omega) n1 m1)) (by decide),by simp,by simp⟩,rfl⟩
 refine aj.ite (fun _=>?_) (fun _=>?_)
 ·skip
  refine aj.bind (et hl _ _ (by decide) (by decide)) ?_
  rintro _ ⟨q,i,h,rfl⟩
  simp only[nv0,nvS,dvI,dvB,dvS,dvL,B5];refine aj.ite (fun _=>?_) (fun _=>?_)
  ·refine aj.bind (je hl _ _) ?_
   rintro _ ⟨g,i,h,hg,rfl⟩
   have hb63:F5 1 M63=true:=by decide
   simp only[nv0,nvS,dvI,dvB,dvS,dvL,B5,C2,C5,D1,hb63,H1];exact aj.ret ⟨⟨s,tO (⟨#[103]⟩:ByteArray) (tO (⟨#[110,117,109]⟩:ByteArray) (tV (⟨#[78]⟩:ByteArray))),tP (⟨#[104]⟩:ByteArray) (tC (⟨#[98]⟩:ByteArray)) (tV (⟨#[78]⟩:ByteArray)),[g]⟩,i,h,rfl,⟨hs,W (pk (by decide) (pk (by decide) n1)) (by decide),W (gt (by decide) b1 n1) (by decide),by simp,by simp[hg]⟩,rfl⟩
  ·exact aj.ret ⟨⟨s,tO (⟨#[103]⟩:ByteArray) (tO (⟨#[110,117,109]⟩:ByteArray) (tV (⟨#[78]⟩:ByteArray))),tP (⟨#[104]⟩:ByteArray) (tC (⟨#[98]⟩:ByteArray)) (tV (⟨#[78]⟩:ByteArray)),[]⟩,i,h,rfl,⟨hs,W (pk (by decide) (pk (by decide) n1)) (by decide),W (gt (by decide) b1 n1) (by decide),by simp,by simp⟩,rfl⟩
 refine aj.ite (fun _=>?_) (fun _=>?_)
 ·skip
  have hp:=qo hl i h [tC (⟨#[98]⟩:ByteArray),tO (⟨#[110,117,109]⟩:ByteArray) (tW 2)] (by decide) (by decide)
  simp only[C4,D4,Tm.row_eq] at hp;refine aj.bind hp ?_
  rintro _ ⟨t,i,h,ht,rfl⟩
  have hw:Wn 3000 t:=by
   simp only[E1,N2,or_false] at ht;rcases ht with rfl |rfl
   ·exact W b1 (by decide)
   ·exact W (pk (by decide) (wk (by decide) (by decide))) (by decide)
  simp only[nv0,nvS,dvI,dvB,dvS,dvL,B5];refine aj.bind (et hl _ _ (by decide) (by decide)) ?_
  rintro _ ⟨q,i,h,rfl⟩
  simp only[nv0,nvS,dvI,dvB,dvS,dvL,B5];refine aj.ite (fun _=>?_) (fun _=>?_)
  ·refine aj.bind (je hl _ _) ?_
   rintro _ ⟨g,i,h,hg,rfl⟩
   have hb63:F5 1 M63=true:=by decide
   simp only[nv0,nvS,dvI,dvB,dvS,dvL,B5,C2,C5,D1,hb63,H1];exact aj.ret ⟨⟨s,tC (⟨#[97]⟩:ByteArray),t,[g]⟩,i,h,rfl,⟨hs,W a1 (by decide),hw,by simp,by simp[hg]⟩,rfl⟩
  ·exact aj.ret ⟨⟨s,tC (⟨#[97]⟩:ByteArray),t,[]⟩,i,h,rfl,⟨hs,W a1 (by decide),hw,by simp,by simp⟩,rfl⟩
 refine aj.ite (fun _=>?_) (fun _=>?_)
 ·skip
  refine aj.bind (et hl _ _ (by decide) (by decide)) ?_
  rintro _ ⟨q,i,h,rfl⟩
  simp only[nv0,nvS,dvI,dvB,dvS,dvL,B5];refine aj.ite (fun _=>?_) (fun _=>?_)
  ·refine aj.bind (je hl _ _) ?_
   rintro _ ⟨g,i,h,hg,rfl⟩
   have hb63:F5 1 M63=true:=by decide
   simp only[nv0,nvS,dvI,dvB,dvS,dvL,B5,C2,C5,D1,hb63,H1];exact aj.ret ⟨⟨s,tP (⟨#[102]⟩:ByteArray) (tV (⟨#[88]⟩:ByteArray)) (tV (⟨#[88]⟩:ByteArray)),tO (⟨#[103]⟩:ByteArray) (tV (⟨#[88]⟩:ByteArray)),[g]⟩,i,h,rfl,⟨hs,W (gt (by decide) x1 x1) (by decide),W (pk (by decide) x1) (by decide),by simp,by simp[hg]⟩,rfl⟩
  ·exact aj.ret ⟨⟨s,tP (⟨#[102]⟩:ByteArray) (tV (⟨#[88]⟩:ByteArray)) (tV (⟨#[88]⟩:ByteArray)),tO (⟨#[103]⟩:ByteArray) (tV (⟨#[88]⟩:ByteArray)),[]⟩,i,h,rfl,⟨hs,W (gt (by decide) x1 x1) (by decide),W (pk (by decide) x1) (by decide),by simp,by simp⟩,rfl⟩
 refine aj.bind (Kw hl 3 _ rfl 512 (by decide) (by decide) _ _ _) ?_
 rintro _ ⟨t,i,h,ht,htn,rfl⟩
 simp only[nv0,nvS,dvI,dvB,dvS,dvL,B5];refine aj.bind (Kw hl 2 _ rfl 128 (by decide) (by decide) _ _ _) ?_
 rintro _ ⟨u,i,h,hu,hun,rfl⟩
 simp only[nv0,nvS,dvI,dvB,dvS,dvL,B5];refine aj.bind (et hl _ _ (by decide) (by decide)) ?_
 rintro _ ⟨q,i,h,rfl⟩
 simp only[nv0,nvS,dvI,dvB,dvS,dvL,B5];refine aj.ite (fun _=>?_) (fun _=>?_)
 ·refine aj.bind (je hl _ _) ?_
  rintro _ ⟨g,i,h,hg,rfl⟩
  have hb63:F5 1 M63=true:=by decide
  simp only[nv0,nvS,dvI,dvB,dvS,dvL,B5,C2,C5,D1,hb63,H1];exact aj.ret ⟨⟨s,t,u,[g]⟩,i,h,rfl,⟨hs,ht.wn (by decide) (by show t.nodes<=_;omega),hu.wn (by decide) (by show u.nodes<=_;omega),by simp,by simp[hg]⟩,rfl⟩
 ·exact aj.ret ⟨⟨s,t,u,[]⟩,i,h,rfl,⟨hs,ht.wn (by decide) (by show t.nodes<=_;omega),hu.wn (by decide) (by show u.nodes<=_;omega),by simp,by simp⟩,rfl⟩
theorem af5(n:Nat)(hn:n<10):∃ s:ByteArray,s.size<=2/\rn ⟨192,0,0⟩ [.int (n:Int)]=some (0,[.str s]):=by
 rw[e192_0_0];by_cases h0:n=0
 ·subst h0;exact⟨_,by decide,rfl⟩
 have e0:¬(n:Int)=0:=by omega
 rw[H8 e0,H8 (by omega:¬(n:Int)<0)]
 simp only[H2];have hm:P0 (n:Int) 10=(n:Int):=Int.tmod_eq_of_lt (by omega) (by omega)
 have hd:Int.tdiv (n:Int) 10=0:=Int.tdiv_eq_zero_of_lt (by omega) (by omega)
 have hl:∀ s:ByteArray,rn ⟨192,0,1⟩ [.int 0,.bool false,.str s]=some (0,[.bool false,.str s]):=fun s=>by
  rw[e192_0_1];rfl
 have h1:∃ s:ByteArray,s.size<=2/\rn ⟨192,0,1⟩ [.int (n:Int),.bool false,.str ⟨#[]⟩]=some (0,[.bool false,.str s]):=by
  rw[e192_0_1];rw[H8 e0,hm,hd,H8 (by omega:¬(n:Int)<0)]
  have hw:IntKind.i64.wrap 0=0:=rfl;simp only[G7,H1,H2,show decide ((10:Int)=0)=false from rfl,hw,hl]
  refine⟨_,?_,by rw[H7 (by show _<=bd;unfold bd;simp[fk,ByteArray.size])];rfl⟩
  rw[ByteArray.size_append];simp[fk,ByteArray.size]
 obtain⟨s,h2,e⟩:=h1;exact⟨s,h2,by rw[e];rfl⟩
def DDf(code:aa)(x:Nat×List D):Prop:=∃ d:DfM,∃ i':Nat,∃ h':Int,DfW d/\x=(0,[.sl code,.int (i':Int),.int h',.sl (d.so.map ag),.sl (d.op.map OpM.row),.sl (d.ru.map RuM.row),.sl (d.st.map StM.row)])
theorem Zq{code:aa}(hl:code.length<=1048576)(i:Nat)(h:Int):aj (rn ⟨135,0,0⟩ [.sl code,.int (i:Int),.int h]) (DDf code):=by
 have hso:jx.length<=10:=by decide
 have hop:jd.length<=10:=by decide
 have hsig:qg jd:=⟨by decide,fun o ho=>by have:=(yb o ho).2.1;show o.a.length<=_;omega⟩
 have k1:∀ (m j:Nat) (b:Int),b<=5->(j:Int)+m=b->∀ (i:Nat) (h:Int) (R:List RuM),R.length<=j->(∀ r∈R,RuW r)->∃ R':List RuM,∃ i':Nat,∃ h':Int,R'.length<=5/\(∀ r∈R',RuW r) ∧
  rn ⟨135,0,1⟩ [.int b,.int (j:Int),.sl code,.int (i:Int),.int h,.sl [],.sl [],.sl [],.sl [],.sl (jx.map ag),.sl (jd.map OpM.row),.sl (R.map RuM.row),.sl []]=some (0,[.sl code,.int (i':Int),.int h',.sl [],.sl [],.sl [],.sl [],.sl (jx.map ag),.sl (jd.map OpM.row),.sl (R'.map RuM.row),.sl []]):=by
  intro m;induction m with
  |zero =>
   intro j b hb hj i h R hR hRa;rw[e135_0_1,H8 (by omega:¬(j:Int)<b)]
   exact⟨R,i,h,by omega,hRa,rfl⟩
  |succ m ih =>
   intro j b hb hj i h R hR hRa;rw[e135_0_1,H7 (by omega:(j:Int)<b)]
   obtain⟨s,hs,e1⟩:=af5 j (by omega)
   have hsz:((⟨#[114]⟩:ByteArray)++s).size<=1000:=by rw[ByteArray.size_append];show 1+s.size<=1000;omega
   have hi:decide ((⟨#[114]⟩:ByteArray).size+s.size<=bd)=true:=H7 (by show 1+s.size<=bd;unfold bd;omega)
   obtain⟨_,e2,r,i',h',hn,hr,rfl⟩:=Zp hl ((⟨#[114]⟩:ByteArray)++s) hsz i h;have e3:=r159 (jx.map ag) jd hsig r hr.b;have hb63:F5 (R.length+1) M63=true:=nb (by omega)
   have ew:IntKind.i64.wrap ((j:Int)+1)=((j+1:Nat):Int):=by rw[IntWalk.i64_in _ (by omega)];omega
   simp only[H1,e1,nv0,nvS,dvI,dvB,dvS,dvL,B5,hi,e2,e3,B6,C2,C5,D1,hb63,ew];cases jy jd r with
   |true =>
    obtain⟨R',i2,h2,q1,q2,q3⟩:=ih (j+1) b hb (by omega) i' h' (R++[r]) (by simp;omega) (fun x hx=>by
     rcases D7.1 hx with hx |hx
     ·exact hRa x hx
     ·rw[F1.1 hx];exact hr)
    simp only[D6,C4,D4,RuM.row] at q3;exact⟨R',i2,h2,q1,q2,q3⟩
   |false =>
    exact ih (j+1) b hb (by omega) i' h' R (by omega) hRa
 have k2:∀ (R:List RuM),R.length<=5->(∀ r∈R,RuW r)->∀ (m j:Nat) (b:Int),b<=5->(j:Int)+m=b->∀ (i:Nat) (h:Int) (S:List StM),S.length<=j->∃ S':List StM,∃ i':Nat,∃ h':Int,S'.length<=5 ∧
  rn ⟨135,0,3⟩ [.int b,.int (j:Int),.sl code,.int (i:Int),.int h,.sl [],.sl [],.sl [],.sl [],.sl (jx.map ag),.sl (jd.map OpM.row),.sl (R.map RuM.row),.sl (S.map StM.row)]=some (0,[.sl code,.int (i':Int),.int h',.sl [],.sl [],.sl [],.sl [],.sl (jx.map ag),.sl (jd.map OpM.row),.sl (R.map RuM.row),.sl (S'.map StM.row)]):=by
  intro R hR hRa m;induction m with
  |zero =>
   intro j b hb hj i h S hS;rw[e135_0_3,H8 (by omega:¬(j:Int)<b)]
   exact⟨S,i,h,by omega,rfl⟩
  |succ m ih =>
   intro j b hb hj i h S hS;rw[e135_0_3,H7 (by omega:(j:Int)<b)]
   simp only[H1];obtain⟨_,e1,s,i1,h1,hs,rfl⟩:=ro hl i h (l:=[[.str ⟨#[102]⟩],[.str ⟨#[102]⟩],[.str ⟨#[103]⟩],[.str ⟨#[104]⟩],[.str ⟨#[116,111,112]⟩]]) (by decide) (by decide) 8 (by decide)
   obtain⟨_,e2,n,i2,h2,n0,n1,rfl⟩:=av hl i1 h1 (n:=2) (by decide) (by decide)
   have hdf:DfW ⟨jx,jd,R,S++[⟨s,n⟩]⟩:=⟨hso,Fb,hop,yb,by show R.length<=10;omega,hRa,by show(S++[_]).length<=10;simp;omega⟩
   have e3:=r98 _ hdf.b;have hb63:F5 (S.length+1) M63=true:=nb (by omega)
   have ew:IntKind.i64.wrap ((j:Int)+1)=((j+1:Nat):Int):=by rw[IntWalk.i64_in _ (by omega)];omega
   simp only[D6,C4,D4,StM.row] at e3;simp only[e1,e2,nv0,nvS,dvI,dvB,dvS,dvL,B5,e3,B6,E6,C2,C5,D1,hb63,ew,H1];cases DfM.valid ⟨jx,jd,R,S++[⟨s,n⟩]⟩ with
   |true =>
    obtain⟨S',i3,h3,q1,q2⟩:=ih (j+1) b hb (by omega) i2 h2 (S++[⟨s,n⟩]) (by simp;omega)
    simp only[D6,C4,D4,StM.row] at q2;exact⟨S',i3,h3,q1,q2⟩
   |false =>
    have ew2:IntKind.i64.wrap (((S.length+1:Nat):Int)-1)=(S.length:Int):=by rw[IntWalk.i64_in _ (by omega)];omega
    have ed:(decide ((0:Int)<=(S.length:Int))&&decide ((S.length:Int)<=((S.length+1:Nat):Int)))=true:=by simp;omega
    have etk:(S.map StM.row++[[D.str s,.int n]]).take (P1 (S.length:Int))=S.map StM.row:=by
     have e:S.length=(S.map StM.row).length:=(B6 ..).symm;rw[B7,e,List.take_left]
    simp only[G7,H1,ew2,ed,etk];exact ih (j+1) b hb (by omega) i2 h2 S (by omega)
 have hbase:rn ⟨190,0,0⟩ []=some (0,[.sl (jx.map ag),.sl (jd.map OpM.row)]):=by rw[e190_0_0];rfl
 rw[e135_0_0];simp only[hbase,nv0,nvS,dvI,dvB,dvS,dvL,B5];refine aj.bind (av hl _ _ (by decide) (by decide)) ?_
 rintro _ ⟨b,i,h,b0,b1,rfl⟩
 simp only[nv0,nvS,dvI,dvB,dvS,dvL,B5];have ew:IntKind.i64.wrap (1+b)=1+b:=IntWalk.i64_in _ (by omega)
 obtain⟨R,i1,h1,q1,q2,q3⟩:=k1 (1+b).toNat 0 (1+b) (by omega) (by omega) i h [] (E8 _) (by simp)
 simp only[C3,D4] at q3;simp only[ew,q3,nv0,nvS,dvI,dvB,dvS,dvL,B5,D5,H1,H2];refine aj.bind (av hl _ _ (by decide) (by decide)) ?_
 rintro _ ⟨c,i,h,c0,c1,rfl⟩
 simp only[nv0,nvS,dvI,dvB,dvS,dvL,B5];obtain⟨S,i2,h2,p1,p2⟩:=k2 R q1 q2 c.toNat 0 c (by omega) (by omega) i h [] (E8 _)
 simp only[C3,D4] at p2;simp only[p2,nv0,nvS,dvI,dvB,dvS,dvL,B5,D5,H1,H2];exact aj.ret ⟨⟨jx,jd,R,S⟩,i2,h2,⟨hso,Fb,hop,yb,by show R.length<=10;omega,q2,by show S.length<=10;omega⟩,rfl⟩
def clB:List Bnd:=[(⟨#[88]⟩,tC ⟨#[97]⟩),(⟨#[89]⟩,tC ⟨#[98]⟩)]
theorem Qx(t:Tm)(ht:Wn 2048 t):∃ u:Tm,Wn 2048 u/\rn ⟨194,0,0⟩ [.int t.k,.int t.n,.str t.s,.sl (t.as.map Tm.row)]=some (0,[.int u.k,.int u.n,.str u.s,.sl (u.as.map Tm.row)]):=by
 have hw:∀ b∈clB,Wn 1 b.2:=fun b hb=>by
  simp only[clB,E1,N2,or_false] at hb;rcases hb with rfl |rfl
  ·exact Ui (by decide)
  ·exact Ui (by decide)
 have h1:=r70 clB (by decide) (fun b hb=>(hw b hb).small (by decide)) t (ht.small (by decide))
 have h2:=jh (l:=clB) (m:=1) (by decide) (fun b hb=>(hw b hb).n) t
 have h3:=ht.n;refine⟨aS clB t,⟨Ny (fun b hb=>(hw b hb).w) t ht.w,by omega⟩,?_⟩
 simp only[clB,C4,D4,gq] at h1;rw[e194_0_0];simp only[vC,nv0,nvS,dvI,dvB,dvS,dvL,B5,h1];rfl
structure SyW(vl:List ByteArray)(tm:Tm)(cl:List Int):Prop where
 v:vl.length<=10
 vs:∀ x∈vl,x.size<=1000
 t:Wn 3000 tm
 c:cl.length<=100
 ci:∀ x∈cl,S.i64ok x
theorem SyW.b{v:List ByteArray}{t:Tm}{c:List Int}(h:SyW v t c){d:DfM}(hd:DfB d):SyB ⟨d,v,t,c⟩ :=
 ⟨hd,by have:=h.v;show v.length<=_;omega,fun x hx=>by have:=h.vs x hx;unfold maxLen;omega,h.t.w,by have:=h.t.n;show t.nodes<=_;omega,by have:=h.c;show c.length<=_;omega⟩
def DSy(code:aa)(x:Nat×List D):Prop:=∃ v:List ByteArray,∃ t:Tm,∃ c:List Int,∃ i':Nat,∃ h':Int,SyW v t c/\x=(0,[.int t.k,.int t.n,.str t.s,.sl code,.int (i':Int),.int h',.sl (v.map ag),.sl (t.as.map Tm.row),.sl (c.map am)])
def nmL:List ByteArray:=[⟨#[78]⟩,⟨#[77]⟩]
theorem yf:∀ x∈nmL,x.size<=1000:=fun x hx=>by
 have:=E3.1 (show nmL.all (fun x=>decide (x.size<=1000))=true from by decide) x hx
 simpa using this
theorem Kx:([[.str (⟨#[78]⟩:ByteArray)],[.str (⟨#[77]⟩:ByteArray)]]:aa)=nmL.map ag:=rfl
theorem Kz(gs:List Gu)(hg:∀ g∈gs,GuW g)(hn:gs.length<=10):∃ c:List Int,c.length<=100/\(∀ x∈c,S.i64ok x)/\rn ⟨66,0,0⟩ [.sl (nmL.map ag),.sl (gs.map Gu.row)]=some (0,[.sl (c.map am)]):=by
 have h1:=r66 nmL gs (by omega) (fun g h=>⟨(hg g h).b.ln,(hg g h).b.rn⟩)
 have h2:=allC_len nmL gs;refine⟨(dk nmL gs).map (fun n:Nat=>(n:Int)),by rw[B6];omega,fun x hx=>?_,?_⟩
 ·obtain⟨n,hn,rfl⟩:=F8.1 hx
  exact Ns nmL gs n hn
 ·rw[h1,List.map_map];rfl
theorem Zr{code:aa}(hl:code.length<=1048576)(i:Nat)(h:Int):aj (rn ⟨136,0,0⟩ [.sl code,.int (i:Int),.int h]) (DSy code):=by
 rw[e136_0_0];refine aj.bind (av hl _ _ (by decide) (by decide)) ?_
 rintro _ ⟨b,i,h,b0,b1,rfl⟩
 simp only[nv0,nvS,dvI,dvB,dvS,dvL,B5];have e:∃ d:Nat,IntKind.i64.wrap (2+b)=(d:Int)/\d<=4:=⟨(2+b).toNat,by rw[IntWalk.i64_in _ (by omega)];omega,by omega⟩
 obtain⟨d,e,hd⟩:=e;rw[e];have hp:4 ^ d<=4 ^ 4:=Nat.pow_le_pow_right (by decide) hd
 have hp4:4 ^ 4=256:=rfl;refine aj.bind (Kw hl d _ rfl 2048 (by omega) (by omega) _ _ _) ?_
 rintro _ ⟨t,i,h,ht,htn,rfl⟩
 obtain⟨u,hu,e1⟩:=Qx t (ht.wn (by decide) htn)
 have e2:=r69 u (hu.small (by decide))
 have hr:=ah1 hu;simp only[nv0,nvS,dvI,dvB,dvS,dvL,B5,e1,e2];refine aj.bind (et hl _ _ (by decide) (by decide)) ?_
 rintro _ ⟨q,i,h,rfl⟩
 simp only[nv0,nvS,dvI,dvB,dvS,dvL,B5];refine aj.ite (fun _=>?_) (fun _=>?_)
 ·refine aj.bind (av hl _ _ (by decide) (by decide)) ?_
  rintro _ ⟨b,i,h,b0,b1,rfl⟩
  simp only[vV,nv0,nvS,dvI,dvB,dvS,dvL,B5];have ew:IntKind.i64.wrap (1+b)=1+b:=IntWalk.i64_in _ (by omega)
  rw[ew];refine aj.bind (Xh hl 2 _ rfl 64 (by decide) (by decide) _ _ _) ?_
  rintro _ ⟨z,i,h,hz,hzn,rfl⟩
  have hg:GuW ⟨1+b,tV ⟨#[78]⟩,z⟩:=⟨by show 0<=1+b/\1+b<=5;omega,(Cv (by decide)).mono (by decide),hz.wn (by decide) (by show z.nodes<=_;omega)⟩
  obtain⟨c,c1,c2,c3⟩:=Kz [⟨1+b,tV ⟨#[78]⟩,z⟩] (by simpa using hg) (by simp)
  simp only[C4,D4,Gu.row] at c3;have hb63:F5 (0+1) M63=true:=by decide
  simp only[nv0,nvS,dvI,dvB,dvS,dvL,B5,C2,C5,hb63,H1,Kx,D8,c3];exact aj.ret ⟨nmL,rW u,c,i,h,⟨by decide,yf,hr.mono (by decide),c1,c2⟩,rfl⟩
 ·obtain⟨c,c1,c2,c3⟩:=Kz [] (by simp) (by decide)
  simp only[D4] at c3;simp only[Kx,c3,nv0,nvS,dvI,dvB,dvS,dvL,B5];exact aj.ret ⟨nmL,rW u,c,i,h,⟨by decide,yf,hr.mono (by decide),c1,c2⟩,rfl⟩
theorem Zs(d:DfM)(hd:DfB d)(v:List ByteArray)(t:Tm)(c:List Int)(h:SyW v t c):∃ u:Tm,Wn 3000 u/\rn ⟨137,0,0⟩ [.sl (d.so.map ag),.sl (d.op.map OpM.row),.sl (d.ru.map RuM.row),.sl (d.st.map StM.row),.sl (v.map ag),.int t.k,.int t.n,.str t.s,.sl (t.as.map Tm.row),.sl (c.map am)]=some (0,[.int (u).k,.int (u).n,.str (u).s,.sl ((u).as.map Tm.row)]):=by
 have x1:=r72 v t (h.t.small (by decide)) (c.map am) 0
 have hn:=S.instR_nodes (vars:=v) (t:=t) 0;have htn:=h.t.n;have hw:=qk (vars:=v) h.t.w 0;have x2:=r196 d hd (S.instR v t 0) hw (by omega)
 have x3:=r197 d hd (S.instR v t 0) hw (by omega) 5
 rw[ac8] at x3;obtain⟨g1,g2,_,_⟩:=Yk hd hw 5;have ha:Wn 3000 (tC (⟨#[97]⟩:ByteArray)):=(Ui (by decide)).mono (by decide)
 rw[e137_0_0];simp only[x1,nv0,nvS,dvI,dvB,dvS,dvL,B5,vC,x2,x3];cases isC v.length 0 with
 |false=>exact⟨_,ha,rfl⟩
 |true =>
  cases cfg d (S.instR v t 0) with
  |false=>exact⟨_,ha,rfl⟩
  |true=>exact⟨rtT (jv d (S.instR v t 0) 5),⟨g1,by omega⟩,rfl⟩
theorem vT(s:ByteArray)(t u:Tm):rn ⟨131,0,0⟩ [.str s,.int t.k,.int t.n,.str t.s,.sl (t.as.map Tm.row),.int u.k,.int u.n,.str u.s,.sl (u.as.map Tm.row)]=some (0,[.int (tP s t u).k,.int (tP s t u).n,.str (tP s t u).s,.sl ((tP s t u).as.map Tm.row)]):=by
 rw[e131_0_0];simp only[vP,nv0,nvS,dvI,dvB,dvS,dvL,B5]
def DCl(code:aa)(x:Nat×List D):Prop:=∃ d:DfM,∃ v:List ByteArray,∃ l r:Tm,∃ g:List Gu,∃ i':Nat,∃ h':Int,DfW d/\ClW v l r g/\(v.length<=10/\g.length<=10)/\x=(0,[.int l.k,.int l.n,.str l.s,.int r.k,.int r.n,.str r.s,.sl code,.int (i':Int),.int h',.sl (d.so.map ag),.sl (d.op.map OpM.row),.sl (d.ru.map RuM.row),.sl (d.st.map StM.row),.sl (v.map ag),.sl (l.as.map Tm.row),.sl (r.as.map Tm.row),.sl (g.map Gu.row)])
theorem Fe{code:aa}(hl:code.length<=1048576)(i:Nat)(h:Int):aj (rn ⟨81,0,0⟩ [.sl code,.int (i:Int),.int h]) (DCl code):=by
 have W:∀ {m:Nat} {t:Tm},Wn m t->m<=3000->Wn 3000 t:=fun h hm=>h.mono hm
 have n1:Wn 1 (tV (⟨#[78]⟩:ByteArray)):=Cv (by decide)
 have m1:Wn 1 (tV (⟨#[77]⟩:ByteArray)):=Cv (by decide)
 have L1:Wn 3000 (tP (⟨#[108,111,111,112]⟩:ByteArray) (tV (⟨#[78]⟩:ByteArray)) (tV (⟨#[77]⟩:ByteArray))):=W (gt (by decide) n1 m1) (by decide)
 have dO:∀ {t:Tm},Wn 5 t->Wn 3000 (tO (⟨#[100,111,110,101]⟩:ByteArray) t):=fun h=>W (pk (by decide) h) (by decide)
 have pMN:Wn 3 (tP (⟨#[112,108,117,115]⟩:ByteArray) (tV (⟨#[77]⟩:ByteArray)) (tV (⟨#[78]⟩:ByteArray))):=gt (by decide) m1 n1
 have pNM:Wn 3 (tP (⟨#[112,108,117,115]⟩:ByteArray) (tV (⟨#[78]⟩:ByteArray)) (tV (⟨#[77]⟩:ByteArray))):=gt (by decide) n1 m1
 have w0:Wn 1 (tW 0):=wk (by decide) (by decide)
 have w2:Wn 1 (tW 2):=wk (by decide) (by decide)
 have pM2:Wn 3 (tP (⟨#[112,108,117,115]⟩:ByteArray) (tV (⟨#[77]⟩:ByteArray)) (tW 2)):=gt (by decide) m1 w2
 rw[e81_0_0];simp only[vV,nv0,nvS,dvI,dvB,dvS,dvL,B5,vT,vP,vO];refine aj.bind (av hl _ _ (by decide) (by decide)) ?_
 rintro _ ⟨b,i,h,b0,b1,rfl⟩
 simp only[vV,vO,vP,vW,vC,vT,nv0,nvS,dvI,dvB,dvS,dvL,B5,rp];refine aj.ite (fun _=>?_) (fun _=>?_)
 ·skip
  have hp:=qo hl i h [tV (⟨#[77]⟩:ByteArray),tP (⟨#[112,108,117,115]⟩:ByteArray) (tV (⟨#[77]⟩:ByteArray)) (tV (⟨#[78]⟩:ByteArray)),tW 0] (by decide) (by decide)
  simp only[C4,D4,Tm.row_eq] at hp;refine aj.bind hp ?_
  rintro _ ⟨t,i,h,ht,rfl⟩
  have hw:Wn 5 t:=by
   simp only[E1,N2,or_false] at ht;rcases ht with rfl |rfl |rfl
   ·exact m1.mono (by decide)
   ·exact pMN.mono (by decide)
   ·exact w0.mono (by decide)
  simp only[nv0,nvS,dvI,dvB,dvS,dvL,B5,vO,rp];exact aj.ret ⟨jg,nmL,_,_,[],i,h,qn,⟨by decide,yf,L1,dO hw,by simp,by simp⟩,⟨by decide,by simp⟩,rfl⟩
 refine aj.ite (fun _=>?_) (fun _=>?_)
 ·refine aj.bind (av hl _ _ (by decide) (by decide)) ?_
  rintro _ ⟨b,i,h,b0,b1,rfl⟩
  simp only[vV,vO,vP,vW,vC,vT,nv0,nvS,dvI,dvB,dvS,dvL,B5,rp];have hp:=qo hl i h [tV (⟨#[77]⟩:ByteArray),tP (⟨#[112,108,117,115]⟩:ByteArray) (tV (⟨#[77]⟩:ByteArray)) (tW 2)] (by decide) (by decide)
  simp only[C4,D4,Tm.row_eq] at hp;refine aj.bind hp ?_
  rintro _ ⟨t,i,h,ht,rfl⟩
  have hw:Wn 5 t:=by
   simp only[E1,N2,or_false] at ht;rcases ht with rfl |rfl
   ·exact m1.mono (by decide)
   ·exact pM2.mono (by decide)
  simp only[nv0,nvS,dvI,dvB,dvS,dvL,B5,vO,rp];exact aj.ret ⟨jg,nmL,_,_,[],i,h,qn,⟨by decide,yf,W (gt (by decide) (wk b0 (by omega)) m1) (by decide),dO hw,by simp,by simp⟩,⟨by decide,by simp⟩,rfl⟩
 refine aj.ite (fun _=>?_) (fun _=>?_)
 ·refine aj.bind (av hl _ _ (by decide) (by decide)) ?_
  rintro _ ⟨b,i,h,b0,b1,rfl⟩
  simp only[vV,vO,vP,vW,vC,vT,nv0,nvS,dvI,dvB,dvS,dvL,B5,rp];have hp:=qo hl i h [tV (⟨#[77]⟩:ByteArray),tP (⟨#[112,108,117,115]⟩:ByteArray) (tV (⟨#[77]⟩:ByteArray)) (tV (⟨#[78]⟩:ByteArray))] (by decide) (by decide)
  simp only[C4,D4,Tm.row_eq] at hp;refine aj.bind hp ?_
  rintro _ ⟨t,i,h,ht,rfl⟩
  have hw:Wn 5 t:=by
   simp only[E1,N2,or_false] at ht;rcases ht with rfl |rfl
   ·exact m1.mono (by decide)
   ·exact pMN.mono (by decide)
  simp only[nv0,nvS,dvI,dvB,dvS,dvL,B5,vO,rp];have hg:GuW ⟨3,tV (⟨#[78]⟩:ByteArray),tW b⟩:=⟨by show(0:Int)<=3/\(3:Int)<=5;decide,W n1 (by decide),W (wk b0 (by omega)) (by decide)⟩
  exact aj.ret ⟨jg,nmL,_,_,[⟨3,tV (⟨#[78]⟩:ByteArray),tW b⟩],i,h,qn,⟨by decide,yf,L1,dO hw,by simp,by simpa using hg⟩,⟨by decide,by simp⟩,rfl⟩
 refine aj.ite (fun _=>?_) (fun _=>?_)
 ·refine aj.bind (Zq hl _ _) ?_
  rintro _ ⟨d,i,h,hd,rfl⟩
  simp only[nv0,nvS,dvI,dvB,dvS,dvL,B5];refine aj.bind (Zr hl _ _) ?_
  rintro _ ⟨v,t,c,i,h,hs,rfl⟩
  obtain⟨u,hu,e1⟩:=Zs d hd.b v t c hs;simp only[nv0,nvS,dvI,dvB,dvS,dvL,B5,e1];exact aj.ret ⟨d,v,t,u,[],i,h,hd,⟨by have:=hs.v;omega,hs.vs,hs.t,hu,by simp,by simp⟩,⟨hs.v,by simp⟩,rfl⟩
 ·exact aj.ret ⟨jg,nmL,_,_,[],i,h,qn,⟨by decide,yf,L1,dO (pNM.mono (by decide)),by simp,by simp⟩,⟨by decide,by simp⟩,rfl⟩
def DPr(code:aa)(x:Nat×List D):Prop:=∃ d:DfM,∃ cs:List ClM,∃ k:Int,∃ ns:List PnM,∃ i':Nat,∃ h':Int,ClL d cs/\NdL ns/\x=(0,[.int k,.sl code,.int (i':Int),.int h',.sl (d.so.map ag),.sl (d.op.map OpM.row),.sl (d.ru.map RuM.row),.sl (d.st.map StM.row),.sl (cs.map bf),.sl (ns.map PnM.row)])
theorem Qy{code:aa}(hl:code.length<=1048576)(i:Nat)(h:Int):aj (rn ⟨47,0,0⟩ [.sl code,.int (i:Int),.int h]) (DPr code):=by
 rw[e47_0_0];refine aj.bind (Fe hl _ _) ?_
 rintro _ ⟨d,v,l,r,g,i,h,hd,hc,_,rfl⟩
 simp only[nv0,nvS,dvI,dvB,dvS,dvL,B5];refine aj.bind (et hl _ _ (by decide) (by decide)) ?_
 rintro _ ⟨q,i,h,rfl⟩
 simp only[nv0,nvS,dvI,dvB,dvS,dvL,B5];have e1:([[.sl (v.map ag),.int l.k,.int l.n,.str l.s,.sl (l.as.map Tm.row),.int r.k,.int r.n,.str r.s,.sl (r.as.map Tm.row),.sl (g.map Gu.row)]]:aa)=([⟨d,v,l,r,g⟩]:List ClM).map bf:=rfl;refine aj.ite (fun _=>?_) (fun _=>?_)
 ·refine aj.bind (Fe hl _ _) ?_
  rintro _ ⟨d2,v2,l2,r2,g2,i,h,hd2,hc2,_,rfl⟩
  simp only[nv0,nvS,dvI,dvB,dvS,dvL,B5];have e2:([[.sl (v.map ag),.int l.k,.int l.n,.str l.s,.sl (l.as.map Tm.row),.int r.k,.int r.n,.str r.s,.sl (r.as.map Tm.row),.sl (g.map Gu.row)]]++[[.sl (v2.map ag),.int l2.k,.int l2.n,.str l2.s,.sl (l2.as.map Tm.row),.int r2.k,.int r2.n,.str r2.s,.sl (r2.as.map Tm.row),.sl (g2.map Gu.row)]]:aa)=([⟨d,v,l,r,g⟩,⟨d,v2,l2,r2,g2⟩]:List ClM).map bf:=rfl;have hcs:ClL d [⟨d,v,l,r,g⟩,⟨d,v2,l2,r2,g2⟩]:=⟨hd,by simp,fun c hc'=>by
   simp only[E1,N2,or_false] at hc';rcases hc' with rfl |rfl
   ·exact hc.b hd.b
   ·exact hc2.b hd.b,fun c hc'=>by
   simp only[E1,N2,or_false] at hc';rcases hc' with rfl |rfl<;>rfl⟩
  have hb63:F5 (([[.sl (v.map ag),.int l.k,.int l.n,.str l.s,.sl (l.as.map Tm.row),.int r.k,.int r.n,.str r.s,.sl (r.as.map Tm.row),.sl (g.map Gu.row)]]:aa).length+([[.sl (v2.map ag),.int l2.k,.int l2.n,.str l2.s,.sl (l2.as.map Tm.row),.int r2.k,.int r2.n,.str r2.s,.sl (r2.as.map Tm.row),.sl (g2.map Gu.row)]]:aa).length) M63=true:=rfl;rw[hb63];simp only[H1,e2];refine aj.bind (av hl _ _ (n:=(([⟨d,v,l,r,g⟩,⟨d,v2,l2,r2,g2⟩].map bf).length:Int)) (by simp) (by simp)) ?_
  rintro _ ⟨k,i,h,k0,k1,rfl⟩
  have fp:=r26 d hd.b [⟨d,v,l,r,g⟩,⟨d,v2,l2,r2,g2⟩] hcs.b hcs.e (by simp) k
  rw[Ud] at fp;obtain⟨f1,f2⟩:=Oq hd.b hcs.b hcs.e (k:=k);generalize (fpR d [⟨d,v,l,r,g⟩,⟨d,v2,l2,r2,g2⟩] k).getD []=L at fp f1 f2;simp only[nv0,nvS,dvI,dvB,dvS,dvL,B5,fp,B6];refine aj.ite (fun _=>?_) (fun h0=>?_)
  ·simp only[Ox,B6]
   have hL:0<dfN.length/\dfN.length<=60:=by decide
   have hB:∀ n∈dfN,PnB n:=fun n hn=>(Hg n hn).1
   have hX:∀ n∈dfN,n.nx.length<=64:=fun n hn=>(Hg n hn).2
   refine aj.bind (av hl _ _ (n:=(dfN.length:Int)) (by omega) (by omega)) ?_
   rintro _ ⟨b,i,h,b0,b1,rfl⟩
   obtain⟨m,rfl⟩:=Q2 b0;have hm:m<dfN.length:=by omega
   have hbl:J7 m dfN.length=true:=E9 hm;have hbm:=hB _ (C0 hm);have hxm:=hX _ (C0 hm);simp only[nv0,nvS,dvI,dvB,dvS,dvL,B5];refine aj.bind (av hl _ _ (by decide) (by decide)) ?_
   rintro _ ⟨q,i,h,q0,q1,rfl⟩
   simp only[nv0,nvS,dvI,dvB,dvS,dvL,B5,aq,B7,ab hm];refine aj.ite (fun _=>?_) (fun _=>?_)
   ·refine aj.bind (av hl _ _ (by decide) (by decide)) ?_
    rintro _ ⟨q,i,h,q0,q1,rfl⟩
    simp only[nv0,nvS,dvI,dvB,dvS,dvL,B5,B6,hm,H3,H1,pnK,ov1 hm];exact aj.ret ⟨d,[⟨d,v,l,r,g⟩,⟨d,v2,l2,r2,g2⟩],k,dfN.set m ⟨q,dfN[m].nx,dfN[m].c,dfN[m].s⟩,i,h,hcs,⟨by rw[K0];exact hL.2,gu hB _ ⟨hbm.nx,hbm.s,hbm.b⟩⟩,rfl⟩
   refine aj.ite (fun _=>?_) (fun _=>?_)
   ·simp only[B6,hm,H3,H1]
    refine aj.bind (av hl _ _ (by decide) (by decide)) ?_
    rintro _ ⟨q,i,h,q0,q1,rfl⟩
    have hb63:F5 (dfN[m].nx.length+1) M63=true:=nb (by omega)
    simp only[nv0,nvS,dvI,dvB,dvS,dvL,B5,B6,C2,C5,D1,hbl,H1,pn1,hb63,pnE,ovL hm,hm,H3,D5,D9,ovA hm,pnN,ovN hm];exact aj.ret ⟨d,[⟨d,v,l,r,g⟩,⟨d,v2,l2,r2,g2⟩],k,dfN.set m ⟨dfN[m].k,dfN[m].nx++[q],dfN[m].c,dfN[m].s⟩,i,h,hcs,⟨by rw[K0];exact hL.2,gu hB _ ⟨by show List.length (_++_)<=_;rw[E6,Q6];omega,hbm.s,hbm.b⟩⟩,rfl⟩
   refine aj.ite (fun _=>?_) (fun _=>?_)
   ·simp only[B6,hm,H3,H1,pnS,ov1 hm]
    exact aj.ret ⟨d,[⟨d,v,l,r,g⟩,⟨d,v2,l2,r2,g2⟩],k,dfN.set m ⟨dfN[m].k,dfN[m].nx,dfN[m].c,[]⟩,i,h,hcs,⟨by rw[K0];exact hL.2,gu hB _ ⟨hbm.nx,G9 _,by simp⟩⟩,rfl⟩
   refine aj.ite (fun _=>?_) (fun _=>?_)
   ·refine aj.bind (av hl _ _ (by decide) (by decide)) ?_
    rintro _ ⟨q,i,h,q0,q1,rfl⟩
    simp only[nv0,nvS,dvI,dvB,dvS,dvL,B5,B6,hm,H3,H1,pnC,ov1 hm];exact aj.ret ⟨d,[⟨d,v,l,r,g⟩,⟨d,v2,l2,r2,g2⟩],k,dfN.set m ⟨dfN[m].k,dfN[m].nx,q,dfN[m].s⟩,i,h,hcs,⟨by rw[K0];exact hL.2,gu hB _ ⟨hbm.nx,hbm.s,hbm.b⟩⟩,rfl⟩
   ·exact aj.ret ⟨d,[⟨d,v,l,r,g⟩,⟨d,v2,l2,r2,g2⟩],k,dfN,i,h,hcs,⟨by exact hL.2,hB⟩,rfl⟩
  ·have hL:0<L.length/\L.length<=60:=⟨by have:=of_decide_eq_false h0;omega,f1⟩
   have hB:∀ n∈L,PnB n:=fun n hn=>(f2 n hn).b
   have hX:∀ n∈L,n.nx.length<=64:=fun n hn=>(f2 n hn).nl
   refine aj.bind (av hl _ _ (n:=(L.length:Int)) (by omega) (by omega)) ?_
   rintro _ ⟨b,i,h,b0,b1,rfl⟩
   obtain⟨m,rfl⟩:=Q2 b0;have hm:m<L.length:=by omega
   have hbl:J7 m L.length=true:=E9 hm;have hbm:=hB _ (C0 hm);have hxm:=hX _ (C0 hm);simp only[nv0,nvS,dvI,dvB,dvS,dvL,B5];refine aj.bind (av hl _ _ (by decide) (by decide)) ?_
   rintro _ ⟨q,i,h,q0,q1,rfl⟩
   simp only[nv0,nvS,dvI,dvB,dvS,dvL,B5,aq,B7,ab hm];refine aj.ite (fun _=>?_) (fun _=>?_)
   ·refine aj.bind (av hl _ _ (by decide) (by decide)) ?_
    rintro _ ⟨q,i,h,q0,q1,rfl⟩
    simp only[nv0,nvS,dvI,dvB,dvS,dvL,B5,B6,hm,H3,H1,pnK,ov1 hm];exact aj.ret ⟨d,[⟨d,v,l,r,g⟩,⟨d,v2,l2,r2,g2⟩],k,L.set m ⟨q,L[m].nx,L[m].c,L[m].s⟩,i,h,hcs,⟨by rw[K0];exact hL.2,gu hB _ ⟨hbm.nx,hbm.s,hbm.b⟩⟩,rfl⟩
   refine aj.ite (fun _=>?_) (fun _=>?_)
   ·simp only[B6,hm,H3,H1]
    refine aj.bind (av hl _ _ (by decide) (by decide)) ?_
    rintro _ ⟨q,i,h,q0,q1,rfl⟩
    have hb63:F5 (L[m].nx.length+1) M63=true:=nb (by omega)
    simp only[nv0,nvS,dvI,dvB,dvS,dvL,B5,B6,C2,C5,D1,hbl,H1,pn1,hb63,pnE,ovL hm,hm,H3,D5,D9,ovA hm,pnN,ovN hm];exact aj.ret ⟨d,[⟨d,v,l,r,g⟩,⟨d,v2,l2,r2,g2⟩],k,L.set m ⟨L[m].k,L[m].nx++[q],L[m].c,L[m].s⟩,i,h,hcs,⟨by rw[K0];exact hL.2,gu hB _ ⟨by show List.length (_++_)<=_;rw[E6,Q6];omega,hbm.s,hbm.b⟩⟩,rfl⟩
   refine aj.ite (fun _=>?_) (fun _=>?_)
   ·simp only[B6,hm,H3,H1,pnS,ov1 hm]
    exact aj.ret ⟨d,[⟨d,v,l,r,g⟩,⟨d,v2,l2,r2,g2⟩],k,L.set m ⟨L[m].k,L[m].nx,L[m].c,[]⟩,i,h,hcs,⟨by rw[K0];exact hL.2,gu hB _ ⟨hbm.nx,G9 _,by simp⟩⟩,rfl⟩
   refine aj.ite (fun _=>?_) (fun _=>?_)
   ·refine aj.bind (av hl _ _ (by decide) (by decide)) ?_
    rintro _ ⟨q,i,h,q0,q1,rfl⟩
    simp only[nv0,nvS,dvI,dvB,dvS,dvL,B5,B6,hm,H3,H1,pnC,ov1 hm];exact aj.ret ⟨d,[⟨d,v,l,r,g⟩,⟨d,v2,l2,r2,g2⟩],k,L.set m ⟨L[m].k,L[m].nx,q,L[m].s⟩,i,h,hcs,⟨by rw[K0];exact hL.2,gu hB _ ⟨hbm.nx,hbm.s,hbm.b⟩⟩,rfl⟩
   ·exact aj.ret ⟨d,[⟨d,v,l,r,g⟩,⟨d,v2,l2,r2,g2⟩],k,L,i,h,hcs,⟨by exact hL.2,hB⟩,rfl⟩
 ·have hcs:ClL d [⟨d,v,l,r,g⟩]:=⟨hd,by simp,fun c hc'=>by
   rw[F1.1 hc'];exact hc.b hd.b,fun c hc'=>by
   rw[F1.1 hc']⟩
  simp only[e1];refine aj.bind (av hl _ _ (n:=(([⟨d,v,l,r,g⟩].map bf).length:Int)) (by simp) (by simp)) ?_
  rintro _ ⟨k,i,h,k0,k1,rfl⟩
  have fp:=r26 d hd.b [⟨d,v,l,r,g⟩] hcs.b hcs.e (by simp) k
  rw[Ud] at fp;obtain⟨f1,f2⟩:=Oq hd.b hcs.b hcs.e (k:=k);generalize (fpR d [⟨d,v,l,r,g⟩] k).getD []=L at fp f1 f2;simp only[nv0,nvS,dvI,dvB,dvS,dvL,B5,fp,B6];refine aj.ite (fun _=>?_) (fun h0=>?_)
  ·simp only[Ox,B6]
   have hL:0<dfN.length/\dfN.length<=60:=by decide
   have hB:∀ n∈dfN,PnB n:=fun n hn=>(Hg n hn).1
   have hX:∀ n∈dfN,n.nx.length<=64:=fun n hn=>(Hg n hn).2
   refine aj.bind (av hl _ _ (n:=(dfN.length:Int)) (by omega) (by omega)) ?_
   rintro _ ⟨b,i,h,b0,b1,rfl⟩
   obtain⟨m,rfl⟩:=Q2 b0;have hm:m<dfN.length:=by omega
   have hbl:J7 m dfN.length=true:=E9 hm;have hbm:=hB _ (C0 hm);have hxm:=hX _ (C0 hm);simp only[nv0,nvS,dvI,dvB,dvS,dvL,B5];refine aj.bind (av hl _ _ (by decide) (by decide)) ?_
   rintro _ ⟨q,i,h,q0,q1,rfl⟩
   simp only[nv0,nvS,dvI,dvB,dvS,dvL,B5,aq,B7,ab hm];refine aj.ite (fun _=>?_) (fun _=>?_)
   ·refine aj.bind (av hl _ _ (by decide) (by decide)) ?_
    rintro _ ⟨q,i,h,q0,q1,rfl⟩
    simp only[nv0,nvS,dvI,dvB,dvS,dvL,B5,B6,hm,H3,H1,pnK,ov1 hm];exact aj.ret ⟨d,[⟨d,v,l,r,g⟩],k,dfN.set m ⟨q,dfN[m].nx,dfN[m].c,dfN[m].s⟩,i,h,hcs,⟨by rw[K0];exact hL.2,gu hB _ ⟨hbm.nx,hbm.s,hbm.b⟩⟩,rfl⟩
   refine aj.ite (fun _=>?_) (fun _=>?_)
   ·simp only[B6,hm,H3,H1]
    refine aj.bind (av hl _ _ (by decide) (by decide)) ?_
    rintro _ ⟨q,i,h,q0,q1,rfl⟩
    have hb63:F5 (dfN[m].nx.length+1) M63=true:=nb (by omega)
    simp only[nv0,nvS,dvI,dvB,dvS,dvL,B5,B6,C2,C5,D1,hbl,H1,pn1,hb63,pnE,ovL hm,hm,H3,D5,D9,ovA hm,pnN,ovN hm];exact aj.ret ⟨d,[⟨d,v,l,r,g⟩],k,dfN.set m ⟨dfN[m].k,dfN[m].nx++[q],dfN[m].c,dfN[m].s⟩,i,h,hcs,⟨by rw[K0];exact hL.2,gu hB _ ⟨by show List.length (_++_)<=_;rw[E6,Q6];omega,hbm.s,hbm.b⟩⟩,rfl⟩
   refine aj.ite (fun _=>?_) (fun _=>?_)
   ·simp only[B6,hm,H3,H1,pnS,ov1 hm]
    exact aj.ret ⟨d,[⟨d,v,l,r,g⟩],k,dfN.set m ⟨dfN[m].k,dfN[m].nx,dfN[m].c,[]⟩,i,h,hcs,⟨by rw[K0];exact hL.2,gu hB _ ⟨hbm.nx,G9 _,by simp⟩⟩,rfl⟩
   refine aj.ite (fun _=>?_) (fun _=>?_)
   ·refine aj.bind (av hl _ _ (by decide) (by decide)) ?_
    rintro _ ⟨q,i,h,q0,q1,rfl⟩
    simp only[nv0,nvS,dvI,dvB,dvS,dvL,B5,B6,hm,H3,H1,pnC,ov1 hm];exact aj.ret ⟨d,[⟨d,v,l,r,g⟩],k,dfN.set m ⟨dfN[m].k,dfN[m].nx,q,dfN[m].s⟩,i,h,hcs,⟨by rw[K0];exact hL.2,gu hB _ ⟨hbm.nx,hbm.s,hbm.b⟩⟩,rfl⟩
   ·exact aj.ret ⟨d,[⟨d,v,l,r,g⟩],k,dfN,i,h,hcs,⟨by exact hL.2,hB⟩,rfl⟩
  ·have hL:0<L.length/\L.length<=60:=⟨by have:=of_decide_eq_false h0;omega,f1⟩
   have hB:∀ n∈L,PnB n:=fun n hn=>(f2 n hn).b
   have hX:∀ n∈L,n.nx.length<=64:=fun n hn=>(f2 n hn).nl
   refine aj.bind (av hl _ _ (n:=(L.length:Int)) (by omega) (by omega)) ?_
   rintro _ ⟨b,i,h,b0,b1,rfl⟩
   obtain⟨m,rfl⟩:=Q2 b0;have hm:m<L.length:=by omega
   have hbl:J7 m L.length=true:=E9 hm;have hbm:=hB _ (C0 hm);have hxm:=hX _ (C0 hm);simp only[nv0,nvS,dvI,dvB,dvS,dvL,B5];refine aj.bind (av hl _ _ (by decide) (by decide)) ?_
   rintro _ ⟨q,i,h,q0,q1,rfl⟩
   simp only[nv0,nvS,dvI,dvB,dvS,dvL,B5,aq,B7,ab hm];refine aj.ite (fun _=>?_) (fun _=>?_)
   ·refine aj.bind (av hl _ _ (by decide) (by decide)) ?_
    rintro _ ⟨q,i,h,q0,q1,rfl⟩
    simp only[nv0,nvS,dvI,dvB,dvS,dvL,B5,B6,hm,H3,H1,pnK,ov1 hm];exact aj.ret ⟨d,[⟨d,v,l,r,g⟩],k,L.set m ⟨q,L[m].nx,L[m].c,L[m].s⟩,i,h,hcs,⟨by rw[K0];exact hL.2,gu hB _ ⟨hbm.nx,hbm.s,hbm.b⟩⟩,rfl⟩
   refine aj.ite (fun _=>?_) (fun _=>?_)
   ·simp only[B6,hm,H3,H1]
    refine aj.bind (av hl _ _ (by decide) (by decide)) ?_
    rintro _ ⟨q,i,h,q0,q1,rfl⟩
    have hb63:F5 (L[m].nx.length+1) M63=true:=nb (by omega)
    simp only[nv0,nvS,dvI,dvB,dvS,dvL,B5,B6,C2,C5,D1,hbl,H1,pn1,hb63,pnE,ovL hm,hm,H3,D5,D9,ovA hm,pnN,ovN hm];exact aj.ret ⟨d,[⟨d,v,l,r,g⟩],k,L.set m ⟨L[m].k,L[m].nx++[q],L[m].c,L[m].s⟩,i,h,hcs,⟨by rw[K0];exact hL.2,gu hB _ ⟨by show List.length (_++_)<=_;rw[E6,Q6];omega,hbm.s,hbm.b⟩⟩,rfl⟩
   refine aj.ite (fun _=>?_) (fun _=>?_)
   ·simp only[B6,hm,H3,H1,pnS,ov1 hm]
    exact aj.ret ⟨d,[⟨d,v,l,r,g⟩],k,L.set m ⟨L[m].k,L[m].nx,L[m].c,[]⟩,i,h,hcs,⟨by rw[K0];exact hL.2,gu hB _ ⟨hbm.nx,G9 _,by simp⟩⟩,rfl⟩
   refine aj.ite (fun _=>?_) (fun _=>?_)
   ·refine aj.bind (av hl _ _ (by decide) (by decide)) ?_
    rintro _ ⟨q,i,h,q0,q1,rfl⟩
    simp only[nv0,nvS,dvI,dvB,dvS,dvL,B5,B6,hm,H3,H1,pnC,ov1 hm];exact aj.ret ⟨d,[⟨d,v,l,r,g⟩],k,L.set m ⟨L[m].k,L[m].nx,q,L[m].s⟩,i,h,hcs,⟨by rw[K0];exact hL.2,gu hB _ ⟨hbm.nx,hbm.s,hbm.b⟩⟩,rfl⟩
   ·exact aj.ret ⟨d,[⟨d,v,l,r,g⟩],k,L,i,h,hcs,⟨by exact hL.2,hB⟩,rfl⟩
theorem Xi{code:aa}(hl:code.length<=1048576)(i:Nat)(h:Int)(n:Nat)(hn:0<n):aj (rn ⟨57,0,0⟩ [.sl [[.int (n:Int)],[.int (n:Int)],[.int (n:Int)],[.int 1],[.int 0]],.sl code,.int (i:Int),.int h]) fun x=>∃ k:Nat,∃ i':Nat,∃ h':Int,k<=n/\x=(0,[.int (k:Int),.sl code,.int ((i':Nat):Int),.int h']):=by
 rw[e57_0_0];refine aj.bind (av hl i h (by simp) (by simp)) ?_
 rintro _ ⟨b,i',h',b0,b1,rfl⟩
 simp only[nv0,nvS,dvI,dvB,dvS,dvL,B5];obtain⟨j,rfl⟩:=Q2 b0;have hj:j<5:=by simp only[C2,C5] at b1;omega
 simp only[aq,B7,C2,C5,D1,show j<1+1+1+1+1 from hj,H3,H1]
 rcases j with _ |_ |_ |_ |_ |j
 ·exact aj.ret ⟨n,i',h',E8 _,rfl⟩
 ·exact aj.ret ⟨n,i',h',E8 _,rfl⟩
 ·exact aj.ret ⟨n,i',h',E8 _,rfl⟩
 ·exact aj.ret ⟨1,i',h',hn,rfl⟩
 ·exact aj.ret ⟨0,i',h',G9 _,rfl⟩
 ·omega
theorem Pb{code:aa}(hl:code.length<=1048576):∃ d:DfM,∃ cs:List ClM,DfW d/\cs.length<=2/\(∀ c∈cs,ClB c)/\(∀ c∈cs,c.d=d)/\rn ⟨28,0,0⟩ [.sl code]=some (0,[.sl (cs.map bf),.sl (d.so.map ag),.sl (d.op.map OpM.row),.sl (d.ru.map RuM.row),.sl (d.st.map StM.row)]):=by
 obtain⟨_,e1,i,h,rfl⟩:=Vf hl;obtain⟨_,e2,d,cs,k,ns,i,h,hc,hn,rfl⟩:=Qy hl i h;obtain⟨_,e3,n,i',h',hk,rfl⟩:=Xi hl i h cs.length hc.l.1;have hcl:=hc.l.2;refine⟨d,cs.take n,hc.d,by rw[List.length_take];omega,fun c hm=>hc.b c (P9 hm),fun c hm=>hc.e c (P9 hm),?_⟩
 rw[e28_0_0];have q1:(decide ((0:Int)<=0)&&(decide ((0:Int)<=(n:Int))&&decide ((n:Int)<=(cs.length:Int))))=true:=by
  simp only[B9,decide_eq_true_eq];omega
 simp only[e1,e2,nv0,nvS,dvI,dvB,dvS,dvL,B5,B6,e3,q1,H1];rw[show(((cs.map bf).take (P1 (n:Int))).drop (P1 0))=(cs.take n).map bf by rw[B7,show P1 0=0 from rfl,D2,List.map_take]]
theorem Zt{code:aa}(hl:code.length<=1048576):∃ d:DfM,∃ cs:List ClM,DfW d/\cs.length<=2/\(∀ c∈cs,ClB c)/\(∀ c∈cs,c.d=d)/\rn ⟨7,0,0⟩ [.sl code]=some (0,[.sl (cs.map bf),.sl (d.so.map ag),.sl (d.op.map OpM.row),.sl (d.ru.map RuM.row),.sl (d.st.map StM.row)]):=by
 obtain⟨d,cs,h1,h2,h3,h4,e1⟩:=Pb hl;refine⟨d,cs,h1,h2,h3,h4,?_⟩;rw[e7_0_0];simp only[e1,nv0,nvS,dvI,dvB,dvS,dvL,B5]
theorem af6{code:aa}(hl:code.length<=1048576):∃ d:DfM,∃ cs:List ClM,∃ a b c:Int,∃ ps:List (List PnM),DfW d/\cs.length<=2/\(∀ c∈cs,ClB c)/\(∀ c∈cs,c.d=d)/\ps.length<=1048576/\(∀ p∈ps,PfB p)/\rn ⟨14,0,0⟩ [.sl code]=some (0,[.sl (cs.map bf),.int a,.int b,.int c,.sl (d.so.map ag),.sl (d.op.map OpM.row),.sl (d.ru.map RuM.row),.sl (d.st.map StM.row),.sl (ps.map dm)]):=by
 obtain⟨d,cs,h1,h2,h3,h4,e1⟩:=Pb hl;obtain⟨_,e2,i,h,rfl⟩:=Vf hl;have e3:=r10 d h1.b cs h3 h4 (by omega)
 have hv:=Uc h1.b h3 h4 (by omega)
 generalize veR d cs=V at e3 hv;have hp:∀ p∈V.p,PfB p:=fun p hp=>⟨by have:=(hv.p p hp).1;omega,fun n hn=>((hv.p p hp).2 n hn).b⟩
 obtain⟨_,e4,q,i,h,q0,q1,rfl⟩:=av hl i h (n:=5) (by decide) (by decide)
 obtain⟨_,e5,q5,i5,h5,_,_,rfl⟩:=av hl i h (n:=5) (by decide) (by decide)
 obtain⟨_,e6,q6,i6,h6,_,_,rfl⟩:=av hl i h (n:=16) (by decide) (by decide)
 by_cases c0:q=0
 ·refine⟨d,cs,q5,V.c,V.n,V.p,h1,h2,h3,h4,hv.l,hp,?_⟩
  rw[e14_0_0];simp only[e1,e2,e3,e4,e5,nv0,nvS,dvI,dvB,dvS,dvL,B5,H7 c0,H1]
 by_cases c1:q=1
 ·refine⟨d,cs,V.k,V.c,q6,V.p,h1,h2,h3,h4,hv.l,hp,?_⟩
  rw[e14_0_0];simp only[e1,e2,e3,e4,e6,nv0,nvS,dvI,dvB,dvS,dvL,B5,H8 c0,H7 c1,H1,H2]
 ·refine⟨d,cs,V.k,V.c,V.n,V.p,h1,h2,h3,h4,hv.l,hp,?_⟩
  rw[e14_0_0];simp only[e1,e2,e3,e4,nv0,nvS,dvI,dvB,dvS,dvL,B5,H8 c0,H8 c1,H2]
theorem af7(l:List Int)(hl:l.length<=1048576):rn ⟨88,0,0⟩ [.sl (l.map am),.sl (l.map am)]=some (0,[.bool true]):=by
 have h:=Ks (F:=fun i=>rn ⟨88,0,1⟩ [.sl (l.map am),.sl (l.map am),.int (l.length:Int),.int (i:Int)]) (n:=l.length) (A:=some (0,[])) (fun i hlt=>by
  rw[e88_0_1];simp only[B6,C1,hlt,H3,H1,aq,B7,ab hlt,ae hlt (ba (by omega)),nv0,nvS,dvI,dvB,dvS,dvL,B5,am,D0,H2]) (by
  rw[e88_0_1];simp only[B6,C1,D3,H4,H2,C6])
 simp only[C3] at h;rw[e88_0_0];simp only[B6,H3,D0,H2,h,nv0,nvS,dvI,dvB,dvS,dvL,B5,D5,H1,H2]
theorem af8(s:ByteArray)(t:Tm)(ht:au t):rn ⟨90,0,0⟩ [.str s,.int t.k,.int t.n,.str t.s,.sl (t.as.map Tm.row),.str s,.int t.k,.int t.n,.str t.s,.sl (t.as.map Tm.row)]=some (0,[.bool true]):=by
 have h:=r129 t t ht;rw[Iu] at h;rw[e90_0_0];simp only[H3,H1,h,nv0,nvS,dvI,dvB,dvS,dvL,B5]
theorem ai1(l:List Bnd)(hl:l.length<=1048576)(hb:∀ b∈l,au b.2):rn ⟨89,0,0⟩ [.sl (l.map Bnd.row),.sl (l.map Bnd.row)]=some (0,[.bool true]):=by
 have h:=Ks (F:=fun i=>rn ⟨89,0,1⟩ [.sl (l.map Bnd.row),.sl (l.map Bnd.row),.int (l.length:Int),.int (i:Int)]) (n:=l.length) (A:=some (0,[])) (fun i hlt=>by
  have hx:=C0 hlt;have e:=af8 l[i].1 l[i].2 (hb _ hx);rw[e89_0_1];simp only[B6,C1,hlt,H3,H1,aq,B7,ab hlt,ae hlt (ba (by omega)),nv0,nvS,dvI,dvB,dvS,dvL,B5,gq,e,D0,H2]) (by
  rw[e89_0_1];simp only[B6,C1,D3,H4,H2,C6])
 simp only[C3] at h;rw[e89_0_0];simp only[B6,H3,D0,H2,h,nv0,nvS,dvI,dvB,dvS,dvL,B5,D5,H1,H2]
theorem ai2(n:PnM)(h:PnB n):rn ⟨52,0,0⟩ [.int n.k,.sl (n.nx.map am),.int n.c,.sl (n.s.map Bnd.row),.int n.k,.sl (n.nx.map am),.int n.c,.sl (n.s.map Bnd.row)]=some (0,[.bool true]):=by
 rw[e52_0_0];simp only[H3,H1,af7 n.nx h.nx,ai1 n.s h.s h.b,nv0,nvS,dvI,dvB,dvS,dvL,B5]
theorem ai3(l:List PnM)(hl:l.length<=1048576)(hb:∀ n∈l,PnB n):rn ⟨51,0,0⟩ [.sl (l.map PnM.row),.sl (l.map PnM.row)]=some (0,[.bool true]):=by
 have h:=Ks (F:=fun i=>rn ⟨51,0,1⟩ [.sl (l.map PnM.row),.sl (l.map PnM.row),.int (l.length:Int),.int (i:Int)]) (n:=l.length) (A:=some (0,[])) (fun i hlt=>by
  have hx:=C0 hlt;have e:=ai2 l[i] (hb _ hx);rw[e51_0_1];simp only[B6,C1,hlt,H3,H1,aq,B7,ab hlt,ae hlt (ba (by omega)),nv0,nvS,dvI,dvB,dvS,dvL,B5,PnM.row,e,D0,H2]) (by
  rw[e51_0_1];simp only[B6,C1,D3,H4,H2,C6])
 simp only[C3] at h;rw[e51_0_0];simp only[B6,H3,D0,H2,h,nv0,nvS,dvI,dvB,dvS,dvL,B5,D5,H1,H2]
theorem ai4(l:List PnM)(hl:l.length<=1048576)(hb:∀ n∈l,PnB n):rn ⟨23,0,0⟩ [.sl (l.map PnM.row),.sl (l.map PnM.row)]=some (0,[.bool true]):=by
 rw[e23_0_0];simp only[ai3 l hl hb,nv0,nvS,dvI,dvB,dvS,dvL,B5]
theorem ai5(l:List (List PnM))(hl:l.length<=1048576)(hb:∀ p∈l,PfB p):rn ⟨33,0,0⟩ [.sl (l.map dm),.sl (l.map dm)]=some (0,[.bool true]):=by
 have h:=Ks (F:=fun i=>rn ⟨33,0,1⟩ [.sl (l.map dm),.sl (l.map dm),.int (l.length:Int),.int (i:Int)]) (n:=l.length) (A:=some (0,[])) (fun i hlt=>by
  have hx:=C0 hlt;have e:=ai4 l[i] (hb _ hx).l (hb _ hx).b;rw[e33_0_1];simp only[B6,C1,hlt,H3,H1,aq,B7,ab hlt,ae hlt (ba (by omega)),nv0,nvS,dvI,dvB,dvS,dvL,B5,dm,e,D0,H2]) (by
  rw[e33_0_1];simp only[B6,C1,D3,H4,H2,C6])
 simp only[C3] at h;rw[e33_0_0];simp only[B6,H3,D0,H2,h,nv0,nvS,dvI,dvB,dvS,dvL,B5,D5,H1,H2]
theorem ai6(a b c:Int)(l:List (List PnM))(hl:l.length<=1048576)(hb:∀ p∈l,PfB p):rn ⟨9,0,0⟩ [.int a,.sl (l.map dm),.int b,.int c,.int a,.sl (l.map dm),.int b,.int c]=some (0,[.bool true]):=by
 rw[e9_0_0];simp only[H3,H1,ai5 l hl hb,nv0,nvS,dvI,dvB,dvS,dvL,B5]
end Go.Q.S
end
section
namespace Go.Proofs
open Go.Shelf
def Tryz.lays190_ren:Go.Shelf.Ren:=⟨fun |190=>249 |125=>265 |258=>264 |128=>283 |129=>284 |302=>274 |303=>275 |304=>276 |305=>277 |306=>278 |307=>279 |308=>280 |309=>281 |310=>282 |333=>287 |329=>288 |330=>289 |334=>290 |335=>291 |336=>292 |344=>294 |n=>n,fun |31=>24 |9=>9 |3=>3 |46=>173 |0=>0 |51=>286 |53=>288 |4=>4 |183=>279 |182=>278 |131=>41 |5=>5 |218=>293 |222=>297 |228=>300 |229=>301 |n=>n,fun |n=>n⟩
theorem Tryz.lays190:Go.Proofs.Lays.n190 Tryz.prog Tryz.lays190_ren:={
 mixed:=by kernel_rfl
 f125:=Tryz.func265.trans (congrArg some (by kernel_rfl))
 f128:=Tryz.func283.trans (congrArg some (by kernel_rfl))
 f129:=Tryz.func284.trans (congrArg some (by kernel_rfl))
 f190:=Tryz.func249.trans (congrArg some (by kernel_rfl))
 f258:=Tryz.func264.trans (congrArg some (by kernel_rfl))
 f302:=Tryz.func274.trans (congrArg some (by kernel_rfl))
 f303:=Tryz.func275.trans (congrArg some (by kernel_rfl))
 f304:=Tryz.func276.trans (congrArg some (by kernel_rfl))
 f305:=Tryz.func277.trans (congrArg some (by kernel_rfl))
 f306:=Tryz.func278.trans (congrArg some (by kernel_rfl))
 f307:=Tryz.func279.trans (congrArg some (by kernel_rfl))
 f308:=Tryz.func280.trans (congrArg some (by kernel_rfl))
 f309:=Tryz.func281.trans (congrArg some (by kernel_rfl))
 f310:=Tryz.func282.trans (congrArg some (by kernel_rfl))
 f329:=Tryz.func288.trans (congrArg some (by kernel_rfl))
 f330:=Tryz.func289.trans (congrArg some (by kernel_rfl))
 f333:=Tryz.func287.trans (congrArg some (by kernel_rfl))
 f334:=Tryz.func290.trans (congrArg some (by kernel_rfl))
 f335:=Tryz.func291.trans (congrArg some (by kernel_rfl))
 f336:=Tryz.func292.trans (congrArg some (by kernel_rfl))
 f344:=Tryz.func294.trans (congrArg some (by kernel_rfl))
 t0:=Tryz.underlying0
 a0:=Tryz.isAgg0
 z0:=Tryz.sizeOf0
 v0:=Tryz.zeroValue0
 t3:=Tryz.underlying3
 a3:=Tryz.isAgg3
 z3:=Tryz.sizeOf3
 v3:=Tryz.zeroValue3
 t4:=Tryz.underlying4
 a4:=Tryz.isAgg4
 z4:=Tryz.sizeOf4
 v4:=Tryz.zeroValue4
 t5:=Tryz.underlying5
 a5:=Tryz.isAgg5
 z5:=Tryz.sizeOf5
 v5:=Tryz.zeroValue5
 t9:=Tryz.underlying9
 a9:=Tryz.isAgg9
 z9:=Tryz.sizeOf9
 v9:=Tryz.zeroValue9
 t31:=Tryz.underlying24
 a31:=Tryz.isAgg24
 z31:=Tryz.sizeOf24
 v31:=Tryz.zeroValue24
 t46:=Tryz.underlying173
 a46:=Tryz.isAgg173
 z46:=Tryz.sizeOf173
 v46:=Tryz.zeroValue173
 t51:=Tryz.underlying286
 a51:=Tryz.isAgg286
 z51:=Tryz.sizeOf286
 v51:=Tryz.zeroValue286
 t53:=Tryz.underlying288
 a53:=Tryz.isAgg288
 z53:=Tryz.sizeOf288
 v53:=Tryz.zeroValue288
 t131:=Tryz.underlying41
 a131:=Tryz.isAgg41
 z131:=Tryz.sizeOf41
 v131:=Tryz.zeroValue41
 t182:=Tryz.underlying278
 a182:=Tryz.isAgg278
 z182:=Tryz.sizeOf278
 v182:=Tryz.zeroValue278
 t183:=Tryz.underlying279
 a183:=Tryz.isAgg279
 z183:=Tryz.sizeOf279
 v183:=Tryz.zeroValue279
 t218:=Tryz.underlying293
 a218:=Tryz.isAgg293
 z218:=Tryz.sizeOf293
 v218:=Tryz.zeroValue293
 t222:=Tryz.underlying297
 a222:=Tryz.isAgg297
 z222:=Tryz.sizeOf297
 v222:=Tryz.zeroValue297
 t228:=Tryz.underlying300
 a228:=Tryz.isAgg300
 z228:=Tryz.sizeOf300
 v228:=Tryz.zeroValue300
 t229:=Tryz.underlying301
 a229:=Tryz.isAgg301
 z229:=Tryz.sizeOf301
 v229:=Tryz.zeroValue301 }
def Tryz.lays194_ren:Go.Shelf.Ren:=⟨fun |194=>250 |n=>n,fun |31=>24 |9=>9 |3=>3 |4=>4 |0=>0 |n=>n,fun |n=>n⟩
theorem Tryz.lays194:Go.Proofs.Lays.n194 Tryz.prog Tryz.lays194_ren:={
 mixed:=by kernel_rfl
 f194:=Tryz.func250.trans (congrArg some (by kernel_rfl))
 t0:=Tryz.underlying0
 a0:=Tryz.isAgg0
 z0:=Tryz.sizeOf0
 v0:=Tryz.zeroValue0
 t3:=Tryz.underlying3
 a3:=Tryz.isAgg3
 z3:=Tryz.sizeOf3
 v3:=Tryz.zeroValue3
 t4:=Tryz.underlying4
 a4:=Tryz.isAgg4
 z4:=Tryz.sizeOf4
 v4:=Tryz.zeroValue4
 t9:=Tryz.underlying9
 a9:=Tryz.isAgg9
 z9:=Tryz.sizeOf9
 v9:=Tryz.zeroValue9
 t31:=Tryz.underlying24
 a31:=Tryz.isAgg24
 z31:=Tryz.sizeOf24
 v31:=Tryz.zeroValue24 }
end Go.Proofs
namespace Go.Q.S
open Go Go.Q Go.Proofs
theorem Hm:∀ {l:List (Nat×Nat×KI)} {v n:Nat} {i:KI},kiF l v n=some i->∃ a b,(a,b,i)∈l
 | [],v,n,i,h=>by simp[kiF] at h
 |(a,b,x)::r,v,n,i,h=>by
  unfold kiF at h;cases hb:F4 a v&&F4 b n with
  |true=>rw[hb] at h;simp only[H1,C9.injEq] at h;exact⟨a,b,by rw[h];exact List.mem_cons_self ..⟩
  |false =>
   rw[hb] at h;obtain⟨a',b',h'⟩:=Hm h;exact⟨a',b',List.mem_cons_of_mem _ h'⟩
theorem af9:∀ f g,H.ext f=some g->∀ v ls x,g v ls=some x->FnT Tryz.prog H ⟨f,v,0⟩ ls x:=fun f g h v ls x hx=>by
 have h:aw af0 f=some g:=h;simp only[af0,aw] at h;cases h1:F4 249 f with
 |true =>
  rw[h1] at h;simp only[H1,C9.injEq] at h;subst h;obtain rfl:=cc.1 h1;refine Sq Go.Proofs.Tryz.lays190 rfl (E:=9) (fl:=[]) rfl Tryz.func249 (fun he=>by cases he) (of_decide_eq_false (by kernel_rfl)) (fun i hi=>?_) hx
  obtain⟨a,b,hm⟩:=Hm (l:=[(0,0,⟨[(0,.hd 0)],[(0,.arr 9 .deep)],[⟨.ret,[],[(0,.arr 9 .deep)]⟩]⟩)]) hi;simp only[E1,N2,or_false,Prod.mk.injEq] at hm;exact hm.2.2
 |false =>
 rw[h1] at h;simp only[H2] at h;cases h1:F4 250 f with
 |true =>
  rw[h1] at h;simp only[H1,C9.injEq] at h;subst h;obtain rfl:=cc.1 h1;refine Sr Go.Proofs.Tryz.lays194 rfl (E:=9) (fl:=[]) rfl Tryz.func250 (fun he=>by cases he) (of_decide_eq_false (by kernel_rfl)) (fun i hi=>?_) hx
  obtain⟨a,b,hm⟩:=Hm (l:=[(0,0,⟨[(0,.hd 0)],[(0,.arr 9 .deep)],[⟨.ret,[(0,.hd 16)],[(16,.arr 9 .deep)]⟩]⟩)]) hi;simp only[E1,N2,or_false,Prod.mk.injEq] at hm;exact hm.2.2
 |false =>
 rw[h1] at h;simp only[H2] at h;simp at h
theorem ai7:Xy Tryz.prog H where
 ty:=Ya (l:=tyL) (fun _=>rfl) (by kernel_rfl)
 eq:=Yb (l:=eqL) (fun _=>rfl) (by kernel_rfl)
 mixed:=Tryz.checked.mixed
 names:=Sp (by kernel_rfl)
 ext:=af9
end Go.Q.S
end
