/- The functions of this seat, as that machine runs them, part 2. -/
import Derived.Test.YtnjedojmdcpcaaaGreatPA
import Derived.Test.YtnjedojmdcpcaaaGreatMA
import Derived.Test.YtnjedojmdcpcaaaGreatQD
import Derived.Test.YtnjedojmdcpcaaaGreatssX2
import Derived.Test.YtnjedojmdcpcaaaGreatChecked
set_option linter.unusedVariables false
set_option linter.unusedSimpArgs false
open Bool renaming not_true->D9,not_false->N1,and_self->N8
open Int renaming toNat_natCast->B9,ofNat_lt->C3,natCast_zero->C4,natCast_one->N7,tmod->Q7
open List renaming length_map->B6,getD_cons_zero->B7,getD_cons_succ->B8,getElem_mem->C0,drop_eq_getElem_cons->C2,map_cons->C7,length_cons->C8,drop_length->C9,nil_append->D0,drop_zero->D1,cons_append->D4,length_nil->D6,mem_cons->D8,map_nil->E0,append_assoc->E1,map_append->E6,getElem?_eq_getElem->E7,length_append->F2,append_nil->J4,cons->J5,sum_cons->J9,getElem?_eq_none->P2,findIdx?_nil->T5
open Nat renaming lt_irrefl->D5,beq_refl->D7,beq->E3,zero_add->E8,ble_eq_true_of_le->E9,lt_succ_self->F9,le_refl->G5,ble->G9,blt->K1,zero_le->K4,not_lt_zero->P9
open Option renaming bind_some->B5,some->D3,isSome_some->Q6
section
namespace Go.Q.S
open Go Go.Q Go.Proofs
theorem atI (t:Tm) (p:List Int) (hp:p.length<=1048576):rn ⟨260,0,0⟩ [.int t.k,.int t.n,.str t.s,.sl (t.as.map Tm.row),.sl (p.map iRow)]=some (0,[.int (atO t p).k,.int (atO t p).n,.str (atO t p).s,.sl ((atO t p).as.map Tm.row),.bool (atT t p).isSome]):=by
 have key:∀ n i (t:Tm),i+n=p.length->rn ⟨260,0,1⟩ [.sl (p.map iRow),.int (p.length:Int),.int (i:Int),.int t.k,.int t.n,.str t.s,.sl (t.as.map Tm.row),.int 0,.int 0,.str e0,.sl []]=match atT t (p.drop i) with
  | some u=>some (0,[.int u.k,.int u.n,.str u.s,.sl (u.as.map Tm.row),.int 0,.int 0,.str e0,.sl []])
  | none=>some (1,[.int 0,.int 0,.str e0,.sl []]):=by
  intro n;induction n with
  | zero =>
   intro i t hi;obtain rfl:i=p.length:=by omega
   rw [e260_0_1];simp only [B6,C3,D5,H4,H2,C9,atT]
  | succ n ih =>
   intro i t hi;have hlt:i<p.length:=by omega
   rw [e260_0_1,C2 hlt];generalize hj:p[i]=j;by_cases h0:j<0
   · have e:atT t (j::p.drop (i+1))=none:=by
      simp only [atT];split
      · rw [H6 (by omega)]
      · rfl
     rw [e];simp only [B6,C3,hlt,H3,H1,inbN,B9,rowAt_map hlt,wrap_succ hlt (maxB (by omega)),hj,iRow,nv0,nvS,dvI,dvB,dvS,dvL,B5,h0]
   · obtain ⟨m,rfl⟩:∃ m:Nat,j=(m:Int):=⟨j.toNat,by omega⟩
     by_cases hm:m<t.as.length
     · have h2:=ih (i+1) t.as[m] (by omega)
       have e:atT t ((m:Int)::p.drop (i+1))=atT t.as[m] (p.drop (i+1)):=by
        simp only [atT,B9,dif_pos hm];rw [H5 (by omega)]
       have q2:¬((t.as.length:Int)<=(m:Int)):=by omega
       rw [e,<- h2];simp only [B6,C3,hlt,H3,H1,inbN,B9,rowAt_map hlt,wrap_succ hlt (maxB (by omega)),hm,hj,h0,q2,H4,H2,rowAt_map hm,Tm.row_eq,iRow,nv0,nvS,dvI,dvB,dvS,dvL,B5]
     · have e:atT t ((m:Int)::p.drop (i+1))=none:=by simp only [atT,B9,dif_neg hm]
       have q2:(t.as.length:Int)<=(m:Int):=by omega
       rw [e];simp only [B6,C3,hlt,H3,H1,inbN,B9,rowAt_map hlt,wrap_succ hlt (maxB (by omega)),hj,h0,q2,H4,H2,iRow,nv0,nvS,dvI,dvB,dvS,dvL,B5]
 have h1:=key p.length 0 t (by omega)
 simp only [C4,D1] at h1;rw [e260_0_0];simp only [B6,h1];unfold atO;cases atT t p <;> rfl
theorem atS (t:Tm) (hn:t.nodes<=1048577) (p:List Int) (hp:p.length<=1048576):rn ⟨270,0,0⟩ [.int t.k,.int t.n,.str t.s,.sl (t.as.map Tm.row),.sl (p.map iRow)]=some (0,[.int (atO t p).k,.int (atO t p).n,.str (atO t p).s,.bool (atT t p).isSome,.sl ((atO t p).as.map Tm.row)]):=by
 have key:∀ n i (t:Tm),i+n=p.length->t.nodes<=1048577->rn ⟨270,0,1⟩ [.sl (p.map iRow),.int (i:Int),.int t.k,.int t.n,.str t.s,.sl (t.as.map Tm.row),.int 0,.int 0,.str e0,.sl []]=match atT t (p.drop i) with
  | some u=>some (0,[.int u.k,.int u.n,.str u.s,.sl (u.as.map Tm.row),.int 0,.int 0,.str e0,.sl []])
  | none=>some (1,[.int 0,.int 0,.str e0,.sl []]):=by
  intro n;induction n with
  | zero =>
   intro i t hi _;obtain rfl:i=p.length:=by omega
   rw [e270_0_1];simp only [B6,C3,D5,H4,H2,C9,atT]
  | succ n ih =>
   intro i t hi hn;have hlt:i<p.length:=by omega
   have hls:=len_sum (xs:=t.as);have hnd:=Tm.nodes_eq t;have hw:IntKind.i64.wrap ((t.as.length:Int)-1)=(t.as.length:Int)-1:=IntWalk.i64_in _ (by omega)
   rw [e270_0_1,C2 hlt];generalize hj:p[i]=j;by_cases h0:0<=j
   · obtain ⟨m,rfl⟩:∃ m:Nat,j=(m:Int):=⟨j.toNat,by omega⟩
     by_cases hm:m<t.as.length
     · have hmn:=mem_sum (f:=Tm.nodes) (C0 hm)
       have h2:=ih (i+1) t.as[m] (by omega) (by omega)
       have e:atT t ((m:Int)::p.drop (i+1))=atT t.as[m] (p.drop (i+1)):=by
        simp only [atT,B9,dif_pos hm];rw [H5 (by omega)]
       have q2:(m:Int)<=(t.as.length:Int)-1:=by omega
       rw [e,<- h2];simp only [B6,C3,hlt,H3,H1,inbN,B9,rowAt_map hlt,wrap_succ hlt (maxB (by omega)),hm,hj,hw,rIn,h0,q2,Bool.and_true,D9,H2,rowAt_map hm,Tm.row_eq,iRow,nv0,nvS,dvI,dvB,dvS,dvL,B5]
     · have e:atT t ((m:Int)::p.drop (i+1))=none:=by simp only [atT,B9,dif_neg hm]
       have q2:¬(m:Int)<=(t.as.length:Int)-1:=by omega
       rw [e];simp only [B6,C3,hlt,H3,H1,inbN,B9,rowAt_map hlt,wrap_succ hlt (maxB (by omega)),hj,hw,rIn,h0,q2,H4,Bool.and_false,N1,iRow,nv0,nvS,dvI,dvB,dvS,dvL,B5]
   · have e:atT t (j::p.drop (i+1))=none:=by
      simp only [atT];split <;> simp [h0]
     rw [e];simp only [B6,C3,hlt,H3,H1,inbN,B9,rowAt_map hlt,wrap_succ hlt (maxB (by omega)),hj,hw,rIn,h0,H4,Bool.false_and,N1,iRow,nv0,nvS,dvI,dvB,dvS,dvL,B5]
 have h1:=key p.length 0 t (by omega) hn
 simp only [C4,D1] at h1;rw [e270_0_0,h1];unfold atO;cases ha:atT t p with
 | none=>rfl
 | some u =>
  have hun:=atT_nodes p t u ha;have h3:=r188 u (small_of u (by omega))
  simp only [nv0,nvS,dvI,dvB,dvS,dvL,B5,D7,H1,H2,h3,Option.getD_some,Q6]
theorem posI:∀ t:Tm,∀ p:List Int,p.length+t.nodes<=1048576->rn ⟨316,0,0⟩ [.int t.k,.int t.n,.str t.s,.sl (t.as.map Tm.row),.sl (p.map iRow)]=some (0,[.sl ((posT t p).map pRow)]):=Tm.ind fun t ih p hp=>by
 have hnd:=Tm.nodes_eq t;have hls:=len_sum (xs:=t.as);have hlp:∀ n i (acc:List (List Int)),i+n=t.as.length->acc.length+((t.as.drop i).map Tm.nodes).sum<=1048576->rn ⟨316,0,1⟩ [.sl (p.map iRow),.sl (t.as.map Tm.row),.int (t.as.length:Int),.int (i:Int),.sl (acc.map pRow)]=some (0,[.sl ((acc++posL (t.as.drop i) p i).map pRow)]):=by
  intro n;induction n with
  | zero =>
   intro i acc hi _;obtain rfl:i=t.as.length:=by omega
   rw [e316_0_1];simp only [B6,C3,D5,H4,H2,C9,posL,J4]
  | succ n ih2 =>
   intro i acc hi hb;have hlt:i<t.as.length:=by omega
   have hm:=C0 hlt;have hmn:=mem_sum (f:=Tm.nodes) hm;have h1:=ih _ hm (p++[(i:Int)]) (by simp; omega)
   have h2:=rCloneI (p.map iRow) (by rw [B6]; omega)
   have hl:=posT_len t.as[i] (p++[(i:Int)]);rw [C2 hlt,C7,J9] at hb;have h3:=ih2 (i+1) (acc++posT t.as[i] (p++[(i:Int)])) (by omega) (by rw [F2,hl]; omega)
   have b1:G9 (p.length+1) M63=true:=nb (by omega)
   have b2:G9 (acc.length+t.as[i].nodes) M63=true:=nb (by omega)
   rw [posL_drop hlt,<- E1,<- h3];simp only [E6,C7,E0,iRow] at h1 h2 ⊢;rw [e316_0_1];simp only [B6,C3,hlt,H3,H1,inbN,B9,rowAt_map hlt,wrap_succ hlt (maxB (by omega)),Tm.row_eq,nv0,nvS,dvI,dvB,dvS,dvL,B5,h2,C8,D6,E8,b1,h1,hl,b2]
 have h1:=hlp t.as.length 0 [p] (by omega) (by simp only [D1,C8,D6]; omega)
 simp only [C4,D1,C7,E0,D4,D0] at h1;rw [e316_0_0,posT_eq];simp only [pRow] at h1 ⊢;simp only [B6,h1,nv0,nvS,dvI,dvB,dvS,dvL,B5,D7,H1,H2,C7];rfl
theorem r261 (t:Tm) (h:t.nodes<=1048576):rn ⟨261,0,0⟩ [.int t.k,.int t.n,.str t.s,.sl (t.as.map Tm.row)]=some (0,[.sl ((posT t []).map pRow)]):=by
 have h1:=posI t [] (by simpa using h)
 rw [E0] at h1;rw [e261_0_0];simp only [h1,nv0,nvS,dvI,dvB,dvS,dvL,B5]
theorem posS:∀ t:Tm,∀ (p:List Int) (acc:List (List Int)),p.length+t.nodes<=1048576->acc.length+t.nodes<=1048576->rn ⟨346,1,0⟩ [.int t.k,.int t.n,.str t.s,.sl (t.as.map Tm.row),.sl (p.map iRow),.sl (acc.map pRow)]=some (0,[.sl ((acc++posT t p).map pRow)]):=Tm.ind fun t ih p acc hp ha=>by
 have hnd:=Tm.nodes_eq t;have hls:=len_sum (xs:=t.as);have hlp:∀ n i (acc:List (List Int)),i+n=t.as.length->acc.length+((t.as.drop i).map Tm.nodes).sum<=1048576->rn ⟨346,1,1⟩ [.sl (p.map iRow),.int (i:Int),.sl (acc.map pRow),.int t.k,.int t.n,.str t.s,.sl (t.as.map Tm.row)]=some (0,[.sl ((acc++posL (t.as.drop i) p i).map pRow)]):=by
  intro n;induction n with
  | zero =>
   intro i acc hi _;obtain rfl:i=t.as.length:=by omega
   rw [e346_1_1];simp only [B6,C3,D5,H4,H2,C9,posL,J4]
  | succ n ih2 =>
   intro i acc hi hb;have hlt:i<t.as.length:=by omega
   have hm:=C0 hlt;have hmn:=mem_sum (f:=Tm.nodes) hm;have hl:=posT_len t.as[i] (p++[(i:Int)]);rw [C2 hlt,C7,J9] at hb;have h1:=ih _ hm (p++[(i:Int)]) acc (by simp; omega) (by omega)
   have h3:=ih2 (i+1) (acc++posT t.as[i] (p++[(i:Int)])) (by omega) (by rw [F2,hl]; omega)
   have b0:G9 (0+p.length) M63=true:=nb (by omega)
   have b1:G9 (p.length+1) M63=true:=nb (by omega)
   rw [posL_drop hlt,<- E1,<- h3];simp only [E6,C7,E0,iRow] at h1 ⊢;rw [e346_1_1];simp only [B6,C3,hlt,H3,H1,inbN,B9,rowAt_map hlt,wrap_succ hlt (maxB (by omega)),Tm.row_eq,nv0,nvS,dvI,dvB,dvS,dvL,B5,C8,D6,E8,b1,b0,D0,h1,show G9 p.length M63=true from by simpa using b0]
 have h1:=hlp t.as.length 0 (acc++[p]) (by omega) (by simp only [D1,F2,C8,D6]; omega)
 have b0:G9 p.length M63=true:=by simpa using nb (n:=p.length) (m:=0) (by omega)
 have b1:G9 (acc.length+1) M63=true:=nb (by omega)
 simp only [C4,D1,E6,C7,E0] at h1;rw [e346_1_0,posT_eq];simp only [pRow] at h1 ⊢;simp only [B6,C8,D6,E8,D0,b0,b1,H1,h1,nv0,nvS,dvI,dvB,dvS,dvL,B5,D7,H1,H2,E6,C7,E1,D4];rfl
theorem r319 (t:Tm) (h:t.nodes<=1048576):rn ⟨319,0,0⟩ [.int t.k,.int t.n,.str t.s,.sl (t.as.map Tm.row)]=some (0,[.sl ((posT t []).map pRow)]):=by
 have h1:=posS t [] [] (by simpa using h) (by simpa using h)
 rw [E0,E0] at h1;rw [e319_0_0];simp only [h1,nv0,nvS,dvI,dvB,dvS,dvL,B5,D0]
theorem eqLoopI {F:Nat->R} {a b:List Int} (hlen:a.length=b.length) {A B:R} (hs:∀ i (hi:i<a.length),F i=bif decide (a[i]=b[i]'(by omega)) then F (i+1) else B) (he:F a.length=A):F 0=bif decide (a=b) then A else B:=by
 have key:∀ n i,i+n=a.length->F i=bif decide (a.drop i=b.drop i) then A else B:=by
  intro n;induction n with
  | zero =>
   intro i hi;obtain rfl:i=a.length:=by omega
   rw [he,C9,List.drop_eq_nil_of_le (by omega)]; rfl
  | succ n ih =>
   intro i hi;have hlt:i<a.length:=by omega
   rw [hs i hlt,ih (i+1) (by omega),C2 hlt,C2 (show i<b.length by omega)]
   by_cases h1:a[i]=b[i]'(by omega)
   · simp only [h1,J5.injEq,true_and,H3,H1]
   · simp only [h1,J5.injEq,false_and,H4,H2]
 simpa using key a.length 0 (by omega)
theorem rEqualI (a b:List Int) (ha:a.length<=1048576):rn ⟨257,0,0⟩ [.sl (a.map iRow),.sl (b.map iRow)]=some (0,[.bool (decide (a=b))]):=by
 rw [e257_0_0];simp only [B6];by_cases hlen:a.length=b.length
 · have hf:=eqLoopI (F:=fun i=>rn ⟨257,0,1⟩ [.sl (a.map iRow),.sl (b.map iRow),.int (a.length:Int),.int (i:Int)]) hlen (A:=some (0,[])) (B:=some (1,[])) (fun i hi=>by
    have hi':i<b.length:=by omega
    rw [e257_0_1];simp only [B6,C3,hi,H3,H1,inbN,B9,rowAt_map hi,wrap_succ hi (maxB (by omega)),hi',rowAt_map hi',iRow,nv0,nvS,dvI,dvB,dvS,dvL,B5]
    by_cases h1:a[i]=b[i] <;> simp [h1]) (by
    rw [e257_0_1];simp only [B6,C3,D5,H4,H2,C9])
   simp only [C4] at hf;have e:((a.length:Int)=(b.length:Int)):=by omega
   simp only [e,H3,D9,H2];rw [<- e,hf];cases decide (a=b) <;> rfl
 · have e:¬((a.length:Int)=(b.length:Int)):=by omega
   have:¬ a=b:=fun h=>hlen (by rw [h])
   simp [e,this]
theorem r173 (r r':Int) (a b:List Int) (ha:a.length<=1048576):rn ⟨173,0,0⟩ [.int r,.sl (a.map iRow),.int r',.sl (b.map iRow)]=some (0,[.bool (decide (r=r')&&decide (a=b))]):=by
 have h1:=rEqualI a b ha;rw [e173_0_0];by_cases e:r=r'
 · simp only [e,H3,H1,h1,nv0,nvS,dvI,dvB,dvS,dvL,B5,Bool.true_and]
 · simp only [e,H4,H2,Bool.false_and]
theorem r187 (a b:List Int) (ha:a.length<=1048576):rn ⟨187,0,0⟩ [.sl (a.map iRow),.sl (b.map iRow)]=some (0,[.bool (decide (a=b))]):=by
 rw [e187_0_0];simp only [B6];by_cases hlen:a.length=b.length
 · have hf:=eqLoopI (F:=fun i=>rn ⟨187,0,1⟩ [.sl (a.map iRow),.sl (b.map iRow),.int (i:Int)]) hlen (A:=some (0,[])) (B:=some (1,[])) (fun i hi=>by
    have hi':i<b.length:=by omega
    rw [e187_0_1];simp only [B6,C3,hi,H3,H1,inbN,B9,rowAt_map hi,wrap_succ hi (maxB (by omega)),hi',rowAt_map hi',iRow,nv0,nvS,dvI,dvB,dvS,dvL,B5]
    by_cases h1:a[i]=b[i] <;> simp [h1]) (by
    rw [e187_0_1];simp only [B6,C3,D5,H4,H2,C9])
   simp only [C4] at hf;have e:((a.length:Int)=(b.length:Int)):=by omega
   simp only [e,H3,D9,H2];rw [hf];cases decide (a=b) <;> rfl
 · have e:¬((a.length:Int)=(b.length:Int)):=by omega
   have:¬ a=b:=fun h=>hlen (by rw [h])
   simp [e,this]
end Go.Q.S
end
section
namespace Go.Q.S
open Go Go.Q Go.Proofs
theorem b63 {n:Nat} (h:n<=4194304):G9 (n+1) M63=true:=nb (by omega)
theorem carLoopI (l u r t:Tm) (hl:l.nodes<=60) (xr:Int) (xat gs:Rows) (nm:ByteArray) (ps:List (List Int)) (hps:ps.length<=60) (hpl:∀ p∈ps,p.length<=1048576):∀ n i (acc:List Bnd),i+n=ps.length->acc.length<=i →
 rn ⟨175,0,1⟩ [.int (ps.length:Int),.int (i:Int),.int t.k,.int t.n,.str t.s,.sl (t.as.map Tm.row),.int xr,.sl xat,.int 0,.int 0,.str e0,.str nm,.int l.k,.int l.n,.str l.s,.sl (l.as.map Tm.row),.int r.k,.int r.n,.str r.s,.sl (r.as.map Tm.row),.sl gs,.int u.k,.int u.n,.str u.s,.sl (u.as.map Tm.row),.sl (acc.map Bnd.row),.sl (ps.map pRow),.sl []]=some (0,[.int t.k,.int t.n,.str t.s,.sl (t.as.map Tm.row),.int xr,.sl xat,.int 0,.int 0,.str e0,.str nm,.int l.k,.int l.n,.str l.s,.sl (l.as.map Tm.row),.int r.k,.int r.n,.str r.s,.sl (r.as.map Tm.row),.sl gs,.sl ((acc++(ps.drop i).filterMap (cB1 l u)).map Bnd.row),.sl []]):=by
 intro n;induction n with
 | zero =>
  intro i acc hi _;obtain rfl:i=ps.length:=by omega
  rw [e175_0_1];simp only [B6,C3,D5,H4,H2,C9,List.filterMap_nil,J4]
 | succ n ih =>
  intro i acc hi ha;have hlt:i<ps.length:=by omega
  have hp:=hpl _ (C0 hlt);have h1:=atI l ps[i] hp;have h2:=atI u ps[i] hp;have b1:G9 (acc.length+1) M63=true:=b63 (by omega)
  rw [C2 hlt,List.filterMap_cons,e175_0_1];simp only [B6,C3,hlt,H3,H1,inbN,B9,rowAt_map hlt,wrap_succ hlt (maxB (by omega)),pRow,nv0,nvS,dvI,dvB,dvS,dvL,B5,h1,h2,C8,D6,E8,b1]
  by_cases hk:(atO l ps[i]).k=1
  · have e:cB1 l u ps[i]=some ((atO l ps[i]).s,atO u ps[i]):=by rw [cB1,H5 hk]
    have h3:=ih (i+1) (acc++[((atO l ps[i]).s,atO u ps[i])]) (by omega) (by simp; omega)
    simp only [E6,C7,E0,bd_row,E1,D4,D0,pRow] at h3;simp only [hk,e,H3,H1,E1,E6,C7,D4,D0,bd_row];exact h3
  · have e:cB1 l u ps[i]=none:=by rw [cB1,H6 hk]
    have h3:=ih (i+1) acc (by omega) (by omega)
    simp only [hk,e,H4,H2];exact h3
theorem carI (d:DfM) (hd:DfG d) (t:Tm) (hw:Wt t) (hn:t.nodes<=60) (i:Nat) (hi:i<d.ru.length) (p:List Int) (hp:p.length<=60) (hat:∃ u,atT t p=some u):rn ⟨175,0,0⟩ [.sl (d.so.map sRow),.sl (d.op.map OpM.row),.sl (d.ru.map RuM.row),.sl (d.st.map StM.row),.int t.k,.int t.n,.str t.s,.sl (t.as.map Tm.row),.int (i:Int),.sl (p.map iRow)]=some (0,[.int (bT d t (some (i,p))).k,.int (bT d t (some (i,p))).n,.str (bT d t (some (i,p))).s,.bool (carT d t (i,p)).valid,.sl ((bT d t (some (i,p))).as.map Tm.row)]):=by
 have hr:=hd.ru (C0 hi);have hln:=valid_nodes hr.lv;have hrn:=valid_nodes hr.rv;obtain ⟨u,hu⟩:=hat;have hpl:=posT_len d.ru[i].l [];have hun:=atO_nodes t p (by decide) hn
 have hbn:∀ b∈carB d.ru[i].l (atO t p),b.2.nodes<=60:=carB_mem (P:=fun t=>t.nodes<=60) fun q=>atO_nodes (atO t p) q (by decide) hun
 have hbs:∀ b∈carB d.ru[i].l (atO t p),Small b.2:=fun b hb=>small_of _ (by have:=hbn b hb; omega)
 have hbl:(carB d.ru[i].l (atO t p)).length<=60:=Nat.le_trans (List.length_filterMap_le ..) (by omega)
 have a1:=aS_nodesM (m:=60) (by decide) hbn d.ru[i].r
 have a2:=rW_nodes (aS (carB d.ru[i].l (atO t p)) d.ru[i].r);have a3:=put_nodes (rW (aS (carB d.ru[i].l (atO t p)) d.ru[i].r)) p t;have a5:t.nodes*(p.length+1)<=60*61:=Nat.mul_le_mul hn (by omega)
 have e2:carT d t (i,p)=rW (putT t p (aS (carB d.ru[i].l (atO t p)) d.ru[i].r)):=by
  simp only [carT,E7 hi]
 obtain ⟨c1,c2⟩:=carT_b hd hw hn (x:=(i,p)) hp;have h1:=atI t p (by omega)
 have h2:=r261 d.ru[i].l (by omega)
 have h3:=carLoopI d.ru[i].l (atO t p) d.ru[i].r t hln (i:Int) (p.map iRow) (d.ru[i].g.map Gu.row) d.ru[i].n (posT d.ru[i].l []) (by omega) (fun q hq=>by have:=posT_mem d.ru[i].l [] q hq; simp at this; omega) _ 0 [] (E8 _) (G5 _)
 rw [hpl] at h3;simp only [D1,D0,C4,E0] at h3;have h4:=r198 _ (by omega) hbs d.ru[i].r (small_of _ (by omega))
 have h5:=r197 (aS (carB d.ru[i].l (atO t p)) d.ru[i].r) (small_of _ (by omega))
 have h6:=r262 (rW (aS (carB d.ru[i].l (atO t p)) d.ru[i].r)) p t u (by omega) (by omega) hu
 have h7:=r197 (putT t p (rW (aS (carB d.ru[i].l (atO t p)) d.ru[i].r))) (small_of _ (by omega))
 rw [rW_put,<- e2] at h7;have h8:=r165 (carT d t (i,p)) (by omega) c1
 unfold carB at h4 h5 h6 h7;rw [e175_0_0];simp only [h1,h2,nv0,nvS,dvI,dvB,dvS,dvL,B5,inbN,B6,hi,H3,H1,B9,rowAt_map hi,RuM.row,hpl,h3,D7,H1,H2,h4,h5,h6,h7,h8];have hb:bT d t (some (i,p))=if (carT d t (i,p)).valid=true then carT d t (i,p) else tm0:=rfl
 rw [hb];cases (carT d t (i,p)).valid <;> rfl
theorem r272 (l u:Tm) (hl:l.nodes<=60) (hu:u.nodes<=60):rn ⟨272,0,0⟩ [.int l.k,.int l.n,.str l.s,.sl (l.as.map Tm.row),.int u.k,.int u.n,.str u.s,.sl (u.as.map Tm.row)]=some (0,[.sl ((carU l u (posT l []) []).map Bnd.row)]):=by
 have hpl:=posT_len l [];have hps:∀ p∈posT l [],p.length<=1048576:=fun q hq=>by have:=posT_mem l [] q hq; simp at this; omega
 have h2:=r319 l (by omega)
 have hlp:∀ n i (acc:List Bnd),i+n=(posT l []).length->acc.length<=i->(∀ b∈acc,Small b.2)->rn ⟨272,0,1⟩ [.int (i:Int),.int l.k,.int l.n,.str l.s,.sl (l.as.map Tm.row),.int u.k,.int u.n,.str u.s,.sl (u.as.map Tm.row),.sl (acc.map Bnd.row),.sl ((posT l []).map pRow)]=some (0,[.sl ((carU l u ((posT l []).drop i) acc).map Bnd.row)]):=by
  generalize posT l []=ps at hpl hps ⊢;intro n;induction n with
  | zero =>
   intro i acc hi _ _;obtain rfl:i=ps.length:=by omega
   rw [e272_0_1];simp only [B6,C3,D5,H4,H2,C9,carU]
  | succ n ih =>
   intro i acc hi ha hs;have hlt:i<ps.length:=by omega
   have hp:=hps _ (C0 hlt);have h1:=atS l (by omega) ps[i] hp
   have h2:=atS u (by omega) ps[i] hp
   have b1:G9 (acc.length+1) M63=true:=b63 (by omega)
   have hun:=atO_nodes u ps[i] (by decide) hu
   rw [C2 hlt,e272_0_1];simp only [carU,B6,C3,hlt,H3,H1,inbN,B9,rowAt_map hlt,wrap_succ hlt (maxB (by omega)),pRow,nv0,nvS,dvI,dvB,dvS,dvL,B5,h1,h2,C8,D6,E8,b1]
   have h4:=ih (i+1) acc (by omega) (by omega) hs
   by_cases hk:(atO l ps[i]).k=1
   · have h3:=ih (i+1) (acc++[((atO l ps[i]).s,atO u ps[i])]) (by omega) (by simp; omega) (fun b hb=>by
      rcases List.mem_append.1 hb with hb | hb
      · exact hs b hb
      · simp only [List.mem_singleton] at hb; subst hb; exact small_of _ (show (atO u ps[i]).nodes<=1048577 by omega))
     simp only [E6,C7,E0,bd_row,pRow] at h3 h4;simp only [hk,H3,H1,bd_row];rcases r318 acc (by omega) (atO l ps[i]).s with ⟨e,h5⟩|⟨j,hj,e,h5⟩
     · simp only [h5,nv0,nvS,dvI,dvB,dvS,dvL,B5,e,show decide ((-1:Int)<0)=true from rfl,H1,and_self,if_true]
       exact h3
     · have q:¬((j:Int)<0):=by omega
       simp only [h5,nv0,nvS,dvI,dvB,dvS,dvL,B5,e,q,H4,H2,reduceCtorEq,and_false,if_false];exact h4
   · simp only [hk,H4,H2,false_and,if_false]
     exact h4
 have h3:=hlp _ 0 [] (E8 _) (G5 _) (by simp)
 simp only [D1,C4,E0] at h3;rw [e272_0_0];simp only [h2,nv0,nvS,dvI,dvB,dvS,dvL,B5,h3,D7,H1,H2]
theorem r189 (d:DfM) (hd:DfG d) (v cs:Rows) (t:Tm) (hw:Wt t) (hn:t.nodes<=60) (i:Nat) (hi:i<d.ru.length) (p:List Int) (hp:p.length<=60) (hat:∃ u,atT t p=some u):rn ⟨189,0,0⟩ [.sl (d.so.map sRow),.sl (d.op.map OpM.row),.sl (d.ru.map RuM.row),.sl (d.st.map StM.row),.sl v,.int t.k,.int t.n,.str t.s,.sl (t.as.map Tm.row),.sl cs,.int (i:Int),.sl (p.map iRow)]=some (0,[.int (carT d t (i,p)).k,.int (carT d t (i,p)).n,.str (carT d t (i,p)).s,.sl ((carT d t (i,p)).as.map Tm.row)]):=by
 have hr:=hd.ru (C0 hi);have hln:=valid_nodes hr.lv;have hrn:=valid_nodes hr.rv;obtain ⟨u,hu⟩:=hat;have hpl:=posT_len d.ru[i].l [];have hun:=atO_nodes t p (by decide) hn
 have hbn:∀ b∈carU d.ru[i].l (atO t p) (posT d.ru[i].l []) [],b.2.nodes<=60:=carU_mem (P:=fun t=>t.nodes<=60) (fun q=>atO_nodes (atO t p) q (by decide) hun) _ [] (by simp)
 have hbs:∀ b∈carU d.ru[i].l (atO t p) (posT d.ru[i].l []) [],Small b.2:=fun b hb=>small_of _ (by have:=hbn b hb; omega)
 have hbl:=carU_len d.ru[i].l (atO t p) (posT d.ru[i].l []) [];have a1:=aS_nodesM (m:=60) (by decide) hbn d.ru[i].r
 have a3:=put_nodes (aS (carU d.ru[i].l (atO t p) (posT d.ru[i].l []) []) d.ru[i].r) p t;have a5:t.nodes*(p.length+1)<=60*61:=Nat.mul_le_mul hn (by omega)
 have e2:carT d t (i,p)=rW (putT t p (aS (carU d.ru[i].l (atO t p) (posT d.ru[i].l []) []) d.ru[i].r)):=by
  simp only [carT,E7 hi,carU_aS]
 have h1:=atS t (by omega) p (by omega)
 have h2:=r272 d.ru[i].l (atO t p) hln hun;have h4:=r185 _ (by simp at hbl; omega) hbs d.ru[i].r (small_of _ (by omega))
 have h6:=r271 (aS (carU d.ru[i].l (atO t p) (posT d.ru[i].l []) []) d.ru[i].r) (by omega) p t u (by omega) (by omega) hu
 have h7:=r184 (putT t p (aS (carU d.ru[i].l (atO t p) (posT d.ru[i].l []) []) d.ru[i].r)) (small_of _ (by omega))
 rw [<- e2] at h7;rw [e189_0_0];simp only [h1,nv0,nvS,dvI,dvB,dvS,dvL,B5,inbN,B6,hi,H3,H1,B9,rowAt_map hi,RuM.row,h2,h4,h6,h7]
theorem r107 (d:DfM) (hd:DfG d) (v:List ByteArray) (hv:v.length<=1048576) (cs:Rows) (t:Tm) (hw:Wt t) (hn:t.nodes<=60) (x:Bk) (hx:BkG d t x):rn ⟨107,0,0⟩ [.sl (d.so.map sRow),.sl (d.op.map OpM.row),.sl (d.ru.map RuM.row),.sl (d.st.map StM.row),.sl (v.map sRow),.int t.k,.int t.n,.str t.s,.sl (t.as.map Tm.row),.sl cs,.int (bR x),.bool x.isSome,.sl ((bP x).map iRow)]=some (0,[.int (bK d t x),.int (bR x),.int (bT d t x).k,.int (bT d t x).n,.str (bT d t x).s,.sl ((bP x).map iRow),.sl (v.map sRow),.sl ((bT d t x).as.map Tm.row),.sl []]):=by
 have b1:G9 v.length M63=true:=by simpa using nb (n:=v.length) (m:=0) (by omega)
 have h1:=r188 t (small_of t (by omega))
 rw [e107_0_0];simp only [D6,E8,B6,b1,H1,h1,nv0,nvS,dvI,dvB,dvS,dvL,B5,D0];cases x with
 | none=>rfl
 | some y =>
  obtain ⟨y1,y2,y3⟩:=hx.i y rfl;have h2:=r189 d hd (v.map sRow) cs t hw hn y.1 y1 y.2 y2 y3;obtain ⟨c1,c2⟩:=carT_b hd hw hn (x:=y) y2;have h3:=r152 (carT d t y) (by omega) c1
  simp only [bR,bP,Q6,D9,H2,h2,nv0,nvS,dvI,dvB,dvS,dvL,B5,h3];have hb:bT d t (some y)=if (carT d t y).valid=true then carT d t y else tm0:=rfl
  have hk:bK d t (some y)=if (carT d t y).valid=true then 2 else 3:=rfl
  rw [hb,hk];cases (carT d t y).valid <;> rfl
theorem fndB_drop (out:List (Bk × List Int)) (x:Bk):fndI out x=match (out.drop 0).findIdx? (fun b=>decide (b.1=x)) with | some i=>((0+i:Nat):Int) | none=>-1:=by
 unfold fndI fndB;rw [D1];cases out.findIdx? fun b=>decide (b.1=x) with
 | none=>rfl
 | some i=>simp
theorem fndBI (d:DfM) (v:List ByteArray) (t:Tm) (out:List (Bk × List Int)) (ho:out.length<=1048576) (hp:∀ b∈out,(bP b.1).length<=1048576) (x:Bk):∃ w1 w2 w3,rn ⟨171,0,0⟩ [.sl (out.map (brRow d v t)),.bool x.isSome,.int (bR x),.sl ((bP x).map iRow)]=some (0,[.int (fndI out x),.bool w1,.int w2,.sl w3])/\w1=x.isSome/\w2=bR x/\w3=(bP x).map iRow:=by
 have hlp:∀ n i,i+n=out.length->rn ⟨171,0,1⟩ [.sl (out.map (brRow d v t)),.int (out.length:Int),.int (i:Int),.bool x.isSome,.int (bR x),.sl ((bP x).map iRow)]=match (out.drop i).findIdx? (fun b=>decide (b.1=x)) with
  | some j=>some (1,[.int ((i+j:Nat):Int),.bool x.isSome,.int (bR x),.sl ((bP x).map iRow)])
  | none=>some (0,[.bool x.isSome,.int (bR x),.sl ((bP x).map iRow)]):=by
  intro n;induction n with
  | zero =>
   intro i hi;obtain rfl:i=out.length:=by omega
   rw [e171_0_1];simp only [B6,C3,D5,H4,H2,C9,T5]
  | succ n ih =>
   intro i hi;have hlt:i<out.length:=by omega
   have h2:=r173 (bR out[i].1) (bR x) (bP out[i].1) (bP x) (hp _ (C0 hlt));have h1:rn ⟨172,0,0⟩ [.int (bK d t out[i].1),.int (bR out[i].1),.sl ((bP out[i].1).map iRow),.sl (v.map sRow),.int (bT d t out[i].1).k,.int (bT d t out[i].1).n,.str (bT d t out[i].1).s,.sl ((bT d t out[i].1).as.map Tm.row),.sl (out[i].2.map iRow),.bool x.isSome,.int (bR x),.sl ((bP x).map iRow)]=some (0,[.bool (decide (out[i].1=x)),.bool x.isSome,.int (bR x),.sl ((bP x).map iRow)]):=by
    rw [e172_0_0,<- bk_eq d t];simp only [h2,nv0,nvS,dvI,dvB,dvS,dvL,B5];cases (decide (bK d t out[i].1=1)==!x.isSome) <;> rfl
   rw [drop_find _ _ hlt,e171_0_1];simp only [B6,C3,hlt,H3,H1,inbN,B9,rowAt_map hlt,wrap_succ hlt (maxB (by omega)),brRow,nv0,nvS,dvI,dvB,dvS,dvL,B5,h1]
   have h3:=ih (i+1) (by omega)
   cases decide (out[i].1=x) with
   | true=>rfl
   | false =>
    simp only [H2,Bool.false_eq_true,if_false,h3];cases (out.drop (i+1)).findIdx? (fun b=>decide (b.1=x)) with
    | none=>rfl
    | some j=>simp only [Option.map_some,show i+1+j=i+(j+1) by omega]
 have h1:=hlp out.length 0 (E8 _);rw [C4] at h1;rw [e171_0_0,fndB_drop];simp only [B6,h1];cases (out.drop 0).findIdx? (fun b=>decide (b.1=x)) with
 | none=>exact ⟨_,_,_,rfl,rfl,rfl,rfl⟩
 | some j=>exact ⟨_,_,_,rfl,rfl,rfl,rfl⟩
theorem r106 (d:DfM) (v:List ByteArray) (t:Tm) (out:List (Bk × List Int)) (ho:out.length<=1048576) (hp:∀ b∈out,(bP b.1).length<=1048576) (x:Bk):rn ⟨106,0,0⟩ [.sl (out.map (brRow d v t)),.int (bR x),.sl ((bP x).map iRow),.bool x.isSome]=some (0,[.int (fndI out x)]):=by
 have hlp:∀ n i,i+n=out.length->rn ⟨106,0,1⟩ [.sl (out.map (brRow d v t)),.bool x.isSome,.int (i:Int),.int (bR x),.sl ((bP x).map iRow)]=match (out.drop i).findIdx? (fun b=>decide (b.1=x)) with
  | some j=>some (1,[.int ((i+j:Nat):Int)])
  | none=>some (0,[]):=by
  intro n;induction n with
  | zero =>
   intro i hi;obtain rfl:i=out.length:=by omega
   rw [e106_0_1];simp only [B6,C3,D5,H4,H2,C9,T5]
  | succ n ih =>
   intro i hi;have hlt:i<out.length:=by omega
   have h2:=r187 (bP out[i].1) (bP x) (hp _ (C0 hlt));have h3:=ih (i+1) (by omega)
   have hno:∀ y,x=some y->¬ bK d t (some y)=1:=fun y _=>by
    show ¬(if (carT d t y).valid=true then (2:Int) else 3)=1
    by_cases q:(carT d t y).valid=true <;> simp [q]
   have h4:(match (match (out.drop (i+1)).findIdx? (fun b=>decide (b.1=x)) with | some j=>some (j+1) | none=>none) with | some j=>some (1,[D.int ((i+j:Nat):Int)]) | none=>some (0,[]))=rn ⟨106,0,1⟩ [.sl (out.map (brRow d v t)),.bool x.isSome,.int ((i+1:Nat):Int),.int (bR x),.sl ((bP x).map iRow)]:=by
    rw [ih (i+1) (by omega)]
    cases (out.drop (i+1)).findIdx? (fun b=>decide (b.1=x)) with
    | none=>rfl
    | some j=>simp only [show i+1+j=i+(j+1) by omega]
   have h5:(bif !(x.isSome==decide (bK d t out[i].1=1)) then bif !x.isSome then some (1,[D.int (i:Int)]) else bif decide (bR out[i].1=bR x) then bif decide (bP out[i].1=bP x) then some (1,[.int (i:Int)]) else rn ⟨106,0,1⟩ [.sl (out.map (brRow d v t)),.bool x.isSome,.int ((i+1:Nat):Int),.int (bR x),.sl ((bP x).map iRow)] else rn ⟨106,0,1⟩ [.sl (out.map (brRow d v t)),.bool x.isSome,.int ((i+1:Nat):Int),.int (bR x),.sl ((bP x).map iRow)] else rn ⟨106,0,1⟩ [.sl (out.map (brRow d v t)),.bool x.isSome,.int ((i+1:Nat):Int),.int (bR x),.sl ((bP x).map iRow)])=match (if decide (out[i].1=x)=true then some 0 else ((out.drop (i+1)).findIdx? (fun b=>decide (b.1=x))).map (·+1)) with
    | some j=>some (1,[.int ((i+j:Nat):Int)])
    | none=>some (0,[]):=by
    rw [<- bk_eq d t out[i].1 x];rw [<- h4];generalize (out.drop (i+1)).findIdx? (fun b=>decide (b.1=x))=F
    generalize hg:out[i].1=y;cases x with
    | none =>
     cases y with
     | none=>simp [bK,bR,bP]
     | some z =>
      have:¬ bK d t (some z)=1:=by
       show ¬(if (carT d t z).valid=true then (2:Int) else 3)=1
       by_cases q:(carT d t z).valid=true <;> simp [q]
      simp only [this,H4,Option.isSome_none];cases F <;> rfl
    | some w =>
     cases y with
     | none=>cases F <;> simp [bK]
     | some z =>
      have:¬ bK d t (some z)=1:=by
       show ¬(if (carT d t z).valid=true then (2:Int) else 3)=1
       by_cases q:(carT d t z).valid=true <;> simp [q]
      simp only [this,H4,Q6];cases decide (bR (some z)=bR (some w)) <;> cases decide (bP (some z)=bP (some w)) <;> cases F <;> rfl
   rw [drop_find _ _ hlt,<- h5,e106_0_1];simp only [B6,C3,hlt,H3,H1,inbN,B9,rowAt_map hlt,wrap_succ hlt (maxB (by omega)),brRow,nv0,nvS,dvI,dvB,dvS,dvL,B5,h2]
 have h1:=hlp out.length 0 (E8 _);rw [C4] at h1;rw [e106_0_0,fndB_drop];simp only [h1];cases (out.drop 0).findIdx? (fun b=>decide (b.1=x)) <;> rfl
end Go.Q.S
end
section
namespace Go.Q.S
open Go Go.Q Go.Proofs
theorem brLoopI (d:DfM) (hb:DfB d) (v:List ByteArray) (hv:v.length<=1048576) (t:Tm) (hw:Wt t) (cs:List Int) (hcl:cs.length<=1048576) (hs:symV d v t=true) (hcs:∀ c∈cs,isC v.length c=true):∀ n i (out:List (Bk × List Int)),i+n=cs.length->BrB i out->(∀ b∈out,BkG d t b.1) →
 rn ⟨87,0,1⟩ [.sl (cs.map iRow),.int (cs.length:Int),.int (i:Int),.sl (d.so.map sRow),.sl (d.op.map OpM.row),.sl (d.ru.map RuM.row),.sl (d.st.map StM.row),.sl (v.map sRow),.int t.k,.int t.n,.str t.s,.sl (t.as.map Tm.row),.sl (cs.map iRow),.sl (out.map (brRow d v t))]=some (0,[.sl ((brF d v t (cs.drop i) out).map (brRow d v t))]):=by
 intro n;induction n with
 | zero =>
  intro i out hi _ _;obtain rfl:i=cs.length:=by omega
  rw [e87_0_1];simp only [B6,C3,D5,H4,H2,C9,brF]
 | succ n ih =>
  intro i out hi ho hk;have hlt:i<cs.length:=by omega
  have hc:=hcs _ (C0 hlt);obtain ⟨hd,htn,hg,hgn,hx⟩:=nx_bkG hb hw hs hc;have hol:=ho.l;have hpl:∀ b∈out,(bP b.1).length<=1048576:=fun b hb'=>by
   have h1:=(hk b hb').i;cases hq:b.1 with
   | none=>exact K4 _
   | some y=>have:=(h1 y hq).2.1; show y.2.length<=_; omega
  have h1:=r120 v t (small_of t (by omega)) (cs.map iRow) cs[i]
  rw [instR_C hc] at h1;have h2:=r170 d hd (inst v t cs[i]) hg hgn [] (by simp; omega)
  rw [nrR_bk,E0] at h2;obtain ⟨w1,w2,w3,h3,rfl,rfl,rfl⟩:=fndBI d v t out (by omega) hpl (nx d (inst v t cs[i]))
  have h4:=r174 (v.map sRow) (cs.map iRow) [[.int cs[i]]] t (small_of t (by omega)) (by rw [B6]; omega) (by simp)
  have hob:=addB_b ho (nx d (inst v t cs[i])) cs[i];have hkb:∀ b∈addB out (nx d (inst v t cs[i])) cs[i],BkG d t b.1:=addB_k hk hx;rw [C2 hlt,e87_0_1];simp only [brF,B6,C3,hlt,H3,H1,inbN,B9,rowAt_map hlt,wrap_succ hlt (maxB (by omega)),iRow,nv0,nvS,dvI,dvB,dvS,dvL,B5,h1,h2,h3]
  have h5:=ih (i+1) _ (by omega) hob hkb
  generalize nx d (inst v t cs[i])=x at hx h3 h5 ⊢;generalize hc0:cs[i]=c at h4 h5 ⊢;cases hf:fndB out x with
  | some j =>
   obtain ⟨hj,hjx⟩:=fndB_lt hf;have e8:(nth (rowAt (out.map (brRow d v t)) j) 8).L=out[j].2.map iRow:=by rw [rowAt_map hj]; rfl
   have hset:=br_set (d:=d) (v:=v) (t:=t) hj (out[j].2.map iRow++[[.int c]]) (out[j].2++[c]) (by simp [iRow])
   have hlen:=br_len (d:=d) (v:=v) (t:=t) hj;have b1:G9 (out[j].2.length+1) M63=true:=b63 (by have:=ho.c _ (C0 hj); omega)
   have b2:K1 j out.length=true:=E9 hj;have b3:decide ((0:Int)<=(j:Int))=true:=by simp
   rw [addB_some hf hj] at h5 ⊢;simp only [fndI,hf,b3,H1,inbN,hlen,B6,hj,H3,B9,b2,e8,C8,D6,E8,b1,D7,N8,hset,h5]
  | none =>
   have b1:G9 (out.length+1) M63=true:=b63 (by omega)
   rw [addB_none hf] at h5 ⊢;simp only [E6,C7,E0] at h5 ⊢;simp only [fndI,hf,show decide ((0:Int)<=-1)=false from rfl,H2,h4,nv0,nvS,dvI,dvB,dvS,dvL,B5,C8,D6,E8,b1,B6]
   cases x with
   | none=>exact h5
   | some y =>
    obtain ⟨y1,y2,y3⟩:=hx.i y rfl;have h6:=carI d hd t hw htn y.1 y1 y.2 y2 y3;simp only [bR,bP,Q6,H1,h6,nv0,nvS,dvI,dvB,dvS,dvL,B5];have hk1:bK d t (some y)=if (carT d t y).valid=true then 2 else 3:=rfl
    cases hvv:(carT d t (y.1,y.2)).valid with
    | true =>
     have hk2:bK d t (some y)=2:=by rw [hk1,H5 hvv]
     simp only [brRow,hk2] at h5;exact h5
    | false =>
     have hk2:bK d t (some y)=3:=by rw [hk1,H6 (by show ¬(carT d t (y.1,y.2)).valid=true; rw [hvv]; simp)]
     simp only [brRow,hk2] at h5;exact h5
theorem r87 (s:SyM) (hs:SyB s) (h:symC s.d s.v s.t s.c=true):rn ⟨87,0,0⟩ s.row=some (0,[.sl ((brL s).map (brRow s.d s.v s.t))]):=by
 have h':=h;simp only [symC,Bool.and_eq_true] at h';have h1:=brLoopI s.d hs.d s.v hs.v s.t hs.w s.c hs.c h'.1 (incC_isC s.c none h'.2) s.c.length 0 [] (E8 _) ⟨G5 _,by simp⟩ (by simp)
 simp only [C4,E0,D1] at h1;unfold SyM.row brL;rw [e87_0_0,H5 h];simp only [B6,h1,nv0,nvS,dvI,dvB,dvS,dvL,B5,D7,H1,H2]
theorem r28 (s:SyM) (hs:SyB s):rn ⟨28,0,0⟩ s.row=some (0,[.sl ((brL s).map (brRow s.d s.v s.t))]):=by
 have h1:=symI s.d hs.d s.v hs.v hs.vs s.t hs.w hs.n s.c hs.c;have h2:=r87 s hs;unfold SyM.row at h2 ⊢;rw [e28_0_0];simp only [h1,nv0,nvS,dvI,dvB,dvS,dvL,B5];cases h:symC s.d s.v s.t s.c with
 | false =>
  unfold brL;rw [h]; rfl
 | true=>simp only [D9,H2,h2 h,nv0,nvS,dvI,dvB,dvS,dvL,B5]
theorem brLoopS (s:SyM) (hs:SyB s) (h:symC s.d s.v s.t s.c=true):∀ n i (out:List (Bk × List Int)),i+n=s.c.length->BrB i out->(∀ b∈out,BkG s.d s.t b.1) →
 rn ⟨27,0,1⟩ [.int (i:Int),.sl (s.d.so.map sRow),.sl (s.d.op.map OpM.row),.sl (s.d.ru.map RuM.row),.sl (s.d.st.map StM.row),.sl (s.v.map sRow),.int s.t.k,.int s.t.n,.str s.t.s,.sl (s.t.as.map Tm.row),.sl (s.c.map iRow),.sl (out.map (brRow s.d s.v s.t))]=some (0,[.sl ((brF s.d s.v s.t (s.c.drop i) out).map (brRow s.d s.v s.t))]):=by
 have h0:=symS s.d hs.d s.v hs.v hs.vs s.t hs.w hs.n s.c hs.c;have h':=h;simp only [symC,Bool.and_eq_true] at h';have hcs:=incC_isC s.c none h'.2;have hb:=hs.d;have hv:=hs.v;have hw:=hs.w;have hcl:=hs.c;have hsy:=h'.1;obtain ⟨d,v,t,cs⟩:=s;simp only at h h0 hcs hb hv hw hcl hsy ⊢;intro n;induction n with
 | zero =>
  intro i out hi _ _;obtain rfl:i=cs.length:=by omega
  rw [e27_0_1];simp only [B6,C3,D5,H4,H2,C9,brF]
 | succ n ih =>
  intro i out hi ho hk;have hlt:i<cs.length:=by omega
  have hc:=hcs _ (C0 hlt);obtain ⟨hd,htn,hg,hgn,hx⟩:=nx_bkG hb hw hsy hc;have hol:=ho.l;have hpl:∀ b∈out,(bP b.1).length<=1048576:=fun b hb'=>by
   have h1:=(hk b hb').i;cases hq:b.1 with
   | none=>exact K4 _
   | some y=>have:=(h1 y hq).2.1; show y.2.length<=_; omega
  have h1:=r105 v t (small_of t (by omega)) cs[i]
  have h2:=r104 d hd (inst v t cs[i]) hg hgn;rw [nrS_bk] at h2;have h3:=r106 d v t out (by omega) hpl (nx d (inst v t cs[i]))
  have h4:=r107 d hd v hv (cs.map iRow) t hw htn (nx d (inst v t cs[i])) hx;have hob:=addB_b ho (nx d (inst v t cs[i])) cs[i];have hkb:∀ b∈addB out (nx d (inst v t cs[i])) cs[i],BkG d t b.1:=addB_k hk hx;have h5:=ih (i+1) _ (by omega) hob hkb
  rw [C2 hlt,e27_0_1];simp only [brF,B6,C3,hlt,H3,H1,inbN,B9,rowAt_map hlt,wrap_succ hlt (maxB (by omega)),h0,h,iRow,nv0,nvS,dvI,dvB,dvS,dvL,B5,h1,h2,h3,h4]
  generalize nx d (inst v t cs[i])=x at hx h5 ⊢;generalize hc0:cs[i]=c at h5 ⊢;cases hf:fndB out x with
  | some j =>
   obtain ⟨hj,hjx⟩:=fndB_lt hf;have e8:(nth (rowAt (out.map (brRow d v t)) j) 8).L=out[j].2.map iRow:=by rw [rowAt_map hj]; rfl
   have hset:=br_set (d:=d) (v:=v) (t:=t) hj (out[j].2.map iRow++[[.int c]]) (out[j].2++[c]) (by simp [iRow])
   have hlen:=br_len (d:=d) (v:=v) (t:=t) hj;have b1:G9 (out[j].2.length+1) M63=true:=b63 (by have:=ho.c _ (C0 hj); omega)
   have b2:K1 j out.length=true:=E9 hj;have b3:¬((j:Int)<0):=by omega
   rw [addB_some hf hj] at h5 ⊢;simp only [fndI,hf,b3,H4,H2,H1,inbN,hlen,B6,hj,H3,B9,b2,e8,C8,D6,E8,b1,D7,N8,hset,h5]
  | none =>
   have b1:G9 (out.length+1) M63=true:=b63 (by omega)
   have hj:out.length<(out++[(x,([]:List Int))]).length:=by simp
   have hr:out.map (brRow d v t)++[[.int (bK d t x),.int (bR x),.sl ((bP x).map iRow),.sl (v.map sRow),.int (bT d t x).k,.int (bT d t x).n,.str (bT d t x).s,.sl ((bT d t x).as.map Tm.row),.sl []]]=(out++[(x,([]:List Int))]).map (brRow d v t):=by rw [E6]; rfl
   have e0:(out++[(x,([]:List Int))])[out.length]=(x,[]):=by simp
   have e8:(nth (rowAt ((out++[(x,([]:List Int))]).map (brRow d v t)) out.length) 8).L=[]:=by rw [rowAt_map hj,e0]; rfl
   have hset:=br_set (d:=d) (v:=v) (t:=t) hj [[.int c]] [c] rfl;rw [e0,set_last] at hset;have hlen:=br_len (d:=d) (v:=v) (t:=t) hj;have b2:K1 out.length (out.length+1)=true:=E9 (G5 _);have b4:out.length<out.length+1:=F9 _;have b5:G9 1 M63=true:=rfl;rw [addB_none hf] at h5 ⊢;simp only [fndI,hf,show decide ((-1:Int)<0)=true from rfl,H1,hr,inbN,hlen,B6,F2,C8,D6,E8,B9,b1,b2,b4,b5,H3,e8,D0,D7,N8,hset,h5]
theorem r27 (s:SyM) (hs:SyB s):rn ⟨27,0,0⟩ s.row=some (0,[.sl ((brL s).map (brRow s.d s.v s.t))]):=by
 cases h:symC s.d s.v s.t s.c with
 | true =>
  have h1:=brLoopS s hs h s.c.length 0 [] (E8 _) ⟨G5 _,by simp⟩ (by simp)
  simp only [C4,E0,D1] at h1;unfold SyM.row brL;rw [e27_0_0,H5 h];simp only [h1,nv0,nvS,dvI,dvB,dvS,dvL,B5,D7,H1,H2]
 | false =>
  have h0:=symS s.d hs.d s.v hs.v hs.vs s.t hs.w hs.n s.c hs.c;have h1:rn ⟨27,0,1⟩ [.int 0,.sl (s.d.so.map sRow),.sl (s.d.op.map OpM.row),.sl (s.d.ru.map RuM.row),.sl (s.d.st.map StM.row),.sl (s.v.map sRow),.int (s.t).k,.int (s.t).n,.str (s.t).s,.sl ((s.t).as.map Tm.row),.sl (s.c.map iRow),.sl []]=some (0,[.sl []]):=by
   rw [e27_0_1];simp only [h0,h,nv0,nvS,dvI,dvB,dvS,dvL,B5,H2];cases decide ((0:Int)<((s.c.map iRow).length:Nat)) <;> rfl
  unfold SyM.row brL;rw [e27_0_0,h];simp only [h1,nv0,nvS,dvI,dvB,dvS,dvL,B5,D7,H1,H2];rfl
end Go.Q.S
end
section
namespace Go.Q.S
open Go Go.Q Go.Proofs
end Go.Q.S
end
section
namespace Go.Q.S
open Go Go.Q Go.Proofs
end Go.Q.S
end
section
namespace Go.Q.S
open Go Go.Q Go.Proofs
end Go.Q.S
end
section
namespace Go.Q.S
open Go Go.Q Go.Proofs
end Go.Q.S
end
section
namespace Go.Q.S
open Go Go.Q Go.Proofs
end Go.Q.S
end
section
namespace Go.Q.S
open Go Go.Q Go.Proofs
end Go.Q.S
end
section
namespace Go.Q.S
open Go Go.Q Go.Proofs
end Go.Q.S
end
section
namespace Go.Q.S
open Go Go.Q Go.Proofs
end Go.Q.S
end
section
namespace Go.Q.S
open Go Go.Q Go.Proofs
theorem r23 (s:SyM) (hs:SyB s) (k:Int):rn ⟨23,0,0⟩ [.sl (s.d.so.map sRow),.sl (s.d.op.map OpM.row),.sl (s.d.ru.map RuM.row),.sl (s.d.st.map StM.row),.sl (s.v.map sRow),.int s.t.k,.int s.t.n,.str s.t.s,.sl (s.t.as.map Tm.row),.sl (s.c.map iRow),.int k]=some (0,ssD s (ssO s k)):=by
 have h1:=r28 s hs;unfold SyM.row at h1;rw [e23_0_0];simp only [h1,nv0,nvS,dvI,dvB,dvS,dvL,B5,B6];unfold ssO;generalize brL s=L;by_cases h0:0<=k
 · rw [H5 h0]
   obtain ⟨n,rfl⟩:=Int.eq_ofNat_of_zero_le h0;rw [H8 (show ¬(n:Int)<0 by omega)]
   by_cases hn:n<L.length
   · rw [H8 (show ¬(L.length:Int)<=(n:Int) by omega)]
     have hb:K1 n L.length=true:=E9 hn;simp only [H2,inbN,hn,H3,H1,B9,rowAt_map hn,brRow,nv0,nvS,dvI,dvB,dvS,dvL,B5,E7 hn,hb,N8];by_cases hk:bK s.d s.t L[n].1=2
     · rw [H5 hk,H7 hk]; rfl
     · rw [H6 hk,H8 hk]; rfl
   · rw [H7 (show (L.length:Int)<=(n:Int) by omega)]
     simp only [H2,H1,B9,P2 (show L.length<=n by omega)]; rfl
 · rw [H6 h0,H7 (show k<0 by omega)]; rfl
theorem r22 (s:SyM) (hs:SyB s) (k:Int):rn ⟨22,0,0⟩ [.sl (s.d.so.map sRow),.sl (s.d.op.map OpM.row),.sl (s.d.ru.map RuM.row),.sl (s.d.st.map StM.row),.sl (s.v.map sRow),.int s.t.k,.int s.t.n,.str s.t.s,.sl (s.t.as.map Tm.row),.sl (s.c.map iRow),.int k]=some (0,ssD s (ssO s k)):=by
 have h1:=r27 s hs;have hl:=ss_len hs;unfold SyM.row at h1;rw [e22_0_0];simp only [h1,nv0,nvS,dvI,dvB,dvS,dvL,B5,B6,rIn];unfold ssO;generalize brL s=L at hl ⊢;have ew:IntKind.i64.wrap ((L.length:Int)-1)=(L.length:Int)-1:=IntWalk.i64_in _ (by omega)
 rw [ew];by_cases h0:0<=k
 · rw [H5 h0]
   obtain ⟨n,rfl⟩:=Int.eq_ofNat_of_zero_le h0;by_cases hn:n<L.length
   · rw [H7 h0,H7 (show (n:Int)<=(L.length:Int)-1 by omega)]
     have hb:K1 n L.length=true:=E9 hn;simp only [N8,D9,H2,inbN,hn,H3,H1,B9,rowAt_map hn,brRow,nv0,nvS,dvI,dvB,dvS,dvL,B5,E7 hn,hb];by_cases hk:bK s.d s.t L[n].1=2
     · rw [H5 hk,H7 hk]; rfl
     · rw [H6 hk,H8 hk]; rfl
   · rw [H8 (show ¬(n:Int)<=(L.length:Int)-1 by omega)]
     simp only [Bool.and_false,N1,H1,B9,P2 (show L.length<=n by omega)]; rfl
 · rw [H6 h0,H8 h0]; rfl
end Go.Q.S
end
section
namespace Go.Q.S
open Go Go.Q Go.Proofs
noncomputable def mt (k:Int):ByteArray:=match rn ⟨109,0,0⟩ [.int k] with | some (0,[.str s])=>s | _=>⟨#[]⟩
theorem mt_ok {k:Int} (h0:0<k) (hb:k<=BK):rn ⟨109,0,0⟩ [.int k]=some (0,[.str (mt k)]):=by
 have hg:∃ s,rn ⟨109,0,0⟩ [.int k]=some (0,[.str s]):=by
  rw [e109_0_0];rw [H8 (by omega:¬ k<=0)]
  simp only [H2];have hk:∀ (n:Nat) (k:Int) (t:ByteArray),0<=k->k<10 ^ n->k<=BK->t.size+n<=100->∃ s:ByteArray,s.size<=100/\rn ⟨109,0,1⟩ [.int k,.str t]=some (0,[.str s]):=by
   intro n;induction n with
   | zero =>
    intro k t h0 h1 _ ht;rw [e109_0_1];rw [H8 (by simp at h1; omega:¬(0:Int)<k)]
    exact ⟨t,by omega,rfl⟩
   | succ n ih =>
    intro k t h0 h1 hn ht; unfold BK at hn;by_cases hk:0<k
    · obtain ⟨s,hs,e⟩:=ih (k / 10) (bytesOf ([[.int (IntKind.u8.wrap (IntKind.i64.wrap (48+(Q7 k 10))))]]:Rows)++t) (by omega) (by rw [Int.pow_succ] at h1; omega) (by unfold BK; omega) (by rw [ByteArray.size_append,size1]; omega)
      refine ⟨s,hs,?_⟩;rw [e109_0_1];rw [H7 hk,H8 (by omega:¬(10:Int)=0),H7 (show (bytesOf ([[.int (IntKind.u8.wrap (IntKind.i64.wrap (48+(Q7 k 10))))]]:Rows)).size+t.size<=i64max from by rw [size1]; unfold i64max; omega)]
      simp only [H1,N1];have hq:IntKind.i64.wrap (Int.tdiv k 10)=k / 10:=by
       rw [Int.tdiv_eq_ediv_of_nonneg h0];exact IntWalk.i64_in _ (by omega)
      rw [hq]; exact e
    · obtain rfl:k=0:=by omega
      rw [e109_0_1];exact ⟨t,by omega,rfl⟩
  obtain ⟨s,hs,e⟩:=hk 19 k ⟨#[]⟩ (by omega) (by unfold BK at hb; simp; omega) hb (by decide)
  rw [e];simp only [B5,nth,B7,B8,D.I,D.S,D.L,D.B,D7,H1];rw [H7 (show (⟨#[109]⟩:ByteArray).size+s.size<=i64max from by have:(⟨#[109]⟩:ByteArray).size=1:=rfl; unfold i64max; omega)]
  exact ⟨_,rfl⟩
 obtain ⟨s,e⟩:=hg;unfold mt;rw [e];rfl
theorem m98_1 {rs:Rows} (hl:rs.length<=maxLen) (hW:WRs H rs L9) {k:Int} (hk:0<k) (hb:k+cntR rs<=BK):rn ⟨98,1,0⟩ [.int k,.sl rs]=some (0,[.int (k+cntR rs),.sl (mkR mt rs k)]):=by
 show rn ⟨98,1,0⟩ _=_
 rw [e98_1_0];have hf:=mark_loop (mt:=mt) (F:=fun i k y=>rn ⟨98,1,1⟩ [.int k,.int (i:Int),.sl y]) (rs:=rs) hk hb (fun i hi k y hyl hy hk hb=>by
  have hw:=WRs_mem hW (C0 hi);obtain ⟨a0,hr,b0⟩:=wl9 hw;have hiy:i<y.length:=by omega
  rw [hr] at hy hb ⊢;have em:mkL mt [.str a0] k=[.str (mt (k))]:=by simp only [mkL,mkD,cntD,N7]
  have ek:k+((cntL [.str a0]:Nat):Int)=k+1:=by simp only [cntL,cntD]; omega
  rw [em];rw [ek] at hb ⊢;have t0:=mt_ok (k:=k) (by omega) (by omega)
  have w0:IntKind.i64.wrap (k+1)=k+1:=wrap_k (by omega) (by omega)
  rw [e98_1_1];simp only [B9,over_row_two hiy,over_row_at hiy,over_row_len hiy,hyl,hy,inbN,hi,H3,H1,C3,over,nth,B7,B8,D.I,D.S,D.L,D.B,t0,w0,B5,wrap_succ hi hl]) (fun k y hyl=>by
  rw [e98_1_1];simp [hyl])
 rw [C4] at hf;simp only [hf,B5,D7,H1,nth,B7,B8,D.I,D.S,D.L,D.B]
theorem m98_2 {rs:Rows} (hl:rs.length<=maxLen) (hW:WRs H rs L9) {k:Int} (hk:0<k) (hb:k+cntR rs<=BK):rn ⟨98,2,0⟩ [.int k,.sl rs]=some (0,[.int (k+cntR rs),.sl (mkR mt rs k)]):=by
 show rn ⟨98,2,0⟩ _=_
 rw [e98_2_0];have hf:=mark_loop (mt:=mt) (F:=fun i k y=>rn ⟨98,2,1⟩ [.int k,.int (i:Int),.sl y]) (rs:=rs) hk hb (fun i hi k y hyl hy hk hb=>by
  have hw:=WRs_mem hW (C0 hi);obtain ⟨a0,hr,b0⟩:=wl9 hw;have hiy:i<y.length:=by omega
  rw [hr] at hy hb ⊢;have em:mkL mt [.str a0] k=[.str (mt (k))]:=by simp only [mkL,mkD,cntD,N7]
  have ek:k+((cntL [.str a0]:Nat):Int)=k+1:=by simp only [cntL,cntD]; omega
  rw [em];rw [ek] at hb ⊢;have t0:=mt_ok (k:=k) (by omega) (by omega)
  have w0:IntKind.i64.wrap (k+1)=k+1:=wrap_k (by omega) (by omega)
  rw [e98_2_1];simp only [B9,over_row_two hiy,over_row_at hiy,over_row_len hiy,hyl,hy,inbN,hi,H3,H1,C3,over,nth,B7,B8,D.I,D.S,D.L,D.B,t0,w0,B5,wrap_succ hi hl]) (fun k y hyl=>by
  rw [e98_2_1];simp [hyl])
 rw [C4] at hf;simp only [hf,B5,D7,H1,nth,B7,B8,D.I,D.S,D.L,D.B]
theorem m180_1 {rs:Rows} (hl:rs.length<=maxLen) (hW:WRs H rs L286) {k:Int} (hk:0<k) (hb:k+cntR rs<=BK):rn ⟨180,1,0⟩ [.int k,.sl rs]=some (0,[.int (k+cntR rs),.sl (mkR mt rs k)]):=by
 show rn ⟨180,1,0⟩ _=_
 rw [e180_1_0];have hf:=mark_loop (mt:=mt) (F:=fun i k y=>rn ⟨180,1,1⟩ [.int k,.int (i:Int),.sl y]) (rs:=rs) hk hb (fun i hi k y hyl hy hk hb=>by
  have hw:=WRs_mem hW (C0 hi);obtain ⟨a0,a1,a2,hr,b0,b1,c1,b2⟩:=wl286 hw;have hiy:i<y.length:=by omega
  rw [hr] at hy hb ⊢;have em:mkL mt [.str a0,.sl a1,.str a2] k=[.str (mt (k)),.sl (mkR mt a1 (k+1)),.str (mt (k+1+(cntR a1:Int)))]:=by simp only [mkL,mkD,cntD,N7]
  have ek:k+((cntL [.str a0,.sl a1,.str a2]:Nat):Int)=k+1+(cntR a1:Int)+1:=by simp only [cntL,cntD]; omega
  rw [em];rw [ek] at hb ⊢;have t0:=mt_ok (k:=k) (by omega) (by omega)
  have w0:IntKind.i64.wrap (k+1)=k+1:=wrap_k (by omega) (by omega)
  have s1:=m98_2 (k:=k+1) b1 c1 (by omega) (by omega)
  skip
  have t2:=mt_ok (k:=k+1+(cntR a1:Int)) (by omega) (by omega)
  have w2:IntKind.i64.wrap (k+1+(cntR a1:Int)+1)=k+1+(cntR a1:Int)+1:=wrap_k (by omega) (by omega)
  rw [e180_1_1];simp only [B9,over_row_two hiy,over_row_at hiy,over_row_len hiy,hyl,hy,inbN,hi,H3,H1,C3,over,nth,B7,B8,D.I,D.S,D.L,D.B,t0,w0,s1,t2,w2,B5,wrap_succ hi hl]) (fun k y hyl=>by
  rw [e180_1_1];simp [hyl])
 rw [C4] at hf;simp only [hf,B5,D7,H1,nth,B7,B8,D.I,D.S,D.L,D.B]
theorem mT95_1 (a0:Rows) (a1:Rows) (h:WL H [.sl a0,.sl a1] L41) {k:Int} (hk:0<k) (hb:k+(cntR a0:Int)+(cntR a1:Int)<=BK):rn ⟨95,1,0⟩ [.int k,.sl a0,.sl a1]=some (0,[.int (k+(cntR a0:Int)+(cntR a1:Int)),.sl (mkR mt a0 (k)),.sl (mkR mt a1 (k+(cntR a0:Int)))]):=by
 obtain ⟨x0,x1,hh,bx0,cx0,bx1,cx1⟩:=wl41 h;simp only [J5.injEq,D.int.injEq,D.bool.injEq,D.str.injEq,D.sl.injEq,and_true] at hh;obtain ⟨rfl,rfl⟩:=hh;have e0:=m98_1 (k:=k) bx0 cx0 (by omega) (by omega)
 skip
 have e1:=m180_1 (k:=k+(cntR a0:Int)) bx1 cx1 (by omega) (by omega)
 skip
 show rn ⟨95,1,0⟩ _=_
 rw [e95_1_0];simp only [e0,e1,B5,H2,nth,B7,B8,D.I,D.S,D.L,D.B]
theorem m110_1:∀ (N:Nat) (rs:Rows),SizeOf.sizeOf rs<N->rs.length<=maxLen->WRs H rs L49->∀ k:Int,0<k->k+cntR rs<=BK->rn ⟨110,1,0⟩ [.int k,.sl rs]=some (0,[.int (k+cntR rs),.sl (mkR mt rs k)])
 | 0,rs,hN,_,_,_,_,_=>absurd hN (P9 _)
 | N+1,rs,hN,hl,hW,k,hk,hb=>by
  show rn ⟨110,1,0⟩ _=_
  rw [e110_1_0];have hf:=mark_loop (mt:=mt) (F:=fun i k y=>rn ⟨110,1,1⟩ [.int k,.int (i:Int),.sl y]) (rs:=rs) hk hb (fun i hi k y hyl hy hk hb=>by
   have hw:=WRs_mem hW (C0 hi);obtain ⟨a0,a1,a2,a3,hr,b2,b3,c3⟩:=wl49 hw;have hiy:i<y.length:=by omega
   rw [hr] at hy hb ⊢;have em:mkL mt [.int a0,.int a1,.str a2,.sl a3] k=[.int (k),.int (k+1),.str (mt (k+1+1)),.sl (mkR mt a3 (k+1+1+1))]:=by simp only [mkL,mkD,cntD,N7]
   have ek:k+((cntL [.int a0,.int a1,.str a2,.sl a3]:Nat):Int)=k+1+1+1+(cntR a3:Int):=by simp only [cntL,cntD]; omega
   rw [em];rw [ek] at hb ⊢;have w0:IntKind.i64.wrap (k+1)=k+1:=wrap_k (by omega) (by omega)
   have w1:IntKind.i64.wrap (k+1+1)=k+1+1:=wrap_k (by omega) (by omega)
   have t2:=mt_ok (k:=k+1+1) (by omega) (by omega)
   have w2:IntKind.i64.wrap (k+1+1+1)=k+1+1+1:=wrap_k (by omega) (by omega)
   have s3:=m110_1 N a3 (by have h1:=size_row (r:=rs[i]) (rs:=rs) (C0 hi); rw [hr] at h1; simp only [J5.sizeOf_spec,D.sl.sizeOf_spec] at h1 hN; omega) b3 c3 (k+1+1+1) (by omega) (by omega)
   skip
   rw [e110_1_1];simp only [B9,over_row_two hiy,over_row_at hiy,over_row_len hiy,hyl,hy,inbN,hi,H3,H1,C3,over,nth,B7,B8,D.I,D.S,D.L,D.B,w0,w1,t2,w2,s3,B5,wrap_succ hi hl]) (fun k y hyl=>by
   rw [e110_1_1];simp [hyl])
  rw [C4] at hf;simp only [hf,B5,D7,H1,nth,B7,B8,D.I,D.S,D.L,D.B]
theorem m141_1 {rs:Rows} (hl:rs.length<=maxLen) (hW:WRs H rs L275) {k:Int} (hk:0<k) (hb:k+cntR rs<=BK):rn ⟨141,1,0⟩ [.int k,.sl rs]=some (0,[.int (k+cntR rs),.sl (mkR mt rs k)]):=by
 show rn ⟨141,1,0⟩ _=_
 rw [e141_1_0];have hf:=mark_loop (mt:=mt) (F:=fun i k y=>rn ⟨141,1,1⟩ [.int k,.int (i:Int),.sl y]) (rs:=rs) hk hb (fun i hi k y hyl hy hk hb=>by
  have hw:=WRs_mem hW (C0 hi);obtain ⟨a0,a1,a2,a3,a4,a5,a6,a7,a8,hr,b3,b4,c4,b7,b8,c8⟩:=wl275 hw;have hiy:i<y.length:=by omega
  rw [hr] at hy hb ⊢;have em:mkL mt [.int a0,.int a1,.int a2,.str a3,.sl a4,.int a5,.int a6,.str a7,.sl a8] k=[.int (k),.int (k+1),.int (k+1+1),.str (mt (k+1+1+1)),.sl (mkR mt a4 (k+1+1+1+1)),.int (k+1+1+1+1+(cntR a4:Int)),.int (k+1+1+1+1+(cntR a4:Int)+1),.str (mt (k+1+1+1+1+(cntR a4:Int)+1+1)),.sl (mkR mt a8 (k+1+1+1+1+(cntR a4:Int)+1+1+1))]:=by simp only [mkL,mkD,cntD,N7]
  have ek:k+((cntL [.int a0,.int a1,.int a2,.str a3,.sl a4,.int a5,.int a6,.str a7,.sl a8]:Nat):Int)=k+1+1+1+1+(cntR a4:Int)+1+1+1+(cntR a8:Int):=by simp only [cntL,cntD]; omega
  rw [em];rw [ek] at hb ⊢;have w0:IntKind.i64.wrap (k+1)=k+1:=wrap_k (by omega) (by omega)
  have w1:IntKind.i64.wrap (k+1+1)=k+1+1:=wrap_k (by omega) (by omega)
  have w2:IntKind.i64.wrap (k+1+1+1)=k+1+1+1:=wrap_k (by omega) (by omega)
  have t3:=mt_ok (k:=k+1+1+1) (by omega) (by omega)
  have w3:IntKind.i64.wrap (k+1+1+1+1)=k+1+1+1+1:=wrap_k (by omega) (by omega)
  have s4:=m110_1 _ a4 (F9 _) b4 c4 (k+1+1+1+1) (by omega) (by omega)
  skip
  have w5:IntKind.i64.wrap (k+1+1+1+1+(cntR a4:Int)+1)=k+1+1+1+1+(cntR a4:Int)+1:=wrap_k (by omega) (by omega)
  have w6:IntKind.i64.wrap (k+1+1+1+1+(cntR a4:Int)+1+1)=k+1+1+1+1+(cntR a4:Int)+1+1:=wrap_k (by omega) (by omega)
  have t7:=mt_ok (k:=k+1+1+1+1+(cntR a4:Int)+1+1) (by omega) (by omega)
  have w7:IntKind.i64.wrap (k+1+1+1+1+(cntR a4:Int)+1+1+1)=k+1+1+1+1+(cntR a4:Int)+1+1+1:=wrap_k (by omega) (by omega)
  have s8:=m110_1 _ a8 (F9 _) b8 c8 (k+1+1+1+1+(cntR a4:Int)+1+1+1) (by omega) (by omega)
  skip
  rw [e141_1_1];simp only [B9,over_row_two hiy,over_row_at hiy,over_row_len hiy,hyl,hy,inbN,hi,H3,H1,C3,over,nth,B7,B8,D.I,D.S,D.L,D.B,w0,w1,w2,t3,w3,s4,w5,w6,t7,w7,s8,B5,wrap_succ hi hl]) (fun k y hyl=>by
  rw [e141_1_1];simp [hyl])
 rw [C4] at hf;simp only [hf,B5,D7,H1,nth,B7,B8,D.I,D.S,D.L,D.B]
theorem m96_1 {rs:Rows} (hl:rs.length<=maxLen) (hW:WRs H rs L213) {k:Int} (hk:0<k) (hb:k+cntR rs<=BK):rn ⟨96,1,0⟩ [.int k,.sl rs]=some (0,[.int (k+cntR rs),.sl (mkR mt rs k)]):=by
 show rn ⟨96,1,0⟩ _=_
 rw [e96_1_0];have hf:=mark_loop (mt:=mt) (F:=fun i k y=>rn ⟨96,1,1⟩ [.int k,.int (i:Int),.sl y]) (rs:=rs) hk hb (fun i hi k y hyl hy hk hb=>by
  have hw:=WRs_mem hW (C0 hi);obtain ⟨a0,a1,a2,a3,a4,a5,a6,a7,a8,a9,hr,b0,b3,b4,c4,b7,b8,c8,b9,c9⟩:=wl213 hw;have hiy:i<y.length:=by omega
  rw [hr] at hy hb ⊢;have em:mkL mt [.str a0,.int a1,.int a2,.str a3,.sl a4,.int a5,.int a6,.str a7,.sl a8,.sl a9] k=[.str (mt (k)),.int (k+1),.int (k+1+1),.str (mt (k+1+1+1)),.sl (mkR mt a4 (k+1+1+1+1)),.int (k+1+1+1+1+(cntR a4:Int)),.int (k+1+1+1+1+(cntR a4:Int)+1),.str (mt (k+1+1+1+1+(cntR a4:Int)+1+1)),.sl (mkR mt a8 (k+1+1+1+1+(cntR a4:Int)+1+1+1)),.sl (mkR mt a9 (k+1+1+1+1+(cntR a4:Int)+1+1+1+(cntR a8:Int)))]:=by simp only [mkL,mkD,cntD,N7]
  have ek:k+((cntL [.str a0,.int a1,.int a2,.str a3,.sl a4,.int a5,.int a6,.str a7,.sl a8,.sl a9]:Nat):Int)=k+1+1+1+1+(cntR a4:Int)+1+1+1+(cntR a8:Int)+(cntR a9:Int):=by simp only [cntL,cntD]; omega
  rw [em];rw [ek] at hb ⊢;have t0:=mt_ok (k:=k) (by omega) (by omega)
  have w0:IntKind.i64.wrap (k+1)=k+1:=wrap_k (by omega) (by omega)
  have w1:IntKind.i64.wrap (k+1+1)=k+1+1:=wrap_k (by omega) (by omega)
  have w2:IntKind.i64.wrap (k+1+1+1)=k+1+1+1:=wrap_k (by omega) (by omega)
  have t3:=mt_ok (k:=k+1+1+1) (by omega) (by omega)
  have w3:IntKind.i64.wrap (k+1+1+1+1)=k+1+1+1+1:=wrap_k (by omega) (by omega)
  have s4:=m110_1 _ a4 (F9 _) b4 c4 (k+1+1+1+1) (by omega) (by omega)
  skip
  have w5:IntKind.i64.wrap (k+1+1+1+1+(cntR a4:Int)+1)=k+1+1+1+1+(cntR a4:Int)+1:=wrap_k (by omega) (by omega)
  have w6:IntKind.i64.wrap (k+1+1+1+1+(cntR a4:Int)+1+1)=k+1+1+1+1+(cntR a4:Int)+1+1:=wrap_k (by omega) (by omega)
  have t7:=mt_ok (k:=k+1+1+1+1+(cntR a4:Int)+1+1) (by omega) (by omega)
  have w7:IntKind.i64.wrap (k+1+1+1+1+(cntR a4:Int)+1+1+1)=k+1+1+1+1+(cntR a4:Int)+1+1+1:=wrap_k (by omega) (by omega)
  have s8:=m110_1 _ a8 (F9 _) b8 c8 (k+1+1+1+1+(cntR a4:Int)+1+1+1) (by omega) (by omega)
  skip
  have s9:=m141_1 (k:=k+1+1+1+1+(cntR a4:Int)+1+1+1+(cntR a8:Int)) b9 c9 (by omega) (by omega)
  skip
  rw [e96_1_1];simp only [B9,over_row_two hiy,over_row_at hiy,over_row_len hiy,hyl,hy,inbN,hi,H3,H1,C3,over,nth,B7,B8,D.I,D.S,D.L,D.B,t0,w0,w1,w2,t3,w3,s4,w5,w6,t7,w7,s8,s9,B5,wrap_succ hi hl]) (fun k y hyl=>by
  rw [e96_1_1];simp [hyl])
 rw [C4] at hf;simp only [hf,B5,D7,H1,nth,B7,B8,D.I,D.S,D.L,D.B]
theorem m97_1 {rs:Rows} (hl:rs.length<=maxLen) (hW:WRs H rs L215) {k:Int} (hk:0<k) (hb:k+cntR rs<=BK):rn ⟨97,1,0⟩ [.int k,.sl rs]=some (0,[.int (k+cntR rs),.sl (mkR mt rs k)]):=by
 show rn ⟨97,1,0⟩ _=_
 rw [e97_1_0];have hf:=mark_loop (mt:=mt) (F:=fun i k y=>rn ⟨97,1,1⟩ [.int k,.int (i:Int),.sl y]) (rs:=rs) hk hb (fun i hi k y hyl hy hk hb=>by
  have hw:=WRs_mem hW (C0 hi);obtain ⟨a0,a1,hr,b0⟩:=wl215 hw;have hiy:i<y.length:=by omega
  rw [hr] at hy hb ⊢;have em:mkL mt [.str a0,.int a1] k=[.str (mt (k)),.int (k+1)]:=by simp only [mkL,mkD,cntD,N7]
  have ek:k+((cntL [.str a0,.int a1]:Nat):Int)=k+1+1:=by simp only [cntL,cntD]; omega
  rw [em];rw [ek] at hb ⊢;have t0:=mt_ok (k:=k) (by omega) (by omega)
  have w0:IntKind.i64.wrap (k+1)=k+1:=wrap_k (by omega) (by omega)
  have w1:IntKind.i64.wrap (k+1+1)=k+1+1:=wrap_k (by omega) (by omega)
  rw [e97_1_1];simp only [B9,over_row_two hiy,over_row_at hiy,over_row_len hiy,hyl,hy,inbN,hi,H3,H1,C3,over,nth,B7,B8,D.I,D.S,D.L,D.B,t0,w0,w1,B5,wrap_succ hi hl]) (fun k y hyl=>by
  rw [e97_1_1];simp [hyl])
 rw [C4] at hf;simp only [hf,B5,D7,H1,nth,B7,B8,D.I,D.S,D.L,D.B]
theorem mT24_1 (a0:Rows) (a1:Rows) (a2:Rows) (a3:Rows) (h:WL H [.sl a0,.sl a1,.sl a2,.sl a3] L45) {k:Int} (hk:0<k) (hb:k+(cntR a0:Int)+(cntR a1:Int)+(cntR a2:Int)+(cntR a3:Int)<=BK):rn ⟨24,1,0⟩ [.int k,.sl a0,.sl a1,.sl a2,.sl a3]=some (0,[.int (k+(cntR a0:Int)+(cntR a1:Int)+(cntR a2:Int)+(cntR a3:Int)),.sl (mkR mt a0 (k)),.sl (mkR mt a1 (k+(cntR a0:Int))),.sl (mkR mt a2 (k+(cntR a0:Int)+(cntR a1:Int))),.sl (mkR mt a3 (k+(cntR a0:Int)+(cntR a1:Int)+(cntR a2:Int)))]):=by
 obtain ⟨x0,x1,x2,x3,hh,bx0,cx0,bx1,cx1,bx2,cx2,bx3,cx3⟩:=wl45 h;simp only [J5.injEq,D.int.injEq,D.bool.injEq,D.str.injEq,D.sl.injEq,and_true] at hh;obtain ⟨rfl,rfl,rfl,rfl⟩:=hh;have w0:WL H [.sl a0,.sl a1] L41:=WL.part 0 2 h;have e0:=mT95_1 a0 a1 w0 (k:=k) (by omega) (by omega)
 skip
 have e1:=m96_1 (k:=k+(cntR a0:Int)+(cntR a1:Int)) bx2 cx2 (by omega) (by omega)
 skip
 have e2:=m97_1 (k:=k+(cntR a0:Int)+(cntR a1:Int)+(cntR a2:Int)) bx3 cx3 (by omega) (by omega)
 skip
 show rn ⟨24,1,0⟩ _=_
 rw [e24_1_0];simp only [e0,e1,e2,B5,H2,nth,B7,B8,D.I,D.S,D.L,D.B]
theorem m110_2 {rs:Rows} (hl:rs.length<=maxLen) (hW:WRs H rs L49) {k:Int} (hk:0<k) (hb:k+cntR rs<=BK):rn ⟨110,2,0⟩ [.int k,.sl rs]=some (0,[.int (k+cntR rs),.sl (mkR mt rs k)]):=by
 show rn ⟨110,2,0⟩ _=_
 rw [e110_2_0];have hf:=mark_loop (mt:=mt) (F:=fun i k y=>rn ⟨110,2,1⟩ [.int k,.int (i:Int),.sl y]) (rs:=rs) hk hb (fun i hi k y hyl hy hk hb=>by
  have hw:=WRs_mem hW (C0 hi);obtain ⟨a0,a1,a2,a3,hr,b2,b3,c3⟩:=wl49 hw;have hiy:i<y.length:=by omega
  rw [hr] at hy hb ⊢;have em:mkL mt [.int a0,.int a1,.str a2,.sl a3] k=[.int (k),.int (k+1),.str (mt (k+1+1)),.sl (mkR mt a3 (k+1+1+1))]:=by simp only [mkL,mkD,cntD,N7]
  have ek:k+((cntL [.int a0,.int a1,.str a2,.sl a3]:Nat):Int)=k+1+1+1+(cntR a3:Int):=by simp only [cntL,cntD]; omega
  rw [em];rw [ek] at hb ⊢;have w0:IntKind.i64.wrap (k+1)=k+1:=wrap_k (by omega) (by omega)
  have w1:IntKind.i64.wrap (k+1+1)=k+1+1:=wrap_k (by omega) (by omega)
  have t2:=mt_ok (k:=k+1+1) (by omega) (by omega)
  have w2:IntKind.i64.wrap (k+1+1+1)=k+1+1+1:=wrap_k (by omega) (by omega)
  have s3:=m110_1 _ a3 (F9 _) b3 c3 (k+1+1+1) (by omega) (by omega)
  skip
  rw [e110_2_1];simp only [B9,over_row_two hiy,over_row_at hiy,over_row_len hiy,hyl,hy,inbN,hi,H3,H1,C3,over,nth,B7,B8,D.I,D.S,D.L,D.B,w0,w1,t2,w2,s3,B5,wrap_succ hi hl]) (fun k y hyl=>by
  rw [e110_2_1];simp [hyl])
 rw [C4] at hf;simp only [hf,B5,D7,H1,nth,B7,B8,D.I,D.S,D.L,D.B]
theorem mT99_1 (a0:Int) (a1:Int) (a2:ByteArray) (a3:Rows) (h:WL H [.int a0,.int a1,.str a2,.sl a3] L49) {k:Int} (hk:0<k) (hb:k+(cntR a3:Int)<=BK):rn ⟨99,1,0⟩ [.int a0,.int a1,.str a2,.int k,.sl a3]=some (0,[.int (k+(cntR a3:Int)),.sl (mkR mt a3 (k))]):=by
 obtain ⟨x0,x1,x2,x3,hh,bx2,bx3,cx3⟩:=wl49 h;simp only [J5.injEq,D.int.injEq,D.bool.injEq,D.str.injEq,D.sl.injEq,and_true] at hh;obtain ⟨rfl,rfl,rfl,rfl⟩:=hh;have e0:=m110_2 (k:=k) bx3 cx3 (by omega) (by omega)
 skip
 show rn ⟨99,1,0⟩ _=_
 rw [e99_1_0];simp only [e0,B5,H2,nth,B7,B8,D.I,D.S,D.L,D.B]
theorem m100_1 {rs:Rows} (hl:rs.length<=maxLen) (hW:WRs H rs L3) {k:Int} (hk:0<k) (hb:k+cntR rs<=BK):rn ⟨100,1,0⟩ [.int k,.sl rs]=some (0,[.int (k+cntR rs),.sl (mkR mt rs k)]):=by
 show rn ⟨100,1,0⟩ _=_
 rw [e100_1_0];have hf:=mark_loop (mt:=mt) (F:=fun i k y=>rn ⟨100,1,1⟩ [.int k,.int (i:Int),.sl y]) (rs:=rs) hk hb (fun i hi k y hyl hy hk hb=>by
  have hw:=WRs_mem hW (C0 hi);obtain ⟨a0,hr⟩:=wl3 hw;have hiy:i<y.length:=by omega
  rw [hr] at hy hb ⊢;have em:mkL mt [.int a0] k=[.int (k)]:=by simp only [mkL,mkD,cntD,N7]
  have ek:k+((cntL [.int a0]:Nat):Int)=k+1:=by simp only [cntL,cntD]; omega
  rw [em];rw [ek] at hb ⊢;have w0:IntKind.i64.wrap (k+1)=k+1:=wrap_k (by omega) (by omega)
  rw [e100_1_1];simp only [B9,over_row_two hiy,over_row_at hiy,over_row_len hiy,hyl,hy,inbN,hi,H3,H1,C3,over,nth,B7,B8,D.I,D.S,D.L,D.B,w0,B5,wrap_succ hi hl]) (fun k y hyl=>by
  rw [e100_1_1];simp [hyl])
 rw [C4] at hf;simp only [hf,B5,D7,H1,nth,B7,B8,D.I,D.S,D.L,D.B]
theorem mT25_1 (a0:Rows) (a1:Int) (a2:Int) (a3:ByteArray) (a4:Rows) (a5:Rows) (h:WL H [.sl a0,.int a1,.int a2,.str a3,.sl a4,.sl a5] L51) {k:Int} (hk:0<k) (hb:k+(cntR a0:Int)+(cntR a4:Int)+(cntR a5:Int)<=BK):rn ⟨25,1,0⟩ [.int a1,.int a2,.str a3,.int k,.sl a0,.sl a4,.sl a5]=some (0,[.int (k+(cntR a0:Int)+(cntR a4:Int)+(cntR a5:Int)),.sl (mkR mt a0 (k)),.sl (mkR mt a4 (k+(cntR a0:Int))),.sl (mkR mt a5 (k+(cntR a0:Int)+(cntR a4:Int)))]):=by
 obtain ⟨x0,x1,x2,x3,x4,x5,hh,bx0,cx0,bx3,bx4,cx4,bx5,cx5⟩:=wl51 h;simp only [J5.injEq,D.int.injEq,D.bool.injEq,D.str.injEq,D.sl.injEq,and_true] at hh;obtain ⟨rfl,rfl,rfl,rfl,rfl,rfl⟩:=hh;have e0:=m98_1 (k:=k) bx0 cx0 (by omega) (by omega)
 skip
 have w1:WL H [.int a1,.int a2,.str a3,.sl a4] L49:=WL.part 1 4 h;have e1:=mT99_1 a1 a2 a3 a4 w1 (k:=k+(cntR a0:Int)) (by omega) (by omega)
 skip
 have e2:=m100_1 (k:=k+(cntR a0:Int)+(cntR a4:Int)) bx5 cx5 (by omega) (by omega)
 skip
 show rn ⟨25,1,0⟩ _=_
 rw [e25_1_0];simp only [e0,e1,e2,B5,H2,nth,B7,B8,D.I,D.S,D.L,D.B]
theorem h101_0 {rs:Rows} (hl:rs.length<=maxLen) (hW:WRs H rs L9) {k:Int} (hk:0<k) (hb:k+cntR rs<=BK):rn ⟨101,0,0⟩ [.sl (mkR mt rs k),.int k]=some (0,[.int (k+cntR rs)]):=by
 show rn ⟨101,0,0⟩ _=_
 rw [e101_0_0];have hf:=held_loop (mt:=mt) (F:=fun i k'=>rn ⟨101,0,1⟩ [.sl (mkR mt rs k),.int k',.int (i:Int)]) (rs:=rs) hk hb (fun i hi k hrow hk hb=>by
  have hw:=WRs_mem hW (C0 hi);obtain ⟨a0,hr,b0⟩:=wl9 hw;rw [hr] at hrow hb ⊢;have em:mkL mt [.str a0] k=[.str (mt (k))]:=by simp only [mkL,mkD,cntD,N7]
  have ek:k+((cntL [.str a0]:Nat):Int)=k+1:=by simp only [cntL,cntD]; omega
  rw [em] at hrow;rw [ek] at hb ⊢;have t0:=mt_ok (k:=k) (by omega) (by omega)
  have w0:IntKind.i64.wrap (k+1)=k+1:=wrap_k (by omega) (by omega)
  rw [e101_0_1];simp only [mkR_len,B9,hrow,inbN,hi,H3,H1,C3,D9,H2,nth,B7,B8,D.I,D.S,D.L,D.B,t0,w0,B5,wrap_succ hi hl]) (fun k'=>by
  rw [e101_0_1];simp [mkR_len])
 rw [C4] at hf;simp only [hf,B5,D7,H1,nth,B7,B8,D.I,D.S,D.L,D.B]
theorem h111_0:∀ (N:Nat) (rs:Rows),SizeOf.sizeOf rs<N->rs.length<=maxLen->WRs H rs L49->∀ k:Int,0<k->k+cntR rs<=BK->rn ⟨111,0,0⟩ [.sl (mkR mt rs k),.int k]=some (0,[.int (k+cntR rs)])
 | 0,rs,hN,_,_,_,_,_=>absurd hN (P9 _)
 | N+1,rs,hN,hl,hW,k,hk,hb=>by
  show rn ⟨111,0,0⟩ _=_
  rw [e111_0_0];have hf:=held_loop (mt:=mt) (F:=fun i k'=>rn ⟨111,0,1⟩ [.sl (mkR mt rs k),.int k',.int (i:Int)]) (rs:=rs) hk hb (fun i hi k hrow hk hb=>by
   have hw:=WRs_mem hW (C0 hi);obtain ⟨a0,a1,a2,a3,hr,b2,b3,c3⟩:=wl49 hw;rw [hr] at hrow hb ⊢;have em:mkL mt [.int a0,.int a1,.str a2,.sl a3] k=[.int (k),.int (k+1),.str (mt (k+1+1)),.sl (mkR mt a3 (k+1+1+1))]:=by simp only [mkL,mkD,cntD,N7]
   have ek:k+((cntL [.int a0,.int a1,.str a2,.sl a3]:Nat):Int)=k+1+1+1+(cntR a3:Int):=by simp only [cntL,cntD]; omega
   rw [em] at hrow;rw [ek] at hb ⊢;have w0:IntKind.i64.wrap (k+1)=k+1:=wrap_k (by omega) (by omega)
   have w1:IntKind.i64.wrap (k+1+1)=k+1+1:=wrap_k (by omega) (by omega)
   have t2:=mt_ok (k:=k+1+1) (by omega) (by omega)
   have w2:IntKind.i64.wrap (k+1+1+1)=k+1+1+1:=wrap_k (by omega) (by omega)
   have s3:=h111_0 N a3 (by have h1:=size_row (r:=rs[i]) (rs:=rs) (C0 hi); rw [hr] at h1; simp only [J5.sizeOf_spec,D.sl.sizeOf_spec] at h1 hN; omega) b3 c3 (k+1+1+1) (by omega) (by omega)
   skip
   have n3:=int_lt_zero (show 0<k+1+1+1+(cntR a3:Int) by omega)
   rw [e111_0_1];simp only [mkR_len,B9,hrow,inbN,hi,H3,H1,C3,D9,H2,nth,B7,B8,D.I,D.S,D.L,D.B,w0,w1,t2,w2,s3,n3,B5,wrap_succ hi hl]) (fun k'=>by
   rw [e111_0_1];simp [mkR_len])
  rw [C4] at hf;simp only [hf,B5,D7,H1,nth,B7,B8,D.I,D.S,D.L,D.B]
theorem hT102_0 (a0:Int) (a1:Int) (a2:ByteArray) (a3:Rows) (h:WL H [.int a0,.int a1,.str a2,.sl a3] L49) {k:Int} (hk:0<k) (hb:k+(cntR a3:Int)<=BK):rn ⟨102,0,0⟩ [.int a0,.int a1,.str a2,.sl (mkR mt a3 (k)),.int k]=some (0,[.int (k+(cntR a3:Int))]):=by
 obtain ⟨x0,x1,x2,x3,hh,bx2,bx3,cx3⟩:=wl49 h;simp only [J5.injEq,D.int.injEq,D.bool.injEq,D.str.injEq,D.sl.injEq,and_true] at hh;obtain ⟨rfl,rfl,rfl,rfl⟩:=hh;have e0:=h111_0 _ a3 (F9 _) bx3 cx3 (k) (by omega) (by omega)
 skip
 have n0:=int_lt_zero (show 0<k+(cntR a3:Int) by omega)
 show rn ⟨102,0,0⟩ _=_
 rw [e102_0_0];simp only [e0,n0,B5,H2,nth,B7,B8,D.I,D.S,D.L,D.B]
theorem h103_0 {rs:Rows} (hl:rs.length<=maxLen) (hW:WRs H rs L3) {k:Int} (hk:0<k) (hb:k+cntR rs<=BK):rn ⟨103,0,0⟩ [.sl (mkR mt rs k),.int k]=some (0,[.int (k+cntR rs)]):=by
 show rn ⟨103,0,0⟩ _=_
 rw [e103_0_0];have hf:=held_loop (mt:=mt) (F:=fun i k'=>rn ⟨103,0,1⟩ [.sl (mkR mt rs k),.int k',.int (i:Int)]) (rs:=rs) hk hb (fun i hi k hrow hk hb=>by
  have hw:=WRs_mem hW (C0 hi);obtain ⟨a0,hr⟩:=wl3 hw;rw [hr] at hrow hb ⊢;have em:mkL mt [.int a0] k=[.int (k)]:=by simp only [mkL,mkD,cntD,N7]
  have ek:k+((cntL [.int a0]:Nat):Int)=k+1:=by simp only [cntL,cntD]; omega
  rw [em] at hrow;rw [ek] at hb ⊢;have w0:IntKind.i64.wrap (k+1)=k+1:=wrap_k (by omega) (by omega)
  rw [e103_0_1];simp only [mkR_len,B9,hrow,inbN,hi,H3,H1,C3,D9,H2,nth,B7,B8,D.I,D.S,D.L,D.B,w0,B5,wrap_succ hi hl]) (fun k'=>by
  rw [e103_0_1];simp [mkR_len])
 rw [C4] at hf;simp only [hf,B5,D7,H1,nth,B7,B8,D.I,D.S,D.L,D.B]
theorem hT26_0 (a0:Rows) (a1:Int) (a2:Int) (a3:ByteArray) (a4:Rows) (a5:Rows) (h:WL H [.sl a0,.int a1,.int a2,.str a3,.sl a4,.sl a5] L51) {k:Int} (hk:0<k) (hb:k+(cntR a0:Int)+(cntR a4:Int)+(cntR a5:Int)<=BK):rn ⟨26,0,0⟩ [.sl (mkR mt a0 (k)),.int a1,.int a2,.str a3,.sl (mkR mt a4 (k+(cntR a0:Int))),.sl (mkR mt a5 (k+(cntR a0:Int)+(cntR a4:Int))),.int k]=some (0,[.int (k+(cntR a0:Int)+(cntR a4:Int)+(cntR a5:Int))]):=by
 obtain ⟨x0,x1,x2,x3,x4,x5,hh,bx0,cx0,bx3,bx4,cx4,bx5,cx5⟩:=wl51 h;simp only [J5.injEq,D.int.injEq,D.bool.injEq,D.str.injEq,D.sl.injEq,and_true] at hh;obtain ⟨rfl,rfl,rfl,rfl,rfl,rfl⟩:=hh;have e0:=h101_0 (k:=k) bx0 cx0 (by omega) (by omega)
 skip
 have n0:=int_lt_zero (show 0<k+(cntR a0:Int) by omega)
 have w1:WL H [.int a1,.int a2,.str a3,.sl a4] L49:=WL.part 1 4 h;have e1:=hT102_0 a1 a2 a3 a4 w1 (k:=k+(cntR a0:Int)) (by omega) (by omega)
 skip
 have n1:=int_lt_zero (show 0<k+(cntR a0:Int)+(cntR a4:Int) by omega)
 have e2:=h103_0 (k:=k+(cntR a0:Int)+(cntR a4:Int)) bx5 cx5 (by omega) (by omega)
 skip
 have n2:=int_lt_zero (show 0<k+(cntR a0:Int)+(cntR a4:Int)+(cntR a5:Int) by omega)
 show rn ⟨26,0,0⟩ _=_
 rw [e26_0_0];simp only [e0,n0,e1,n1,e2,n2,B5,H2,nth,B7,B8,D.I,D.S,D.L,D.B]
end Go.Q.S
end
section
namespace Go.Proofs
open Go.Shelf
def Tryz.lays190_ren:Go.Shelf.Ren:=⟨fun | 190=>312 | 125=>344 | 258=>343 | 128=>359 | 129=>360 | 302=>350 | 303=>351 | 304=>352 | 305=>353 | 306=>354 | 307=>355 | 308=>356 | 309=>357 | 310=>358 | 333=>361 | 329=>362 | 330=>363 | 334=>364 | 335=>365 | 336=>366 | 344=>367 | n=>n,fun | 31=>22 | 9=>9 | 3=>3 | 46=>356 | 0=>0 | 51=>368 | 53=>370 | 4=>4 | 183=>361 | 182=>360 | 131=>192 | 5=>5 | 218=>371 | 222=>375 | 228=>377 | 229=>378 | n=>n,fun | n=>n⟩
theorem Tryz.lays190:Go.Proofs.Lays.n190 Tryz.prog Tryz.lays190_ren:={
 mixed:=by kernel_rfl
 f125:=Tryz.func344.trans (congrArg some (by kernel_rfl))
 f128:=Tryz.func359.trans (congrArg some (by kernel_rfl))
 f129:=Tryz.func360.trans (congrArg some (by kernel_rfl))
 f190:=Tryz.func312.trans (congrArg some (by kernel_rfl))
 f258:=Tryz.func343.trans (congrArg some (by kernel_rfl))
 f302:=Tryz.func350.trans (congrArg some (by kernel_rfl))
 f303:=Tryz.func351.trans (congrArg some (by kernel_rfl))
 f304:=Tryz.func352.trans (congrArg some (by kernel_rfl))
 f305:=Tryz.func353.trans (congrArg some (by kernel_rfl))
 f306:=Tryz.func354.trans (congrArg some (by kernel_rfl))
 f307:=Tryz.func355.trans (congrArg some (by kernel_rfl))
 f308:=Tryz.func356.trans (congrArg some (by kernel_rfl))
 f309:=Tryz.func357.trans (congrArg some (by kernel_rfl))
 f310:=Tryz.func358.trans (congrArg some (by kernel_rfl))
 f329:=Tryz.func362.trans (congrArg some (by kernel_rfl))
 f330:=Tryz.func363.trans (congrArg some (by kernel_rfl))
 f333:=Tryz.func361.trans (congrArg some (by kernel_rfl))
 f334:=Tryz.func364.trans (congrArg some (by kernel_rfl))
 f335:=Tryz.func365.trans (congrArg some (by kernel_rfl))
 f336:=Tryz.func366.trans (congrArg some (by kernel_rfl))
 f344:=Tryz.func367.trans (congrArg some (by kernel_rfl))
 t0:=Tryz.underlying0
 a0:=Tryz.isAgg0
 z0:=Tryz.sizeOf0
 v0:=Tryz.zeroValue0
 t3:=Tryz.underlying3
 a3:=Tryz.isAgg3
 z3:=Tryz.sizeOf3
 v3:=Tryz.zeroValue3
 t4:=Tryz.underlying4
 a4:=Tryz.isAgg4
 z4:=Tryz.sizeOf4
 v4:=Tryz.zeroValue4
 t5:=Tryz.underlying5
 a5:=Tryz.isAgg5
 z5:=Tryz.sizeOf5
 v5:=Tryz.zeroValue5
 t9:=Tryz.underlying9
 a9:=Tryz.isAgg9
 z9:=Tryz.sizeOf9
 v9:=Tryz.zeroValue9
 t31:=Tryz.underlying22
 a31:=Tryz.isAgg22
 z31:=Tryz.sizeOf22
 v31:=Tryz.zeroValue22
 t46:=Tryz.underlying356
 a46:=Tryz.isAgg356
 z46:=Tryz.sizeOf356
 v46:=Tryz.zeroValue356
 t51:=Tryz.underlying368
 a51:=Tryz.isAgg368
 z51:=Tryz.sizeOf368
 v51:=Tryz.zeroValue368
 t53:=Tryz.underlying370
 a53:=Tryz.isAgg370
 z53:=Tryz.sizeOf370
 v53:=Tryz.zeroValue370
 t131:=Tryz.underlying192
 a131:=Tryz.isAgg192
 z131:=Tryz.sizeOf192
 v131:=Tryz.zeroValue192
 t182:=Tryz.underlying360
 a182:=Tryz.isAgg360
 z182:=Tryz.sizeOf360
 v182:=Tryz.zeroValue360
 t183:=Tryz.underlying361
 a183:=Tryz.isAgg361
 z183:=Tryz.sizeOf361
 v183:=Tryz.zeroValue361
 t218:=Tryz.underlying371
 a218:=Tryz.isAgg371
 z218:=Tryz.sizeOf371
 v218:=Tryz.zeroValue371
 t222:=Tryz.underlying375
 a222:=Tryz.isAgg375
 z222:=Tryz.sizeOf375
 v222:=Tryz.zeroValue375
 t228:=Tryz.underlying377
 a228:=Tryz.isAgg377
 z228:=Tryz.sizeOf377
 v228:=Tryz.zeroValue377
 t229:=Tryz.underlying378
 a229:=Tryz.isAgg378
 z229:=Tryz.sizeOf378
 v229:=Tryz.zeroValue378 }
def Tryz.lays194_ren:Go.Shelf.Ren:=⟨fun | 194=>313 | n=>n,fun | 31=>22 | 9=>9 | 3=>3 | 4=>4 | 0=>0 | n=>n,fun | n=>n⟩
theorem Tryz.lays194:Go.Proofs.Lays.n194 Tryz.prog Tryz.lays194_ren:={
 mixed:=by kernel_rfl
 f194:=Tryz.func313.trans (congrArg some (by kernel_rfl))
 t0:=Tryz.underlying0
 a0:=Tryz.isAgg0
 z0:=Tryz.sizeOf0
 v0:=Tryz.zeroValue0
 t3:=Tryz.underlying3
 a3:=Tryz.isAgg3
 z3:=Tryz.sizeOf3
 v3:=Tryz.zeroValue3
 t4:=Tryz.underlying4
 a4:=Tryz.isAgg4
 z4:=Tryz.sizeOf4
 v4:=Tryz.zeroValue4
 t9:=Tryz.underlying9
 a9:=Tryz.isAgg9
 z9:=Tryz.sizeOf9
 v9:=Tryz.zeroValue9
 t31:=Tryz.underlying22
 a31:=Tryz.isAgg22
 z31:=Tryz.sizeOf22
 v31:=Tryz.zeroValue22 }
end Go.Proofs
namespace Go.Q.S
open Go Go.Q Go.Proofs
theorem kiF_mem:∀ {l:List (Nat × Nat × KI)} {v n:Nat} {i:KI},kiF l v n=some i->∃ a b,(a,b,i)∈l
 | [],v,n,i,h=>by simp [kiF] at h
 | (a,b,x)::r,v,n,i,h=>by
  unfold kiF at h;cases hb:E3 a v&&E3 b n with
  | true=>rw [hb] at h; simp only [H1,D3.injEq] at h; exact ⟨a,b,by rw [h]; exact List.mem_cons_self ..⟩
  | false =>
   rw [hb] at h;obtain ⟨a',b',h'⟩:=kiF_mem h;exact ⟨a',b',List.mem_cons_of_mem _ h'⟩
theorem ext_ok:∀ f g,H.ext f=some g->∀ v ls x,g v ls=some x->FnT Tryz.prog H ⟨f,v,0⟩ ls x:=fun f g h v ls x hx=>by
 have h:lookN extL f=some g:=h;simp only [extL,lookN] at h;cases h1:E3 312 f with
 | true =>
  rw [h1] at h;simp only [H1,D3.injEq] at h;subst h;obtain rfl:=beqN.1 h1;refine sort_fnT Go.Proofs.Tryz.lays190 rfl (E:=9) (fl:=[]) rfl Tryz.func312 (fun he=>by cases he) (of_decide_eq_false (by kernel_rfl)) (fun i hi=>?_) hx
  obtain ⟨a,b,hm⟩:=kiF_mem (l:=[(0,0,⟨[(0,.hd 0)],[(0,.arr 9 .deep)],[⟨.ret,[],[(0,.arr 9 .deep)]⟩]⟩)]) hi;simp only [D8,List.not_mem_nil,or_false,Prod.mk.injEq] at hm;exact hm.2.2
 | false =>
 rw [h1] at h;simp only [H2] at h;cases h1:E3 313 f with
 | true =>
  rw [h1] at h;simp only [H1,D3.injEq] at h;subst h;obtain rfl:=beqN.1 h1;refine comp_fnT Go.Proofs.Tryz.lays194 rfl (E:=9) (fl:=[]) rfl Tryz.func313 (fun he=>by cases he) (of_decide_eq_false (by kernel_rfl)) (fun i hi=>?_) hx
  obtain ⟨a,b,hm⟩:=kiF_mem (l:=[(0,0,⟨[(0,.hd 0)],[(0,.arr 9 .deep)],[⟨.ret,[(0,.hd 16)],[(16,.arr 9 .deep)]⟩]⟩)]) hi;simp only [D8,List.not_mem_nil,or_false,Prod.mk.injEq] at hm;exact hm.2.2
 | false =>
 rw [h1] at h;simp only [H2] at h;simp at h
theorem fits:Fits Tryz.prog H where
 ty:=tyOK_of (l:=tyL) (fun _=>rfl) (by kernel_rfl)
 eq:=eqOK_of (l:=eqL) (fun _=>rfl) (by kernel_rfl)
 mixed:=Tryz.checked.mixed
 names:=names_of (by kernel_rfl)
 ext:=ext_ok
end Go.Q.S
end
section
namespace Go.Q.S
open Go Go.Q Go.Proofs
def RL:List (Nat × Nat):=[(3,3),(9,9),(25,25),(25,41),(29,29),(29,45),(32,32),(32,49),(35,35),(35,51),(41,25),(41,41),(45,29),(45,45),(49,32),(49,49),(51,35),(51,51),(197,197),(197,213),(200,200),(200,215),(213,197),(213,213),(215,200),(215,215),(275,275),(275,311),(279,279),(279,286),(286,279),(286,286),(311,275),(311,311)]
theorem simR:simB H RL=true:=by kernel_rfl
theorem cv {ds:List D} {c c':List CT} (h:WL H ds c) (hc:layB RL c c'=true):WL H ds c':=WL.conv simR ds h hc
theorem bd20:Bd 1048576:=by unfold Bd; omega
theorem sub_le {b:Int} {n:Nat} (h:¬ sub b n<0):(n:Int)<=b/\sub b n=b-n:=by unfold sub at *; split at h <;> simp_all
theorem tmTy:TmTy H 49 [.int .i64,.int .i64,.str,.sl 49]:=⟨rfl,_,ty49,rfl⟩
theorem wide64:∀ e ti,H.ty e=some ti->ti.lay.length<=64:=fun e ti h=>by
 have hq:tyL.all (fun p=>G9 p.2.lay.length 64)=true:=by kernel_rfl
 have:=List.all_eq_true.1 hq _ (lookN_mem (show lookN tyL e=some ti from h))
 exact Nat.le_of_ble_eq_true this
end Go.Q.S
end
