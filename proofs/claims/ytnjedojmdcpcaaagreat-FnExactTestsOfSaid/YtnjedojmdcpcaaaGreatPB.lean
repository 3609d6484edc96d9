/- The functions of this seat, as that machine runs them, part 2. -/
import Derived.Test.YtnjedojmdcpcaaaGreatPA
import Derived.Test.YtnjedojmdcpcaaaGreatMA
import Derived.Test.YtnjedojmdcpcaaaGreatQD
import Derived.Test.YtnjedojmdcpcaaaGreattsX2
import Derived.Test.YtnjedojmdcpcaaaGreatChecked
set_option linter.unusedVariables false
set_option linter.unusedSimpArgs false
open Bool renaming and_eq_true->C3,not_true->D8,true_and->F7,not_false->K6,and_self->O1
open Int renaming toNat_natCast->B9,ofNat_lt->C2,natCast_zero->C4,natCast_one->N1,toNat->O5,tmod->R3
open List renaming length_map->B6,getD_cons_zero->B7,getD_cons_succ->B8,getElem_mem->C0,drop_eq_getElem_cons->C1,length_cons->C5,map_cons->C8,drop_length->C9,length_nil->D0,nil_append->D1,drop_zero->D2,mem_append->D3,cons_append->D5,append_assoc->D9,length_append->E0,map_nil->E1,mem_cons->E2,map_append->E4,mem_singleton->E8,getElem?_eq_getElem->F6,append_nil->G8,sum_cons->J8,cons->K0,flatMap_cons->K9,take_of_length_le->N3,filterMap_cons->P4,take_append_of_le_length->P9,length_take->Q7,flatMap_nil->R9,filterMap_nil->T4,findIdx?_nil->T9
open Nat renaming lt_irrefl->D4,beq_refl->D7,zero_add->E3,beq->E5,ble_eq_true_of_le->E7,lt_succ_self->F2,ble->F4,le_refl->F9,blt->K4,zero_le->K5,not_lt_zero->Q1
open Option renaming bind_some->B5,some->D6,isSome_some->R0
section
namespace Go.Q.S
open Go Go.Q Go.Proofs
theorem symI (d:DfM) (hb:DfB d) (vars:List ByteArray) (hv:vars.length<=1048576) (hvs:∀ x∈vars,x.size<=maxLen) (t:Tm) (hw:Wt t) (hn:t.nodes<=1048577) (cs:List Int) (hcs:cs.length<=1048576):rn ⟨86,0,0⟩ [.sl (d.so.map sRow),.sl (d.op.map OpM.row),.sl (d.ru.map RuM.row),.sl (d.st.map StM.row),.sl (vars.map sRow),.int t.k,.int t.n,.str t.s,.sl (t.as.map Tm.row),.sl (cs.map iRow)]=some (0,[.bool (symC d vars t cs)]):=by
 have hl1:∀ n i,i+n=vars.length->rn ⟨86,0,1⟩ [.sl (vars.map sRow),.int (vars.length:Int),.int (i:Int),.sl (d.so.map sRow),.sl (d.op.map OpM.row),.sl (d.ru.map RuM.row),.sl (d.st.map StM.row),.sl (vars.map sRow),.int t.k,.int t.n,.str t.s,.sl (t.as.map Tm.row),.sl (cs.map iRow)]=bif (vars.drop i).all isVr then some (0,[.sl (d.so.map sRow),.sl (d.op.map OpM.row),.sl (d.ru.map RuM.row),.sl (d.st.map StM.row),.sl (vars.map sRow),.int t.k,.int t.n,.str t.s,.sl (t.as.map Tm.row),.sl (cs.map iRow)]) else some (1,[]):=by
  intro n;induction n with
  | zero =>
   intro i hi;obtain rfl:i=vars.length:=by omega
   rw [e86_0_1];simp only [B6,C2,D4,H4,H2,C9,List.all_nil,H1]
  | succ n ih =>
   intro i hi;have hlt:i<vars.length:=by omega
   rw [e86_0_1,C1 hlt];have h1:=r164 vars[i] (hvs _ (C0 hlt));simp only [B6,C2,hlt,H3,H1,inbN,B9,rowAt_map hlt,wrap_succ hlt (maxB (by omega)),sRow,nv0,nvS,dvI,dvB,dvS,dvL,B5,h1,ih (i+1) (by omega),List.all_cons]
   cases isVr vars[i] <;> rfl
 have h1:=hl1 vars.length 0 (by omega)
 simp only [D2,C4] at h1;have hl3:∀ n i,i+n=cs.length->rn ⟨86,0,3⟩ [.sl (cs.map iRow),.int (cs.length:Int),.int (i:Int),.sl (vars.map sRow),.int t.k,.int t.n,.str t.s,.sl (t.as.map Tm.row),.sl (cs.map iRow)]=bif incC vars.length (prv cs i) (cs.drop i) then some (0,[]) else some (1,[]):=by
  intro n;induction n with
  | zero =>
   intro i hi;obtain rfl:i=cs.length:=by omega
   rw [e86_0_3];simp only [B6,C2,D4,H4,H2,C9,incC,H1]
  | succ n ih =>
   intro i hi;have hlt:i<cs.length:=by omega
   have h1:=r169 vars.length cs[i];have hp:prv cs (i+1)=some cs[i]:=by simp [prv,hlt]
   have h2:=ih (i+1) (by omega)
   rw [hp] at h2;rw [e86_0_3,C1 hlt];simp only [B6,C2,hlt,H3,H1,inbN,B9,rowAt_map hlt,wrap_succ hlt (maxB (by omega)),iRow,nv0,nvS,dvI,dvB,dvS,dvL,B5,h1,incC,h2]
   cases isC vars.length cs[i] with
   | false=>rfl
   | true =>
    rcases i with _ | j
    · simp [prv]
    · have hj:j<cs.length:=by omega
      have q1:(0:Int)<((j+1:Nat):Int):=by omega
      have hw:IntKind.i64.wrap (((j+1:Nat):Int)-1)=(j:Int):=by rw [IntWalk.i64_in _ (by omega)]; omega
      simp only [q1,hw,inbN,hj,H3,H1,H2,D8,F7,B9,rowAt_map hj,iRow,nv0,nvS,dvI,dvB,dvS,dvL,B5,prv,F6 hj];by_cases q:cs[j+1]<=cs[j] <;> simp [q]
 have h8:=hl3 cs.length 0 (by omega)
 simp only [D2,C4,prv] at h8;have h2:=r162 d hb;have h3:=r163 vars hv;have h4:=r165 t (by omega) hw
 have h5:=r166 t hn vars (maxB (by omega))
 have h6:=r168 vars hv;have h7:=r167 (d.so.map sRow) d.op hb.op (wv vars) (by unfold wv; rw [B6]; omega) t hw
 rw [e86_0_0];simp only [B6,h2,h3,nv0,nvS,dvI,dvB,dvS,dvL,B5];unfold symC symV;cases d.valid
 · rfl
 · by_cases q1:vars.length<=3
   · have q1':¬((3:Int)<(vars.length:Int)):=by omega
     simp only [q1,q1',H3,H4,H2,F7,D8];cases dis vars
     · rfl
     · simp only [D8,H2,h1,F7]
       cases vars.all isVr
       · rfl
       · simp only [H1,nv0,nvS,dvI,dvB,dvS,dvL,B5,D7,H1,H2,h4,h5,h6,h7,F7]
         cases t.valid
         · rfl
         · cases within t vars
           · rfl
           · by_cases q2:sortT d.op (wv vars) t=e0
             · simp [q2]
             · simp only [q2,D8,K6,H2,H4,B6,h8,F7]
               cases incC vars.length none cs <;> rfl
   · have q1':((3:Int)<(vars.length:Int)):=by omega
     simp [q1,q1']
theorem symS (d:DfM) (hb:DfB d) (vars:List ByteArray) (hv:vars.length<=1048576) (hvs:∀ x∈vars,x.size<=maxLen) (t:Tm) (hw:Wt t) (hn:t.nodes<=1048577) (cs:List Int) (hcs:cs.length<=1048576):rn ⟨79,0,0⟩ [.sl (d.so.map sRow),.sl (d.op.map OpM.row),.sl (d.ru.map RuM.row),.sl (d.st.map StM.row),.sl (vars.map sRow),.int t.k,.int t.n,.str t.s,.sl (t.as.map Tm.row),.sl (cs.map iRow)]=some (0,[.bool (symC d vars t cs)]):=by
 have hl1:∀ n i,i+n=cs.length->rn ⟨79,0,1⟩ [.int (i:Int),.sl (d.so.map sRow),.sl (d.op.map OpM.row),.sl (d.ru.map RuM.row),.sl (d.st.map StM.row),.sl (vars.map sRow),.int t.k,.int t.n,.str t.s,.sl (t.as.map Tm.row),.sl (cs.map iRow)]=bif incC vars.length (prv cs i) (cs.drop i) then some (0,[.sl (d.so.map sRow),.sl (d.op.map OpM.row),.sl (d.ru.map RuM.row),.sl (d.st.map StM.row),.sl (vars.map sRow),.int t.k,.int t.n,.str t.s,.sl (t.as.map Tm.row),.sl (cs.map iRow)]) else some (1,[]):=by
  intro n;induction n with
  | zero =>
   intro i hi;obtain rfl:i=cs.length:=by omega
   rw [e79_0_1];simp only [B6,C2,D4,H4,H2,C9,incC,H1]
  | succ n ih =>
   intro i hi;have hlt:i<cs.length:=by omega
   have h1:=r155 vars.length;have hp:prv cs (i+1)=some cs[i]:=by simp [prv,hlt]
   have h2:=ih (i+1) (by omega)
   rw [hp] at h2;rw [e79_0_1,C1 hlt];simp only [B6,C2,hlt,H3,H1,inbN,B9,rowAt_map hlt,wrap_succ hlt (maxB (by omega)),iRow,nv0,nvS,dvI,dvB,dvS,dvL,B5,h1,rIn,wcnt,incC,h2]
   cases isC vars.length cs[i] with
   | false=>rfl
   | true =>
    rcases i with _ | j
    · simp [prv]
    · have hj:j<cs.length:=by omega
      have q1:(0:Int)<((j+1:Nat):Int):=by omega
      have hw:IntKind.i64.wrap (((j+1:Nat):Int)-1)=(j:Int):=by rw [IntWalk.i64_in _ (by omega)]; omega
      simp only [q1,hw,inbN,hj,H3,H1,H2,D8,F7,B9,rowAt_map hj,iRow,nv0,nvS,dvI,dvB,dvS,dvL,B5,prv,F6 hj];by_cases q:cs[j+1]<=cs[j] <;> simp [q]
 have h1:=hl1 cs.length 0 (by omega)
 simp only [D2,C4,prv] at h1;have h2:=r150 d hb;have h3:=r151 vars hv hvs;have h4:=r152 t (by omega) hw
 have hnt:=names_nodes t;have hsl:=srtN_len t.names;have h5:=r154 t hn;have h5':=r153 (srtN t.names) vars (by omega) (maxB (by omega))
 have h6:=r157 vars hv;have h7:=r156 (d.so.map sRow) d.op hb.op (wv vars) (by unfold wv; rw [B6]; omega) t hw
 rw [e79_0_0];simp only [B6,h1,h2,h3,h4,h5,h5',h6,h7,nv0,nvS,dvI,dvB,dvS,dvL,B5,D7,H1,H2];unfold symC symV;cases d.valid <;> try rfl
 cases decide (vars.length<=3) <;> try rfl
 cases dis vars <;> try rfl
 cases vars.all isVr <;> try rfl
 cases t.valid <;> try rfl
 have hw:=wo_srt' t vars;cases hw2:within t vars with
 | true =>
  rw [hw2] at hw;have:(wo (srtN t.names) vars).length=0:=hw.2 rfl;cases incC vars.length none cs with
  | false=>simp [this]; rfl
  | true =>
   simp only [this,C4,Int.lt_irrefl,H4,H2,H1,D8,nv0,nvS,dvI,dvB,dvS,dvL,B5,D7,H1,H2,h6,h7];simp
 | false =>
  rw [hw2] at hw;have:¬(wo (srtN t.names) vars).length=0:=fun h=>by have:=hw.1 h; simp at this
  have:0<(wo (srtN t.names) vars).length:=by omega
  simp [this]
end Go.Q.S
end
section
namespace Go.Q.S
open Go Go.Q Go.Proofs
theorem atI (t:Tm) (p:List Int) (hp:p.length<=1048576):rn ⟨260,0,0⟩ [.int t.k,.int t.n,.str t.s,.sl (t.as.map Tm.row),.sl (p.map iRow)]=some (0,[.int (atO t p).k,.int (atO t p).n,.str (atO t p).s,.sl ((atO t p).as.map Tm.row),.bool (atT t p).isSome]):=by
 have key:∀ n i (t:Tm),i+n=p.length->rn ⟨260,0,1⟩ [.sl (p.map iRow),.int (p.length:Int),.int (i:Int),.int t.k,.int t.n,.str t.s,.sl (t.as.map Tm.row),.int 0,.int 0,.str e0,.sl []]=match atT t (p.drop i) with
  | some u=>some (0,[.int u.k,.int u.n,.str u.s,.sl (u.as.map Tm.row),.int 0,.int 0,.str e0,.sl []])
  | none=>some (1,[.int 0,.int 0,.str e0,.sl []]):=by
  intro n;induction n with
  | zero =>
   intro i t hi;obtain rfl:i=p.length:=by omega
   rw [e260_0_1];simp only [B6,C2,D4,H4,H2,C9,atT]
  | succ n ih =>
   intro i t hi;have hlt:i<p.length:=by omega
   rw [e260_0_1,C1 hlt];generalize hj:p[i]=j;by_cases h0:j<0
   · have e:atT t (j::p.drop (i+1))=none:=by
      simp only [atT];split
      · rw [H6 (by omega)]
      · rfl
     rw [e];simp only [B6,C2,hlt,H3,H1,inbN,B9,rowAt_map hlt,wrap_succ hlt (maxB (by omega)),hj,iRow,nv0,nvS,dvI,dvB,dvS,dvL,B5,h0]
   · obtain ⟨m,rfl⟩:∃ m:Nat,j=(m:Int):=⟨j.toNat,by omega⟩
     by_cases hm:m<t.as.length
     · have h2:=ih (i+1) t.as[m] (by omega)
       have e:atT t ((m:Int)::p.drop (i+1))=atT t.as[m] (p.drop (i+1)):=by
        simp only [atT,B9,dif_pos hm];rw [H5 (by omega)]
       have q2:¬((t.as.length:Int)<=(m:Int)):=by omega
       rw [e,<- h2];simp only [B6,C2,hlt,H3,H1,inbN,B9,rowAt_map hlt,wrap_succ hlt (maxB (by omega)),hm,hj,h0,q2,H4,H2,rowAt_map hm,Tm.row_eq,iRow,nv0,nvS,dvI,dvB,dvS,dvL,B5]
     · have e:atT t ((m:Int)::p.drop (i+1))=none:=by simp only [atT,B9,dif_neg hm]
       have q2:(t.as.length:Int)<=(m:Int):=by omega
       rw [e];simp only [B6,C2,hlt,H3,H1,inbN,B9,rowAt_map hlt,wrap_succ hlt (maxB (by omega)),hj,h0,q2,H4,H2,iRow,nv0,nvS,dvI,dvB,dvS,dvL,B5]
 have h1:=key p.length 0 t (by omega)
 simp only [C4,D2] at h1;rw [e260_0_0];simp only [B6,h1];unfold atO;cases atT t p <;> rfl
theorem atS (t:Tm) (hn:t.nodes<=1048577) (p:List Int) (hp:p.length<=1048576):rn ⟨270,0,0⟩ [.int t.k,.int t.n,.str t.s,.sl (t.as.map Tm.row),.sl (p.map iRow)]=some (0,[.int (atO t p).k,.int (atO t p).n,.str (atO t p).s,.bool (atT t p).isSome,.sl ((atO t p).as.map Tm.row)]):=by
 have key:∀ n i (t:Tm),i+n=p.length->t.nodes<=1048577->rn ⟨270,0,1⟩ [.sl (p.map iRow),.int (i:Int),.int t.k,.int t.n,.str t.s,.sl (t.as.map Tm.row),.int 0,.int 0,.str e0,.sl []]=match atT t (p.drop i) with
  | some u=>some (0,[.int u.k,.int u.n,.str u.s,.sl (u.as.map Tm.row),.int 0,.int 0,.str e0,.sl []])
  | none=>some (1,[.int 0,.int 0,.str e0,.sl []]):=by
  intro n;induction n with
  | zero =>
   intro i t hi _;obtain rfl:i=p.length:=by omega
   rw [e270_0_1];simp only [B6,C2,D4,H4,H2,C9,atT]
  | succ n ih =>
   intro i t hi hn;have hlt:i<p.length:=by omega
   have hls:=len_sum (xs:=t.as);have hnd:=Tm.nodes_eq t;have hw:IntKind.i64.wrap ((t.as.length:Int)-1)=(t.as.length:Int)-1:=IntWalk.i64_in _ (by omega)
   rw [e270_0_1,C1 hlt];generalize hj:p[i]=j;by_cases h0:0<=j
   · obtain ⟨m,rfl⟩:∃ m:Nat,j=(m:Int):=⟨j.toNat,by omega⟩
     by_cases hm:m<t.as.length
     · have hmn:=mem_sum (f:=Tm.nodes) (C0 hm)
       have h2:=ih (i+1) t.as[m] (by omega) (by omega)
       have e:atT t ((m:Int)::p.drop (i+1))=atT t.as[m] (p.drop (i+1)):=by
        simp only [atT,B9,dif_pos hm];rw [H5 (by omega)]
       have q2:(m:Int)<=(t.as.length:Int)-1:=by omega
       rw [e,<- h2];simp only [B6,C2,hlt,H3,H1,inbN,B9,rowAt_map hlt,wrap_succ hlt (maxB (by omega)),hm,hj,hw,rIn,h0,q2,Bool.and_true,D8,H2,rowAt_map hm,Tm.row_eq,iRow,nv0,nvS,dvI,dvB,dvS,dvL,B5]
     · have e:atT t ((m:Int)::p.drop (i+1))=none:=by simp only [atT,B9,dif_neg hm]
       have q2:¬(m:Int)<=(t.as.length:Int)-1:=by omega
       rw [e];simp only [B6,C2,hlt,H3,H1,inbN,B9,rowAt_map hlt,wrap_succ hlt (maxB (by omega)),hj,hw,rIn,h0,q2,H4,Bool.and_false,K6,iRow,nv0,nvS,dvI,dvB,dvS,dvL,B5]
   · have e:atT t (j::p.drop (i+1))=none:=by
      simp only [atT];split <;> simp [h0]
     rw [e];simp only [B6,C2,hlt,H3,H1,inbN,B9,rowAt_map hlt,wrap_succ hlt (maxB (by omega)),hj,hw,rIn,h0,H4,Bool.false_and,K6,iRow,nv0,nvS,dvI,dvB,dvS,dvL,B5]
 have h1:=key p.length 0 t (by omega) hn
 simp only [C4,D2] at h1;rw [e270_0_0,h1];unfold atO;cases ha:atT t p with
 | none=>rfl
 | some u =>
  have hun:=atT_nodes p t u ha;have h3:=r188 u (small_of u (by omega))
  simp only [nv0,nvS,dvI,dvB,dvS,dvL,B5,D7,H1,H2,h3,Option.getD_some,R0]
theorem posI:∀ t:Tm,∀ p:List Int,p.length+t.nodes<=1048576->rn ⟨316,0,0⟩ [.int t.k,.int t.n,.str t.s,.sl (t.as.map Tm.row),.sl (p.map iRow)]=some (0,[.sl ((posT t p).map pRow)]):=Tm.ind fun t ih p hp=>by
 have hnd:=Tm.nodes_eq t;have hls:=len_sum (xs:=t.as);have hlp:∀ n i (acc:List (List Int)),i+n=t.as.length->acc.length+((t.as.drop i).map Tm.nodes).sum<=1048576->rn ⟨316,0,1⟩ [.sl (p.map iRow),.sl (t.as.map Tm.row),.int (t.as.length:Int),.int (i:Int),.sl (acc.map pRow)]=some (0,[.sl ((acc++posL (t.as.drop i) p i).map pRow)]):=by
  intro n;induction n with
  | zero =>
   intro i acc hi _;obtain rfl:i=t.as.length:=by omega
   rw [e316_0_1];simp only [B6,C2,D4,H4,H2,C9,posL,G8]
  | succ n ih2 =>
   intro i acc hi hb;have hlt:i<t.as.length:=by omega
   have hm:=C0 hlt;have hmn:=mem_sum (f:=Tm.nodes) hm;have h1:=ih _ hm (p++[(i:Int)]) (by simp; omega)
   have h2:=rCloneI (p.map iRow) (by rw [B6]; omega)
   have hl:=posT_len t.as[i] (p++[(i:Int)]);rw [C1 hlt,C8,J8] at hb;have h3:=ih2 (i+1) (acc++posT t.as[i] (p++[(i:Int)])) (by omega) (by rw [E0,hl]; omega)
   have b1:F4 (p.length+1) M63=true:=nb (by omega)
   have b2:F4 (acc.length+t.as[i].nodes) M63=true:=nb (by omega)
   rw [posL_drop hlt,<- D9,<- h3];simp only [E4,C8,E1,iRow] at h1 h2 ⊢;rw [e316_0_1];simp only [B6,C2,hlt,H3,H1,inbN,B9,rowAt_map hlt,wrap_succ hlt (maxB (by omega)),Tm.row_eq,nv0,nvS,dvI,dvB,dvS,dvL,B5,h2,C5,D0,E3,b1,h1,hl,b2]
 have h1:=hlp t.as.length 0 [p] (by omega) (by simp only [D2,C5,D0]; omega)
 simp only [C4,D2,C8,E1,D5,D1] at h1;rw [e316_0_0,posT_eq];simp only [pRow] at h1 ⊢;simp only [B6,h1,nv0,nvS,dvI,dvB,dvS,dvL,B5,D7,H1,H2,C8];rfl
theorem r261 (t:Tm) (h:t.nodes<=1048576):rn ⟨261,0,0⟩ [.int t.k,.int t.n,.str t.s,.sl (t.as.map Tm.row)]=some (0,[.sl ((posT t []).map pRow)]):=by
 have h1:=posI t [] (by simpa using h)
 rw [E1] at h1;rw [e261_0_0];simp only [h1,nv0,nvS,dvI,dvB,dvS,dvL,B5]
theorem posS:∀ t:Tm,∀ (p:List Int) (acc:List (List Int)),p.length+t.nodes<=1048576->acc.length+t.nodes<=1048576->rn ⟨346,1,0⟩ [.int t.k,.int t.n,.str t.s,.sl (t.as.map Tm.row),.sl (p.map iRow),.sl (acc.map pRow)]=some (0,[.sl ((acc++posT t p).map pRow)]):=Tm.ind fun t ih p acc hp ha=>by
 have hnd:=Tm.nodes_eq t;have hls:=len_sum (xs:=t.as);have hlp:∀ n i (acc:List (List Int)),i+n=t.as.length->acc.length+((t.as.drop i).map Tm.nodes).sum<=1048576->rn ⟨346,1,1⟩ [.sl (p.map iRow),.int (i:Int),.sl (acc.map pRow),.int t.k,.int t.n,.str t.s,.sl (t.as.map Tm.row)]=some (0,[.sl ((acc++posL (t.as.drop i) p i).map pRow)]):=by
  intro n;induction n with
  | zero =>
   intro i acc hi _;obtain rfl:i=t.as.length:=by omega
   rw [e346_1_1];simp only [B6,C2,D4,H4,H2,C9,posL,G8]
  | succ n ih2 =>
   intro i acc hi hb;have hlt:i<t.as.length:=by omega
   have hm:=C0 hlt;have hmn:=mem_sum (f:=Tm.nodes) hm;have hl:=posT_len t.as[i] (p++[(i:Int)]);rw [C1 hlt,C8,J8] at hb;have h1:=ih _ hm (p++[(i:Int)]) acc (by simp; omega) (by omega)
   have h3:=ih2 (i+1) (acc++posT t.as[i] (p++[(i:Int)])) (by omega) (by rw [E0,hl]; omega)
   have b0:F4 (0+p.length) M63=true:=nb (by omega)
   have b1:F4 (p.length+1) M63=true:=nb (by omega)
   rw [posL_drop hlt,<- D9,<- h3];simp only [E4,C8,E1,iRow] at h1 ⊢;rw [e346_1_1];simp only [B6,C2,hlt,H3,H1,inbN,B9,rowAt_map hlt,wrap_succ hlt (maxB (by omega)),Tm.row_eq,nv0,nvS,dvI,dvB,dvS,dvL,B5,C5,D0,E3,b1,b0,D1,h1,show F4 p.length M63=true from by simpa using b0]
 have h1:=hlp t.as.length 0 (acc++[p]) (by omega) (by simp only [D2,E0,C5,D0]; omega)
 have b0:F4 p.length M63=true:=by simpa using nb (n:=p.length) (m:=0) (by omega)
 have b1:F4 (acc.length+1) M63=true:=nb (by omega)
 simp only [C4,D2,E4,C8,E1] at h1;rw [e346_1_0,posT_eq];simp only [pRow] at h1 ⊢;simp only [B6,C5,D0,E3,D1,b0,b1,H1,h1,nv0,nvS,dvI,dvB,dvS,dvL,B5,D7,H1,H2,E4,C8,D9,D5];rfl
theorem r319 (t:Tm) (h:t.nodes<=1048576):rn ⟨319,0,0⟩ [.int t.k,.int t.n,.str t.s,.sl (t.as.map Tm.row)]=some (0,[.sl ((posT t []).map pRow)]):=by
 have h1:=posS t [] [] (by simpa using h) (by simpa using h)
 rw [E1,E1] at h1;rw [e319_0_0];simp only [h1,nv0,nvS,dvI,dvB,dvS,dvL,B5,D1]
theorem eqLoopI {F:Nat->R} {a b:List Int} (hlen:a.length=b.length) {A B:R} (hs:∀ i (hi:i<a.length),F i=bif decide (a[i]=b[i]'(by omega)) then F (i+1) else B) (he:F a.length=A):F 0=bif decide (a=b) then A else B:=by
 have key:∀ n i,i+n=a.length->F i=bif decide (a.drop i=b.drop i) then A else B:=by
  intro n;induction n with
  | zero =>
   intro i hi;obtain rfl:i=a.length:=by omega
   rw [he,C9,List.drop_eq_nil_of_le (by omega)]; rfl
  | succ n ih =>
   intro i hi;have hlt:i<a.length:=by omega
   rw [hs i hlt,ih (i+1) (by omega),C1 hlt,C1 (show i<b.length by omega)]
   by_cases h1:a[i]=b[i]'(by omega)
   · simp only [h1,K0.injEq,true_and,H3,H1]
   · simp only [h1,K0.injEq,false_and,H4,H2]
 simpa using key a.length 0 (by omega)
theorem rEqualI (a b:List Int) (ha:a.length<=1048576):rn ⟨257,0,0⟩ [.sl (a.map iRow),.sl (b.map iRow)]=some (0,[.bool (decide (a=b))]):=by
 rw [e257_0_0];simp only [B6];by_cases hlen:a.length=b.length
 · have hf:=eqLoopI (F:=fun i=>rn ⟨257,0,1⟩ [.sl (a.map iRow),.sl (b.map iRow),.int (a.length:Int),.int (i:Int)]) hlen (A:=some (0,[])) (B:=some (1,[])) (fun i hi=>by
    have hi':i<b.length:=by omega
    rw [e257_0_1];simp only [B6,C2,hi,H3,H1,inbN,B9,rowAt_map hi,wrap_succ hi (maxB (by omega)),hi',rowAt_map hi',iRow,nv0,nvS,dvI,dvB,dvS,dvL,B5]
    by_cases h1:a[i]=b[i] <;> simp [h1]) (by
    rw [e257_0_1];simp only [B6,C2,D4,H4,H2,C9])
   simp only [C4] at hf;have e:((a.length:Int)=(b.length:Int)):=by omega
   simp only [e,H3,D8,H2];rw [<- e,hf];cases decide (a=b) <;> rfl
 · have e:¬((a.length:Int)=(b.length:Int)):=by omega
   have:¬ a=b:=fun h=>hlen (by rw [h])
   simp [e,this]
theorem r173 (r r':Int) (a b:List Int) (ha:a.length<=1048576):rn ⟨173,0,0⟩ [.int r,.sl (a.map iRow),.int r',.sl (b.map iRow)]=some (0,[.bool (decide (r=r')&&decide (a=b))]):=by
 have h1:=rEqualI a b ha;rw [e173_0_0];by_cases e:r=r'
 · simp only [e,H3,H1,h1,nv0,nvS,dvI,dvB,dvS,dvL,B5,F7]
 · simp only [e,H4,H2,Bool.false_and]
theorem r187 (a b:List Int) (ha:a.length<=1048576):rn ⟨187,0,0⟩ [.sl (a.map iRow),.sl (b.map iRow)]=some (0,[.bool (decide (a=b))]):=by
 rw [e187_0_0];simp only [B6];by_cases hlen:a.length=b.length
 · have hf:=eqLoopI (F:=fun i=>rn ⟨187,0,1⟩ [.sl (a.map iRow),.sl (b.map iRow),.int (i:Int)]) hlen (A:=some (0,[])) (B:=some (1,[])) (fun i hi=>by
    have hi':i<b.length:=by omega
    rw [e187_0_1];simp only [B6,C2,hi,H3,H1,inbN,B9,rowAt_map hi,wrap_succ hi (maxB (by omega)),hi',rowAt_map hi',iRow,nv0,nvS,dvI,dvB,dvS,dvL,B5]
    by_cases h1:a[i]=b[i] <;> simp [h1]) (by
    rw [e187_0_1];simp only [B6,C2,D4,H4,H2,C9])
   simp only [C4] at hf;have e:((a.length:Int)=(b.length:Int)):=by omega
   simp only [e,H3,D8,H2];rw [hf];cases decide (a=b) <;> rfl
 · have e:¬((a.length:Int)=(b.length:Int)):=by omega
   have:¬ a=b:=fun h=>hlen (by rw [h])
   simp [e,this]
end Go.Q.S
end
section
namespace Go.Q.S
open Go Go.Q Go.Proofs
theorem b63 {n:Nat} (h:n<=4194304):F4 (n+1) M63=true:=nb (by omega)
theorem carLoopI (l u r t:Tm) (hl:l.nodes<=60) (xr:Int) (xat gs:Rows) (nm:ByteArray) (ps:List (List Int)) (hps:ps.length<=60) (hpl:∀ p∈ps,p.length<=1048576):∀ n i (acc:List Bnd),i+n=ps.length->acc.length<=i →
 rn ⟨175,0,1⟩ [.int (ps.length:Int),.int (i:Int),.int t.k,.int t.n,.str t.s,.sl (t.as.map Tm.row),.int xr,.sl xat,.int 0,.int 0,.str e0,.str nm,.int l.k,.int l.n,.str l.s,.sl (l.as.map Tm.row),.int r.k,.int r.n,.str r.s,.sl (r.as.map Tm.row),.sl gs,.int u.k,.int u.n,.str u.s,.sl (u.as.map Tm.row),.sl (acc.map Bnd.row),.sl (ps.map pRow),.sl []]=some (0,[.int t.k,.int t.n,.str t.s,.sl (t.as.map Tm.row),.int xr,.sl xat,.int 0,.int 0,.str e0,.str nm,.int l.k,.int l.n,.str l.s,.sl (l.as.map Tm.row),.int r.k,.int r.n,.str r.s,.sl (r.as.map Tm.row),.sl gs,.sl ((acc++(ps.drop i).filterMap (cB1 l u)).map Bnd.row),.sl []]):=by
 intro n;induction n with
 | zero =>
  intro i acc hi _;obtain rfl:i=ps.length:=by omega
  rw [e175_0_1];simp only [B6,C2,D4,H4,H2,C9,T4,G8]
 | succ n ih =>
  intro i acc hi ha;have hlt:i<ps.length:=by omega
  have hp:=hpl _ (C0 hlt);have h1:=atI l ps[i] hp;have h2:=atI u ps[i] hp;have b1:F4 (acc.length+1) M63=true:=b63 (by omega)
  rw [C1 hlt,P4,e175_0_1];simp only [B6,C2,hlt,H3,H1,inbN,B9,rowAt_map hlt,wrap_succ hlt (maxB (by omega)),pRow,nv0,nvS,dvI,dvB,dvS,dvL,B5,h1,h2,C5,D0,E3,b1]
  by_cases hk:(atO l ps[i]).k=1
  · have e:cB1 l u ps[i]=some ((atO l ps[i]).s,atO u ps[i]):=by rw [cB1,H5 hk]
    have h3:=ih (i+1) (acc++[((atO l ps[i]).s,atO u ps[i])]) (by omega) (by simp; omega)
    simp only [E4,C8,E1,bd_row,D9,D5,D1,pRow] at h3;simp only [hk,e,H3,H1,D9,E4,C8,D5,D1,bd_row];exact h3
  · have e:cB1 l u ps[i]=none:=by rw [cB1,H6 hk]
    have h3:=ih (i+1) acc (by omega) (by omega)
    simp only [hk,e,H4,H2];exact h3
theorem carI (d:DfM) (hd:DfG d) (t:Tm) (hw:Wt t) (hn:t.nodes<=60) (i:Nat) (hi:i<d.ru.length) (p:List Int) (hp:p.length<=60) (hat:∃ u,atT t p=some u):rn ⟨175,0,0⟩ [.sl (d.so.map sRow),.sl (d.op.map OpM.row),.sl (d.ru.map RuM.row),.sl (d.st.map StM.row),.int t.k,.int t.n,.str t.s,.sl (t.as.map Tm.row),.int (i:Int),.sl (p.map iRow)]=some (0,[.int (bT d t (some (i,p))).k,.int (bT d t (some (i,p))).n,.str (bT d t (some (i,p))).s,.bool (carT d t (i,p)).valid,.sl ((bT d t (some (i,p))).as.map Tm.row)]):=by
 have hr:=hd.ru (C0 hi);have hln:=valid_nodes hr.lv;have hrn:=valid_nodes hr.rv;obtain ⟨u,hu⟩:=hat;have hpl:=posT_len d.ru[i].l [];have hun:=atO_nodes t p (by decide) hn
 have hbn:∀ b∈carB d.ru[i].l (atO t p),b.2.nodes<=60:=carB_mem (P:=fun t=>t.nodes<=60) fun q=>atO_nodes (atO t p) q (by decide) hun
 have hbs:∀ b∈carB d.ru[i].l (atO t p),Small b.2:=fun b hb=>small_of _ (by have:=hbn b hb; omega)
 have hbl:(carB d.ru[i].l (atO t p)).length<=60:=Nat.le_trans (List.length_filterMap_le ..) (by omega)
 have a1:=aS_nodesM (m:=60) (by decide) hbn d.ru[i].r
 have a2:=rW_nodes (aS (carB d.ru[i].l (atO t p)) d.ru[i].r);have a3:=put_nodes (rW (aS (carB d.ru[i].l (atO t p)) d.ru[i].r)) p t;have a5:t.nodes*(p.length+1)<=60*61:=Nat.mul_le_mul hn (by omega)
 have e2:carT d t (i,p)=rW (putT t p (aS (carB d.ru[i].l (atO t p)) d.ru[i].r)):=by
  simp only [carT,F6 hi]
 obtain ⟨c1,c2⟩:=carT_b hd hw hn (x:=(i,p)) hp;have h1:=atI t p (by omega)
 have h2:=r261 d.ru[i].l (by omega)
 have h3:=carLoopI d.ru[i].l (atO t p) d.ru[i].r t hln (i:Int) (p.map iRow) (d.ru[i].g.map Gu.row) d.ru[i].n (posT d.ru[i].l []) (by omega) (fun q hq=>by have:=posT_mem d.ru[i].l [] q hq; simp at this; omega) _ 0 [] (E3 _) (F9 _)
 rw [hpl] at h3;simp only [D2,D1,C4,E1] at h3;have h4:=r198 _ (by omega) hbs d.ru[i].r (small_of _ (by omega))
 have h5:=r197 (aS (carB d.ru[i].l (atO t p)) d.ru[i].r) (small_of _ (by omega))
 have h6:=r262 (rW (aS (carB d.ru[i].l (atO t p)) d.ru[i].r)) p t u (by omega) (by omega) hu
 have h7:=r197 (putT t p (rW (aS (carB d.ru[i].l (atO t p)) d.ru[i].r))) (small_of _ (by omega))
 rw [rW_put,<- e2] at h7;have h8:=r165 (carT d t (i,p)) (by omega) c1
 unfold carB at h4 h5 h6 h7;rw [e175_0_0];simp only [h1,h2,nv0,nvS,dvI,dvB,dvS,dvL,B5,inbN,B6,hi,H3,H1,B9,rowAt_map hi,RuM.row,hpl,h3,D7,H1,H2,h4,h5,h6,h7,h8];have hb:bT d t (some (i,p))=if (carT d t (i,p)).valid=true then carT d t (i,p) else tm0:=rfl
 rw [hb];cases (carT d t (i,p)).valid <;> rfl
theorem r272 (l u:Tm) (hl:l.nodes<=60) (hu:u.nodes<=60):rn ⟨272,0,0⟩ [.int l.k,.int l.n,.str l.s,.sl (l.as.map Tm.row),.int u.k,.int u.n,.str u.s,.sl (u.as.map Tm.row)]=some (0,[.sl ((carU l u (posT l []) []).map Bnd.row)]):=by
 have hpl:=posT_len l [];have hps:∀ p∈posT l [],p.length<=1048576:=fun q hq=>by have:=posT_mem l [] q hq; simp at this; omega
 have h2:=r319 l (by omega)
 have hlp:∀ n i (acc:List Bnd),i+n=(posT l []).length->acc.length<=i->(∀ b∈acc,Small b.2)->rn ⟨272,0,1⟩ [.int (i:Int),.int l.k,.int l.n,.str l.s,.sl (l.as.map Tm.row),.int u.k,.int u.n,.str u.s,.sl (u.as.map Tm.row),.sl (acc.map Bnd.row),.sl ((posT l []).map pRow)]=some (0,[.sl ((carU l u ((posT l []).drop i) acc).map Bnd.row)]):=by
  generalize posT l []=ps at hpl hps ⊢;intro n;induction n with
  | zero =>
   intro i acc hi _ _;obtain rfl:i=ps.length:=by omega
   rw [e272_0_1];simp only [B6,C2,D4,H4,H2,C9,carU]
  | succ n ih =>
   intro i acc hi ha hs;have hlt:i<ps.length:=by omega
   have hp:=hps _ (C0 hlt);have h1:=atS l (by omega) ps[i] hp
   have h2:=atS u (by omega) ps[i] hp
   have b1:F4 (acc.length+1) M63=true:=b63 (by omega)
   have hun:=atO_nodes u ps[i] (by decide) hu
   rw [C1 hlt,e272_0_1];simp only [carU,B6,C2,hlt,H3,H1,inbN,B9,rowAt_map hlt,wrap_succ hlt (maxB (by omega)),pRow,nv0,nvS,dvI,dvB,dvS,dvL,B5,h1,h2,C5,D0,E3,b1]
   have h4:=ih (i+1) acc (by omega) (by omega) hs
   by_cases hk:(atO l ps[i]).k=1
   · have h3:=ih (i+1) (acc++[((atO l ps[i]).s,atO u ps[i])]) (by omega) (by simp; omega) (fun b hb=>by
      rcases D3.1 hb with hb | hb
      · exact hs b hb
      · simp only [E8] at hb; subst hb; exact small_of _ (show (atO u ps[i]).nodes<=1048577 by omega))
     simp only [E4,C8,E1,bd_row,pRow] at h3 h4;simp only [hk,H3,H1,bd_row];rcases r318 acc (by omega) (atO l ps[i]).s with ⟨e,h5⟩|⟨j,hj,e,h5⟩
     · simp only [h5,nv0,nvS,dvI,dvB,dvS,dvL,B5,e,show decide ((-1:Int)<0)=true from rfl,H1,and_self,if_true]
       exact h3
     · have q:¬((j:Int)<0):=by omega
       simp only [h5,nv0,nvS,dvI,dvB,dvS,dvL,B5,e,q,H4,H2,reduceCtorEq,and_false,if_false];exact h4
   · simp only [hk,H4,H2,false_and,if_false]
     exact h4
 have h3:=hlp _ 0 [] (E3 _) (F9 _) (by simp)
 simp only [D2,C4,E1] at h3;rw [e272_0_0];simp only [h2,nv0,nvS,dvI,dvB,dvS,dvL,B5,h3,D7,H1,H2]
theorem r189 (d:DfM) (hd:DfG d) (v cs:Rows) (t:Tm) (hw:Wt t) (hn:t.nodes<=60) (i:Nat) (hi:i<d.ru.length) (p:List Int) (hp:p.length<=60) (hat:∃ u,atT t p=some u):rn ⟨189,0,0⟩ [.sl (d.so.map sRow),.sl (d.op.map OpM.row),.sl (d.ru.map RuM.row),.sl (d.st.map StM.row),.sl v,.int t.k,.int t.n,.str t.s,.sl (t.as.map Tm.row),.sl cs,.int (i:Int),.sl (p.map iRow)]=some (0,[.int (carT d t (i,p)).k,.int (carT d t (i,p)).n,.str (carT d t (i,p)).s,.sl ((carT d t (i,p)).as.map Tm.row)]):=by
 have hr:=hd.ru (C0 hi);have hln:=valid_nodes hr.lv;have hrn:=valid_nodes hr.rv;obtain ⟨u,hu⟩:=hat;have hpl:=posT_len d.ru[i].l [];have hun:=atO_nodes t p (by decide) hn
 have hbn:∀ b∈carU d.ru[i].l (atO t p) (posT d.ru[i].l []) [],b.2.nodes<=60:=carU_mem (P:=fun t=>t.nodes<=60) (fun q=>atO_nodes (atO t p) q (by decide) hun) _ [] (by simp)
 have hbs:∀ b∈carU d.ru[i].l (atO t p) (posT d.ru[i].l []) [],Small b.2:=fun b hb=>small_of _ (by have:=hbn b hb; omega)
 have hbl:=carU_len d.ru[i].l (atO t p) (posT d.ru[i].l []) [];have a1:=aS_nodesM (m:=60) (by decide) hbn d.ru[i].r
 have a3:=put_nodes (aS (carU d.ru[i].l (atO t p) (posT d.ru[i].l []) []) d.ru[i].r) p t;have a5:t.nodes*(p.length+1)<=60*61:=Nat.mul_le_mul hn (by omega)
 have e2:carT d t (i,p)=rW (putT t p (aS (carU d.ru[i].l (atO t p) (posT d.ru[i].l []) []) d.ru[i].r)):=by
  simp only [carT,F6 hi,carU_aS]
 have h1:=atS t (by omega) p (by omega)
 have h2:=r272 d.ru[i].l (atO t p) hln hun;have h4:=r185 _ (by simp at hbl; omega) hbs d.ru[i].r (small_of _ (by omega))
 have h6:=r271 (aS (carU d.ru[i].l (atO t p) (posT d.ru[i].l []) []) d.ru[i].r) (by omega) p t u (by omega) (by omega) hu
 have h7:=r184 (putT t p (aS (carU d.ru[i].l (atO t p) (posT d.ru[i].l []) []) d.ru[i].r)) (small_of _ (by omega))
 rw [<- e2] at h7;rw [e189_0_0];simp only [h1,nv0,nvS,dvI,dvB,dvS,dvL,B5,inbN,B6,hi,H3,H1,B9,rowAt_map hi,RuM.row,h2,h4,h6,h7]
theorem r107 (d:DfM) (hd:DfG d) (v:List ByteArray) (hv:v.length<=1048576) (cs:Rows) (t:Tm) (hw:Wt t) (hn:t.nodes<=60) (x:Bk) (hx:BkG d t x):rn ⟨107,0,0⟩ [.sl (d.so.map sRow),.sl (d.op.map OpM.row),.sl (d.ru.map RuM.row),.sl (d.st.map StM.row),.sl (v.map sRow),.int t.k,.int t.n,.str t.s,.sl (t.as.map Tm.row),.sl cs,.int (bR x),.bool x.isSome,.sl ((bP x).map iRow)]=some (0,[.int (bK d t x),.int (bR x),.int (bT d t x).k,.int (bT d t x).n,.str (bT d t x).s,.sl ((bP x).map iRow),.sl (v.map sRow),.sl ((bT d t x).as.map Tm.row),.sl []]):=by
 have b1:F4 v.length M63=true:=by simpa using nb (n:=v.length) (m:=0) (by omega)
 have h1:=r188 t (small_of t (by omega))
 rw [e107_0_0];simp only [D0,E3,B6,b1,H1,h1,nv0,nvS,dvI,dvB,dvS,dvL,B5,D1];cases x with
 | none=>rfl
 | some y =>
  obtain ⟨y1,y2,y3⟩:=hx.i y rfl;have h2:=r189 d hd (v.map sRow) cs t hw hn y.1 y1 y.2 y2 y3;obtain ⟨c1,c2⟩:=carT_b hd hw hn (x:=y) y2;have h3:=r152 (carT d t y) (by omega) c1
  simp only [bR,bP,R0,D8,H2,h2,nv0,nvS,dvI,dvB,dvS,dvL,B5,h3];have hb:bT d t (some y)=if (carT d t y).valid=true then carT d t y else tm0:=rfl
  have hk:bK d t (some y)=if (carT d t y).valid=true then 2 else 3:=rfl
  rw [hb,hk];cases (carT d t y).valid <;> rfl
theorem fndB_drop (out:List (Bk × List Int)) (x:Bk):fndI out x=match (out.drop 0).findIdx? (fun b=>decide (b.1=x)) with | some i=>((0+i:Nat):Int) | none=>-1:=by
 unfold fndI fndB;rw [D2];cases out.findIdx? fun b=>decide (b.1=x) with
 | none=>rfl
 | some i=>simp
theorem fndBI (d:DfM) (v:List ByteArray) (t:Tm) (out:List (Bk × List Int)) (ho:out.length<=1048576) (hp:∀ b∈out,(bP b.1).length<=1048576) (x:Bk):∃ w1 w2 w3,rn ⟨171,0,0⟩ [.sl (out.map (brRow d v t)),.bool x.isSome,.int (bR x),.sl ((bP x).map iRow)]=some (0,[.int (fndI out x),.bool w1,.int w2,.sl w3])/\w1=x.isSome/\w2=bR x/\w3=(bP x).map iRow:=by
 have hlp:∀ n i,i+n=out.length->rn ⟨171,0,1⟩ [.sl (out.map (brRow d v t)),.int (out.length:Int),.int (i:Int),.bool x.isSome,.int (bR x),.sl ((bP x).map iRow)]=match (out.drop i).findIdx? (fun b=>decide (b.1=x)) with
  | some j=>some (1,[.int ((i+j:Nat):Int),.bool x.isSome,.int (bR x),.sl ((bP x).map iRow)])
  | none=>some (0,[.bool x.isSome,.int (bR x),.sl ((bP x).map iRow)]):=by
  intro n;induction n with
  | zero =>
   intro i hi;obtain rfl:i=out.length:=by omega
   rw [e171_0_1];simp only [B6,C2,D4,H4,H2,C9,T9]
  | succ n ih =>
   intro i hi;have hlt:i<out.length:=by omega
   have h2:=r173 (bR out[i].1) (bR x) (bP out[i].1) (bP x) (hp _ (C0 hlt));have h1:rn ⟨172,0,0⟩ [.int (bK d t out[i].1),.int (bR out[i].1),.sl ((bP out[i].1).map iRow),.sl (v.map sRow),.int (bT d t out[i].1).k,.int (bT d t out[i].1).n,.str (bT d t out[i].1).s,.sl ((bT d t out[i].1).as.map Tm.row),.sl (out[i].2.map iRow),.bool x.isSome,.int (bR x),.sl ((bP x).map iRow)]=some (0,[.bool (decide (out[i].1=x)),.bool x.isSome,.int (bR x),.sl ((bP x).map iRow)]):=by
    rw [e172_0_0,<- bk_eq d t];simp only [h2,nv0,nvS,dvI,dvB,dvS,dvL,B5];cases (decide (bK d t out[i].1=1)==!x.isSome) <;> rfl
   rw [drop_find _ _ hlt,e171_0_1];simp only [B6,C2,hlt,H3,H1,inbN,B9,rowAt_map hlt,wrap_succ hlt (maxB (by omega)),brRow,nv0,nvS,dvI,dvB,dvS,dvL,B5,h1]
   have h3:=ih (i+1) (by omega)
   cases decide (out[i].1=x) with
   | true=>rfl
   | false =>
    simp only [H2,Bool.false_eq_true,if_false,h3];cases (out.drop (i+1)).findIdx? (fun b=>decide (b.1=x)) with
    | none=>rfl
    | some j=>simp only [Option.map_some,show i+1+j=i+(j+1) by omega]
 have h1:=hlp out.length 0 (E3 _);rw [C4] at h1;rw [e171_0_0,fndB_drop];simp only [B6,h1];cases (out.drop 0).findIdx? (fun b=>decide (b.1=x)) with
 | none=>exact ⟨_,_,_,rfl,rfl,rfl,rfl⟩
 | some j=>exact ⟨_,_,_,rfl,rfl,rfl,rfl⟩
theorem r106 (d:DfM) (v:List ByteArray) (t:Tm) (out:List (Bk × List Int)) (ho:out.length<=1048576) (hp:∀ b∈out,(bP b.1).length<=1048576) (x:Bk):rn ⟨106,0,0⟩ [.sl (out.map (brRow d v t)),.int (bR x),.sl ((bP x).map iRow),.bool x.isSome]=some (0,[.int (fndI out x)]):=by
 have hlp:∀ n i,i+n=out.length->rn ⟨106,0,1⟩ [.sl (out.map (brRow d v t)),.bool x.isSome,.int (i:Int),.int (bR x),.sl ((bP x).map iRow)]=match (out.drop i).findIdx? (fun b=>decide (b.1=x)) with
  | some j=>some (1,[.int ((i+j:Nat):Int)])
  | none=>some (0,[]):=by
  intro n;induction n with
  | zero =>
   intro i hi;obtain rfl:i=out.length:=by omega
   rw [e106_0_1];simp only [B6,C2,D4,H4,H2,C9,T9]
  | succ n ih =>
   intro i hi;have hlt:i<out.length:=by omega
   have h2:=r187 (bP out[i].1) (bP x) (hp _ (C0 hlt));have h3:=ih (i+1) (by omega)
   have hno:∀ y,x=some y->¬ bK d t (some y)=1:=fun y _=>by
    show ¬(if (carT d t y).valid=true then (2:Int) else 3)=1
    by_cases q:(carT d t y).valid=true <;> simp [q]
   have h4:(match (match (out.drop (i+1)).findIdx? (fun b=>decide (b.1=x)) with | some j=>some (j+1) | none=>none) with | some j=>some (1,[D.int ((i+j:Nat):Int)]) | none=>some (0,[]))=rn ⟨106,0,1⟩ [.sl (out.map (brRow d v t)),.bool x.isSome,.int ((i+1:Nat):Int),.int (bR x),.sl ((bP x).map iRow)]:=by
    rw [ih (i+1) (by omega)]
    cases (out.drop (i+1)).findIdx? (fun b=>decide (b.1=x)) with
    | none=>rfl
    | some j=>simp only [show i+1+j=i+(j+1) by omega]
   have h5:(bif !(x.isSome==decide (bK d t out[i].1=1)) then bif !x.isSome then some (1,[D.int (i:Int)]) else bif decide (bR out[i].1=bR x) then bif decide (bP out[i].1=bP x) then some (1,[.int (i:Int)]) else rn ⟨106,0,1⟩ [.sl (out.map (brRow d v t)),.bool x.isSome,.int ((i+1:Nat):Int),.int (bR x),.sl ((bP x).map iRow)] else rn ⟨106,0,1⟩ [.sl (out.map (brRow d v t)),.bool x.isSome,.int ((i+1:Nat):Int),.int (bR x),.sl ((bP x).map iRow)] else rn ⟨106,0,1⟩ [.sl (out.map (brRow d v t)),.bool x.isSome,.int ((i+1:Nat):Int),.int (bR x),.sl ((bP x).map iRow)])=match (if decide (out[i].1=x)=true then some 0 else ((out.drop (i+1)).findIdx? (fun b=>decide (b.1=x))).map (·+1)) with
    | some j=>some (1,[.int ((i+j:Nat):Int)])
    | none=>some (0,[]):=by
    rw [<- bk_eq d t out[i].1 x];rw [<- h4];generalize (out.drop (i+1)).findIdx? (fun b=>decide (b.1=x))=F
    generalize hg:out[i].1=y;cases x with
    | none =>
     cases y with
     | none=>simp [bK,bR,bP]
     | some z =>
      have:¬ bK d t (some z)=1:=by
       show ¬(if (carT d t z).valid=true then (2:Int) else 3)=1
       by_cases q:(carT d t z).valid=true <;> simp [q]
      simp only [this,H4,Option.isSome_none];cases F <;> rfl
    | some w =>
     cases y with
     | none=>cases F <;> simp [bK]
     | some z =>
      have:¬ bK d t (some z)=1:=by
       show ¬(if (carT d t z).valid=true then (2:Int) else 3)=1
       by_cases q:(carT d t z).valid=true <;> simp [q]
      simp only [this,H4,R0];cases decide (bR (some z)=bR (some w)) <;> cases decide (bP (some z)=bP (some w)) <;> cases F <;> rfl
   rw [drop_find _ _ hlt,<- h5,e106_0_1];simp only [B6,C2,hlt,H3,H1,inbN,B9,rowAt_map hlt,wrap_succ hlt (maxB (by omega)),brRow,nv0,nvS,dvI,dvB,dvS,dvL,B5,h2]
 have h1:=hlp out.length 0 (E3 _);rw [C4] at h1;rw [e106_0_0,fndB_drop];simp only [h1];cases (out.drop 0).findIdx? (fun b=>decide (b.1=x)) <;> rfl
end Go.Q.S
end
section
namespace Go.Q.S
open Go Go.Q Go.Proofs
theorem brLoopI (d:DfM) (hb:DfB d) (v:List ByteArray) (hv:v.length<=1048576) (t:Tm) (hw:Wt t) (cs:List Int) (hcl:cs.length<=1048576) (hs:symV d v t=true) (hcs:∀ c∈cs,isC v.length c=true):∀ n i (out:List (Bk × List Int)),i+n=cs.length->BrB i out->(∀ b∈out,BkG d t b.1) →
 rn ⟨87,0,1⟩ [.sl (cs.map iRow),.int (cs.length:Int),.int (i:Int),.sl (d.so.map sRow),.sl (d.op.map OpM.row),.sl (d.ru.map RuM.row),.sl (d.st.map StM.row),.sl (v.map sRow),.int t.k,.int t.n,.str t.s,.sl (t.as.map Tm.row),.sl (cs.map iRow),.sl (out.map (brRow d v t))]=some (0,[.sl ((brF d v t (cs.drop i) out).map (brRow d v t))]):=by
 intro n;induction n with
 | zero =>
  intro i out hi _ _;obtain rfl:i=cs.length:=by omega
  rw [e87_0_1];simp only [B6,C2,D4,H4,H2,C9,brF]
 | succ n ih =>
  intro i out hi ho hk;have hlt:i<cs.length:=by omega
  have hc:=hcs _ (C0 hlt);obtain ⟨hd,htn,hg,hgn,hx⟩:=nx_bkG hb hw hs hc;have hol:=ho.l;have hpl:∀ b∈out,(bP b.1).length<=1048576:=fun b hb'=>by
   have h1:=(hk b hb').i;cases hq:b.1 with
   | none=>exact K5 _
   | some y=>have:=(h1 y hq).2.1; show y.2.length<=_; omega
  have h1:=r120 v t (small_of t (by omega)) (cs.map iRow) cs[i]
  rw [instR_C hc] at h1;have h2:=r170 d hd (inst v t cs[i]) hg hgn [] (by simp; omega)
  rw [nrR_bk,E1] at h2;obtain ⟨w1,w2,w3,h3,rfl,rfl,rfl⟩:=fndBI d v t out (by omega) hpl (nx d (inst v t cs[i]))
  have h4:=r174 (v.map sRow) (cs.map iRow) [[.int cs[i]]] t (small_of t (by omega)) (by rw [B6]; omega) (by simp)
  have hob:=addB_b ho (nx d (inst v t cs[i])) cs[i];have hkb:∀ b∈addB out (nx d (inst v t cs[i])) cs[i],BkG d t b.1:=addB_k hk hx;rw [C1 hlt,e87_0_1];simp only [brF,B6,C2,hlt,H3,H1,inbN,B9,rowAt_map hlt,wrap_succ hlt (maxB (by omega)),iRow,nv0,nvS,dvI,dvB,dvS,dvL,B5,h1,h2,h3]
  have h5:=ih (i+1) _ (by omega) hob hkb
  generalize nx d (inst v t cs[i])=x at hx h3 h5 ⊢;generalize hc0:cs[i]=c at h4 h5 ⊢;cases hf:fndB out x with
  | some j =>
   obtain ⟨hj,hjx⟩:=fndB_lt hf;have e8:(nth (rowAt (out.map (brRow d v t)) j) 8).L=out[j].2.map iRow:=by rw [rowAt_map hj]; rfl
   have hset:=br_set (d:=d) (v:=v) (t:=t) hj (out[j].2.map iRow++[[.int c]]) (out[j].2++[c]) (by simp [iRow])
   have hlen:=br_len (d:=d) (v:=v) (t:=t) hj;have b1:F4 (out[j].2.length+1) M63=true:=b63 (by have:=ho.c _ (C0 hj); omega)
   have b2:K4 j out.length=true:=E7 hj;have b3:decide ((0:Int)<=(j:Int))=true:=by simp
   rw [addB_some hf hj] at h5 ⊢;simp only [fndI,hf,b3,H1,inbN,hlen,B6,hj,H3,B9,b2,e8,C5,D0,E3,b1,D7,O1,hset,h5]
  | none =>
   have b1:F4 (out.length+1) M63=true:=b63 (by omega)
   rw [addB_none hf] at h5 ⊢;simp only [E4,C8,E1] at h5 ⊢;simp only [fndI,hf,show decide ((0:Int)<=-1)=false from rfl,H2,h4,nv0,nvS,dvI,dvB,dvS,dvL,B5,C5,D0,E3,b1,B6]
   cases x with
   | none=>exact h5
   | some y =>
    obtain ⟨y1,y2,y3⟩:=hx.i y rfl;have h6:=carI d hd t hw htn y.1 y1 y.2 y2 y3;simp only [bR,bP,R0,H1,h6,nv0,nvS,dvI,dvB,dvS,dvL,B5];have hk1:bK d t (some y)=if (carT d t y).valid=true then 2 else 3:=rfl
    cases hvv:(carT d t (y.1,y.2)).valid with
    | true =>
     have hk2:bK d t (some y)=2:=by rw [hk1,H5 hvv]
     simp only [brRow,hk2] at h5;exact h5
    | false =>
     have hk2:bK d t (some y)=3:=by rw [hk1,H6 (by show ¬(carT d t (y.1,y.2)).valid=true; rw [hvv]; simp)]
     simp only [brRow,hk2] at h5;exact h5
theorem r87 (s:SyM) (hs:SyB s) (h:symC s.d s.v s.t s.c=true):rn ⟨87,0,0⟩ s.row=some (0,[.sl ((brL s).map (brRow s.d s.v s.t))]):=by
 have h':=h;simp only [symC,C3] at h';have h1:=brLoopI s.d hs.d s.v hs.v s.t hs.w s.c hs.c h'.1 (incC_isC s.c none h'.2) s.c.length 0 [] (E3 _) ⟨F9 _,by simp⟩ (by simp)
 simp only [C4,E1,D2] at h1;unfold SyM.row brL;rw [e87_0_0,H5 h];simp only [B6,h1,nv0,nvS,dvI,dvB,dvS,dvL,B5,D7,H1,H2]
theorem brLoopS (s:SyM) (hs:SyB s) (h:symC s.d s.v s.t s.c=true):∀ n i (out:List (Bk × List Int)),i+n=s.c.length->BrB i out->(∀ b∈out,BkG s.d s.t b.1) →
 rn ⟨27,0,1⟩ [.int (i:Int),.sl (s.d.so.map sRow),.sl (s.d.op.map OpM.row),.sl (s.d.ru.map RuM.row),.sl (s.d.st.map StM.row),.sl (s.v.map sRow),.int s.t.k,.int s.t.n,.str s.t.s,.sl (s.t.as.map Tm.row),.sl (s.c.map iRow),.sl (out.map (brRow s.d s.v s.t))]=some (0,[.sl ((brF s.d s.v s.t (s.c.drop i) out).map (brRow s.d s.v s.t))]):=by
 have h0:=symS s.d hs.d s.v hs.v hs.vs s.t hs.w hs.n s.c hs.c;have h':=h;simp only [symC,C3] at h';have hcs:=incC_isC s.c none h'.2;have hb:=hs.d;have hv:=hs.v;have hw:=hs.w;have hcl:=hs.c;have hsy:=h'.1;obtain ⟨d,v,t,cs⟩:=s;simp only at h h0 hcs hb hv hw hcl hsy ⊢;intro n;induction n with
 | zero =>
  intro i out hi _ _;obtain rfl:i=cs.length:=by omega
  rw [e27_0_1];simp only [B6,C2,D4,H4,H2,C9,brF]
 | succ n ih =>
  intro i out hi ho hk;have hlt:i<cs.length:=by omega
  have hc:=hcs _ (C0 hlt);obtain ⟨hd,htn,hg,hgn,hx⟩:=nx_bkG hb hw hsy hc;have hol:=ho.l;have hpl:∀ b∈out,(bP b.1).length<=1048576:=fun b hb'=>by
   have h1:=(hk b hb').i;cases hq:b.1 with
   | none=>exact K5 _
   | some y=>have:=(h1 y hq).2.1; show y.2.length<=_; omega
  have h1:=r105 v t (small_of t (by omega)) cs[i]
  have h2:=r104 d hd (inst v t cs[i]) hg hgn;rw [nrS_bk] at h2;have h3:=r106 d v t out (by omega) hpl (nx d (inst v t cs[i]))
  have h4:=r107 d hd v hv (cs.map iRow) t hw htn (nx d (inst v t cs[i])) hx;have hob:=addB_b ho (nx d (inst v t cs[i])) cs[i];have hkb:∀ b∈addB out (nx d (inst v t cs[i])) cs[i],BkG d t b.1:=addB_k hk hx;have h5:=ih (i+1) _ (by omega) hob hkb
  rw [C1 hlt,e27_0_1];simp only [brF,B6,C2,hlt,H3,H1,inbN,B9,rowAt_map hlt,wrap_succ hlt (maxB (by omega)),h0,h,iRow,nv0,nvS,dvI,dvB,dvS,dvL,B5,h1,h2,h3,h4]
  generalize nx d (inst v t cs[i])=x at hx h5 ⊢;generalize hc0:cs[i]=c at h5 ⊢;cases hf:fndB out x with
  | some j =>
   obtain ⟨hj,hjx⟩:=fndB_lt hf;have e8:(nth (rowAt (out.map (brRow d v t)) j) 8).L=out[j].2.map iRow:=by rw [rowAt_map hj]; rfl
   have hset:=br_set (d:=d) (v:=v) (t:=t) hj (out[j].2.map iRow++[[.int c]]) (out[j].2++[c]) (by simp [iRow])
   have hlen:=br_len (d:=d) (v:=v) (t:=t) hj;have b1:F4 (out[j].2.length+1) M63=true:=b63 (by have:=ho.c _ (C0 hj); omega)
   have b2:K4 j out.length=true:=E7 hj;have b3:¬((j:Int)<0):=by omega
   rw [addB_some hf hj] at h5 ⊢;simp only [fndI,hf,b3,H4,H2,H1,inbN,hlen,B6,hj,H3,B9,b2,e8,C5,D0,E3,b1,D7,O1,hset,h5]
  | none =>
   have b1:F4 (out.length+1) M63=true:=b63 (by omega)
   have hj:out.length<(out++[(x,([]:List Int))]).length:=by simp
   have hr:out.map (brRow d v t)++[[.int (bK d t x),.int (bR x),.sl ((bP x).map iRow),.sl (v.map sRow),.int (bT d t x).k,.int (bT d t x).n,.str (bT d t x).s,.sl ((bT d t x).as.map Tm.row),.sl []]]=(out++[(x,([]:List Int))]).map (brRow d v t):=by rw [E4]; rfl
   have e0:(out++[(x,([]:List Int))])[out.length]=(x,[]):=by simp
   have e8:(nth (rowAt ((out++[(x,([]:List Int))]).map (brRow d v t)) out.length) 8).L=[]:=by rw [rowAt_map hj,e0]; rfl
   have hset:=br_set (d:=d) (v:=v) (t:=t) hj [[.int c]] [c] rfl;rw [e0,set_last] at hset;have hlen:=br_len (d:=d) (v:=v) (t:=t) hj;have b2:K4 out.length (out.length+1)=true:=E7 (F9 _);have b4:out.length<out.length+1:=F2 _;have b5:F4 1 M63=true:=rfl;rw [addB_none hf] at h5 ⊢;simp only [fndI,hf,show decide ((-1:Int)<0)=true from rfl,H1,hr,inbN,hlen,B6,E0,C5,D0,E3,B9,b1,b2,b4,b5,H3,e8,D1,D7,O1,hset,h5]
theorem r27 (s:SyM) (hs:SyB s):rn ⟨27,0,0⟩ s.row=some (0,[.sl ((brL s).map (brRow s.d s.v s.t))]):=by
 cases h:symC s.d s.v s.t s.c with
 | true =>
  have h1:=brLoopS s hs h s.c.length 0 [] (E3 _) ⟨F9 _,by simp⟩ (by simp)
  simp only [C4,E1,D2] at h1;unfold SyM.row brL;rw [e27_0_0,H5 h];simp only [h1,nv0,nvS,dvI,dvB,dvS,dvL,B5,D7,H1,H2]
 | false =>
  have h0:=symS s.d hs.d s.v hs.v hs.vs s.t hs.w hs.n s.c hs.c;have h1:rn ⟨27,0,1⟩ [.int 0,.sl (s.d.so.map sRow),.sl (s.d.op.map OpM.row),.sl (s.d.ru.map RuM.row),.sl (s.d.st.map StM.row),.sl (s.v.map sRow),.int (s.t).k,.int (s.t).n,.str (s.t).s,.sl ((s.t).as.map Tm.row),.sl (s.c.map iRow),.sl []]=some (0,[.sl []]):=by
   rw [e27_0_1];simp only [h0,h,nv0,nvS,dvI,dvB,dvS,dvL,B5,H2];cases decide ((0:Int)<((s.c.map iRow).length:Nat)) <;> rfl
  unfold SyM.row brL;rw [e27_0_0,h];simp only [h1,nv0,nvS,dvI,dvB,dvS,dvL,B5,D7,H1,H2];rfl
end Go.Q.S
end
section
namespace Go.Q.S
open Go Go.Q Go.Proofs
end Go.Q.S
end
section
namespace Go.Q.S
open Go Go.Q Go.Proofs
end Go.Q.S
end
section
namespace Go.Q.S
open Go Go.Q Go.Proofs
end Go.Q.S
end
section
namespace Go.Q.S
open Go Go.Q Go.Proofs
end Go.Q.S
end
section
namespace Go.Q.S
open Go Go.Q Go.Proofs
end Go.Q.S
end
section
namespace Go.Q.S
open Go Go.Q Go.Proofs
end Go.Q.S
end
section
namespace Go.Q.S
open Go Go.Q Go.Proofs
end Go.Q.S
end
section
namespace Go.Q.S
open Go Go.Q Go.Proofs
theorem rCloneX (xs:Rows) (h:xs.length<=274877906944):rn ⟨192,0,0⟩ [.sl xs]=some (0,[.sl xs]):=by
 rw [e192_0_0];have hb:F4 (([]:Rows).length+xs.length) M63=true:=E7 (by unfold M63; simpa using h)
 rw [hb];cases xs with
 | nil=>simp [both]
 | cons x xs=>rfl
theorem r191 (l:List Stp) (hl:l.length<=1048576) (hp:∀ x∈l,x.2.length<=1048576):rn ⟨191,0,0⟩ [.sl (l.map rdRow)]=some (0,[.sl (l.map rdRow)]):=by
 have hf:=map_loop (F:=fun i acc=>rn ⟨191,0,1⟩ [.sl (l.map rdRow),.int (i:Int),.sl acc]) (xs:=l) rdRow (K:=fun acc=>some (0,[.sl acc])) (fun i hi acc ha=>by
  have hb1:F4 l[i].2.length M63=true:=E7 (show _<=274877906944 by have:=hp _ (C0 hi); omega)
  have hb2:F4 (acc.length+1) M63=true:=nb (by omega)
  rw [e191_0_1];simp only [B6,C2,hi,H3,H1,inbN,B9,rowAt_map hi,wrap_succ hi (maxB (by omega)),rdRow,nv0,nvS,dvI,dvB,dvS,dvL,B5,C5,D0,E3,D1,hb1,hb2]) (fun acc=>by
  rw [e191_0_1];simp)
 simp only [C4] at hf;rw [e191_0_0];simp only [hf,nv0,nvS,dvI,dvB,dvS,dvL,B5,D7,H1,H2]
theorem wlk2 (d:DfM) (hd:DfB d) (v:List ByteArray) (hv:v.length<=1048576) (hvs:∀ x∈v,x.size<=maxLen) (t:Tm) (cl:List Int) (hs:StG d v t cl) (r:Nat) (st:List Stp) (hst:st.length+r<=200) (hsp:∀ x∈st,x.2.length<=60) (F:Option PtF) (hF0:r=0->F=none) (hF1:∀ r',r=r'+1->∃ f,F=some f/\∀ (t':Tm) (cl':List Int) (st':List Stp) (out:List PtM),StG d v t' cl'->st'.length+r'<=200->(∀ x∈st',x.2.length<=60)->out.length<=31->rn ⟨112,2,0⟩ [.sl (d.so.map sRow),.sl (d.op.map OpM.row),.sl (d.ru.map RuM.row),.sl (d.st.map StM.row),.sl (v.map sRow),.int t'.k,.int t'.n,.str t'.s,.sl (t'.as.map Tm.row),.sl (cl'.map iRow),.int (r':Int),.sl (st'.map rdRow),.sl (out.map (PtM.row v))]=some (0,[.sl (((out++f t' cl' st').take 31).map (PtM.row v))])) (L:List (Bk × List Int)) (hL:L=brF d v t cl []):∀ n i (out:List PtM),i+n=L.length->out.length<=31 →
 rn ⟨112,2,1⟩ [.int (r:Int),.sl (st.map rdRow),.int (i:Int),.sl (out.map (PtM.row v)),.sl (d.so.map sRow),.sl (d.op.map OpM.row),.sl (d.ru.map RuM.row),.sl (d.st.map StM.row),.sl (v.map sRow),.int t.k,.int t.n,.str t.s,.sl (t.as.map Tm.row),.sl (cl.map iRow),.sl (L.map (brRow d v t))]=some (0,[.sl (((out++(L.drop i).flatMap (pthB d t st F)).take 31).map (PtM.row v))]):=by
 have hall:=brF_all hd hs;rw [<- hL] at hall;obtain ⟨hLl,hall⟩:=hall;have hnx:∀ b∈L,bK d t b.1=2->StG d v (bT d t b.1) b.2:=fun b hb hk=>hs.next hd (hL▸hb) hk
 clear hL;have hsm:=small_of t (by have:=hs.n; omega)
 have hcp:=r188 t hsm;have hss:=r191 st (by omega) (fun x hx=>by have:=hsp x hx; omega)
 intro n;induction n with
 | zero =>
  intro i out hi ho;obtain rfl:i=L.length:=by omega
  rw [e112_2_1];simp only [B6,C2,D4,H4,H2,C9,R9,G8];rw [N3 ho]
 | succ n ih =>
  intro i out hi ho;have hlt:i<L.length:=by omega
  have hbm:=C0 hlt;rw [C1 hlt,K9,e112_2_1];rcases hb:L[i] with ⟨bk,cc⟩
  rw [hb] at hbm;obtain ⟨hk,hc,_⟩:=hall _ hbm;by_cases h31:out.length=31
  · have e:¬((out.length:Int)<=30):=by omega
    simp only [B6,C2,hlt,H3,H1,e,H4,H2];rw [P9 (by omega),N3 ho]
  have e:((out.length:Int)<=30):=by omega
  have b1:F4 (out.length+1) M63=true:=b63 (by omega)
  have bv:F4 v.length M63=true:=E7 (show _<=274877906944 by omega)
  have bc:F4 cc.length M63=true:=E7 (show _<=274877906944 by simp only at hc; omega)
  have hone:∀ k:Int,rn ⟨112,2,1⟩ [.int (r:Int),.sl (st.map rdRow),.int ((i+1:Nat):Int),.sl (out.map (PtM.row v)++[[.int k,.sl (st.map rdRow),.sl (v.map sRow),.int t.k,.int t.n,.str t.s,.sl (t.as.map Tm.row),.sl (cc.map iRow)]]),.sl (d.so.map sRow),.sl (d.op.map OpM.row),.sl (d.ru.map RuM.row),.sl (d.st.map StM.row),.sl (v.map sRow),.int t.k,.int t.n,.str t.s,.sl (t.as.map Tm.row),.sl (cl.map iRow),.sl (L.map (brRow d v t))]=some (0,[.sl (((out++([(⟨k,st,t,cc⟩:PtM)]++(L.drop (i+1)).flatMap (pthB d t st F))).take 31).map (PtM.row v))]):=fun k=>by
   have h:=ih (i+1) (out++[(⟨k,st,t,cc⟩:PtM)]) (by omega) (by rw [E0]; simp only [C5,D0]; omega)
   rw [D9,E4] at h;exact h
  simp only [B6,C2,hlt,H3,H1,inbN,B9,rowAt_map hlt,wrap_succ hlt (maxB (by omega)),hb,e,brRow,nv0,nvS,dvI,dvB,dvS,dvL,B5,C5,D0,E3,bv,bc,hcp,hss,D1,b1]
  cases bk with
  | none=>exact hone 1
  | some y =>
   have hp:=(hk.i y rfl).2.1;cases hvd:(carT d t y).valid with
   | false =>
    have hk3:bK d t (some y)=3:=by show (if (carT d t y).valid=true then (2:Int) else 3)=3; rw [H6 (by rw [hvd]; simp)]
    have eB:pthB d t st F (some y,cc)=[⟨3,st,t,cc⟩]:=by unfold pthB; simp only [hvd]; rw [H6 (by simp)]
    rw [eB,hk3];exact hone 3
   | true =>
    have hk2:bK d t (some y)=2:=by show (if (carT d t y).valid=true then (2:Int) else 3)=2; rw [H5 hvd]
    have hT2:bT d t (some y)=carT d t y:=by show (if (carT d t y).valid=true then carT d t y else tm0)=_; rw [H5 hvd]
    have hst2:=hnx _ hbm hk2;simp only [hT2] at hst2;simp only [hk2,hT2,show ¬((2:Int)=1) by decide,show ¬((2:Int)=3) by decide,H4,H2]
    cases r with
    | zero =>
     have eB:pthB d t st F (some y,cc)=[⟨2,st,t,cc⟩]:=by unfold pthB; rw [hF0 rfl]; simp only [hvd]; rw [H5 trivial]
     rw [eB];exact hone 2
    | succ r' =>
     obtain ⟨f,hf,hcall⟩:=hF1 r' rfl;have eB:pthB d t st F (some y,cc)=f (carT d t y) cc (st++[y]):=by unfold pthB; rw [hf]; simp only [hvd]; rw [H5 trivial]
     have er:¬(((r'+1:Nat):Int)=0):=by omega
     have ew:IntKind.i64.wrap (((r'+1:Nat):Int)-1)=(r':Int):=by rw [IntWalk.i64_in _ (by omega)]; omega
     have b2:F4 (st.length+1) M63=true:=b63 (by omega)
     have e2:st.map rdRow++[[.int (bR (some y)),.sl ((bP (some y)).map iRow)]]=(st++[y]).map rdRow:=by rw [E4]; rfl
     have h1:=hcall (carT d t y) cc (st++[y]) out hst2 (by rw [E0]; simp only [C5,D0]; omega) (fun x hx=>by
      rcases D3.1 hx with hx | hx
      · exact hsp x hx
      · rw [E8.1 hx]; exact hp) ho
     have h2:=ih (i+1) ((out++f (carT d t y) cc (st++[y])).take 31) (by omega) (by rw [Q7]; omega)
     simp only [er,H4,H2,b2,H1,e2,ew,h1,B5,nv0,dvL,h2,eB];rw [tk_app,D9]
theorem wkA2 (d:DfM) (hd:DfB d) (v:List ByteArray) (hv:v.length<=1048576) (hvs:∀ x∈v,x.size<=maxLen):∀ (r:Nat) (t:Tm) (cl:List Int) (st:List Stp) (out:List PtM),StG d v t cl->st.length+r<=200->(∀ x∈st,x.2.length<=60)->out.length<=31->rn ⟨112,2,0⟩ [.sl (d.so.map sRow),.sl (d.op.map OpM.row),.sl (d.ru.map RuM.row),.sl (d.st.map StM.row),.sl (v.map sRow),.int t.k,.int t.n,.str t.s,.sl (t.as.map Tm.row),.sl (cl.map iRow),.int (r:Int),.sl (st.map rdRow),.sl (out.map (PtM.row v))]=some (0,[.sl (((out++pth d v r t cl st).take 31).map (PtM.row v))]):=by
 intro r;induction r with
 | zero =>
  intro t cl st out hs hst hsp ho;obtain ⟨s1,s2,s3⟩:=hs.sy2 hd hv hvs;have h1:=r27 _ s1;rw [s3] at h1;unfold SyM.row at h1;simp only at h1;have h2:=wlk2 d hd v hv hvs t cl hs 0 st hst hsp none (fun _=>rfl) (fun r' h=>by omega) _ rfl _ 0 out (E3 _) ho
  simp only [C4,D2] at h2;rw [e112_2_0];simp only [C4,h1,nv0,nvS,dvI,dvB,dvS,dvL,B5,h2,D7,H1,H2,pth]
 | succ r ih =>
  intro t cl st out hs hst hsp ho;obtain ⟨s1,s2,s3⟩:=hs.sy2 hd hv hvs;have h1:=r27 _ s1;rw [s3] at h1;unfold SyM.row at h1;simp only at h1;have h2:=wlk2 d hd v hv hvs t cl hs (r+1) st hst hsp (some (pth d v r)) (fun h=>by omega) (fun r' h=>⟨_,rfl,by
   obtain rfl:r=r':=by omega
   exact ih⟩) _ rfl _ 0 out (E3 _) ho
  simp only [C4,D2] at h2;rw [e112_2_0];simp only [h1,nv0,nvS,dvI,dvB,dvS,dvL,B5,h2,D7,H1,H2,pth]
theorem wlk1 (d:DfM) (hd:DfB d) (v:List ByteArray) (hv:v.length<=1048576) (hvs:∀ x∈v,x.size<=maxLen) (t:Tm) (cl:List Int) (hs:StG d v t cl) (r:Nat) (st:List Stp) (hst:st.length+r<=200) (hsp:∀ x∈st,x.2.length<=60) (F:Option PtF) (hF0:r=0->F=none) (hF1:∀ r',r=r'+1->∃ f,F=some f/\∀ (t':Tm) (cl':List Int) (st':List Stp) (out:List PtM),StG d v t' cl'->st'.length+r'<=200->(∀ x∈st',x.2.length<=60)->out.length<=31->rn ⟨112,2,0⟩ [.sl (d.so.map sRow),.sl (d.op.map OpM.row),.sl (d.ru.map RuM.row),.sl (d.st.map StM.row),.sl (v.map sRow),.int t'.k,.int t'.n,.str t'.s,.sl (t'.as.map Tm.row),.sl (cl'.map iRow),.int (r':Int),.sl (st'.map rdRow),.sl (out.map (PtM.row v))]=some (0,[.sl (((out++f t' cl' st').take 31).map (PtM.row v))])) (L:List (Bk × List Int)) (hL:L=brF d v t cl []):∀ n i (out:List PtM),i+n=L.length->out.length<=31 →
 rn ⟨112,1,1⟩ [.int (r:Int),.sl (st.map rdRow),.int (i:Int),.sl (out.map (PtM.row v)),.sl (d.so.map sRow),.sl (d.op.map OpM.row),.sl (d.ru.map RuM.row),.sl (d.st.map StM.row),.sl (v.map sRow),.int t.k,.int t.n,.str t.s,.sl (t.as.map Tm.row),.sl (cl.map iRow),.sl (L.map (brRow d v t))]=some (0,[.sl (((out++(L.drop i).flatMap (pthB d t st F)).take 31).map (PtM.row v))]):=by
 have hall:=brF_all hd hs;rw [<- hL] at hall;obtain ⟨hLl,hall⟩:=hall;have hnx:∀ b∈L,bK d t b.1=2->StG d v (bT d t b.1) b.2:=fun b hb hk=>hs.next hd (hL▸hb) hk
 clear hL;have hsm:=small_of t (by have:=hs.n; omega)
 have hcp:=r188 t hsm;have hss:=r191 st (by omega) (fun x hx=>by have:=hsp x hx; omega)
 intro n;induction n with
 | zero =>
  intro i out hi ho;obtain rfl:i=L.length:=by omega
  rw [e112_1_1];simp only [B6,C2,D4,H4,H2,C9,R9,G8];rw [N3 ho]
 | succ n ih =>
  intro i out hi ho;have hlt:i<L.length:=by omega
  have hbm:=C0 hlt;rw [C1 hlt,K9,e112_1_1];rcases hb:L[i] with ⟨bk,cc⟩
  rw [hb] at hbm;obtain ⟨hk,hc,_⟩:=hall _ hbm;by_cases h31:out.length=31
  · have e:¬((out.length:Int)<=30):=by omega
    simp only [B6,C2,hlt,H3,H1,e,H4,H2];rw [P9 (by omega),N3 ho]
  have e:((out.length:Int)<=30):=by omega
  have b1:F4 (out.length+1) M63=true:=b63 (by omega)
  have bv:F4 v.length M63=true:=E7 (show _<=274877906944 by omega)
  have bc:F4 cc.length M63=true:=E7 (show _<=274877906944 by simp only at hc; omega)
  have hone:∀ k:Int,rn ⟨112,1,1⟩ [.int (r:Int),.sl (st.map rdRow),.int ((i+1:Nat):Int),.sl (out.map (PtM.row v)++[[.int k,.sl (st.map rdRow),.sl (v.map sRow),.int t.k,.int t.n,.str t.s,.sl (t.as.map Tm.row),.sl (cc.map iRow)]]),.sl (d.so.map sRow),.sl (d.op.map OpM.row),.sl (d.ru.map RuM.row),.sl (d.st.map StM.row),.sl (v.map sRow),.int t.k,.int t.n,.str t.s,.sl (t.as.map Tm.row),.sl (cl.map iRow),.sl (L.map (brRow d v t))]=some (0,[.sl (((out++([(⟨k,st,t,cc⟩:PtM)]++(L.drop (i+1)).flatMap (pthB d t st F))).take 31).map (PtM.row v))]):=fun k=>by
   have h:=ih (i+1) (out++[(⟨k,st,t,cc⟩:PtM)]) (by omega) (by rw [E0]; simp only [C5,D0]; omega)
   rw [D9,E4] at h;exact h
  simp only [B6,C2,hlt,H3,H1,inbN,B9,rowAt_map hlt,wrap_succ hlt (maxB (by omega)),hb,e,brRow,nv0,nvS,dvI,dvB,dvS,dvL,B5,C5,D0,E3,bv,bc,hcp,hss,D1,b1]
  cases bk with
  | none=>exact hone 1
  | some y =>
   have hp:=(hk.i y rfl).2.1;cases hvd:(carT d t y).valid with
   | false =>
    have hk3:bK d t (some y)=3:=by show (if (carT d t y).valid=true then (2:Int) else 3)=3; rw [H6 (by rw [hvd]; simp)]
    have eB:pthB d t st F (some y,cc)=[⟨3,st,t,cc⟩]:=by unfold pthB; simp only [hvd]; rw [H6 (by simp)]
    rw [eB,hk3];exact hone 3
   | true =>
    have hk2:bK d t (some y)=2:=by show (if (carT d t y).valid=true then (2:Int) else 3)=2; rw [H5 hvd]
    have hT2:bT d t (some y)=carT d t y:=by show (if (carT d t y).valid=true then carT d t y else tm0)=_; rw [H5 hvd]
    have hst2:=hnx _ hbm hk2;simp only [hT2] at hst2;simp only [hk2,hT2,show ¬((2:Int)=1) by decide,show ¬((2:Int)=3) by decide,H4,H2]
    cases r with
    | zero =>
     have eB:pthB d t st F (some y,cc)=[⟨2,st,t,cc⟩]:=by unfold pthB; rw [hF0 rfl]; simp only [hvd]; rw [H5 trivial]
     rw [eB];exact hone 2
    | succ r' =>
     obtain ⟨f,hf,hcall⟩:=hF1 r' rfl;have eB:pthB d t st F (some y,cc)=f (carT d t y) cc (st++[y]):=by unfold pthB; rw [hf]; simp only [hvd]; rw [H5 trivial]
     have er:¬(((r'+1:Nat):Int)=0):=by omega
     have ew:IntKind.i64.wrap (((r'+1:Nat):Int)-1)=(r':Int):=by rw [IntWalk.i64_in _ (by omega)]; omega
     have b2:F4 (st.length+1) M63=true:=b63 (by omega)
     have e2:st.map rdRow++[[.int (bR (some y)),.sl ((bP (some y)).map iRow)]]=(st++[y]).map rdRow:=by rw [E4]; rfl
     have h1:=hcall (carT d t y) cc (st++[y]) out hst2 (by rw [E0]; simp only [C5,D0]; omega) (fun x hx=>by
      rcases D3.1 hx with hx | hx
      · exact hsp x hx
      · rw [E8.1 hx]; exact hp) ho
     have h2:=ih (i+1) ((out++f (carT d t y) cc (st++[y])).take 31) (by omega) (by rw [Q7]; omega)
     simp only [er,H4,H2,b2,H1,e2,ew,h1,B5,nv0,dvL,h2,eB];rw [tk_app,D9]
theorem wkA1 (d:DfM) (hd:DfB d) (v:List ByteArray) (hv:v.length<=1048576) (hvs:∀ x∈v,x.size<=maxLen):∀ (r:Nat) (t:Tm) (cl:List Int) (st:List Stp) (out:List PtM),StG d v t cl->st.length+r<=200->(∀ x∈st,x.2.length<=60)->out.length<=31->rn ⟨112,1,0⟩ [.sl (d.so.map sRow),.sl (d.op.map OpM.row),.sl (d.ru.map RuM.row),.sl (d.st.map StM.row),.sl (v.map sRow),.int t.k,.int t.n,.str t.s,.sl (t.as.map Tm.row),.sl (cl.map iRow),.int (r:Int),.sl (st.map rdRow),.sl (out.map (PtM.row v))]=some (0,[.sl (((out++pth d v r t cl st).take 31).map (PtM.row v))]):=by
 intro r;induction r with
 | zero =>
  intro t cl st out hs hst hsp ho;obtain ⟨s1,s2,s3⟩:=hs.sy2 hd hv hvs;have h1:=r27 _ s1;rw [s3] at h1;unfold SyM.row at h1;simp only at h1;have h2:=wlk1 d hd v hv hvs t cl hs 0 st hst hsp none (fun _=>rfl) (fun r' h=>by omega) _ rfl _ 0 out (E3 _) ho
  simp only [C4,D2] at h2;rw [e112_1_0];simp only [C4,h1,nv0,nvS,dvI,dvB,dvS,dvL,B5,h2,D7,H1,H2,pth]
 | succ r ih =>
  intro t cl st out hs hst hsp ho;obtain ⟨s1,s2,s3⟩:=hs.sy2 hd hv hvs;have h1:=r27 _ s1;rw [s3] at h1;unfold SyM.row at h1;simp only at h1;have h2:=wlk1 d hd v hv hvs t cl hs (r+1) st hst hsp (some (pth d v r)) (fun h=>by omega) (fun r' h=>⟨_,rfl,by
   obtain rfl:r=r':=by omega
   exact wkA2 d hd v hv hvs r⟩) _ rfl _ 0 out (E3 _) ho
  simp only [C4,D2] at h2;rw [e112_1_0];simp only [h1,nv0,nvS,dvI,dvB,dvS,dvL,B5,h2,D7,H1,H2,pth]
theorem ptl2 (d:DfM) (hd:DfB d) (v:List ByteArray) (hv:v.length<=1048576) (hvs:∀ x∈v,x.size<=maxLen) (t:Tm) (cl:List Int) (hs:StG d v t cl) (r:Nat) (st:List Stp) (hst:st.length+r<=200) (hsp:∀ x∈st,x.2.length<=60) (F:Option PtF) (hF0:r=0->F=none) (hF1:∀ r',r=r'+1->∃ f,F=some f/\∀ (t':Tm) (cl':List Int) (st':List Stp) (out:List PtM),StG d v t' cl'->st'.length+r'<=200->(∀ x∈st',x.2.length<=60)->out.length<=30->∃ X:Rows,rn ⟨113,1,0⟩ [.sl (d.so.map sRow),.sl (d.op.map OpM.row),.sl (d.ru.map RuM.row),.sl (d.st.map StM.row),.sl (v.map sRow),.int t'.k,.int t'.n,.str t'.s,.sl (t'.as.map Tm.row),.sl (cl'.map iRow),.sl (st'.map rdRow),.int (r':Int),.sl (out.map (PtM.row v))]=if (out++f t' cl' st').length<=30 then some (0,[.bool true,.sl ((out++f t' cl' st').map (PtM.row v))]) else some (0,[.bool false,.sl X])) (L:List (Bk × List Int)) (hL:L=brF d v t cl []):∀ n i (out:List PtM),i+n=L.length->out.length<=30 →
 ∃ X:Rows,rn ⟨113,1,1⟩ [.sl (st.map rdRow),.int (r:Int),.int (L.length:Int),.int (i:Int),.sl (d.so.map sRow),.sl (d.op.map OpM.row),.sl (d.ru.map RuM.row),.sl (d.st.map StM.row),.sl (v.map sRow),.int t.k,.int t.n,.str t.s,.sl (t.as.map Tm.row),.sl (cl.map iRow),.sl (L.map (brRow d v t)),.sl (out.map (PtM.row v))]=if (out++(L.drop i).flatMap (pthB d t st F)).length<=30 then some (0,[.sl ((out++(L.drop i).flatMap (pthB d t st F)).map (PtM.row v))]) else some (1,[.sl X]):=by
 have hall:=brF_all hd hs;rw [<- hL] at hall;obtain ⟨hLl,hall⟩:=hall;have hnx:∀ b∈L,bK d t b.1=2->StG d v (bT d t b.1) b.2:=fun b hb hk=>hs.next hd (hL▸hb) hk
 clear hL;have hsm:=small_of t (by have:=hs.n; omega)
 have hss:=r193 st (by omega) (fun x hx=>by have:=hsp x hx; omega)
 have hcx:=rCloneX (st.map rdRow) (by rw [B6]; omega)
 intro n;induction n with
 | zero =>
  intro i out hi ho;obtain rfl:i=L.length:=by omega
  refine ⟨[],?_⟩;rw [e113_1_1];simp only [B6,C2,D4,H4,H2,C9,R9,G8];rw [H5 ho]
 | succ n ih =>
  intro i out hi ho;have hlt:i<L.length:=by omega
  have hbm:=C0 hlt;rw [C1 hlt,K9,e113_1_1];rcases hb:L[i] with ⟨bk,cc⟩
  rw [hb] at hbm;obtain ⟨hk,hc,_⟩:=hall _ hbm;have b1:F4 (out.length+1) M63=true:=b63 (by omega)
  have hwc:=r174 (v.map sRow) (cl.map iRow) (cc.map iRow) t hsm (by rw [B6]; omega) (by rw [B6]; simp only at hc; omega)
  have hone:∀ k:Int,∃ X:Rows,(bif decide ((out.length:Int)=30) then (some (1,[.sl (out.map (PtM.row v))]):R) else rn ⟨113,1,1⟩ [.sl (st.map rdRow),.int (r:Int),.int (L.length:Int),.int ((i+1:Nat):Int),.sl (d.so.map sRow),.sl (d.op.map OpM.row),.sl (d.ru.map RuM.row),.sl (d.st.map StM.row),.sl (v.map sRow),.int t.k,.int t.n,.str t.s,.sl (t.as.map Tm.row),.sl (cl.map iRow),.sl (L.map (brRow d v t)),.sl (out.map (PtM.row v)++[[.int k,.sl (st.map rdRow),.sl (v.map sRow),.int t.k,.int t.n,.str t.s,.sl (t.as.map Tm.row),.sl (cc.map iRow)]])])=if (out++([(⟨k,st,t,cc⟩:PtM)]++(L.drop (i+1)).flatMap (pthB d t st F))).length<=30 then some (0,[.sl ((out++([(⟨k,st,t,cc⟩:PtM)]++(L.drop (i+1)).flatMap (pthB d t st F))).map (PtM.row v))]) else some (1,[.sl X]):=fun k=>by
   by_cases h30:out.length=30
   · refine ⟨out.map (PtM.row v),?_⟩
     rw [H7 (show ((out.length:Int)=30) by omega),H6 (by rw [E0,E0]; simp only [C5,D0]; omega)]; rfl
   · obtain ⟨X,h⟩:=ih (i+1) (out++[(⟨k,st,t,cc⟩:PtM)]) (by omega) (by rw [E0]; simp only [C5,D0]; omega)
     refine ⟨X,?_⟩;rw [H8 (show ¬((out.length:Int)=30) by omega)]
     rw [D9,E4] at h;exact h
  simp only [B6,C2,hlt,H3,H1,inbN,B9,rowAt_map hlt,wrap_succ hlt (maxB (by omega)),hb,brRow,nv0,nvS,dvI,dvB,dvS,dvL,B5,C5,D0,E3,hwc,hss,hcx,b1]
  cases bk with
  | none =>
   obtain ⟨X,h⟩:=hone 1;exact ⟨X,h⟩
  | some y =>
   have hp:=(hk.i y rfl).2.1;cases hvd:(carT d t y).valid with
   | false =>
    have hk3:bK d t (some y)=3:=by show (if (carT d t y).valid=true then (2:Int) else 3)=3; rw [H6 (by rw [hvd]; simp)]
    have eB:pthB d t st F (some y,cc)=[⟨3,st,t,cc⟩]:=by unfold pthB; simp only [hvd]; rw [H6 (by simp)]
    rw [eB,hk3];obtain ⟨X,h⟩:=hone 3;exact ⟨X,h⟩
   | true =>
    have hk2:bK d t (some y)=2:=by show (if (carT d t y).valid=true then (2:Int) else 3)=2; rw [H5 hvd]
    have hT2:bT d t (some y)=carT d t y:=by show (if (carT d t y).valid=true then carT d t y else tm0)=_; rw [H5 hvd]
    have hst2:=hnx _ hbm hk2;simp only [hT2] at hst2;simp only [hk2,hT2,show ¬((2:Int)=3) by decide,H4,H2,H3,H1]
    cases r with
    | zero =>
     have eB:pthB d t st F (some y,cc)=[⟨2,st,t,cc⟩]:=by unfold pthB; rw [hF0 rfl]; simp only [hvd]; rw [H5 trivial]
     rw [eB];obtain ⟨X,h⟩:=hone 2;exact ⟨X,h⟩
    | succ r' =>
     obtain ⟨f,hf,hcall⟩:=hF1 r' rfl;have eB:pthB d t st F (some y,cc)=f (carT d t y) cc (st++[y]):=by unfold pthB; rw [hf]; simp only [hvd]; rw [H5 trivial]
     have er:¬(((r'+1:Nat):Int)=0):=by omega
     have ew:IntKind.i64.wrap (((r'+1:Nat):Int)-1)=(r':Int):=by rw [IntWalk.i64_in _ (by omega)]; omega
     have b2:F4 (st.length+1) M63=true:=b63 (by omega)
     have e2:st.map rdRow++[[.int (bR (some y)),.sl ((bP (some y)).map iRow)]]=(st++[y]).map rdRow:=by rw [E4]; rfl
     obtain ⟨X1,h1⟩:=hcall (carT d t y) cc (st++[y]) out hst2 (by rw [E0]; simp only [C5,D0]; omega) (fun x hx=>by
      rcases D3.1 hx with hx | hx
      · exact hsp x hx
      · rw [E8.1 hx]; exact hp) ho
     rw [eB];simp only [er,H4,H2,b2,H1,e2,ew];by_cases hle:(out++f (carT d t y) cc (st++[y])).length<=30
     · obtain ⟨X,h2⟩:=ih (i+1) (out++f (carT d t y) cc (st++[y])) (by omega) hle
       refine ⟨X,?_⟩;rw [H5 hle] at h1;rw [D9] at h2;simp only [h1,nv0,nvS,dvI,dvB,dvS,dvL,B5,D8,H2,h2]
     · refine ⟨X1,?_⟩
       rw [H6 hle] at h1;simp only [h1,nv0,nvS,dvI,dvB,dvS,dvL,B5,K6,H1];rw [H6 (by rw [<- D9,E0]; omega)]
theorem ptA2 (d:DfM) (hd:DfB d) (v:List ByteArray) (hv:v.length<=1048576) (hvs:∀ x∈v,x.size<=maxLen):∀ (r:Nat) (t:Tm) (cl:List Int) (st:List Stp) (out:List PtM),StG d v t cl->st.length+r<=200->(∀ x∈st,x.2.length<=60)->out.length<=30->∃ X:Rows,rn ⟨113,1,0⟩ [.sl (d.so.map sRow),.sl (d.op.map OpM.row),.sl (d.ru.map RuM.row),.sl (d.st.map StM.row),.sl (v.map sRow),.int t.k,.int t.n,.str t.s,.sl (t.as.map Tm.row),.sl (cl.map iRow),.sl (st.map rdRow),.int (r:Int),.sl (out.map (PtM.row v))]=if (out++pth d v r t cl st).length<=30 then some (0,[.bool true,.sl ((out++pth d v r t cl st).map (PtM.row v))]) else some (0,[.bool false,.sl X]):=by
 have one:∀ (r:Nat) (F:Option PtF) (t:Tm) (cl:List Int) (st:List Stp) (out:List PtM) (A:List PtM),StG d v t cl->A=(brF d v t cl []).flatMap (pthB d t st F)->out.length<=30->(∃ X:Rows,rn ⟨113,1,1⟩ [.sl (st.map rdRow),.int (r:Int),.int ((brF d v t cl []).length:Int),.int ((0:Nat):Int),.sl (d.so.map sRow),.sl (d.op.map OpM.row),.sl (d.ru.map RuM.row),.sl (d.st.map StM.row),.sl (v.map sRow),.int t.k,.int t.n,.str t.s,.sl (t.as.map Tm.row),.sl (cl.map iRow),.sl ((brF d v t cl []).map (brRow d v t)),.sl (out.map (PtM.row v))]=if (out++((brF d v t cl []).drop 0).flatMap (pthB d t st F)).length<=30 then some (0,[.sl ((out++((brF d v t cl []).drop 0).flatMap (pthB d t st F)).map (PtM.row v))]) else some (1,[.sl X]))->∃ X:Rows,rn ⟨113,1,0⟩ [.sl (d.so.map sRow),.sl (d.op.map OpM.row),.sl (d.ru.map RuM.row),.sl (d.st.map StM.row),.sl (v.map sRow),.int t.k,.int t.n,.str t.s,.sl (t.as.map Tm.row),.sl (cl.map iRow),.sl (st.map rdRow),.int (r:Int),.sl (out.map (PtM.row v))]=if (out++A).length<=30 then some (0,[.bool true,.sl ((out++A).map (PtM.row v))]) else some (0,[.bool false,.sl X]):=by
  intro r F t cl st out A hs hA ho ⟨X,h2⟩;obtain ⟨s1,s2,s3⟩:=hs.sy2 hd hv hvs;have h1:=r87 _ s1 s2;rw [s3] at h1;unfold SyM.row at h1;simp only at h1;rw [D2,<- hA] at h2;simp only [C4] at h2;refine ⟨X,?_⟩;rw [e113_1_0];simp only [h1,nv0,nvS,dvI,dvB,dvS,dvL,B5,B6,h2];by_cases hle:(out++A).length<=30
  · rw [H5 hle,H5 hle]; rfl
  · rw [H6 hle,H6 hle]; rfl
 intro r;induction r with
 | zero =>
  intro t cl st out hs hst hsp ho;exact one 0 none t cl st out _ hs rfl ho (ptl2 d hd v hv hvs t cl hs 0 st hst hsp none (fun _=>rfl) (fun r' h=>by omega) _ rfl _ 0 out (E3 _) ho)
 | succ r ih =>
  intro t cl st out hs hst hsp ho;exact one (r+1) (some (pth d v r)) t cl st out _ hs rfl ho (ptl2 d hd v hv hvs t cl hs (r+1) st hst hsp (some (pth d v r)) (fun h=>by omega) (fun r' h=>⟨_,rfl,by
   obtain rfl:r=r':=by omega
   exact ih⟩) _ rfl _ 0 out (E3 _) ho)
theorem ptl1 (d:DfM) (hd:DfB d) (v:List ByteArray) (hv:v.length<=1048576) (hvs:∀ x∈v,x.size<=maxLen) (t:Tm) (cl:List Int) (hs:StG d v t cl) (r:Nat) (st:List Stp) (hst:st.length+r<=200) (hsp:∀ x∈st,x.2.length<=60) (F:Option PtF) (hF0:r=0->F=none) (hF1:∀ r',r=r'+1->∃ f,F=some f/\∀ (t':Tm) (cl':List Int) (st':List Stp) (out:List PtM),StG d v t' cl'->st'.length+r'<=200->(∀ x∈st',x.2.length<=60)->out.length<=30->∃ X:Rows,rn ⟨113,1,0⟩ [.sl (d.so.map sRow),.sl (d.op.map OpM.row),.sl (d.ru.map RuM.row),.sl (d.st.map StM.row),.sl (v.map sRow),.int t'.k,.int t'.n,.str t'.s,.sl (t'.as.map Tm.row),.sl (cl'.map iRow),.sl (st'.map rdRow),.int (r':Int),.sl (out.map (PtM.row v))]=if (out++f t' cl' st').length<=30 then some (0,[.bool true,.sl ((out++f t' cl' st').map (PtM.row v))]) else some (0,[.bool false,.sl X])) (L:List (Bk × List Int)) (hL:L=brF d v t cl []):∀ n i (out:List PtM),i+n=L.length->out.length<=30 →
 ∃ X:Rows,rn ⟨113,0,1⟩ [.sl (st.map rdRow),.int (r:Int),.int (L.length:Int),.int (i:Int),.sl (d.so.map sRow),.sl (d.op.map OpM.row),.sl (d.ru.map RuM.row),.sl (d.st.map StM.row),.sl (v.map sRow),.int t.k,.int t.n,.str t.s,.sl (t.as.map Tm.row),.sl (cl.map iRow),.sl (L.map (brRow d v t)),.sl (out.map (PtM.row v))]=if (out++(L.drop i).flatMap (pthB d t st F)).length<=30 then some (0,[.sl ((out++(L.drop i).flatMap (pthB d t st F)).map (PtM.row v))]) else some (1,[.sl X]):=by
 have hall:=brF_all hd hs;rw [<- hL] at hall;obtain ⟨hLl,hall⟩:=hall;have hnx:∀ b∈L,bK d t b.1=2->StG d v (bT d t b.1) b.2:=fun b hb hk=>hs.next hd (hL▸hb) hk
 clear hL;have hsm:=small_of t (by have:=hs.n; omega)
 have hss:=r193 st (by omega) (fun x hx=>by have:=hsp x hx; omega)
 have hcx:=rCloneX (st.map rdRow) (by rw [B6]; omega)
 intro n;induction n with
 | zero =>
  intro i out hi ho;obtain rfl:i=L.length:=by omega
  refine ⟨[],?_⟩;rw [e113_0_1];simp only [B6,C2,D4,H4,H2,C9,R9,G8];rw [H5 ho]
 | succ n ih =>
  intro i out hi ho;have hlt:i<L.length:=by omega
  have hbm:=C0 hlt;rw [C1 hlt,K9,e113_0_1];rcases hb:L[i] with ⟨bk,cc⟩
  rw [hb] at hbm;obtain ⟨hk,hc,_⟩:=hall _ hbm;have b1:F4 (out.length+1) M63=true:=b63 (by omega)
  have hwc:=r174 (v.map sRow) (cl.map iRow) (cc.map iRow) t hsm (by rw [B6]; omega) (by rw [B6]; simp only at hc; omega)
  have hone:∀ k:Int,∃ X:Rows,(bif decide ((out.length:Int)=30) then (some (1,[.sl (out.map (PtM.row v))]):R) else rn ⟨113,0,1⟩ [.sl (st.map rdRow),.int (r:Int),.int (L.length:Int),.int ((i+1:Nat):Int),.sl (d.so.map sRow),.sl (d.op.map OpM.row),.sl (d.ru.map RuM.row),.sl (d.st.map StM.row),.sl (v.map sRow),.int t.k,.int t.n,.str t.s,.sl (t.as.map Tm.row),.sl (cl.map iRow),.sl (L.map (brRow d v t)),.sl (out.map (PtM.row v)++[[.int k,.sl (st.map rdRow),.sl (v.map sRow),.int t.k,.int t.n,.str t.s,.sl (t.as.map Tm.row),.sl (cc.map iRow)]])])=if (out++([(⟨k,st,t,cc⟩:PtM)]++(L.drop (i+1)).flatMap (pthB d t st F))).length<=30 then some (0,[.sl ((out++([(⟨k,st,t,cc⟩:PtM)]++(L.drop (i+1)).flatMap (pthB d t st F))).map (PtM.row v))]) else some (1,[.sl X]):=fun k=>by
   by_cases h30:out.length=30
   · refine ⟨out.map (PtM.row v),?_⟩
     rw [H7 (show ((out.length:Int)=30) by omega),H6 (by rw [E0,E0]; simp only [C5,D0]; omega)]; rfl
   · obtain ⟨X,h⟩:=ih (i+1) (out++[(⟨k,st,t,cc⟩:PtM)]) (by omega) (by rw [E0]; simp only [C5,D0]; omega)
     refine ⟨X,?_⟩;rw [H8 (show ¬((out.length:Int)=30) by omega)]
     rw [D9,E4] at h;exact h
  simp only [B6,C2,hlt,H3,H1,inbN,B9,rowAt_map hlt,wrap_succ hlt (maxB (by omega)),hb,brRow,nv0,nvS,dvI,dvB,dvS,dvL,B5,C5,D0,E3,hwc,hss,hcx,b1]
  cases bk with
  | none =>
   obtain ⟨X,h⟩:=hone 1;exact ⟨X,h⟩
  | some y =>
   have hp:=(hk.i y rfl).2.1;cases hvd:(carT d t y).valid with
   | false =>
    have hk3:bK d t (some y)=3:=by show (if (carT d t y).valid=true then (2:Int) else 3)=3; rw [H6 (by rw [hvd]; simp)]
    have eB:pthB d t st F (some y,cc)=[⟨3,st,t,cc⟩]:=by unfold pthB; simp only [hvd]; rw [H6 (by simp)]
    rw [eB,hk3];obtain ⟨X,h⟩:=hone 3;exact ⟨X,h⟩
   | true =>
    have hk2:bK d t (some y)=2:=by show (if (carT d t y).valid=true then (2:Int) else 3)=2; rw [H5 hvd]
    have hT2:bT d t (some y)=carT d t y:=by show (if (carT d t y).valid=true then carT d t y else tm0)=_; rw [H5 hvd]
    have hst2:=hnx _ hbm hk2;simp only [hT2] at hst2;simp only [hk2,hT2,show ¬((2:Int)=3) by decide,H4,H2,H3,H1]
    cases r with
    | zero =>
     have eB:pthB d t st F (some y,cc)=[⟨2,st,t,cc⟩]:=by unfold pthB; rw [hF0 rfl]; simp only [hvd]; rw [H5 trivial]
     rw [eB];obtain ⟨X,h⟩:=hone 2;exact ⟨X,h⟩
    | succ r' =>
     obtain ⟨f,hf,hcall⟩:=hF1 r' rfl;have eB:pthB d t st F (some y,cc)=f (carT d t y) cc (st++[y]):=by unfold pthB; rw [hf]; simp only [hvd]; rw [H5 trivial]
     have er:¬(((r'+1:Nat):Int)=0):=by omega
     have ew:IntKind.i64.wrap (((r'+1:Nat):Int)-1)=(r':Int):=by rw [IntWalk.i64_in _ (by omega)]; omega
     have b2:F4 (st.length+1) M63=true:=b63 (by omega)
     have e2:st.map rdRow++[[.int (bR (some y)),.sl ((bP (some y)).map iRow)]]=(st++[y]).map rdRow:=by rw [E4]; rfl
     obtain ⟨X1,h1⟩:=hcall (carT d t y) cc (st++[y]) out hst2 (by rw [E0]; simp only [C5,D0]; omega) (fun x hx=>by
      rcases D3.1 hx with hx | hx
      · exact hsp x hx
      · rw [E8.1 hx]; exact hp) ho
     rw [eB];simp only [er,H4,H2,b2,H1,e2,ew];by_cases hle:(out++f (carT d t y) cc (st++[y])).length<=30
     · obtain ⟨X,h2⟩:=ih (i+1) (out++f (carT d t y) cc (st++[y])) (by omega) hle
       refine ⟨X,?_⟩;rw [H5 hle] at h1;rw [D9] at h2;simp only [h1,nv0,nvS,dvI,dvB,dvS,dvL,B5,D8,H2,h2]
     · refine ⟨X1,?_⟩
       rw [H6 hle] at h1;simp only [h1,nv0,nvS,dvI,dvB,dvS,dvL,B5,K6,H1];rw [H6 (by rw [<- D9,E0]; omega)]
theorem ptA1 (d:DfM) (hd:DfB d) (v:List ByteArray) (hv:v.length<=1048576) (hvs:∀ x∈v,x.size<=maxLen):∀ (r:Nat) (t:Tm) (cl:List Int) (st:List Stp) (out:List PtM),StG d v t cl->st.length+r<=200->(∀ x∈st,x.2.length<=60)->out.length<=30->∃ X:Rows,rn ⟨113,0,0⟩ [.sl (d.so.map sRow),.sl (d.op.map OpM.row),.sl (d.ru.map RuM.row),.sl (d.st.map StM.row),.sl (v.map sRow),.int t.k,.int t.n,.str t.s,.sl (t.as.map Tm.row),.sl (cl.map iRow),.sl (st.map rdRow),.int (r:Int),.sl (out.map (PtM.row v))]=if (out++pth d v r t cl st).length<=30 then some (0,[.bool true,.sl ((out++pth d v r t cl st).map (PtM.row v))]) else some (0,[.bool false,.sl X]):=by
 have one:∀ (r:Nat) (F:Option PtF) (t:Tm) (cl:List Int) (st:List Stp) (out:List PtM) (A:List PtM),StG d v t cl->A=(brF d v t cl []).flatMap (pthB d t st F)->out.length<=30->(∃ X:Rows,rn ⟨113,0,1⟩ [.sl (st.map rdRow),.int (r:Int),.int ((brF d v t cl []).length:Int),.int ((0:Nat):Int),.sl (d.so.map sRow),.sl (d.op.map OpM.row),.sl (d.ru.map RuM.row),.sl (d.st.map StM.row),.sl (v.map sRow),.int t.k,.int t.n,.str t.s,.sl (t.as.map Tm.row),.sl (cl.map iRow),.sl ((brF d v t cl []).map (brRow d v t)),.sl (out.map (PtM.row v))]=if (out++((brF d v t cl []).drop 0).flatMap (pthB d t st F)).length<=30 then some (0,[.sl ((out++((brF d v t cl []).drop 0).flatMap (pthB d t st F)).map (PtM.row v))]) else some (1,[.sl X]))->∃ X:Rows,rn ⟨113,0,0⟩ [.sl (d.so.map sRow),.sl (d.op.map OpM.row),.sl (d.ru.map RuM.row),.sl (d.st.map StM.row),.sl (v.map sRow),.int t.k,.int t.n,.str t.s,.sl (t.as.map Tm.row),.sl (cl.map iRow),.sl (st.map rdRow),.int (r:Int),.sl (out.map (PtM.row v))]=if (out++A).length<=30 then some (0,[.bool true,.sl ((out++A).map (PtM.row v))]) else some (0,[.bool false,.sl X]):=by
  intro r F t cl st out A hs hA ho ⟨X,h2⟩;obtain ⟨s1,s2,s3⟩:=hs.sy2 hd hv hvs;have h1:=r87 _ s1 s2;rw [s3] at h1;unfold SyM.row at h1;simp only at h1;rw [D2,<- hA] at h2;simp only [C4] at h2;refine ⟨X,?_⟩;rw [e113_0_0];simp only [h1,nv0,nvS,dvI,dvB,dvS,dvL,B5,B6,h2];by_cases hle:(out++A).length<=30
  · rw [H5 hle,H5 hle]; rfl
  · rw [H6 hle,H6 hle]; rfl
 intro r;induction r with
 | zero =>
  intro t cl st out hs hst hsp ho;exact one 0 none t cl st out _ hs rfl ho (ptl1 d hd v hv hvs t cl hs 0 st hst hsp none (fun _=>rfl) (fun r' h=>by omega) _ rfl _ 0 out (E3 _) ho)
 | succ r ih =>
  intro t cl st out hs hst hsp ho;exact one (r+1) (some (pth d v r)) t cl st out _ hs rfl ho (ptl1 d hd v hv hvs t cl hs (r+1) st hst hsp (some (pth d v r)) (fun h=>by omega) (fun r' h=>⟨_,rfl,by
   obtain rfl:r=r':=by omega
   exact ptA2 d hd v hv hvs r⟩) _ rfl _ 0 out (E3 _) ho)
theorem r33 (s:SyM) (hs:SyB s) (f:Int):rn ⟨33,0,0⟩ [.sl (s.d.so.map sRow),.sl (s.d.op.map OpM.row),.sl (s.d.ru.map RuM.row),.sl (s.d.st.map StM.row),.sl (s.v.map sRow),.int s.t.k,.int s.t.n,.str s.t.s,.sl (s.t.as.map Tm.row),.sl (s.c.map iRow),.int f]=some (0,ptD s.v (ptR s f)):=by
 have h1:=symI s.d hs.d s.v hs.v hs.vs s.t hs.w hs.n s.c hs.c;rw [e33_0_0];simp only [h1,nv0,nvS,dvI,dvB,dvS,dvL,B5];unfold ptR;cases h:symC s.d s.v s.t s.c with
 | false=>rw [H6 (by simp)]; rfl
 | true =>
  by_cases h0:0<=f
  · by_cases h2:f<=200
    · have hst:StG s.d s.v s.t s.c:=by
       simp only [symC,C3] at h;exact ⟨hs.w,h.1,h.2⟩
      obtain ⟨X,h3⟩:=ptA1 s.d hs.d s.v hs.v hs.vs f.toNat s.t s.c [] [] hst (by simp only [D0]; omega) (by simp) (K5 _)
      rw [Int.toNat_of_nonneg h0] at h3;simp only [E1,D1] at h3;rw [H8 (show ¬ f<0 by omega),H8 (show ¬(200:Int)<f by omega)]
      simp only [D8,H2,h3];by_cases hle:(pth s.d s.v f.toNat s.t s.c []).length<=30
      · rw [H5 hle,H5 ⟨trivial,h0,h2,hle⟩]; rfl
      · rw [H6 hle,H6 (fun k=>hle k.2.2.2)]; rfl
    · rw [H6 (fun k=>h2 k.2.2.1),H8 (show ¬ f<0 by omega),H7 (show (200:Int)<f by omega)]; rfl
  · rw [H6 (fun k=>h0 k.2.1),H7 (show f<0 by omega)]; rfl
theorem r32 (s:SyM) (hs:SyB s) (f:Int):rn ⟨32,0,0⟩ [.sl (s.d.so.map sRow),.sl (s.d.op.map OpM.row),.sl (s.d.ru.map RuM.row),.sl (s.d.st.map StM.row),.sl (s.v.map sRow),.int s.t.k,.int s.t.n,.str s.t.s,.sl (s.t.as.map Tm.row),.sl (s.c.map iRow),.int f]=some (0,ptD s.v (ptR s f)):=by
 have h1:=symS s.d hs.d s.v hs.v hs.vs s.t hs.w hs.n s.c hs.c;rw [e32_0_0];simp only [h1,nv0,nvS,dvI,dvB,dvS,dvL,B5,rIn];unfold ptR;cases h:symC s.d s.v s.t s.c with
 | false=>rw [H6 (by simp)]; rfl
 | true =>
  by_cases h0:0<=f
  · by_cases h2:f<=200
    · have hst:StG s.d s.v s.t s.c:=by
       simp only [symC,C3] at h;exact ⟨hs.w,h.1,h.2⟩
      have h3:=wkA1 s.d hs.d s.v hs.v hs.vs f.toNat s.t s.c [] [] hst (by simp only [D0]; omega) (by simp) (K5 _)
      rw [Int.toNat_of_nonneg h0] at h3;simp only [E1,D1] at h3;simp only [h0,h2,H3,O1,D8,H2,h3,nv0,nvS,dvI,dvB,dvS,dvL,B5,B6,Q7];by_cases hle:(pth s.d s.v f.toNat s.t s.c []).length<=30
      · rw [H5 ⟨trivial,trivial,trivial,hle⟩,H8 (by omega),N3 (by omega)]; rfl
      · rw [H6 (fun k=>hle k.2.2.2),H7 (by omega)]; rfl
    · rw [H6 (fun k=>h2 k.2.2.1),H8 h2,Bool.and_false]; rfl
  · rw [H6 (fun k=>h0 k.2.1),H8 h0]; rfl
theorem r119 (v:List ByteArray) (p:PtM) (hp:Small p.t):rn ⟨119,0,0⟩ [.int p.k,.sl (p.st.map rdRow),.sl (v.map sRow),.int p.t.k,.int p.t.n,.str p.t.s,.sl (p.t.as.map Tm.row),.sl (p.c.map iRow)]=some (0,teD v p):=by
 rw [e119_0_0];unfold teD teO;by_cases hk:p.k=1
 · rw [H5 hk]
   cases hc:p.c with
   | nil=>simp only [hk,H3,D8,H2,E1,D0,C4,H1]
   | cons c r =>
    have h1:=r120 v p.t hp ((c::r).map iRow) c;have h2:=r196 v.length c;have e0:¬(((r.length+1:Nat):Int)=0):=by omega
    have ei:inb 0 (r.length+1)=true:=by rw [show (0:Int)=((0:Nat):Int) from rfl,inbN]; simp
    have er:rowAt ((c::r).map iRow) (O5 0)=[.int c]:=rfl;simp only [hk,H3,D8,H2,B6,C5,e0,H4,ei,H1,er,nv0,nvS,dvI,dvB,dvS,dvL,B5,h1];cases hi:isC v.length c with
    | false=>rw [H6 (by simp)]; rfl
    | true=>rw [H5 (show true=true from rfl)]; simp only [D8,H2,h2,nv0,nvS,dvI,dvB,dvS,dvL,B5]
 · rw [H6 hk]
   simp only [hk,H4,K6,H1]
theorem r117 (v:List ByteArray) (p:PtM) (hp:Small p.t):rn ⟨117,0,0⟩ [.int p.k,.sl (p.st.map rdRow),.sl (v.map sRow),.int p.t.k,.int p.t.n,.str p.t.s,.sl (p.t.as.map Tm.row),.sl (p.c.map iRow)]=some (0,teD v p):=by
 rw [e117_0_0];unfold teD teO;by_cases hk:p.k=1
 · rw [H5 hk]
   cases hc:p.c with
   | nil=>simp only [hk,H3,D8,H2,E1,D0,C4,H1]
   | cons c r =>
    have h1:=r118 v p.t hp ((c::r).map iRow) c;have h2:=r195 v.length c;have e0:¬(((r.length+1:Nat):Int)=0):=by omega
    have ei:inb 0 (r.length+1)=true:=by rw [show (0:Int)=((0:Nat):Int) from rfl,inbN]; simp
    have er:rowAt ((c::r).map iRow) (O5 0)=[.int c]:=rfl;simp only [hk,H3,D8,H2,B6,C5,e0,H4,ei,H1,er,nv0,nvS,dvI,dvB,dvS,dvL,B5,h1];cases hi:isC v.length c with
    | false=>rw [H6 (by simp)]; rfl
    | true=>rw [H5 (show true=true from rfl)]; simp only [D8,H2,h2,nv0,nvS,dvI,dvB,dvS,dvL,B5]
 · rw [H6 hk]
   simp only [hk,H4,K6,H1]
theorem r38 (s:SyM) (hs:SyB s) (f:Int):rn ⟨38,0,0⟩ [.sl (s.d.so.map sRow),.sl (s.d.op.map OpM.row),.sl (s.d.ru.map RuM.row),.sl (s.d.st.map StM.row),.sl (s.v.map sRow),.int s.t.k,.int s.t.n,.str s.t.s,.sl (s.t.as.map Tm.row),.sl (s.c.map iRow),.int f]=some (0,[.sl ((teR s f).map (teRow s.v s.t))]):=by
 have h1:=r33 s hs f;obtain ⟨hl,hg⟩:=ptR_good hs f;have hsm:=small_of s.t hs.n;have hlp:∀ (P:List PtM),P.length<=30->(∀ p∈P,PtOK s.d s.v p)->∀ n i (acc:List (PtM × Int)),i+n=P.length->acc.length<=i->rn ⟨38,0,1⟩ [.int (P.length:Int),.int (i:Int),.sl (s.v.map sRow),.int s.t.k,.int s.t.n,.str s.t.s,.sl (s.t.as.map Tm.row),.sl (s.c.map iRow),.sl (acc.map (teRow s.v s.t)),.sl (P.map (PtM.row s.v))]=some (0,[.sl ((acc++teL s.v (P.drop i)).map (teRow s.v s.t))]):=by
  intro P hP hPg n;induction n with
  | zero =>
   intro i acc hi _;obtain rfl:i=P.length:=by omega
   rw [e38_0_1];simp only [B6,C2,D4,H4,H2,C9,teL,T4,G8]
  | succ n ih =>
   intro i acc hi ha;have hlt:i<P.length:=by omega
   have g:=hPg _ (C0 hlt);have h2:=r119 s.v P[i] (small_of _ (by have:=g.n; omega))
   have b1:F4 (acc.length+1) M63=true:=b63 (by omega)
   have hd:teL s.v (P.drop i)=(match teO s.v P[i] with | none=>teL s.v (P.drop (i+1)) | some c=>(P[i],c)::teL s.v (P.drop (i+1))):=by
    unfold teL;rw [C1 hlt,P4];cases teO s.v P[i] <;> rfl
   rw [hd,e38_0_1];unfold teD at h2;simp only [B6,C2,hlt,H3,H1,inbN,B9,rowAt_map hlt,wrap_succ hlt (maxB (by omega)),PtM.row,nv0,nvS,dvI,dvB,dvS,dvL,B5,h2]
   cases ht:teO s.v P[i] with
   | none =>
    simp only [nv0,nvS,dvI,dvB,dvS,dvL,B5,H2];exact ih (i+1) acc (by omega) (by omega)
   | some c =>
    obtain ⟨rr,hc⟩:=teO_some ht;have h3:=r120 s.v s.t hsm (s.c.map iRow) c;have ei:inb 0 (rr.length+1)=true:=by rw [show (0:Int)=((0:Nat):Int) from rfl,inbN]; simp
    have er:rowAt ((c::rr).map iRow) (O5 0)=[.int c]:=rfl;have h4:=ih (i+1) (acc++[(P[i],c)]) (by omega) (by rw [E0]; simp only [C5,D0]; omega)
    rw [D9,E4] at h4;simp only [nv0,nvS,dvI,dvB,dvS,dvL,B5,H1,hc,B6,C5,D0,E3,ei,er,h3,b1];exact h4
 have h2:=hlp ((ptR s f).getD []) hl hg _ 0 [] (E3 _) (F9 _);simp only [C4,D2,E1,D1] at h2;have e:ptD s.v (ptR s f)=[.bool (ptR s f).isSome,.sl (((ptR s f).getD []).map (PtM.row s.v))]:=by cases ptR s f <;> rfl
 rw [e] at h1;rw [e38_0_0];simp only [h1,nv0,nvS,dvI,dvB,dvS,dvL,B5,B6,h2,D7,H1,H2];rfl
theorem r37 (s:SyM) (hs:SyB s) (f:Int):rn ⟨37,0,0⟩ [.sl (s.d.so.map sRow),.sl (s.d.op.map OpM.row),.sl (s.d.ru.map RuM.row),.sl (s.d.st.map StM.row),.sl (s.v.map sRow),.int s.t.k,.int s.t.n,.str s.t.s,.sl (s.t.as.map Tm.row),.sl (s.c.map iRow),.int f]=some (0,[.sl ((teR s f).map (teRow s.v s.t))]):=by
 have h1:=r32 s hs f;obtain ⟨hl,hg⟩:=ptR_good hs f;have hsm:=small_of s.t hs.n;have hlp:∀ (P:List PtM),P.length<=30->(∀ p∈P,PtOK s.d s.v p)->∀ n i (acc:List (PtM × Int)),i+n=P.length->acc.length<=i->rn ⟨37,0,1⟩ [.int (i:Int),.sl (s.v.map sRow),.int s.t.k,.int s.t.n,.str s.t.s,.sl (s.t.as.map Tm.row),.sl (s.c.map iRow),.sl (acc.map (teRow s.v s.t)),.sl (P.map (PtM.row s.v))]=some (0,[.sl ((acc++teL s.v (P.drop i)).map (teRow s.v s.t))]):=by
  intro P hP hPg n;induction n with
  | zero =>
   intro i acc hi _;obtain rfl:i=P.length:=by omega
   rw [e37_0_1];simp only [B6,C2,D4,H4,H2,C9,teL,T4,G8]
  | succ n ih =>
   intro i acc hi ha;have hlt:i<P.length:=by omega
   have g:=hPg _ (C0 hlt);have h2:=r117 s.v P[i] (small_of _ (by have:=g.n; omega))
   have b1:F4 (acc.length+1) M63=true:=b63 (by omega)
   have hd:teL s.v (P.drop i)=(match teO s.v P[i] with | none=>teL s.v (P.drop (i+1)) | some c=>(P[i],c)::teL s.v (P.drop (i+1))):=by
    unfold teL;rw [C1 hlt,P4];cases teO s.v P[i] <;> rfl
   rw [hd,e37_0_1];unfold teD at h2;simp only [B6,C2,hlt,H3,H1,inbN,B9,rowAt_map hlt,wrap_succ hlt (maxB (by omega)),PtM.row,nv0,nvS,dvI,dvB,dvS,dvL,B5,h2]
   cases ht:teO s.v P[i] with
   | none =>
    simp only [nv0,nvS,dvI,dvB,dvS,dvL,B5,H2];exact ih (i+1) acc (by omega) (by omega)
   | some c =>
    obtain ⟨rr,hc⟩:=teO_some ht;have h3:=r118 s.v s.t hsm (s.c.map iRow) c;have ei:inb 0 (rr.length+1)=true:=by rw [show (0:Int)=((0:Nat):Int) from rfl,inbN]; simp
    have er:rowAt ((c::rr).map iRow) (O5 0)=[.int c]:=rfl;have h4:=ih (i+1) (acc++[(P[i],c)]) (by omega) (by rw [E0]; simp only [C5,D0]; omega)
    rw [D9,E4] at h4;simp only [nv0,nvS,dvI,dvB,dvS,dvL,B5,H1,hc,B6,C5,D0,E3,ei,er,h3,b1];exact h4
 have h2:=hlp ((ptR s f).getD []) hl hg _ 0 [] (E3 _) (F9 _);simp only [C4,D2,E1,D1] at h2;have e:ptD s.v (ptR s f)=[.bool (ptR s f).isSome,.sl (((ptR s f).getD []).map (PtM.row s.v))]:=by cases ptR s f <;> rfl
 rw [e] at h1;rw [e37_0_0];simp only [h1,nv0,nvS,dvI,dvB,dvS,dvL,B5,B6,h2,D7,H1,H2];rfl
end Go.Q.S
end
section
namespace Go.Q.S
open Go Go.Q Go.Proofs
noncomputable def mt (k:Int):ByteArray:=match rn ⟨109,0,0⟩ [.int k] with | some (0,[.str s])=>s | _=>⟨#[]⟩
theorem mt_ok {k:Int} (h0:0<k) (hb:k<=BK):rn ⟨109,0,0⟩ [.int k]=some (0,[.str (mt k)]):=by
 have hg:∃ s,rn ⟨109,0,0⟩ [.int k]=some (0,[.str s]):=by
  rw [e109_0_0];rw [H8 (by omega:¬ k<=0)]
  simp only [H2];have hk:∀ (n:Nat) (k:Int) (t:ByteArray),0<=k->k<10 ^ n->k<=BK->t.size+n<=100->∃ s:ByteArray,s.size<=100/\rn ⟨109,0,1⟩ [.int k,.str t]=some (0,[.str s]):=by
   intro n;induction n with
   | zero =>
    intro k t h0 h1 _ ht;rw [e109_0_1];rw [H8 (by simp at h1; omega:¬(0:Int)<k)]
    exact ⟨t,by omega,rfl⟩
   | succ n ih =>
    intro k t h0 h1 hn ht; unfold BK at hn;by_cases hk:0<k
    · obtain ⟨s,hs,e⟩:=ih (k / 10) (bytesOf ([[.int (IntKind.u8.wrap (IntKind.i64.wrap (48+(R3 k 10))))]]:Rows)++t) (by omega) (by rw [Int.pow_succ] at h1; omega) (by unfold BK; omega) (by rw [ByteArray.size_append,size1]; omega)
      refine ⟨s,hs,?_⟩;rw [e109_0_1];rw [H7 hk,H8 (by omega:¬(10:Int)=0),H7 (show (bytesOf ([[.int (IntKind.u8.wrap (IntKind.i64.wrap (48+(R3 k 10))))]]:Rows)).size+t.size<=i64max from by rw [size1]; unfold i64max; omega)]
      simp only [H1,K6];have hq:IntKind.i64.wrap (Int.tdiv k 10)=k / 10:=by
       rw [Int.tdiv_eq_ediv_of_nonneg h0];exact IntWalk.i64_in _ (by omega)
      rw [hq]; exact e
    · obtain rfl:k=0:=by omega
      rw [e109_0_1];exact ⟨t,by omega,rfl⟩
  obtain ⟨s,hs,e⟩:=hk 19 k ⟨#[]⟩ (by omega) (by unfold BK at hb; simp; omega) hb (by decide)
  rw [e];simp only [B5,nth,B7,B8,D.I,D.S,D.L,D.B,D7,H1];rw [H7 (show (⟨#[109]⟩:ByteArray).size+s.size<=i64max from by have:(⟨#[109]⟩:ByteArray).size=1:=rfl; unfold i64max; omega)]
  exact ⟨_,rfl⟩
 obtain ⟨s,e⟩:=hg;unfold mt;rw [e];rfl
theorem m98_1 {rs:Rows} (hl:rs.length<=maxLen) (hW:WRs H rs L9) {k:Int} (hk:0<k) (hb:k+cntR rs<=BK):rn ⟨98,1,0⟩ [.int k,.sl rs]=some (0,[.int (k+cntR rs),.sl (mkR mt rs k)]):=by
 show rn ⟨98,1,0⟩ _=_
 rw [e98_1_0];have hf:=mark_loop (mt:=mt) (F:=fun i k y=>rn ⟨98,1,1⟩ [.int k,.int (i:Int),.sl y]) (rs:=rs) hk hb (fun i hi k y hyl hy hk hb=>by
  have hw:=WRs_mem hW (C0 hi);obtain ⟨a0,hr,b0⟩:=wl9 hw;have hiy:i<y.length:=by omega
  rw [hr] at hy hb ⊢;have em:mkL mt [.str a0] k=[.str (mt (k))]:=by simp only [mkL,mkD,cntD,N1]
  have ek:k+((cntL [.str a0]:Nat):Int)=k+1:=by simp only [cntL,cntD]; omega
  rw [em];rw [ek] at hb ⊢;have t0:=mt_ok (k:=k) (by omega) (by omega)
  have w0:IntKind.i64.wrap (k+1)=k+1:=wrap_k (by omega) (by omega)
  rw [e98_1_1];simp only [B9,over_row_two hiy,over_row_at hiy,over_row_len hiy,hyl,hy,inbN,hi,H3,H1,C2,over,nth,B7,B8,D.I,D.S,D.L,D.B,t0,w0,B5,wrap_succ hi hl]) (fun k y hyl=>by
  rw [e98_1_1];simp [hyl])
 rw [C4] at hf;simp only [hf,B5,D7,H1,nth,B7,B8,D.I,D.S,D.L,D.B]
theorem m98_2 {rs:Rows} (hl:rs.length<=maxLen) (hW:WRs H rs L9) {k:Int} (hk:0<k) (hb:k+cntR rs<=BK):rn ⟨98,2,0⟩ [.int k,.sl rs]=some (0,[.int (k+cntR rs),.sl (mkR mt rs k)]):=by
 show rn ⟨98,2,0⟩ _=_
 rw [e98_2_0];have hf:=mark_loop (mt:=mt) (F:=fun i k y=>rn ⟨98,2,1⟩ [.int k,.int (i:Int),.sl y]) (rs:=rs) hk hb (fun i hi k y hyl hy hk hb=>by
  have hw:=WRs_mem hW (C0 hi);obtain ⟨a0,hr,b0⟩:=wl9 hw;have hiy:i<y.length:=by omega
  rw [hr] at hy hb ⊢;have em:mkL mt [.str a0] k=[.str (mt (k))]:=by simp only [mkL,mkD,cntD,N1]
  have ek:k+((cntL [.str a0]:Nat):Int)=k+1:=by simp only [cntL,cntD]; omega
  rw [em];rw [ek] at hb ⊢;have t0:=mt_ok (k:=k) (by omega) (by omega)
  have w0:IntKind.i64.wrap (k+1)=k+1:=wrap_k (by omega) (by omega)
  rw [e98_2_1];simp only [B9,over_row_two hiy,over_row_at hiy,over_row_len hiy,hyl,hy,inbN,hi,H3,H1,C2,over,nth,B7,B8,D.I,D.S,D.L,D.B,t0,w0,B5,wrap_succ hi hl]) (fun k y hyl=>by
  rw [e98_2_1];simp [hyl])
 rw [C4] at hf;simp only [hf,B5,D7,H1,nth,B7,B8,D.I,D.S,D.L,D.B]
theorem m180_1 {rs:Rows} (hl:rs.length<=maxLen) (hW:WRs H rs L286) {k:Int} (hk:0<k) (hb:k+cntR rs<=BK):rn ⟨180,1,0⟩ [.int k,.sl rs]=some (0,[.int (k+cntR rs),.sl (mkR mt rs k)]):=by
 show rn ⟨180,1,0⟩ _=_
 rw [e180_1_0];have hf:=mark_loop (mt:=mt) (F:=fun i k y=>rn ⟨180,1,1⟩ [.int k,.int (i:Int),.sl y]) (rs:=rs) hk hb (fun i hi k y hyl hy hk hb=>by
  have hw:=WRs_mem hW (C0 hi);obtain ⟨a0,a1,a2,hr,b0,b1,c1,b2⟩:=wl286 hw;have hiy:i<y.length:=by omega
  rw [hr] at hy hb ⊢;have em:mkL mt [.str a0,.sl a1,.str a2] k=[.str (mt (k)),.sl (mkR mt a1 (k+1)),.str (mt (k+1+(cntR a1:Int)))]:=by simp only [mkL,mkD,cntD,N1]
  have ek:k+((cntL [.str a0,.sl a1,.str a2]:Nat):Int)=k+1+(cntR a1:Int)+1:=by simp only [cntL,cntD]; omega
  rw [em];rw [ek] at hb ⊢;have t0:=mt_ok (k:=k) (by omega) (by omega)
  have w0:IntKind.i64.wrap (k+1)=k+1:=wrap_k (by omega) (by omega)
  have s1:=m98_2 (k:=k+1) b1 c1 (by omega) (by omega)
  skip
  have t2:=mt_ok (k:=k+1+(cntR a1:Int)) (by omega) (by omega)
  have w2:IntKind.i64.wrap (k+1+(cntR a1:Int)+1)=k+1+(cntR a1:Int)+1:=wrap_k (by omega) (by omega)
  rw [e180_1_1];simp only [B9,over_row_two hiy,over_row_at hiy,over_row_len hiy,hyl,hy,inbN,hi,H3,H1,C2,over,nth,B7,B8,D.I,D.S,D.L,D.B,t0,w0,s1,t2,w2,B5,wrap_succ hi hl]) (fun k y hyl=>by
  rw [e180_1_1];simp [hyl])
 rw [C4] at hf;simp only [hf,B5,D7,H1,nth,B7,B8,D.I,D.S,D.L,D.B]
theorem mT95_1 (a0:Rows) (a1:Rows) (h:WL H [.sl a0,.sl a1] L41) {k:Int} (hk:0<k) (hb:k+(cntR a0:Int)+(cntR a1:Int)<=BK):rn ⟨95,1,0⟩ [.int k,.sl a0,.sl a1]=some (0,[.int (k+(cntR a0:Int)+(cntR a1:Int)),.sl (mkR mt a0 (k)),.sl (mkR mt a1 (k+(cntR a0:Int)))]):=by
 obtain ⟨x0,x1,hh,bx0,cx0,bx1,cx1⟩:=wl41 h;simp only [K0.injEq,D.int.injEq,D.bool.injEq,D.str.injEq,D.sl.injEq,and_true] at hh;obtain ⟨rfl,rfl⟩:=hh;have e0:=m98_1 (k:=k) bx0 cx0 (by omega) (by omega)
 skip
 have e1:=m180_1 (k:=k+(cntR a0:Int)) bx1 cx1 (by omega) (by omega)
 skip
 show rn ⟨95,1,0⟩ _=_
 rw [e95_1_0];simp only [e0,e1,B5,H2,nth,B7,B8,D.I,D.S,D.L,D.B]
theorem m110_1:∀ (N:Nat) (rs:Rows),SizeOf.sizeOf rs<N->rs.length<=maxLen->WRs H rs L49->∀ k:Int,0<k->k+cntR rs<=BK->rn ⟨110,1,0⟩ [.int k,.sl rs]=some (0,[.int (k+cntR rs),.sl (mkR mt rs k)])
 | 0,rs,hN,_,_,_,_,_=>absurd hN (Q1 _)
 | N+1,rs,hN,hl,hW,k,hk,hb=>by
  show rn ⟨110,1,0⟩ _=_
  rw [e110_1_0];have hf:=mark_loop (mt:=mt) (F:=fun i k y=>rn ⟨110,1,1⟩ [.int k,.int (i:Int),.sl y]) (rs:=rs) hk hb (fun i hi k y hyl hy hk hb=>by
   have hw:=WRs_mem hW (C0 hi);obtain ⟨a0,a1,a2,a3,hr,b2,b3,c3⟩:=wl49 hw;have hiy:i<y.length:=by omega
   rw [hr] at hy hb ⊢;have em:mkL mt [.int a0,.int a1,.str a2,.sl a3] k=[.int (k),.int (k+1),.str (mt (k+1+1)),.sl (mkR mt a3 (k+1+1+1))]:=by simp only [mkL,mkD,cntD,N1]
   have ek:k+((cntL [.int a0,.int a1,.str a2,.sl a3]:Nat):Int)=k+1+1+1+(cntR a3:Int):=by simp only [cntL,cntD]; omega
   rw [em];rw [ek] at hb ⊢;have w0:IntKind.i64.wrap (k+1)=k+1:=wrap_k (by omega) (by omega)
   have w1:IntKind.i64.wrap (k+1+1)=k+1+1:=wrap_k (by omega) (by omega)
   have t2:=mt_ok (k:=k+1+1) (by omega) (by omega)
   have w2:IntKind.i64.wrap (k+1+1+1)=k+1+1+1:=wrap_k (by omega) (by omega)
   have s3:=m110_1 N a3 (by have h1:=size_row (r:=rs[i]) (rs:=rs) (C0 hi); rw [hr] at h1; simp only [K0.sizeOf_spec,D.sl.sizeOf_spec] at h1 hN; omega) b3 c3 (k+1+1+1) (by omega) (by omega)
   skip
   rw [e110_1_1];simp only [B9,over_row_two hiy,over_row_at hiy,over_row_len hiy,hyl,hy,inbN,hi,H3,H1,C2,over,nth,B7,B8,D.I,D.S,D.L,D.B,w0,w1,t2,w2,s3,B5,wrap_succ hi hl]) (fun k y hyl=>by
   rw [e110_1_1];simp [hyl])
  rw [C4] at hf;simp only [hf,B5,D7,H1,nth,B7,B8,D.I,D.S,D.L,D.B]
theorem m141_1 {rs:Rows} (hl:rs.length<=maxLen) (hW:WRs H rs L275) {k:Int} (hk:0<k) (hb:k+cntR rs<=BK):rn ⟨141,1,0⟩ [.int k,.sl rs]=some (0,[.int (k+cntR rs),.sl (mkR mt rs k)]):=by
 show rn ⟨141,1,0⟩ _=_
 rw [e141_1_0];have hf:=mark_loop (mt:=mt) (F:=fun i k y=>rn ⟨141,1,1⟩ [.int k,.int (i:Int),.sl y]) (rs:=rs) hk hb (fun i hi k y hyl hy hk hb=>by
  have hw:=WRs_mem hW (C0 hi);obtain ⟨a0,a1,a2,a3,a4,a5,a6,a7,a8,hr,b3,b4,c4,b7,b8,c8⟩:=wl275 hw;have hiy:i<y.length:=by omega
  rw [hr] at hy hb ⊢;have em:mkL mt [.int a0,.int a1,.int a2,.str a3,.sl a4,.int a5,.int a6,.str a7,.sl a8] k=[.int (k),.int (k+1),.int (k+1+1),.str (mt (k+1+1+1)),.sl (mkR mt a4 (k+1+1+1+1)),.int (k+1+1+1+1+(cntR a4:Int)),.int (k+1+1+1+1+(cntR a4:Int)+1),.str (mt (k+1+1+1+1+(cntR a4:Int)+1+1)),.sl (mkR mt a8 (k+1+1+1+1+(cntR a4:Int)+1+1+1))]:=by simp only [mkL,mkD,cntD,N1]
  have ek:k+((cntL [.int a0,.int a1,.int a2,.str a3,.sl a4,.int a5,.int a6,.str a7,.sl a8]:Nat):Int)=k+1+1+1+1+(cntR a4:Int)+1+1+1+(cntR a8:Int):=by simp only [cntL,cntD]; omega
  rw [em];rw [ek] at hb ⊢;have w0:IntKind.i64.wrap (k+1)=k+1:=wrap_k (by omega) (by omega)
  have w1:IntKind.i64.wrap (k+1+1)=k+1+1:=wrap_k (by omega) (by omega)
  have w2:IntKind.i64.wrap (k+1+1+1)=k+1+1+1:=wrap_k (by omega) (by omega)
  have t3:=mt_ok (k:=k+1+1+1) (by omega) (by omega)
  have w3:IntKind.i64.wrap (k+1+1+1+1)=k+1+1+1+1:=wrap_k (by omega) (by omega)
  have s4:=m110_1 _ a4 (F2 _) b4 c4 (k+1+1+1+1) (by omega) (by omega)
  skip
  have w5:IntKind.i64.wrap (k+1+1+1+1+(cntR a4:Int)+1)=k+1+1+1+1+(cntR a4:Int)+1:=wrap_k (by omega) (by omega)
  have w6:IntKind.i64.wrap (k+1+1+1+1+(cntR a4:Int)+1+1)=k+1+1+1+1+(cntR a4:Int)+1+1:=wrap_k (by omega) (by omega)
  have t7:=mt_ok (k:=k+1+1+1+1+(cntR a4:Int)+1+1) (by omega) (by omega)
  have w7:IntKind.i64.wrap (k+1+1+1+1+(cntR a4:Int)+1+1+1)=k+1+1+1+1+(cntR a4:Int)+1+1+1:=wrap_k (by omega) (by omega)
  have s8:=m110_1 _ a8 (F2 _) b8 c8 (k+1+1+1+1+(cntR a4:Int)+1+1+1) (by omega) (by omega)
  skip
  rw [e141_1_1];simp only [B9,over_row_two hiy,over_row_at hiy,over_row_len hiy,hyl,hy,inbN,hi,H3,H1,C2,over,nth,B7,B8,D.I,D.S,D.L,D.B,w0,w1,w2,t3,w3,s4,w5,w6,t7,w7,s8,B5,wrap_succ hi hl]) (fun k y hyl=>by
  rw [e141_1_1];simp [hyl])
 rw [C4] at hf;simp only [hf,B5,D7,H1,nth,B7,B8,D.I,D.S,D.L,D.B]
theorem m96_1 {rs:Rows} (hl:rs.length<=maxLen) (hW:WRs H rs L213) {k:Int} (hk:0<k) (hb:k+cntR rs<=BK):rn ⟨96,1,0⟩ [.int k,.sl rs]=some (0,[.int (k+cntR rs),.sl (mkR mt rs k)]):=by
 show rn ⟨96,1,0⟩ _=_
 rw [e96_1_0];have hf:=mark_loop (mt:=mt) (F:=fun i k y=>rn ⟨96,1,1⟩ [.int k,.int (i:Int),.sl y]) (rs:=rs) hk hb (fun i hi k y hyl hy hk hb=>by
  have hw:=WRs_mem hW (C0 hi);obtain ⟨a0,a1,a2,a3,a4,a5,a6,a7,a8,a9,hr,b0,b3,b4,c4,b7,b8,c8,b9,c9⟩:=wl213 hw;have hiy:i<y.length:=by omega
  rw [hr] at hy hb ⊢;have em:mkL mt [.str a0,.int a1,.int a2,.str a3,.sl a4,.int a5,.int a6,.str a7,.sl a8,.sl a9] k=[.str (mt (k)),.int (k+1),.int (k+1+1),.str (mt (k+1+1+1)),.sl (mkR mt a4 (k+1+1+1+1)),.int (k+1+1+1+1+(cntR a4:Int)),.int (k+1+1+1+1+(cntR a4:Int)+1),.str (mt (k+1+1+1+1+(cntR a4:Int)+1+1)),.sl (mkR mt a8 (k+1+1+1+1+(cntR a4:Int)+1+1+1)),.sl (mkR mt a9 (k+1+1+1+1+(cntR a4:Int)+1+1+1+(cntR a8:Int)))]:=by simp only [mkL,mkD,cntD,N1]
  have ek:k+((cntL [.str a0,.int a1,.int a2,.str a3,.sl a4,.int a5,.int a6,.str a7,.sl a8,.sl a9]:Nat):Int)=k+1+1+1+1+(cntR a4:Int)+1+1+1+(cntR a8:Int)+(cntR a9:Int):=by simp only [cntL,cntD]; omega
  rw [em];rw [ek] at hb ⊢;have t0:=mt_ok (k:=k) (by omega) (by omega)
  have w0:IntKind.i64.wrap (k+1)=k+1:=wrap_k (by omega) (by omega)
  have w1:IntKind.i64.wrap (k+1+1)=k+1+1:=wrap_k (by omega) (by omega)
  have w2:IntKind.i64.wrap (k+1+1+1)=k+1+1+1:=wrap_k (by omega) (by omega)
  have t3:=mt_ok (k:=k+1+1+1) (by omega) (by omega)
  have w3:IntKind.i64.wrap (k+1+1+1+1)=k+1+1+1+1:=wrap_k (by omega) (by omega)
  have s4:=m110_1 _ a4 (F2 _) b4 c4 (k+1+1+1+1) (by omega) (by omega)
  skip
  have w5:IntKind.i64.wrap (k+1+1+1+1+(cntR a4:Int)+1)=k+1+1+1+1+(cntR a4:Int)+1:=wrap_k (by omega) (by omega)
  have w6:IntKind.i64.wrap (k+1+1+1+1+(cntR a4:Int)+1+1)=k+1+1+1+1+(cntR a4:Int)+1+1:=wrap_k (by omega) (by omega)
  have t7:=mt_ok (k:=k+1+1+1+1+(cntR a4:Int)+1+1) (by omega) (by omega)
  have w7:IntKind.i64.wrap (k+1+1+1+1+(cntR a4:Int)+1+1+1)=k+1+1+1+1+(cntR a4:Int)+1+1+1:=wrap_k (by omega) (by omega)
  have s8:=m110_1 _ a8 (F2 _) b8 c8 (k+1+1+1+1+(cntR a4:Int)+1+1+1) (by omega) (by omega)
  skip
  have s9:=m141_1 (k:=k+1+1+1+1+(cntR a4:Int)+1+1+1+(cntR a8:Int)) b9 c9 (by omega) (by omega)
  skip
  rw [e96_1_1];simp only [B9,over_row_two hiy,over_row_at hiy,over_row_len hiy,hyl,hy,inbN,hi,H3,H1,C2,over,nth,B7,B8,D.I,D.S,D.L,D.B,t0,w0,w1,w2,t3,w3,s4,w5,w6,t7,w7,s8,s9,B5,wrap_succ hi hl]) (fun k y hyl=>by
  rw [e96_1_1];simp [hyl])
 rw [C4] at hf;simp only [hf,B5,D7,H1,nth,B7,B8,D.I,D.S,D.L,D.B]
theorem m97_1 {rs:Rows} (hl:rs.length<=maxLen) (hW:WRs H rs L215) {k:Int} (hk:0<k) (hb:k+cntR rs<=BK):rn ⟨97,1,0⟩ [.int k,.sl rs]=some (0,[.int (k+cntR rs),.sl (mkR mt rs k)]):=by
 show rn ⟨97,1,0⟩ _=_
 rw [e97_1_0];have hf:=mark_loop (mt:=mt) (F:=fun i k y=>rn ⟨97,1,1⟩ [.int k,.int (i:Int),.sl y]) (rs:=rs) hk hb (fun i hi k y hyl hy hk hb=>by
  have hw:=WRs_mem hW (C0 hi);obtain ⟨a0,a1,hr,b0⟩:=wl215 hw;have hiy:i<y.length:=by omega
  rw [hr] at hy hb ⊢;have em:mkL mt [.str a0,.int a1] k=[.str (mt (k)),.int (k+1)]:=by simp only [mkL,mkD,cntD,N1]
  have ek:k+((cntL [.str a0,.int a1]:Nat):Int)=k+1+1:=by simp only [cntL,cntD]; omega
  rw [em];rw [ek] at hb ⊢;have t0:=mt_ok (k:=k) (by omega) (by omega)
  have w0:IntKind.i64.wrap (k+1)=k+1:=wrap_k (by omega) (by omega)
  have w1:IntKind.i64.wrap (k+1+1)=k+1+1:=wrap_k (by omega) (by omega)
  rw [e97_1_1];simp only [B9,over_row_two hiy,over_row_at hiy,over_row_len hiy,hyl,hy,inbN,hi,H3,H1,C2,over,nth,B7,B8,D.I,D.S,D.L,D.B,t0,w0,w1,B5,wrap_succ hi hl]) (fun k y hyl=>by
  rw [e97_1_1];simp [hyl])
 rw [C4] at hf;simp only [hf,B5,D7,H1,nth,B7,B8,D.I,D.S,D.L,D.B]
theorem mT24_1 (a0:Rows) (a1:Rows) (a2:Rows) (a3:Rows) (h:WL H [.sl a0,.sl a1,.sl a2,.sl a3] L45) {k:Int} (hk:0<k) (hb:k+(cntR a0:Int)+(cntR a1:Int)+(cntR a2:Int)+(cntR a3:Int)<=BK):rn ⟨24,1,0⟩ [.int k,.sl a0,.sl a1,.sl a2,.sl a3]=some (0,[.int (k+(cntR a0:Int)+(cntR a1:Int)+(cntR a2:Int)+(cntR a3:Int)),.sl (mkR mt a0 (k)),.sl (mkR mt a1 (k+(cntR a0:Int))),.sl (mkR mt a2 (k+(cntR a0:Int)+(cntR a1:Int))),.sl (mkR mt a3 (k+(cntR a0:Int)+(cntR a1:Int)+(cntR a2:Int)))]):=by
 obtain ⟨x0,x1,x2,x3,hh,bx0,cx0,bx1,cx1,bx2,cx2,bx3,cx3⟩:=wl45 h;simp only [K0.injEq,D.int.injEq,D.bool.injEq,D.str.injEq,D.sl.injEq,and_true] at hh;obtain ⟨rfl,rfl,rfl,rfl⟩:=hh;have w0:WL H [.sl a0,.sl a1] L41:=WL.part 0 2 h;have e0:=mT95_1 a0 a1 w0 (k:=k) (by omega) (by omega)
 skip
 have e1:=m96_1 (k:=k+(cntR a0:Int)+(cntR a1:Int)) bx2 cx2 (by omega) (by omega)
 skip
 have e2:=m97_1 (k:=k+(cntR a0:Int)+(cntR a1:Int)+(cntR a2:Int)) bx3 cx3 (by omega) (by omega)
 skip
 show rn ⟨24,1,0⟩ _=_
 rw [e24_1_0];simp only [e0,e1,e2,B5,H2,nth,B7,B8,D.I,D.S,D.L,D.B]
theorem m110_2 {rs:Rows} (hl:rs.length<=maxLen) (hW:WRs H rs L49) {k:Int} (hk:0<k) (hb:k+cntR rs<=BK):rn ⟨110,2,0⟩ [.int k,.sl rs]=some (0,[.int (k+cntR rs),.sl (mkR mt rs k)]):=by
 show rn ⟨110,2,0⟩ _=_
 rw [e110_2_0];have hf:=mark_loop (mt:=mt) (F:=fun i k y=>rn ⟨110,2,1⟩ [.int k,.int (i:Int),.sl y]) (rs:=rs) hk hb (fun i hi k y hyl hy hk hb=>by
  have hw:=WRs_mem hW (C0 hi);obtain ⟨a0,a1,a2,a3,hr,b2,b3,c3⟩:=wl49 hw;have hiy:i<y.length:=by omega
  rw [hr] at hy hb ⊢;have em:mkL mt [.int a0,.int a1,.str a2,.sl a3] k=[.int (k),.int (k+1),.str (mt (k+1+1)),.sl (mkR mt a3 (k+1+1+1))]:=by simp only [mkL,mkD,cntD,N1]
  have ek:k+((cntL [.int a0,.int a1,.str a2,.sl a3]:Nat):Int)=k+1+1+1+(cntR a3:Int):=by simp only [cntL,cntD]; omega
  rw [em];rw [ek] at hb ⊢;have w0:IntKind.i64.wrap (k+1)=k+1:=wrap_k (by omega) (by omega)
  have w1:IntKind.i64.wrap (k+1+1)=k+1+1:=wrap_k (by omega) (by omega)
  have t2:=mt_ok (k:=k+1+1) (by omega) (by omega)
  have w2:IntKind.i64.wrap (k+1+1+1)=k+1+1+1:=wrap_k (by omega) (by omega)
  have s3:=m110_1 _ a3 (F2 _) b3 c3 (k+1+1+1) (by omega) (by omega)
  skip
  rw [e110_2_1];simp only [B9,over_row_two hiy,over_row_at hiy,over_row_len hiy,hyl,hy,inbN,hi,H3,H1,C2,over,nth,B7,B8,D.I,D.S,D.L,D.B,w0,w1,t2,w2,s3,B5,wrap_succ hi hl]) (fun k y hyl=>by
  rw [e110_2_1];simp [hyl])
 rw [C4] at hf;simp only [hf,B5,D7,H1,nth,B7,B8,D.I,D.S,D.L,D.B]
theorem mT99_1 (a0:Int) (a1:Int) (a2:ByteArray) (a3:Rows) (h:WL H [.int a0,.int a1,.str a2,.sl a3] L49) {k:Int} (hk:0<k) (hb:k+(cntR a3:Int)<=BK):rn ⟨99,1,0⟩ [.int a0,.int a1,.str a2,.int k,.sl a3]=some (0,[.int (k+(cntR a3:Int)),.sl (mkR mt a3 (k))]):=by
 obtain ⟨x0,x1,x2,x3,hh,bx2,bx3,cx3⟩:=wl49 h;simp only [K0.injEq,D.int.injEq,D.bool.injEq,D.str.injEq,D.sl.injEq,and_true] at hh;obtain ⟨rfl,rfl,rfl,rfl⟩:=hh;have e0:=m110_2 (k:=k) bx3 cx3 (by omega) (by omega)
 skip
 show rn ⟨99,1,0⟩ _=_
 rw [e99_1_0];simp only [e0,B5,H2,nth,B7,B8,D.I,D.S,D.L,D.B]
theorem m100_1 {rs:Rows} (hl:rs.length<=maxLen) (hW:WRs H rs L3) {k:Int} (hk:0<k) (hb:k+cntR rs<=BK):rn ⟨100,1,0⟩ [.int k,.sl rs]=some (0,[.int (k+cntR rs),.sl (mkR mt rs k)]):=by
 show rn ⟨100,1,0⟩ _=_
 rw [e100_1_0];have hf:=mark_loop (mt:=mt) (F:=fun i k y=>rn ⟨100,1,1⟩ [.int k,.int (i:Int),.sl y]) (rs:=rs) hk hb (fun i hi k y hyl hy hk hb=>by
  have hw:=WRs_mem hW (C0 hi);obtain ⟨a0,hr⟩:=wl3 hw;have hiy:i<y.length:=by omega
  rw [hr] at hy hb ⊢;have em:mkL mt [.int a0] k=[.int (k)]:=by simp only [mkL,mkD,cntD,N1]
  have ek:k+((cntL [.int a0]:Nat):Int)=k+1:=by simp only [cntL,cntD]; omega
  rw [em];rw [ek] at hb ⊢;have w0:IntKind.i64.wrap (k+1)=k+1:=wrap_k (by omega) (by omega)
  rw [e100_1_1];simp only [B9,over_row_two hiy,over_row_at hiy,over_row_len hiy,hyl,hy,inbN,hi,H3,H1,C2,over,nth,B7,B8,D.I,D.S,D.L,D.B,w0,B5,wrap_succ hi hl]) (fun k y hyl=>by
  rw [e100_1_1];simp [hyl])
 rw [C4] at hf;simp only [hf,B5,D7,H1,nth,B7,B8,D.I,D.S,D.L,D.B]
theorem mT25_1 (a0:Rows) (a1:Int) (a2:Int) (a3:ByteArray) (a4:Rows) (a5:Rows) (h:WL H [.sl a0,.int a1,.int a2,.str a3,.sl a4,.sl a5] L51) {k:Int} (hk:0<k) (hb:k+(cntR a0:Int)+(cntR a4:Int)+(cntR a5:Int)<=BK):rn ⟨25,1,0⟩ [.int a1,.int a2,.str a3,.int k,.sl a0,.sl a4,.sl a5]=some (0,[.int (k+(cntR a0:Int)+(cntR a4:Int)+(cntR a5:Int)),.sl (mkR mt a0 (k)),.sl (mkR mt a4 (k+(cntR a0:Int))),.sl (mkR mt a5 (k+(cntR a0:Int)+(cntR a4:Int)))]):=by
 obtain ⟨x0,x1,x2,x3,x4,x5,hh,bx0,cx0,bx3,bx4,cx4,bx5,cx5⟩:=wl51 h;simp only [K0.injEq,D.int.injEq,D.bool.injEq,D.str.injEq,D.sl.injEq,and_true] at hh;obtain ⟨rfl,rfl,rfl,rfl,rfl,rfl⟩:=hh;have e0:=m98_1 (k:=k) bx0 cx0 (by omega) (by omega)
 skip
 have w1:WL H [.int a1,.int a2,.str a3,.sl a4] L49:=WL.part 1 4 h;have e1:=mT99_1 a1 a2 a3 a4 w1 (k:=k+(cntR a0:Int)) (by omega) (by omega)
 skip
 have e2:=m100_1 (k:=k+(cntR a0:Int)+(cntR a4:Int)) bx5 cx5 (by omega) (by omega)
 skip
 show rn ⟨25,1,0⟩ _=_
 rw [e25_1_0];simp only [e0,e1,e2,B5,H2,nth,B7,B8,D.I,D.S,D.L,D.B]
theorem m100_2 {rs:Rows} (hl:rs.length<=maxLen) (hW:WRs H rs L3) {k:Int} (hk:0<k) (hb:k+cntR rs<=BK):rn ⟨100,2,0⟩ [.int k,.sl rs]=some (0,[.int (k+cntR rs),.sl (mkR mt rs k)]):=by
 show rn ⟨100,2,0⟩ _=_
 rw [e100_2_0];have hf:=mark_loop (mt:=mt) (F:=fun i k y=>rn ⟨100,2,1⟩ [.int k,.int (i:Int),.sl y]) (rs:=rs) hk hb (fun i hi k y hyl hy hk hb=>by
  have hw:=WRs_mem hW (C0 hi);obtain ⟨a0,hr⟩:=wl3 hw;have hiy:i<y.length:=by omega
  rw [hr] at hy hb ⊢;have em:mkL mt [.int a0] k=[.int (k)]:=by simp only [mkL,mkD,cntD,N1]
  have ek:k+((cntL [.int a0]:Nat):Int)=k+1:=by simp only [cntL,cntD]; omega
  rw [em];rw [ek] at hb ⊢;have w0:IntKind.i64.wrap (k+1)=k+1:=wrap_k (by omega) (by omega)
  rw [e100_2_1];simp only [B9,over_row_two hiy,over_row_at hiy,over_row_len hiy,hyl,hy,inbN,hi,H3,H1,C2,over,nth,B7,B8,D.I,D.S,D.L,D.B,w0,B5,wrap_succ hi hl]) (fun k y hyl=>by
  rw [e100_2_1];simp [hyl])
 rw [C4] at hf;simp only [hf,B5,D7,H1,nth,B7,B8,D.I,D.S,D.L,D.B]
theorem m40_1 {rs:Rows} (hl:rs.length<=maxLen) (hW:WRs H rs L161) {k:Int} (hk:0<k) (hb:k+cntR rs<=BK):rn ⟨40,1,0⟩ [.int k,.sl rs]=some (0,[.int (k+cntR rs),.sl (mkR mt rs k)]):=by
 show rn ⟨40,1,0⟩ _=_
 rw [e40_1_0];have hf:=mark_loop (mt:=mt) (F:=fun i k y=>rn ⟨40,1,1⟩ [.int k,.int (i:Int),.sl y]) (rs:=rs) hk hb (fun i hi k y hyl hy hk hb=>by
  have hw:=WRs_mem hW (C0 hi);obtain ⟨a0,a1,a2,a3,a4,a5,a6,a7,a8,a9,hr,b0,c0,b3,b4,c4,b7,b8,c8⟩:=wl161 hw;have hiy:i<y.length:=by omega
  rw [hr] at hy hb ⊢;have em:mkL mt [.sl a0,.int a1,.int a2,.str a3,.sl a4,.int a5,.int a6,.str a7,.sl a8,.int a9] k=[.sl (mkR mt a0 (k)),.int (k+(cntR a0:Int)),.int (k+(cntR a0:Int)+1),.str (mt (k+(cntR a0:Int)+1+1)),.sl (mkR mt a4 (k+(cntR a0:Int)+1+1+1)),.int (k+(cntR a0:Int)+1+1+1+(cntR a4:Int)),.int (k+(cntR a0:Int)+1+1+1+(cntR a4:Int)+1),.str (mt (k+(cntR a0:Int)+1+1+1+(cntR a4:Int)+1+1)),.sl (mkR mt a8 (k+(cntR a0:Int)+1+1+1+(cntR a4:Int)+1+1+1)),.int (k+(cntR a0:Int)+1+1+1+(cntR a4:Int)+1+1+1+(cntR a8:Int))]:=by simp only [mkL,mkD,cntD,N1]
  have ek:k+((cntL [.sl a0,.int a1,.int a2,.str a3,.sl a4,.int a5,.int a6,.str a7,.sl a8,.int a9]:Nat):Int)=k+(cntR a0:Int)+1+1+1+(cntR a4:Int)+1+1+1+(cntR a8:Int)+1:=by simp only [cntL,cntD]; omega
  rw [em];rw [ek] at hb ⊢;have s0:=m100_2 (k:=k) b0 c0 (by omega) (by omega)
  skip
  have w1:IntKind.i64.wrap (k+(cntR a0:Int)+1)=k+(cntR a0:Int)+1:=wrap_k (by omega) (by omega)
  have w2:IntKind.i64.wrap (k+(cntR a0:Int)+1+1)=k+(cntR a0:Int)+1+1:=wrap_k (by omega) (by omega)
  have t3:=mt_ok (k:=k+(cntR a0:Int)+1+1) (by omega) (by omega)
  have w3:IntKind.i64.wrap (k+(cntR a0:Int)+1+1+1)=k+(cntR a0:Int)+1+1+1:=wrap_k (by omega) (by omega)
  have s4:=m110_1 _ a4 (F2 _) b4 c4 (k+(cntR a0:Int)+1+1+1) (by omega) (by omega)
  skip
  have w5:IntKind.i64.wrap (k+(cntR a0:Int)+1+1+1+(cntR a4:Int)+1)=k+(cntR a0:Int)+1+1+1+(cntR a4:Int)+1:=wrap_k (by omega) (by omega)
  have w6:IntKind.i64.wrap (k+(cntR a0:Int)+1+1+1+(cntR a4:Int)+1+1)=k+(cntR a0:Int)+1+1+1+(cntR a4:Int)+1+1:=wrap_k (by omega) (by omega)
  have t7:=mt_ok (k:=k+(cntR a0:Int)+1+1+1+(cntR a4:Int)+1+1) (by omega) (by omega)
  have w7:IntKind.i64.wrap (k+(cntR a0:Int)+1+1+1+(cntR a4:Int)+1+1+1)=k+(cntR a0:Int)+1+1+1+(cntR a4:Int)+1+1+1:=wrap_k (by omega) (by omega)
  have s8:=m110_1 _ a8 (F2 _) b8 c8 (k+(cntR a0:Int)+1+1+1+(cntR a4:Int)+1+1+1) (by omega) (by omega)
  skip
  have w9:IntKind.i64.wrap (k+(cntR a0:Int)+1+1+1+(cntR a4:Int)+1+1+1+(cntR a8:Int)+1)=k+(cntR a0:Int)+1+1+1+(cntR a4:Int)+1+1+1+(cntR a8:Int)+1:=wrap_k (by omega) (by omega)
  rw [e40_1_1];simp only [B9,over_row_two hiy,over_row_at hiy,over_row_len hiy,hyl,hy,inbN,hi,H3,H1,C2,over,nth,B7,B8,D.I,D.S,D.L,D.B,s0,w1,w2,t3,w3,s4,w5,w6,t7,w7,s8,w9,B5,wrap_succ hi hl]) (fun k y hyl=>by
  rw [e40_1_1];simp [hyl])
 rw [C4] at hf;simp only [hf,B5,D7,H1,nth,B7,B8,D.I,D.S,D.L,D.B]
theorem h103_0 {rs:Rows} (hl:rs.length<=maxLen) (hW:WRs H rs L3) {k:Int} (hk:0<k) (hb:k+cntR rs<=BK):rn ⟨103,0,0⟩ [.sl (mkR mt rs k),.int k]=some (0,[.int (k+cntR rs)]):=by
 show rn ⟨103,0,0⟩ _=_
 rw [e103_0_0];have hf:=held_loop (mt:=mt) (F:=fun i k'=>rn ⟨103,0,1⟩ [.sl (mkR mt rs k),.int k',.int (i:Int)]) (rs:=rs) hk hb (fun i hi k hrow hk hb=>by
  have hw:=WRs_mem hW (C0 hi);obtain ⟨a0,hr⟩:=wl3 hw;rw [hr] at hrow hb ⊢;have em:mkL mt [.int a0] k=[.int (k)]:=by simp only [mkL,mkD,cntD,N1]
  have ek:k+((cntL [.int a0]:Nat):Int)=k+1:=by simp only [cntL,cntD]; omega
  rw [em] at hrow;rw [ek] at hb ⊢;have w0:IntKind.i64.wrap (k+1)=k+1:=wrap_k (by omega) (by omega)
  rw [e103_0_1];simp only [mkR_len,B9,hrow,inbN,hi,H3,H1,C2,D8,H2,nth,B7,B8,D.I,D.S,D.L,D.B,w0,B5,wrap_succ hi hl]) (fun k'=>by
  rw [e103_0_1];simp [mkR_len])
 rw [C4] at hf;simp only [hf,B5,D7,H1,nth,B7,B8,D.I,D.S,D.L,D.B]
theorem h111_0:∀ (N:Nat) (rs:Rows),SizeOf.sizeOf rs<N->rs.length<=maxLen->WRs H rs L49->∀ k:Int,0<k->k+cntR rs<=BK->rn ⟨111,0,0⟩ [.sl (mkR mt rs k),.int k]=some (0,[.int (k+cntR rs)])
 | 0,rs,hN,_,_,_,_,_=>absurd hN (Q1 _)
 | N+1,rs,hN,hl,hW,k,hk,hb=>by
  show rn ⟨111,0,0⟩ _=_
  rw [e111_0_0];have hf:=held_loop (mt:=mt) (F:=fun i k'=>rn ⟨111,0,1⟩ [.sl (mkR mt rs k),.int k',.int (i:Int)]) (rs:=rs) hk hb (fun i hi k hrow hk hb=>by
   have hw:=WRs_mem hW (C0 hi);obtain ⟨a0,a1,a2,a3,hr,b2,b3,c3⟩:=wl49 hw;rw [hr] at hrow hb ⊢;have em:mkL mt [.int a0,.int a1,.str a2,.sl a3] k=[.int (k),.int (k+1),.str (mt (k+1+1)),.sl (mkR mt a3 (k+1+1+1))]:=by simp only [mkL,mkD,cntD,N1]
   have ek:k+((cntL [.int a0,.int a1,.str a2,.sl a3]:Nat):Int)=k+1+1+1+(cntR a3:Int):=by simp only [cntL,cntD]; omega
   rw [em] at hrow;rw [ek] at hb ⊢;have w0:IntKind.i64.wrap (k+1)=k+1:=wrap_k (by omega) (by omega)
   have w1:IntKind.i64.wrap (k+1+1)=k+1+1:=wrap_k (by omega) (by omega)
   have t2:=mt_ok (k:=k+1+1) (by omega) (by omega)
   have w2:IntKind.i64.wrap (k+1+1+1)=k+1+1+1:=wrap_k (by omega) (by omega)
   have s3:=h111_0 N a3 (by have h1:=size_row (r:=rs[i]) (rs:=rs) (C0 hi); rw [hr] at h1; simp only [K0.sizeOf_spec,D.sl.sizeOf_spec] at h1 hN; omega) b3 c3 (k+1+1+1) (by omega) (by omega)
   skip
   have n3:=int_lt_zero (show 0<k+1+1+1+(cntR a3:Int) by omega)
   rw [e111_0_1];simp only [mkR_len,B9,hrow,inbN,hi,H3,H1,C2,D8,H2,nth,B7,B8,D.I,D.S,D.L,D.B,w0,w1,t2,w2,s3,n3,B5,wrap_succ hi hl]) (fun k'=>by
   rw [e111_0_1];simp [mkR_len])
  rw [C4] at hf;simp only [hf,B5,D7,H1,nth,B7,B8,D.I,D.S,D.L,D.B]
theorem h41_0 {rs:Rows} (hl:rs.length<=maxLen) (hW:WRs H rs L161) {k:Int} (hk:0<k) (hb:k+cntR rs<=BK):rn ⟨41,0,0⟩ [.sl (mkR mt rs k),.int k]=some (0,[.int (k+cntR rs)]):=by
 show rn ⟨41,0,0⟩ _=_
 rw [e41_0_0];have hf:=held_loop (mt:=mt) (F:=fun i k'=>rn ⟨41,0,1⟩ [.sl (mkR mt rs k),.int k',.int (i:Int)]) (rs:=rs) hk hb (fun i hi k hrow hk hb=>by
  have hw:=WRs_mem hW (C0 hi);obtain ⟨a0,a1,a2,a3,a4,a5,a6,a7,a8,a9,hr,b0,c0,b3,b4,c4,b7,b8,c8⟩:=wl161 hw;rw [hr] at hrow hb ⊢;have em:mkL mt [.sl a0,.int a1,.int a2,.str a3,.sl a4,.int a5,.int a6,.str a7,.sl a8,.int a9] k=[.sl (mkR mt a0 (k)),.int (k+(cntR a0:Int)),.int (k+(cntR a0:Int)+1),.str (mt (k+(cntR a0:Int)+1+1)),.sl (mkR mt a4 (k+(cntR a0:Int)+1+1+1)),.int (k+(cntR a0:Int)+1+1+1+(cntR a4:Int)),.int (k+(cntR a0:Int)+1+1+1+(cntR a4:Int)+1),.str (mt (k+(cntR a0:Int)+1+1+1+(cntR a4:Int)+1+1)),.sl (mkR mt a8 (k+(cntR a0:Int)+1+1+1+(cntR a4:Int)+1+1+1)),.int (k+(cntR a0:Int)+1+1+1+(cntR a4:Int)+1+1+1+(cntR a8:Int))]:=by simp only [mkL,mkD,cntD,N1]
  have ek:k+((cntL [.sl a0,.int a1,.int a2,.str a3,.sl a4,.int a5,.int a6,.str a7,.sl a8,.int a9]:Nat):Int)=k+(cntR a0:Int)+1+1+1+(cntR a4:Int)+1+1+1+(cntR a8:Int)+1:=by simp only [cntL,cntD]; omega
  rw [em] at hrow;rw [ek] at hb ⊢;have s0:=h103_0 (k:=k) b0 c0 (by omega) (by omega)
  skip
  have n0:=int_lt_zero (show 0<k+(cntR a0:Int) by omega)
  have w1:IntKind.i64.wrap (k+(cntR a0:Int)+1)=k+(cntR a0:Int)+1:=wrap_k (by omega) (by omega)
  have w2:IntKind.i64.wrap (k+(cntR a0:Int)+1+1)=k+(cntR a0:Int)+1+1:=wrap_k (by omega) (by omega)
  have t3:=mt_ok (k:=k+(cntR a0:Int)+1+1) (by omega) (by omega)
  have w3:IntKind.i64.wrap (k+(cntR a0:Int)+1+1+1)=k+(cntR a0:Int)+1+1+1:=wrap_k (by omega) (by omega)
  have s4:=h111_0 _ a4 (F2 _) b4 c4 (k+(cntR a0:Int)+1+1+1) (by omega) (by omega)
  skip
  have n4:=int_lt_zero (show 0<k+(cntR a0:Int)+1+1+1+(cntR a4:Int) by omega)
  have w5:IntKind.i64.wrap (k+(cntR a0:Int)+1+1+1+(cntR a4:Int)+1)=k+(cntR a0:Int)+1+1+1+(cntR a4:Int)+1:=wrap_k (by omega) (by omega)
  have w6:IntKind.i64.wrap (k+(cntR a0:Int)+1+1+1+(cntR a4:Int)+1+1)=k+(cntR a0:Int)+1+1+1+(cntR a4:Int)+1+1:=wrap_k (by omega) (by omega)
  have t7:=mt_ok (k:=k+(cntR a0:Int)+1+1+1+(cntR a4:Int)+1+1) (by omega) (by omega)
  have w7:IntKind.i64.wrap (k+(cntR a0:Int)+1+1+1+(cntR a4:Int)+1+1+1)=k+(cntR a0:Int)+1+1+1+(cntR a4:Int)+1+1+1:=wrap_k (by omega) (by omega)
  have s8:=h111_0 _ a8 (F2 _) b8 c8 (k+(cntR a0:Int)+1+1+1+(cntR a4:Int)+1+1+1) (by omega) (by omega)
  skip
  have n8:=int_lt_zero (show 0<k+(cntR a0:Int)+1+1+1+(cntR a4:Int)+1+1+1+(cntR a8:Int) by omega)
  have w9:IntKind.i64.wrap (k+(cntR a0:Int)+1+1+1+(cntR a4:Int)+1+1+1+(cntR a8:Int)+1)=k+(cntR a0:Int)+1+1+1+(cntR a4:Int)+1+1+1+(cntR a8:Int)+1:=wrap_k (by omega) (by omega)
  rw [e41_0_1];simp only [mkR_len,B9,hrow,inbN,hi,H3,H1,C2,D8,H2,nth,B7,B8,D.I,D.S,D.L,D.B,s0,n0,w1,w2,t3,w3,s4,n4,w5,w6,t7,w7,s8,n8,w9,B5,wrap_succ hi hl]) (fun k'=>by
  rw [e41_0_1];simp [mkR_len])
 rw [C4] at hf;simp only [hf,B5,D7,H1,nth,B7,B8,D.I,D.S,D.L,D.B]
end Go.Q.S
end
section
namespace Go.Proofs
open Go.Shelf
def Tryz.lays190_ren:Go.Shelf.Ren:=⟨fun | 190=>312 | 125=>344 | 258=>343 | 128=>359 | 129=>360 | 302=>350 | 303=>351 | 304=>352 | 305=>353 | 306=>354 | 307=>355 | 308=>356 | 309=>357 | 310=>358 | 333=>361 | 329=>362 | 330=>363 | 334=>364 | 335=>365 | 336=>366 | 344=>367 | n=>n,fun | 31=>22 | 9=>9 | 3=>3 | 46=>356 | 0=>0 | 51=>368 | 53=>370 | 4=>4 | 183=>361 | 182=>360 | 131=>192 | 5=>5 | 218=>371 | 222=>375 | 228=>377 | 229=>378 | n=>n,fun | n=>n⟩
theorem Tryz.lays190:Go.Proofs.Lays.n190 Tryz.prog Tryz.lays190_ren:={
 mixed:=by kernel_rfl
 f125:=Tryz.func344.trans (congrArg some (by kernel_rfl))
 f128:=Tryz.func359.trans (congrArg some (by kernel_rfl))
 f129:=Tryz.func360.trans (congrArg some (by kernel_rfl))
 f190:=Tryz.func312.trans (congrArg some (by kernel_rfl))
 f258:=Tryz.func343.trans (congrArg some (by kernel_rfl))
 f302:=Tryz.func350.trans (congrArg some (by kernel_rfl))
 f303:=Tryz.func351.trans (congrArg some (by kernel_rfl))
 f304:=Tryz.func352.trans (congrArg some (by kernel_rfl))
 f305:=Tryz.func353.trans (congrArg some (by kernel_rfl))
 f306:=Tryz.func354.trans (congrArg some (by kernel_rfl))
 f307:=Tryz.func355.trans (congrArg some (by kernel_rfl))
 f308:=Tryz.func356.trans (congrArg some (by kernel_rfl))
 f309:=Tryz.func357.trans (congrArg some (by kernel_rfl))
 f310:=Tryz.func358.trans (congrArg some (by kernel_rfl))
 f329:=Tryz.func362.trans (congrArg some (by kernel_rfl))
 f330:=Tryz.func363.trans (congrArg some (by kernel_rfl))
 f333:=Tryz.func361.trans (congrArg some (by kernel_rfl))
 f334:=Tryz.func364.trans (congrArg some (by kernel_rfl))
 f335:=Tryz.func365.trans (congrArg some (by kernel_rfl))
 f336:=Tryz.func366.trans (congrArg some (by kernel_rfl))
 f344:=Tryz.func367.trans (congrArg some (by kernel_rfl))
 t0:=Tryz.underlying0
 a0:=Tryz.isAgg0
 z0:=Tryz.sizeOf0
 v0:=Tryz.zeroValue0
 t3:=Tryz.underlying3
 a3:=Tryz.isAgg3
 z3:=Tryz.sizeOf3
 v3:=Tryz.zeroValue3
 t4:=Tryz.underlying4
 a4:=Tryz.isAgg4
 z4:=Tryz.sizeOf4
 v4:=Tryz.zeroValue4
 t5:=Tryz.underlying5
 a5:=Tryz.isAgg5
 z5:=Tryz.sizeOf5
 v5:=Tryz.zeroValue5
 t9:=Tryz.underlying9
 a9:=Tryz.isAgg9
 z9:=Tryz.sizeOf9
 v9:=Tryz.zeroValue9
 t31:=Tryz.underlying22
 a31:=Tryz.isAgg22
 z31:=Tryz.sizeOf22
 v31:=Tryz.zeroValue22
 t46:=Tryz.underlying356
 a46:=Tryz.isAgg356
 z46:=Tryz.sizeOf356
 v46:=Tryz.zeroValue356
 t51:=Tryz.underlying368
 a51:=Tryz.isAgg368
 z51:=Tryz.sizeOf368
 v51:=Tryz.zeroValue368
 t53:=Tryz.underlying370
 a53:=Tryz.isAgg370
 z53:=Tryz.sizeOf370
 v53:=Tryz.zeroValue370
 t131:=Tryz.underlying192
 a131:=Tryz.isAgg192
 z131:=Tryz.sizeOf192
 v131:=Tryz.zeroValue192
 t182:=Tryz.underlying360
 a182:=Tryz.isAgg360
 z182:=Tryz.sizeOf360
 v182:=Tryz.zeroValue360
 t183:=Tryz.underlying361
 a183:=Tryz.isAgg361
 z183:=Tryz.sizeOf361
 v183:=Tryz.zeroValue361
 t218:=Tryz.underlying371
 a218:=Tryz.isAgg371
 z218:=Tryz.sizeOf371
 v218:=Tryz.zeroValue371
 t222:=Tryz.underlying375
 a222:=Tryz.isAgg375
 z222:=Tryz.sizeOf375
 v222:=Tryz.zeroValue375
 t228:=Tryz.underlying377
 a228:=Tryz.isAgg377
 z228:=Tryz.sizeOf377
 v228:=Tryz.zeroValue377
 t229:=Tryz.underlying378
 a229:=Tryz.isAgg378
 z229:=Tryz.sizeOf378
 v229:=Tryz.zeroValue378 }
def Tryz.lays194_ren:Go.Shelf.Ren:=⟨fun | 194=>313 | n=>n,fun | 31=>22 | 9=>9 | 3=>3 | 4=>4 | 0=>0 | n=>n,fun | n=>n⟩
theorem Tryz.lays194:Go.Proofs.Lays.n194 Tryz.prog Tryz.lays194_ren:={
 mixed:=by kernel_rfl
 f194:=Tryz.func313.trans (congrArg some (by kernel_rfl))
 t0:=Tryz.underlying0
 a0:=Tryz.isAgg0
 z0:=Tryz.sizeOf0
 v0:=Tryz.zeroValue0
 t3:=Tryz.underlying3
 a3:=Tryz.isAgg3
 z3:=Tryz.sizeOf3
 v3:=Tryz.zeroValue3
 t4:=Tryz.underlying4
 a4:=Tryz.isAgg4
 z4:=Tryz.sizeOf4
 v4:=Tryz.zeroValue4
 t9:=Tryz.underlying9
 a9:=Tryz.isAgg9
 z9:=Tryz.sizeOf9
 v9:=Tryz.zeroValue9
 t31:=Tryz.underlying22
 a31:=Tryz.isAgg22
 z31:=Tryz.sizeOf22
 v31:=Tryz.zeroValue22 }
end Go.Proofs
namespace Go.Q.S
open Go Go.Q Go.Proofs
theorem kiF_mem:∀ {l:List (Nat × Nat × KI)} {v n:Nat} {i:KI},kiF l v n=some i->∃ a b,(a,b,i)∈l
 | [],v,n,i,h=>by simp [kiF] at h
 | (a,b,x)::r,v,n,i,h=>by
  unfold kiF at h;cases hb:E5 a v&&E5 b n with
  | true=>rw [hb] at h; simp only [H1,D6.injEq] at h; exact ⟨a,b,by rw [h]; exact List.mem_cons_self ..⟩
  | false =>
   rw [hb] at h;obtain ⟨a',b',h'⟩:=kiF_mem h;exact ⟨a',b',List.mem_cons_of_mem _ h'⟩
theorem ext_ok:∀ f g,H.ext f=some g->∀ v ls x,g v ls=some x->FnT Tryz.prog H ⟨f,v,0⟩ ls x:=fun f g h v ls x hx=>by
 have h:lookN extL f=some g:=h;simp only [extL,lookN] at h;cases h1:E5 312 f with
 | true =>
  rw [h1] at h;simp only [H1,D6.injEq] at h;subst h;obtain rfl:=beqN.1 h1;refine sort_fnT Go.Proofs.Tryz.lays190 rfl (E:=9) (fl:=[]) rfl Tryz.func312 (fun he=>by cases he) (of_decide_eq_false (by kernel_rfl)) (fun i hi=>?_) hx
  obtain ⟨a,b,hm⟩:=kiF_mem (l:=[(0,0,⟨[(0,.hd 0)],[(0,.arr 9 .deep)],[⟨.ret,[],[(0,.arr 9 .deep)]⟩]⟩)]) hi;simp only [E2,List.not_mem_nil,or_false,Prod.mk.injEq] at hm;exact hm.2.2
 | false =>
 rw [h1] at h;simp only [H2] at h;cases h1:E5 313 f with
 | true =>
  rw [h1] at h;simp only [H1,D6.injEq] at h;subst h;obtain rfl:=beqN.1 h1;refine comp_fnT Go.Proofs.Tryz.lays194 rfl (E:=9) (fl:=[]) rfl Tryz.func313 (fun he=>by cases he) (of_decide_eq_false (by kernel_rfl)) (fun i hi=>?_) hx
  obtain ⟨a,b,hm⟩:=kiF_mem (l:=[(0,0,⟨[(0,.hd 0)],[(0,.arr 9 .deep)],[⟨.ret,[(0,.hd 16)],[(16,.arr 9 .deep)]⟩]⟩)]) hi;simp only [E2,List.not_mem_nil,or_false,Prod.mk.injEq] at hm;exact hm.2.2
 | false =>
 rw [h1] at h;simp only [H2] at h;simp at h
theorem fits:Fits Tryz.prog H where
 ty:=tyOK_of (l:=tyL) (fun _=>rfl) (by kernel_rfl)
 eq:=eqOK_of (l:=eqL) (fun _=>rfl) (by kernel_rfl)
 mixed:=Tryz.checked.mixed
 names:=names_of (by kernel_rfl)
 ext:=ext_ok
end Go.Q.S
end
section
namespace Go.Q.S
open Go Go.Q Go.Proofs
def L70:List CT:=[.sl 161]
theorem ty70:H.ty 70=some ⟨false,L70,[]⟩:=by kernel_rfl
theorem wl70 {ds:List D} (h:WL H ds L70):∃ a0,ds=[D.sl a0]/\a0.length<=maxLen/\WRs H a0 L161:=by
 unfold L70 at h;obtain ⟨a0,_,rfl,b0,c0,h⟩:=wl_sl ty161 h;obtain rfl:=wl_nil h;exact ⟨a0,rfl,b0,c0⟩
def RL:List (Nat × Nat):=[(3,3),(9,9),(25,25),(25,41),(29,29),(29,45),(32,32),(32,49),(35,35),(35,51),(41,25),(41,41),(45,29),(45,45),(49,32),(49,49),(51,35),(51,51),(70,70),(161,161),(197,197),(197,213),(200,200),(200,215),(213,197),(213,213),(215,200),(215,215),(275,275),(275,311),(279,279),(279,286),(286,279),(286,286),(311,275),(311,311)]
theorem simR:simB H RL=true:=by kernel_rfl
theorem cv {ds:List D} {c c':List CT} (h:WL H ds c) (hc:layB RL c c'=true):WL H ds c':=WL.conv simR ds h hc
theorem bd20:Bd 1048576:=by unfold Bd; omega
theorem sub_le {b:Int} {n:Nat} (h:¬ sub b n<0):(n:Int)<=b/\sub b n=b-n:=by unfold sub at *; split at h <;> simp_all
theorem tmTy:TmTy H 49 [.int .i64,.int .i64,.str,.sl 49]:=⟨rfl,_,ty49,rfl⟩
theorem wide64:∀ e ti,H.ty e=some ti->ti.lay.length<=64:=fun e ti h=>by
 have hq:tyL.all (fun p=>F4 p.2.lay.length 64)=true:=by kernel_rfl
 have:=List.all_eq_true.1 hq _ (lookN_mem (show lookN tyL e=some ti from h))
 exact Nat.le_of_ble_eq_true this
end Go.Q.S
end
