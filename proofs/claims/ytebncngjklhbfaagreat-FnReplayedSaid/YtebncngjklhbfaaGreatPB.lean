/- The functions of this seat, as that machine runs them, part 2. -/
import Derived.Test.YtebncngjklhbfaaGreatPA
import Derived.Test.YtebncngjklhbfaaGreatMA
import Derived.Test.YtebncngjklhbfaaGreatQD
import Derived.Test.YtebncngjklhbfaaGreatfrX2
import Derived.Test.YtebncngjklhbfaaGreatChecked
set_option linter.unusedVariables false
set_option linter.unusedSimpArgs false
open Bool renaming not_true->D9,not_false->J7,not_eq_true->O1,false_eq_true->P5
open Int renaming toNat_natCast->B9,ofNat_lt->C0,natCast_zero->C6
open List renaming length_map->B6,drop_eq_getElem_cons->B8,map_cons->C1,getElem_mem->C2,length_cons->C5,drop_length->C8,length_nil->C9,getElem?_eq_some_iff->D1,drop_zero->D2,map_nil->D3,map_append->D5,mem_cons->D6,length_append->D8,append_assoc->E0,nil_append->E7,getElem?_eq_getElem->E9,append_nil->F7,flatMap_cons->K4,map_map->K7,filter_cons->N8,cons->O9,range->P8,filter_nil->Q7,not_mem_nil->R4,flatMap_nil->S4
open Nat renaming lt_irrefl->D4,zero_add->D7,beq->E3,beq_refl->E6,ble->F8,ble_eq_true_of_le->G8
open Option renaming bind_some->B5,some->C7,isSome_some->P4,isSome_none->R8
section
namespace Go.Q.S
open Go Go.Q Go.Proofs
theorem performRx (d:DfM) (hd:DfG d) (t:Tm) (ht:Gt d.op t) (hn:t.nodes<=60) (i:Nat) (p:List Int) (hx:Rx d t i p):rn ⟨54,0,0⟩ [.sl (d.so.map sRow),.sl (d.op.map OpM.row),.sl (d.ru.map RuM.row),.sl (d.st.map StM.row),.int t.k,.int t.n,.str t.s,.sl (t.as.map Tm.row),.int (i:Int),.sl (p.map iRow)]=some (0,[.int (stepT d t i p).k,.int (stepT d t i p).n,.str (stepT d t i p).s,.sl ((stepT d t i p).as.map Tm.row),.bool (stepT d t i p).valid]):=by
 obtain ⟨u,r,w,h1,h2,h3,e,hu,hun,hw,hwn,hg,hgn,hp,hr⟩:=rx_good hd ht hn hx;obtain ⟨hi,hri⟩:=D1.1 h2;have a1:=r92 t u p (by omega) h1
 have a2:=r89 d hd i hi u hun;rw [hri,h3] at a2;have a3:=r93 w p t u (by omega) (by omega) h1
 have a4:=r94 (stepT d t i p) (by omega) hg.w
 rw [<- e] at a3;rw [e54_0_0];simp only [a1,a2,frR,nv0,nvS,dvI,dvB,dvS,dvL,B5,a3,a4]
theorem doRx (d:DfM) (hd:DfG d) (t:Tm) (ht:Gt d.op t) (hn:t.nodes<=60) (i:Nat) (p:List Int) (hx:Rx d t i p):rn ⟨63,0,0⟩ [.sl (d.so.map sRow),.sl (d.op.map OpM.row),.sl (d.ru.map RuM.row),.sl (d.st.map StM.row),.int t.k,.int t.n,.str t.s,.sl (t.as.map Tm.row),.int (i:Int),.sl (p.map iRow)]=some (0,[.int (stepT d t i p).k,.int (stepT d t i p).n,.str (stepT d t i p).s,.bool (stepT d t i p).valid,.sl ((stepT d t i p).as.map Tm.row)]):=by
 obtain ⟨u,r,w,h1,h2,h3,e,hu,hun,hw,hwn,hg,hgn,hp,hr⟩:=rx_good hd ht hn hx;obtain ⟨hi,hri⟩:=D1.1 h2;have hrn:=valid_nodes hr.rv;have hln:=valid_nodes hr.lv;have a1:=r104 t u (by omega) p (by omega) h1
 have a2:=r102 r hr u hun;have e3:=fireR_eq r u;rw [h3] at e3;split at e3
 · simp only [C7.injEq] at e3
   have hL:(∀ b∈fiL r u,b.2.nodes<=60)/\(fiL r u).length<=1048576:=by
    unfold fiL;cases hq:mT r.l u [] with
    | none=>exact ⟨by simp,by simp⟩
    | some l =>
     have hls:=mT_all (fun t=>t.nodes<=60) (fun t a h ha=>nodes_sub t a h ha) _ u [] l hun (by simp) hq
     have h1:=srtN_len r.l.names;have h2:=srtN_len (srtN r.l.names);have h3:=names_nodes r.l;have h4:=rsB_len l (srtN (srtN r.l.names));exact ⟨fun b hb=>rsB_mem (P:=fun t=>t.nodes<=60) hls _ b hb,by show (rsB l _).length<=_; omega⟩
   have hss:∀ b∈fiL r u,Small b.2:=fun b hb=>small_of _ (by have:=hL.1 b hb; omega)
   have a3:=r107 (fiL r u) hL.2 hss r.r (small_of _ (by omega))
   have a4:=r106 (aS (fiL r u) r.r) (aS_small hss _ (small_of _ (by omega)))
   rw [<- e3] at a4;have a5:=r105 w (by omega) p t u (by omega) (by omega) h1
   have a6:=r98 (stepT d t i p) (by omega) hg.w
   rw [<- e] at a5;rw [e63_0_0];subst hri;rw [h3] at a2;simp only [a1,B6,inbN,hi,H3,H1,B9,rowAt_map hi,RuM.row,nv0,nvS,dvI,dvB,dvS,dvL,B5,a2,a3,a4,a5,a6,P4]
 · simp at e3
theorem allI (d:DfM) (hd:DfG d):∀ t:Tm,Gt d.op t->t.nodes<=60->∀ acc:List Int,acc.length+t.nodes<=1000->rn ⟨51,0,0⟩ [.sl (d.so.map sRow),.sl (d.op.map OpM.row),.sl (d.ru.map RuM.row),.sl (d.st.map StM.row),.int t.k,.int t.n,.str t.s,.sl (t.as.map Tm.row),.sl (acc.map iRow)]=some (0,[.sl ((rdA d t).map (preR acc))]):=Tm.ind fun t ih ht hn acc hac=>by
 have hnd:=Tm.nodes_eq t;have hls:=len_sum (xs:=t.as);have hst:=hd.b.st;have hrul:=hd.b.ru;have hfew:=rdA_few hd hn;have hql:=stL_len d.st t;have hcl:=rCloneI (acc.map iRow) (by rw [B6]; omega)
 have h1:=filter_loop (F:=fun i out=>rn ⟨51,0,1⟩ [.sl (acc.map iRow),.int (d.ru.length:Int),.int (i:Int),.sl (d.so.map sRow),.sl (d.op.map OpM.row),.sl (d.ru.map RuM.row),.sl (d.st.map StM.row),.int t.k,.int t.n,.str t.s,.sl (t.as.map Tm.row),.sl out]) (N:=d.ru.length) (p:=fun i=>match d.ru[i]? with | some r=>(fireR r t).isSome | none=>false) (g:=fun i=>preR acc (i,[])) (K:=fun out=>some (0,[.sl (acc.map iRow),.sl (d.so.map sRow),.sl (d.op.map OpM.row),.sl (d.ru.map RuM.row),.sl (d.st.map StM.row),.int t.k,.int t.n,.str t.s,.sl (t.as.map Tm.row),.sl out])) (fun i out hi ho=>?_) (fun out=>?_)
 · have e1:((P8 d.ru.length).filter fun i=>match d.ru[i]? with | some r=>(fireR r t).isSome | none=>false)=rtL d.ru t:=rfl
   rw [e1] at h1;simp only [C6] at h1;have hq:∀ j∈stL d.st t,0<=j/\j.toNat<t.as.length:=fun j hj=>stL_lt hd ht hj
   have e2:(rdA d t).length=(rtL d.ru t).length+((stL d.st t).flatMap fun a=>arg0 d t (rdA d) a).length:=by
    rw [rdA_eq,D8,B6]
   have h2:∀ n i (out:Rows),i+n=(stL d.st t).length->out.length+(((stL d.st t).drop i).flatMap fun a=>arg0 d t (rdA d) a).length<=1000->rn ⟨51,0,3⟩ [.sl (acc.map iRow),.int ((stL d.st t).length:Int),.int (i:Int),.sl (d.so.map sRow),.sl (d.op.map OpM.row),.sl (d.ru.map RuM.row),.sl (d.st.map StM.row),.int t.k,.int t.n,.str t.s,.sl (t.as.map Tm.row),.sl out,.sl ((stL d.st t).map iRow)]=some (0,[.sl (out++(((stL d.st t).drop i).flatMap fun a=>arg0 d t (rdA d) a).map (preR acc))]):=by
    clear e2;generalize stL d.st t=q at hql hq ⊢;intro n;induction n with
    | zero =>
     intro i out hi ho;obtain rfl:i=q.length:=by omega
     rw [e51_0_3];simp only [B6,C0,D4,H4,H2,C8,S4,D3,F7]
    | succ n ih2 =>
     intro i out hi ho;have hlt:i<q.length:=by omega
     obtain ⟨h0,hm⟩:=hq _ (C2 hlt);rw [B8 hlt] at ho ⊢;rw [e51_0_3];rw [K4,D8] at ho;rw [K4,D5];generalize hj:q[i]=j at h0 hm ho ⊢;obtain ⟨m,rfl⟩:∃ m:Nat,j=(m:Int):=⟨j.toNat,by omega⟩
     rw [B9] at hm;have hmm:=C2 hm;have hms:=mem_sum (f:=Tm.nodes) hmm;have g1:=ih _ hmm (ht.sub hmm) (by omega) (acc++[(m:Int)]) (by simp; omega)
     have hb2:F8 (acc.length+1) M63=true:=nb (by omega)
     rw [arg0_pre hm];rw [arg0_nat hm,B6] at ho;have hb3:F8 (out.length+(rdA d t.as[m]).length) M63=true:=nb (by omega)
     have g2:=ih2 (i+1) (out++(rdA d t.as[m]).map (preR (acc++[(m:Int)]))) (by omega) (by rw [D8,B6]; omega)
     simp only [D5,C1,D3,iRow] at g1;simp only [B6,C0,hlt,H3,H1,inbN,B9,rowAt_map hlt,wrap_succ hlt (maxB (by omega)),hj,hm,rowAt_map hm,Tm.row_eq,iRow,nv0,nvS,dvI,dvB,dvS,dvL,B5,C5,C9,D7,hb2]
     simp only [hcl,nv0,nvS,dvI,dvB,dvS,dvL,B5,B6,hb2,H1,g1,hb3,g2,E0]
   have h3:=h2 (stL d.st t).length 0 ((rtL d.ru t).map fun i=>preR acc (i,[])) (D7 _) (by rw [B6,D2]; omega)
   simp only [C6,D2] at h3;have h4:=r90 d hd.b t;rw [e51_0_0];simp only [B6,h1,nv0,nvS,dvI,dvB,dvS,dvL,B5,E6,H1,H2,h4,h3];rw [rdA_eq,D5,K7];rfl
 · have hf:=r89 d hd i hi t hn
   have hb2:F8 (out.length+1) M63=true:=nb (by omega)
   rw [e51_0_1];simp only [C0,hi,H3,H1,hf,E9 hi,wrap_succ hi (maxB (by omega))]
   cases fireR d.ru[i] t with
   | none=>simp only [frR,nv0,nvS,dvI,dvB,dvS,dvL,B5,H2,R8,P5,if_false]
   | some w=>simp only [frR,nv0,nvS,dvI,dvB,dvS,dvL,B5,H1,hcl,C5,C9,D7,hb2,P4,if_true,preR,rdRow,F7]
 · rw [e51_0_1]
   simp only [C0,D4,H4,H2]
theorem allS (d:DfM) (hd:DfG d):∀ t:Tm,Gt d.op t->t.nodes<=60->∀ (acc:List Int) (out:Rows),acc.length+t.nodes<=1000->out.length+(rdA d t).length<=1000->rn ⟨62,1,0⟩ [.sl (d.so.map sRow),.sl (d.op.map OpM.row),.sl (d.ru.map RuM.row),.sl (d.st.map StM.row),.int t.k,.int t.n,.str t.s,.sl (t.as.map Tm.row),.sl (acc.map iRow),.sl out]=some (0,[.sl (out++(rdA d t).map (preR acc))]):=Tm.ind fun t ih ht hn acc out hac hout=>by
 have hnd:=Tm.nodes_eq t;have hls:=len_sum (xs:=t.as);have hst:=hd.b.st;have hrul:=hd.b.ru;have hql:=strA_len d.st t.s;have e2:(rdA d t).length=(rtL d.ru t).length+((stL d.st t).flatMap fun a=>arg0 d t (rdA d) a).length:=by
  rw [rdA_eq,D8,B6]
 have k1:∀ n i,i+n=d.ru.length->rn ⟨62,1,1⟩ [.sl (acc.map iRow),.int (i:Int),.sl (out++((P8 i).filter fun i=>match d.ru[i]? with | some r=>(fireR r t).isSome | none=>false).map fun i=>preR acc (i,[])),.sl (d.so.map sRow),.sl (d.op.map OpM.row),.sl (d.ru.map RuM.row),.sl (d.st.map StM.row),.int t.k,.int t.n,.str t.s,.sl (t.as.map Tm.row)]=some (0,[.sl (acc.map iRow),.sl (out++(rtL d.ru t).map fun i=>preR acc (i,[])),.sl (d.so.map sRow),.sl (d.op.map OpM.row),.sl (d.ru.map RuM.row),.sl (d.st.map StM.row),.int t.k,.int t.n,.str t.s,.sl (t.as.map Tm.row)]):=by
  intro n;induction n with
  | zero =>
   intro i hi;obtain rfl:i=d.ru.length:=by omega
   rw [e62_1_1];simp only [B6,C0,D4,H4,H2,C8];rfl
  | succ n ih2 =>
   intro i hi;have hlt:i<d.ru.length:=by omega
   have hf:=r102 d.ru[i] (hd.ru (C2 hlt)) t hn;have h3:=ih2 (i+1) (by omega)
   have hfl:(((P8 i).filter fun i=>match d.ru[i]? with | some r=>(fireR r t).isSome | none=>false)).length<=i:=Nat.le_trans (List.length_filter_le _ _) (by simp)
   have hb1:F8 acc.length M63=true:=G8 (by unfold M63; omega)
   have hb2:F8 (out.length+(((P8 i).filter fun i=>match d.ru[i]? with | some r=>(fireR r t).isSome | none=>false)).length+1) M63=true:=nb (by omega)
   rw [List.range_succ,List.filter_append] at h3;rw [e62_1_1];simp only [B6,C0,hlt,H3,H1,inbN,B9,rowAt_map hlt,wrap_succ hlt (maxB (by omega)),RuM.row,nv0,nvS,dvI,dvB,dvS,dvL,B5,hf]
   cases hq:fireR d.ru[i] t with
   | none =>
    simp only [N8,E9 hlt,hq,R8,P5,if_false,Q7,F7] at h3;simp only [R8,H2,h3]
   | some w =>
    simp only [N8,E9 hlt,hq,P4,if_true,Q7,D5,C1,D3,preR,rdRow,F7] at h3;simp only [P4,H1,C9,E7,D7,hb1,D8,B6,C5,hb2,preR,rdRow,F7,E0,h3]
 have k2:∀ n i (o:Rows),i+n=(strA d.st t.s).length->o.length+((if t.k=2 then (strA d.st t.s).drop i else []).flatMap fun a=>arg0 d t (rdA d) a).length<=1000->rn ⟨62,1,3⟩ [.sl (acc.map iRow),.int (i:Int),.sl o,.sl (d.so.map sRow),.sl (d.op.map OpM.row),.sl (d.ru.map RuM.row),.sl (d.st.map StM.row),.int t.k,.int t.n,.str t.s,.sl (t.as.map Tm.row),.sl ((strA d.st t.s).map iRow)]=some (0,[.sl (o++((if t.k=2 then (strA d.st t.s).drop i else []).flatMap fun a=>arg0 d t (rdA d) a).map (preR acc))]):=by
  by_cases hk:t.k=2
  · have hq:∀ j∈strA d.st t.s,0<=j/\j.toNat<t.as.length:=fun j hj=>stL_lt hd ht (by unfold stL; rw [H5 hk]; exact hj)
    generalize strA d.st t.s=q at hql hq ⊢;intro n;simp only [H5 hk];induction n with
    | zero =>
     intro i o hi ho;obtain rfl:i=q.length:=by omega
     rw [e62_1_3];simp only [B6,C0,D4,H4,H2,C8,S4,D3,F7]
    | succ n ih2 =>
     intro i o hi ho;have hlt:i<q.length:=by omega
     obtain ⟨h0,hm⟩:=hq _ (C2 hlt);rw [B8 hlt] at ho ⊢;rw [e62_1_3];rw [K4,D8] at ho;rw [K4,D5];generalize hj:q[i]=j at h0 hm ho ⊢;obtain ⟨m,rfl⟩:∃ m:Nat,j=(m:Int):=⟨j.toNat,by omega⟩
     rw [B9] at hm;have hmm:=C2 hm;have hms:=mem_sum (f:=Tm.nodes) hmm;rw [arg0_nat hm,B6] at ho;have g1:=ih _ hmm (ht.sub hmm) (by omega) (acc++[(m:Int)]) o (by simp; omega) (by omega)
     have hb1:F8 acc.length M63=true:=G8 (by unfold M63; omega)
     have hb2:F8 (acc.length+1) M63=true:=nb (by omega)
     rw [arg0_pre hm];have g2:=ih2 (i+1) (o++(rdA d t.as[m]).map (preR (acc++[(m:Int)]))) (by omega) (by rw [D8,B6]; omega)
     simp only [D5,C1,D3,iRow] at g1;have q2:(m:Int)<=(t.as.length:Int)-1:=by omega
     have hw:IntKind.i64.wrap ((t.as.length:Int)-1)=(t.as.length:Int)-1:=IntWalk.i64_in _ (by omega)
     rw [H7 hk];simp only [B6,C0,hlt,H3,H1,inbN,B9,rowAt_map hlt,wrap_succ hlt (maxB (by omega)),hj,hm,hw,h0,q2,rIn,Bool.and_true,rowAt_map hm,Tm.row_eq,iRow,nv0,nvS,dvI,dvB,dvS,dvL,B5,C9,E7,D7,hb1,hb2,D8,C5,g1,g2,E0]
  · intro n i o hi ho
    rw [e62_1_3,H8 hk,H6 hk];simp only [S4,D3,F7];cases decide ((i:Int)<(((strA d.st t.s).map iRow).length:Int)) <;> rfl
 have h1:=k1 d.ru.length 0 (D7 _);simp only [C6,List.range_zero,Q7,D3,F7] at h1;have es:(if t.k=2 then strA d.st t.s else [])=stL d.st t:=rfl
 have h2:=k2 (strA d.st t.s).length 0 (out++(rtL d.ru t).map fun i=>preR acc (i,[])) (D7 _) (by rw [D2,es,D8,B6]; omega)
 simp only [C6,D2,es] at h2;have h3:=fun a b c=>r103 a b c d.st hd.b.st t.s
 rw [e62_1_0];simp only [h1,nv0,nvS,dvI,dvB,dvS,dvL,B5,E6,H1,H2,h3,h2];rw [rdA_eq,D5,K7,E0];rfl
theorem eqIs (a b:List Int) (ha:a.length<=1048576):rn ⟨91,0,0⟩ [.sl (a.map iRow),.sl (b.map iRow)]=some (0,[.bool (decide (a=b))]):=by
 rw [e91_0_0];simp only [B6];by_cases hl:a.length=b.length
 case neg=>rw [H8 (by omega:¬(a.length:Int)=(b.length:Int)),H8 (fun e=>hl (by rw [e]))]; rfl
 rw [H7 (by omega:(a.length:Int)=(b.length:Int))]
 have key:∀ n i,i+n=a.length->(a.drop i=b.drop i/\rn ⟨91,0,1⟩ [.sl (a.map iRow),.sl (b.map iRow),.int (a.length:Int),.int (i:Int)]=some (0,[]))\/(a.drop i≠b.drop i/\rn ⟨91,0,1⟩ [.sl (a.map iRow),.sl (b.map iRow),.int (a.length:Int),.int (i:Int)]=some (1,[])):=by
  intro n;induction n with
  | zero =>
   intro i hi;obtain rfl:i=a.length:=by omega
   rw [e91_0_1];exact .inl ⟨by rw [C8,hl,C8],by simp only [B6,C0,D4,H4,H2,C8]⟩
  | succ n ih =>
   intro i hi;have h1:i<a.length:=by omega
   have h2:i<b.length:=by omega
   rw [e91_0_1,B8 h1,B8 h2];simp only [B6,C0,h1,H3,H1,inbN,B9,rowAt_map h1,wrap_succ h1 (maxB (by omega)),h2,rowAt_map h2,iRow,nv0,nvS,dvI,dvB,dvS,dvL,B5]
   by_cases e:a[i]=b[i]
   · simp only [H7 e,D9,H2]
     rcases ih (i+1) (by omega) with ⟨q1,q2⟩|⟨q1,q2⟩
     · exact .inl ⟨by rw [e,q1],q2⟩
     · exact .inr ⟨fun h=>q1 (by simp only [O9.injEq] at h; exact h.2),q2⟩
   · simp only [H8 e,J7,H1]
     exact .inr ⟨fun h=>e (by simp only [O9.injEq] at h; exact h.1),trivial⟩
 have h:=key a.length 0 (D7 _);simp only [D2,C6] at h;rcases h with ⟨q1,q2⟩|⟨q1,q2⟩
 · simp only [D9,H2,q2,nv0,nvS,dvI,dvB,dvS,dvL,B5,E6,H1,H2]; rw [H7 q1]
 · simp only [D9,H2,q2,nv0,nvS,dvI,dvB,dvS,dvL,B5,E6,H1,H2]; rw [H8 q1]; rfl
theorem contR (l:List (Nat × List Int)) (hl:l.length<=1048576) (k:Nat) (p:List Int) (hp:p.length<=1048576):rn ⟨50,0,0⟩ [.sl (l.map rdRow),.int (k:Int),.sl (p.map iRow)]=some (0,[.bool (hasR l k p),.int (k:Int),.sl (p.map iRow)]):=by
 have hc:∀ x:Nat × List Int,rn ⟨52,0,0⟩ [.int (x.1:Int),.sl (x.2.map iRow),.int (k:Int),.sl (p.map iRow)]=some (0,[.bool (decide ((x.1:Int)=(k:Int))&&decide (x.2=p)),.int (k:Int),.sl (p.map iRow)]):=by
  intro x;have h1:=eqIs p x.2 hp;have h2:rn ⟨53,0,0⟩ [.int (k:Int),.sl (p.map iRow),.int (x.1:Int),.sl (x.2.map iRow)]=some (0,[.bool (decide ((x.1:Int)=(k:Int))&&decide (x.2=p))]):=by
   rw [e53_0_0];simp only [h1,nv0,nvS,dvI,dvB,dvS,dvL,B5];by_cases e:(x.1:Int)=(k:Int)
   · rw [H7 e,H7 e.symm]
     have:decide (p=x.2)=decide (x.2=p):=decide_eq_decide.2 ⟨Eq.symm,Eq.symm⟩;rw [this]; rfl
   · rw [H8 e,H8 (fun h=>e h.symm)]; rfl
  rw [e52_0_0];simp only [h2,nv0,nvS,dvI,dvB,dvS,dvL,B5]
 have hlp:∀ n i,i+n=l.length->(hasR (l.drop i) k p=false/\rn ⟨88,0,1⟩ [.sl (l.map rdRow),.int (l.length:Int),.int (i:Int),.int (k:Int),.sl (p.map iRow)]=some (0,[.int (k:Int),.sl (p.map iRow)]))\/(hasR (l.drop i) k p=true/\∃ j:Nat,rn ⟨88,0,1⟩ [.sl (l.map rdRow),.int (l.length:Int),.int (i:Int),.int (k:Int),.sl (p.map iRow)]=some (1,[.int (j:Int),.int (k:Int),.sl (p.map iRow)])):=by
  intro n;induction n with
  | zero =>
   intro i hi;obtain rfl:i=l.length:=by omega
   rw [e88_0_1];exact .inl ⟨by rw [C8]; rfl,by simp only [B6,C0,D4,H4,H2,C8]⟩
  | succ n ih =>
   intro i hi;have hlt:i<l.length:=by omega
   rw [e88_0_1,B8 hlt];simp only [B6,C0,hlt,H3,H1,inbN,B9,rowAt_map hlt,wrap_succ hlt (maxB (by omega)),rdRow,nv0,nvS,dvI,dvB,dvS,dvL,B5,hc l[i]]
   have e:hasR (l[i]::l.drop (i+1)) k p=((decide ((l[i].1:Int)=(k:Int))&&decide (l[i].2=p))||hasR (l.drop (i+1)) k p):=rfl
   rw [e];cases decide ((l[i].1:Int)=(k:Int))&&decide (l[i].2=p) with
   | true=>exact .inr ⟨rfl,i,rfl⟩
   | false=>simpa using ih (i+1) (by omega)
 have h:=hlp l.length 0 (D7 _);simp only [D2,C6] at h;rw [e50_0_0,e88_0_0];simp only [B6];rcases h with ⟨h1,h2⟩|⟨h1,j,h2⟩
 · rw [h2,h1]; rfl
 · rw [h2,h1]
   simp only [nv0,nvS,dvI,dvB,dvS,dvL,B5,E6,H1,H2,show E3 1 0=false from rfl]
   have:(0:Int)<=(j:Int):=by omega
   simp [this]
def rpD:Option Tm->List D
 | some u=>[.int u.k,.int u.n,.str u.s,.bool true,.sl (u.as.map Tm.row)]
 | none=>[.int 0,.int 0,.str ⟨#[]⟩,.bool false,.sl []]
theorem replayI (d:DfM) (hb:DfB d) (t:Tm) (hw:Wt t) (hn:t.nodes<=2097152) (l:List (Nat × List Int)) (hl:l.length<=1048576) (hp:∀ x∈l,x.2.length<=1048576):rn ⟨22,0,0⟩ [.sl (d.so.map sRow),.sl (d.op.map OpM.row),.sl (d.ru.map RuM.row),.sl (d.st.map StM.row),.int t.k,.int t.n,.str t.s,.sl (t.as.map Tm.row),.sl (l.map rdRow)]=some (0,rpD (if cfg d t=true then rpF d t l else none)):=by
 have h1:=r48 d hb t hw hn;rw [e22_0_0];simp only [h1,nv0,nvS,dvI,dvB,dvS,dvL,B5];by_cases hc:cfg d t=true
 case neg=>rw [H6 hc]; rw [O1] at hc; rw [hc]; rfl
 rw [H5 hc,hc];obtain ⟨hd,ht,hn60⟩:=cfg_of hb hw hc;have key:∀ n i (t:Tm),i+n=l.length->Gt d.op t->t.nodes<=60->rn ⟨22,0,1⟩ [.sl (l.map rdRow),.int (l.length:Int),.int (i:Int),.sl (d.so.map sRow),.sl (d.op.map OpM.row),.sl (d.ru.map RuM.row),.sl (d.st.map StM.row),.int 0,.int 0,.str ⟨#[]⟩,.int t.k,.int t.n,.str t.s,.sl [],.sl (t.as.map Tm.row)]=match rpF d t (l.drop i) with
  | some u=>some (0,[.int 0,.int 0,.str ⟨#[]⟩,.int u.k,.int u.n,.str u.s,.sl [],.sl (u.as.map Tm.row)])
  | none=>some (1,[.int 0,.int 0,.str ⟨#[]⟩,.sl []]):=by
  intro n;induction n with
  | zero =>
   intro i t hi ht hn;obtain rfl:i=l.length:=by omega
   rw [e22_0_1];simp only [B6,C0,D4,H4,H2,C8,rpF]
  | succ n ih =>
   intro i t hi ht hn;have hlt:i<l.length:=by omega
   have hpl:=hp _ (C2 hlt);have a1:=allI d hd t ht hn [] (by simp; omega)
   rw [preR_nil] at a1;have hfew:=rdA_few hd hn;have a2:=contR (rdA d t) (by omega) l[i].1 l[i].2 hpl
   rw [B8 hlt,e22_0_1];simp only [rpF];try simp only [D3] at a1
   simp only [B6,C0,hlt,H3,H1,inbN,B9,rowAt_map hlt,wrap_succ hlt (maxB (by omega)),a1,rdRow,nv0,nvS,dvI,dvB,dvS,dvL,B5]
   rw [a2];simp only [nv0,nvS,dvI,dvB,dvS,dvL,B5];by_cases hm:l[i]∈rdA d t
   · have hh:hasR (rdA d t) l[i].1 l[i].2=true:=hasR_iff.2 hm
     rw [H5 hm,hh];have hx:=rdA_rx d t _ hm;have a3:=performRx d hd t ht hn l[i].1 l[i].2 hx;obtain ⟨_,_,_,_,_,_,_,_,_,_,_,hg,_⟩:=rx_good hd ht hn hx;simp only [D9,H2,a3,nv0,nvS,dvI,dvB,dvS,dvL,B5];cases hv:(stepT d t l[i].1 l[i].2).valid with
     | false=>rw [H6 (by simp)]; rfl
     | true =>
      have hsn:=valid_nodes hv;have a4:=r49 (stepT d t l[i].1 l[i].2) (small_of _ (by omega))
      have a5:=ih (i+1) (stepT d t l[i].1 l[i].2) (by omega) hg hsn
      rw [H5 rfl];simp only [D9,H2,a4,nv0,nvS,dvI,dvB,dvS,dvL,B5,a5]
   · rw [H6 hm,show hasR (rdA d t) l[i].1 l[i].2=false from Bool.eq_false_iff.2 fun h=>hm (hasR_iff.1 h)]
     rfl
 have h2:=r49 t (small_of _ (by omega))
 have h3:=key l.length 0 t (D7 _) ht hn60;simp only [C6,D2] at h3;simp only [D9,H2,h2,nv0,nvS,dvI,dvB,dvS,dvL,B5,B6,h3];cases rpF d t l <;> rfl
theorem intsS (a b:List Int) (ha:a.length<=1048576):rn ⟨101,0,0⟩ [.sl (a.map iRow),.sl (b.map iRow)]=some (0,[.bool (decide (a=b))]):=by
 rw [e101_0_0];simp only [B6];by_cases hl:a.length=b.length
 case neg=>rw [H8 (by omega:¬(a.length:Int)=(b.length:Int)),H8 (fun e=>hl (by rw [e]))]; rfl
 rw [H7 (by omega:(a.length:Int)=(b.length:Int))]
 have key:∀ n i,i+n=a.length->(a.drop i=b.drop i/\rn ⟨101,0,1⟩ [.sl (a.map iRow),.sl (b.map iRow),.int (i:Int)]=some (0,[]))\/(a.drop i≠b.drop i/\rn ⟨101,0,1⟩ [.sl (a.map iRow),.sl (b.map iRow),.int (i:Int)]=some (1,[])):=by
  intro n;induction n with
  | zero =>
   intro i hi;obtain rfl:i=a.length:=by omega
   rw [e101_0_1];exact .inl ⟨by rw [C8,hl,C8],by simp only [B6,C0,D4,H4,H2,C8]⟩
  | succ n ih =>
   intro i hi;have h1:i<a.length:=by omega
   have h2:i<b.length:=by omega
   rw [e101_0_1,B8 h1,B8 h2];simp only [B6,C0,h1,H3,H1,inbN,B9,rowAt_map h1,wrap_succ h1 (maxB (by omega)),h2,rowAt_map h2,iRow,nv0,nvS,dvI,dvB,dvS,dvL,B5]
   by_cases e:a[i]=b[i]
   · simp only [H7 e,D9,H2]
     rcases ih (i+1) (by omega) with ⟨q1,q2⟩|⟨q1,q2⟩
     · exact .inl ⟨by rw [e,q1],q2⟩
     · exact .inr ⟨fun h=>q1 (by simp only [O9.injEq] at h; exact h.2),q2⟩
   · simp only [H8 e,J7,H1]
     exact .inr ⟨fun h=>e (by simp only [O9.injEq] at h; exact h.1),trivial⟩
 have h:=key a.length 0 (D7 _);simp only [D2,C6] at h;rcases h with ⟨q1,q2⟩|⟨q1,q2⟩
 · simp only [D9,H2,q2,nv0,nvS,dvI,dvB,dvS,dvL,B5,E6,H1,H2]; rw [H7 q1]
 · simp only [D9,H2,q2,nv0,nvS,dvI,dvB,dvS,dvL,B5,E6,H1,H2]; rw [H8 q1]; rfl
theorem hasS (l:List (Nat × List Int)) (hl:l.length<=1048576) (hp:∀ x∈l,x.2.length<=1048576) (k:Nat) (p:List Int):rn ⟨61,0,0⟩ [.sl (l.map rdRow),.int (k:Int),.sl (p.map iRow)]=some (0,[.bool (hasR l k p)]):=by
 have key:∀ n i,i+n=l.length->rn ⟨61,0,1⟩ [.sl (l.map rdRow),.int (i:Int),.int (k:Int),.sl (p.map iRow)]=bif hasR (l.drop i) k p then some (1,[]) else some (0,[]):=by
  intro n;induction n with
  | zero =>
   intro i hi;obtain rfl:i=l.length:=by omega
   rw [e61_0_1];simp only [B6,C0,D4,H4,H2,C8,hasR,List.any_nil]
  | succ n ih =>
   intro i hi;have hlt:i<l.length:=by omega
   have h1:=intsS l[i].2 p (hp _ (C2 hlt));rw [e61_0_1,B8 hlt];simp only [B6,C0,hlt,H3,H1,inbN,B9,rowAt_map hlt,wrap_succ hlt (maxB (by omega)),rdRow,nv0,nvS,dvI,dvB,dvS,dvL,B5,h1,ih (i+1) (by omega)]
   have e:hasR (l[i]::l.drop (i+1)) k p=((decide ((l[i].1:Int)=(k:Int))&&decide (l[i].2=p))||hasR (l.drop (i+1)) k p):=rfl
   rw [e];cases decide ((l[i].1:Int)=(k:Int)) <;> cases decide (l[i].2=p) <;> rfl
 have h:=key l.length 0 (D7 _);simp only [C6,D2] at h;rw [e61_0_0,h];cases hasR l k p <;> rfl
theorem replayS (d:DfM) (hb:DfB d) (t:Tm) (hw:Wt t) (hn:t.nodes<=2097152) (l:List (Nat × List Int)) (hl:l.length<=1048576):rn ⟨26,0,0⟩ [.sl (d.so.map sRow),.sl (d.op.map OpM.row),.sl (d.ru.map RuM.row),.sl (d.st.map StM.row),.int t.k,.int t.n,.str t.s,.sl (t.as.map Tm.row),.sl (l.map rdRow)]=some (0,rpD (if cfg d t=true then rpF d t l else none)):=by
 have h1:=r59 d hb t hw hn;rw [e26_0_0];simp only [h1,nv0,nvS,dvI,dvB,dvS,dvL,B5];by_cases hc:cfg d t=true
 case neg=>rw [H6 hc]; rw [O1] at hc; rw [hc]; rfl
 rw [H5 hc,hc];obtain ⟨hd,ht,hn60⟩:=cfg_of hb hw hc;have key:∀ n i (t:Tm),i+n=l.length->Gt d.op t->t.nodes<=60->rn ⟨26,0,1⟩ [.sl (l.map rdRow),.int (i:Int),.sl (d.so.map sRow),.sl (d.op.map OpM.row),.sl (d.ru.map RuM.row),.sl (d.st.map StM.row),.int 0,.int 0,.str ⟨#[]⟩,.int t.k,.int t.n,.str t.s,.sl [],.sl (t.as.map Tm.row)]=match rpF d t (l.drop i) with
  | some u=>some (0,[.int 0,.int 0,.str ⟨#[]⟩,.int u.k,.int u.n,.str u.s,.sl [],.sl (u.as.map Tm.row)])
  | none=>some (1,[.int 0,.int 0,.str ⟨#[]⟩,.sl []]):=by
  intro n;induction n with
  | zero =>
   intro i t hi ht hn;obtain rfl:i=l.length:=by omega
   rw [e26_0_1];simp only [B6,C0,D4,H4,H2,C8,rpF]
  | succ n ih =>
   intro i t hi ht hn;have hlt:i<l.length:=by omega
   have hfew:=rdA_few hd hn;have a1:=allS d hd t ht hn [] [] (by simp; omega) (by simp; omega)
   rw [preR_nil] at a1;have hpr:∀ x∈rdA d t,x.2.length<=1048576:=fun x hx=>by
    obtain ⟨_,_,_,_,_,_,_,_,_,_,_,_,_,h,_⟩:=rx_good hd ht hn (rdA_rx d t x hx);omega
   have a2:=hasS (rdA d t) (by omega) hpr l[i].1 l[i].2
   rw [B8 hlt,e26_0_1];simp only [rpF];try simp only [D3,E7] at a1
   simp only [B6,C0,hlt,H3,H1,inbN,B9,rowAt_map hlt,wrap_succ hlt (maxB (by omega)),a1,rdRow,nv0,nvS,dvI,dvB,dvS,dvL,B5]
   rw [a2];simp only [nv0,nvS,dvI,dvB,dvS,dvL,B5];by_cases hm:l[i]∈rdA d t
   · have hh:hasR (rdA d t) l[i].1 l[i].2=true:=hasR_iff.2 hm
     rw [H5 hm,hh];have hx:=rdA_rx d t _ hm;have a3:=doRx d hd t ht hn l[i].1 l[i].2 hx;obtain ⟨_,_,_,_,_,_,_,_,_,_,_,hg,_⟩:=rx_good hd ht hn hx;simp only [D9,H2,a3,nv0,nvS,dvI,dvB,dvS,dvL,B5];cases hv:(stepT d t l[i].1 l[i].2).valid with
     | false=>rw [H6 (by simp)]; rfl
     | true =>
      have hsn:=valid_nodes hv;have a5:=ih (i+1) (stepT d t l[i].1 l[i].2) (by omega) hg hsn
      rw [H5 rfl];simp only [D9,H2,a5]
   · rw [H6 hm,show hasR (rdA d t) l[i].1 l[i].2=false from Bool.eq_false_iff.2 fun h=>hm (hasR_iff.1 h)]
     rfl
 have h2:=r60 t (small_of _ (by omega))
 have h3:=key l.length 0 t (D7 _) ht hn60;simp only [C6,D2] at h3;simp only [D9,H2,h2,nv0,nvS,dvI,dvB,dvS,dvL,B5,h3];cases rpF d t l <;> rfl
end Go.Q.S
end
section
namespace Go.Proofs
open Go.Shelf
def Tryz.lays190_ren:Go.Shelf.Ren:=⟨fun | 190=>206 | 125=>218 | 258=>217 | 128=>229 | 129=>230 | 302=>220 | 303=>221 | 304=>222 | 305=>223 | 306=>224 | 307=>225 | 308=>226 | 309=>227 | 310=>228 | 333=>231 | 329=>232 | 330=>233 | 334=>234 | 335=>235 | 336=>236 | 344=>237 | n=>n,fun | 31=>24 | 9=>9 | 3=>3 | 46=>169 | 0=>0 | 51=>221 | 53=>223 | 4=>4 | 183=>213 | 182=>212 | 131=>218 | 5=>5 | 218=>224 | 222=>228 | 228=>230 | 229=>231 | n=>n,fun | n=>n⟩
theorem Tryz.lays190:Go.Proofs.Lays.n190 Tryz.prog Tryz.lays190_ren:={
 mixed:=by kernel_rfl
 f125:=Tryz.func218.trans (congrArg some (by kernel_rfl))
 f128:=Tryz.func229.trans (congrArg some (by kernel_rfl))
 f129:=Tryz.func230.trans (congrArg some (by kernel_rfl))
 f190:=Tryz.func206.trans (congrArg some (by kernel_rfl))
 f258:=Tryz.func217.trans (congrArg some (by kernel_rfl))
 f302:=Tryz.func220.trans (congrArg some (by kernel_rfl))
 f303:=Tryz.func221.trans (congrArg some (by kernel_rfl))
 f304:=Tryz.func222.trans (congrArg some (by kernel_rfl))
 f305:=Tryz.func223.trans (congrArg some (by kernel_rfl))
 f306:=Tryz.func224.trans (congrArg some (by kernel_rfl))
 f307:=Tryz.func225.trans (congrArg some (by kernel_rfl))
 f308:=Tryz.func226.trans (congrArg some (by kernel_rfl))
 f309:=Tryz.func227.trans (congrArg some (by kernel_rfl))
 f310:=Tryz.func228.trans (congrArg some (by kernel_rfl))
 f329:=Tryz.func232.trans (congrArg some (by kernel_rfl))
 f330:=Tryz.func233.trans (congrArg some (by kernel_rfl))
 f333:=Tryz.func231.trans (congrArg some (by kernel_rfl))
 f334:=Tryz.func234.trans (congrArg some (by kernel_rfl))
 f335:=Tryz.func235.trans (congrArg some (by kernel_rfl))
 f336:=Tryz.func236.trans (congrArg some (by kernel_rfl))
 f344:=Tryz.func237.trans (congrArg some (by kernel_rfl))
 t0:=Tryz.underlying0
 a0:=Tryz.isAgg0
 z0:=Tryz.sizeOf0
 v0:=Tryz.zeroValue0
 t3:=Tryz.underlying3
 a3:=Tryz.isAgg3
 z3:=Tryz.sizeOf3
 v3:=Tryz.zeroValue3
 t4:=Tryz.underlying4
 a4:=Tryz.isAgg4
 z4:=Tryz.sizeOf4
 v4:=Tryz.zeroValue4
 t5:=Tryz.underlying5
 a5:=Tryz.isAgg5
 z5:=Tryz.sizeOf5
 v5:=Tryz.zeroValue5
 t9:=Tryz.underlying9
 a9:=Tryz.isAgg9
 z9:=Tryz.sizeOf9
 v9:=Tryz.zeroValue9
 t31:=Tryz.underlying24
 a31:=Tryz.isAgg24
 z31:=Tryz.sizeOf24
 v31:=Tryz.zeroValue24
 t46:=Tryz.underlying169
 a46:=Tryz.isAgg169
 z46:=Tryz.sizeOf169
 v46:=Tryz.zeroValue169
 t51:=Tryz.underlying221
 a51:=Tryz.isAgg221
 z51:=Tryz.sizeOf221
 v51:=Tryz.zeroValue221
 t53:=Tryz.underlying223
 a53:=Tryz.isAgg223
 z53:=Tryz.sizeOf223
 v53:=Tryz.zeroValue223
 t131:=Tryz.underlying218
 a131:=Tryz.isAgg218
 z131:=Tryz.sizeOf218
 v131:=Tryz.zeroValue218
 t182:=Tryz.underlying212
 a182:=Tryz.isAgg212
 z182:=Tryz.sizeOf212
 v182:=Tryz.zeroValue212
 t183:=Tryz.underlying213
 a183:=Tryz.isAgg213
 z183:=Tryz.sizeOf213
 v183:=Tryz.zeroValue213
 t218:=Tryz.underlying224
 a218:=Tryz.isAgg224
 z218:=Tryz.sizeOf224
 v218:=Tryz.zeroValue224
 t222:=Tryz.underlying228
 a222:=Tryz.isAgg228
 z222:=Tryz.sizeOf228
 v222:=Tryz.zeroValue228
 t228:=Tryz.underlying230
 a228:=Tryz.isAgg230
 z228:=Tryz.sizeOf230
 v228:=Tryz.zeroValue230
 t229:=Tryz.underlying231
 a229:=Tryz.isAgg231
 z229:=Tryz.sizeOf231
 v229:=Tryz.zeroValue231 }
def Tryz.lays194_ren:Go.Shelf.Ren:=⟨fun | 194=>207 | n=>n,fun | 31=>24 | 9=>9 | 3=>3 | 4=>4 | 0=>0 | n=>n,fun | n=>n⟩
theorem Tryz.lays194:Go.Proofs.Lays.n194 Tryz.prog Tryz.lays194_ren:={
 mixed:=by kernel_rfl
 f194:=Tryz.func207.trans (congrArg some (by kernel_rfl))
 t0:=Tryz.underlying0
 a0:=Tryz.isAgg0
 z0:=Tryz.sizeOf0
 v0:=Tryz.zeroValue0
 t3:=Tryz.underlying3
 a3:=Tryz.isAgg3
 z3:=Tryz.sizeOf3
 v3:=Tryz.zeroValue3
 t4:=Tryz.underlying4
 a4:=Tryz.isAgg4
 z4:=Tryz.sizeOf4
 v4:=Tryz.zeroValue4
 t9:=Tryz.underlying9
 a9:=Tryz.isAgg9
 z9:=Tryz.sizeOf9
 v9:=Tryz.zeroValue9
 t31:=Tryz.underlying24
 a31:=Tryz.isAgg24
 z31:=Tryz.sizeOf24
 v31:=Tryz.zeroValue24 }
end Go.Proofs
namespace Go.Q.S
open Go Go.Q Go.Proofs
theorem kiF_mem:∀ {l:List (Nat × Nat × KI)} {v n:Nat} {i:KI},kiF l v n=some i->∃ a b,(a,b,i)∈l
 | [],v,n,i,h=>by simp [kiF] at h
 | (a,b,x)::r,v,n,i,h=>by
  unfold kiF at h;cases hb:E3 a v&&E3 b n with
  | true=>rw [hb] at h; simp only [H1,C7.injEq] at h; exact ⟨a,b,by rw [h]; exact List.mem_cons_self ..⟩
  | false =>
   rw [hb] at h;obtain ⟨a',b',h'⟩:=kiF_mem h;exact ⟨a',b',List.mem_cons_of_mem _ h'⟩
theorem ext_ok:∀ f g,H.ext f=some g->∀ v ls x,g v ls=some x->FnT Tryz.prog H ⟨f,v,0⟩ ls x:=fun f g h v ls x hx=>by
 have h:lookN extL f=some g:=h;simp only [extL,lookN] at h;cases h1:E3 206 f with
 | true =>
  rw [h1] at h;simp only [H1,C7.injEq] at h;subst h;obtain rfl:=beqN.1 h1;refine sort_fnT Go.Proofs.Tryz.lays190 rfl (E:=9) (fl:=[]) rfl Tryz.func206 (fun he=>by cases he) (of_decide_eq_false (by kernel_rfl)) (fun i hi=>?_) hx
  obtain ⟨a,b,hm⟩:=kiF_mem (l:=[(0,0,⟨[(0,.hd 0)],[(0,.arr 9 .deep)],[⟨.ret,[],[(0,.arr 9 .deep)]⟩]⟩)]) hi;simp only [D6,R4,or_false,Prod.mk.injEq] at hm;exact hm.2.2
 | false =>
 rw [h1] at h;simp only [H2] at h;cases h1:E3 207 f with
 | true =>
  rw [h1] at h;simp only [H1,C7.injEq] at h;subst h;obtain rfl:=beqN.1 h1;refine comp_fnT Go.Proofs.Tryz.lays194 rfl (E:=9) (fl:=[]) rfl Tryz.func207 (fun he=>by cases he) (of_decide_eq_false (by kernel_rfl)) (fun i hi=>?_) hx
  obtain ⟨a,b,hm⟩:=kiF_mem (l:=[(0,0,⟨[(0,.hd 0)],[(0,.arr 9 .deep)],[⟨.ret,[(0,.hd 16)],[(16,.arr 9 .deep)]⟩]⟩)]) hi;simp only [D6,R4,or_false,Prod.mk.injEq] at hm;exact hm.2.2
 | false =>
 rw [h1] at h;simp only [H2] at h;simp at h
theorem fits:Fits Tryz.prog H where
 ty:=tyOK_of (l:=tyL) (fun _=>rfl) (by kernel_rfl)
 eq:=eqOK_of (l:=eqL) (fun _=>rfl) (by kernel_rfl)
 mixed:=Tryz.checked.mixed
 names:=names_of (by kernel_rfl)
 ext:=ext_ok
end Go.Q.S
end
