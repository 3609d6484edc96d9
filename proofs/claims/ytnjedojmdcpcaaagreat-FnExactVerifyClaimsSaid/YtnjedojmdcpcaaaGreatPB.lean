/- The functions of this seat, as that machine runs them, part 2. -/
import Derived.Test.YtnjedojmdcpcaaaGreatPA
import Derived.Test.YtnjedojmdcpcaaaGreatMA
import Derived.Test.YtnjedojmdcpcaaaGreatQD
import Derived.Test.YtnjedojmdcpcaaaGreatveX2
import Derived.Test.YtnjedojmdcpcaaaGreatChecked
set_option linter.unusedVariables false
set_option linter.unusedSimpArgs false
open Bool renaming and_eq_true->C4,not_true->D2,true_and->E8,and_true->G8,not_false->J7,false_eq_true->N4,and_self->O0,and_false->R0
open Int renaming toNat_natCast->B7,ofNat_lt->C1,natCast_zero->C3,natCast_one->N0,tmod->R3
open List renaming length_map->B6,getD_cons_zero->B8,getD_cons_succ->B9,getElem_mem->C0,drop_eq_getElem_cons->C2,length_cons->C5,map_cons->C6,drop_length->C7,nil_append->C8,length_nil->D0,drop_zero->D3,cons_append->D4,map_nil->D8,map_append->E1,append_assoc->E2,mem_cons->E3,getElem?_eq_some_iff->E4,length_append->E5,all_eq_true->E7,append_nil->F5,getElem?_eq_getElem->G6,all_cons->J1,sum_cons->K1,cons->K3,all_nil->K6,find?_cons->O3,filter_sublist->P5,find?_nil->R4,length_filterMap_le->S1,filter_cons->S4,filter_nil->T0,any_cons->T1,findIdx?_nil->U6
open Nat renaming lt_irrefl->D6,beq_refl->D7,zero_add->D9,beq->E6,le_refl->F1,ble_eq_true_of_le->F2,lt_succ_self->F4,ble->F6,le_trans->J0,zero_le->J4,blt->K4,add_zero->N2,not_lt_zero->Q2,mul_le_mul->U4
open Option renaming bind_some->B5,some->D5,map_some->K5,isSome_some->P0,getD_some->P1
section
namespace Go.Q.S
open Go Go.Q Go.Proofs
theorem mI2:∀ t u:Tm,∀ l:List Bnd,Small u->(∀ b∈l,Small b.2)->l.length+t.nodes<=1048576->rn ⟨334,2,0⟩ [.int t.k,.int t.n,.str t.s,.sl (t.as.map Tm.row),.int u.k,.int u.n,.str u.s,.sl (u.as.map Tm.row),.sl (l.map Bnd.row)]=some (0,foI (mT t u l) (if t.k=1 then l.map Bnd.row else [])):=Tm.ind fun t ih u l hu hl hb=>by
 have hnd:=Tm.nodes_eq t;have hls:=len_sum (xs:=t.as);have hlp:t.as.length=u.as.length->∀ n i (l:List Bnd),i+n=t.as.length->(∀ b∈l,Small b.2)->l.length+((t.as.drop i).map Tm.nodes).sum<=1048576->rn ⟨334,2,1⟩ [.int (t.as.length:Int),.int (i:Int),.sl (l.map Bnd.row),.int t.k,.int t.n,.str t.s,.sl (t.as.map Tm.row),.int u.k,.int u.n,.str u.s,.sl (u.as.map Tm.row)]=match mTs (t.as.drop i) (u.as.drop i) l with
  | some l'=>some (0,[.sl (l'.map Bnd.row)])
  | none=>some (1,[.sl []]):=by
  intro hlen n;induction n with
  | zero =>
   intro i l hi hl hb;obtain rfl:i=t.as.length:=by omega
   rw [e334_2_1];simp only [B6,C1,D6,H4,H2,C7,mTs]
  | succ n ih2 =>
   intro i l hi hl hb;have hlt:i<t.as.length:=by omega
   have hlu:i<u.as.length:=by omega
   rw [C2 hlt] at hb ⊢;rw [C2 hlu];simp only [C6,K1] at hb;have hm:=C0 hlt;have hmu:=C0 hlu;have h1:=ih _ hm u.as[i] l (hu.sub hmu) hl (by omega)
   rw [e334_2_1];simp only [B6,C1,hlt,H3,H1,inbN,B7,rowAt_map hlt,wrap_succ hlt (maxB (by omega)),hlu,rowAt_map hlu,Tm.row_eq,nv0,nvS,dvI,dvB,dvS,dvL,B5,h1,mTs]
   cases hq:mT t.as[i] u.as[i] l with
   | none=>rfl
   | some l1 =>
    have hl1:=mT_all Small (fun t a h ha=>h.sub ha) _ _ l l1 (hu.sub hmu) hl hq
    have hn1:=mT_len _ _ _ _ hq;have h2:=ih2 (i+1) l1 (by omega) hl1 (by omega)
    simp only [foI,nv0,nvS,dvI,dvB,dvS,dvL,B5,D2,H2,h2]
 have h0:=fun h=>hlp h t.as.length 0 l (by omega) hl (by rw [D3]; omega)
 simp only [D3,C3] at h0;rw [e334_2_0,mT_eq];by_cases h1:t.k=1
 · have hbd:=r276 l (by omega) t.s
   have hb2:F6 (l.length+1) M63=true:=nb (by omega)
   simp only [h1,H3,H1,if_true,hbd];cases hq:bnd l t.s with
   | some v =>
    have he:=r289 v u (bnd_mem' hl hq);simp only [nv0,nvS,dvI,dvB,dvS,dvL,B5,H1,he];cases eqb v.row u.row <;> rfl
   | none =>
    simp only [nv0,nvS,dvI,dvB,dvS,dvL,B5,H2,B6,C5,D0,D9,hb2,H1,foI,E1,C6,D8,bd_row]
 · simp only [h1,H4,H2,if_false]
   by_cases e1:t.k=u.k
   · rw [H7 e1,H5 e1]
     by_cases e2:t.n=u.n
     · rw [H7 e2,H5 e2]
       by_cases e3:t.s=u.s
       · rw [H7 e3,H5 e3]
         by_cases e4:t.as.length=u.as.length
         · have e4':((t.as.map Tm.row).length:Int)=((u.as.map Tm.row).length:Int):=by simp [e4]
           rw [H7 e4',H5 e4];simp only [D2,H2,B6,h0 e4];cases mTs t.as u.as l <;> rfl
         · have e4':¬((t.as.map Tm.row).length:Int)=((u.as.map Tm.row).length:Int):=by simp; omega
           rw [H8 e4',H6 e4]; rfl
       · rw [H8 e3,H6 e3]; rfl
     · rw [H8 e2,H6 e2]; rfl
   · rw [H8 e1,H6 e1]; rfl
theorem mI1:∀ t u:Tm,∀ l:List Bnd,Small u->(∀ b∈l,Small b.2)->l.length+t.nodes<=1048576->rn ⟨334,1,0⟩ [.int t.k,.int t.n,.str t.s,.sl (t.as.map Tm.row),.int u.k,.int u.n,.str u.s,.sl (u.as.map Tm.row),.sl (l.map Bnd.row)]=some (0,foI (mT t u l) (if t.k=1 then l.map Bnd.row else [])):=fun t u l hu hl hb=>by
 have ih:=fun (a:Tm) (_:a∈t.as)=>mI2 a
 have hnd:=Tm.nodes_eq t;have hls:=len_sum (xs:=t.as);have hlp:t.as.length=u.as.length->∀ n i (l:List Bnd),i+n=t.as.length->(∀ b∈l,Small b.2)->l.length+((t.as.drop i).map Tm.nodes).sum<=1048576->rn ⟨334,1,1⟩ [.int (t.as.length:Int),.int (i:Int),.sl (l.map Bnd.row),.int t.k,.int t.n,.str t.s,.sl (t.as.map Tm.row),.int u.k,.int u.n,.str u.s,.sl (u.as.map Tm.row)]=match mTs (t.as.drop i) (u.as.drop i) l with
  | some l'=>some (0,[.sl (l'.map Bnd.row)])
  | none=>some (1,[.sl []]):=by
  intro hlen n;induction n with
  | zero =>
   intro i l hi hl hb;obtain rfl:i=t.as.length:=by omega
   rw [e334_1_1];simp only [B6,C1,D6,H4,H2,C7,mTs]
  | succ n ih2 =>
   intro i l hi hl hb;have hlt:i<t.as.length:=by omega
   have hlu:i<u.as.length:=by omega
   rw [C2 hlt] at hb ⊢;rw [C2 hlu];simp only [C6,K1] at hb;have hm:=C0 hlt;have hmu:=C0 hlu;have h1:=ih _ hm u.as[i] l (hu.sub hmu) hl (by omega)
   rw [e334_1_1];simp only [B6,C1,hlt,H3,H1,inbN,B7,rowAt_map hlt,wrap_succ hlt (maxB (by omega)),hlu,rowAt_map hlu,Tm.row_eq,nv0,nvS,dvI,dvB,dvS,dvL,B5,h1,mTs]
   cases hq:mT t.as[i] u.as[i] l with
   | none=>rfl
   | some l1 =>
    have hl1:=mT_all Small (fun t a h ha=>h.sub ha) _ _ l l1 (hu.sub hmu) hl hq
    have hn1:=mT_len _ _ _ _ hq;have h2:=ih2 (i+1) l1 (by omega) hl1 (by omega)
    simp only [foI,nv0,nvS,dvI,dvB,dvS,dvL,B5,D2,H2,h2]
 have h0:=fun h=>hlp h t.as.length 0 l (by omega) hl (by rw [D3]; omega)
 simp only [D3,C3] at h0;rw [e334_1_0,mT_eq];by_cases h1:t.k=1
 · have hbd:=r276 l (by omega) t.s
   have hb2:F6 (l.length+1) M63=true:=nb (by omega)
   simp only [h1,H3,H1,if_true,hbd];cases hq:bnd l t.s with
   | some v =>
    have he:=r289 v u (bnd_mem' hl hq);simp only [nv0,nvS,dvI,dvB,dvS,dvL,B5,H1,he];cases eqb v.row u.row <;> rfl
   | none =>
    simp only [nv0,nvS,dvI,dvB,dvS,dvL,B5,H2,B6,C5,D0,D9,hb2,H1,foI,E1,C6,D8,bd_row]
 · simp only [h1,H4,H2,if_false]
   by_cases e1:t.k=u.k
   · rw [H7 e1,H5 e1]
     by_cases e2:t.n=u.n
     · rw [H7 e2,H5 e2]
       by_cases e3:t.s=u.s
       · rw [H7 e3,H5 e3]
         by_cases e4:t.as.length=u.as.length
         · have e4':((t.as.map Tm.row).length:Int)=((u.as.map Tm.row).length:Int):=by simp [e4]
           rw [H7 e4',H5 e4];simp only [D2,H2,B6,h0 e4];cases mTs t.as u.as l <;> rfl
         · have e4':¬((t.as.map Tm.row).length:Int)=((u.as.map Tm.row).length:Int):=by simp; omega
           rw [H8 e4',H6 e4]; rfl
       · rw [H8 e3,H6 e3]; rfl
     · rw [H8 e2,H6 e2]; rfl
   · rw [H8 e1,H6 e1]; rfl
theorem mS:∀ t u:Tm,∀ l:List Bnd,Small u->(∀ b∈l,Small b.2)->l.length+t.nodes<=1048576->(∀ l',mT t u l=some l'->rn ⟨332,1,0⟩ [.int t.k,.int t.n,.str t.s,.sl (t.as.map Tm.row),.int u.k,.int u.n,.str u.s,.sl (u.as.map Tm.row),.sl (l.map Bnd.row)]=some (0,[.bool true,.sl (l'.map Bnd.row)]))/\(mT t u l=none->(∃ X,rn ⟨332,1,0⟩ [.int t.k,.int t.n,.str t.s,.sl (t.as.map Tm.row),.int u.k,.int u.n,.str u.s,.sl (u.as.map Tm.row),.sl (l.map Bnd.row)]=some (0,[.bool false,.sl X]))\/rn ⟨332,1,0⟩ [.int t.k,.int t.n,.str t.s,.sl (t.as.map Tm.row),.int u.k,.int u.n,.str u.s,.sl (u.as.map Tm.row),.sl (l.map Bnd.row)]=some (1,[])):=Tm.ind fun t ih u l hu hl hb=>by
 have hnd:=Tm.nodes_eq t;have hls:=len_sum (xs:=t.as);have hlp:t.as.length=u.as.length->∀ n i (l:List Bnd),i+n=t.as.length->(∀ b∈l,Small b.2)->l.length+((t.as.drop i).map Tm.nodes).sum<=1048576->rn ⟨332,1,1⟩ [.int (i:Int),.sl (l.map Bnd.row),.int t.k,.int t.n,.str t.s,.sl (t.as.map Tm.row),.int u.k,.int u.n,.str u.s,.sl (u.as.map Tm.row)]=match mTs (t.as.drop i) (u.as.drop i) l with
  | some l'=>some (0,[.sl (l'.map Bnd.row)])
  | none=>some (1,[]):=by
  intro hlen n;induction n with
  | zero =>
   intro i l hi hl hb;obtain rfl:i=t.as.length:=by omega
   rw [e332_1_1];simp only [B6,C1,D6,H4,H2,C7,mTs]
  | succ n ih2 =>
   intro i l hi hl hb;have hlt:i<t.as.length:=by omega
   have hlu:i<u.as.length:=by omega
   rw [C2 hlt] at hb ⊢;rw [C2 hlu];simp only [C6,K1] at hb;have hm:=C0 hlt;have hmu:=C0 hlu;obtain ⟨h1,h1'⟩:=ih _ hm u.as[i] l (hu.sub hmu) hl (by omega)
   rw [e332_1_1];simp only [B6,C1,hlt,H3,H1,inbN,B7,rowAt_map hlt,wrap_succ hlt (maxB (by omega)),hlu,rowAt_map hlu,Tm.row_eq,nv0,nvS,dvI,dvB,dvS,dvL,B5,mTs]
   cases hq:mT t.as[i] u.as[i] l with
   | none =>
    rcases h1' hq with ⟨X,e⟩ | e
    · rw [e]; rfl
    · rw [e]; rfl
   | some l1 =>
    have hl1:=mT_all Small (fun t a h ha=>h.sub ha) _ _ l l1 (hu.sub hmu) hl hq
    have hn1:=mT_len _ _ _ _ hq;have h2:=ih2 (i+1) l1 (by omega) hl1 (by omega)
    simp only [h1 l1 hq,nv0,nvS,dvI,dvB,dvS,dvL,B5,D7,H1,H2,D2,h2]
 have h0:=fun h=>hlp h t.as.length 0 l (by omega) hl (by rw [D3]; omega)
 simp only [D3,C3] at h0;rw [e332_1_0,mT_eq];by_cases h1:t.k=1
 · have hbd:=r269 l (by omega) hl t.s
   have hb2:F6 (l.length+1) M63=true:=nb (by omega)
   have hcp:=r188 u hu;simp only [h1,H3,H1,if_true,hbd];cases hq:bnd l t.s with
   | some v =>
    have he:=r217 v u (bnd_mem' hl hq);simp only [nv0,nvS,dvI,dvB,dvS,dvL,B5,H1,he];cases eqb v.row u.row with
    | true=>exact ⟨fun l' h=>by simp only [if_true,D5.injEq] at h; subst h; rfl,fun h=>by simp at h⟩
    | false=>exact ⟨fun l' h=>by simp at h,fun _=>.inl ⟨_,rfl⟩⟩
   | none =>
    refine ⟨fun l' h=>?_,fun h=>by simp at h⟩
    simp only [D5.injEq] at h;subst h;simp only [nv0,nvS,dvI,dvB,dvS,dvL,B5,H2,hcp,B6,C5,D0,D9,hb2,H1,E1,C6,D8,bd_row]
 · simp only [h1,H4,H2,if_false]
   by_cases e1:t.k=u.k
   · rw [H7 e1,H5 e1]
     by_cases e2:t.n=u.n
     · rw [H7 e2,H5 e2]
       by_cases e3:t.s=u.s
       · rw [H7 e3,H5 e3]
         by_cases e4:t.as.length=u.as.length
         · have e4':((t.as.map Tm.row).length:Int)=((u.as.map Tm.row).length:Int):=by simp [e4]
           rw [H7 e4',H5 e4];simp only [D2,H2,h0 e4];cases mTs t.as u.as l with
           | none=>exact ⟨fun l' h=>by simp at h,fun _=>.inr rfl⟩
           | some l2=>exact ⟨fun l' h=>by simp only [D5.injEq] at h; subst h; rfl,fun h=>by simp at h⟩
         · have e4':¬((t.as.map Tm.row).length:Int)=((u.as.map Tm.row).length:Int):=by simp; omega
           rw [H8 e4',H6 e4]; exact ⟨fun l' h=>by simp at h,fun _=>.inl ⟨_,rfl⟩⟩
       · rw [H8 e3,H6 e3]; exact ⟨fun l' h=>by simp at h,fun _=>.inl ⟨_,rfl⟩⟩
     · rw [H8 e2,H6 e2]; exact ⟨fun l' h=>by simp at h,fun _=>.inl ⟨_,rfl⟩⟩
   · rw [H8 e1,H6 e1]; exact ⟨fun l' h=>by simp at h,fun _=>.inl ⟨_,rfl⟩⟩
theorem r333 (l:List Bnd) (hl:l.length<=1048576) (hs:∀ b∈l,Small b.2) (ns:List ByteArray) (hn:ns.length<=1048577):rn ⟨333,0,0⟩ [.sl (l.map Bnd.row),.sl (ns.map sRow)]=some (0,[.sl ((rsB l (srtN ns)).map Bnd.row)]):=by
 have h1:=r236 ns (by omega)
 have hsl:=srtN_len ns;rw [e333_0_0,h1];generalize srtN ns=ms at hsl ⊢;have key:∀ n i (acc:List Bnd),i+n=ms.length->acc.length<=i->rn ⟨333,0,1⟩ [.sl (l.map Bnd.row),.int (i:Int),.sl (acc.map Bnd.row),.sl (ms.map sRow)]=some (0,[.sl ((acc++rsB l (ms.drop i)).map Bnd.row)]):=by
  intro n;induction n with
  | zero =>
   intro i acc hi ha;obtain rfl:i=ms.length:=by omega
   rw [e333_0_1];simp only [B6,C1,D6,H4,H2,C7,rsB,List.filterMap_nil,F5]
  | succ n ih =>
   intro i acc hi ha;have hlt:i<ms.length:=by omega
   rw [e333_0_1,C2 hlt,rsB_cons];have hbd:=r269 l hl hs ms[i];have hb2:F6 (acc.length+1) M63=true:=nb (by omega)
   simp only [B6,C1,hlt,H3,H1,inbN,B7,rowAt_map hlt,wrap_succ hlt (maxB (by omega)),sRow,nv0,nvS,dvI,dvB,dvS,dvL,B5,hbd]
   cases hq:bnd l ms[i] with
   | none =>
    have h2:=ih (i+1) acc (by omega) (by omega)
    simp only [nv0,nvS,dvI,dvB,dvS,dvL,B5,H2,h2]
   | some v =>
    have h2:=ih (i+1) (acc++[(ms[i],v)]) (by omega) (by simp; omega)
    simp only [E1,C6,D8,bd_row,sRow] at h2;simp only [nv0,nvS,dvI,dvB,dvS,dvL,B5,H1,C5,D0,D9,hb2,h2,E1,C6,E2,D4,C8,bd_row]
 have h:=key ms.length 0 [] (by omega) (J4 _)
 simp only [C3,D8,D3,C8] at h;simp only [h,nv0,nvS,dvI,dvB,dvS,dvL,B5,D7,H1,H2]
theorem r298 (t u:Tm) (ht:t.nodes<=1048576) (hu:Small u):rn ⟨298,0,0⟩ [.int t.k,.int t.n,.str t.s,.sl (t.as.map Tm.row),.int u.k,.int u.n,.str u.s,.sl (u.as.map Tm.row)]=some (0,foI ((mT t u []).map fun l=>rsB l (srtN (srtN t.names))) []):=by
 obtain ⟨h1,h2⟩:=mS t u [] hu (by simp) (by simpa using ht)
 have h3:=r154 t (by omega)
 have hnl:=names_nodes t;have hsl:=srtN_len t.names;rw [e298_0_0];simp only [D8] at h1 h2;cases hq:mT t u [] with
 | none =>
  rcases h2 hq with ⟨X,e⟩ | e
  · rw [e]; rfl
  · rw [e]; rfl
 | some l =>
  have hls:=mT_all Small (fun t a h ha=>h.sub ha) t u [] l hu (by simp) hq
  have hln:=mT_len _ _ _ _ hq;simp only [D0] at hln;have h4:=r333 l (by omega) hls (srtN t.names) (by omega)
  simp only [h1 l hq,nv0,nvS,dvI,dvB,dvS,dvL,B5,D7,H1,H2,D2,h3,h4,K5,foI]
theorem holdI (l:List Bnd) (hl:l.length<=1048576) (hs:∀ b∈l,b.2.nodes<=60) (gs:List Gu) (hg:gs.length<=1048576) (h:∀ g∈gs,g.l.nodes<=60/\g.r.nodes<=60):rn ⟨291,0,0⟩ [.sl (l.map Bnd.row),.sl (gs.map Gu.row)]=some (0,[.bool (gs.all fun g=>holds (appG l g))]):=by
 have hss:∀ b∈l,Small b.2:=fun b hb=>small_of _ (by have:=hs b hb; omega)
 rw [e291_0_0];have hf:=all_loop (F:=fun i=>rn ⟨291,0,1⟩ [.sl (l.map Bnd.row),.sl (gs.map Gu.row),.int (gs.map Gu.row).length,.int (i:Int)]) (xs:=gs) (p:=fun g=>holds (appG l g)) (A:=some (0,[])) (B:=some (1,[])) (fun i hi=>?_) ?_
 · simp only [C3] at hf
   rw [hf];cases gs.all fun g=>holds (appG l g) <;> rfl
 · have hgi:=h _ (C0 hi)
   have a1:=r327 l hl hss gs[i] ⟨by omega,by omega⟩
   have a2:=r326 (appG l gs[i]) (appG_ok60 hs hgi.1 hgi.2);rw [e291_0_1];simp only [B7,rowAt_map hi,gu_row,B6,inbN,hi,C1,H3,H1,nv0,nvS,dvI,dvB,dvS,dvL,B5,wrap_succ hi (by unfold maxLen; omega),a1,a2]
   cases holds (appG l gs[i]) <;> rfl
 · rw [e291_0_1]
   simp
theorem r315 (d:DfM) (hd:DfG d) (i:Nat) (hi:i<d.ru.length) (u:Tm) (hu:u.nodes<=60):rn ⟨315,0,0⟩ [.sl (d.so.map sRow),.sl (d.op.map OpM.row),.sl (d.ru.map RuM.row),.sl (d.st.map StM.row),.int (i:Int),.int u.k,.int u.n,.str u.s,.sl (u.as.map Tm.row)]=some (0,frR (fireR d.ru[i] u)):=by
 have hr:=hd.ru (C0 hi);have hln:=valid_nodes hr.lv;have hrn:=valid_nodes hr.rv;have h1:=mI1 d.ru[i].l u [] (small_of u (by omega)) (by simp) (by simp; omega)
 rw [e315_0_0];simp only [D8] at h1;simp only [B6,inbN,hi,H3,H1,B7,rowAt_map hi,RuM.row,nv0,nvS,dvI,dvB,dvS,dvL,B5,h1];unfold fireR;cases hq:mT d.ru[i].l u [] with
 | none=>rfl
 | some l =>
  have hls:=mT_all (fun t=>t.nodes<=60) (fun t a h ha=>nodes_sub t a h ha) _ u [] l hu (by simp) hq
  have hln2:=mT_len _ _ _ _ hq;simp only [D0] at hln2;have hss:∀ b∈l,Small b.2:=fun b hb=>small_of _ (by have:=hls b hb; omega)
  have h2:=holdI l (by omega) hls d.ru[i].g hr.b.g (fun g hg=>⟨valid_nodes (hr.gl g hg).1,valid_nodes (hr.gl g hg).2⟩)
  have h3:=r198 l (by omega) hss d.ru[i].r (small_of _ (by omega))
  have h4:=r197 (aS l d.ru[i].r) (aS_small hss _ (small_of _ (by omega)))
  simp only [foI,nv0,nvS,dvI,dvB,dvS,dvL,B5,D2,H2,h2,h3,h4];cases d.ru[i].g.all fun g=>holds (appG l g) <;> rfl
theorem r264 {ops:List OpM} (r:RuM) (hr:RuG ops r) (u:Tm) (hu:u.nodes<=60):rn ⟨264,0,0⟩ [.str r.n,.int (r.l).k,.int (r.l).n,.str (r.l).s,.sl ((r.l).as.map Tm.row),.int (r.r).k,.int (r.r).n,.str (r.r).s,.sl ((r.r).as.map Tm.row),.sl (r.g.map Gu.row),.int u.k,.int u.n,.str u.s,.sl (u.as.map Tm.row)]=some (0,[.bool (fireR r u).isSome,.sl ((fiL r u).map Bnd.row)]):=by
 have hln:=valid_nodes hr.lv;have hrn:=valid_nodes hr.rv;have hgl:=hr.b.g;have h1:=r298 r.l u (by omega) (small_of u (by omega))
 have hL:(∀ b∈fiL r u,b.2.nodes<=60)/\(fiL r u).length<=1048576:=by
  unfold fiL;cases hq:mT r.l u [] with
  | none=>exact ⟨by simp,by simp⟩
  | some l =>
   have hls:=mT_all (fun t=>t.nodes<=60) (fun t a h ha=>nodes_sub t a h ha) _ u [] l hu (by simp) hq
   have h1:=srtN_len r.l.names;have h2:=srtN_len (srtN r.l.names);have h3:=names_nodes r.l;have h4:=rsB_len l (srtN (srtN r.l.names));exact ⟨fun b hb=>rsB_mem (P:=fun t=>t.nodes<=60) hls _ b hb,by show (rsB l _).length<=_; omega⟩
 have hss:∀ b∈fiL r u,Small b.2:=fun b hb=>small_of _ (by have:=hL.1 b hb; omega)
 have e:rn ⟨298,0,0⟩ [.int (r.l).k,.int (r.l).n,.str (r.l).s,.sl ((r.l).as.map Tm.row),.int u.k,.int u.n,.str u.s,.sl (u.as.map Tm.row)]=some (0,[.bool (mT r.l u []).isSome,.sl ((fiL r u).map Bnd.row)]):=by
  rw [h1]; unfold fiL;cases mT r.l u [] <;> rfl
 have key:∀ n i (b:Bool),i+n=r.g.length->rn ⟨264,0,1⟩ [.bool b,.int (i:Int),.str r.n,.int (r.l).k,.int (r.l).n,.str (r.l).s,.sl ((r.l).as.map Tm.row),.int (r.r).k,.int (r.r).n,.str (r.r).s,.sl ((r.r).as.map Tm.row),.sl (r.g.map Gu.row),.sl ((fiL r u).map Bnd.row)]=some (0,[.bool (b&&(r.g.drop i).all fun g=>holds (appG (fiL r u) g)),.sl ((fiL r u).map Bnd.row)]):=by
  intro n;induction n with
  | zero =>
   intro i b hi;obtain rfl:i=r.g.length:=by omega
   rw [e264_0_1];simp only [B6,C1,D6,H4,H2,C7,K6,G8]
  | succ n ih =>
   intro i b hi;have hlt:i<r.g.length:=by omega
   have hgi:=hr.gl _ (C0 hlt);have g1:=valid_nodes hgi.1;have g2:=valid_nodes hgi.2;have a1:=r284 (fiL r u) hL.2 hss r.g[i] ⟨by omega,by omega⟩
   have a2:=r283 (appG (fiL r u) r.g[i]) (appG_ok60 hL.1 g1 g2);rw [e264_0_1,C2 hlt];cases b with
   | false=>simp [hlt]
   | true =>
    simp only [B6,C1,hlt,H3,H1,inbN,B7,rowAt_map hlt,wrap_succ hlt (maxB (by omega)),gu_row,nv0,nvS,dvI,dvB,dvS,dvL,B5,a1,a2,ih (i+1) _ (by omega),J1,E8]
 have h2:=fun b=>key r.g.length 0 b (by omega)
 simp only [D3,C3] at h2;rw [e264_0_0];simp only [e,nv0,nvS,dvI,dvB,dvS,dvL,B5,D7,H1,H2,h2];rw [fireR_eq];cases ((mT r.l u []).isSome&&r.g.all fun g=>holds (appG (fiL r u) g)) <;> rfl
theorem r256 (d:DfM) (hd:DfG d) (u:Tm) (hu:u.nodes<=60):rn ⟨256,0,0⟩ [.sl (d.so.map sRow),.sl (d.op.map OpM.row),.sl (d.ru.map RuM.row),.sl (d.st.map StM.row),.int u.k,.int u.n,.str u.s,.sl (u.as.map Tm.row)]=some (0,[.int (optZ (rootF d.ru u))]):=by
 have hrl:=hd.b.ru;have key:∀ n i,i+n=d.ru.length->rn ⟨256,0,1⟩ [.int (d.ru.length:Int),.int (i:Int),.sl (d.so.map sRow),.sl (d.op.map OpM.row),.sl (d.ru.map RuM.row),.sl (d.st.map StM.row),.int u.k,.int u.n,.str u.s,.sl (u.as.map Tm.row)]=match (d.ru.drop i).findIdx? (fun r=>(fireR r u).isSome) with
  | some j=>some (1,[.int ((i+j:Nat):Int)])
  | none=>some (0,[]):=by
  intro n;induction n with
  | zero =>
   intro i hi;obtain rfl:i=d.ru.length:=by omega
   rw [e256_0_1];simp only [B6,C1,D6,H4,H2,C7,U6]
  | succ n ih =>
   intro i hi;have hlt:i<d.ru.length:=by omega
   have h1:=r315 d hd i hlt u hu;have h2:=ih (i+1) (by omega)
   rw [e256_0_1,C2 hlt,List.findIdx?_cons];simp only [C1,hlt,H3,H1,h1,wrap_succ hlt (maxB (by omega)),h2]
   cases fireR d.ru[i] u with
   | some w=>rfl
   | none =>
    simp only [frR,nv0,nvS,dvI,dvB,dvS,dvL,B5,H2,Option.isSome_none,N4,if_false];cases (d.ru.drop (i+1)).findIdx? (fun r=>(fireR r u).isSome) with
    | none=>rfl
    | some j=>simp only [K5,show i+(j+1)=i+1+j by omega]
 have h:=key d.ru.length 0 (by omega)
 simp only [D3,C3,D9] at h;rw [e256_0_0];simp only [B6,h];unfold rootF;cases d.ru.findIdx? (fun r=>(fireR r u).isSome) <;> rfl
theorem r182 (d:DfM) (hd:DfG d) (u:Tm) (hu:u.nodes<=60):rn ⟨182,0,0⟩ [.sl (d.so.map sRow),.sl (d.op.map OpM.row),.sl (d.ru.map RuM.row),.sl (d.st.map StM.row),.int u.k,.int u.n,.str u.s,.sl (u.as.map Tm.row)]=some (0,[.int (optZ (rootF d.ru u))]):=by
 have hrl:=hd.b.ru;have key:∀ n i,i+n=d.ru.length->rn ⟨182,0,1⟩ [.int (i:Int),.sl (d.so.map sRow),.sl (d.op.map OpM.row),.sl (d.ru.map RuM.row),.sl (d.st.map StM.row),.int u.k,.int u.n,.str u.s,.sl (u.as.map Tm.row)]=match (d.ru.drop i).findIdx? (fun r=>(fireR r u).isSome) with
  | some j=>some (1,[.int ((i+j:Nat):Int)])
  | none=>some (0,[]):=by
  intro n;induction n with
  | zero =>
   intro i hi;obtain rfl:i=d.ru.length:=by omega
   rw [e182_0_1];simp only [B6,C1,D6,H4,H2,C7,U6]
  | succ n ih =>
   intro i hi;have hlt:i<d.ru.length:=by omega
   have h1:=r264 d.ru[i] (hd.ru (C0 hlt)) u hu;have h2:=ih (i+1) (by omega)
   rw [e182_0_1,C2 hlt,List.findIdx?_cons];simp only [B6,C1,hlt,H3,H1,inbN,B7,rowAt_map hlt,wrap_succ hlt (maxB (by omega)),RuM.row,nv0,nvS,dvI,dvB,dvS,dvL,B5,h1,h2]
   cases fireR d.ru[i] u with
   | some w=>rfl
   | none =>
    simp only [H2,Option.isSome_none,N4,if_false];cases (d.ru.drop (i+1)).findIdx? (fun r=>(fireR r u).isSome) with
    | none=>rfl
    | some j=>simp only [K5,show i+(j+1)=i+1+j by omega]
 have h:=key d.ru.length 0 (by omega)
 simp only [D3,C3,D9] at h;rw [e182_0_0];simp only [h];unfold rootF;cases d.ru.findIdx? (fun r=>(fireR r u).isSome) <;> rfl
end Go.Q.S
end
section
namespace Go.Q.S
open Go Go.Q Go.Proofs
theorem r170 (d:DfM) (hd:DfG d):∀ t:Tm,Gt d.op t->t.nodes<=60->∀ acc:List Int,acc.length+t.nodes<=1048576->rn ⟨170,0,0⟩ [.sl (d.so.map sRow),.sl (d.op.map OpM.row),.sl (d.ru.map RuM.row),.sl (d.st.map StM.row),.int t.k,.int t.n,.str t.s,.sl (t.as.map Tm.row),.sl (acc.map iRow)]=some (0,nrR (nx d t) acc):=Tm.ind fun t ih ht hn acc hac=>by
 have hnd:=Tm.nodes_eq t;have hls:=len_sum (xs:=t.as);have hst:=hd.b.st;have hql:=stL_len d.st t;have hlp:∀ n i,i+n=(stL d.st t).length->rn ⟨170,0,1⟩ [.int ((stL d.st t).length:Int),.int (i:Int),.sl (acc.map iRow),.sl (d.so.map sRow),.sl (d.op.map OpM.row),.sl (d.ru.map RuM.row),.sl (d.st.map StM.row),.int t.k,.int t.n,.str t.s,.sl (t.as.map Tm.row),.int 0,.sl ((stL d.st t).map iRow),.sl []]=match pickF ((stL d.st t).drop i) (t.as.map (nx d)) with
  | some x=>some (1,[.int (x.1:Int),.sl ((acc++x.2).map iRow)])
  | none=>some (0,[.sl (acc.map iRow),.sl (d.so.map sRow),.sl (d.op.map OpM.row),.sl (d.ru.map RuM.row),.sl (d.st.map StM.row),.int t.k,.int t.n,.str t.s,.sl (t.as.map Tm.row),.int 0,.sl []]):=by
  have hq:∀ j∈stL d.st t,0<=j/\j.toNat<t.as.length:=fun j hj=>stL_lt hd ht hj
  generalize stL d.st t=q at hql hq ⊢;intro n;induction n with
  | zero =>
   intro i hi;obtain rfl:i=q.length:=by omega
   rw [e170_0_1];simp only [B6,C1,D6,H4,H2,C7,pick_nil]
  | succ n ih2 =>
   intro i hi;have hlt:i<q.length:=by omega
   obtain ⟨h0,hm⟩:=hq _ (C0 hlt);rw [C2 hlt];rw [e170_0_1];generalize hj:q[i]=j at h0 hm ⊢;obtain ⟨m,rfl⟩:∃ m:Nat,j=(m:Int):=⟨j.toNat,by omega⟩
   rw [B7] at hm;have hmm:=C0 hm;have hms:=mem_sum (f:=Tm.nodes) hmm;have h1:=ih _ hmm (ht.sub hmm) (by omega) (acc++[(m:Int)]) (by simp; omega)
   have h2:=rCloneI (acc.map iRow) (by rw [B6]; omega)
   have hb2:F6 (acc.length+1) M63=true:=nb (by omega)
   simp only [E1,C6,D8,iRow] at h1;rw [pick_cons hm];simp only [B6,C1,hlt,H3,H1,inbN,B7,rowAt_map hlt,wrap_succ hlt (maxB (by omega)),hj,hm,rowAt_map hm,Tm.row_eq,iRow,nv0,nvS,dvI,dvB,dvS,dvL,B5,C5,D0,D9,hb2]
   simp only [h2,nv0,nvS,dvI,dvB,dvS,dvL,B5,B6,hb2,H1,h1];have h3:=ih2 (i+1) (by omega)
   cases nx d t.as[m] with
   | some x=>simp only [nrR,nv0,nvS,dvI,dvB,dvS,dvL,B5,H1,E2,D4,C8]
   | none=>simp only [nrR,nv0,nvS,dvI,dvB,dvS,dvL,B5,H2,h3]
 have h0:=hlp (stL d.st t).length 0 (by omega)
 simp only [D3,C3] at h0;have h1:=r254 d hd.b t;have h2:=r256 d hd t hn;rw [e170_0_0,nx_eq,h1];simp only [nv0,nvS,dvI,dvB,dvS,dvL,B5,B6,h0];cases pickF (stL d.st t) (t.as.map (nx d)) with
 | some x=>rfl
 | none =>
  simp only [nv0,nvS,dvI,dvB,dvS,dvL,B5,D7,H1,H2,h2];cases rootF d.ru t with
  | none=>rfl
  | some i =>
   have q:¬((i:Int)<0):=by omega
   simp only [optZ,q,H4,H2,K5,nrR,F5]
theorem r104 (d:DfM) (hd:DfG d):∀ t:Tm,Gt d.op t->t.nodes<=60->rn ⟨104,0,0⟩ [.sl (d.so.map sRow),.sl (d.op.map OpM.row),.sl (d.ru.map RuM.row),.sl (d.st.map StM.row),.int t.k,.int t.n,.str t.s,.sl (t.as.map Tm.row)]=some (0,nrS (nx d t)):=Tm.ind fun t ih ht hn=>by
 have hnd:=Tm.nodes_eq t;have hls:=len_sum (xs:=t.as);have hst:=hd.b.st;have hql:=strA_len d.st t.s;have hlp:∀ n i,i+n=(strA d.st t.s).length->rn ⟨104,0,1⟩ [.int (i:Int),.sl (d.so.map sRow),.sl (d.op.map OpM.row),.sl (d.ru.map RuM.row),.sl (d.st.map StM.row),.int t.k,.int t.n,.str t.s,.sl (t.as.map Tm.row),.int 0,.sl ((strA d.st t.s).map iRow),.sl []]=match pickF (if t.k=2 then (strA d.st t.s).drop i else []) (t.as.map (nx d)) with
  | some x=>some (1,[.int (x.1:Int),.sl (x.2.map iRow)])
  | none=>some (0,[.sl (d.so.map sRow),.sl (d.op.map OpM.row),.sl (d.ru.map RuM.row),.sl (d.st.map StM.row),.int t.k,.int t.n,.str t.s,.sl (t.as.map Tm.row),.int 0,.sl []]):=by
  by_cases hk:t.k=2
  · have hq:∀ j∈strA d.st t.s,0<=j/\j.toNat<t.as.length:=fun j hj=>stL_lt hd ht (by unfold stL; rw [H5 hk]; exact hj)
    generalize strA d.st t.s=q at hql hq ⊢;intro n;simp only [H5 hk];induction n with
    | zero =>
     intro i hi;obtain rfl:i=q.length:=by omega
     rw [e104_0_1];simp only [B6,C1,D6,H4,H2,C7,pick_nil]
    | succ n ih2 =>
     intro i hi;have hlt:i<q.length:=by omega
     obtain ⟨h0,hm⟩:=hq _ (C0 hlt);rw [C2 hlt];rw [e104_0_1];generalize hj:q[i]=j at h0 hm ⊢;obtain ⟨m,rfl⟩:∃ m:Nat,j=(m:Int):=⟨j.toNat,by omega⟩
     rw [B7] at hm;have hmm:=C0 hm;have hms:=mem_sum (f:=Tm.nodes) hmm;have h1:=ih _ hmm (ht.sub hmm) (by omega)
     have q2:(m:Int)<=(t.as.length:Int)-1:=by omega
     have hw:IntKind.i64.wrap ((t.as.length:Int)-1)=(t.as.length:Int)-1:=IntWalk.i64_in _ (by omega)
     have h3:=ih2 (i+1) (by omega)
     rw [pick_cons hm,H7 hk];simp only [B6,C1,hlt,H3,H1,inbN,B7,rowAt_map hlt,wrap_succ hlt (maxB (by omega)),hj,hm,hw,h0,q2,rIn,G8,D2,H2,rowAt_map hm,Tm.row_eq,iRow,nv0,nvS,dvI,dvB,dvS,dvL,B5,h1]
     cases hx:nx d t.as[m] with
     | some x =>
      obtain ⟨u,_,_,hu,_⟩:=nx_spec d _ x.1 x.2 hx;have hun:=atT_nodes x.2 _ u hu;have hb2:F6 (0+1+x.2.length) M63=true:=nb (by omega)
      simp only [nrS,nv0,nvS,dvI,dvB,dvS,dvL,B5,H1,C5,D0,B6,hb2,D4,C8,C6,iRow]
     | none=>simp only [nrS,nv0,nvS,dvI,dvB,dvS,dvL,B5,H2,h3]
  · intro n i hi
    rw [H6 hk,pick_nil,e104_0_1,H8 hk];cases decide ((i:Int)<(((strA d.st t.s).map iRow).length:Int)) <;> rfl
 have h0:=hlp (strA d.st t.s).length 0 (by omega)
 simp only [D3,C3] at h0;have h1:=fun a b c=>r181 a b c d.st hd.b.st t.s
 have h2:=r182 d hd t hn;have hmx:∀ x:Option Nat,rn ⟨183,0,0⟩ [.int (optZ x),.int 0]=some (0,[.int ((x.getD 0:Nat):Int)]):=fun x=>by
  rw [e183_0_0];cases x with
  | none=>rfl
  | some i =>
   by_cases hi:(0:Int)<optZ (some i)
   · rw [H7 hi]; rfl
   · rw [H8 hi]
     simp only [optZ] at hi;obtain rfl:i=0:=by omega
     rfl
 rw [e104_0_0,nx_eq,h1];simp only [nv0,nvS,dvI,dvB,dvS,dvL,B5,h0];have e:(if t.k=2 then strA d.st t.s else [])=stL d.st t:=rfl
 rw [e];cases pickF (stL d.st t) (t.as.map (nx d)) with
 | some x=>rfl
 | none =>
  simp only [nv0,nvS,dvI,dvB,dvS,dvL,B5,D7,H1,H2,h2,hmx];cases rootF d.ru t with
  | none=>rfl
  | some i =>
   have q:(0:Int)<=(i:Int):=by omega
   simp only [optZ,q,H3,K5,nrS,P1,D8]
theorem r330 (d:DfM) (hd:DfG d) (t:Tm) (ht:Gt d.op t) (hn:t.nodes<=60) (i:Nat) (p:List Int) (hx:nx d t=some (i,p)):rn ⟨330,0,0⟩ [.sl (d.so.map sRow),.sl (d.op.map OpM.row),.sl (d.ru.map RuM.row),.sl (d.st.map StM.row),.int t.k,.int t.n,.str t.s,.sl (t.as.map Tm.row),.int (i:Int),.sl (p.map iRow)]=some (0,[.int (stepT d t i p).k,.int (stepT d t i p).n,.str (stepT d t i p).s,.sl ((stepT d t i p).as.map Tm.row),.bool (stepT d t i p).valid]):=by
 obtain ⟨u,r,w,h1,h2,h3,e,hu,hun,hw,hwn,hg,hgn,hp,hr⟩:=step_good hd ht hn hx;obtain ⟨hi,hri⟩:=E4.1 h2;have a1:=r260 t u p (by omega) h1
 have a2:=r315 d hd i hi u hun;rw [hri,h3] at a2;have a3:=r262 w p t u (by omega) (by omega) h1
 have a4:=r165 (stepT d t i p) (by omega) hg.w
 rw [<- e] at a3;rw [e330_0_0];simp only [a1,a2,frR,nv0,nvS,dvI,dvB,dvS,dvL,B5,a3,a4]
theorem r294 (d:DfM) (hd:DfG d) (t:Tm) (ht:Gt d.op t) (hn:t.nodes<=60) (i:Nat) (p:List Int) (hx:nx d t=some (i,p)):rn ⟨294,0,0⟩ [.sl (d.so.map sRow),.sl (d.op.map OpM.row),.sl (d.ru.map RuM.row),.sl (d.st.map StM.row),.int t.k,.int t.n,.str t.s,.sl (t.as.map Tm.row),.int (i:Int),.sl (p.map iRow)]=some (0,[.int (stepT d t i p).k,.int (stepT d t i p).n,.str (stepT d t i p).s,.bool (stepT d t i p).valid,.sl ((stepT d t i p).as.map Tm.row)]):=by
 obtain ⟨u,r,w,h1,h2,h3,e,hu,hun,hw,hwn,hg,hgn,hp,hr⟩:=step_good hd ht hn hx;obtain ⟨hi,hri⟩:=E4.1 h2;have hrn:=valid_nodes hr.rv;have hln:=valid_nodes hr.lv;have a1:=r270 t u (by omega) p (by omega) h1
 have a2:=r264 r hr u hun;have e3:=fireR_eq r u;rw [h3] at e3;split at e3
 · simp only [D5.injEq] at e3
   have hL:(∀ b∈fiL r u,b.2.nodes<=60)/\(fiL r u).length<=1048576:=by
    unfold fiL;cases hq:mT r.l u [] with
    | none=>exact ⟨by simp,by simp⟩
    | some l =>
     have hls:=mT_all (fun t=>t.nodes<=60) (fun t a h ha=>nodes_sub t a h ha) _ u [] l hun (by simp) hq
     have h1:=srtN_len r.l.names;have h2:=srtN_len (srtN r.l.names);have h3:=names_nodes r.l;have h4:=rsB_len l (srtN (srtN r.l.names));exact ⟨fun b hb=>rsB_mem (P:=fun t=>t.nodes<=60) hls _ b hb,by show (rsB l _).length<=_; omega⟩
   have hss:∀ b∈fiL r u,Small b.2:=fun b hb=>small_of _ (by have:=hL.1 b hb; omega)
   have a3:=r185 (fiL r u) hL.2 hss r.r (small_of _ (by omega))
   have a4:=r184 (aS (fiL r u) r.r) (aS_small hss _ (small_of _ (by omega)))
   rw [<- e3] at a4;have a5:=r271 w (by omega) p t u (by omega) (by omega) h1
   have a6:=r152 (stepT d t i p) (by omega) hg.w
   rw [<- e] at a5;rw [e294_0_0];subst hri;rw [h3] at a2;simp only [a1,B6,inbN,hi,H3,H1,B7,rowAt_map hi,RuM.row,nv0,nvS,dvI,dvB,dvS,dvL,B5,a2,a3,a4,a5,a6,P0]
 · simp at e3
theorem r329 (d:DfM) (hb:DfB d) (t:Tm) (hw:Wt t) (hn:t.nodes<=2097152):rn ⟨329,0,0⟩ [.sl (d.so.map sRow),.sl (d.op.map OpM.row),.sl (d.ru.map RuM.row),.sl (d.st.map StM.row),.int t.k,.int t.n,.str t.s,.sl (t.as.map Tm.row)]=some (0,[.bool (cfg d t)]):=by
 have h1:=r162 d hb;have h2:=r165 t (by omega) hw
 have h4:=r167 (d.so.map sRow) d.op hb.op [] (by simp) t hw
 simp only [D8] at h4;rw [e329_0_0,e348_0_0];simp only [h1,h2,nv0,nvS,dvI,dvB,dvS,dvL,B5];unfold cfg;cases d.valid <;> try rfl
 cases hv:t.valid with
 | false=>rfl
 | true =>
  have h3:=r347 t (by have:=valid_nodes hv; omega)
  simp only [h3,h4,nv0,nvS,dvI,dvB,dvS,dvL,B5,H1,E8];cases isG t <;> rfl
end Go.Q.S
end
section
namespace Go.Q.S
open Go Go.Q Go.Proofs
theorem runIL (d:DfM) (hd:DfG d):∀ (n:Nat) (t:Tm) (S:List Tm) (R:List (Nat × List Int)) (f:Nat),Gt d.op t->t.nodes<=60->R.length+n=f->f<=200->S.length<=R.length+1->rn ⟨295,0,1⟩ [.int (f:Int),.sl (d.so.map sRow),.sl (d.op.map OpM.row),.sl (d.ru.map RuM.row),.sl (d.st.map StM.row),.int 0,.int 0,.int 0,.str e0,.int 0,.int t.k,.int t.n,.str t.s,.sl (S.map Tm.row),.sl (R.map rdRow),.sl [],.sl (t.as.map Tm.row)]=some (0,[.int (runF d n t).o,.int (runF d n t).t.k,.int (runF d n t).t.n,.str (runF d n t).t.s,.int ((R.length+(runF d n t).rd.length:Nat):Int),.sl ((S++(runF d n t).st).map Tm.row),.sl ((R++(runF d n t).rd).map rdRow),.sl ((runF d n t).t.as.map Tm.row)]):=by
 intro n;induction n with
 | zero =>
  intro t S R f ht hn hR hf hS;have h1:=r170 d hd t ht hn [] (by simp; omega)
  have h2:=r259 t (small_of t (by omega))
  simp only [D8] at h1;have e1:((R.length:Int)=(f:Int)):=by omega
  rw [e295_0_1];cases hx:nx d t with
  | none =>
   rw [hx] at h1;simp only [h1,nrR,nv0,nvS,dvI,dvB,dvS,dvL,B5,J7,H1,show decide ((1:Int)=0)=false from rfl,h2,B6,runF_none hx,F5,D0,N2]
  | some x =>
   rw [hx] at h1;simp only [h1,nrR,nv0,nvS,dvI,dvB,dvS,dvL,B5,D2,J7,H1,H2,show decide ((2:Int)=0)=false from rfl,h2,B6,e1,H3,runF_zero hx,F5,D0,N2]
 | succ n ih =>
  intro t S R f ht hn hR hf hS;have h1:=r170 d hd t ht hn [] (by simp; omega)
  have h2:=r259 t (small_of t (by omega))
  simp only [D8] at h1;have e1:¬((R.length:Int)=(f:Int)):=by omega
  rw [e295_0_1];cases hx:nx d t with
  | none =>
   rw [hx] at h1;simp only [h1,nrR,nv0,nvS,dvI,dvB,dvS,dvL,B5,J7,H1,show decide ((1:Int)=0)=false from rfl,h2,B6,runF_none hx,F5,D0,N2]
  | some x =>
   rw [hx] at h1;have h3:=r330 d hd t ht hn x.1 x.2 hx;obtain ⟨_,_,_,_,_,_,_,_,_,_,_,hg,hgn,_⟩:=step_good hd ht hn hx;cases hv:(stepT d t x.1 x.2).valid with
   | false =>
    rw [hv] at h3;simp only [h1,nrR,C8,h3,nv0,nvS,dvI,dvB,dvS,dvL,B5,D2,J7,H1,H2,show decide ((3:Int)=0)=false from rfl,h2,B6,e1,H4,runF_bad hx hv,F5,D0,N2]
   | true =>
    rw [hv] at h3;have h4:=r259 (stepT d t x.1 x.2) (small_of _ (by omega))
    have h5:=ih (stepT d t x.1 x.2) (S++[stepT d t x.1 x.2]) (R++[x]) f hg (valid_nodes hv) (by simp; omega) hf (by simp; omega)
    simp only [E1,C6,D8,Tm.row_eq,rdRow,E5,C5,D0,D9] at h5;have ea:R.length+1+(runF d n (stepT d t x.1 x.2)).rd.length=R.length+((runF d n (stepT d t x.1 x.2)).rd.length+1):=by omega
    have b1:F6 (S.length+1) M63=true:=nb (by omega)
    have b2:F6 (R.length+1) M63=true:=nb (by omega)
    simp only [h1,nrR,C8,h3,nv0,nvS,dvI,dvB,dvS,dvL,B5,D2,J7,H1,H2,H3,h4,B6,e1,H4,C5,D0,D9,b1,b2,h5,runF_ok hx hv,E5];simp only [E1,C6,D8,Tm.row_eq,rdRow,E2,D4,C8,C5,ea]
theorem r295 (d:DfM) (hb:DfB d) (t:Tm) (hw:Wt t) (hn:t.nodes<=2097152) (f:Int):rn ⟨295,0,0⟩ [.sl (d.so.map sRow),.sl (d.op.map OpM.row),.sl (d.ru.map RuM.row),.sl (d.st.map StM.row),.int t.k,.int t.n,.str t.s,.sl (t.as.map Tm.row),.int f]=some (0,runD (runT d t f) t):=by
 have h1:=r329 d hb t hw hn;rw [e295_0_0];unfold runT;by_cases f1:0<=f
 · by_cases f2:f<=200
   · have q1:¬ f<0:=by omega
     have q2:¬ 200<f:=by omega
     simp only [q1,q2,H4,H2,h1,nv0,nvS,dvI,dvB,dvS,dvL,B5];cases hc:cfg d t with
     | false=>simp [runD]
     | true =>
      obtain ⟨hd,ht,hn60⟩:=cfg_of hb hw hc;have h2:=r259 t (small_of t (by omega))
      have h3:=runIL d hd f.toNat t [t] [] f.toNat ht hn60 (by simp) (by omega) (by simp)
      have ef:((f.toNat:Nat):Int)=f:=by omega
      simp only [ef,C6,D8,Tm.row_eq,D0,D9,C8] at h3;rw [H5 ⟨f1,f2,rfl⟩];simp only [D2,H2,h2,nv0,nvS,dvI,dvB,dvS,dvL,B5,h3,D7,H1,H2,runD,D4,C8,C6,Tm.row_eq]
   · have q1:¬ f<0:=by omega
     have q2:200<f:=by omega
     rw [H6 (by omega)]
     simp only [q1,q2,H3,H4,H1,H2,runD]
 · have q1:f<0:=by omega
   rw [H6 (by omega)]
   simp only [q1,H3,H1,runD]
theorem runSL (d:DfM) (hd:DfG d):∀ (n:Nat) (t:Tm) (S:List Tm) (R:List (Nat × List Int)) (f:Nat),Gt d.op t->t.nodes<=60->R.length+n=f->f<=200->S.length<=R.length->rn ⟨216,0,1⟩ [.int (f:Int),.sl (d.so.map sRow),.sl (d.op.map OpM.row),.sl (d.ru.map RuM.row),.sl (d.st.map StM.row),.int 1,.int t.k,.int t.n,.str t.s,.int (R.length:Int),.sl (t.as.map Tm.row),.sl (R.map rdRow),.sl (S.map Tm.row)]=some (0,[.int (runF d n t).o,.int (runF d n t).t.k,.int (runF d n t).t.n,.str (runF d n t).t.s,.int ((R.length+(runF d n t).rd.length:Nat):Int),.sl ((runF d n t).t.as.map Tm.row),.sl ((R++(runF d n t).rd).map rdRow),.sl ((S++t::(runF d n t).st).map Tm.row)]):=by
 intro n;induction n with
 | zero =>
  intro t S R f ht hn hR hf hS;have h1:=r104 d hd t ht hn;have e1:((R.length:Int)=(f:Int)):=by omega
  have b1:F6 (S.length+1) M63=true:=nb (by omega)
  have hi:inb (S.length:Int) (S.length+1)=true:=by simp [inb]; omega
  have ho:=over_last' (S.map Tm.row) t.k t.n 0 0 t.s ⟨#[]⟩ (t.as.map Tm.row) [];rw [B6] at ho;rw [e216_0_1];cases hx:nx d t with
  | none =>
   rw [hx] at h1;simp only [h1,nrS,nv0,nvS,dvI,dvB,dvS,dvL,B5,J7,H1,B6,E5,C5,D0,D9,b1,hi,B7,ho,runF_none hx,F5,N2,E1,C6,D8,Tm.row_eq]
  | some x =>
   rw [hx] at h1;simp only [h1,nrS,nv0,nvS,dvI,dvB,dvS,dvL,B5,D2,H1,H2,B6,E5,C5,D0,D9,b1,hi,B7,ho,e1,H3,runF_zero hx,F5,N2,E1,C6,D8,Tm.row_eq]
 | succ n ih =>
  intro t S R f ht hn hR hf hS;have h1:=r104 d hd t ht hn;have e1:¬((R.length:Int)=(f:Int)):=by omega
  have b1:F6 (S.length+1) M63=true:=nb (by omega)
  have b2:F6 (R.length+1) M63=true:=nb (by omega)
  have hi:inb (S.length:Int) (S.length+1)=true:=by simp [inb]; omega
  have ho:=over_last' (S.map Tm.row) t.k t.n 0 0 t.s ⟨#[]⟩ (t.as.map Tm.row) [];have hw:IntKind.i64.wrap ((R.length:Int)+1)=((R.length+1:Nat):Int):=IntWalk.i64_in _ (by omega)
  rw [B6] at ho;rw [e216_0_1];cases hx:nx d t with
  | none =>
   rw [hx] at h1;simp only [h1,nrS,nv0,nvS,dvI,dvB,dvS,dvL,B5,J7,H1,B6,E5,C5,D0,D9,b1,hi,B7,ho,runF_none hx,F5,N2,E1,C6,D8,Tm.row_eq]
  | some x =>
   rw [hx] at h1;have h3:=r294 d hd t ht hn x.1 x.2 hx;obtain ⟨_,_,_,_,_,_,_,_,_,_,_,hg,hgn,_⟩:=step_good hd ht hn hx;cases hv:(stepT d t x.1 x.2).valid with
   | false =>
    rw [hv] at h3;simp only [h1,nrS,h3,nv0,nvS,dvI,dvB,dvS,dvL,B5,D2,J7,H1,H2,B6,E5,C5,D0,D9,b1,hi,B7,ho,e1,H4,runF_bad hx hv,F5,N2,E1,C6,D8,Tm.row_eq]
   | true =>
    rw [hv] at h3;have h5:=ih (stepT d t x.1 x.2) (S++[t]) (R++[x]) f hg (valid_nodes hv) (by simp; omega) hf (by simp; omega)
    simp only [E1,C6,D8,Tm.row_eq,rdRow,E5,C5,D0,D9] at h5;have ea:R.length+1+(runF d n (stepT d t x.1 x.2)).rd.length=R.length+((runF d n (stepT d t x.1 x.2)).rd.length+1):=by omega
    simp only [h1,nrS,h3,nv0,nvS,dvI,dvB,dvS,dvL,B5,D2,H1,H2,B6,E5,C5,D0,D9,b1,b2,hi,hw,B7,ho,e1,H4,h5,runF_ok hx hv];simp only [E1,C6,D8,Tm.row_eq,rdRow,E2,D4,C8,C5,ea]
theorem r216 (d:DfM) (hb:DfB d) (t:Tm) (hw:Wt t) (f:Int) (f1:0<=f) (f2:f<=200) (hc:cfg d t=true):rn ⟨216,0,0⟩ [.sl (d.so.map sRow),.sl (d.op.map OpM.row),.sl (d.ru.map RuM.row),.sl (d.st.map StM.row),.int t.k,.int t.n,.str t.s,.sl (t.as.map Tm.row),.int f]=some (0,allD (runF d f.toNat t) t):=by
 obtain ⟨hd,ht,hn60⟩:=cfg_of hb hw hc;have h2:=r188 t (small_of t (by omega))
 have h3:=runSL d hd f.toNat t [] [] f.toNat ht hn60 (by simp) (by omega) (by simp)
 have ef:((f.toNat:Nat):Int)=f:=by omega
 simp only [ef,D8,D0,D9,C8,C3] at h3;rw [e216_0_0];simp only [h2,nv0,nvS,dvI,dvB,dvS,dvL,B5,h3,D7,H1,H2,allD]
end Go.Q.S
end
section
namespace Go.Q.S
open Go Go.Q Go.Proofs
theorem r219 (d:DfM) (hb:DfB d) (t:Tm) (hw:Wt t) (hn:t.nodes<=2097152) (f:Int):rn ⟨219,0,0⟩ [.sl (d.so.map sRow),.sl (d.op.map OpM.row),.sl (d.ru.map RuM.row),.sl (d.st.map StM.row),.int t.k,.int t.n,.str t.s,.sl (t.as.map Tm.row),.int f]=some (0,rtD (runT d t f)):=by
 have h1:=r295 d hb t hw hn f;rw [e219_0_0,h1];cases runT d t f <;> rfl
theorem r220 (d:DfM) (hb:DfB d) (t:Tm) (hw:Wt t) (hn:t.nodes<=2097152) (g:Tm) (f:Int):rn ⟨220,0,0⟩ [.sl (d.so.map sRow),.sl (d.op.map OpM.row),.sl (d.ru.map RuM.row),.sl (d.st.map StM.row),.int t.k,.int t.n,.str t.s,.sl (t.as.map Tm.row),.int g.k,.int g.n,.str g.s,.sl (g.as.map Tm.row),.int f]=some (0,[.bool (reachR (runT d t f) t g)]):=by
 have h1:=r295 d hb t hw hn f;have key:∀ l:List Tm,l.length<=1048576->(∀ x∈l,Small x)->rn ⟨296,0,0⟩ [.sl (l.map Tm.row),.int g.k,.int g.n,.str g.s,.sl (g.as.map Tm.row)]=some (0,[.bool (l.any fun x=>eqb x.row g.row),.int g.k,.int g.n,.str g.s,.sl (g.as.map Tm.row)]):=by
  intro l hl hs;have hlp:∀ n i,i+n=l.length->(((l.drop i).any fun x=>eqb x.row g.row)=false/\rn ⟨331,0,1⟩ [.sl (l.map Tm.row),.int (l.length:Int),.int (i:Int),.int g.k,.int g.n,.str g.s,.sl (g.as.map Tm.row)]=some (0,[.int g.k,.int g.n,.str g.s,.sl (g.as.map Tm.row)]))\/(((l.drop i).any fun x=>eqb x.row g.row)=true/\∃ j:Nat,rn ⟨331,0,1⟩ [.sl (l.map Tm.row),.int (l.length:Int),.int (i:Int),.int g.k,.int g.n,.str g.s,.sl (g.as.map Tm.row)]=some (1,[.int (j:Int),.int g.k,.int g.n,.str g.s,.sl (g.as.map Tm.row)])):=by
   intro n;induction n with
   | zero =>
    intro i hi;obtain rfl:i=l.length:=by omega
    rw [e331_0_1];simp only [B6,C1,D6,H4,H2,C7];exact .inl ⟨rfl,trivial⟩
   | succ n ih =>
    intro i hi;have hlt:i<l.length:=by omega
    have he:=r289 l[i] g (hs _ (C0 hlt));rw [e331_0_1,C2 hlt];simp only [T1];generalize eqb l[i].row g.row=b at he ⊢;have:=ih (i+1) (by omega)
    generalize ((l.drop (i+1)).any fun x=>eqb x.row g.row)=A at this ⊢
    simp only [B6,C1,hlt,H3,H1,inbN,B7,rowAt_map hlt,wrap_succ hlt (maxB (by omega)),Tm.row_eq,nv0,nvS,dvI,dvB,dvS,dvL,B5,e297_0_0,he]
    cases b with
    | true=>exact .inr ⟨rfl,i,by simp⟩
    | false=>simpa using this
  have h:=hlp l.length 0 (by omega)
  simp only [D3,C3] at h;rw [e296_0_0,e331_0_0];simp only [B6];rcases h with ⟨q1,q2⟩|⟨q1,j,q2⟩
  · rw [q2,q1]; rfl
  · rw [q2,q1]
    have:(0:Int)<=(j:Int):=by omega
    simp only [nv0,nvS,dvI,dvB,dvS,dvL,B5,D7,H1,H2,show E6 1 0=false from rfl,this,H3]
 rw [e220_0_0,h1];cases hr:runT d t f with
 | none =>
  have h2:=key [] (by simp) (by simp)
  simp only [D8] at h2;simp only [runD,nv0,nvS,dvI,dvB,dvS,dvL,B5,h2,reachR,List.any_nil]
 | some r =>
  obtain ⟨gd,hn60⟩:=runT_good hb hw hr;have h2:=key (t::r.st) (by have:=gd.sl; simp; omega) (fun x hx=>by
   rcases E3.1 hx with e | hx
   · subst e; exact small_of _ (by omega)
   · exact small_of _ (by have:=(gd.s x hx).2; omega))
  simp only [runD,nv0,nvS,dvI,dvB,dvS,dvL,B5,h2,reachR]
end Go.Q.S
end
section
namespace Go.Q.S
open Go Go.Q Go.Proofs
theorem r120 (vars:List ByteArray) (t:Tm) (h:Small t) (cs:Rows) (c:Int):rn ⟨120,0,0⟩ [.sl (vars.map sRow),.int t.k,.int t.n,.str t.s,.sl (t.as.map Tm.row),.sl cs,.int c]=some (0,[.int (S.instR vars t c).k,.int (S.instR vars t c).n,.str (S.instR vars t c).s,.bool (isC vars.length c),.sl ((S.instR vars t c).as.map Tm.row)]):=by
 have e1:=r169 vars.length c;have e2:=r199 vars c;have e3:=r198 (caseS vars c) (caseS_len vars c) (caseS_small vars c) t h;have e4:=r197 _ (aS_small (caseS_small vars c) t h);rw [e120_0_0];simp only [B6,e1,nv0,nvS,dvI,dvB,dvS,dvL,B5];unfold S.instR;cases hc:isC vars.length c with
 | false=>rfl
 | true=>simp only [D2,H2,e2,e3,e4,nv0,nvS,dvI,dvB,dvS,dvL,B5,if_true]; rfl
theorem r118 (vars:List ByteArray) (t:Tm) (h:Small t) (cs:Rows) (c:Int):rn ⟨118,0,0⟩ [.sl (vars.map sRow),.int t.k,.int t.n,.str t.s,.sl (t.as.map Tm.row),.sl cs,.int c]=some (0,[.int (S.instR vars t c).k,.int (S.instR vars t c).n,.str (S.instR vars t c).s,.bool (isC vars.length c),.sl ((S.instR vars t c).as.map Tm.row)]):=by
 have e1:=r155 vars.length;have e2:=r105 vars t h c;rw [e118_0_0];simp only [B6,e1,nv0,nvS,dvI,dvB,dvS,dvL,B5,rIn,wcnt];unfold S.instR;cases hc:isC vars.length c with
 | false=>rfl
 | true=>simp only [D2,H2,e2,nv0,nvS,dvI,dvB,dvS,dvL,B5,if_true]
theorem r221 (vars:List ByteArray) (l t:Tm) (h:Small t) (gs:Rows) (c:Int):rn ⟨221,0,0⟩ [.sl (vars.map sRow),.int l.k,.int l.n,.str l.s,.sl (l.as.map Tm.row),.int t.k,.int t.n,.str t.s,.sl (t.as.map Tm.row),.sl gs,.int c]=some (0,[.int (S.instR vars t c).k,.int (S.instR vars t c).n,.str (S.instR vars t c).s,.sl ((S.instR vars t c).as.map Tm.row)]):=by
 have e1:=r120 vars t h [] c;rw [e221_0_0];simp only [e1,nv0,nvS,dvI,dvB,dvS,dvL,B5]
theorem r136 (vars:List ByteArray) (l t:Tm) (h:Small t) (gs:Rows) (c:Int):rn ⟨136,0,0⟩ [.sl (vars.map sRow),.int l.k,.int l.n,.str l.s,.sl (l.as.map Tm.row),.int t.k,.int t.n,.str t.s,.sl (t.as.map Tm.row),.sl gs,.int c]=some (0,[.int (S.instR vars t c).k,.int (S.instR vars t c).n,.str (S.instR vars t c).s,.sl ((S.instR vars t c).as.map Tm.row)]):=by
 have e1:=r118 vars t h [] c;rw [e136_0_0];simp only [e1,nv0,nvS,dvI,dvB,dvS,dvL,B5]
theorem r138 (c:ClM) (hb:ClB c) (i:Int):rn ⟨138,0,0⟩ [.sl (c.d.so.map sRow),.sl (c.d.op.map OpM.row),.sl (c.d.ru.map RuM.row),.sl (c.d.st.map StM.row),.sl (c.v.map sRow),.int (c.l).k,.int (c.l).n,.str (c.l).s,.sl ((c.l).as.map Tm.row),.int (c.r).k,.int (c.r).n,.str (c.r).s,.sl ((c.r).as.map Tm.row),.sl (c.g.map Gu.row),.int i]=some (0,[.bool (refB c.d (S.instR c.v c.l i) (S.instR c.v c.r i))]):=by
 have hls:=small_of _ hb.ln;have hrs:=small_of _ hb.rn;have hnl:=S.instR_nodes (vars:=c.v) (t:=c.l) i;have hln:=hb.ln;have hw:=wt_instR (vars:=c.v) hb.wl i;have h1:=r120 c.v c.l hls [] i;have h2:=r219 c.d hb.d _ hw (by omega) 200
 have h3:=r221 c.v c.l c.r hrs (c.g.map Gu.row) i;have h4:=r220 c.d hb.d _ hw (by omega) (S.instR c.v c.r i) 200
 rw [e138_0_0];simp only [h1,nv0,nvS,dvI,dvB,dvS,dvL,B5,h2,h3,h4];unfold refB;cases runT c.d (S.instR c.v c.l i) 200 with
 | none=>rfl
 | some r =>
  simp only [rtD,nv0,nvS,dvI,dvB,dvS,dvL,B5];cases decide (r.o=1) <;> rfl
theorem r145 (c:ClM) (hb:ClB c):rn ⟨145,0,0⟩ c.row=some (0,refD (refF c)):=by
 have h1:=r210 c hb;have h2:=r131 c.v hb.v c.l c.r (small_of _ hb.ln) c.g hb.g (fun g hg=>⟨(hb.ga g hg).ln,(hb.ga g hg).rn⟩)
 have hal:=S.allC_len c.v c.g;have hlp:∀ n i,i+n=(allC c.v c.g).length->rn ⟨145,0,1⟩ [.int ((allC c.v c.g).length:Int),.int (i:Int),.sl (c.d.so.map sRow),.sl (c.d.op.map OpM.row),.sl (c.d.ru.map RuM.row),.sl (c.d.st.map StM.row),.sl (c.v.map sRow),.int (c.l).k,.int (c.l).n,.str (c.l).s,.sl ((c.l).as.map Tm.row),.int (c.r).k,.int (c.r).n,.str (c.r).s,.sl ((c.r).as.map Tm.row),.sl (c.g.map Gu.row),.sl ((allC c.v c.g).map S.nRow)]=match ((allC c.v c.g).drop i).find? (fun (j:Nat)=>refB c.d (S.instR c.v c.l (j:Int)) (S.instR c.v c.r (j:Int))) with
  | some k=>some (1,[.int (k:Int)])
  | none=>some (0,[]):=by
  generalize allC c.v c.g=cs at hal ⊢;intro n;induction n with
  | zero =>
   intro i hi;obtain rfl:i=cs.length:=by omega
   rw [e145_0_1];simp only [B6,C1,D6,H4,H2,C7,R4]
  | succ n ih =>
   intro i hi;have hlt:i<cs.length:=by omega
   have h3:=r138 c hb (cs[i]:Int);rw [e145_0_1,C2 hlt,O3];simp only [B6,C1,hlt,H3,H1,inbN,B7,rowAt_map hlt,wrap_succ hlt (maxB (by omega)),S.nRow,nv0,nvS,dvI,dvB,dvS,dvL,B5,h3,ih (i+1) (by omega)]
   cases refB c.d (S.instR c.v c.l (cs[i]:Int)) (S.instR c.v c.r (cs[i]:Int)) <;> rfl
 have h0:=hlp (allC c.v c.g).length 0 (by omega)
 simp only [D3,C3] at h0;unfold ClM.row at h1 ⊢;rw [e145_0_0];simp only [h1,nv0,nvS,dvI,dvB,dvS,dvL,B5,h2,B6,h0];unfold refF;cases c.valid with
 | false=>rfl
 | true =>
  simp only [D2,H2,if_true];cases (allC c.v c.g).find? (fun (j:Nat)=>refB c.d (S.instR c.v c.l (j:Int)) (S.instR c.v c.r (j:Int))) <;> rfl
theorem r135 (d:DfM) (hb:DfB d) (t:Tm) (hw:Wt t) (hc:cfg d t=true) (g:Tm):rn ⟨135,0,0⟩ [.sl (d.so.map sRow),.sl (d.op.map OpM.row),.sl (d.ru.map RuM.row),.sl (d.st.map StM.row),.int t.k,.int t.n,.str t.s,.sl (t.as.map Tm.row),.int g.k,.int g.n,.str g.s,.sl (g.as.map Tm.row)]=some (0,[.bool (refB d t g)]):=by
 have h1:=r216 d hb t hw 200 (by decide) (by decide) hc
 obtain ⟨hd,ht,hn⟩:=cfg_of hb hw hc;have hr:=runT_cfg hc;obtain ⟨gd,_⟩:=runT_good hb hw hr;have key:∀ l:List Tm,l.length<=1048576->(∀ x∈l,Small x)->∀ (o k n:Int) (s:ByteArray) (m:Int) (a b:Rows),∀ j i,i+j=l.length->rn ⟨135,0,1⟩ [.int (i:Int),.int g.k,.int g.n,.str g.s,.sl (g.as.map Tm.row),.int o,.int k,.int n,.str s,.int m,.sl a,.sl b,.sl (l.map Tm.row)]=bif ((l.drop i).any fun x=>eqb x.row g.row) then some (1,[]) else some (0,[.int o,.int k,.int n,.str s,.int m,.sl a,.sl b,.sl (l.map Tm.row)]):=by
  intro l hl hs o k n s m a b j;induction j with
  | zero =>
   intro i hi;obtain rfl:i=l.length:=by omega
   rw [e135_0_1];simp only [B6,C1,D6,H4,H2,C7,List.any_nil,H2]
  | succ j ih =>
   intro i hi;have hlt:i<l.length:=by omega
   have he:=r217 l[i] g (hs _ (C0 hlt));rw [e135_0_1,C2 hlt];simp only [T1];generalize eqb l[i].row g.row=b' at he ⊢;have:=ih (i+1) (by omega)
   generalize ((l.drop (i+1)).any fun x=>eqb x.row g.row)=A at this ⊢
   simp only [B6,C1,hlt,H3,H1,inbN,B7,rowAt_map hlt,wrap_succ hlt (maxB (by omega)),Tm.row_eq,nv0,nvS,dvI,dvB,dvS,dvL,B5,he,this]
   cases b' <;> simp
 have hk:=fun o k n s m a b=>key (t::(runF d 200 t).st) (by have:=gd.sl; simp; omega) (fun x hx=>by
  rcases E3.1 hx with e | hx
  · subst e; exact small_of _ (by omega)
  · exact small_of _ (by have:=(gd.s x hx).2; omega)) o k n s m a b _ 0 (D9 _)
 simp only [C3,D3] at hk;rw [e135_0_0,h1];unfold refB;rw [hr];simp only [allD,show Int.toNat 200=200 from rfl,nv0,nvS,dvI,dvB,dvS,dvL,B5,hk,reachR]
 cases (t::(runF d 200 t).st).any fun x=>eqb x.row g.row with
 | true=>rw [D2,R0]; rfl
 | false=>simp only [H2,nv0,nvS,dvI,dvB,dvS,dvL,B5,D7,H1,H2,J7,G8]
theorem r144 (c:ClM) (hb:ClB c):rn ⟨144,0,0⟩ c.row=some (0,refD (refF c)):=by
 have h1:=r202 c hb;have h2:=r126 c.v hb.v c.l c.r (small_of _ hb.ln) c.g hb.g (fun g hg=>⟨(hb.ga g hg).ln,(hb.ga g hg).rn⟩)
 have hal:=S.allC_len c.v c.g;have hlp:c.valid=true->∀ n i,i+n=(allC c.v c.g).length->rn ⟨144,0,1⟩ [.int (i:Int),.sl (c.d.so.map sRow),.sl (c.d.op.map OpM.row),.sl (c.d.ru.map RuM.row),.sl (c.d.st.map StM.row),.sl (c.v.map sRow),.int (c.l).k,.int (c.l).n,.str (c.l).s,.sl ((c.l).as.map Tm.row),.int (c.r).k,.int (c.r).n,.str (c.r).s,.sl ((c.r).as.map Tm.row),.sl (c.g.map Gu.row),.int c.l.k,.int c.l.n,.str c.l.s,.sl (c.v.map sRow),.sl (c.l.as.map Tm.row),.sl ((allC c.v c.g).map S.nRow)]=match ((allC c.v c.g).drop i).find? (fun (j:Nat)=>refB c.d (S.instR c.v c.l (j:Int)) (S.instR c.v c.r (j:Int))) with
  | some k=>some (1,[.int (k:Int)])
  | none=>some (0,[]):=by
  intro hv;simp only [ClM.valid,C4] at hv;have hC:∀ j∈allC c.v c.g,isC c.v.length (j:Int)=true:=fun j hj=>allC_isC hj
  generalize allC c.v c.g=cs at hal hC ⊢;intro n;induction n with
  | zero =>
   intro i hi;obtain rfl:i=cs.length:=by omega
   rw [e144_0_1];simp only [B6,C1,D6,H4,H2,C7,R4]
  | succ n ih =>
   intro i hi;have hlt:i<cs.length:=by omega
   have hc:=hC _ (C0 hlt);have h3:=r105 c.v c.l (small_of _ hb.ln) (cs[i]:Int);rw [<- instR_C hc] at h3;have h4:=r136 c.v c.l c.r (small_of _ hb.rn) (c.g.map Gu.row) (cs[i]:Int);have hcf:cfg c.d (S.instR c.v c.l (cs[i]:Int))=true:=by rw [instR_C hc]; exact cfg_inst hv.1 hc
   have h5:=r135 c.d hb.d _ (wt_instR hb.wl (cs[i]:Int)) hcf (S.instR c.v c.r (cs[i]:Int));rw [e144_0_1,C2 hlt,O3];simp only [B6,C1,hlt,H3,H1,inbN,B7,rowAt_map hlt,wrap_succ hlt (maxB (by omega)),S.nRow,nv0,nvS,dvI,dvB,dvS,dvL,B5,h3,h4,h5,ih (i+1) (by omega)]
   cases refB c.d (S.instR c.v c.l (cs[i]:Int)) (S.instR c.v c.r (cs[i]:Int)) <;> rfl
 unfold ClM.row at h1 ⊢;rw [e144_0_0];simp only [h1,nv0,nvS,dvI,dvB,dvS,dvL,B5,h2];unfold refF;cases hv:c.valid with
 | false=>rfl
 | true =>
  have h0:=hlp hv (allC c.v c.g).length 0 (by omega)
  simp only [D3,C3] at h0;simp only [D2,H2,if_true,h0];cases (allC c.v c.g).find? (fun (j:Nat)=>refB c.d (S.instR c.v c.l (j:Int)) (S.instR c.v c.r (j:Int))) <;> rfl
end Go.Q.S
end
section
namespace Go.Q.S
open Go Go.Q Go.Proofs
theorem symS (d:DfM) (hb:DfB d) (vars:List ByteArray) (hv:vars.length<=1048576) (hvs:∀ x∈vars,x.size<=maxLen) (t:Tm) (hw:Wt t) (hn:t.nodes<=1048577) (cs:List Int) (hcs:cs.length<=1048576):rn ⟨79,0,0⟩ [.sl (d.so.map sRow),.sl (d.op.map OpM.row),.sl (d.ru.map RuM.row),.sl (d.st.map StM.row),.sl (vars.map sRow),.int t.k,.int t.n,.str t.s,.sl (t.as.map Tm.row),.sl (cs.map iRow)]=some (0,[.bool (symC d vars t cs)]):=by
 have hl1:∀ n i,i+n=cs.length->rn ⟨79,0,1⟩ [.int (i:Int),.sl (d.so.map sRow),.sl (d.op.map OpM.row),.sl (d.ru.map RuM.row),.sl (d.st.map StM.row),.sl (vars.map sRow),.int t.k,.int t.n,.str t.s,.sl (t.as.map Tm.row),.sl (cs.map iRow)]=bif incC vars.length (prv cs i) (cs.drop i) then some (0,[.sl (d.so.map sRow),.sl (d.op.map OpM.row),.sl (d.ru.map RuM.row),.sl (d.st.map StM.row),.sl (vars.map sRow),.int t.k,.int t.n,.str t.s,.sl (t.as.map Tm.row),.sl (cs.map iRow)]) else some (1,[]):=by
  intro n;induction n with
  | zero =>
   intro i hi;obtain rfl:i=cs.length:=by omega
   rw [e79_0_1];simp only [B6,C1,D6,H4,H2,C7,incC,H1]
  | succ n ih =>
   intro i hi;have hlt:i<cs.length:=by omega
   have h1:=r155 vars.length;have hp:prv cs (i+1)=some cs[i]:=by simp [prv,hlt]
   have h2:=ih (i+1) (by omega)
   rw [hp] at h2;rw [e79_0_1,C2 hlt];simp only [B6,C1,hlt,H3,H1,inbN,B7,rowAt_map hlt,wrap_succ hlt (maxB (by omega)),iRow,nv0,nvS,dvI,dvB,dvS,dvL,B5,h1,rIn,wcnt,incC,h2]
   cases isC vars.length cs[i] with
   | false=>rfl
   | true =>
    rcases i with _ | j
    · simp [prv]
    · have hj:j<cs.length:=by omega
      have q1:(0:Int)<((j+1:Nat):Int):=by omega
      have hw:IntKind.i64.wrap (((j+1:Nat):Int)-1)=(j:Int):=by rw [IntWalk.i64_in _ (by omega)]; omega
      simp only [q1,hw,inbN,hj,H3,H1,H2,D2,E8,B7,rowAt_map hj,iRow,nv0,nvS,dvI,dvB,dvS,dvL,B5,prv,G6 hj];by_cases q:cs[j+1]<=cs[j] <;> simp [q]
 have h1:=hl1 cs.length 0 (by omega)
 simp only [D3,C3,prv] at h1;have h2:=r150 d hb;have h3:=r151 vars hv hvs;have h4:=r152 t (by omega) hw
 have hnt:=names_nodes t;have hsl:=srtN_len t.names;have h5:=r154 t hn;have h5':=r153 (srtN t.names) vars (by omega) (maxB (by omega))
 have h6:=r157 vars hv;have h7:=r156 (d.so.map sRow) d.op hb.op (wv vars) (by unfold wv; rw [B6]; omega) t hw
 rw [e79_0_0];simp only [B6,h1,h2,h3,h4,h5,h5',h6,h7,nv0,nvS,dvI,dvB,dvS,dvL,B5,D7,H1,H2];unfold symC symV;cases d.valid <;> try rfl
 cases decide (vars.length<=3) <;> try rfl
 cases dis vars <;> try rfl
 cases vars.all isVr <;> try rfl
 cases t.valid <;> try rfl
 have hw:=wo_srt' t vars;cases hw2:within t vars with
 | true =>
  rw [hw2] at hw;have:(wo (srtN t.names) vars).length=0:=hw.2 rfl;cases incC vars.length none cs with
  | false=>simp [this]; rfl
  | true =>
   simp only [this,C3,Int.lt_irrefl,H4,H2,H1,D2,nv0,nvS,dvI,dvB,dvS,dvL,B5,D7,H1,H2,h6,h7];simp
 | false =>
  rw [hw2] at hw;have:¬(wo (srtN t.names) vars).length=0:=fun h=>by have:=hw.1 h; simp at this
  have:0<(wo (srtN t.names) vars).length:=by omega
  simp [this]
theorem r134 (l:List Int) (hl:l.length<=maxLen) (x:Int):rn ⟨134,0,0⟩ [.sl (l.map iRow),.int x]=some (0,[.bool (hasI l x)]):=by
 have key:∀ n i,i+n=l.length->rn ⟨134,0,1⟩ [.sl (l.map iRow),.int x,.int (i:Int)]=bif hasI (l.drop i) x then some (1,[]) else some (0,[]):=by
  intro n;induction n with
  | zero =>
   intro i hi;obtain rfl:i=l.length:=by omega
   rw [e134_0_1];simp only [B6,C1,D6,H4,H2,C7,hasI,List.any_nil,H2]
  | succ n ih =>
   intro i hi;have hlt:i<l.length:=by omega
   rw [e134_0_1,C2 hlt];simp only [B6,C1,hlt,H3,H1,inbN,B7,rowAt_map hlt,wrap_succ hlt hl,iRow,nv0,nvS,dvI,dvB,dvS,dvL,B5,ih (i+1) (by omega)]
   simp only [hasI,T1];by_cases h1:l[i]=x <;> simp [h1]
 have h:=key l.length 0 (by omega)
 simp only [D3,C3] at h;rw [e134_0_0,h];cases hasI l x <;> rfl
end Go.Q.S
end
section
namespace Go.Q.S
open Go Go.Q Go.Proofs
theorem atI (t:Tm) (p:List Int) (hp:p.length<=1048576):rn ⟨260,0,0⟩ [.int t.k,.int t.n,.str t.s,.sl (t.as.map Tm.row),.sl (p.map iRow)]=some (0,[.int (atO t p).k,.int (atO t p).n,.str (atO t p).s,.sl ((atO t p).as.map Tm.row),.bool (atT t p).isSome]):=by
 have key:∀ n i (t:Tm),i+n=p.length->rn ⟨260,0,1⟩ [.sl (p.map iRow),.int (p.length:Int),.int (i:Int),.int t.k,.int t.n,.str t.s,.sl (t.as.map Tm.row),.int 0,.int 0,.str e0,.sl []]=match atT t (p.drop i) with
  | some u=>some (0,[.int u.k,.int u.n,.str u.s,.sl (u.as.map Tm.row),.int 0,.int 0,.str e0,.sl []])
  | none=>some (1,[.int 0,.int 0,.str e0,.sl []]):=by
  intro n;induction n with
  | zero =>
   intro i t hi;obtain rfl:i=p.length:=by omega
   rw [e260_0_1];simp only [B6,C1,D6,H4,H2,C7,atT]
  | succ n ih =>
   intro i t hi;have hlt:i<p.length:=by omega
   rw [e260_0_1,C2 hlt];generalize hj:p[i]=j;by_cases h0:j<0
   · have e:atT t (j::p.drop (i+1))=none:=by
      simp only [atT];split
      · rw [H6 (by omega)]
      · rfl
     rw [e];simp only [B6,C1,hlt,H3,H1,inbN,B7,rowAt_map hlt,wrap_succ hlt (maxB (by omega)),hj,iRow,nv0,nvS,dvI,dvB,dvS,dvL,B5,h0]
   · obtain ⟨m,rfl⟩:∃ m:Nat,j=(m:Int):=⟨j.toNat,by omega⟩
     by_cases hm:m<t.as.length
     · have h2:=ih (i+1) t.as[m] (by omega)
       have e:atT t ((m:Int)::p.drop (i+1))=atT t.as[m] (p.drop (i+1)):=by
        simp only [atT,B7,dif_pos hm];rw [H5 (by omega)]
       have q2:¬((t.as.length:Int)<=(m:Int)):=by omega
       rw [e,<- h2];simp only [B6,C1,hlt,H3,H1,inbN,B7,rowAt_map hlt,wrap_succ hlt (maxB (by omega)),hm,hj,h0,q2,H4,H2,rowAt_map hm,Tm.row_eq,iRow,nv0,nvS,dvI,dvB,dvS,dvL,B5]
     · have e:atT t ((m:Int)::p.drop (i+1))=none:=by simp only [atT,B7,dif_neg hm]
       have q2:(t.as.length:Int)<=(m:Int):=by omega
       rw [e];simp only [B6,C1,hlt,H3,H1,inbN,B7,rowAt_map hlt,wrap_succ hlt (maxB (by omega)),hj,h0,q2,H4,H2,iRow,nv0,nvS,dvI,dvB,dvS,dvL,B5]
 have h1:=key p.length 0 t (by omega)
 simp only [C3,D3] at h1;rw [e260_0_0];simp only [B6,h1];unfold atO;cases atT t p <;> rfl
theorem atS (t:Tm) (hn:t.nodes<=1048577) (p:List Int) (hp:p.length<=1048576):rn ⟨270,0,0⟩ [.int t.k,.int t.n,.str t.s,.sl (t.as.map Tm.row),.sl (p.map iRow)]=some (0,[.int (atO t p).k,.int (atO t p).n,.str (atO t p).s,.bool (atT t p).isSome,.sl ((atO t p).as.map Tm.row)]):=by
 have key:∀ n i (t:Tm),i+n=p.length->t.nodes<=1048577->rn ⟨270,0,1⟩ [.sl (p.map iRow),.int (i:Int),.int t.k,.int t.n,.str t.s,.sl (t.as.map Tm.row),.int 0,.int 0,.str e0,.sl []]=match atT t (p.drop i) with
  | some u=>some (0,[.int u.k,.int u.n,.str u.s,.sl (u.as.map Tm.row),.int 0,.int 0,.str e0,.sl []])
  | none=>some (1,[.int 0,.int 0,.str e0,.sl []]):=by
  intro n;induction n with
  | zero =>
   intro i t hi _;obtain rfl:i=p.length:=by omega
   rw [e270_0_1];simp only [B6,C1,D6,H4,H2,C7,atT]
  | succ n ih =>
   intro i t hi hn;have hlt:i<p.length:=by omega
   have hls:=len_sum (xs:=t.as);have hnd:=Tm.nodes_eq t;have hw:IntKind.i64.wrap ((t.as.length:Int)-1)=(t.as.length:Int)-1:=IntWalk.i64_in _ (by omega)
   rw [e270_0_1,C2 hlt];generalize hj:p[i]=j;by_cases h0:0<=j
   · obtain ⟨m,rfl⟩:∃ m:Nat,j=(m:Int):=⟨j.toNat,by omega⟩
     by_cases hm:m<t.as.length
     · have hmn:=mem_sum (f:=Tm.nodes) (C0 hm)
       have h2:=ih (i+1) t.as[m] (by omega) (by omega)
       have e:atT t ((m:Int)::p.drop (i+1))=atT t.as[m] (p.drop (i+1)):=by
        simp only [atT,B7,dif_pos hm];rw [H5 (by omega)]
       have q2:(m:Int)<=(t.as.length:Int)-1:=by omega
       rw [e,<- h2];simp only [B6,C1,hlt,H3,H1,inbN,B7,rowAt_map hlt,wrap_succ hlt (maxB (by omega)),hm,hj,hw,rIn,h0,q2,G8,D2,H2,rowAt_map hm,Tm.row_eq,iRow,nv0,nvS,dvI,dvB,dvS,dvL,B5]
     · have e:atT t ((m:Int)::p.drop (i+1))=none:=by simp only [atT,B7,dif_neg hm]
       have q2:¬(m:Int)<=(t.as.length:Int)-1:=by omega
       rw [e];simp only [B6,C1,hlt,H3,H1,inbN,B7,rowAt_map hlt,wrap_succ hlt (maxB (by omega)),hj,hw,rIn,h0,q2,H4,R0,J7,iRow,nv0,nvS,dvI,dvB,dvS,dvL,B5]
   · have e:atT t (j::p.drop (i+1))=none:=by
      simp only [atT];split <;> simp [h0]
     rw [e];simp only [B6,C1,hlt,H3,H1,inbN,B7,rowAt_map hlt,wrap_succ hlt (maxB (by omega)),hj,hw,rIn,h0,H4,Bool.false_and,J7,iRow,nv0,nvS,dvI,dvB,dvS,dvL,B5]
 have h1:=key p.length 0 t (by omega) hn
 simp only [C3,D3] at h1;rw [e270_0_0,h1];unfold atO;cases ha:atT t p with
 | none=>rfl
 | some u =>
  have hun:=atT_nodes p t u ha;have h3:=r188 u (small_of u (by omega))
  simp only [nv0,nvS,dvI,dvB,dvS,dvL,B5,D7,H1,H2,h3,P1,P0]
theorem posI:∀ t:Tm,∀ p:List Int,p.length+t.nodes<=1048576->rn ⟨316,0,0⟩ [.int t.k,.int t.n,.str t.s,.sl (t.as.map Tm.row),.sl (p.map iRow)]=some (0,[.sl ((posT t p).map pRow)]):=Tm.ind fun t ih p hp=>by
 have hnd:=Tm.nodes_eq t;have hls:=len_sum (xs:=t.as);have hlp:∀ n i (acc:List (List Int)),i+n=t.as.length->acc.length+((t.as.drop i).map Tm.nodes).sum<=1048576->rn ⟨316,0,1⟩ [.sl (p.map iRow),.sl (t.as.map Tm.row),.int (t.as.length:Int),.int (i:Int),.sl (acc.map pRow)]=some (0,[.sl ((acc++posL (t.as.drop i) p i).map pRow)]):=by
  intro n;induction n with
  | zero =>
   intro i acc hi _;obtain rfl:i=t.as.length:=by omega
   rw [e316_0_1];simp only [B6,C1,D6,H4,H2,C7,posL,F5]
  | succ n ih2 =>
   intro i acc hi hb;have hlt:i<t.as.length:=by omega
   have hm:=C0 hlt;have hmn:=mem_sum (f:=Tm.nodes) hm;have h1:=ih _ hm (p++[(i:Int)]) (by simp; omega)
   have h2:=rCloneI (p.map iRow) (by rw [B6]; omega)
   have hl:=posT_len t.as[i] (p++[(i:Int)]);rw [C2 hlt,C6,K1] at hb;have h3:=ih2 (i+1) (acc++posT t.as[i] (p++[(i:Int)])) (by omega) (by rw [E5,hl]; omega)
   have b1:F6 (p.length+1) M63=true:=nb (by omega)
   have b2:F6 (acc.length+t.as[i].nodes) M63=true:=nb (by omega)
   rw [posL_drop hlt,<- E2,<- h3];simp only [E1,C6,D8,iRow] at h1 h2 ⊢;rw [e316_0_1];simp only [B6,C1,hlt,H3,H1,inbN,B7,rowAt_map hlt,wrap_succ hlt (maxB (by omega)),Tm.row_eq,nv0,nvS,dvI,dvB,dvS,dvL,B5,h2,C5,D0,D9,b1,h1,hl,b2]
 have h1:=hlp t.as.length 0 [p] (by omega) (by simp only [D3,C5,D0]; omega)
 simp only [C3,D3,C6,D8,D4,C8] at h1;rw [e316_0_0,posT_eq];simp only [pRow] at h1 ⊢;simp only [B6,h1,nv0,nvS,dvI,dvB,dvS,dvL,B5,D7,H1,H2,C6];rfl
theorem r261 (t:Tm) (h:t.nodes<=1048576):rn ⟨261,0,0⟩ [.int t.k,.int t.n,.str t.s,.sl (t.as.map Tm.row)]=some (0,[.sl ((posT t []).map pRow)]):=by
 have h1:=posI t [] (by simpa using h)
 rw [D8] at h1;rw [e261_0_0];simp only [h1,nv0,nvS,dvI,dvB,dvS,dvL,B5]
theorem posS:∀ t:Tm,∀ (p:List Int) (acc:List (List Int)),p.length+t.nodes<=1048576->acc.length+t.nodes<=1048576->rn ⟨346,1,0⟩ [.int t.k,.int t.n,.str t.s,.sl (t.as.map Tm.row),.sl (p.map iRow),.sl (acc.map pRow)]=some (0,[.sl ((acc++posT t p).map pRow)]):=Tm.ind fun t ih p acc hp ha=>by
 have hnd:=Tm.nodes_eq t;have hls:=len_sum (xs:=t.as);have hlp:∀ n i (acc:List (List Int)),i+n=t.as.length->acc.length+((t.as.drop i).map Tm.nodes).sum<=1048576->rn ⟨346,1,1⟩ [.sl (p.map iRow),.int (i:Int),.sl (acc.map pRow),.int t.k,.int t.n,.str t.s,.sl (t.as.map Tm.row)]=some (0,[.sl ((acc++posL (t.as.drop i) p i).map pRow)]):=by
  intro n;induction n with
  | zero =>
   intro i acc hi _;obtain rfl:i=t.as.length:=by omega
   rw [e346_1_1];simp only [B6,C1,D6,H4,H2,C7,posL,F5]
  | succ n ih2 =>
   intro i acc hi hb;have hlt:i<t.as.length:=by omega
   have hm:=C0 hlt;have hmn:=mem_sum (f:=Tm.nodes) hm;have hl:=posT_len t.as[i] (p++[(i:Int)]);rw [C2 hlt,C6,K1] at hb;have h1:=ih _ hm (p++[(i:Int)]) acc (by simp; omega) (by omega)
   have h3:=ih2 (i+1) (acc++posT t.as[i] (p++[(i:Int)])) (by omega) (by rw [E5,hl]; omega)
   have b0:F6 (0+p.length) M63=true:=nb (by omega)
   have b1:F6 (p.length+1) M63=true:=nb (by omega)
   rw [posL_drop hlt,<- E2,<- h3];simp only [E1,C6,D8,iRow] at h1 ⊢;rw [e346_1_1];simp only [B6,C1,hlt,H3,H1,inbN,B7,rowAt_map hlt,wrap_succ hlt (maxB (by omega)),Tm.row_eq,nv0,nvS,dvI,dvB,dvS,dvL,B5,C5,D0,D9,b1,b0,C8,h1,show F6 p.length M63=true from by simpa using b0]
 have h1:=hlp t.as.length 0 (acc++[p]) (by omega) (by simp only [D3,E5,C5,D0]; omega)
 have b0:F6 p.length M63=true:=by simpa using nb (n:=p.length) (m:=0) (by omega)
 have b1:F6 (acc.length+1) M63=true:=nb (by omega)
 simp only [C3,D3,E1,C6,D8] at h1;rw [e346_1_0,posT_eq];simp only [pRow] at h1 ⊢;simp only [B6,C5,D0,D9,C8,b0,b1,H1,h1,nv0,nvS,dvI,dvB,dvS,dvL,B5,D7,H1,H2,E1,C6,E2,D4];rfl
theorem r319 (t:Tm) (h:t.nodes<=1048576):rn ⟨319,0,0⟩ [.int t.k,.int t.n,.str t.s,.sl (t.as.map Tm.row)]=some (0,[.sl ((posT t []).map pRow)]):=by
 have h1:=posS t [] [] (by simpa using h) (by simpa using h)
 rw [D8,D8] at h1;rw [e319_0_0];simp only [h1,nv0,nvS,dvI,dvB,dvS,dvL,B5,C8]
theorem eqLoopI {F:Nat->R} {a b:List Int} (hlen:a.length=b.length) {A B:R} (hs:∀ i (hi:i<a.length),F i=bif decide (a[i]=b[i]'(by omega)) then F (i+1) else B) (he:F a.length=A):F 0=bif decide (a=b) then A else B:=by
 have key:∀ n i,i+n=a.length->F i=bif decide (a.drop i=b.drop i) then A else B:=by
  intro n;induction n with
  | zero =>
   intro i hi;obtain rfl:i=a.length:=by omega
   rw [he,C7,List.drop_eq_nil_of_le (by omega)]; rfl
  | succ n ih =>
   intro i hi;have hlt:i<a.length:=by omega
   rw [hs i hlt,ih (i+1) (by omega),C2 hlt,C2 (show i<b.length by omega)]
   by_cases h1:a[i]=b[i]'(by omega)
   · simp only [h1,K3.injEq,true_and,H3,H1]
   · simp only [h1,K3.injEq,false_and,H4,H2]
 simpa using key a.length 0 (by omega)
theorem rEqualI (a b:List Int) (ha:a.length<=1048576):rn ⟨257,0,0⟩ [.sl (a.map iRow),.sl (b.map iRow)]=some (0,[.bool (decide (a=b))]):=by
 rw [e257_0_0];simp only [B6];by_cases hlen:a.length=b.length
 · have hf:=eqLoopI (F:=fun i=>rn ⟨257,0,1⟩ [.sl (a.map iRow),.sl (b.map iRow),.int (a.length:Int),.int (i:Int)]) hlen (A:=some (0,[])) (B:=some (1,[])) (fun i hi=>by
    have hi':i<b.length:=by omega
    rw [e257_0_1];simp only [B6,C1,hi,H3,H1,inbN,B7,rowAt_map hi,wrap_succ hi (maxB (by omega)),hi',rowAt_map hi',iRow,nv0,nvS,dvI,dvB,dvS,dvL,B5]
    by_cases h1:a[i]=b[i] <;> simp [h1]) (by
    rw [e257_0_1];simp only [B6,C1,D6,H4,H2,C7])
   simp only [C3] at hf;have e:((a.length:Int)=(b.length:Int)):=by omega
   simp only [e,H3,D2,H2];rw [<- e,hf];cases decide (a=b) <;> rfl
 · have e:¬((a.length:Int)=(b.length:Int)):=by omega
   have:¬ a=b:=fun h=>hlen (by rw [h])
   simp [e,this]
theorem r173 (r r':Int) (a b:List Int) (ha:a.length<=1048576):rn ⟨173,0,0⟩ [.int r,.sl (a.map iRow),.int r',.sl (b.map iRow)]=some (0,[.bool (decide (r=r')&&decide (a=b))]):=by
 have h1:=rEqualI a b ha;rw [e173_0_0];by_cases e:r=r'
 · simp only [e,H3,H1,h1,nv0,nvS,dvI,dvB,dvS,dvL,B5,E8]
 · simp only [e,H4,H2,Bool.false_and]
theorem r187 (a b:List Int) (ha:a.length<=1048576):rn ⟨187,0,0⟩ [.sl (a.map iRow),.sl (b.map iRow)]=some (0,[.bool (decide (a=b))]):=by
 rw [e187_0_0];simp only [B6];by_cases hlen:a.length=b.length
 · have hf:=eqLoopI (F:=fun i=>rn ⟨187,0,1⟩ [.sl (a.map iRow),.sl (b.map iRow),.int (i:Int)]) hlen (A:=some (0,[])) (B:=some (1,[])) (fun i hi=>by
    have hi':i<b.length:=by omega
    rw [e187_0_1];simp only [B6,C1,hi,H3,H1,inbN,B7,rowAt_map hi,wrap_succ hi (maxB (by omega)),hi',rowAt_map hi',iRow,nv0,nvS,dvI,dvB,dvS,dvL,B5]
    by_cases h1:a[i]=b[i] <;> simp [h1]) (by
    rw [e187_0_1];simp only [B6,C1,D6,H4,H2,C7])
   simp only [C3] at hf;have e:((a.length:Int)=(b.length:Int)):=by omega
   simp only [e,H3,D2,H2];rw [hf];cases decide (a=b) <;> rfl
 · have e:¬((a.length:Int)=(b.length:Int)):=by omega
   have:¬ a=b:=fun h=>hlen (by rw [h])
   simp [e,this]
end Go.Q.S
end
section
namespace Go.Q.S
open Go Go.Q Go.Proofs
theorem b63 {n:Nat} (h:n<=4194304):F6 (n+1) M63=true:=nb (by omega)
theorem carLoopI (l u r t:Tm) (hl:l.nodes<=60) (xr:Int) (xat gs:Rows) (nm:ByteArray) (ps:List (List Int)) (hps:ps.length<=60) (hpl:∀ p∈ps,p.length<=1048576):∀ n i (acc:List Bnd),i+n=ps.length->acc.length<=i →
 rn ⟨175,0,1⟩ [.int (ps.length:Int),.int (i:Int),.int t.k,.int t.n,.str t.s,.sl (t.as.map Tm.row),.int xr,.sl xat,.int 0,.int 0,.str e0,.str nm,.int l.k,.int l.n,.str l.s,.sl (l.as.map Tm.row),.int r.k,.int r.n,.str r.s,.sl (r.as.map Tm.row),.sl gs,.int u.k,.int u.n,.str u.s,.sl (u.as.map Tm.row),.sl (acc.map Bnd.row),.sl (ps.map pRow),.sl []]=some (0,[.int t.k,.int t.n,.str t.s,.sl (t.as.map Tm.row),.int xr,.sl xat,.int 0,.int 0,.str e0,.str nm,.int l.k,.int l.n,.str l.s,.sl (l.as.map Tm.row),.int r.k,.int r.n,.str r.s,.sl (r.as.map Tm.row),.sl gs,.sl ((acc++(ps.drop i).filterMap (cB1 l u)).map Bnd.row),.sl []]):=by
 intro n;induction n with
 | zero =>
  intro i acc hi _;obtain rfl:i=ps.length:=by omega
  rw [e175_0_1];simp only [B6,C1,D6,H4,H2,C7,List.filterMap_nil,F5]
 | succ n ih =>
  intro i acc hi ha;have hlt:i<ps.length:=by omega
  have hp:=hpl _ (C0 hlt);have h1:=atI l ps[i] hp;have h2:=atI u ps[i] hp;have b1:F6 (acc.length+1) M63=true:=b63 (by omega)
  rw [C2 hlt,List.filterMap_cons,e175_0_1];simp only [B6,C1,hlt,H3,H1,inbN,B7,rowAt_map hlt,wrap_succ hlt (maxB (by omega)),pRow,nv0,nvS,dvI,dvB,dvS,dvL,B5,h1,h2,C5,D0,D9,b1]
  by_cases hk:(atO l ps[i]).k=1
  · have e:cB1 l u ps[i]=some ((atO l ps[i]).s,atO u ps[i]):=by rw [cB1,H5 hk]
    have h3:=ih (i+1) (acc++[((atO l ps[i]).s,atO u ps[i])]) (by omega) (by simp; omega)
    simp only [E1,C6,D8,bd_row,E2,D4,C8,pRow] at h3;simp only [hk,e,H3,H1,E2,E1,C6,D4,C8,bd_row];exact h3
  · have e:cB1 l u ps[i]=none:=by rw [cB1,H6 hk]
    have h3:=ih (i+1) acc (by omega) (by omega)
    simp only [hk,e,H4,H2];exact h3
theorem carI (d:DfM) (hd:DfG d) (t:Tm) (hw:Wt t) (hn:t.nodes<=60) (i:Nat) (hi:i<d.ru.length) (p:List Int) (hp:p.length<=60) (hat:∃ u,atT t p=some u):rn ⟨175,0,0⟩ [.sl (d.so.map sRow),.sl (d.op.map OpM.row),.sl (d.ru.map RuM.row),.sl (d.st.map StM.row),.int t.k,.int t.n,.str t.s,.sl (t.as.map Tm.row),.int (i:Int),.sl (p.map iRow)]=some (0,[.int (bT d t (some (i,p))).k,.int (bT d t (some (i,p))).n,.str (bT d t (some (i,p))).s,.bool (carT d t (i,p)).valid,.sl ((bT d t (some (i,p))).as.map Tm.row)]):=by
 have hr:=hd.ru (C0 hi);have hln:=valid_nodes hr.lv;have hrn:=valid_nodes hr.rv;obtain ⟨u,hu⟩:=hat;have hpl:=posT_len d.ru[i].l [];have hun:=atO_nodes t p (by decide) hn
 have hbn:∀ b∈carB d.ru[i].l (atO t p),b.2.nodes<=60:=carB_mem (P:=fun t=>t.nodes<=60) fun q=>atO_nodes (atO t p) q (by decide) hun
 have hbs:∀ b∈carB d.ru[i].l (atO t p),Small b.2:=fun b hb=>small_of _ (by have:=hbn b hb; omega)
 have hbl:(carB d.ru[i].l (atO t p)).length<=60:=J0 (S1 ..) (by omega)
 have a1:=aS_nodesM (m:=60) (by decide) hbn d.ru[i].r
 have a2:=rW_nodes (aS (carB d.ru[i].l (atO t p)) d.ru[i].r);have a3:=put_nodes (rW (aS (carB d.ru[i].l (atO t p)) d.ru[i].r)) p t;have a5:t.nodes*(p.length+1)<=60*61:=U4 hn (by omega)
 have e2:carT d t (i,p)=rW (putT t p (aS (carB d.ru[i].l (atO t p)) d.ru[i].r)):=by
  simp only [carT,G6 hi]
 obtain ⟨c1,c2⟩:=carT_b hd hw hn (x:=(i,p)) hp;have h1:=atI t p (by omega)
 have h2:=r261 d.ru[i].l (by omega)
 have h3:=carLoopI d.ru[i].l (atO t p) d.ru[i].r t hln (i:Int) (p.map iRow) (d.ru[i].g.map Gu.row) d.ru[i].n (posT d.ru[i].l []) (by omega) (fun q hq=>by have:=posT_mem d.ru[i].l [] q hq; simp at this; omega) _ 0 [] (D9 _) (F1 _)
 rw [hpl] at h3;simp only [D3,C8,C3,D8] at h3;have h4:=r198 _ (by omega) hbs d.ru[i].r (small_of _ (by omega))
 have h5:=r197 (aS (carB d.ru[i].l (atO t p)) d.ru[i].r) (small_of _ (by omega))
 have h6:=r262 (rW (aS (carB d.ru[i].l (atO t p)) d.ru[i].r)) p t u (by omega) (by omega) hu
 have h7:=r197 (putT t p (rW (aS (carB d.ru[i].l (atO t p)) d.ru[i].r))) (small_of _ (by omega))
 rw [rW_put,<- e2] at h7;have h8:=r165 (carT d t (i,p)) (by omega) c1
 unfold carB at h4 h5 h6 h7;rw [e175_0_0];simp only [h1,h2,nv0,nvS,dvI,dvB,dvS,dvL,B5,inbN,B6,hi,H3,H1,B7,rowAt_map hi,RuM.row,hpl,h3,D7,H1,H2,h4,h5,h6,h7,h8];have hb:bT d t (some (i,p))=if (carT d t (i,p)).valid=true then carT d t (i,p) else tm0:=rfl
 rw [hb];cases (carT d t (i,p)).valid <;> rfl
theorem r272 (l u:Tm) (hl:l.nodes<=60) (hu:u.nodes<=60):rn ⟨272,0,0⟩ [.int l.k,.int l.n,.str l.s,.sl (l.as.map Tm.row),.int u.k,.int u.n,.str u.s,.sl (u.as.map Tm.row)]=some (0,[.sl ((carU l u (posT l []) []).map Bnd.row)]):=by
 have hpl:=posT_len l [];have hps:∀ p∈posT l [],p.length<=1048576:=fun q hq=>by have:=posT_mem l [] q hq; simp at this; omega
 have h2:=r319 l (by omega)
 have hlp:∀ n i (acc:List Bnd),i+n=(posT l []).length->acc.length<=i->(∀ b∈acc,Small b.2)->rn ⟨272,0,1⟩ [.int (i:Int),.int l.k,.int l.n,.str l.s,.sl (l.as.map Tm.row),.int u.k,.int u.n,.str u.s,.sl (u.as.map Tm.row),.sl (acc.map Bnd.row),.sl ((posT l []).map pRow)]=some (0,[.sl ((carU l u ((posT l []).drop i) acc).map Bnd.row)]):=by
  generalize posT l []=ps at hpl hps ⊢;intro n;induction n with
  | zero =>
   intro i acc hi _ _;obtain rfl:i=ps.length:=by omega
   rw [e272_0_1];simp only [B6,C1,D6,H4,H2,C7,carU]
  | succ n ih =>
   intro i acc hi ha hs;have hlt:i<ps.length:=by omega
   have hp:=hps _ (C0 hlt);have h1:=atS l (by omega) ps[i] hp
   have h2:=atS u (by omega) ps[i] hp
   have b1:F6 (acc.length+1) M63=true:=b63 (by omega)
   have hun:=atO_nodes u ps[i] (by decide) hu
   rw [C2 hlt,e272_0_1];simp only [carU,B6,C1,hlt,H3,H1,inbN,B7,rowAt_map hlt,wrap_succ hlt (maxB (by omega)),pRow,nv0,nvS,dvI,dvB,dvS,dvL,B5,h1,h2,C5,D0,D9,b1]
   have h4:=ih (i+1) acc (by omega) (by omega) hs
   by_cases hk:(atO l ps[i]).k=1
   · have h3:=ih (i+1) (acc++[((atO l ps[i]).s,atO u ps[i])]) (by omega) (by simp; omega) (fun b hb=>by
      rcases List.mem_append.1 hb with hb | hb
      · exact hs b hb
      · simp only [List.mem_singleton] at hb; subst hb; exact small_of _ (show (atO u ps[i]).nodes<=1048577 by omega))
     simp only [E1,C6,D8,bd_row,pRow] at h3 h4;simp only [hk,H3,H1,bd_row];rcases r318 acc (by omega) (atO l ps[i]).s with ⟨e,h5⟩|⟨j,hj,e,h5⟩
     · simp only [h5,nv0,nvS,dvI,dvB,dvS,dvL,B5,e,show decide ((-1:Int)<0)=true from rfl,H1,and_self,if_true]
       exact h3
     · have q:¬((j:Int)<0):=by omega
       simp only [h5,nv0,nvS,dvI,dvB,dvS,dvL,B5,e,q,H4,H2,reduceCtorEq,and_false,if_false];exact h4
   · simp only [hk,H4,H2,false_and,if_false]
     exact h4
 have h3:=hlp _ 0 [] (D9 _) (F1 _) (by simp)
 simp only [D3,C3,D8] at h3;rw [e272_0_0];simp only [h2,nv0,nvS,dvI,dvB,dvS,dvL,B5,h3,D7,H1,H2]
theorem r189 (d:DfM) (hd:DfG d) (v cs:Rows) (t:Tm) (hw:Wt t) (hn:t.nodes<=60) (i:Nat) (hi:i<d.ru.length) (p:List Int) (hp:p.length<=60) (hat:∃ u,atT t p=some u):rn ⟨189,0,0⟩ [.sl (d.so.map sRow),.sl (d.op.map OpM.row),.sl (d.ru.map RuM.row),.sl (d.st.map StM.row),.sl v,.int t.k,.int t.n,.str t.s,.sl (t.as.map Tm.row),.sl cs,.int (i:Int),.sl (p.map iRow)]=some (0,[.int (carT d t (i,p)).k,.int (carT d t (i,p)).n,.str (carT d t (i,p)).s,.sl ((carT d t (i,p)).as.map Tm.row)]):=by
 have hr:=hd.ru (C0 hi);have hln:=valid_nodes hr.lv;have hrn:=valid_nodes hr.rv;obtain ⟨u,hu⟩:=hat;have hpl:=posT_len d.ru[i].l [];have hun:=atO_nodes t p (by decide) hn
 have hbn:∀ b∈carU d.ru[i].l (atO t p) (posT d.ru[i].l []) [],b.2.nodes<=60:=carU_mem (P:=fun t=>t.nodes<=60) (fun q=>atO_nodes (atO t p) q (by decide) hun) _ [] (by simp)
 have hbs:∀ b∈carU d.ru[i].l (atO t p) (posT d.ru[i].l []) [],Small b.2:=fun b hb=>small_of _ (by have:=hbn b hb; omega)
 have hbl:=carU_len d.ru[i].l (atO t p) (posT d.ru[i].l []) [];have a1:=aS_nodesM (m:=60) (by decide) hbn d.ru[i].r
 have a3:=put_nodes (aS (carU d.ru[i].l (atO t p) (posT d.ru[i].l []) []) d.ru[i].r) p t;have a5:t.nodes*(p.length+1)<=60*61:=U4 hn (by omega)
 have e2:carT d t (i,p)=rW (putT t p (aS (carU d.ru[i].l (atO t p) (posT d.ru[i].l []) []) d.ru[i].r)):=by
  simp only [carT,G6 hi,carU_aS]
 have h1:=atS t (by omega) p (by omega)
 have h2:=r272 d.ru[i].l (atO t p) hln hun;have h4:=r185 _ (by simp at hbl; omega) hbs d.ru[i].r (small_of _ (by omega))
 have h6:=r271 (aS (carU d.ru[i].l (atO t p) (posT d.ru[i].l []) []) d.ru[i].r) (by omega) p t u (by omega) (by omega) hu
 have h7:=r184 (putT t p (aS (carU d.ru[i].l (atO t p) (posT d.ru[i].l []) []) d.ru[i].r)) (small_of _ (by omega))
 rw [<- e2] at h7;rw [e189_0_0];simp only [h1,nv0,nvS,dvI,dvB,dvS,dvL,B5,inbN,B6,hi,H3,H1,B7,rowAt_map hi,RuM.row,h2,h4,h6,h7]
theorem r107 (d:DfM) (hd:DfG d) (v:List ByteArray) (hv:v.length<=1048576) (cs:Rows) (t:Tm) (hw:Wt t) (hn:t.nodes<=60) (x:Bk) (hx:BkG d t x):rn ⟨107,0,0⟩ [.sl (d.so.map sRow),.sl (d.op.map OpM.row),.sl (d.ru.map RuM.row),.sl (d.st.map StM.row),.sl (v.map sRow),.int t.k,.int t.n,.str t.s,.sl (t.as.map Tm.row),.sl cs,.int (bR x),.bool x.isSome,.sl ((bP x).map iRow)]=some (0,[.int (bK d t x),.int (bR x),.int (bT d t x).k,.int (bT d t x).n,.str (bT d t x).s,.sl ((bP x).map iRow),.sl (v.map sRow),.sl ((bT d t x).as.map Tm.row),.sl []]):=by
 have b1:F6 v.length M63=true:=by simpa using nb (n:=v.length) (m:=0) (by omega)
 have h1:=r188 t (small_of t (by omega))
 rw [e107_0_0];simp only [D0,D9,B6,b1,H1,h1,nv0,nvS,dvI,dvB,dvS,dvL,B5,C8];cases x with
 | none=>rfl
 | some y =>
  obtain ⟨y1,y2,y3⟩:=hx.i y rfl;have h2:=r189 d hd (v.map sRow) cs t hw hn y.1 y1 y.2 y2 y3;obtain ⟨c1,c2⟩:=carT_b hd hw hn (x:=y) y2;have h3:=r152 (carT d t y) (by omega) c1
  simp only [bR,bP,P0,D2,H2,h2,nv0,nvS,dvI,dvB,dvS,dvL,B5,h3];have hb:bT d t (some y)=if (carT d t y).valid=true then carT d t y else tm0:=rfl
  have hk:bK d t (some y)=if (carT d t y).valid=true then 2 else 3:=rfl
  rw [hb,hk];cases (carT d t y).valid <;> rfl
theorem fndB_drop (out:List (Bk × List Int)) (x:Bk):fndI out x=match (out.drop 0).findIdx? (fun b=>decide (b.1=x)) with | some i=>((0+i:Nat):Int) | none=>-1:=by
 unfold fndI fndB;rw [D3];cases out.findIdx? fun b=>decide (b.1=x) with
 | none=>rfl
 | some i=>simp
theorem fndBI (d:DfM) (v:List ByteArray) (t:Tm) (out:List (Bk × List Int)) (ho:out.length<=1048576) (hp:∀ b∈out,(bP b.1).length<=1048576) (x:Bk):∃ w1 w2 w3,rn ⟨171,0,0⟩ [.sl (out.map (brRow d v t)),.bool x.isSome,.int (bR x),.sl ((bP x).map iRow)]=some (0,[.int (fndI out x),.bool w1,.int w2,.sl w3])/\w1=x.isSome/\w2=bR x/\w3=(bP x).map iRow:=by
 have hlp:∀ n i,i+n=out.length->rn ⟨171,0,1⟩ [.sl (out.map (brRow d v t)),.int (out.length:Int),.int (i:Int),.bool x.isSome,.int (bR x),.sl ((bP x).map iRow)]=match (out.drop i).findIdx? (fun b=>decide (b.1=x)) with
  | some j=>some (1,[.int ((i+j:Nat):Int),.bool x.isSome,.int (bR x),.sl ((bP x).map iRow)])
  | none=>some (0,[.bool x.isSome,.int (bR x),.sl ((bP x).map iRow)]):=by
  intro n;induction n with
  | zero =>
   intro i hi;obtain rfl:i=out.length:=by omega
   rw [e171_0_1];simp only [B6,C1,D6,H4,H2,C7,U6]
  | succ n ih =>
   intro i hi;have hlt:i<out.length:=by omega
   have h2:=r173 (bR out[i].1) (bR x) (bP out[i].1) (bP x) (hp _ (C0 hlt));have h1:rn ⟨172,0,0⟩ [.int (bK d t out[i].1),.int (bR out[i].1),.sl ((bP out[i].1).map iRow),.sl (v.map sRow),.int (bT d t out[i].1).k,.int (bT d t out[i].1).n,.str (bT d t out[i].1).s,.sl ((bT d t out[i].1).as.map Tm.row),.sl (out[i].2.map iRow),.bool x.isSome,.int (bR x),.sl ((bP x).map iRow)]=some (0,[.bool (decide (out[i].1=x)),.bool x.isSome,.int (bR x),.sl ((bP x).map iRow)]):=by
    rw [e172_0_0,<- bk_eq d t];simp only [h2,nv0,nvS,dvI,dvB,dvS,dvL,B5];cases (decide (bK d t out[i].1=1)==!x.isSome) <;> rfl
   rw [drop_find _ _ hlt,e171_0_1];simp only [B6,C1,hlt,H3,H1,inbN,B7,rowAt_map hlt,wrap_succ hlt (maxB (by omega)),brRow,nv0,nvS,dvI,dvB,dvS,dvL,B5,h1]
   have h3:=ih (i+1) (by omega)
   cases decide (out[i].1=x) with
   | true=>rfl
   | false =>
    simp only [H2,N4,if_false,h3];cases (out.drop (i+1)).findIdx? (fun b=>decide (b.1=x)) with
    | none=>rfl
    | some j=>simp only [K5,show i+1+j=i+(j+1) by omega]
 have h1:=hlp out.length 0 (D9 _);rw [C3] at h1;rw [e171_0_0,fndB_drop];simp only [B6,h1];cases (out.drop 0).findIdx? (fun b=>decide (b.1=x)) with
 | none=>exact ⟨_,_,_,rfl,rfl,rfl,rfl⟩
 | some j=>exact ⟨_,_,_,rfl,rfl,rfl,rfl⟩
theorem r106 (d:DfM) (v:List ByteArray) (t:Tm) (out:List (Bk × List Int)) (ho:out.length<=1048576) (hp:∀ b∈out,(bP b.1).length<=1048576) (x:Bk):rn ⟨106,0,0⟩ [.sl (out.map (brRow d v t)),.int (bR x),.sl ((bP x).map iRow),.bool x.isSome]=some (0,[.int (fndI out x)]):=by
 have hlp:∀ n i,i+n=out.length->rn ⟨106,0,1⟩ [.sl (out.map (brRow d v t)),.bool x.isSome,.int (i:Int),.int (bR x),.sl ((bP x).map iRow)]=match (out.drop i).findIdx? (fun b=>decide (b.1=x)) with
  | some j=>some (1,[.int ((i+j:Nat):Int)])
  | none=>some (0,[]):=by
  intro n;induction n with
  | zero =>
   intro i hi;obtain rfl:i=out.length:=by omega
   rw [e106_0_1];simp only [B6,C1,D6,H4,H2,C7,U6]
  | succ n ih =>
   intro i hi;have hlt:i<out.length:=by omega
   have h2:=r187 (bP out[i].1) (bP x) (hp _ (C0 hlt));have h3:=ih (i+1) (by omega)
   have hno:∀ y,x=some y->¬ bK d t (some y)=1:=fun y _=>by
    show ¬(if (carT d t y).valid=true then (2:Int) else 3)=1
    by_cases q:(carT d t y).valid=true <;> simp [q]
   have h4:(match (match (out.drop (i+1)).findIdx? (fun b=>decide (b.1=x)) with | some j=>some (j+1) | none=>none) with | some j=>some (1,[D.int ((i+j:Nat):Int)]) | none=>some (0,[]))=rn ⟨106,0,1⟩ [.sl (out.map (brRow d v t)),.bool x.isSome,.int ((i+1:Nat):Int),.int (bR x),.sl ((bP x).map iRow)]:=by
    rw [ih (i+1) (by omega)]
    cases (out.drop (i+1)).findIdx? (fun b=>decide (b.1=x)) with
    | none=>rfl
    | some j=>simp only [show i+1+j=i+(j+1) by omega]
   have h5:(bif !(x.isSome==decide (bK d t out[i].1=1)) then bif !x.isSome then some (1,[D.int (i:Int)]) else bif decide (bR out[i].1=bR x) then bif decide (bP out[i].1=bP x) then some (1,[.int (i:Int)]) else rn ⟨106,0,1⟩ [.sl (out.map (brRow d v t)),.bool x.isSome,.int ((i+1:Nat):Int),.int (bR x),.sl ((bP x).map iRow)] else rn ⟨106,0,1⟩ [.sl (out.map (brRow d v t)),.bool x.isSome,.int ((i+1:Nat):Int),.int (bR x),.sl ((bP x).map iRow)] else rn ⟨106,0,1⟩ [.sl (out.map (brRow d v t)),.bool x.isSome,.int ((i+1:Nat):Int),.int (bR x),.sl ((bP x).map iRow)])=match (if decide (out[i].1=x)=true then some 0 else ((out.drop (i+1)).findIdx? (fun b=>decide (b.1=x))).map (·+1)) with
    | some j=>some (1,[.int ((i+j:Nat):Int)])
    | none=>some (0,[]):=by
    rw [<- bk_eq d t out[i].1 x];rw [<- h4];generalize (out.drop (i+1)).findIdx? (fun b=>decide (b.1=x))=F
    generalize hg:out[i].1=y;cases x with
    | none =>
     cases y with
     | none=>simp [bK,bR,bP]
     | some z =>
      have:¬ bK d t (some z)=1:=by
       show ¬(if (carT d t z).valid=true then (2:Int) else 3)=1
       by_cases q:(carT d t z).valid=true <;> simp [q]
      simp only [this,H4,Option.isSome_none];cases F <;> rfl
    | some w =>
     cases y with
     | none=>cases F <;> simp [bK]
     | some z =>
      have:¬ bK d t (some z)=1:=by
       show ¬(if (carT d t z).valid=true then (2:Int) else 3)=1
       by_cases q:(carT d t z).valid=true <;> simp [q]
      simp only [this,H4,P0];cases decide (bR (some z)=bR (some w)) <;> cases decide (bP (some z)=bP (some w)) <;> cases F <;> rfl
   rw [drop_find _ _ hlt,<- h5,e106_0_1];simp only [B6,C1,hlt,H3,H1,inbN,B7,rowAt_map hlt,wrap_succ hlt (maxB (by omega)),brRow,nv0,nvS,dvI,dvB,dvS,dvL,B5,h2]
 have h1:=hlp out.length 0 (D9 _);rw [C3] at h1;rw [e106_0_0,fndB_drop];simp only [h1];cases (out.drop 0).findIdx? (fun b=>decide (b.1=x)) <;> rfl
end Go.Q.S
end
section
namespace Go.Q.S
open Go Go.Q Go.Proofs
theorem brLoopI (d:DfM) (hb:DfB d) (v:List ByteArray) (hv:v.length<=1048576) (t:Tm) (hw:Wt t) (cs:List Int) (hcl:cs.length<=1048576) (hs:symV d v t=true) (hcs:∀ c∈cs,isC v.length c=true):∀ n i (out:List (Bk × List Int)),i+n=cs.length->BrB i out->(∀ b∈out,BkG d t b.1) →
 rn ⟨87,0,1⟩ [.sl (cs.map iRow),.int (cs.length:Int),.int (i:Int),.sl (d.so.map sRow),.sl (d.op.map OpM.row),.sl (d.ru.map RuM.row),.sl (d.st.map StM.row),.sl (v.map sRow),.int t.k,.int t.n,.str t.s,.sl (t.as.map Tm.row),.sl (cs.map iRow),.sl (out.map (brRow d v t))]=some (0,[.sl ((brF d v t (cs.drop i) out).map (brRow d v t))]):=by
 intro n;induction n with
 | zero =>
  intro i out hi _ _;obtain rfl:i=cs.length:=by omega
  rw [e87_0_1];simp only [B6,C1,D6,H4,H2,C7,brF]
 | succ n ih =>
  intro i out hi ho hk;have hlt:i<cs.length:=by omega
  have hc:=hcs _ (C0 hlt);obtain ⟨hd,htn,hg,hgn,hx⟩:=nx_bkG hb hw hs hc;have hol:=ho.l;have hpl:∀ b∈out,(bP b.1).length<=1048576:=fun b hb'=>by
   have h1:=(hk b hb').i;cases hq:b.1 with
   | none=>exact J4 _
   | some y=>have:=(h1 y hq).2.1; show y.2.length<=_; omega
  have h1:=r120 v t (small_of t (by omega)) (cs.map iRow) cs[i]
  rw [instR_C hc] at h1;have h2:=r170 d hd (inst v t cs[i]) hg hgn [] (by simp; omega)
  rw [nrR_bk,D8] at h2;obtain ⟨w1,w2,w3,h3,rfl,rfl,rfl⟩:=fndBI d v t out (by omega) hpl (nx d (inst v t cs[i]))
  have h4:=r174 (v.map sRow) (cs.map iRow) [[.int cs[i]]] t (small_of t (by omega)) (by rw [B6]; omega) (by simp)
  have hob:=addB_b ho (nx d (inst v t cs[i])) cs[i];have hkb:∀ b∈addB out (nx d (inst v t cs[i])) cs[i],BkG d t b.1:=addB_k hk hx;rw [C2 hlt,e87_0_1];simp only [brF,B6,C1,hlt,H3,H1,inbN,B7,rowAt_map hlt,wrap_succ hlt (maxB (by omega)),iRow,nv0,nvS,dvI,dvB,dvS,dvL,B5,h1,h2,h3]
  have h5:=ih (i+1) _ (by omega) hob hkb
  generalize nx d (inst v t cs[i])=x at hx h3 h5 ⊢;generalize hc0:cs[i]=c at h4 h5 ⊢;cases hf:fndB out x with
  | some j =>
   obtain ⟨hj,hjx⟩:=fndB_lt hf;have e8:(nth (rowAt (out.map (brRow d v t)) j) 8).L=out[j].2.map iRow:=by rw [rowAt_map hj]; rfl
   have hset:=br_set (d:=d) (v:=v) (t:=t) hj (out[j].2.map iRow++[[.int c]]) (out[j].2++[c]) (by simp [iRow])
   have hlen:=br_len (d:=d) (v:=v) (t:=t) hj;have b1:F6 (out[j].2.length+1) M63=true:=b63 (by have:=ho.c _ (C0 hj); omega)
   have b2:K4 j out.length=true:=F2 hj;have b3:decide ((0:Int)<=(j:Int))=true:=by simp
   rw [addB_some hf hj] at h5 ⊢;simp only [fndI,hf,b3,H1,inbN,hlen,B6,hj,H3,B7,b2,e8,C5,D0,D9,b1,D7,O0,hset,h5]
  | none =>
   have b1:F6 (out.length+1) M63=true:=b63 (by omega)
   rw [addB_none hf] at h5 ⊢;simp only [E1,C6,D8] at h5 ⊢;simp only [fndI,hf,show decide ((0:Int)<=-1)=false from rfl,H2,h4,nv0,nvS,dvI,dvB,dvS,dvL,B5,C5,D0,D9,b1,B6]
   cases x with
   | none=>exact h5
   | some y =>
    obtain ⟨y1,y2,y3⟩:=hx.i y rfl;have h6:=carI d hd t hw htn y.1 y1 y.2 y2 y3;simp only [bR,bP,P0,H1,h6,nv0,nvS,dvI,dvB,dvS,dvL,B5];have hk1:bK d t (some y)=if (carT d t y).valid=true then 2 else 3:=rfl
    cases hvv:(carT d t (y.1,y.2)).valid with
    | true =>
     have hk2:bK d t (some y)=2:=by rw [hk1,H5 hvv]
     simp only [brRow,hk2] at h5;exact h5
    | false =>
     have hk2:bK d t (some y)=3:=by rw [hk1,H6 (by show ¬(carT d t (y.1,y.2)).valid=true; rw [hvv]; simp)]
     simp only [brRow,hk2] at h5;exact h5
theorem r87 (s:SyM) (hs:SyB s) (h:symC s.d s.v s.t s.c=true):rn ⟨87,0,0⟩ s.row=some (0,[.sl ((brL s).map (brRow s.d s.v s.t))]):=by
 have h':=h;simp only [symC,C4] at h';have h1:=brLoopI s.d hs.d s.v hs.v s.t hs.w s.c hs.c h'.1 (incC_isC s.c none h'.2) s.c.length 0 [] (D9 _) ⟨F1 _,by simp⟩ (by simp)
 simp only [C3,D8,D3] at h1;unfold SyM.row brL;rw [e87_0_0,H5 h];simp only [B6,h1,nv0,nvS,dvI,dvB,dvS,dvL,B5,D7,H1,H2]
theorem brLoopS (s:SyM) (hs:SyB s) (h:symC s.d s.v s.t s.c=true):∀ n i (out:List (Bk × List Int)),i+n=s.c.length->BrB i out->(∀ b∈out,BkG s.d s.t b.1) →
 rn ⟨27,0,1⟩ [.int (i:Int),.sl (s.d.so.map sRow),.sl (s.d.op.map OpM.row),.sl (s.d.ru.map RuM.row),.sl (s.d.st.map StM.row),.sl (s.v.map sRow),.int s.t.k,.int s.t.n,.str s.t.s,.sl (s.t.as.map Tm.row),.sl (s.c.map iRow),.sl (out.map (brRow s.d s.v s.t))]=some (0,[.sl ((brF s.d s.v s.t (s.c.drop i) out).map (brRow s.d s.v s.t))]):=by
 have h0:=symS s.d hs.d s.v hs.v hs.vs s.t hs.w hs.n s.c hs.c;have h':=h;simp only [symC,C4] at h';have hcs:=incC_isC s.c none h'.2;have hb:=hs.d;have hv:=hs.v;have hw:=hs.w;have hcl:=hs.c;have hsy:=h'.1;obtain ⟨d,v,t,cs⟩:=s;simp only at h h0 hcs hb hv hw hcl hsy ⊢;intro n;induction n with
 | zero =>
  intro i out hi _ _;obtain rfl:i=cs.length:=by omega
  rw [e27_0_1];simp only [B6,C1,D6,H4,H2,C7,brF]
 | succ n ih =>
  intro i out hi ho hk;have hlt:i<cs.length:=by omega
  have hc:=hcs _ (C0 hlt);obtain ⟨hd,htn,hg,hgn,hx⟩:=nx_bkG hb hw hsy hc;have hol:=ho.l;have hpl:∀ b∈out,(bP b.1).length<=1048576:=fun b hb'=>by
   have h1:=(hk b hb').i;cases hq:b.1 with
   | none=>exact J4 _
   | some y=>have:=(h1 y hq).2.1; show y.2.length<=_; omega
  have h1:=r105 v t (small_of t (by omega)) cs[i]
  have h2:=r104 d hd (inst v t cs[i]) hg hgn;rw [nrS_bk] at h2;have h3:=r106 d v t out (by omega) hpl (nx d (inst v t cs[i]))
  have h4:=r107 d hd v hv (cs.map iRow) t hw htn (nx d (inst v t cs[i])) hx;have hob:=addB_b ho (nx d (inst v t cs[i])) cs[i];have hkb:∀ b∈addB out (nx d (inst v t cs[i])) cs[i],BkG d t b.1:=addB_k hk hx;have h5:=ih (i+1) _ (by omega) hob hkb
  rw [C2 hlt,e27_0_1];simp only [brF,B6,C1,hlt,H3,H1,inbN,B7,rowAt_map hlt,wrap_succ hlt (maxB (by omega)),h0,h,iRow,nv0,nvS,dvI,dvB,dvS,dvL,B5,h1,h2,h3,h4]
  generalize nx d (inst v t cs[i])=x at hx h5 ⊢;generalize hc0:cs[i]=c at h5 ⊢;cases hf:fndB out x with
  | some j =>
   obtain ⟨hj,hjx⟩:=fndB_lt hf;have e8:(nth (rowAt (out.map (brRow d v t)) j) 8).L=out[j].2.map iRow:=by rw [rowAt_map hj]; rfl
   have hset:=br_set (d:=d) (v:=v) (t:=t) hj (out[j].2.map iRow++[[.int c]]) (out[j].2++[c]) (by simp [iRow])
   have hlen:=br_len (d:=d) (v:=v) (t:=t) hj;have b1:F6 (out[j].2.length+1) M63=true:=b63 (by have:=ho.c _ (C0 hj); omega)
   have b2:K4 j out.length=true:=F2 hj;have b3:¬((j:Int)<0):=by omega
   rw [addB_some hf hj] at h5 ⊢;simp only [fndI,hf,b3,H4,H2,H1,inbN,hlen,B6,hj,H3,B7,b2,e8,C5,D0,D9,b1,D7,O0,hset,h5]
  | none =>
   have b1:F6 (out.length+1) M63=true:=b63 (by omega)
   have hj:out.length<(out++[(x,([]:List Int))]).length:=by simp
   have hr:out.map (brRow d v t)++[[.int (bK d t x),.int (bR x),.sl ((bP x).map iRow),.sl (v.map sRow),.int (bT d t x).k,.int (bT d t x).n,.str (bT d t x).s,.sl ((bT d t x).as.map Tm.row),.sl []]]=(out++[(x,([]:List Int))]).map (brRow d v t):=by rw [E1]; rfl
   have e0:(out++[(x,([]:List Int))])[out.length]=(x,[]):=by simp
   have e8:(nth (rowAt ((out++[(x,([]:List Int))]).map (brRow d v t)) out.length) 8).L=[]:=by rw [rowAt_map hj,e0]; rfl
   have hset:=br_set (d:=d) (v:=v) (t:=t) hj [[.int c]] [c] rfl;rw [e0,set_last] at hset;have hlen:=br_len (d:=d) (v:=v) (t:=t) hj;have b2:K4 out.length (out.length+1)=true:=F2 (F1 _);have b4:out.length<out.length+1:=F4 _;have b5:F6 1 M63=true:=rfl;rw [addB_none hf] at h5 ⊢;simp only [fndI,hf,show decide ((-1:Int)<0)=true from rfl,H1,hr,inbN,hlen,B6,E5,C5,D0,D9,B7,b1,b2,b4,b5,H3,e8,C8,D7,O0,hset,h5]
theorem r27 (s:SyM) (hs:SyB s):rn ⟨27,0,0⟩ s.row=some (0,[.sl ((brL s).map (brRow s.d s.v s.t))]):=by
 cases h:symC s.d s.v s.t s.c with
 | true =>
  have h1:=brLoopS s hs h s.c.length 0 [] (D9 _) ⟨F1 _,by simp⟩ (by simp)
  simp only [C3,D8,D3] at h1;unfold SyM.row brL;rw [e27_0_0,H5 h];simp only [h1,nv0,nvS,dvI,dvB,dvS,dvL,B5,D7,H1,H2]
 | false =>
  have h0:=symS s.d hs.d s.v hs.v hs.vs s.t hs.w hs.n s.c hs.c;have h1:rn ⟨27,0,1⟩ [.int 0,.sl (s.d.so.map sRow),.sl (s.d.op.map OpM.row),.sl (s.d.ru.map RuM.row),.sl (s.d.st.map StM.row),.sl (s.v.map sRow),.int (s.t).k,.int (s.t).n,.str (s.t).s,.sl ((s.t).as.map Tm.row),.sl (s.c.map iRow),.sl []]=some (0,[.sl []]):=by
   rw [e27_0_1];simp only [h0,h,nv0,nvS,dvI,dvB,dvS,dvL,B5,H2];cases decide ((0:Int)<((s.c.map iRow).length:Nat)) <;> rfl
  unfold SyM.row brL;rw [e27_0_0,h];simp only [h1,nv0,nvS,dvI,dvB,dvS,dvL,B5,D7,H1,H2];rfl
end Go.Q.S
end
section
namespace Go.Q.S
open Go Go.Q Go.Proofs
end Go.Q.S
end
section
namespace Go.Q.S
open Go Go.Q Go.Proofs
theorem opI (g:ClM) (hb:ClB g) (t:Tm) (ht:Small t) (cl:List Int) (hcl:cl.length<=1048576) (hc:∀ k∈cl,isC g.v.length k=true):rn ⟨211,0,0⟩ [.sl (g.v.map sRow),.int (g.l).k,.int (g.l).n,.str (g.l).s,.sl ((g.l).as.map Tm.row),.int (g.r).k,.int (g.r).n,.str (g.r).s,.sl ((g.r).as.map Tm.row),.sl (g.g.map Gu.row),.sl (g.v.map sRow),.int t.k,.int t.n,.str t.s,.sl (t.as.map Tm.row),.sl (cl.map iRow)]=some (0,[.sl ((opC g t cl).map iRow)]):=by
 have hrn:=hb.rn;have hlp:∀ n i (acc:List Int),i+n=cl.length->acc.length<=i->rn ⟨211,0,1⟩ [.sl (cl.map iRow),.int (cl.length:Int),.int (i:Int),.sl (g.v.map sRow),.int (g.l).k,.int (g.l).n,.str (g.l).s,.sl ((g.l).as.map Tm.row),.int (g.r).k,.int (g.r).n,.str (g.r).s,.sl ((g.r).as.map Tm.row),.sl (g.g.map Gu.row),.sl (g.v.map sRow),.int t.k,.int t.n,.str t.s,.sl (t.as.map Tm.row),.sl (cl.map iRow),.sl (acc.map iRow)]=some (0,[.sl ((acc++opC g t (cl.drop i)).map iRow)]):=by
  intro n;induction n with
  | zero =>
   intro i acc hi _;obtain rfl:i=cl.length:=by omega
   rw [e211_0_1];simp only [B6,C1,D6,H4,H2,C7,opC,T0,F5]
  | succ n ih =>
   intro i acc hi ha;have hlt:i<cl.length:=by omega
   have hk:=hc _ (C0 hlt);have h1:=r120 g.v t ht (cl.map iRow) cl[i];rw [hk] at h1;have h2:=r221 g.v g.l g.r (small_of _ hrn) (g.g.map Gu.row) cl[i];have h3:=r289 (S.instR g.v t cl[i]) (S.instR g.v g.r cl[i]) (S.instR_small ht cl[i]);have b1:F6 (acc.length+1) M63=true:=nb (by omega)
   have i1:=ih (i+1) acc (by omega) (by omega)
   have i2:=ih (i+1) (acc++[cl[i]]) (by omega) (by simp; omega)
   simp only [E1,C6,D8,E2,D4,C8] at i2;unfold opC at i1 i2 ⊢;rw [C2 hlt,S4,e211_0_1];simp only [B6,C1,hlt,H3,H1,inbN,B7,rowAt_map hlt,wrap_succ hlt (maxB (by omega)),iRow,nv0,nvS,dvI,dvB,dvS,dvL,B5,h1,h2,h3,D2,H2,C5,D0,D9,b1]
   cases eqb (S.instR g.v t cl[i]).row (S.instR g.v g.r cl[i]).row with
   | true=>exact i1
   | false =>
    simp only [J7,H1,if_true,E1,C6];exact i2
 have h1:=hlp cl.length 0 [] (D9 _) (F1 _);simp only [C3,D3,D8,C8] at h1;rw [e211_0_0];simp only [B6,h1,nv0,nvS,dvI,dvB,dvS,dvL,B5,D7,H1,H2]
theorem opS (g:ClM) (hb:ClB g) (t:Tm) (ht:Small t) (cl:List Int) (hcl:cl.length<=1048576) (hc:∀ k∈cl,isC g.v.length k=true):rn ⟨281,0,0⟩ [.sl (g.v.map sRow),.int (g.l).k,.int (g.l).n,.str (g.l).s,.sl ((g.l).as.map Tm.row),.int (g.r).k,.int (g.r).n,.str (g.r).s,.sl ((g.r).as.map Tm.row),.sl (g.g.map Gu.row),.sl (g.v.map sRow),.int t.k,.int t.n,.str t.s,.sl (t.as.map Tm.row),.sl (cl.map iRow)]=some (0,[.sl ((opC g t cl).map iRow)]):=by
 have hrn:=hb.rn;have hlp:∀ n i (acc:List Int),i+n=cl.length->acc.length<=i->rn ⟨281,0,1⟩ [.int (i:Int),.sl (g.v.map sRow),.int (g.l).k,.int (g.l).n,.str (g.l).s,.sl ((g.l).as.map Tm.row),.int (g.r).k,.int (g.r).n,.str (g.r).s,.sl ((g.r).as.map Tm.row),.sl (g.g.map Gu.row),.sl (g.v.map sRow),.int t.k,.int t.n,.str t.s,.sl (t.as.map Tm.row),.sl (cl.map iRow),.sl (acc.map iRow)]=some (0,[.sl ((acc++opC g t (cl.drop i)).map iRow)]):=by
  intro n;induction n with
  | zero =>
   intro i acc hi _;obtain rfl:i=cl.length:=by omega
   rw [e281_0_1];simp only [B6,C1,D6,H4,H2,C7,opC,T0,F5]
  | succ n ih =>
   intro i acc hi ha;have hlt:i<cl.length:=by omega
   have hk:=hc _ (C0 hlt);have h1:=r118 g.v t ht (cl.map iRow) cl[i];rw [hk] at h1;have h2:=r136 g.v g.l g.r (small_of _ hrn) (g.g.map Gu.row) cl[i];have h3:=r217 (S.instR g.v t cl[i]) (S.instR g.v g.r cl[i]) (S.instR_small ht cl[i]);have b1:F6 (acc.length+1) M63=true:=nb (by omega)
   have i1:=ih (i+1) acc (by omega) (by omega)
   have i2:=ih (i+1) (acc++[cl[i]]) (by omega) (by simp; omega)
   simp only [E1,C6,D8,E2,D4,C8] at i2;unfold opC at i1 i2 ⊢;rw [C2 hlt,S4,e281_0_1];simp only [B6,C1,hlt,H3,H1,inbN,B7,rowAt_map hlt,wrap_succ hlt (maxB (by omega)),iRow,nv0,nvS,dvI,dvB,dvS,dvL,B5,h1,h2,h3,D2,H2,C5,D0,D9,b1]
   cases eqb (S.instR g.v t cl[i]).row (S.instR g.v g.r cl[i]).row with
   | true=>exact i1
   | false =>
    simp only [J7,H1,if_true,E1,C6];exact i2
 have h1:=hlp cl.length 0 [] (D9 _) (F1 _);simp only [C3,D3,D8,C8] at h1;rw [e281_0_0];simp only [h1,nv0,nvS,dvI,dvB,dvS,dvL,B5,D7,H1,H2]
theorem mpI (vars:List ByteArray) (c:Int) (target:List ByteArray) (l:List Bnd) (hl:l.length<=1048576) (hs:∀ b∈l,Small b.2):rn ⟨290,0,0⟩ [.sl (vars.map sRow),.int c,.sl (target.map sRow),.sl (l.map Bnd.row)]=some (0,[.int (mapRes vars c target l).1,.bool (mapRes vars c target l).2]):=by
 have hi:=r169 vars.length c;rw [<- mapRes_eq,e290_0_0];simp only [B6,hi,nv0,nvS,dvI,dvB,dvS,dvL,B5];cases hC:isC vars.length c with
 | false=>simp
 | true =>
  simp only [D2,H2];by_cases h3:target.length<=3
  case neg =>
   rw [H6 (fun h=>h3 h.2),H7 (by omega:(3:Int)<(target.length:Int))]; rfl
  rw [H5 ⟨trivial,h3⟩,H8 (by omega:¬(3:Int)<(target.length:Int))]
  simp only [H2];have hf:=fold_loop (F:=fun i s=>rn ⟨290,0,1⟩ [.sl (vars.map sRow),.int c,.sl (l.map Bnd.row),.int s,.sl (target.map sRow),.int (target.length:Int),.int (i:Int)]) (xs:=target) (mapStep vars c l) (A:=fun s=>some (0,[.int s])) (B:=some (1,[.int 0])) (fun i hi s=>?_) (fun s=>?_) 0
  · simp only [C3] at hf
    rw [hf];cases ofold (mapStep vars c l) target 0 <;> rfl
  · have hb:=r276 l hl target[i]
    rw [e290_0_1];simp only [B6,C1,hi,H3,H1,inbN,B7,rowAt_map hi,wrap_succ hi (maxB (by omega)),sRow,nv0,nvS,dvI,dvB,dvS,dvL,B5]
    rw [hb];unfold mapStep;cases hq:bnd l target[i] with
    | none=>rfl
    | some t =>
     obtain ⟨b,hbm,rfl⟩:=bnd_mem hq;have h1:=r199 vars c;have h2:=r198 (caseS vars c) (caseS_len vars c) (caseS_small vars c) b.2 (hs b hbm);have h3:=r197 (aS (caseS vars c) b.2) (aS_small (caseS_small vars c) b.2 (hs b hbm));have h4:=r274 (rW (aS (caseS vars c) b.2));simp only [h1,h2,h3,h4,nv0,nvS,dvI,dvB,dvS,dvL,B5,D2,H2];unfold inst;cases isW (rW (aS (caseS vars c) b.2)) <;> rfl
  · rw [e290_0_1]
    simp
theorem mpS (vars:List ByteArray) (c:Int) (target:List ByteArray) (l:List Bnd) (hl:l.length<=1048576) (hs:∀ b∈l,Small b.2):rn ⟨282,0,0⟩ [.sl (vars.map sRow),.int c,.sl (target.map sRow),.sl (l.map Bnd.row)]=some (0,[.int (mapRes vars c target l).1,.bool (mapRes vars c target l).2]):=by
 have hi:=r155 vars.length;have hj:=rIn c 0 (IntKind.i64.wrap (cnt4 vars.length-1));rw [wcnt] at hj;rw [<- mapRes_eq,e282_0_0];simp only [B6,hi,hj,nv0,nvS,dvI,dvB,dvS,dvL,B5];cases hC:isC vars.length c with
 | false=>simp
 | true =>
  simp only [D2,H2];by_cases h3:target.length<=3
  case neg =>
   rw [H6 (fun h=>h3 h.2),H7 (by omega:(3:Int)<(target.length:Int))]; rfl
  rw [H5 ⟨trivial,h3⟩,H8 (by omega:¬(3:Int)<(target.length:Int))]
  simp only [H2];have hf:=fold_loop (F:=fun i s=>rn ⟨282,0,1⟩ [.sl (vars.map sRow),.int c,.sl (target.map sRow),.sl (l.map Bnd.row),.int s,.int (i:Int)]) (xs:=target) (mapStep vars c l) (A:=fun s=>some (0,[.int s])) (B:=some (1,[.int 0])) (fun i hi s=>?_) (fun s=>?_) 0
  · simp only [C3] at hf
    rw [hf];cases ofold (mapStep vars c l) target 0 <;> rfl
  · have hb:=r269 l hl hs target[i]
    rw [e282_0_1];simp only [B6,C1,hi,H3,H1,inbN,B7,rowAt_map hi,wrap_succ hi (maxB (by omega)),sRow,nv0,nvS,dvI,dvB,dvS,dvL,B5]
    rw [hb];unfold mapStep;cases hq:bnd l target[i] with
    | none =>
     have h1:=r105 vars tm0 (small_word ..) c;have h1':rn ⟨105,0,0⟩ [.sl (vars.map sRow),.int 0,.int 0,.str ⟨#[]⟩,.sl [],.int c]=_:=h1;simp only [nv0,nvS,dvI,dvB,dvS,dvL,B5,h1'];rfl
    | some t =>
     obtain ⟨b,hbm,rfl⟩:=bnd_mem hq;have h1:=r105 vars b.2 (hs b hbm) c;have h4:=r266 (inst vars b.2 c);simp only [nv0,nvS,dvI,dvB,dvS,dvL,B5,h1,h4,D2,H2];have e:IntKind.i64.wrap (s*4)=IntKind.i64.wrap (4*s):=by rw [Int.mul_comm]
     rw [e];cases isW (inst vars b.2 c) <;> rfl
  · rw [e282_0_1]
    simp
theorem r212 (c:ClM) (hc:ClB c) (sub:List Bnd) (hsl:sub.length<=1048576) (hs:∀ b∈sub,Small b.2) (g:ClM) (hg:ClB g) (t:Tm) (ht:Small t) (cl:List Int) (k:Int) (hk:isC g.v.length k=true) (hgu:∀ q∈c.g,q.ok):rn ⟨212,0,0⟩ [.sl (c.v.map sRow),.int (c.l).k,.int (c.l).n,.str (c.l).s,.sl ((c.l).as.map Tm.row),.int (c.r).k,.int (c.r).n,.str (c.r).s,.sl ((c.r).as.map Tm.row),.sl (c.g.map Gu.row),.sl (sub.map Bnd.row),.sl (g.v.map sRow),.int (g.l).k,.int (g.l).n,.str (g.l).s,.sl ((g.l).as.map Tm.row),.int (g.r).k,.int (g.r).n,.str (g.r).s,.sl ((g.r).as.map Tm.row),.sl (g.g.map Gu.row),.sl (g.v.map sRow),.int t.k,.int t.n,.str t.s,.sl (t.as.map Tm.row),.sl (cl.map iRow),.int k]=some (0,[.bool (mapB c sub g t k)]):=by
 have h1:=mpI g.v k c.v sub hsl hs;rw [e212_0_0];simp only [h1,nv0,nvS,dvI,dvB,dvS,dvL,B5];unfold mapB;cases hm:(mapRes g.v k c.v sub).2 with
 | false=>rfl
 | true =>
  have hn:=map_isC hm;generalize (mapRes g.v k c.v sub).1=n at hn ⊢;have h2:=r199 c.v n;have h3:=r291 (caseS c.v n) (caseS_len c.v n) (fun b hb=>by unfold caseS at hb; obtain ⟨p,_,rfl⟩:=List.mem_map.1 hb; rfl) c.g hc.g hgu
  have h4:=r120 c.v c.l (small_of _ hc.ln) [] n;rw [hn] at h4;have h5:=r120 g.v t ht (cl.map iRow) k;have h6:=r289 (S.instR c.v c.l n) (S.instR g.v t k) (S.instR_small (small_of _ hc.ln) n);have h7:=r221 c.v c.l c.r (small_of _ hc.rn) (c.g.map Gu.row) n;have h8:=r221 g.v g.l g.r (small_of _ hg.rn) (g.g.map Gu.row) k;have h9:=r289 (S.instR c.v c.r n) (S.instR g.v g.r k) (S.instR_small (small_of _ hc.rn) n);simp only [D2,H2,h2,h3,nv0,nvS,dvI,dvB,dvS,dvL,B5,E8];cases c.g.all fun q=>holds (appG (caseS c.v n) q) with
  | false=>rfl
  | true =>
   simp only [D2,H2,h4,h5,h6,nv0,nvS,dvI,dvB,dvS,dvL,B5,E8];cases eqb (S.instR c.v c.l n).row (S.instR g.v t k).row with
   | false=>rfl
   | true=>simp only [H1,h7,h8,h9,nv0,nvS,dvI,dvB,dvS,dvL,B5,E8]
end Go.Q.S
end
section
namespace Go.Q.S
open Go Go.Q Go.Proofs
theorem i64len {n:Nat} (h:n<=1048577):IntKind.i64.wrap ((n:Int)-1)=(n:Int)-1:=IntWalk.i64_in _ (by omega)
theorem clAt_some {cs:List ClM} {i:Int} {c:ClM} (h:clAt cs i=some c):∃ j:Nat,i=(j:Int)/\∃ hj:j<cs.length,cs[j]=c:=by
 unfold clAt at h;split at h
 · obtain ⟨hj,e⟩:=E4.1 h
   exact ⟨i.toNat,by omega,hj,e⟩
 · simp at h
theorem clAt_none {cs:List ClM} {i:Int} (h:clAt cs i=none):i<0\/(cs.length:Int)<=i:=by
 unfold clAt at h;split at h
 · rw [List.getElem?_eq_none_iff] at h; omega
 · omega
theorem clAt_nat {cs:List ClM} {j:Nat} (h:j<cs.length):clAt cs (j:Int)=some cs[j]:=by
 unfold clAt;rw [H5 (by omega)]; simp [h]
theorem r204 (cs:List ClM) (hcs:∀ c∈cs,ClB c) (hgu:∀ c∈cs,∀ q∈c.g,q.ok) (hcl:cs.length<=1048576) (j:Nat) (hj:j<cs.length) (x:PnM) (hx:PnB x) (t:Tm) (ht:Small t) (cl:List Int) (hl:cl.length<=1048576) (hk:∀ k∈cl,isC cs[j].v.length k=true):rn ⟨204,0,0⟩ [.sl (cs.map cRow),.int (j:Int),.sl (cs[j].v.map sRow),.int t.k,.int t.n,.str t.s,.sl (t.as.map Tm.row),.sl (cl.map iRow),.int x.k,.sl (x.nx.map iRow),.int x.c,.sl (x.s.map Bnd.row)]=some (0,[.bool (match clAt cs x.c with | some c=>cl.all (mapB c x.s cs[j] t) | none=>false)]):=by
 have hin:=rIn x.c 0 (IntKind.i64.wrap ((cs.length:Int)-1));rw [i64len (by omega)] at hin
 rw [e204_0_0];simp only [B6,i64len (show cs.length<=1048577 by omega),hin,nv0,nvS,dvI,dvB,dvS,dvL,B5]
 cases hq:clAt cs x.c with
 | none =>
  have:=clAt_none hq;have e:(decide ((0:Int)<=x.c)&&decide (x.c<=(cs.length:Int)-1))=false:=by
   rw [Bool.and_eq_false_iff];rcases this with h | h
   · exact .inl (H8 (by omega))
   · exact .inr (H8 (by omega))
  simp only [e,J7,H1]
 | some c =>
  obtain ⟨i,hi,hic,e⟩:=clAt_some hq;subst e;have hci:=hcs _ (C0 hic);have hcj:=hcs _ (C0 hj);have e:(decide ((0:Int)<=(i:Int))&&decide ((i:Int)<=(cs.length:Int)-1))=true:=by simp; omega
  have hlp:∀ n m,m+n=cl.length->rn ⟨204,0,1⟩ [.sl (cs.map cRow),.int (j:Int),.int (m:Int),.sl (cs[j].v.map sRow),.int t.k,.int t.n,.str t.s,.sl (t.as.map Tm.row),.sl (cl.map iRow),.int x.k,.sl (x.nx.map iRow),.int (i:Int),.sl (x.s.map Bnd.row),.sl (cs[i].v.map sRow),.int (cs[i].l).k,.int (cs[i].l).n,.str (cs[i].l).s,.sl ((cs[i].l).as.map Tm.row),.int (cs[i].r).k,.int (cs[i].r).n,.str (cs[i].r).s,.sl ((cs[i].r).as.map Tm.row),.sl (cs[i].g.map Gu.row)]=bif (cl.drop m).all (mapB cs[i] x.s cs[j] t) then some (0,[]) else some (1,[]):=by
   intro n;induction n with
   | zero =>
    intro m hm;obtain rfl:m=cl.length:=by omega
    rw [e204_0_1];simp only [B6,C1,D6,H4,H2,C7,K6,H1]
   | succ n ih =>
    intro m hm;have hlt:m<cl.length:=by omega
    have hkm:=hk _ (C0 hlt);have h1:=mpS cs[j].v cl[m] cs[i].v x.s hx.s hx.b;have h0:=ih (m+1) (by omega)
    rw [C2 hlt,J1,e204_0_1];simp only [B6,C1,hlt,H3,H1,inbN,B7,rowAt_map hlt,wrap_succ hlt (maxB (by omega)),iRow,nv0,nvS,dvI,dvB,dvS,dvL,B5,h1]
    unfold mapB at h0 ⊢;cases hmr:(mapRes cs[j].v cl[m] cs[i].v x.s).2 with
    | false=>rfl
    | true =>
     have hn:=map_isC hmr;generalize (mapRes cs[j].v cl[m] cs[i].v x.s).1=a at hn ⊢;have h2:=r205 cs[i].v cs[i].g hci.g (hgu _ (C0 hic));have h3:=r134 ((allC cs[i].v cs[i].g).map fun (i:Nat)=>(i:Int)) (by rw [B6]; have:=S.allC_len cs[i].v cs[i].g; unfold maxLen; omega) a
     rw [allC_has hn] at h3;have h4:=r105 cs[i].v cs[i].l (small_of _ hci.ln) a;have h5:=r105 cs[j].v t ht cl[m];have h6:=r217 (inst cs[i].v cs[i].l a) (inst cs[j].v t cl[m]) (inst_small (small_of _ hci.ln) a);have h7:=r136 cs[i].v cs[i].l cs[i].r (small_of _ hci.rn) (cs[i].g.map Gu.row) a;have h8:=r136 cs[j].v cs[j].l cs[j].r (small_of _ hcj.rn) (cs[j].g.map Gu.row) cl[m];have h9:=r217 (S.instR cs[i].v cs[i].r a) (S.instR cs[j].v cs[j].r cl[m]) (S.instR_small (small_of _ hci.rn) a);rw [instR_C hn,instR_C hkm];simp only [D2,H2,h2,nrow_irow,h3,nv0,nvS,dvI,dvB,dvS,dvL,B5,E8];cases cs[i].g.all fun q=>holds (appG (caseS cs[i].v a) q) with
     | false=>rfl
     | true =>
      simp only [D2,H2,h4,h5,h6,nv0,nvS,dvI,dvB,dvS,dvL,B5,E8];cases eqb (inst cs[i].v cs[i].l a).row (inst cs[j].v t cl[m]).row with
      | false=>rfl
      | true =>
       simp only [D2,H2,rowAt_map hj,cRow,hj,H3,H1,h7,h8,h9,nv0,nvS,dvI,dvB,dvS,dvL,B5,E8];cases eqb (S.instR cs[i].v cs[i].r a).row (S.instR cs[j].v cs[j].r cl[m]).row with
       | false=>rfl
       | true=>simp only [D2,H2,E8]; exact h0
  have h1:=hlp cl.length 0 (D9 _);simp only [C3,D3] at h1;rw [hi];simp only [e,D2,H2,inbN,hic,H3,H1,B7,rowAt_map hic,nv0,nvS,dvI,dvB,dvS,dvL,B5];rw [show ∀ q:Bool,(bif q then (some (0,[]):R) else some (1,[]))=bif q then some (0,[]) else some (1,[]) from fun _=>rfl] at h1
  show (rn ⟨204,0,1⟩ [.sl (cs.map cRow),.int (j:Int),.int 0,.sl (cs[j].v.map sRow),.int t.k,.int t.n,.str t.s,.sl (t.as.map Tm.row),.sl (cl.map iRow),.int x.k,.sl (x.nx.map iRow),.int (i:Int),.sl (x.s.map Bnd.row),.sl (cs[i].v.map sRow),.int (cs[i].l).k,.int (cs[i].l).n,.str (cs[i].l).s,.sl ((cs[i].l).as.map Tm.row),.int (cs[i].r).k,.int (cs[i].r).n,.str (cs[i].r).s,.sl ((cs[i].r).as.map Tm.row),.sl (cs[i].g.map Gu.row)]).bind _=_
  rw [h1];cases cl.all (mapB cs[i] x.s cs[j] t) <;> rfl
theorem r129 (d:DfM) (cs:List ClM) (hcs:∀ c∈cs,ClB c) (hcd:∀ c∈cs,c.d=d) (hcl:cs.length<=1048576) (k:Int):rn ⟨129,0,0⟩ [.sl (d.so.map sRow),.sl (d.op.map OpM.row),.sl (d.ru.map RuM.row),.sl (d.st.map StM.row),.sl (cs.map cRow),.int k]=some (0,[.bool (areC cs k).isSome]):=by
 have hlp:∀ n i,i+n=cs.length->rn ⟨287,0,1⟩ [.sl (cs.map cRow),.int (cs.length:Int),.int (i:Int),.sl (d.so.map sRow),.sl (d.op.map OpM.row),.sl (d.ru.map RuM.row),.sl (d.st.map StM.row)]=bif (cs.drop i).all ClM.valid then some (0,[.sl (d.so.map sRow),.sl (d.op.map OpM.row),.sl (d.ru.map RuM.row),.sl (d.st.map StM.row)]) else some (1,[.int (((cs.drop i).takeWhile ClM.valid).length+i:Nat),.sl (d.so.map sRow),.sl (d.op.map OpM.row),.sl (d.ru.map RuM.row),.sl (d.st.map StM.row)]):=by
  intro n;induction n with
  | zero =>
   intro i hi;obtain rfl:i=cs.length:=by omega
   rw [e287_0_1];simp only [B6,C1,D6,H4,H2,C7,K6,H1]
  | succ n ih =>
   intro i hi;have hlt:i<cs.length:=by omega
   have hm:=C0 hlt;have h1:=r210 cs[i] (hcs _ hm);unfold ClM.row at h1;rw [hcd _ hm] at h1;have h2:rn ⟨209,0,0⟩ [.sl (cs[i].v.map sRow),.int (cs[i].l).k,.int (cs[i].l).n,.str (cs[i].l).s,.sl ((cs[i].l).as.map Tm.row),.int (cs[i].r).k,.int (cs[i].r).n,.str (cs[i].r).s,.sl ((cs[i].r).as.map Tm.row),.sl (cs[i].g.map Gu.row),.sl (d.so.map sRow),.sl (d.op.map OpM.row),.sl (d.ru.map RuM.row),.sl (d.st.map StM.row)]=some (0,[.bool !cs[i].valid,.sl (d.so.map sRow),.sl (d.op.map OpM.row),.sl (d.ru.map RuM.row),.sl (d.st.map StM.row)]):=by
    rw [e209_0_0];simp only [h1,nv0,nvS,dvI,dvB,dvS,dvL,B5]
   have h3:=ih (i+1) (by omega)
   rw [C2 hlt,J1,List.takeWhile_cons,e287_0_1];simp only [B6,C1,hlt,H3,H1,inbN,B7,rowAt_map hlt,wrap_succ hlt (maxB (by omega)),cRow,nv0,nvS,dvI,dvB,dvS,dvL,B5,h2]
   cases cs[i].valid with
   | false=>simp
   | true =>
    simp only [D2,H2,E8,if_true,C5];rw [show ((cs.drop (i+1)).takeWhile ClM.valid).length+1+i=((cs.drop (i+1)).takeWhile ClM.valid).length+(i+1) by omega]
    exact h3
 have h1:=hlp cs.length 0 (D9 _);simp only [C3,D3] at h1;have h2:∃ w,rn ⟨208,0,0⟩ [.sl (cs.map cRow),.sl (d.so.map sRow),.sl (d.op.map OpM.row),.sl (d.ru.map RuM.row),.sl (d.st.map StM.row)]=some (0,[.bool !claimsB cs,.sl (d.so.map sRow),.sl (d.op.map OpM.row),.sl (d.ru.map RuM.row),.sl (d.st.map StM.row)])/\w=0:=by
  refine ⟨0,?_,rfl⟩;rw [e208_0_0,e287_0_0];simp only [B6,h1];unfold claimsB;cases cs.all ClM.valid with
  | true=>rfl
  | false =>
   simp only [H2,nv0,nvS,dvI,dvB,dvS,dvL,B5,J7];have e:decide ((0:Int)<=(((cs.takeWhile ClM.valid).length+0:Nat):Int))=true:=by simp
   simp only [show E6 1 0=false from rfl,show E6 1 1=true from rfl,H2,H1,B5,nv0,nvS,dvI,dvB,dvS,dvL,B5,e]
 obtain ⟨_,h2,_⟩:=h2;rw [e129_0_0];simp only [B6];unfold areC;by_cases h3:cs.length<=3
 · have e3:decide ((cs.length:Int)<=3)=true:=H7 (by omega)
   simp only [e3,H1];cases hq:clAt cs k with
   | none =>
    have e:(if cs.length<=3/\claimsB cs=true then (none:Option ClM) else none)=none:=by split <;> rfl
    rw [e];rcases clAt_none hq with h | h
    · rw [H8 (show ¬(0:Int)<=k by omega)]; rfl
    · by_cases h0:(0:Int)<=k
      · rw [H7 h0,H8 (show ¬ k<(cs.length:Int) by omega)]; rfl
      · rw [H8 h0]; rfl
   | some c =>
    obtain ⟨j,rfl,hj,e⟩:=clAt_some hq;rw [H7 (show (0:Int)<=(j:Int) by omega),H7 (show (j:Int)<(cs.length:Int) by omega)]
    simp only [H1,h2,nv0,nvS,dvI,dvB,dvS,dvL,B5,Bool.not_not];cases hv:claimsB cs with
    | true=>rw [H5 ⟨h3,rfl⟩]; rfl
    | false=>rw [H6 (by simp)]; rfl
 · rw [H8 (by omega:¬(cs.length:Int)<=3),H6 (fun h=>h3 h.1)]; rfl
theorem r124 (d:DfM) (cs:List ClM) (hcs:∀ c∈cs,ClB c) (hcd:∀ c∈cs,c.d=d) (hcl:cs.length<=1048576):rn ⟨124,0,0⟩ [.sl (d.so.map sRow),.sl (d.op.map OpM.row),.sl (d.ru.map RuM.row),.sl (d.st.map StM.row),.sl (cs.map cRow)]=some (0,[.bool (claimsB cs&&(decide (1<=cs.length)&&decide (cs.length<=3)))]):=by
 have hlp:∀ n i,i+n=cs.length->rn ⟨124,0,1⟩ [.sl (cs.map cRow),.int (i:Int),.sl (d.so.map sRow),.sl (d.op.map OpM.row),.sl (d.ru.map RuM.row),.sl (d.st.map StM.row)]=bif (cs.drop i).all ClM.valid then some (0,[.sl (cs.map cRow)]) else some (1,[]):=by
  intro n;induction n with
  | zero =>
   intro i hi;obtain rfl:i=cs.length:=by omega
   rw [e124_0_1];simp only [B6,C1,D6,H4,H2,C7,K6,H1]
  | succ n ih =>
   intro i hi;have hlt:i<cs.length:=by omega
   have hm:=C0 hlt;have h1:=r202 cs[i] (hcs _ hm);unfold ClM.row at h1;rw [hcd _ hm] at h1;have h3:=ih (i+1) (by omega)
   rw [C2 hlt,J1,e124_0_1];simp only [B6,C1,hlt,H3,H1,inbN,B7,rowAt_map hlt,wrap_succ hlt (maxB (by omega)),cRow,nv0,nvS,dvI,dvB,dvS,dvL,B5,h1]
   cases cs[i].valid with
   | false=>rfl
   | true=>simp only [D2,H2,E8]; exact h3
 have h1:=hlp cs.length 0 (D9 _);simp only [C3,D3] at h1;rw [e124_0_0,h1];unfold claimsB;cases cs.all ClM.valid with
 | false=>rfl
 | true =>
  have e1:decide ((1:Int)<=(cs.length:Int))=decide (1<=cs.length):=by by_cases q:1<=cs.length <;> simp [q] <;> omega
  have e2:decide ((cs.length:Int)<=3)=decide (cs.length<=3):=by by_cases q:cs.length<=3 <;> simp [q] <;> omega
  simp only [H1,nv0,nvS,dvI,dvB,dvS,dvL,B5,D7,H1,H2,B6,rIn,e1,e2,E8]
end Go.Q.S
end
section
namespace Go.Q.S
open Go Go.Q Go.Proofs
theorem r203 (g:ClM) (hb:ClB g) (t:Tm) (ht:Small t) (cl:List Int) (hcl:cl.length<=1048576) (hc:∀ k∈cl,isC g.v.length k=true):rn ⟨203,0,0⟩ [.sl (g.v.map sRow),.int (g.l).k,.int (g.l).n,.str (g.l).s,.sl ((g.l).as.map Tm.row),.int (g.r).k,.int (g.r).n,.str (g.r).s,.sl ((g.r).as.map Tm.row),.sl (g.g.map Gu.row),.sl (g.v.map sRow),.int t.k,.int t.n,.str t.s,.sl (t.as.map Tm.row),.sl (cl.map iRow)]=some (0,[.int t.k,.int t.n,.str t.s,.sl (g.v.map sRow),.sl (t.as.map Tm.row),.sl ((opC g t cl).map iRow)]):=by
 have h1:=opS g hb t ht cl hcl hc;have hv:=hb.v;have b1:F6 (0+g.v.length) M63=true:=nb (by omega)
 have b2:F6 (0+cl.length) M63=true:=nb (by omega)
 have h2:=r188 t ht;have h3:rn ⟨280,0,0⟩ [.sl (g.v.map sRow),.int t.k,.int t.n,.str t.s,.sl (t.as.map Tm.row),.sl (cl.map iRow)]=some (0,[.int t.k,.int t.n,.str t.s,.sl (g.v.map sRow),.sl (t.as.map Tm.row),.sl (cl.map iRow)]):=by
  rw [e280_0_0];simp only [D0,B6,b1,b2,H1,h2,nv0,nvS,dvI,dvB,dvS,dvL,B5,C8]
 rw [e203_0_0];simp only [h3,h1,nv0,nvS,dvI,dvB,dvS,dvL,B5]
end Go.Q.S
end
section
namespace Go.Q.S
open Go Go.Q Go.Proofs
end Go.Q.S
end
section
namespace Go.Q.S
open Go Go.Q Go.Proofs
theorem r349 (l:List Bnd) (hl:l.length<=1048576) (hs:∀ b∈l,Small b.2) (s:ByteArray):rn ⟨349,0,0⟩ [.sl (l.map Bnd.row),.str s]=match bnd l s with
 | some t=>some (0,[.int t.k,.int t.n,.str t.s,.bool true,.sl (t.as.map Tm.row)])
 | none=>some (0,[.int 0,.int 0,.str ⟨#[]⟩,.bool false,.sl []]):=by
 have hb:=r276 l hl s;rw [e349_0_0,hb];cases hq:bnd l s with
 | some t =>
  obtain ⟨b,hbm,rfl⟩:=bnd_mem hq;have hc:=r259 b.2 (hs b hbm);simp only [nv0,nvS,dvI,dvB,dvS,dvL,B5,hc]
 | none =>
  have hc:=r259 tm0 (small_word ..);have hc':rn ⟨259,0,0⟩ [.int 0,.int 0,.str ⟨#[]⟩,.sl []]=_:=hc;simp only [nv0,nvS,dvI,dvB,dvS,dvL,B5,hc'];rfl
theorem r335 (l:List Bnd) (hl:l.length<=1048576) (hs:∀ b∈l,Small b.2) (ns:List ByteArray) (hn:ns.length<=1048577):rn ⟨335,0,0⟩ [.sl (l.map Bnd.row),.sl (ns.map sRow)]=some (0,[.sl ((rsB l (srtN ns)).map Bnd.row)]):=by
 have h1:=r246 ns (by omega)
 have hsl:=srtN_len ns;rw [e335_0_0,h1];generalize srtN ns=ms at hsl ⊢;have key:∀ n i (acc:List Bnd),i+n=ms.length->acc.length<=i->rn ⟨335,0,1⟩ [.sl (l.map Bnd.row),.int (ms.length:Int),.int (i:Int),.sl (acc.map Bnd.row),.sl (ms.map sRow)]=some (0,[.sl ((acc++rsB l (ms.drop i)).map Bnd.row)]):=by
  intro n;induction n with
  | zero =>
   intro i acc hi ha;obtain rfl:i=ms.length:=by omega
   rw [e335_0_1];simp only [B6,C1,D6,H4,H2,C7,rsB,List.filterMap_nil,F5]
  | succ n ih =>
   intro i acc hi ha;have hlt:i<ms.length:=by omega
   rw [e335_0_1,C2 hlt,rsB_cons];have hbd:=r349 l hl hs ms[i];have hb2:F6 (acc.length+1) M63=true:=nb (by omega)
   simp only [B6,C1,hlt,H3,H1,inbN,B7,rowAt_map hlt,wrap_succ hlt (maxB (by omega)),sRow,nv0,nvS,dvI,dvB,dvS,dvL,B5,hbd]
   cases hq:bnd l ms[i] with
   | none =>
    have h2:=ih (i+1) acc (by omega) (by omega)
    simp only [nv0,nvS,dvI,dvB,dvS,dvL,B5,H2,h2]
   | some v =>
    have h2:=ih (i+1) (acc++[(ms[i],v)]) (by omega) (by simp; omega)
    simp only [E1,C6,D8,bd_row,sRow] at h2;simp only [nv0,nvS,dvI,dvB,dvS,dvL,B5,H1,C5,D0,D9,hb2,h2,E1,C6,E2,D4,C8,bd_row]
 have h:=key ms.length 0 [] (by omega) (J4 _)
 simp only [C3,D8,D3,C8] at h;simp only [B6,h,nv0,nvS,dvI,dvB,dvS,dvL,B5,D7,H1,H2]
theorem r336 (t:Tm) (h:t.nodes<=1048577):rn ⟨336,0,0⟩ [.int t.k,.int t.n,.str t.s,.sl (t.as.map Tm.row)]=some (0,[.sl ((srtN t.names).map sRow)]):=by
 have h1:=r252 t h;have hnl:=names_nodes t;have h2:=r246 t.names (by omega)
 rw [e336_0_0];simp only [h1,nv0,nvS,dvI,dvB,dvS,dvL,B5,h2]
theorem r299 (t u:Tm) (ht:t.nodes<=1048576) (hu:Small u):rn ⟨299,0,0⟩ [.int t.k,.int t.n,.str t.s,.sl (t.as.map Tm.row),.int u.k,.int u.n,.str u.s,.sl (u.as.map Tm.row)]=some (0,foI ((mT t u []).map (rsl t)) []):=by
 have h1:=mI1 t u [] hu (by simp) (by simpa using ht)
 have h3:=r336 t (by omega)
 have hnl:=names_nodes t;have hsl:=srtN_len t.names;rw [e299_0_0];simp only [D8] at h1;rw [h1];cases hq:mT t u [] with
 | none=>simp only [foI,nv0,nvS,dvI,dvB,dvS,dvL,B5,Option.map_none]; rfl
 | some l =>
  have hls:=mT_all Small (fun t a h ha=>h.sub ha) t u [] l hu (by simp) hq
  have hln:=mT_len _ _ _ _ hq;simp only [D0] at hln;have h4:=r335 l (by omega) hls (srtN t.names) (by omega)
  simp only [foI,nv0,nvS,dvI,dvB,dvS,dvL,B5,D7,H1,H2,D2,h3,h4,K5,rsl]
theorem rsl_ok {t u:Tm} {l:List Bnd} (ht:t.nodes<=1048576) (hu:Small u) (h:mT t u []=some l):(rsl t l).length<=1048576/\∀ b∈rsl t l,Small b.2:=by
 have hls:=mT_all Small (fun t a h ha=>h.sub ha) t u [] l hu (by simp) h
 have h1:=srtN_len t.names;have h2:=srtN_len (srtN t.names);have h3:=names_nodes t;refine ⟨J0 (S1 ..) (by omega),fun b hb=>hls _ (rsB_memp hb).2⟩
theorem r223 (cs:List ClM) (hcs:∀ c∈cs,ClB c) (hln:∀ c∈cs,c.l.nodes<=60) (hcl:cs.length<=1048576) (j:Nat) (hj:j<cs.length) (t:Tm) (ht:Small t) (cl op:List Int) (hl:op.length<=1048576) (hk:∀ k∈op,isC cs[j].v.length k=true):rn ⟨223,0,0⟩ [.sl (cs.map cRow),.int (j:Int),.sl (cs[j].v.map sRow),.int t.k,.int t.n,.str t.s,.sl (t.as.map Tm.row),.sl (cl.map iRow),.sl (op.map iRow)]=some (0,circD (cirF cs[j] t op cs 0)):=by
 have hgu:∀ c∈cs,∀ q∈c.g,q.ok:=fun c hc q hq=>⟨((hcs c hc).ga q hq).ln,((hcs c hc).ga q hq).rn⟩
 have hg:=hcs _ (C0 hj);have hin:∀ (i:Nat) (hi:i<cs.length) (sub:List Bnd),sub.length<=1048576->(∀ b∈sub,Small b.2)->∀ n m (ok:Bool),m+n=op.length->rn ⟨223,0,3⟩ [.sl (cs.map cRow),.int (j:Int),.sl (op.map iRow),.int (i:Int),.bool ok,.sl (cs.map cRow),.int (cs.length:Int),.int (i:Int),.sl (op.map iRow),.int (op.length:Int),.int (m:Int),.sl (cs[j].v.map sRow),.int t.k,.int t.n,.str t.s,.sl (t.as.map Tm.row),.sl (cl.map iRow),.int 0,.int 0,.sl (cs[i].v.map sRow),.int (cs[i].l).k,.int (cs[i].l).n,.str (cs[i].l).s,.sl ((cs[i].l).as.map Tm.row),.int (cs[i].r).k,.int (cs[i].r).n,.str (cs[i].r).s,.sl ((cs[i].r).as.map Tm.row),.sl (cs[i].g.map Gu.row),.sl (sub.map Bnd.row),.sl [],.sl []]=some (0,[.sl (cs.map cRow),.int (j:Int),.sl (op.map iRow),.int (i:Int),.bool (ok&&(op.drop m).all (mapB cs[i] sub cs[j] t)),.sl (cs.map cRow),.int (cs.length:Int),.int (i:Int),.sl (cs[j].v.map sRow),.int t.k,.int t.n,.str t.s,.sl (t.as.map Tm.row),.sl (cl.map iRow),.int 0,.int 0,.sl (sub.map Bnd.row),.sl [],.sl []]):=by
  intro i hi sub hs1 hs2 n;induction n with
  | zero =>
   intro m ok hm;obtain rfl:m=op.length:=by omega
   rw [e223_0_3];simp only [B6,C1,D6,H4,H2,C7,K6,G8]
  | succ n ih =>
   intro m ok hm;have hlt:m<op.length:=by omega
   rw [C2 hlt,J1,e223_0_3];have h1:=r212 cs[i] (hcs _ (C0 hi)) sub hs1 hs2 cs[j] hg t ht cl op[m] (hk _ (C0 hlt)) (hgu _ (C0 hi));cases ok with
   | false =>
    have h2:=ih (m+1) false (by omega)
    simp only [B6,C1,hlt,H3,H1,inbN,B7,rowAt_map hlt,wrap_succ hlt (maxB (by omega)),H2,h2,Bool.false_and]
   | true =>
    have h2:=ih (m+1) (mapB cs[i] sub cs[j] t op[m]) (by omega)
    simp only [B6,C1,hlt,H3,H1,inbN,B7,rowAt_map hlt,wrap_succ hlt (maxB (by omega)),hj,rowAt_map hj,cRow,iRow,nv0,nvS,dvI,dvB,dvS,dvL,B5,h1,h2,E8]
 have hlp:∀ n i,i+n=cs.length->rn ⟨223,0,1⟩ [.sl (cs.map cRow),.int (j:Int),.sl (op.map iRow),.sl (cs.map cRow),.int (cs.length:Int),.int (i:Int),.sl (cs[j].v.map sRow),.int t.k,.int t.n,.str t.s,.sl (t.as.map Tm.row),.sl (cl.map iRow),.int 0,.int 0,.sl [],.sl []]=match cirF cs[j] t op (cs.drop i) i with
  | some x=>some (1,[.int x.k,.int x.c,.sl (x.nx.map iRow),.sl (x.s.map Bnd.row)])
  | none=>some (0,[.int 0,.int 0,.sl [],.sl []]):=by
  intro n;induction n with
  | zero =>
   intro i hi;obtain rfl:i=cs.length:=by omega
   rw [e223_0_1];simp only [B6,C1,D6,H4,H2,C7,cirF]
  | succ n ih =>
   intro i hi;have hlt:i<cs.length:=by omega
   have hci:=C0 hlt;have h1:=r299 cs[i].l t (by have:=hln _ hci; omega) ht
   have h0:=ih (i+1) (by omega)
   rw [C2 hlt,e223_0_1];simp only [B6,C1,hlt,H3,H1,inbN,B7,rowAt_map hlt,wrap_succ hlt (maxB (by omega)),cRow,nv0,nvS,dvI,dvB,dvS,dvL,B5,h1,cirF]
   cases hq:mT cs[i].l t [] with
   | none =>
    have h2:=hin i hlt [] (by simp) (by simp) op.length 0 false (D9 _)
    simp only [C3,D8,Bool.false_and] at h2;simp only [Option.map_none,foI,nv0,nvS,dvI,dvB,dvS,dvL,B5,h2,D7,H1,H2,wrap_succ hlt (maxB (by omega)),h0]
   | some l =>
    obtain ⟨q1,q2⟩:=rsl_ok (by have:=hln _ hci; omega) ht hq
    have h2:=hin i hlt (rsl cs[i].l l) q1 q2 op.length 0 true (D9 _);simp only [C3,E8,D3] at h2;simp only [K5,foI,nv0,nvS,dvI,dvB,dvS,dvL,B5,h2,D7,H1,H2,wrap_succ hlt (maxB (by omega)),h0]
    cases op.all (mapB cs[i] (rsl cs[i].l l) cs[j] t) <;> rfl
 have h1:=hlp cs.length 0 (D9 _);simp only [C3,D3] at h1;rw [e223_0_0];simp only [B6,h1];cases cirF cs[j] t op cs 0 <;> rfl
theorem r222 (cs:List ClM) (hcs:∀ c∈cs,ClB c) (hln:∀ c∈cs,c.l.nodes<=60) (hcl:cs.length<=1048576) (j:Nat) (hj:j<cs.length) (t:Tm) (ht:Small t) (op:List Int) (hl:op.length<=1048576) (hk:∀ k∈op,isC cs[j].v.length k=true):rn ⟨222,0,0⟩ [.sl (cs.map cRow),.int (j:Int),.sl (cs[j].v.map sRow),.int t.k,.int t.n,.str t.s,.sl (t.as.map Tm.row),.sl (op.map iRow)]=some (0,circD (cirF cs[j] t op cs 0)):=by
 have hgu:∀ c∈cs,∀ q∈c.g,q.ok:=fun c hc q hq=>⟨((hcs c hc).ga q hq).ln,((hcs c hc).ga q hq).rn⟩
 have hlp:∀ n i,i+n=cs.length->rn ⟨222,0,1⟩ [.sl (cs.map cRow),.int (j:Int),.int (i:Int),.sl (cs[j].v.map sRow),.int t.k,.int t.n,.str t.s,.sl (t.as.map Tm.row),.sl (op.map iRow),.int 0,.int 0,.sl [],.sl []]=match cirF cs[j] t op (cs.drop i) i with
  | some x=>some (1,[.int x.k,.int x.c,.sl (x.nx.map iRow),.sl (x.s.map Bnd.row)])
  | none=>some (0,[.int 0,.int 0,.sl [],.sl []]):=by
  intro n;induction n with
  | zero =>
   intro i hi;obtain rfl:i=cs.length:=by omega
   rw [e222_0_1];simp only [B6,C1,D6,H4,H2,C7,cirF]
  | succ n ih =>
   intro i hi;have hlt:i<cs.length:=by omega
   have hci:=C0 hlt;have h1:=r298 cs[i].l t (by have:=hln _ hci; omega) ht
   have h0:=ih (i+1) (by omega)
   rw [C2 hlt,e222_0_1];simp only [B6,C1,hlt,H3,H1,inbN,B7,rowAt_map hlt,wrap_succ hlt (maxB (by omega)),cRow,nv0,nvS,dvI,dvB,dvS,dvL,B5,h1,cirF]
   cases hq:mT cs[i].l t [] with
   | none=>simp only [Option.map_none,foI,nv0,nvS,dvI,dvB,dvS,dvL,B5,H2,h0]
   | some l =>
    obtain ⟨q1,q2⟩:=rsl_ok (by have:=hln _ hci; omega) ht hq
    have h2:=r204 cs hcs hgu hcl j hj ⟨3,[],(i:Int),rsl cs[i].l l⟩ ⟨J4 _,q1,q2⟩ t ht op hl hk;simp only [clAt_nat hlt,D8] at h2;unfold rsl at h2 ⊢;simp only [K5,foI,nv0,nvS,dvI,dvB,dvS,dvL,B5,h2,H1];cases op.all (mapB cs[i] (rsB l (srtN (srtN cs[i].l.names))) cs[j] t) with
    | true=>rfl
    | false=>simp only [H2,h0,N4,if_false]
 have h1:=hlp cs.length 0 (D9 _);simp only [C3,D3] at h1;rw [e222_0_0];simp only [h1];cases cirF cs[j] t op cs 0 <;> rfl
theorem fndI (d:DfM) (hd:DfB d) (cs:List ClM) (hcs:∀ c∈cs,ClB c) (hln:∀ c∈cs,c.l.nodes<=60) (hcl:cs.length<=1048576) (j:Nat) (hj:j<cs.length):∀ (r:Nat) (t:Tm) (cl:List Int) (P:List PnM),r<=12->P.length<=60->StG d cs[j].v t cl →
 ∃ X:Rows,rn ⟨140,0,0⟩ [.sl (d.so.map sRow),.sl (d.op.map OpM.row),.sl (d.ru.map RuM.row),.sl (d.st.map StM.row),.sl (cs.map cRow),.int (j:Int),.sl (cs[j].v.map sRow),.int t.k,.int t.n,.str t.s,.sl (t.as.map Tm.row),.sl (cl.map iRow),.bool (decide (r<12)),.int ((12-r:Nat):Int),.sl (P.map PnM.row)]=match fnd d cs cs[j] r P.length t cl with
  | some n=>some (0,[.bool true,.sl ((P++n).map PnM.row)])
  | none=>some (0,[.bool false,.sl X]):=by
 have hg:=hcs _ (C0 hj);intro r;induction r with
 | zero =>
  intro t cl P hr hP hs;have hsm:=small_of t (by have:=hs.n; omega)
  have hci:=incC_isC cl none hs.c;have h1:=opI cs[j] hg t hsm cl (by have:=hs.l; omega) hci
  have hso:StG d cs[j].v t (opC cs[j] t cl):=hs.op (P5);have hol:=hso.l;have h2:=r223 cs hcs hln hcl j hj t hsm cl (opC cs[j] t cl) (by omega) (incC_isC _ none hso.c)
  have b61:F6 (P.length+1) M63=true:=b63 (by omega)
  rw [e140_0_0];simp only [B6,inbN,hj,H3,H1,B7,rowAt_map hj,cRow,nv0,nvS,dvI,dvB,dvS,dvL,B5,h1,fnd];by_cases e60:P.length=60
  · have e:((P.length:Int)=60):=by omega
    rw [fndP_60 e60];exact ⟨_,by simp only [e,H3,H1]; rfl⟩
  have e:¬((P.length:Int)=60):=by omega
  simp only [e,H4,H2];by_cases e0:(opC cs[j] t cl).length=0
  · rw [fndP_0 e60 e0]
    exact ⟨[],by simp only [e0,C3,H3,H1,C5,D0,D9,b61,E1,C6,D8,PnM.row]⟩
  have e0':¬(((opC cs[j] t cl).length:Int)=0):=by omega
  have e12:((12:Int)<=((12-0:Nat):Int)):=by decide
  simp only [e0',H4,H2,show decide ((0:Nat)<12)=true from rfl,H1,h2]
  cases cirF cs[j] t (opC cs[j] t cl) cs 0 with
  | some x =>
   rw [fndP_x e60 e0];exact ⟨[],by simp only [circD,nv0,nvS,dvI,dvB,dvS,dvL,B5,H1,C5,D0,D9,b61,E1,C6,D8,PnM.row]⟩
  | none =>
   rw [fndP_k e60 e0];exact ⟨_,by simp only [circD,nv0,nvS,dvI,dvB,dvS,dvL,B5,H2,e12,H3,H1]; rfl⟩
 | succ r ih =>
  intro t cl P hr hP hs;have hsm:=small_of t (by have:=hs.n; omega)
  have hci:=incC_isC cl none hs.c;have h1:=opI cs[j] hg t hsm cl (by have:=hs.l; omega) hci
  have hso:StG d cs[j].v t (opC cs[j] t cl):=hs.op (P5);have hol:=hso.l;have h2:=r223 cs hcs hln hcl j hj t hsm cl (opC cs[j] t cl) (by omega) (incC_isC _ none hso.c)
  have h3:=r174 (cs[j].v.map sRow) (cl.map iRow) ((opC cs[j] t cl).map iRow) t hsm (by rw [B6]; have:=hg.v; omega) (by rw [B6]; omega)
  obtain ⟨s1,s2,s3⟩:=hso.sy hd hg;have h4:=r87 _ s1 s2;rw [s3] at h4;unfold SyM.row at h4;simp only at h4;have hmem:∀ b∈brF d cs[j].v t (opC cs[j] t cl) [],bK d t b.1=2->StG d cs[j].v (bT d t b.1) b.2:=fun b hb hk=>hso.next hd hb hk
  have hLl:(brF d cs[j].v t (opC cs[j] t cl) []).length<=64:=by
   have:=(brF_inv hd hso.w hso.s (P:=fun _=>True) (opC cs[j] t cl) 0 [] (fun c hc=>⟨incC_isC _ none hso.c c hc,trivial⟩) ⟨F1 _,by simp⟩ (by simp) (by simp)).1.l
   omega
  have b61:F6 (P.length+1) M63=true:=b63 (by omega)
  rw [e140_0_0];simp only [B6,inbN,hj,H3,H1,B7,rowAt_map hj,cRow,nv0,nvS,dvI,dvB,dvS,dvL,B5,h1,fnd];by_cases e60:P.length=60
  · have e:((P.length:Int)=60):=by omega
    rw [fndP_60 e60];exact ⟨_,by simp only [e,H3,H1]; rfl⟩
  have e:¬((P.length:Int)=60):=by omega
  simp only [e,H4,H2];by_cases e0:(opC cs[j] t cl).length=0
  · rw [fndP_0 e60 e0]
    exact ⟨[],by simp only [e0,C3,H3,H1,C5,D0,D9,b61,E1,C6,D8,PnM.row]⟩
  have e0':¬(((opC cs[j] t cl).length:Int)=0):=by omega
  have e12:¬((12:Int)<=((12-(r+1):Nat):Int)):=by omega
  simp only [e0',H4,H2];generalize brF d cs[j].v t (opC cs[j] t cl) []=L at hmem hLl h4 ⊢;have hL1:rn ⟨140,0,1⟩ [.sl (cs.map cRow),.int (j:Int),.int ((12-(r+1):Nat):Int),.int (P.length:Int),.int (L.length:Int),.int 0,.sl (d.so.map sRow),.sl (d.op.map OpM.row),.sl (d.ru.map RuM.row),.sl (d.st.map StM.row),.sl (L.map (brRow d cs[j].v t)),.sl (P.map PnM.row)]=bif L.all (fun b=>decide (bK d t b.1=2)) then some (0,[.sl (cs.map cRow),.int (j:Int),.int ((12-(r+1):Nat):Int),.int (P.length:Int),.sl (d.so.map sRow),.sl (d.op.map OpM.row),.sl (d.ru.map RuM.row),.sl (d.st.map StM.row),.sl (L.map (brRow d cs[j].v t)),.sl (P.map PnM.row)]) else some (1,[.sl (P.map PnM.row)]):=by
   have key:∀ n i,i+n=L.length->rn ⟨140,0,1⟩ [.sl (cs.map cRow),.int (j:Int),.int ((12-(r+1):Nat):Int),.int (P.length:Int),.int (L.length:Int),.int (i:Int),.sl (d.so.map sRow),.sl (d.op.map OpM.row),.sl (d.ru.map RuM.row),.sl (d.st.map StM.row),.sl (L.map (brRow d cs[j].v t)),.sl (P.map PnM.row)]=bif (L.drop i).all (fun b=>decide (bK d t b.1=2)) then some (0,[.sl (cs.map cRow),.int (j:Int),.int ((12-(r+1):Nat):Int),.int (P.length:Int),.sl (d.so.map sRow),.sl (d.op.map OpM.row),.sl (d.ru.map RuM.row),.sl (d.st.map StM.row),.sl (L.map (brRow d cs[j].v t)),.sl (P.map PnM.row)]) else some (1,[.sl (P.map PnM.row)]):=by
    intro n;induction n with
    | zero =>
     intro i hi;obtain rfl:i=L.length:=by omega
     rw [e140_0_1];simp only [B6,C1,D6,H4,H2,C7,K6,H1]
    | succ n ih2 =>
     intro i hi;have hlt:i<L.length:=by omega
     have h5:=ih2 (i+1) (by omega)
     rw [C2 hlt,J1,e140_0_1];simp only [B6,C1,hlt,H3,H1,inbN,B7,rowAt_map hlt,wrap_succ hlt (maxB (by omega)),brRow,nv0,nvS,dvI,dvB,dvS,dvL,B5]
     cases decide (bK d t L[i].1=2) with
     | false=>rfl
     | true=>simp only [D2,H2,E8]; exact h5
   have:=key L.length 0 (D9 _);simpa only [C3,D3] using this
  have hP1:P.map PnM.row++[[.int 2,.sl [],.int 0,.sl []]]=(P++[(⟨2,[],0,[]⟩:PnM)]).map PnM.row:=by rw [E1]; rfl
  have hL3:L.all (fun b=>decide (bK d t b.1=2))=true->∃ Y:Rows,rn ⟨140,0,3⟩ [.sl (cs.map cRow),.int (j:Int),.int ((12-(r+1):Nat):Int),.int (P.length:Int),.int (L.length:Int),.int 0,.sl (d.so.map sRow),.sl (d.op.map OpM.row),.sl (d.ru.map RuM.row),.sl (d.st.map StM.row),.sl [],.sl (L.map (brRow d cs[j].v t)),.sl ((P++[(⟨2,[],0,[]⟩:PnM)]).map PnM.row)]=match chl (fnd d cs cs[j] r) d t L (P.length+1) with
   | some y=>some (0,[.int (P.length:Int),.sl (y.1.map iRow),.sl ((P++[(⟨2,[],0,[]⟩:PnM)]++y.2).map PnM.row)])
   | none=>some (1,[.sl Y]):=by
   intro hall;have key:∀ n i (N:List Int) (Q:List PnM),i+n=L.length->Q.length<=60->N.length<=i->∃ Y:Rows,rn ⟨140,0,3⟩ [.sl (cs.map cRow),.int (j:Int),.int ((12-(r+1):Nat):Int),.int (P.length:Int),.int (L.length:Int),.int (i:Int),.sl (d.so.map sRow),.sl (d.op.map OpM.row),.sl (d.ru.map RuM.row),.sl (d.st.map StM.row),.sl (N.map iRow),.sl (L.map (brRow d cs[j].v t)),.sl (Q.map PnM.row)]=match chl (fnd d cs cs[j] r) d t (L.drop i) Q.length with
    | some y=>some (0,[.int (P.length:Int),.sl ((N++y.1).map iRow),.sl ((Q++y.2).map PnM.row)])
    | none=>some (1,[.sl Y]):=by
    intro n;induction n with
    | zero =>
     intro i N Q hi hQ hN;obtain rfl:i=L.length:=by omega
     refine ⟨[],?_⟩;rw [e140_0_3];simp only [B6,C1,D6,H4,H2,C7,chl,F5]
    | succ n ih2 =>
     intro i N Q hi hQ hN;have hlt:i<L.length:=by omega
     have hk2:bK d t L[i].1=2:=by simpa using E7.1 hall _ (C0 hlt)
     obtain ⟨X,h5⟩:=ih (bT d t L[i].1) L[i].2 Q (by omega) hQ (hmem _ (C0 hlt) hk2)
     have hdt:decide (r<12)=true:=H7 (by omega)
     have hdd:IntKind.i64.wrap (((12-(r+1):Nat):Int)+1)=((12-r:Nat):Int):=by rw [IntWalk.i64_in _ (by omega)]; omega
     have b1:F6 (N.length+1) M63=true:=b63 (by omega)
     rw [hdt] at h5;rw [C2 hlt,e140_0_3];simp only [B6,C1,hlt,H3,H1,inbN,B7,rowAt_map hlt,wrap_succ hlt (maxB (by omega)),brRow,nv0,nvS,dvI,dvB,dvS,dvL,B5,C5,D0,D9,b1,hdd,h5,chl]
     cases hf:fnd d cs cs[j] r Q.length (bT d t L[i].1) L[i].2 with
     | none=>exact ⟨X,rfl⟩
     | some n1 =>
      have hq1:=fnd_len d cs cs[j] r _ _ _ n1 hQ hf;obtain ⟨Y,h6⟩:=ih2 (i+1) (N++[(Q.length:Int)]) (Q++n1) (by omega) (by rw [E5]; omega) (by simp; omega)
      refine ⟨Y,?_⟩;rw [E5] at h6;have e5:N.map iRow++[[.int (Q.length:Int)]]=(N++[(Q.length:Int)]).map iRow:=by rw [E1]; rfl
      simp only [nv0,nvS,dvI,dvB,dvS,dvL,B5,D2,H2,e5,h6];cases chl (fnd d cs cs[j] r) d t (L.drop (i+1)) (Q.length+n1.length) with
      | none=>rfl
      | some y=>simp only [E2,D4,C8]
   obtain ⟨Y,h5⟩:=key L.length 0 [] (P++[(⟨2,[],0,[]⟩:PnM)]) (D9 _) (by simp; omega) (F1 _)
   refine ⟨Y,?_⟩;simpa only [C3,D8,D3,C8,E5,C5,D0,D9] using h5
  by_cases h12:r+1<12
  · simp only [h12,H3,H1,h2,if_true]
    cases cirF cs[j] t (opC cs[j] t cl) cs 0 with
    | some x =>
     rw [fndP_x e60 e0];exact ⟨[],by simp only [circD,nv0,nvS,dvI,dvB,dvS,dvL,B5,H1,C5,D0,D9,b61,E1,C6,D8,PnM.row]⟩
    | none =>
     rw [fndP_k e60 e0];simp only [circD,nv0,nvS,dvI,dvB,dvS,dvL,B5,H2];simp only [e12,H4,H2,h3,nv0,nvS,dvI,dvB,dvS,dvL,B5,h4,B6,hL1];cases hall:L.all fun b=>decide (bK d t b.1=2) with
     | false=>exact ⟨_,by simp only [H2,nv0,nvS,dvI,dvB,dvS,dvL,B5,D7,H1,H2,N4,if_false]; rfl⟩
     | true =>
      obtain ⟨Y,hL3⟩:=hL3 hall;simp only [H1,nv0,nvS,dvI,dvB,dvS,dvL,B5,D7,H1,H2,C5,D0,B6,D9,b61,if_true];rw [hP1,hL3];cases chl (fnd d cs cs[j] r) d t L (P.length+1) with
      | none=>exact ⟨Y,rfl⟩
      | some y =>
       have hib:P.length<(P++(⟨2,[],0,[]⟩:PnM)::y.2).length:=by simp
       refine ⟨[],?_⟩;simp only [nv0,nvS,dvI,dvB,dvS,dvL,B5,D7,H1,H2,mk2,E2,D4,C8,inbN,B6,hib,H3,H1,B7,pn_set1]
  · simp only [h12,H4,H2,if_false]
    rw [fndP_k e60 e0];simp only [e12,H4,H2,h3,nv0,nvS,dvI,dvB,dvS,dvL,B5,h4,B6,hL1];cases hall:L.all fun b=>decide (bK d t b.1=2) with
    | false=>exact ⟨_,by simp only [H2,nv0,nvS,dvI,dvB,dvS,dvL,B5,D7,H1,H2,N4,if_false]; rfl⟩
    | true =>
     obtain ⟨Y,hL3⟩:=hL3 hall;simp only [H1,nv0,nvS,dvI,dvB,dvS,dvL,B5,D7,H1,H2,C5,D0,B6,D9,b61,if_true];rw [hP1,hL3];cases chl (fnd d cs cs[j] r) d t L (P.length+1) with
     | none=>exact ⟨Y,rfl⟩
     | some y =>
      have hib:P.length<(P++(⟨2,[],0,[]⟩:PnM)::y.2).length:=by simp
      refine ⟨[],?_⟩;simp only [nv0,nvS,dvI,dvB,dvS,dvL,B5,D7,H1,H2,mk2,E2,D4,C8,inbN,B6,hib,H3,H1,B7,pn_set1]
end Go.Q.S
end
section
namespace Go.Q.S
open Go Go.Q Go.Proofs
theorem fndS (d:DfM) (hd:DfB d) (cs:List ClM) (hcs:∀ c∈cs,ClB c) (hln:∀ c∈cs,c.l.nodes<=60) (hcl:cs.length<=1048576) (j:Nat) (hj:j<cs.length):∀ (r:Nat) (t:Tm) (cl:List Int) (P:List PnM),r<=12->P.length<=60->StG d cs[j].v t cl →
 ∃ X:Rows,rn ⟨139,0,0⟩ [.sl (d.so.map sRow),.sl (d.op.map OpM.row),.sl (d.ru.map RuM.row),.sl (d.st.map StM.row),.sl (cs.map cRow),.int (j:Int),.sl (cs[j].v.map sRow),.int t.k,.int t.n,.str t.s,.sl (t.as.map Tm.row),.sl (cl.map iRow),.int ((12-r:Nat):Int),.sl (P.map PnM.row)]=match fnd d cs cs[j] r P.length t cl with
  | some n=>some (0,[.bool true,.sl ((P++n).map PnM.row)])
  | none=>some (0,[.bool false,.sl X]):=by
 have hg:=hcs _ (C0 hj);intro r;induction r with
 | zero =>
  intro t cl P hr hP hs;have hsm:=small_of t (by have:=hs.n; omega)
  have hci:=incC_isC cl none hs.c;have h1:=r203 cs[j] hg t hsm cl (by have:=hs.l; omega) hci
  have hso:StG d cs[j].v t (opC cs[j] t cl):=hs.op (P5);have hol:=hso.l;have h2:=r222 cs hcs hln hcl j hj t hsm (opC cs[j] t cl) (by omega) (incC_isC _ none hso.c)
  obtain ⟨s1,s2,s3⟩:=hso.sy hd hg;have h4:=r27 _ s1;unfold SyM.row at h4;simp only at h4;have b61:F6 (P.length+1) M63=true:=b63 (by omega)
  rw [e139_0_0];simp only [B6,inbN,hj,H3,H1,B7,rowAt_map hj,cRow,nv0,nvS,dvI,dvB,dvS,dvL,B5,h1,fnd];by_cases e60:P.length=60
  · have e:((P.length:Int)=60):=by omega
    rw [fndP_60 e60];exact ⟨_,by simp only [e,H3,H1]; rfl⟩
  have e:¬((P.length:Int)=60):=by omega
  simp only [e,H4,H2];by_cases e0:(opC cs[j] t cl).length=0
  · rw [fndP_0 e60 e0]
    exact ⟨[],by simp only [e0,C3,H3,H1,C5,D0,D9,b61,E1,C6,D8,PnM.row]⟩
  have e0':¬(((opC cs[j] t cl).length:Int)=0):=by omega
  have e12:((12:Int)<=((12-0:Nat):Int)):=by decide
  have ed:((0:Int)<((12-0:Nat):Int)):=by decide
  simp only [e0',ed,H3,H4,H1,H2,h2];cases cirF cs[j] t (opC cs[j] t cl) cs 0 with
  | some x =>
   rw [fndP_x e60 e0];exact ⟨[],by simp only [circD,nv0,nvS,dvI,dvB,dvS,dvL,B5,H1,C5,D0,D9,b61,E1,C6,D8,PnM.row]⟩
  | none =>
   rw [fndP_k e60 e0];exact ⟨_,by simp only [circD,nv0,nvS,dvI,dvB,dvS,dvL,B5,H2,h4,e12,H3,H1]; rfl⟩
 | succ r ih =>
  intro t cl P hr hP hs;have hsm:=small_of t (by have:=hs.n; omega)
  have hci:=incC_isC cl none hs.c;have h1:=r203 cs[j] hg t hsm cl (by have:=hs.l; omega) hci
  have hso:StG d cs[j].v t (opC cs[j] t cl):=hs.op (P5);have hol:=hso.l;have h2:=r222 cs hcs hln hcl j hj t hsm (opC cs[j] t cl) (by omega) (incC_isC _ none hso.c)
  obtain ⟨s1,s2,s3⟩:=hso.sy hd hg;have h4:=r27 _ s1;rw [s3] at h4;unfold SyM.row at h4;simp only at h4;have hmem:∀ b∈brF d cs[j].v t (opC cs[j] t cl) [],bK d t b.1=2->StG d cs[j].v (bT d t b.1) b.2:=fun b hb hk=>hso.next hd hb hk
  have hLl:(brF d cs[j].v t (opC cs[j] t cl) []).length<=64:=by
   have:=(brF_inv hd hso.w hso.s (P:=fun _=>True) (opC cs[j] t cl) 0 [] (fun c hc=>⟨incC_isC _ none hso.c c hc,trivial⟩) ⟨F1 _,by simp⟩ (by simp) (by simp)).1.l
   omega
  have b61:F6 (P.length+1) M63=true:=b63 (by omega)
  rw [e139_0_0];simp only [B6,inbN,hj,H3,H1,B7,rowAt_map hj,cRow,nv0,nvS,dvI,dvB,dvS,dvL,B5,h1,fnd];by_cases e60:P.length=60
  · have e:((P.length:Int)=60):=by omega
    rw [fndP_60 e60];exact ⟨_,by simp only [e,H3,H1]; rfl⟩
  have e:¬((P.length:Int)=60):=by omega
  simp only [e,H4,H2];by_cases e0:(opC cs[j] t cl).length=0
  · rw [fndP_0 e60 e0]
    exact ⟨[],by simp only [e0,C3,H3,H1,C5,D0,D9,b61,E1,C6,D8,PnM.row]⟩
  have e0':¬(((opC cs[j] t cl).length:Int)=0):=by omega
  have e12:¬((12:Int)<=((12-(r+1):Nat):Int)):=by omega
  simp only [e0',H4,H2];generalize brF d cs[j].v t (opC cs[j] t cl) []=L at hmem hLl h4 ⊢;have hL1:rn ⟨139,0,1⟩ [.sl (cs.map cRow),.int (j:Int),.int ((12-(r+1):Nat):Int),.int (P.length:Int),.int 0,.sl (d.so.map sRow),.sl (d.op.map OpM.row),.sl (d.ru.map RuM.row),.sl (d.st.map StM.row),.sl (L.map (brRow d cs[j].v t)),.sl (P.map PnM.row)]=bif L.all (fun b=>decide (bK d t b.1=2)) then some (0,[.sl (cs.map cRow),.int (j:Int),.int ((12-(r+1):Nat):Int),.int (P.length:Int),.sl (d.so.map sRow),.sl (d.op.map OpM.row),.sl (d.ru.map RuM.row),.sl (d.st.map StM.row),.sl (L.map (brRow d cs[j].v t)),.sl (P.map PnM.row)]) else some (1,[.sl (P.map PnM.row)]):=by
   have key:∀ n i,i+n=L.length->rn ⟨139,0,1⟩ [.sl (cs.map cRow),.int (j:Int),.int ((12-(r+1):Nat):Int),.int (P.length:Int),.int (i:Int),.sl (d.so.map sRow),.sl (d.op.map OpM.row),.sl (d.ru.map RuM.row),.sl (d.st.map StM.row),.sl (L.map (brRow d cs[j].v t)),.sl (P.map PnM.row)]=bif (L.drop i).all (fun b=>decide (bK d t b.1=2)) then some (0,[.sl (cs.map cRow),.int (j:Int),.int ((12-(r+1):Nat):Int),.int (P.length:Int),.sl (d.so.map sRow),.sl (d.op.map OpM.row),.sl (d.ru.map RuM.row),.sl (d.st.map StM.row),.sl (L.map (brRow d cs[j].v t)),.sl (P.map PnM.row)]) else some (1,[.sl (P.map PnM.row)]):=by
    intro n;induction n with
    | zero =>
     intro i hi;obtain rfl:i=L.length:=by omega
     rw [e139_0_1];simp only [B6,C1,D6,H4,H2,C7,K6,H1]
    | succ n ih2 =>
     intro i hi;have hlt:i<L.length:=by omega
     have h5:=ih2 (i+1) (by omega)
     rw [C2 hlt,J1,e139_0_1];simp only [B6,C1,hlt,H3,H1,inbN,B7,rowAt_map hlt,wrap_succ hlt (maxB (by omega)),brRow,nv0,nvS,dvI,dvB,dvS,dvL,B5]
     cases decide (bK d t L[i].1=2) with
     | false=>rfl
     | true=>simp only [D2,H2,E8]; exact h5
   have:=key L.length 0 (D9 _);simpa only [C3,D3] using this
  have hP1:P.map PnM.row++[[.int 2,.sl [],.int 0,.sl []]]=(P++[(⟨2,[],0,[]⟩:PnM)]).map PnM.row:=by rw [E1]; rfl
  have hL3:L.all (fun b=>decide (bK d t b.1=2))=true->∃ Y:Rows,rn ⟨139,0,3⟩ [.sl (cs.map cRow),.int (j:Int),.int ((12-(r+1):Nat):Int),.int (P.length:Int),.int 0,.sl (d.so.map sRow),.sl (d.op.map OpM.row),.sl (d.ru.map RuM.row),.sl (d.st.map StM.row),.sl (L.map (brRow d cs[j].v t)),.sl ((P++[(⟨2,[],0,[]⟩:PnM)]).map PnM.row)]=match chl (fnd d cs cs[j] r) d t L (P.length+1) with
   | some y=>some (0,[.sl ((P++(⟨2,y.1,0,[]⟩:PnM)::y.2).map PnM.row)])
   | none=>some (1,[.sl Y]):=by
   intro hall;have key:∀ n i (N:List Int) (B:List PnM),i+n=L.length->P.length+1+B.length<=60->N.length<=i->∃ Y:Rows,rn ⟨139,0,3⟩ [.sl (cs.map cRow),.int (j:Int),.int ((12-(r+1):Nat):Int),.int (P.length:Int),.int (i:Int),.sl (d.so.map sRow),.sl (d.op.map OpM.row),.sl (d.ru.map RuM.row),.sl (d.st.map StM.row),.sl (L.map (brRow d cs[j].v t)),.sl ((P++(⟨2,N,0,[]⟩:PnM)::B).map PnM.row)]=match chl (fnd d cs cs[j] r) d t (L.drop i) (P.length+1+B.length) with
    | some y=>some (0,[.sl ((P++(⟨2,N++y.1,0,[]⟩:PnM)::(B++y.2)).map PnM.row)])
    | none=>some (1,[.sl Y]):=by
    intro n;induction n with
    | zero =>
     intro i N B hi hB hN;obtain rfl:i=L.length:=by omega
     refine ⟨[],?_⟩;rw [e139_0_3];simp only [B6,C1,D6,H4,H2,C7,chl,F5]
    | succ n ih2 =>
     intro i N B hi hB hN;have hlt:i<L.length:=by omega
     have hk2:bK d t L[i].1=2:=by simpa using E7.1 hall _ (C0 hlt)
     have hql:(P++(⟨2,N,0,[]⟩:PnM)::B).length=P.length+1+B.length:=by simp; omega
     obtain ⟨X,h5⟩:=ih (bT d t L[i].1) L[i].2 (P++(⟨2,N,0,[]⟩:PnM)::B) (by omega) (by rw [hql]; exact hB) (hmem _ (C0 hlt) hk2)
     rw [hql] at h5;have hdd:IntKind.i64.wrap (((12-(r+1):Nat):Int)+1)=((12-r:Nat):Int):=by rw [IntWalk.i64_in _ (by omega)]; omega
     rw [C2 hlt,e139_0_3];simp only [B6,C1,hlt,H3,H1,inbN,B7,rowAt_map hlt,wrap_succ hlt (maxB (by omega)),brRow,nv0,nvS,dvI,dvB,dvS,dvL,B5,hdd,h5,chl]
     cases hf:fnd d cs cs[j] r (P.length+1+B.length) (bT d t L[i].1) L[i].2 with
     | none=>exact ⟨X,rfl⟩
     | some n1 =>
      have hq1:=fnd_len d cs cs[j] r _ _ _ n1 hB hf;obtain ⟨Y,h6⟩:=ih2 (i+1) (N++[((P.length+1+B.length:Nat):Int)]) (B++n1) (by omega) (by rw [E5]; omega) (by simp; omega)
      refine ⟨Y,?_⟩;rw [E5,<- Nat.add_assoc] at h6;have eQ:(P++(⟨2,N,0,[]⟩:PnM)::B)++n1=P++(⟨2,N,0,[]⟩:PnM)::(B++n1):=by rw [E2]; rfl
      have hl2:P.length<P.length+((B++n1).length+1):=by omega
      have hib:P.length<(P++(⟨2,N,0,[]⟩:PnM)::(B++n1)).length:=by simp
      have hbt:K4 P.length (P++(⟨2,N,0,[]⟩:PnM)::(B++n1)).length=true:=F2 hib;have hbt2:K4 P.length (P.length+((B++n1).length+1))=true:=F2 hl2;have b1:F6 (N.length+1) M63=true:=b63 (by omega)
      have hst:=pn_set2 (P:=P) (B:=B++n1) N (N.map iRow++[[.int ((P.length+1+B.length:Nat):Int)]]) (N++[((P.length+1+B.length:Nat):Int)]) (by rw [E1]; rfl)
      simp only [nv0,nvS,dvI,dvB,dvS,dvL,B5,D2,H2,eQ,inbN,B6,hib,H3,H1,B7,hbt,hql,pn_nx,C5,D0,D9,b1,pn_len2,hl2,hbt2,D7,O0,hst,h6];cases chl (fnd d cs cs[j] r) d t (L.drop (i+1)) (P.length+1+B.length+n1.length) with
      | none=>rfl
      | some y=>simp only [E2,D4,C8]
   obtain ⟨Y,h5⟩:=key L.length 0 [] [] (D9 _) (by simp; omega) (F1 _)
   refine ⟨Y,?_⟩;simpa only [C3,D3,C8,D0,N2] using h5
  have ed:decide ((0:Int)<((12-(r+1):Nat):Int))=decide (r+1<12):=by by_cases q:r+1<12 <;> simp [q] <;> omega
  rw [ed];by_cases h12:r+1<12
  · simp only [h12,H3,H1,h2,if_true]
    cases cirF cs[j] t (opC cs[j] t cl) cs 0 with
    | some x =>
     rw [fndP_x e60 e0];exact ⟨[],by simp only [circD,nv0,nvS,dvI,dvB,dvS,dvL,B5,H1,C5,D0,D9,b61,E1,C6,D8,PnM.row]⟩
    | none =>
     rw [fndP_k e60 e0];simp only [circD,nv0,nvS,dvI,dvB,dvS,dvL,B5,H2];simp only [h4,nv0,nvS,dvI,dvB,dvS,dvL,B5,e12,H4,H2,B6,hL1];cases hall:L.all fun b=>decide (bK d t b.1=2) with
     | false=>exact ⟨_,by simp only [H2,nv0,nvS,dvI,dvB,dvS,dvL,B5,D7,H1,H2,N4,if_false]; rfl⟩
     | true =>
      obtain ⟨Y,hL3⟩:=hL3 hall;simp only [H1,nv0,nvS,dvI,dvB,dvS,dvL,B5,D7,H1,H2,C5,D0,B6,D9,b61,if_true];rw [hP1,hL3];cases chl (fnd d cs cs[j] r) d t L (P.length+1) with
      | none=>exact ⟨Y,rfl⟩
      | some y=>exact ⟨[],rfl⟩
  · simp only [h12,H4,H2,if_false]
    rw [fndP_k e60 e0];simp only [h4,nv0,nvS,dvI,dvB,dvS,dvL,B5,e12,H4,H2,B6,hL1];cases hall:L.all fun b=>decide (bK d t b.1=2) with
    | false=>exact ⟨_,by simp only [H2,nv0,nvS,dvI,dvB,dvS,dvL,B5,D7,H1,H2,N4,if_false]; rfl⟩
    | true =>
     obtain ⟨Y,hL3⟩:=hL3 hall;simp only [H1,nv0,nvS,dvI,dvB,dvS,dvL,B5,D7,H1,H2,C5,D0,B6,D9,b61,if_true];rw [hP1,hL3];cases chl (fnd d cs cs[j] r) d t L (P.length+1) with
     | none=>exact ⟨Y,rfl⟩
     | some y=>exact ⟨[],rfl⟩
theorem r61 (d:DfM) (hd:DfB d) (cs:List ClM) (hcs:∀ c∈cs,ClB c) (hcd:∀ c∈cs,c.d=d) (hcl:cs.length<=1048576) (k:Int):rn ⟨61,0,0⟩ [.sl (d.so.map sRow),.sl (d.op.map OpM.row),.sl (d.ru.map RuM.row),.sl (d.st.map StM.row),.sl (cs.map cRow),.int k]=some (0,fpD (fpR d cs k)):=by
 have h1:=r129 d cs hcs hcd hcl k;rw [e61_0_0];simp only [h1,nv0,nvS,dvI,dvB,dvS,dvL,B5];unfold fpR;cases hq:areC cs k with
 | none=>rfl
 | some g =>
  obtain ⟨_,hv,ha⟩:=areC_some hq;obtain ⟨j,rfl,hj,e⟩:=clAt_some ha;subst e;have hg:=hcs _ (C0 hj);have hgv:cs[j].valid=true:=E7.1 hv _ (C0 hj);have hst:=StG.start hg hgv;rw [hcd _ (C0 hj)] at hst;have h2:=r131 cs[j].v hg.v cs[j].l cs[j].r (small_of _ hg.ln) cs[j].g hg.g (fun q hq=>⟨(hg.ga q hq).ln,(hg.ga q hq).rn⟩)
  rw [nrow_irow] at h2;obtain ⟨X,h3⟩:=fndI d hd cs hcs (cs_nodes hv) hcl j hj 12 cs[j].l _ [] (F1 _) (J4 _) hst;simp only [D8,C8,D0,show decide (12<12)=false from rfl,Nat.sub_self,C3] at h3
  simp only [P0,D2,H2,B6,inbN,hj,H3,H1,B7,rowAt_map hj,cRow,nv0,nvS,dvI,dvB,dvS,dvL,B5,h2,h3];cases fnd d cs cs[j] 12 0 cs[j].l ((allC cs[j].v cs[j].g).map fun (i:Nat)=>(i:Int)) <;> rfl
theorem r60 (d:DfM) (hd:DfB d) (cs:List ClM) (hcs:∀ c∈cs,ClB c) (hcd:∀ c∈cs,c.d=d) (hcl:cs.length<=1048576) (k:Int):rn ⟨60,0,0⟩ [.sl (d.so.map sRow),.sl (d.op.map OpM.row),.sl (d.ru.map RuM.row),.sl (d.st.map StM.row),.sl (cs.map cRow),.int k]=some (0,fpD (fpR d cs k)):=by
 have h1:=r124 d cs hcs hcd hcl;rw [e60_0_0];simp only [h1,nv0,nvS,dvI,dvB,dvS,dvL,B5,B6,i64len (show cs.length<=1048577 by omega),rIn]
 unfold fpR;cases hq:areC cs k with
 | none =>
  unfold areC at hq;by_cases hc:cs.length<=3/\claimsB cs=true
  · rw [H5 hc] at hq
    rw [hc.2];rcases clAt_none hq with h | h
    · cases decide (1<=cs.length)&&decide (cs.length<=3) with
      | false=>rfl
      | true=>rw [H8 (show ¬(0:Int)<=k by omega)]; rfl
    · cases decide (1<=cs.length)&&decide (cs.length<=3) with
      | false=>rfl
      | true=>rw [H8 (show ¬ k<=(cs.length:Int)-1 by omega),R0]; rfl
  · have e:(claimsB cs&&(decide (1<=cs.length)&&decide (cs.length<=3)))=false:=by
     rw [Bool.and_eq_false_iff,Bool.and_eq_false_iff];by_cases h3:cs.length<=3
     · left
       cases hb:claimsB cs with
       | false=>rfl
       | true=>exact absurd ⟨h3,hb⟩ hc
     · exact .inr (.inr (H8 h3))
    rw [e]; rfl
 | some g =>
  obtain ⟨h3,hv,ha⟩:=areC_some hq;obtain ⟨j,rfl,hj,e⟩:=clAt_some ha;subst e;have hg:=hcs _ (C0 hj);have hgv:cs[j].valid=true:=E7.1 hv _ (C0 hj);have hst:=StG.start hg hgv;rw [hcd _ (C0 hj)] at hst;have h2:=r126 cs[j].v hg.v cs[j].l cs[j].r (small_of _ hg.ln) cs[j].g hg.g (fun q hq=>⟨(hg.ga q hq).ln,(hg.ga q hq).rn⟩)
  rw [nrow_irow] at h2;obtain ⟨X,h4⟩:=fndS d hd cs hcs (cs_nodes hv) hcl j hj 12 cs[j].l _ [] (F1 _) (J4 _) hst;simp only [D8,C8,D0,Nat.sub_self,C3] at h4;have e1:(0:Int)<=(j:Int):=by omega
  have e2:(j:Int)<=(cs.length:Int)-1:=by omega
  have e3:1<=cs.length:=by omega
  simp only [hv,h3,e1,e2,e3,H3,O0,D2,H2,inbN,hj,H1,B7,rowAt_map hj,cRow,nv0,nvS,dvI,dvB,dvS,dvL,B5,h2,h4];cases fnd d cs cs[j] 12 0 cs[j].l ((allC cs[j].v cs[j].g).map fun (i:Nat)=>(i:Int)) <;> rfl
theorem r66 (d:DfM) (hd:DfB d) (cs:List ClM) (hcs:∀ c∈cs,ClB c) (hcd:∀ c∈cs,c.d=d) (hcl:cs.length<=1048576):rn ⟨66,0,0⟩ [.sl (d.so.map sRow),.sl (d.op.map OpM.row),.sl (d.ru.map RuM.row),.sl (d.st.map StM.row),.sl (cs.map cRow)]=some (0,paD (prL d cs cs.length 0)):=by
 have hlp:∀ n i (acc:List (List PnM)),i+n=cs.length->acc.length<=i->rn ⟨66,0,1⟩ [.sl (cs.map cRow),.int (cs.length:Int),.int (i:Int),.sl (d.so.map sRow),.sl (d.op.map OpM.row),.sl (d.ru.map RuM.row),.sl (d.st.map StM.row),.sl (acc.map pfRow)]=match prL d cs n i with
  | some ps=>some (0,[.sl ((acc++ps).map pfRow)])
  | none=>some (1,[.sl []]):=by
  intro n;induction n with
  | zero =>
   intro i acc hi _;obtain rfl:i=cs.length:=by omega
   rw [e66_0_1];simp only [B6,C1,D6,H4,H2,C7,prL,F5]
  | succ n ih =>
   intro i acc hi ha;have hlt:i<cs.length:=by omega
   have h1:=r61 d hd cs hcs hcd hcl (i:Int);have b1:F6 (acc.length+1) M63=true:=b63 (by omega)
   rw [e66_0_1];simp only [B6,C1,hlt,H3,H1,h1,nv0,nvS,dvI,dvB,dvS,dvL,B5,wrap_succ hlt (maxB (by omega)),prL]
   cases fpR d cs (i:Int) with
   | none=>rfl
   | some p =>
    have h2:=ih (i+1) (acc++[p]) (by omega) (by simp; omega)
    have e:acc.map pfRow++[[.sl (p.map PnM.row)]]=(acc++[p]).map pfRow:=by rw [E1]; rfl
    simp only [fpD,nv0,nvS,dvI,dvB,dvS,dvL,B5,D2,H2,C5,D0,D9,b1,H1,e,h2];cases prL d cs n (i+1) with
    | none=>rfl
    | some ps=>simp only [E2,D4,C8]
 have h1:=hlp cs.length 0 [] (D9 _) (F1 _);simp only [C3,D8,C8] at h1;rw [e66_0_0];simp only [B6,h1];cases hp:prL d cs cs.length 0 with
 | none=>rfl
 | some ps =>
  have hl:=prL_len _ _ _ hp;have e:decide ((0:Int)<(cs.length:Int))=decide (0<cs.length):=by by_cases q:0<cs.length <;> simp [q] <;> omega
  simp only [nv0,nvS,dvI,dvB,dvS,dvL,B5,D7,H1,H2,B6,paD,hl,e]
theorem r65 (d:DfM) (hd:DfB d) (cs:List ClM) (hcs:∀ c∈cs,ClB c) (hcd:∀ c∈cs,c.d=d) (hcl:cs.length<=1048576):rn ⟨65,0,0⟩ [.sl (d.so.map sRow),.sl (d.op.map OpM.row),.sl (d.ru.map RuM.row),.sl (d.st.map StM.row),.sl (cs.map cRow)]=some (0,paD (prL d cs cs.length 0)):=by
 have hlp:∀ n i (acc:List (List PnM)),i+n=cs.length->acc.length<=i->rn ⟨65,0,1⟩ [.sl (cs.map cRow),.int (i:Int),.sl (d.so.map sRow),.sl (d.op.map OpM.row),.sl (d.ru.map RuM.row),.sl (d.st.map StM.row),.sl (acc.map pfRow)]=match prL d cs n i with
  | some ps=>some (0,[.sl (cs.map cRow),.sl ((acc++ps).map pfRow)])
  | none=>some (1,[.sl []]):=by
  intro n;induction n with
  | zero =>
   intro i acc hi _;obtain rfl:i=cs.length:=by omega
   rw [e65_0_1];simp only [B6,C1,D6,H4,H2,C7,prL,F5]
  | succ n ih =>
   intro i acc hi ha;have hlt:i<cs.length:=by omega
   have h1:=r60 d hd cs hcs hcd hcl (i:Int);have b1:F6 (acc.length+1) M63=true:=b63 (by omega)
   rw [e65_0_1];simp only [B6,C1,hlt,H3,H1,h1,nv0,nvS,dvI,dvB,dvS,dvL,B5,wrap_succ hlt (maxB (by omega)),prL]
   cases fpR d cs (i:Int) with
   | none=>rfl
   | some p =>
    have h2:=ih (i+1) (acc++[p]) (by omega) (by simp; omega)
    have e:acc.map pfRow++[[.sl (p.map PnM.row)]]=(acc++[p]).map pfRow:=by rw [E1]; rfl
    simp only [fpD,nv0,nvS,dvI,dvB,dvS,dvL,B5,D2,H2,C5,D0,D9,b1,H1,e,h2];cases prL d cs n (i+1) with
    | none=>rfl
    | some ps=>simp only [E2,D4,C8]
 have h1:=hlp cs.length 0 [] (D9 _) (F1 _);simp only [C3,D8,C8] at h1;rw [e65_0_0];simp only [B6,h1];cases hp:prL d cs cs.length 0 with
 | none=>rfl
 | some ps =>
  have hl:=prL_len _ _ _ hp;have e:decide ((0:Int)<(cs.length:Int))=decide (0<cs.length):=by by_cases q:0<cs.length <;> simp [q] <;> omega
  simp only [nv0,nvS,dvI,dvB,dvS,dvL,B5,D7,H1,H2,B6,paD,hl,e]
theorem r70 (d:DfM) (hd:DfB d) (cs:List ClM) (hcs:∀ c∈cs,ClB c) (hcd:∀ c∈cs,c.d=d) (hcl:cs.length<=1048576):rn ⟨70,0,0⟩ [.sl (d.so.map sRow),.sl (d.op.map OpM.row),.sl (d.ru.map RuM.row),.sl (d.st.map StM.row),.sl (cs.map cRow)]=some (0,[.int (veR d cs).k,.int (veR d cs).c,.int (veR d cs).n,.sl ((veR d cs).p.map pfRow)]):=by
 have h1:=r129 d cs hcs hcd hcl 0;have h2:=r66 d hd cs hcs hcd hcl;have hlp:∀ n i,i+n=cs.length->rn ⟨70,0,1⟩ [.sl (cs.map cRow),.int (cs.length:Int),.int (i:Int),.sl (d.so.map sRow),.sl (d.op.map OpM.row),.sl (d.ru.map RuM.row),.sl (d.st.map StM.row),.int 0,.int 0,.int 0,.sl []]=match refL (cs.drop i) i with
  | some x=>some (1,[.int 2,.int (x.1:Int),.int (x.2:Int),.sl []])
  | none=>some (0,[.int 0,.int 0,.int 0,.sl []]):=by
  intro n;induction n with
  | zero =>
   intro i hi;obtain rfl:i=cs.length:=by omega
   rw [e70_0_1];simp only [B6,C1,D6,H4,H2,C7,refL]
  | succ n ih =>
   intro i hi;have hlt:i<cs.length:=by omega
   have hm:=C0 hlt;have h3:=r145 cs[i] (hcs _ hm);unfold ClM.row at h3;rw [hcd _ hm] at h3;have h4:=ih (i+1) (by omega)
   rw [C2 hlt,e70_0_1];simp only [B6,C1,hlt,H3,H1,inbN,B7,rowAt_map hlt,wrap_succ hlt (maxB (by omega)),cRow,nv0,nvS,dvI,dvB,dvS,dvL,B5,h3,refL]
   cases refF cs[i] with
   | none=>simp only [refD,nv0,nvS,dvI,dvB,dvS,dvL,B5,H2,h4]
   | some k=>rfl
 have h3:=hlp cs.length 0 (D9 _);simp only [C3,D3] at h3;rw [e70_0_0];simp only [h1,nv0,nvS,dvI,dvB,dvS,dvL,B5];unfold veR;cases ha:(areC cs 0).isSome with
 | false=>rfl
 | true =>
  rw [areC_0] at ha;simp only [C4,decide_eq_true_eq] at ha;simp only [D2,H2,h2,if_true];cases hp:prL d cs cs.length 0 with
  | some ps =>
   have hl:=prL_len _ _ _ hp;have e:decide (0<ps.length)=true:=H7 (by omega)
   simp only [paD,e,nv0,nvS,dvI,dvB,dvS,dvL,B5,H1]
  | none =>
   simp only [paD,nv0,nvS,dvI,dvB,dvS,dvL,B5,H2,B6,h3];cases refL cs 0 <;> rfl
theorem r69 (d:DfM) (hd:DfB d) (cs:List ClM) (hcs:∀ c∈cs,ClB c) (hcd:∀ c∈cs,c.d=d) (hcl:cs.length<=1048576):rn ⟨69,0,0⟩ [.sl (d.so.map sRow),.sl (d.op.map OpM.row),.sl (d.ru.map RuM.row),.sl (d.st.map StM.row),.sl (cs.map cRow)]=some (0,[.int (veR d cs).k,.int (veR d cs).c,.int (veR d cs).n,.sl ((veR d cs).p.map pfRow)]):=by
 have h1:=r124 d cs hcs hcd hcl;rw [<- areC_0] at h1;have h2:=r65 d hd cs hcs hcd hcl;have hlp:∀ n i,i+n=cs.length->rn ⟨69,0,1⟩ [.sl (cs.map cRow),.int (i:Int),.sl (d.so.map sRow),.sl (d.op.map OpM.row),.sl (d.ru.map RuM.row),.sl (d.st.map StM.row),.int 0,.int 0,.int 0,.sl []]=match refL (cs.drop i) i with
  | some x=>some (1,[.int 2,.int (x.1:Int),.int (x.2:Int),.sl []])
  | none=>some (0,[.int 0,.int 0,.int 0,.sl []]):=by
  intro n;induction n with
  | zero =>
   intro i hi;obtain rfl:i=cs.length:=by omega
   rw [e69_0_1];simp only [B6,C1,D6,H4,H2,C7,refL]
  | succ n ih =>
   intro i hi;have hlt:i<cs.length:=by omega
   have hm:=C0 hlt;have h3:=r144 cs[i] (hcs _ hm);unfold ClM.row at h3;rw [hcd _ hm] at h3;have h4:=ih (i+1) (by omega)
   rw [C2 hlt,e69_0_1];simp only [B6,C1,hlt,H3,H1,inbN,B7,rowAt_map hlt,wrap_succ hlt (maxB (by omega)),cRow,nv0,nvS,dvI,dvB,dvS,dvL,B5,h3,refL]
   cases refF cs[i] with
   | none=>simp only [refD,nv0,nvS,dvI,dvB,dvS,dvL,B5,H2,h4]
   | some k=>rfl
 have h3:=hlp cs.length 0 (D9 _);simp only [C3,D3] at h3;rw [e69_0_0];simp only [h1,nv0,nvS,dvI,dvB,dvS,dvL,B5];unfold veR;cases ha:(areC cs 0).isSome with
 | false=>rfl
 | true =>
  rw [areC_0] at ha;simp only [C4,decide_eq_true_eq] at ha;simp only [D2,H2,h2,if_true];cases hp:prL d cs cs.length 0 with
  | some ps =>
   have hl:=prL_len _ _ _ hp;have e:decide (0<ps.length)=true:=H7 (by omega)
   simp only [paD,e,nv0,nvS,dvI,dvB,dvS,dvL,B5,H1]
  | none =>
   simp only [paD,nv0,nvS,dvI,dvB,dvS,dvL,B5,H2,B6,h3];cases refL cs 0 <;> rfl
end Go.Q.S
end
section
namespace Go.Q.S
open Go Go.Q Go.Proofs
noncomputable def mt (k:Int):ByteArray:=match rn ⟨109,0,0⟩ [.int k] with | some (0,[.str s])=>s | _=>⟨#[]⟩
theorem mt_ok {k:Int} (h0:0<k) (hb:k<=BK):rn ⟨109,0,0⟩ [.int k]=some (0,[.str (mt k)]):=by
 have hg:∃ s,rn ⟨109,0,0⟩ [.int k]=some (0,[.str s]):=by
  rw [e109_0_0];rw [H8 (by omega:¬ k<=0)]
  simp only [H2];have hk:∀ (n:Nat) (k:Int) (t:ByteArray),0<=k->k<10 ^ n->k<=BK->t.size+n<=100->∃ s:ByteArray,s.size<=100/\rn ⟨109,0,1⟩ [.int k,.str t]=some (0,[.str s]):=by
   intro n;induction n with
   | zero =>
    intro k t h0 h1 _ ht;rw [e109_0_1];rw [H8 (by simp at h1; omega:¬(0:Int)<k)]
    exact ⟨t,by omega,rfl⟩
   | succ n ih =>
    intro k t h0 h1 hn ht; unfold BK at hn;by_cases hk:0<k
    · obtain ⟨s,hs,e⟩:=ih (k / 10) (bytesOf ([[.int (IntKind.u8.wrap (IntKind.i64.wrap (48+(R3 k 10))))]]:Rows)++t) (by omega) (by rw [Int.pow_succ] at h1; omega) (by unfold BK; omega) (by rw [ByteArray.size_append,size1]; omega)
      refine ⟨s,hs,?_⟩;rw [e109_0_1];rw [H7 hk,H8 (by omega:¬(10:Int)=0),H7 (show (bytesOf ([[.int (IntKind.u8.wrap (IntKind.i64.wrap (48+(R3 k 10))))]]:Rows)).size+t.size<=i64max from by rw [size1]; unfold i64max; omega)]
      simp only [H1,J7];have hq:IntKind.i64.wrap (Int.tdiv k 10)=k / 10:=by
       rw [Int.tdiv_eq_ediv_of_nonneg h0];exact IntWalk.i64_in _ (by omega)
      rw [hq]; exact e
    · obtain rfl:k=0:=by omega
      rw [e109_0_1];exact ⟨t,by omega,rfl⟩
  obtain ⟨s,hs,e⟩:=hk 19 k ⟨#[]⟩ (by omega) (by unfold BK at hb; simp; omega) hb (by decide)
  rw [e];simp only [B5,nth,B8,B9,D.I,D.S,D.L,D.B,D7,H1];rw [H7 (show (⟨#[109]⟩:ByteArray).size+s.size<=i64max from by have:(⟨#[109]⟩:ByteArray).size=1:=rfl; unfold i64max; omega)]
  exact ⟨_,rfl⟩
 obtain ⟨s,e⟩:=hg;unfold mt;rw [e];rfl
theorem m98_1 {rs:Rows} (hl:rs.length<=maxLen) (hW:WRs H rs L9) {k:Int} (hk:0<k) (hb:k+cntR rs<=BK):rn ⟨98,1,0⟩ [.int k,.sl rs]=some (0,[.int (k+cntR rs),.sl (mkR mt rs k)]):=by
 show rn ⟨98,1,0⟩ _=_
 rw [e98_1_0];have hf:=mark_loop (mt:=mt) (F:=fun i k y=>rn ⟨98,1,1⟩ [.int k,.int (i:Int),.sl y]) (rs:=rs) hk hb (fun i hi k y hyl hy hk hb=>by
  have hw:=WRs_mem hW (C0 hi);obtain ⟨a0,hr,b0⟩:=wl9 hw;have hiy:i<y.length:=by omega
  rw [hr] at hy hb ⊢;have em:mkL mt [.str a0] k=[.str (mt (k))]:=by simp only [mkL,mkD,cntD,N0]
  have ek:k+((cntL [.str a0]:Nat):Int)=k+1:=by simp only [cntL,cntD]; omega
  rw [em];rw [ek] at hb ⊢;have t0:=mt_ok (k:=k) (by omega) (by omega)
  have w0:IntKind.i64.wrap (k+1)=k+1:=wrap_k (by omega) (by omega)
  rw [e98_1_1];simp only [B7,over_row_two hiy,over_row_at hiy,over_row_len hiy,hyl,hy,inbN,hi,H3,H1,C1,over,nth,B8,B9,D.I,D.S,D.L,D.B,t0,w0,B5,wrap_succ hi hl]) (fun k y hyl=>by
  rw [e98_1_1];simp [hyl])
 rw [C3] at hf;simp only [hf,B5,D7,H1,nth,B8,B9,D.I,D.S,D.L,D.B]
theorem m98_2 {rs:Rows} (hl:rs.length<=maxLen) (hW:WRs H rs L9) {k:Int} (hk:0<k) (hb:k+cntR rs<=BK):rn ⟨98,2,0⟩ [.int k,.sl rs]=some (0,[.int (k+cntR rs),.sl (mkR mt rs k)]):=by
 show rn ⟨98,2,0⟩ _=_
 rw [e98_2_0];have hf:=mark_loop (mt:=mt) (F:=fun i k y=>rn ⟨98,2,1⟩ [.int k,.int (i:Int),.sl y]) (rs:=rs) hk hb (fun i hi k y hyl hy hk hb=>by
  have hw:=WRs_mem hW (C0 hi);obtain ⟨a0,hr,b0⟩:=wl9 hw;have hiy:i<y.length:=by omega
  rw [hr] at hy hb ⊢;have em:mkL mt [.str a0] k=[.str (mt (k))]:=by simp only [mkL,mkD,cntD,N0]
  have ek:k+((cntL [.str a0]:Nat):Int)=k+1:=by simp only [cntL,cntD]; omega
  rw [em];rw [ek] at hb ⊢;have t0:=mt_ok (k:=k) (by omega) (by omega)
  have w0:IntKind.i64.wrap (k+1)=k+1:=wrap_k (by omega) (by omega)
  rw [e98_2_1];simp only [B7,over_row_two hiy,over_row_at hiy,over_row_len hiy,hyl,hy,inbN,hi,H3,H1,C1,over,nth,B8,B9,D.I,D.S,D.L,D.B,t0,w0,B5,wrap_succ hi hl]) (fun k y hyl=>by
  rw [e98_2_1];simp [hyl])
 rw [C3] at hf;simp only [hf,B5,D7,H1,nth,B8,B9,D.I,D.S,D.L,D.B]
theorem m180_1 {rs:Rows} (hl:rs.length<=maxLen) (hW:WRs H rs L286) {k:Int} (hk:0<k) (hb:k+cntR rs<=BK):rn ⟨180,1,0⟩ [.int k,.sl rs]=some (0,[.int (k+cntR rs),.sl (mkR mt rs k)]):=by
 show rn ⟨180,1,0⟩ _=_
 rw [e180_1_0];have hf:=mark_loop (mt:=mt) (F:=fun i k y=>rn ⟨180,1,1⟩ [.int k,.int (i:Int),.sl y]) (rs:=rs) hk hb (fun i hi k y hyl hy hk hb=>by
  have hw:=WRs_mem hW (C0 hi);obtain ⟨a0,a1,a2,hr,b0,b1,c1,b2⟩:=wl286 hw;have hiy:i<y.length:=by omega
  rw [hr] at hy hb ⊢;have em:mkL mt [.str a0,.sl a1,.str a2] k=[.str (mt (k)),.sl (mkR mt a1 (k+1)),.str (mt (k+1+(cntR a1:Int)))]:=by simp only [mkL,mkD,cntD,N0]
  have ek:k+((cntL [.str a0,.sl a1,.str a2]:Nat):Int)=k+1+(cntR a1:Int)+1:=by simp only [cntL,cntD]; omega
  rw [em];rw [ek] at hb ⊢;have t0:=mt_ok (k:=k) (by omega) (by omega)
  have w0:IntKind.i64.wrap (k+1)=k+1:=wrap_k (by omega) (by omega)
  have s1:=m98_2 (k:=k+1) b1 c1 (by omega) (by omega)
  skip
  have t2:=mt_ok (k:=k+1+(cntR a1:Int)) (by omega) (by omega)
  have w2:IntKind.i64.wrap (k+1+(cntR a1:Int)+1)=k+1+(cntR a1:Int)+1:=wrap_k (by omega) (by omega)
  rw [e180_1_1];simp only [B7,over_row_two hiy,over_row_at hiy,over_row_len hiy,hyl,hy,inbN,hi,H3,H1,C1,over,nth,B8,B9,D.I,D.S,D.L,D.B,t0,w0,s1,t2,w2,B5,wrap_succ hi hl]) (fun k y hyl=>by
  rw [e180_1_1];simp [hyl])
 rw [C3] at hf;simp only [hf,B5,D7,H1,nth,B8,B9,D.I,D.S,D.L,D.B]
theorem mT95_1 (a0:Rows) (a1:Rows) (h:WL H [.sl a0,.sl a1] L41) {k:Int} (hk:0<k) (hb:k+(cntR a0:Int)+(cntR a1:Int)<=BK):rn ⟨95,1,0⟩ [.int k,.sl a0,.sl a1]=some (0,[.int (k+(cntR a0:Int)+(cntR a1:Int)),.sl (mkR mt a0 (k)),.sl (mkR mt a1 (k+(cntR a0:Int)))]):=by
 obtain ⟨x0,x1,hh,bx0,cx0,bx1,cx1⟩:=wl41 h;simp only [K3.injEq,D.int.injEq,D.bool.injEq,D.str.injEq,D.sl.injEq,and_true] at hh;obtain ⟨rfl,rfl⟩:=hh;have e0:=m98_1 (k:=k) bx0 cx0 (by omega) (by omega)
 skip
 have e1:=m180_1 (k:=k+(cntR a0:Int)) bx1 cx1 (by omega) (by omega)
 skip
 show rn ⟨95,1,0⟩ _=_
 rw [e95_1_0];simp only [e0,e1,B5,H2,nth,B8,B9,D.I,D.S,D.L,D.B]
theorem m110_1:∀ (N:Nat) (rs:Rows),SizeOf.sizeOf rs<N->rs.length<=maxLen->WRs H rs L49->∀ k:Int,0<k->k+cntR rs<=BK->rn ⟨110,1,0⟩ [.int k,.sl rs]=some (0,[.int (k+cntR rs),.sl (mkR mt rs k)])
 | 0,rs,hN,_,_,_,_,_=>absurd hN (Q2 _)
 | N+1,rs,hN,hl,hW,k,hk,hb=>by
  show rn ⟨110,1,0⟩ _=_
  rw [e110_1_0];have hf:=mark_loop (mt:=mt) (F:=fun i k y=>rn ⟨110,1,1⟩ [.int k,.int (i:Int),.sl y]) (rs:=rs) hk hb (fun i hi k y hyl hy hk hb=>by
   have hw:=WRs_mem hW (C0 hi);obtain ⟨a0,a1,a2,a3,hr,b2,b3,c3⟩:=wl49 hw;have hiy:i<y.length:=by omega
   rw [hr] at hy hb ⊢;have em:mkL mt [.int a0,.int a1,.str a2,.sl a3] k=[.int (k),.int (k+1),.str (mt (k+1+1)),.sl (mkR mt a3 (k+1+1+1))]:=by simp only [mkL,mkD,cntD,N0]
   have ek:k+((cntL [.int a0,.int a1,.str a2,.sl a3]:Nat):Int)=k+1+1+1+(cntR a3:Int):=by simp only [cntL,cntD]; omega
   rw [em];rw [ek] at hb ⊢;have w0:IntKind.i64.wrap (k+1)=k+1:=wrap_k (by omega) (by omega)
   have w1:IntKind.i64.wrap (k+1+1)=k+1+1:=wrap_k (by omega) (by omega)
   have t2:=mt_ok (k:=k+1+1) (by omega) (by omega)
   have w2:IntKind.i64.wrap (k+1+1+1)=k+1+1+1:=wrap_k (by omega) (by omega)
   have s3:=m110_1 N a3 (by have h1:=size_row (r:=rs[i]) (rs:=rs) (C0 hi); rw [hr] at h1; simp only [K3.sizeOf_spec,D.sl.sizeOf_spec] at h1 hN; omega) b3 c3 (k+1+1+1) (by omega) (by omega)
   skip
   rw [e110_1_1];simp only [B7,over_row_two hiy,over_row_at hiy,over_row_len hiy,hyl,hy,inbN,hi,H3,H1,C1,over,nth,B8,B9,D.I,D.S,D.L,D.B,w0,w1,t2,w2,s3,B5,wrap_succ hi hl]) (fun k y hyl=>by
   rw [e110_1_1];simp [hyl])
  rw [C3] at hf;simp only [hf,B5,D7,H1,nth,B8,B9,D.I,D.S,D.L,D.B]
theorem m141_1 {rs:Rows} (hl:rs.length<=maxLen) (hW:WRs H rs L275) {k:Int} (hk:0<k) (hb:k+cntR rs<=BK):rn ⟨141,1,0⟩ [.int k,.sl rs]=some (0,[.int (k+cntR rs),.sl (mkR mt rs k)]):=by
 show rn ⟨141,1,0⟩ _=_
 rw [e141_1_0];have hf:=mark_loop (mt:=mt) (F:=fun i k y=>rn ⟨141,1,1⟩ [.int k,.int (i:Int),.sl y]) (rs:=rs) hk hb (fun i hi k y hyl hy hk hb=>by
  have hw:=WRs_mem hW (C0 hi);obtain ⟨a0,a1,a2,a3,a4,a5,a6,a7,a8,hr,b3,b4,c4,b7,b8,c8⟩:=wl275 hw;have hiy:i<y.length:=by omega
  rw [hr] at hy hb ⊢;have em:mkL mt [.int a0,.int a1,.int a2,.str a3,.sl a4,.int a5,.int a6,.str a7,.sl a8] k=[.int (k),.int (k+1),.int (k+1+1),.str (mt (k+1+1+1)),.sl (mkR mt a4 (k+1+1+1+1)),.int (k+1+1+1+1+(cntR a4:Int)),.int (k+1+1+1+1+(cntR a4:Int)+1),.str (mt (k+1+1+1+1+(cntR a4:Int)+1+1)),.sl (mkR mt a8 (k+1+1+1+1+(cntR a4:Int)+1+1+1))]:=by simp only [mkL,mkD,cntD,N0]
  have ek:k+((cntL [.int a0,.int a1,.int a2,.str a3,.sl a4,.int a5,.int a6,.str a7,.sl a8]:Nat):Int)=k+1+1+1+1+(cntR a4:Int)+1+1+1+(cntR a8:Int):=by simp only [cntL,cntD]; omega
  rw [em];rw [ek] at hb ⊢;have w0:IntKind.i64.wrap (k+1)=k+1:=wrap_k (by omega) (by omega)
  have w1:IntKind.i64.wrap (k+1+1)=k+1+1:=wrap_k (by omega) (by omega)
  have w2:IntKind.i64.wrap (k+1+1+1)=k+1+1+1:=wrap_k (by omega) (by omega)
  have t3:=mt_ok (k:=k+1+1+1) (by omega) (by omega)
  have w3:IntKind.i64.wrap (k+1+1+1+1)=k+1+1+1+1:=wrap_k (by omega) (by omega)
  have s4:=m110_1 _ a4 (F4 _) b4 c4 (k+1+1+1+1) (by omega) (by omega)
  skip
  have w5:IntKind.i64.wrap (k+1+1+1+1+(cntR a4:Int)+1)=k+1+1+1+1+(cntR a4:Int)+1:=wrap_k (by omega) (by omega)
  have w6:IntKind.i64.wrap (k+1+1+1+1+(cntR a4:Int)+1+1)=k+1+1+1+1+(cntR a4:Int)+1+1:=wrap_k (by omega) (by omega)
  have t7:=mt_ok (k:=k+1+1+1+1+(cntR a4:Int)+1+1) (by omega) (by omega)
  have w7:IntKind.i64.wrap (k+1+1+1+1+(cntR a4:Int)+1+1+1)=k+1+1+1+1+(cntR a4:Int)+1+1+1:=wrap_k (by omega) (by omega)
  have s8:=m110_1 _ a8 (F4 _) b8 c8 (k+1+1+1+1+(cntR a4:Int)+1+1+1) (by omega) (by omega)
  skip
  rw [e141_1_1];simp only [B7,over_row_two hiy,over_row_at hiy,over_row_len hiy,hyl,hy,inbN,hi,H3,H1,C1,over,nth,B8,B9,D.I,D.S,D.L,D.B,w0,w1,w2,t3,w3,s4,w5,w6,t7,w7,s8,B5,wrap_succ hi hl]) (fun k y hyl=>by
  rw [e141_1_1];simp [hyl])
 rw [C3] at hf;simp only [hf,B5,D7,H1,nth,B8,B9,D.I,D.S,D.L,D.B]
theorem m96_1 {rs:Rows} (hl:rs.length<=maxLen) (hW:WRs H rs L213) {k:Int} (hk:0<k) (hb:k+cntR rs<=BK):rn ⟨96,1,0⟩ [.int k,.sl rs]=some (0,[.int (k+cntR rs),.sl (mkR mt rs k)]):=by
 show rn ⟨96,1,0⟩ _=_
 rw [e96_1_0];have hf:=mark_loop (mt:=mt) (F:=fun i k y=>rn ⟨96,1,1⟩ [.int k,.int (i:Int),.sl y]) (rs:=rs) hk hb (fun i hi k y hyl hy hk hb=>by
  have hw:=WRs_mem hW (C0 hi);obtain ⟨a0,a1,a2,a3,a4,a5,a6,a7,a8,a9,hr,b0,b3,b4,c4,b7,b8,c8,b9,c9⟩:=wl213 hw;have hiy:i<y.length:=by omega
  rw [hr] at hy hb ⊢;have em:mkL mt [.str a0,.int a1,.int a2,.str a3,.sl a4,.int a5,.int a6,.str a7,.sl a8,.sl a9] k=[.str (mt (k)),.int (k+1),.int (k+1+1),.str (mt (k+1+1+1)),.sl (mkR mt a4 (k+1+1+1+1)),.int (k+1+1+1+1+(cntR a4:Int)),.int (k+1+1+1+1+(cntR a4:Int)+1),.str (mt (k+1+1+1+1+(cntR a4:Int)+1+1)),.sl (mkR mt a8 (k+1+1+1+1+(cntR a4:Int)+1+1+1)),.sl (mkR mt a9 (k+1+1+1+1+(cntR a4:Int)+1+1+1+(cntR a8:Int)))]:=by simp only [mkL,mkD,cntD,N0]
  have ek:k+((cntL [.str a0,.int a1,.int a2,.str a3,.sl a4,.int a5,.int a6,.str a7,.sl a8,.sl a9]:Nat):Int)=k+1+1+1+1+(cntR a4:Int)+1+1+1+(cntR a8:Int)+(cntR a9:Int):=by simp only [cntL,cntD]; omega
  rw [em];rw [ek] at hb ⊢;have t0:=mt_ok (k:=k) (by omega) (by omega)
  have w0:IntKind.i64.wrap (k+1)=k+1:=wrap_k (by omega) (by omega)
  have w1:IntKind.i64.wrap (k+1+1)=k+1+1:=wrap_k (by omega) (by omega)
  have w2:IntKind.i64.wrap (k+1+1+1)=k+1+1+1:=wrap_k (by omega) (by omega)
  have t3:=mt_ok (k:=k+1+1+1) (by omega) (by omega)
  have w3:IntKind.i64.wrap (k+1+1+1+1)=k+1+1+1+1:=wrap_k (by omega) (by omega)
  have s4:=m110_1 _ a4 (F4 _) b4 c4 (k+1+1+1+1) (by omega) (by omega)
  skip
  have w5:IntKind.i64.wrap (k+1+1+1+1+(cntR a4:Int)+1)=k+1+1+1+1+(cntR a4:Int)+1:=wrap_k (by omega) (by omega)
  have w6:IntKind.i64.wrap (k+1+1+1+1+(cntR a4:Int)+1+1)=k+1+1+1+1+(cntR a4:Int)+1+1:=wrap_k (by omega) (by omega)
  have t7:=mt_ok (k:=k+1+1+1+1+(cntR a4:Int)+1+1) (by omega) (by omega)
  have w7:IntKind.i64.wrap (k+1+1+1+1+(cntR a4:Int)+1+1+1)=k+1+1+1+1+(cntR a4:Int)+1+1+1:=wrap_k (by omega) (by omega)
  have s8:=m110_1 _ a8 (F4 _) b8 c8 (k+1+1+1+1+(cntR a4:Int)+1+1+1) (by omega) (by omega)
  skip
  have s9:=m141_1 (k:=k+1+1+1+1+(cntR a4:Int)+1+1+1+(cntR a8:Int)) b9 c9 (by omega) (by omega)
  skip
  rw [e96_1_1];simp only [B7,over_row_two hiy,over_row_at hiy,over_row_len hiy,hyl,hy,inbN,hi,H3,H1,C1,over,nth,B8,B9,D.I,D.S,D.L,D.B,t0,w0,w1,w2,t3,w3,s4,w5,w6,t7,w7,s8,s9,B5,wrap_succ hi hl]) (fun k y hyl=>by
  rw [e96_1_1];simp [hyl])
 rw [C3] at hf;simp only [hf,B5,D7,H1,nth,B8,B9,D.I,D.S,D.L,D.B]
theorem m97_1 {rs:Rows} (hl:rs.length<=maxLen) (hW:WRs H rs L215) {k:Int} (hk:0<k) (hb:k+cntR rs<=BK):rn ⟨97,1,0⟩ [.int k,.sl rs]=some (0,[.int (k+cntR rs),.sl (mkR mt rs k)]):=by
 show rn ⟨97,1,0⟩ _=_
 rw [e97_1_0];have hf:=mark_loop (mt:=mt) (F:=fun i k y=>rn ⟨97,1,1⟩ [.int k,.int (i:Int),.sl y]) (rs:=rs) hk hb (fun i hi k y hyl hy hk hb=>by
  have hw:=WRs_mem hW (C0 hi);obtain ⟨a0,a1,hr,b0⟩:=wl215 hw;have hiy:i<y.length:=by omega
  rw [hr] at hy hb ⊢;have em:mkL mt [.str a0,.int a1] k=[.str (mt (k)),.int (k+1)]:=by simp only [mkL,mkD,cntD,N0]
  have ek:k+((cntL [.str a0,.int a1]:Nat):Int)=k+1+1:=by simp only [cntL,cntD]; omega
  rw [em];rw [ek] at hb ⊢;have t0:=mt_ok (k:=k) (by omega) (by omega)
  have w0:IntKind.i64.wrap (k+1)=k+1:=wrap_k (by omega) (by omega)
  have w1:IntKind.i64.wrap (k+1+1)=k+1+1:=wrap_k (by omega) (by omega)
  rw [e97_1_1];simp only [B7,over_row_two hiy,over_row_at hiy,over_row_len hiy,hyl,hy,inbN,hi,H3,H1,C1,over,nth,B8,B9,D.I,D.S,D.L,D.B,t0,w0,w1,B5,wrap_succ hi hl]) (fun k y hyl=>by
  rw [e97_1_1];simp [hyl])
 rw [C3] at hf;simp only [hf,B5,D7,H1,nth,B8,B9,D.I,D.S,D.L,D.B]
theorem mT24_1 (a0:Rows) (a1:Rows) (a2:Rows) (a3:Rows) (h:WL H [.sl a0,.sl a1,.sl a2,.sl a3] L45) {k:Int} (hk:0<k) (hb:k+(cntR a0:Int)+(cntR a1:Int)+(cntR a2:Int)+(cntR a3:Int)<=BK):rn ⟨24,1,0⟩ [.int k,.sl a0,.sl a1,.sl a2,.sl a3]=some (0,[.int (k+(cntR a0:Int)+(cntR a1:Int)+(cntR a2:Int)+(cntR a3:Int)),.sl (mkR mt a0 (k)),.sl (mkR mt a1 (k+(cntR a0:Int))),.sl (mkR mt a2 (k+(cntR a0:Int)+(cntR a1:Int))),.sl (mkR mt a3 (k+(cntR a0:Int)+(cntR a1:Int)+(cntR a2:Int)))]):=by
 obtain ⟨x0,x1,x2,x3,hh,bx0,cx0,bx1,cx1,bx2,cx2,bx3,cx3⟩:=wl45 h;simp only [K3.injEq,D.int.injEq,D.bool.injEq,D.str.injEq,D.sl.injEq,and_true] at hh;obtain ⟨rfl,rfl,rfl,rfl⟩:=hh;have w0:WL H [.sl a0,.sl a1] L41:=WL.part 0 2 h;have e0:=mT95_1 a0 a1 w0 (k:=k) (by omega) (by omega)
 skip
 have e1:=m96_1 (k:=k+(cntR a0:Int)+(cntR a1:Int)) bx2 cx2 (by omega) (by omega)
 skip
 have e2:=m97_1 (k:=k+(cntR a0:Int)+(cntR a1:Int)+(cntR a2:Int)) bx3 cx3 (by omega) (by omega)
 skip
 show rn ⟨24,1,0⟩ _=_
 rw [e24_1_0];simp only [e0,e1,e2,B5,H2,nth,B8,B9,D.I,D.S,D.L,D.B]
theorem m62_1 {rs:Rows} (hl:rs.length<=maxLen) (hW:WRs H rs L177) {k:Int} (hk:0<k) (hb:k+cntR rs<=BK):rn ⟨62,1,0⟩ [.int k,.sl rs]=some (0,[.int (k+cntR rs),.sl (mkR mt rs k)]):=by
 show rn ⟨62,1,0⟩ _=_
 rw [e62_1_0];have hf:=mark_loop (mt:=mt) (F:=fun i k y=>rn ⟨62,1,1⟩ [.int k,.int (i:Int),.sl y]) (rs:=rs) hk hb (fun i hi k y hyl hy hk hb=>by
  have hw:=WRs_mem hW (C0 hi);obtain ⟨a0,a1,a2,a3,a4,a5,a6,a7,a8,a9,hr,b0,c0,b3,b4,c4,b7,b8,c8,b9,c9⟩:=wl177 hw;have hiy:i<y.length:=by omega
  rw [hr] at hy hb ⊢;have em:mkL mt [.sl a0,.int a1,.int a2,.str a3,.sl a4,.int a5,.int a6,.str a7,.sl a8,.sl a9] k=[.sl (mkR mt a0 (k)),.int (k+(cntR a0:Int)),.int (k+(cntR a0:Int)+1),.str (mt (k+(cntR a0:Int)+1+1)),.sl (mkR mt a4 (k+(cntR a0:Int)+1+1+1)),.int (k+(cntR a0:Int)+1+1+1+(cntR a4:Int)),.int (k+(cntR a0:Int)+1+1+1+(cntR a4:Int)+1),.str (mt (k+(cntR a0:Int)+1+1+1+(cntR a4:Int)+1+1)),.sl (mkR mt a8 (k+(cntR a0:Int)+1+1+1+(cntR a4:Int)+1+1+1)),.sl (mkR mt a9 (k+(cntR a0:Int)+1+1+1+(cntR a4:Int)+1+1+1+(cntR a8:Int)))]:=by simp only [mkL,mkD,cntD,N0]
  have ek:k+((cntL [.sl a0,.int a1,.int a2,.str a3,.sl a4,.int a5,.int a6,.str a7,.sl a8,.sl a9]:Nat):Int)=k+(cntR a0:Int)+1+1+1+(cntR a4:Int)+1+1+1+(cntR a8:Int)+(cntR a9:Int):=by simp only [cntL,cntD]; omega
  rw [em];rw [ek] at hb ⊢;have s0:=m98_2 (k:=k) b0 c0 (by omega) (by omega)
  skip
  have w1:IntKind.i64.wrap (k+(cntR a0:Int)+1)=k+(cntR a0:Int)+1:=wrap_k (by omega) (by omega)
  have w2:IntKind.i64.wrap (k+(cntR a0:Int)+1+1)=k+(cntR a0:Int)+1+1:=wrap_k (by omega) (by omega)
  have t3:=mt_ok (k:=k+(cntR a0:Int)+1+1) (by omega) (by omega)
  have w3:IntKind.i64.wrap (k+(cntR a0:Int)+1+1+1)=k+(cntR a0:Int)+1+1+1:=wrap_k (by omega) (by omega)
  have s4:=m110_1 _ a4 (F4 _) b4 c4 (k+(cntR a0:Int)+1+1+1) (by omega) (by omega)
  skip
  have w5:IntKind.i64.wrap (k+(cntR a0:Int)+1+1+1+(cntR a4:Int)+1)=k+(cntR a0:Int)+1+1+1+(cntR a4:Int)+1:=wrap_k (by omega) (by omega)
  have w6:IntKind.i64.wrap (k+(cntR a0:Int)+1+1+1+(cntR a4:Int)+1+1)=k+(cntR a0:Int)+1+1+1+(cntR a4:Int)+1+1:=wrap_k (by omega) (by omega)
  have t7:=mt_ok (k:=k+(cntR a0:Int)+1+1+1+(cntR a4:Int)+1+1) (by omega) (by omega)
  have w7:IntKind.i64.wrap (k+(cntR a0:Int)+1+1+1+(cntR a4:Int)+1+1+1)=k+(cntR a0:Int)+1+1+1+(cntR a4:Int)+1+1+1:=wrap_k (by omega) (by omega)
  have s8:=m110_1 _ a8 (F4 _) b8 c8 (k+(cntR a0:Int)+1+1+1+(cntR a4:Int)+1+1+1) (by omega) (by omega)
  skip
  have s9:=m141_1 (k:=k+(cntR a0:Int)+1+1+1+(cntR a4:Int)+1+1+1+(cntR a8:Int)) b9 c9 (by omega) (by omega)
  skip
  rw [e62_1_1];simp only [B7,over_row_two hiy,over_row_at hiy,over_row_len hiy,hyl,hy,inbN,hi,H3,H1,C1,over,nth,B8,B9,D.I,D.S,D.L,D.B,s0,w1,w2,t3,w3,s4,w5,w6,t7,w7,s8,s9,B5,wrap_succ hi hl]) (fun k y hyl=>by
  rw [e62_1_1];simp [hyl])
 rw [C3] at hf;simp only [hf,B5,D7,H1,nth,B8,B9,D.I,D.S,D.L,D.B]
theorem m100_1 {rs:Rows} (hl:rs.length<=maxLen) (hW:WRs H rs L3) {k:Int} (hk:0<k) (hb:k+cntR rs<=BK):rn ⟨100,1,0⟩ [.int k,.sl rs]=some (0,[.int (k+cntR rs),.sl (mkR mt rs k)]):=by
 show rn ⟨100,1,0⟩ _=_
 rw [e100_1_0];have hf:=mark_loop (mt:=mt) (F:=fun i k y=>rn ⟨100,1,1⟩ [.int k,.int (i:Int),.sl y]) (rs:=rs) hk hb (fun i hi k y hyl hy hk hb=>by
  have hw:=WRs_mem hW (C0 hi);obtain ⟨a0,hr⟩:=wl3 hw;have hiy:i<y.length:=by omega
  rw [hr] at hy hb ⊢;have em:mkL mt [.int a0] k=[.int (k)]:=by simp only [mkL,mkD,cntD,N0]
  have ek:k+((cntL [.int a0]:Nat):Int)=k+1:=by simp only [cntL,cntD]; omega
  rw [em];rw [ek] at hb ⊢;have w0:IntKind.i64.wrap (k+1)=k+1:=wrap_k (by omega) (by omega)
  rw [e100_1_1];simp only [B7,over_row_two hiy,over_row_at hiy,over_row_len hiy,hyl,hy,inbN,hi,H3,H1,C1,over,nth,B8,B9,D.I,D.S,D.L,D.B,w0,B5,wrap_succ hi hl]) (fun k y hyl=>by
  rw [e100_1_1];simp [hyl])
 rw [C3] at hf;simp only [hf,B5,D7,H1,nth,B8,B9,D.I,D.S,D.L,D.B]
theorem m224_1 {rs:Rows} (hl:rs.length<=maxLen) (hW:WRs H rs L299) {k:Int} (hk:0<k) (hb:k+cntR rs<=BK):rn ⟨224,1,0⟩ [.int k,.sl rs]=some (0,[.int (k+cntR rs),.sl (mkR mt rs k)]):=by
 show rn ⟨224,1,0⟩ _=_
 rw [e224_1_0];have hf:=mark_loop (mt:=mt) (F:=fun i k y=>rn ⟨224,1,1⟩ [.int k,.int (i:Int),.sl y]) (rs:=rs) hk hb (fun i hi k y hyl hy hk hb=>by
  have hw:=WRs_mem hW (C0 hi);obtain ⟨a0,a1,a2,a3,a4,hr,b0,b3,b4,c4⟩:=wl299 hw;have hiy:i<y.length:=by omega
  rw [hr] at hy hb ⊢;have em:mkL mt [.str a0,.int a1,.int a2,.str a3,.sl a4] k=[.str (mt (k)),.int (k+1),.int (k+1+1),.str (mt (k+1+1+1)),.sl (mkR mt a4 (k+1+1+1+1))]:=by simp only [mkL,mkD,cntD,N0]
  have ek:k+((cntL [.str a0,.int a1,.int a2,.str a3,.sl a4]:Nat):Int)=k+1+1+1+1+(cntR a4:Int):=by simp only [cntL,cntD]; omega
  rw [em];rw [ek] at hb ⊢;have t0:=mt_ok (k:=k) (by omega) (by omega)
  have w0:IntKind.i64.wrap (k+1)=k+1:=wrap_k (by omega) (by omega)
  have w1:IntKind.i64.wrap (k+1+1)=k+1+1:=wrap_k (by omega) (by omega)
  have w2:IntKind.i64.wrap (k+1+1+1)=k+1+1+1:=wrap_k (by omega) (by omega)
  have t3:=mt_ok (k:=k+1+1+1) (by omega) (by omega)
  have w3:IntKind.i64.wrap (k+1+1+1+1)=k+1+1+1+1:=wrap_k (by omega) (by omega)
  have s4:=m110_1 _ a4 (F4 _) b4 c4 (k+1+1+1+1) (by omega) (by omega)
  skip
  rw [e224_1_1];simp only [B7,over_row_two hiy,over_row_at hiy,over_row_len hiy,hyl,hy,inbN,hi,H3,H1,C1,over,nth,B8,B9,D.I,D.S,D.L,D.B,t0,w0,w1,w2,t3,w3,s4,B5,wrap_succ hi hl]) (fun k y hyl=>by
  rw [e224_1_1];simp [hyl])
 rw [C3] at hf;simp only [hf,B5,D7,H1,nth,B8,B9,D.I,D.S,D.L,D.B]
theorem m142_1 {rs:Rows} (hl:rs.length<=maxLen) (hW:WRs H rs L251) {k:Int} (hk:0<k) (hb:k+cntR rs<=BK):rn ⟨142,1,0⟩ [.int k,.sl rs]=some (0,[.int (k+cntR rs),.sl (mkR mt rs k)]):=by
 show rn ⟨142,1,0⟩ _=_
 rw [e142_1_0];have hf:=mark_loop (mt:=mt) (F:=fun i k y=>rn ⟨142,1,1⟩ [.int k,.int (i:Int),.sl y]) (rs:=rs) hk hb (fun i hi k y hyl hy hk hb=>by
  have hw:=WRs_mem hW (C0 hi);obtain ⟨a0,a1,a2,a3,hr,b1,c1,b3,c3⟩:=wl251 hw;have hiy:i<y.length:=by omega
  rw [hr] at hy hb ⊢;have em:mkL mt [.int a0,.sl a1,.int a2,.sl a3] k=[.int (k),.sl (mkR mt a1 (k+1)),.int (k+1+(cntR a1:Int)),.sl (mkR mt a3 (k+1+(cntR a1:Int)+1))]:=by simp only [mkL,mkD,cntD,N0]
  have ek:k+((cntL [.int a0,.sl a1,.int a2,.sl a3]:Nat):Int)=k+1+(cntR a1:Int)+1+(cntR a3:Int):=by simp only [cntL,cntD]; omega
  rw [em];rw [ek] at hb ⊢;have w0:IntKind.i64.wrap (k+1)=k+1:=wrap_k (by omega) (by omega)
  have s1:=m100_1 (k:=k+1) b1 c1 (by omega) (by omega)
  skip
  have w2:IntKind.i64.wrap (k+1+(cntR a1:Int)+1)=k+1+(cntR a1:Int)+1:=wrap_k (by omega) (by omega)
  have s3:=m224_1 (k:=k+1+(cntR a1:Int)+1) b3 c3 (by omega) (by omega)
  skip
  rw [e142_1_1];simp only [B7,over_row_two hiy,over_row_at hiy,over_row_len hiy,hyl,hy,inbN,hi,H3,H1,C1,over,nth,B8,B9,D.I,D.S,D.L,D.B,w0,s1,w2,s3,B5,wrap_succ hi hl]) (fun k y hyl=>by
  rw [e142_1_1];simp [hyl])
 rw [C3] at hf;simp only [hf,B5,D7,H1,nth,B8,B9,D.I,D.S,D.L,D.B]
theorem m67_1 {rs:Rows} (hl:rs.length<=maxLen) (hW:WRs H rs L85) {k:Int} (hk:0<k) (hb:k+cntR rs<=BK):rn ⟨67,1,0⟩ [.int k,.sl rs]=some (0,[.int (k+cntR rs),.sl (mkR mt rs k)]):=by
 show rn ⟨67,1,0⟩ _=_
 rw [e67_1_0];have hf:=mark_loop (mt:=mt) (F:=fun i k y=>rn ⟨67,1,1⟩ [.int k,.int (i:Int),.sl y]) (rs:=rs) hk hb (fun i hi k y hyl hy hk hb=>by
  have hw:=WRs_mem hW (C0 hi);obtain ⟨a0,hr,b0,c0⟩:=wl85 hw;have hiy:i<y.length:=by omega
  rw [hr] at hy hb ⊢;have em:mkL mt [.sl a0] k=[.sl (mkR mt a0 (k))]:=by simp only [mkL,mkD,cntD,N0]
  have ek:k+((cntL [.sl a0]:Nat):Int)=k+(cntR a0:Int):=by simp only [cntL,cntD]; omega
  rw [em];rw [ek] at hb ⊢;have s0:=m142_1 (k:=k) b0 c0 (by omega) (by omega)
  skip
  rw [e67_1_1];simp only [B7,over_row_two hiy,over_row_at hiy,over_row_len hiy,hyl,hy,inbN,hi,H3,H1,C1,over,nth,B8,B9,D.I,D.S,D.L,D.B,s0,B5,wrap_succ hi hl]) (fun k y hyl=>by
  rw [e67_1_1];simp [hyl])
 rw [C3] at hf;simp only [hf,B5,D7,H1,nth,B8,B9,D.I,D.S,D.L,D.B]
theorem h103_0 {rs:Rows} (hl:rs.length<=maxLen) (hW:WRs H rs L3) {k:Int} (hk:0<k) (hb:k+cntR rs<=BK):rn ⟨103,0,0⟩ [.sl (mkR mt rs k),.int k]=some (0,[.int (k+cntR rs)]):=by
 show rn ⟨103,0,0⟩ _=_
 rw [e103_0_0];have hf:=held_loop (mt:=mt) (F:=fun i k'=>rn ⟨103,0,1⟩ [.sl (mkR mt rs k),.int k',.int (i:Int)]) (rs:=rs) hk hb (fun i hi k hrow hk hb=>by
  have hw:=WRs_mem hW (C0 hi);obtain ⟨a0,hr⟩:=wl3 hw;rw [hr] at hrow hb ⊢;have em:mkL mt [.int a0] k=[.int (k)]:=by simp only [mkL,mkD,cntD,N0]
  have ek:k+((cntL [.int a0]:Nat):Int)=k+1:=by simp only [cntL,cntD]; omega
  rw [em] at hrow;rw [ek] at hb ⊢;have w0:IntKind.i64.wrap (k+1)=k+1:=wrap_k (by omega) (by omega)
  rw [e103_0_1];simp only [mkR_len,B7,hrow,inbN,hi,H3,H1,C1,D2,H2,nth,B8,B9,D.I,D.S,D.L,D.B,w0,B5,wrap_succ hi hl]) (fun k'=>by
  rw [e103_0_1];simp [mkR_len])
 rw [C3] at hf;simp only [hf,B5,D7,H1,nth,B8,B9,D.I,D.S,D.L,D.B]
theorem h111_0:∀ (N:Nat) (rs:Rows),SizeOf.sizeOf rs<N->rs.length<=maxLen->WRs H rs L49->∀ k:Int,0<k->k+cntR rs<=BK->rn ⟨111,0,0⟩ [.sl (mkR mt rs k),.int k]=some (0,[.int (k+cntR rs)])
 | 0,rs,hN,_,_,_,_,_=>absurd hN (Q2 _)
 | N+1,rs,hN,hl,hW,k,hk,hb=>by
  show rn ⟨111,0,0⟩ _=_
  rw [e111_0_0];have hf:=held_loop (mt:=mt) (F:=fun i k'=>rn ⟨111,0,1⟩ [.sl (mkR mt rs k),.int k',.int (i:Int)]) (rs:=rs) hk hb (fun i hi k hrow hk hb=>by
   have hw:=WRs_mem hW (C0 hi);obtain ⟨a0,a1,a2,a3,hr,b2,b3,c3⟩:=wl49 hw;rw [hr] at hrow hb ⊢;have em:mkL mt [.int a0,.int a1,.str a2,.sl a3] k=[.int (k),.int (k+1),.str (mt (k+1+1)),.sl (mkR mt a3 (k+1+1+1))]:=by simp only [mkL,mkD,cntD,N0]
   have ek:k+((cntL [.int a0,.int a1,.str a2,.sl a3]:Nat):Int)=k+1+1+1+(cntR a3:Int):=by simp only [cntL,cntD]; omega
   rw [em] at hrow;rw [ek] at hb ⊢;have w0:IntKind.i64.wrap (k+1)=k+1:=wrap_k (by omega) (by omega)
   have w1:IntKind.i64.wrap (k+1+1)=k+1+1:=wrap_k (by omega) (by omega)
   have t2:=mt_ok (k:=k+1+1) (by omega) (by omega)
   have w2:IntKind.i64.wrap (k+1+1+1)=k+1+1+1:=wrap_k (by omega) (by omega)
   have s3:=h111_0 N a3 (by have h1:=size_row (r:=rs[i]) (rs:=rs) (C0 hi); rw [hr] at h1; simp only [K3.sizeOf_spec,D.sl.sizeOf_spec] at h1 hN; omega) b3 c3 (k+1+1+1) (by omega) (by omega)
   skip
   have n3:=int_lt_zero (show 0<k+1+1+1+(cntR a3:Int) by omega)
   rw [e111_0_1];simp only [mkR_len,B7,hrow,inbN,hi,H3,H1,C1,D2,H2,nth,B8,B9,D.I,D.S,D.L,D.B,w0,w1,t2,w2,s3,n3,B5,wrap_succ hi hl]) (fun k'=>by
   rw [e111_0_1];simp [mkR_len])
  rw [C3] at hf;simp only [hf,B5,D7,H1,nth,B8,B9,D.I,D.S,D.L,D.B]
theorem h225_0 {rs:Rows} (hl:rs.length<=maxLen) (hW:WRs H rs L299) {k:Int} (hk:0<k) (hb:k+cntR rs<=BK):rn ⟨225,0,0⟩ [.sl (mkR mt rs k),.int k]=some (0,[.int (k+cntR rs)]):=by
 show rn ⟨225,0,0⟩ _=_
 rw [e225_0_0];have hf:=held_loop (mt:=mt) (F:=fun i k'=>rn ⟨225,0,1⟩ [.sl (mkR mt rs k),.int k',.int (i:Int)]) (rs:=rs) hk hb (fun i hi k hrow hk hb=>by
  have hw:=WRs_mem hW (C0 hi);obtain ⟨a0,a1,a2,a3,a4,hr,b0,b3,b4,c4⟩:=wl299 hw;rw [hr] at hrow hb ⊢;have em:mkL mt [.str a0,.int a1,.int a2,.str a3,.sl a4] k=[.str (mt (k)),.int (k+1),.int (k+1+1),.str (mt (k+1+1+1)),.sl (mkR mt a4 (k+1+1+1+1))]:=by simp only [mkL,mkD,cntD,N0]
  have ek:k+((cntL [.str a0,.int a1,.int a2,.str a3,.sl a4]:Nat):Int)=k+1+1+1+1+(cntR a4:Int):=by simp only [cntL,cntD]; omega
  rw [em] at hrow;rw [ek] at hb ⊢;have t0:=mt_ok (k:=k) (by omega) (by omega)
  have w0:IntKind.i64.wrap (k+1)=k+1:=wrap_k (by omega) (by omega)
  have w1:IntKind.i64.wrap (k+1+1)=k+1+1:=wrap_k (by omega) (by omega)
  have w2:IntKind.i64.wrap (k+1+1+1)=k+1+1+1:=wrap_k (by omega) (by omega)
  have t3:=mt_ok (k:=k+1+1+1) (by omega) (by omega)
  have w3:IntKind.i64.wrap (k+1+1+1+1)=k+1+1+1+1:=wrap_k (by omega) (by omega)
  have s4:=h111_0 _ a4 (F4 _) b4 c4 (k+1+1+1+1) (by omega) (by omega)
  skip
  have n4:=int_lt_zero (show 0<k+1+1+1+1+(cntR a4:Int) by omega)
  rw [e225_0_1];simp only [mkR_len,B7,hrow,inbN,hi,H3,H1,C1,D2,H2,nth,B8,B9,D.I,D.S,D.L,D.B,t0,w0,w1,w2,t3,w3,s4,n4,B5,wrap_succ hi hl]) (fun k'=>by
  rw [e225_0_1];simp [mkR_len])
 rw [C3] at hf;simp only [hf,B5,D7,H1,nth,B8,B9,D.I,D.S,D.L,D.B]
theorem h143_0 {rs:Rows} (hl:rs.length<=maxLen) (hW:WRs H rs L251) {k:Int} (hk:0<k) (hb:k+cntR rs<=BK):rn ⟨143,0,0⟩ [.sl (mkR mt rs k),.int k]=some (0,[.int (k+cntR rs)]):=by
 show rn ⟨143,0,0⟩ _=_
 rw [e143_0_0];have hf:=held_loop (mt:=mt) (F:=fun i k'=>rn ⟨143,0,1⟩ [.sl (mkR mt rs k),.int k',.int (i:Int)]) (rs:=rs) hk hb (fun i hi k hrow hk hb=>by
  have hw:=WRs_mem hW (C0 hi);obtain ⟨a0,a1,a2,a3,hr,b1,c1,b3,c3⟩:=wl251 hw;rw [hr] at hrow hb ⊢;have em:mkL mt [.int a0,.sl a1,.int a2,.sl a3] k=[.int (k),.sl (mkR mt a1 (k+1)),.int (k+1+(cntR a1:Int)),.sl (mkR mt a3 (k+1+(cntR a1:Int)+1))]:=by simp only [mkL,mkD,cntD,N0]
  have ek:k+((cntL [.int a0,.sl a1,.int a2,.sl a3]:Nat):Int)=k+1+(cntR a1:Int)+1+(cntR a3:Int):=by simp only [cntL,cntD]; omega
  rw [em] at hrow;rw [ek] at hb ⊢;have w0:IntKind.i64.wrap (k+1)=k+1:=wrap_k (by omega) (by omega)
  have s1:=h103_0 (k:=k+1) b1 c1 (by omega) (by omega)
  skip
  have n1:=int_lt_zero (show 0<k+1+(cntR a1:Int) by omega)
  have w2:IntKind.i64.wrap (k+1+(cntR a1:Int)+1)=k+1+(cntR a1:Int)+1:=wrap_k (by omega) (by omega)
  have s3:=h225_0 (k:=k+1+(cntR a1:Int)+1) b3 c3 (by omega) (by omega)
  skip
  have n3:=int_lt_zero (show 0<k+1+(cntR a1:Int)+1+(cntR a3:Int) by omega)
  rw [e143_0_1];simp only [mkR_len,B7,hrow,inbN,hi,H3,H1,C1,D2,H2,nth,B8,B9,D.I,D.S,D.L,D.B,w0,s1,n1,w2,s3,n3,B5,wrap_succ hi hl]) (fun k'=>by
  rw [e143_0_1];simp [mkR_len])
 rw [C3] at hf;simp only [hf,B5,D7,H1,nth,B8,B9,D.I,D.S,D.L,D.B]
theorem h68_0 {rs:Rows} (hl:rs.length<=maxLen) (hW:WRs H rs L85) {k:Int} (hk:0<k) (hb:k+cntR rs<=BK):rn ⟨68,0,0⟩ [.sl (mkR mt rs k),.int k]=some (0,[.int (k+cntR rs)]):=by
 show rn ⟨68,0,0⟩ _=_
 rw [e68_0_0];have hf:=held_loop (mt:=mt) (F:=fun i k'=>rn ⟨68,0,1⟩ [.sl (mkR mt rs k),.int k',.int (i:Int)]) (rs:=rs) hk hb (fun i hi k hrow hk hb=>by
  have hw:=WRs_mem hW (C0 hi);obtain ⟨a0,hr,b0,c0⟩:=wl85 hw;rw [hr] at hrow hb ⊢;have em:mkL mt [.sl a0] k=[.sl (mkR mt a0 (k))]:=by simp only [mkL,mkD,cntD,N0]
  have ek:k+((cntL [.sl a0]:Nat):Int)=k+(cntR a0:Int):=by simp only [cntL,cntD]; omega
  rw [em] at hrow;rw [ek] at hb ⊢;have s0:=h143_0 (k:=k) b0 c0 (by omega) (by omega)
  skip
  have n0:=int_lt_zero (show 0<k+(cntR a0:Int) by omega)
  rw [e68_0_1];simp only [mkR_len,B7,hrow,inbN,hi,H3,H1,C1,D2,H2,nth,B8,B9,D.I,D.S,D.L,D.B,s0,n0,B5,wrap_succ hi hl]) (fun k'=>by
  rw [e68_0_1];simp [mkR_len])
 rw [C3] at hf;simp only [hf,B5,D7,H1,nth,B8,B9,D.I,D.S,D.L,D.B]
theorem mT71_1 (a0:Int) (a1:Rows) (a2:Int) (a3:Int) (h:WL H [.int a0,.sl a1,.int a2,.int a3] L102) {k:Int} (hk:0<k) (hb:k+(cntR a1:Int)<=BK):rn ⟨71,1,0⟩ [.int a0,.int a2,.int a3,.int k,.sl a1]=some (0,[.int (k+(cntR a1:Int)),.sl (mkR mt a1 (k))]):=by
 obtain ⟨x0,x1,x2,x3,hh,bx1,cx1⟩:=wl102 h;simp only [K3.injEq,D.int.injEq,D.bool.injEq,D.str.injEq,D.sl.injEq,and_true] at hh;obtain ⟨rfl,rfl,rfl,rfl⟩:=hh;have e0:=m67_1 (k:=k) bx1 cx1 (by omega) (by omega)
 skip
 show rn ⟨71,1,0⟩ _=_
 rw [e71_1_0];simp only [e0,B5,H2,nth,B8,B9,D.I,D.S,D.L,D.B]
theorem hT72_0 (a0:Int) (a1:Rows) (a2:Int) (a3:Int) (h:WL H [.int a0,.sl a1,.int a2,.int a3] L102) {k:Int} (hk:0<k) (hb:k+(cntR a1:Int)<=BK):rn ⟨72,0,0⟩ [.int a0,.sl (mkR mt a1 (k)),.int a2,.int a3,.int k]=some (0,[.int (k+(cntR a1:Int))]):=by
 obtain ⟨x0,x1,x2,x3,hh,bx1,cx1⟩:=wl102 h;simp only [K3.injEq,D.int.injEq,D.bool.injEq,D.str.injEq,D.sl.injEq,and_true] at hh;obtain ⟨rfl,rfl,rfl,rfl⟩:=hh;have e0:=h68_0 (k:=k) bx1 cx1 (by omega) (by omega)
 skip
 have n0:=int_lt_zero (show 0<k+(cntR a1:Int) by omega)
 show rn ⟨72,0,0⟩ _=_
 rw [e72_0_0];simp only [e0,n0,B5,H2,nth,B8,B9,D.I,D.S,D.L,D.B]
end Go.Q.S
end
section
namespace Go.Proofs
open Go.Shelf
def Tryz.lays190_ren:Go.Shelf.Ren:=⟨fun | 190=>312 | 125=>344 | 258=>343 | 128=>359 | 129=>360 | 302=>350 | 303=>351 | 304=>352 | 305=>353 | 306=>354 | 307=>355 | 308=>356 | 309=>357 | 310=>358 | 333=>361 | 329=>362 | 330=>363 | 334=>364 | 335=>365 | 336=>366 | 344=>367 | n=>n,fun | 31=>22 | 9=>9 | 3=>3 | 46=>356 | 0=>0 | 51=>368 | 53=>370 | 4=>4 | 183=>361 | 182=>360 | 131=>192 | 5=>5 | 218=>371 | 222=>375 | 228=>377 | 229=>378 | n=>n,fun | n=>n⟩
theorem Tryz.lays190:Go.Proofs.Lays.n190 Tryz.prog Tryz.lays190_ren:={
 mixed:=by kernel_rfl
 f125:=Tryz.func344.trans (congrArg some (by kernel_rfl))
 f128:=Tryz.func359.trans (congrArg some (by kernel_rfl))
 f129:=Tryz.func360.trans (congrArg some (by kernel_rfl))
 f190:=Tryz.func312.trans (congrArg some (by kernel_rfl))
 f258:=Tryz.func343.trans (congrArg some (by kernel_rfl))
 f302:=Tryz.func350.trans (congrArg some (by kernel_rfl))
 f303:=Tryz.func351.trans (congrArg some (by kernel_rfl))
 f304:=Tryz.func352.trans (congrArg some (by kernel_rfl))
 f305:=Tryz.func353.trans (congrArg some (by kernel_rfl))
 f306:=Tryz.func354.trans (congrArg some (by kernel_rfl))
 f307:=Tryz.func355.trans (congrArg some (by kernel_rfl))
 f308:=Tryz.func356.trans (congrArg some (by kernel_rfl))
 f309:=Tryz.func357.trans (congrArg some (by kernel_rfl))
 f310:=Tryz.func358.trans (congrArg some (by kernel_rfl))
 f329:=Tryz.func362.trans (congrArg some (by kernel_rfl))
 f330:=Tryz.func363.trans (congrArg some (by kernel_rfl))
 f333:=Tryz.func361.trans (congrArg some (by kernel_rfl))
 f334:=Tryz.func364.trans (congrArg some (by kernel_rfl))
 f335:=Tryz.func365.trans (congrArg some (by kernel_rfl))
 f336:=Tryz.func366.trans (congrArg some (by kernel_rfl))
 f344:=Tryz.func367.trans (congrArg some (by kernel_rfl))
 t0:=Tryz.underlying0
 a0:=Tryz.isAgg0
 z0:=Tryz.sizeOf0
 v0:=Tryz.zeroValue0
 t3:=Tryz.underlying3
 a3:=Tryz.isAgg3
 z3:=Tryz.sizeOf3
 v3:=Tryz.zeroValue3
 t4:=Tryz.underlying4
 a4:=Tryz.isAgg4
 z4:=Tryz.sizeOf4
 v4:=Tryz.zeroValue4
 t5:=Tryz.underlying5
 a5:=Tryz.isAgg5
 z5:=Tryz.sizeOf5
 v5:=Tryz.zeroValue5
 t9:=Tryz.underlying9
 a9:=Tryz.isAgg9
 z9:=Tryz.sizeOf9
 v9:=Tryz.zeroValue9
 t31:=Tryz.underlying22
 a31:=Tryz.isAgg22
 z31:=Tryz.sizeOf22
 v31:=Tryz.zeroValue22
 t46:=Tryz.underlying356
 a46:=Tryz.isAgg356
 z46:=Tryz.sizeOf356
 v46:=Tryz.zeroValue356
 t51:=Tryz.underlying368
 a51:=Tryz.isAgg368
 z51:=Tryz.sizeOf368
 v51:=Tryz.zeroValue368
 t53:=Tryz.underlying370
 a53:=Tryz.isAgg370
 z53:=Tryz.sizeOf370
 v53:=Tryz.zeroValue370
 t131:=Tryz.underlying192
 a131:=Tryz.isAgg192
 z131:=Tryz.sizeOf192
 v131:=Tryz.zeroValue192
 t182:=Tryz.underlying360
 a182:=Tryz.isAgg360
 z182:=Tryz.sizeOf360
 v182:=Tryz.zeroValue360
 t183:=Tryz.underlying361
 a183:=Tryz.isAgg361
 z183:=Tryz.sizeOf361
 v183:=Tryz.zeroValue361
 t218:=Tryz.underlying371
 a218:=Tryz.isAgg371
 z218:=Tryz.sizeOf371
 v218:=Tryz.zeroValue371
 t222:=Tryz.underlying375
 a222:=Tryz.isAgg375
 z222:=Tryz.sizeOf375
 v222:=Tryz.zeroValue375
 t228:=Tryz.underlying377
 a228:=Tryz.isAgg377
 z228:=Tryz.sizeOf377
 v228:=Tryz.zeroValue377
 t229:=Tryz.underlying378
 a229:=Tryz.isAgg378
 z229:=Tryz.sizeOf378
 v229:=Tryz.zeroValue378 }
def Tryz.lays194_ren:Go.Shelf.Ren:=⟨fun | 194=>313 | n=>n,fun | 31=>22 | 9=>9 | 3=>3 | 4=>4 | 0=>0 | n=>n,fun | n=>n⟩
theorem Tryz.lays194:Go.Proofs.Lays.n194 Tryz.prog Tryz.lays194_ren:={
 mixed:=by kernel_rfl
 f194:=Tryz.func313.trans (congrArg some (by kernel_rfl))
 t0:=Tryz.underlying0
 a0:=Tryz.isAgg0
 z0:=Tryz.sizeOf0
 v0:=Tryz.zeroValue0
 t3:=Tryz.underlying3
 a3:=Tryz.isAgg3
 z3:=Tryz.sizeOf3
 v3:=Tryz.zeroValue3
 t4:=Tryz.underlying4
 a4:=Tryz.isAgg4
 z4:=Tryz.sizeOf4
 v4:=Tryz.zeroValue4
 t9:=Tryz.underlying9
 a9:=Tryz.isAgg9
 z9:=Tryz.sizeOf9
 v9:=Tryz.zeroValue9
 t31:=Tryz.underlying22
 a31:=Tryz.isAgg22
 z31:=Tryz.sizeOf22
 v31:=Tryz.zeroValue22 }
end Go.Proofs
namespace Go.Q.S
open Go Go.Q Go.Proofs
theorem kiF_mem:∀ {l:List (Nat × Nat × KI)} {v n:Nat} {i:KI},kiF l v n=some i->∃ a b,(a,b,i)∈l
 | [],v,n,i,h=>by simp [kiF] at h
 | (a,b,x)::r,v,n,i,h=>by
  unfold kiF at h;cases hb:E6 a v&&E6 b n with
  | true=>rw [hb] at h; simp only [H1,D5.injEq] at h; exact ⟨a,b,by rw [h]; exact List.mem_cons_self ..⟩
  | false =>
   rw [hb] at h;obtain ⟨a',b',h'⟩:=kiF_mem h;exact ⟨a',b',List.mem_cons_of_mem _ h'⟩
theorem ext_ok:∀ f g,H.ext f=some g->∀ v ls x,g v ls=some x->FnT Tryz.prog H ⟨f,v,0⟩ ls x:=fun f g h v ls x hx=>by
 have h:lookN extL f=some g:=h;simp only [extL,lookN] at h;cases h1:E6 312 f with
 | true =>
  rw [h1] at h;simp only [H1,D5.injEq] at h;subst h;obtain rfl:=beqN.1 h1;refine sort_fnT Go.Proofs.Tryz.lays190 rfl (E:=9) (fl:=[]) rfl Tryz.func312 (fun he=>by cases he) (of_decide_eq_false (by kernel_rfl)) (fun i hi=>?_) hx
  obtain ⟨a,b,hm⟩:=kiF_mem (l:=[(0,0,⟨[(0,.hd 0)],[(0,.arr 9 .deep)],[⟨.ret,[],[(0,.arr 9 .deep)]⟩]⟩)]) hi;simp only [E3,List.not_mem_nil,or_false,Prod.mk.injEq] at hm;exact hm.2.2
 | false =>
 rw [h1] at h;simp only [H2] at h;cases h1:E6 313 f with
 | true =>
  rw [h1] at h;simp only [H1,D5.injEq] at h;subst h;obtain rfl:=beqN.1 h1;refine comp_fnT Go.Proofs.Tryz.lays194 rfl (E:=9) (fl:=[]) rfl Tryz.func313 (fun he=>by cases he) (of_decide_eq_false (by kernel_rfl)) (fun i hi=>?_) hx
  obtain ⟨a,b,hm⟩:=kiF_mem (l:=[(0,0,⟨[(0,.hd 0)],[(0,.arr 9 .deep)],[⟨.ret,[(0,.hd 16)],[(16,.arr 9 .deep)]⟩]⟩)]) hi;simp only [E3,List.not_mem_nil,or_false,Prod.mk.injEq] at hm;exact hm.2.2
 | false =>
 rw [h1] at h;simp only [H2] at h;simp at h
theorem fits:Fits Tryz.prog H where
 ty:=tyOK_of (l:=tyL) (fun _=>rfl) (by kernel_rfl)
 eq:=eqOK_of (l:=eqL) (fun _=>rfl) (by kernel_rfl)
 mixed:=Tryz.checked.mixed
 names:=names_of (by kernel_rfl)
 ext:=ext_ok
end Go.Q.S
end
section
namespace Go.Q.S
open Go Go.Q Go.Proofs
def L74:List CT:=[.sl 170]
theorem ty74:H.ty 74=some ⟨false,L74,[]⟩:=by kernel_rfl
theorem wl74 {ds:List D} (h:WL H ds L74):∃ a0,ds=[D.sl a0]/\a0.length<=maxLen/\WRs H a0 L170:=by
 unfold L74 at h;obtain ⟨a0,_,rfl,b0,c0,h⟩:=wl_sl ty170 h;obtain rfl:=wl_nil h;exact ⟨a0,rfl,b0,c0⟩
def RL:List (Nat × Nat):=[(3,3),(9,9),(25,25),(25,41),(29,29),(29,45),(32,32),(32,49),(41,25),(41,41),(45,29),(45,45),(49,32),(49,49),(74,74),(85,85),(102,102),(170,170),(170,177),(177,170),(177,177),(197,197),(197,213),(200,200),(200,215),(213,197),(213,213),(215,200),(215,215),(251,251),(275,275),(275,311),(279,279),(279,286),(286,279),(286,286),(299,299),(311,275),(311,311)]
theorem simR:simB H RL=true:=by kernel_rfl
theorem cv {ds:List D} {c c':List CT} (h:WL H ds c) (hc:layB RL c c'=true):WL H ds c':=WL.conv simR ds h hc
theorem bd20:Bd 1048576:=by unfold Bd; omega
theorem sub_le {b:Int} {n:Nat} (h:¬ sub b n<0):(n:Int)<=b/\sub b n=b-n:=by unfold sub at *; split at h <;> simp_all
theorem tmTy:TmTy H 49 [.int .i64,.int .i64,.str,.sl 49]:=⟨rfl,_,ty49,rfl⟩
theorem wide64:∀ e ti,H.ty e=some ti->ti.lay.length<=64:=fun e ti h=>by
 have hq:tyL.all (fun p=>F6 p.2.lay.length 64)=true:=by kernel_rfl
 have:=E7.1 hq _ (lookN_mem (show lookN tyL e=some ti from h))
 exact Nat.le_of_ble_eq_true this
end Go.Q.S
end
