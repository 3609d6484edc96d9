/- The functions of this seat, as that machine runs them. -/
import Derived.Test.YtnjedojmdcpcaaaGreatfP25
set_option linter.unusedVariables false
set_option linter.unusedSimpArgs false
namespace Go.Q.S
open Go Go.Q Go.Proofs
theorem fndS (d:DfM) (hd:DfB d) (cs:List ClM) (hcs:∀ c∈cs,ClB c) (hln:∀ c∈cs,c.l.nodes<=60) (hcl:cs.length<=1048576) (j:Nat) (hj:j<cs.length):∀ (r:Nat) (t:Tm) (cl:List Int) (P:List PnM),r<=12->P.length<=60->StG d cs[j].v t cl →
 ∃ X:Rows,rn ⟨139,0,0⟩ [.sl (d.so.map sRow),.sl (d.op.map OpM.row),.sl (d.ru.map RuM.row),.sl (d.st.map StM.row),.sl (cs.map cRow),.int (j:Int),.sl (cs[j].v.map sRow),.int t.k,.int t.n,.str t.s,.sl (t.as.map Tm.row),.sl (cl.map iRow),.int ((12-r:Nat):Int),.sl (P.map PnM.row)]=match fnd d cs cs[j] r P.length t cl with
  | some n=>some (0,[.bool true,.sl ((P++n).map PnM.row)])
  | none=>some (0,[.bool false,.sl X]):=by
 have hg:=hcs _ (List.getElem_mem hj);intro r;induction r with
 | zero =>
  intro t cl P hr hP hs;have hsm:=small_of t (by have:=hs.n; omega)
  have hci:=incC_isC cl none hs.c;have h1:=r203 cs[j] hg t hsm cl (by have:=hs.l; omega) hci
  have hso:StG d cs[j].v t (opC cs[j] t cl):=hs.op (List.filter_sublist);have hol:=hso.l;have h2:=r222 cs hcs hln hcl j hj t hsm (opC cs[j] t cl) (by omega) (incC_isC _ none hso.c)
  obtain ⟨s1,s2,s3⟩:=hso.sy hd hg;have h4:=r27 _ s1;unfold SyM.row at h4;simp only at h4;have b61:Nat.ble (P.length+1) M63=true:=b63 (by omega)
  rw [e139_0_0];simp only [List.length_map,inbN,hj,decide_true,cond_true,Int.toNat_natCast,rowAt_map hj,cRow,nv0,nvS,dvI,dvB,dvS,dvL,Option.bind_some,h1,fnd];by_cases e60:P.length=60
  · have e:((P.length:Int)=60):=by omega
    rw [fndP_60 e60];exact ⟨_,by simp only [e,decide_true,cond_true]; rfl⟩
  have e:¬((P.length:Int)=60):=by omega
  simp only [e,decide_false,cond_false];by_cases e0:(opC cs[j] t cl).length=0
  · rw [fndP_0 e60 e0]
    exact ⟨[],by simp only [e0,Int.natCast_zero,decide_true,cond_true,List.length_cons,List.length_nil,Nat.zero_add,b61,List.map_append,List.map_cons,List.map_nil,PnM.row]⟩
  have e0':¬(((opC cs[j] t cl).length:Int)=0):=by omega
  have e12:((12:Int)<=((12-0:Nat):Int)):=by decide
  have ed:((0:Int)<((12-0:Nat):Int)):=by decide
  simp only [e0',ed,decide_true,decide_false,cond_true,cond_false,h2];cases cirF cs[j] t (opC cs[j] t cl) cs 0 with
  | some x =>
   rw [fndP_x e60 e0];exact ⟨[],by simp only [circD,nv0,nvS,dvI,dvB,dvS,dvL,Option.bind_some,cond_true,List.length_cons,List.length_nil,Nat.zero_add,b61,List.map_append,List.map_cons,List.map_nil,PnM.row]⟩
  | none =>
   rw [fndP_k e60 e0];exact ⟨_,by simp only [circD,nv0,nvS,dvI,dvB,dvS,dvL,Option.bind_some,cond_false,h4,e12,decide_true,cond_true]; rfl⟩
 | succ r ih =>
  intro t cl P hr hP hs;have hsm:=small_of t (by have:=hs.n; omega)
  have hci:=incC_isC cl none hs.c;have h1:=r203 cs[j] hg t hsm cl (by have:=hs.l; omega) hci
  have hso:StG d cs[j].v t (opC cs[j] t cl):=hs.op (List.filter_sublist);have hol:=hso.l;have h2:=r222 cs hcs hln hcl j hj t hsm (opC cs[j] t cl) (by omega) (incC_isC _ none hso.c)
  obtain ⟨s1,s2,s3⟩:=hso.sy hd hg;have h4:=r27 _ s1;rw [s3] at h4;unfold SyM.row at h4;simp only at h4;have hmem:∀ b∈brF d cs[j].v t (opC cs[j] t cl) [],bK d t b.1=2->StG d cs[j].v (bT d t b.1) b.2:=fun b hb hk=>hso.next hd hb hk
  have hLl:(brF d cs[j].v t (opC cs[j] t cl) []).length<=64:=by
   have:=(brF_inv hd hso.w hso.s (P:=fun _=>True) (opC cs[j] t cl) 0 [] (fun c hc=>⟨incC_isC _ none hso.c c hc,trivial⟩) ⟨Nat.le_refl _,by simp⟩ (by simp) (by simp)).1.l
   omega
  have b61:Nat.ble (P.length+1) M63=true:=b63 (by omega)
  rw [e139_0_0];simp only [List.length_map,inbN,hj,decide_true,cond_true,Int.toNat_natCast,rowAt_map hj,cRow,nv0,nvS,dvI,dvB,dvS,dvL,Option.bind_some,h1,fnd];by_cases e60:P.length=60
  · have e:((P.length:Int)=60):=by omega
    rw [fndP_60 e60];exact ⟨_,by simp only [e,decide_true,cond_true]; rfl⟩
  have e:¬((P.length:Int)=60):=by omega
  simp only [e,decide_false,cond_false];by_cases e0:(opC cs[j] t cl).length=0
  · rw [fndP_0 e60 e0]
    exact ⟨[],by simp only [e0,Int.natCast_zero,decide_true,cond_true,List.length_cons,List.length_nil,Nat.zero_add,b61,List.map_append,List.map_cons,List.map_nil,PnM.row]⟩
  have e0':¬(((opC cs[j] t cl).length:Int)=0):=by omega
  have e12:¬((12:Int)<=((12-(r+1):Nat):Int)):=by omega
  simp only [e0',decide_false,cond_false];generalize brF d cs[j].v t (opC cs[j] t cl) []=L at hmem hLl h4 ⊢;have hL1:rn ⟨139,0,1⟩ [.sl (cs.map cRow),.int (j:Int),.int ((12-(r+1):Nat):Int),.int (P.length:Int),.int 0,.sl (d.so.map sRow),.sl (d.op.map OpM.row),.sl (d.ru.map RuM.row),.sl (d.st.map StM.row),.sl (L.map (brRow d cs[j].v t)),.sl (P.map PnM.row)]=bif L.all (fun b=>decide (bK d t b.1=2)) then some (0,[.sl (cs.map cRow),.int (j:Int),.int ((12-(r+1):Nat):Int),.int (P.length:Int),.sl (d.so.map sRow),.sl (d.op.map OpM.row),.sl (d.ru.map RuM.row),.sl (d.st.map StM.row),.sl (L.map (brRow d cs[j].v t)),.sl (P.map PnM.row)]) else some (1,[.sl (P.map PnM.row)]):=by
   have key:∀ n i,i+n=L.length->rn ⟨139,0,1⟩ [.sl (cs.map cRow),.int (j:Int),.int ((12-(r+1):Nat):Int),.int (P.length:Int),.int (i:Int),.sl (d.so.map sRow),.sl (d.op.map OpM.row),.sl (d.ru.map RuM.row),.sl (d.st.map StM.row),.sl (L.map (brRow d cs[j].v t)),.sl (P.map PnM.row)]=bif (L.drop i).all (fun b=>decide (bK d t b.1=2)) then some (0,[.sl (cs.map cRow),.int (j:Int),.int ((12-(r+1):Nat):Int),.int (P.length:Int),.sl (d.so.map sRow),.sl (d.op.map OpM.row),.sl (d.ru.map RuM.row),.sl (d.st.map StM.row),.sl (L.map (brRow d cs[j].v t)),.sl (P.map PnM.row)]) else some (1,[.sl (P.map PnM.row)]):=by
    intro n;induction n with
    | zero =>
     intro i hi;obtain rfl:i=L.length:=by omega
     rw [e139_0_1];simp only [List.length_map,Int.ofNat_lt,Nat.lt_irrefl,decide_false,cond_false,List.drop_length,List.all_nil,cond_true]
    | succ n ih2 =>
     intro i hi;have hlt:i<L.length:=by omega
     have h5:=ih2 (i+1) (by omega)
     rw [List.drop_eq_getElem_cons hlt,List.all_cons,e139_0_1];simp only [List.length_map,Int.ofNat_lt,hlt,decide_true,cond_true,inbN,Int.toNat_natCast,rowAt_map hlt,wrap_succ hlt (maxB (by omega)),brRow,nv0,nvS,dvI,dvB,dvS,dvL,Option.bind_some]
     cases decide (bK d t L[i].1=2) with
     | false=>rfl
     | true=>simp only [Bool.not_true,cond_false,Bool.true_and]; exact h5
   have:=key L.length 0 (Nat.zero_add _);simpa only [Int.natCast_zero,List.drop_zero] using this
  have hP1:P.map PnM.row++[[.int 2,.sl [],.int 0,.sl []]]=(P++[(⟨2,[],0,[]⟩:PnM)]).map PnM.row:=by rw [List.map_append]; rfl
  have hL3:L.all (fun b=>decide (bK d t b.1=2))=true->∃ Y:Rows,rn ⟨139,0,3⟩ [.sl (cs.map cRow),.int (j:Int),.int ((12-(r+1):Nat):Int),.int (P.length:Int),.int 0,.sl (d.so.map sRow),.sl (d.op.map OpM.row),.sl (d.ru.map RuM.row),.sl (d.st.map StM.row),.sl (L.map (brRow d cs[j].v t)),.sl ((P++[(⟨2,[],0,[]⟩:PnM)]).map PnM.row)]=match chl (fnd d cs cs[j] r) d t L (P.length+1) with
   | some y=>some (0,[.sl ((P++(⟨2,y.1,0,[]⟩:PnM)::y.2).map PnM.row)])
   | none=>some (1,[.sl Y]):=by
   intro hall;have key:∀ n i (N:List Int) (B:List PnM),i+n=L.length->P.length+1+B.length<=60->N.length<=i->∃ Y:Rows,rn ⟨139,0,3⟩ [.sl (cs.map cRow),.int (j:Int),.int ((12-(r+1):Nat):Int),.int (P.length:Int),.int (i:Int),.sl (d.so.map sRow),.sl (d.op.map OpM.row),.sl (d.ru.map RuM.row),.sl (d.st.map StM.row),.sl (L.map (brRow d cs[j].v t)),.sl ((P++(⟨2,N,0,[]⟩:PnM)::B).map PnM.row)]=match chl (fnd d cs cs[j] r) d t (L.drop i) (P.length+1+B.length) with
    | some y=>some (0,[.sl ((P++(⟨2,N++y.1,0,[]⟩:PnM)::(B++y.2)).map PnM.row)])
    | none=>some (1,[.sl Y]):=by
    intro n;induction n with
    | zero =>
     intro i N B hi hB hN;obtain rfl:i=L.length:=by omega
     refine ⟨[],?_⟩;rw [e139_0_3];simp only [List.length_map,Int.ofNat_lt,Nat.lt_irrefl,decide_false,cond_false,List.drop_length,chl,List.append_nil]
    | succ n ih2 =>
     intro i N B hi hB hN;have hlt:i<L.length:=by omega
     have hk2:bK d t L[i].1=2:=by simpa using List.all_eq_true.1 hall _ (List.getElem_mem hlt)
     have hql:(P++(⟨2,N,0,[]⟩:PnM)::B).length=P.length+1+B.length:=by simp; omega
     obtain ⟨X,h5⟩:=ih (bT d t L[i].1) L[i].2 (P++(⟨2,N,0,[]⟩:PnM)::B) (by omega) (by rw [hql]; exact hB) (hmem _ (List.getElem_mem hlt) hk2)
     rw [hql] at h5;have hdd:IntKind.i64.wrap (((12-(r+1):Nat):Int)+1)=((12-r:Nat):Int):=by rw [IntWalk.i64_in _ (by omega)]; omega
     rw [List.drop_eq_getElem_cons hlt,e139_0_3];simp only [List.length_map,Int.ofNat_lt,hlt,decide_true,cond_true,inbN,Int.toNat_natCast,rowAt_map hlt,wrap_succ hlt (maxB (by omega)),brRow,nv0,nvS,dvI,dvB,dvS,dvL,Option.bind_some,hdd,h5,chl]
     cases hf:fnd d cs cs[j] r (P.length+1+B.length) (bT d t L[i].1) L[i].2 with
     | none=>exact ⟨X,rfl⟩
     | some n1 =>
      have hq1:=fnd_len d cs cs[j] r _ _ _ n1 hB hf;obtain ⟨Y,h6⟩:=ih2 (i+1) (N++[((P.length+1+B.length:Nat):Int)]) (B++n1) (by omega) (by rw [List.length_append]; omega) (by simp; omega)
      refine ⟨Y,?_⟩;rw [List.length_append,<- Nat.add_assoc] at h6;have eQ:(P++(⟨2,N,0,[]⟩:PnM)::B)++n1=P++(⟨2,N,0,[]⟩:PnM)::(B++n1):=by rw [List.append_assoc]; rfl
      have hl2:P.length<P.length+((B++n1).length+1):=by omega
      have hib:P.length<(P++(⟨2,N,0,[]⟩:PnM)::(B++n1)).length:=by simp
      have hbt:Nat.blt P.length (P++(⟨2,N,0,[]⟩:PnM)::(B++n1)).length=true:=Nat.ble_eq_true_of_le hib;have hbt2:Nat.blt P.length (P.length+((B++n1).length+1))=true:=Nat.ble_eq_true_of_le hl2;have b1:Nat.ble (N.length+1) M63=true:=b63 (by omega)
      have hst:=pn_set2 (P:=P) (B:=B++n1) N (N.map iRow++[[.int ((P.length+1+B.length:Nat):Int)]]) (N++[((P.length+1+B.length:Nat):Int)]) (by rw [List.map_append]; rfl)
      simp only [nv0,nvS,dvI,dvB,dvS,dvL,Option.bind_some,Bool.not_true,cond_false,eQ,inbN,List.length_map,hib,decide_true,cond_true,Int.toNat_natCast,hbt,hql,pn_nx,List.length_cons,List.length_nil,Nat.zero_add,b1,pn_len2,hl2,hbt2,Nat.beq_refl,Bool.and_self,hst,h6];cases chl (fnd d cs cs[j] r) d t (L.drop (i+1)) (P.length+1+B.length+n1.length) with
      | none=>rfl
      | some y=>simp only [List.append_assoc,List.cons_append,List.nil_append]
   obtain ⟨Y,h5⟩:=key L.length 0 [] [] (Nat.zero_add _) (by simp; omega) (Nat.le_refl _)
   refine ⟨Y,?_⟩;simpa only [Int.natCast_zero,List.drop_zero,List.nil_append,List.length_nil,Nat.add_zero] using h5
  have ed:decide ((0:Int)<((12-(r+1):Nat):Int))=decide (r+1<12):=by by_cases q:r+1<12 <;> simp [q] <;> omega
  rw [ed];by_cases h12:r+1<12
  · simp only [h12,decide_true,cond_true,h2,if_true]
    cases cirF cs[j] t (opC cs[j] t cl) cs 0 with
    | some x =>
     rw [fndP_x e60 e0];exact ⟨[],by simp only [circD,nv0,nvS,dvI,dvB,dvS,dvL,Option.bind_some,cond_true,List.length_cons,List.length_nil,Nat.zero_add,b61,List.map_append,List.map_cons,List.map_nil,PnM.row]⟩
    | none =>
     rw [fndP_k e60 e0];simp only [circD,nv0,nvS,dvI,dvB,dvS,dvL,Option.bind_some,cond_false];simp only [h4,nv0,nvS,dvI,dvB,dvS,dvL,Option.bind_some,e12,decide_false,cond_false,List.length_map,hL1];cases hall:L.all fun b=>decide (bK d t b.1=2) with
     | false=>exact ⟨_,by simp only [cond_false,nv0,nvS,dvI,dvB,dvS,dvL,Option.bind_some,Nat.beq_refl,cond_true,cond_false,Bool.false_eq_true,if_false]; rfl⟩
     | true =>
      obtain ⟨Y,hL3⟩:=hL3 hall;simp only [cond_true,nv0,nvS,dvI,dvB,dvS,dvL,Option.bind_some,Nat.beq_refl,cond_true,cond_false,List.length_cons,List.length_nil,List.length_map,Nat.zero_add,b61,if_true];rw [hP1,hL3];cases chl (fnd d cs cs[j] r) d t L (P.length+1) with
      | none=>exact ⟨Y,rfl⟩
      | some y=>exact ⟨[],rfl⟩
  · simp only [h12,decide_false,cond_false,if_false]
    rw [fndP_k e60 e0];simp only [h4,nv0,nvS,dvI,dvB,dvS,dvL,Option.bind_some,e12,decide_false,cond_false,List.length_map,hL1];cases hall:L.all fun b=>decide (bK d t b.1=2) with
    | false=>exact ⟨_,by simp only [cond_false,nv0,nvS,dvI,dvB,dvS,dvL,Option.bind_some,Nat.beq_refl,cond_true,cond_false,Bool.false_eq_true,if_false]; rfl⟩
    | true =>
     obtain ⟨Y,hL3⟩:=hL3 hall;simp only [cond_true,nv0,nvS,dvI,dvB,dvS,dvL,Option.bind_some,Nat.beq_refl,cond_true,cond_false,List.length_cons,List.length_nil,List.length_map,Nat.zero_add,b61,if_true];rw [hP1,hL3];cases chl (fnd d cs cs[j] r) d t L (P.length+1) with
     | none=>exact ⟨Y,rfl⟩
     | some y=>exact ⟨[],rfl⟩
theorem r61 (d:DfM) (hd:DfB d) (cs:List ClM) (hcs:∀ c∈cs,ClB c) (hcd:∀ c∈cs,c.d=d) (hcl:cs.length<=1048576) (k:Int):rn ⟨61,0,0⟩ [.sl (d.so.map sRow),.sl (d.op.map OpM.row),.sl (d.ru.map RuM.row),.sl (d.st.map StM.row),.sl (cs.map cRow),.int k]=some (0,fpD (fpR d cs k)):=by
 have h1:=r129 d cs hcs hcd hcl k;rw [e61_0_0];simp only [h1,nv0,nvS,dvI,dvB,dvS,dvL,Option.bind_some];unfold fpR;cases hq:areC cs k with
 | none=>rfl
 | some g =>
  obtain ⟨_,hv,ha⟩:=areC_some hq;obtain ⟨j,rfl,hj,e⟩:=clAt_some ha;subst e;have hg:=hcs _ (List.getElem_mem hj);have hgv:cs[j].valid=true:=List.all_eq_true.1 hv _ (List.getElem_mem hj);have hst:=StG.start hg hgv;rw [hcd _ (List.getElem_mem hj)] at hst;have h2:=r131 cs[j].v hg.v cs[j].l cs[j].r (small_of _ hg.ln) cs[j].g hg.g (fun q hq=>⟨(hg.ga q hq).ln,(hg.ga q hq).rn⟩)
  rw [nrow_irow] at h2;obtain ⟨X,h3⟩:=fndI d hd cs hcs (cs_nodes hv) hcl j hj 12 cs[j].l _ [] (Nat.le_refl _) (Nat.zero_le _) hst;simp only [List.map_nil,List.nil_append,List.length_nil,show decide (12<12)=false from rfl,Nat.sub_self,Int.natCast_zero] at h3
  simp only [Option.isSome_some,Bool.not_true,cond_false,List.length_map,inbN,hj,decide_true,cond_true,Int.toNat_natCast,rowAt_map hj,cRow,nv0,nvS,dvI,dvB,dvS,dvL,Option.bind_some,h2,h3];cases fnd d cs cs[j] 12 0 cs[j].l ((allC cs[j].v cs[j].g).map fun (i:Nat)=>(i:Int)) <;> rfl
theorem r60 (d:DfM) (hd:DfB d) (cs:List ClM) (hcs:∀ c∈cs,ClB c) (hcd:∀ c∈cs,c.d=d) (hcl:cs.length<=1048576) (k:Int):rn ⟨60,0,0⟩ [.sl (d.so.map sRow),.sl (d.op.map OpM.row),.sl (d.ru.map RuM.row),.sl (d.st.map StM.row),.sl (cs.map cRow),.int k]=some (0,fpD (fpR d cs k)):=by
 have h1:=r124 d cs hcs hcd hcl;rw [e60_0_0];simp only [h1,nv0,nvS,dvI,dvB,dvS,dvL,Option.bind_some,List.length_map,i64len (show cs.length<=1048577 by omega),rIn]
 unfold fpR;cases hq:areC cs k with
 | none =>
  unfold areC at hq;by_cases hc:cs.length<=3/\claimsB cs=true
  · rw [if_pos hc] at hq
    rw [hc.2];rcases clAt_none hq with h | h
    · cases decide (1<=cs.length)&&decide (cs.length<=3) with
      | false=>rfl
      | true=>rw [decide_eq_false (show ¬(0:Int)<=k by omega)]; rfl
    · cases decide (1<=cs.length)&&decide (cs.length<=3) with
      | false=>rfl
      | true=>rw [decide_eq_false (show ¬ k<=(cs.length:Int)-1 by omega),Bool.and_false]; rfl
  · have e:(claimsB cs&&(decide (1<=cs.length)&&decide (cs.length<=3)))=false:=by
     rw [Bool.and_eq_false_iff,Bool.and_eq_false_iff];by_cases h3:cs.length<=3
     · left
       cases hb:claimsB cs with
       | false=>rfl
       | true=>exact absurd ⟨h3,hb⟩ hc
     · exact .inr (.inr (decide_eq_false h3))
    rw [e]; rfl
 | some g =>
  obtain ⟨h3,hv,ha⟩:=areC_some hq;obtain ⟨j,rfl,hj,e⟩:=clAt_some ha;subst e;have hg:=hcs _ (List.getElem_mem hj);have hgv:cs[j].valid=true:=List.all_eq_true.1 hv _ (List.getElem_mem hj);have hst:=StG.start hg hgv;rw [hcd _ (List.getElem_mem hj)] at hst;have h2:=r126 cs[j].v hg.v cs[j].l cs[j].r (small_of _ hg.ln) cs[j].g hg.g (fun q hq=>⟨(hg.ga q hq).ln,(hg.ga q hq).rn⟩)
  rw [nrow_irow] at h2;obtain ⟨X,h4⟩:=fndS d hd cs hcs (cs_nodes hv) hcl j hj 12 cs[j].l _ [] (Nat.le_refl _) (Nat.zero_le _) hst;simp only [List.map_nil,List.nil_append,List.length_nil,Nat.sub_self,Int.natCast_zero] at h4;have e1:(0:Int)<=(j:Int):=by omega
  have e2:(j:Int)<=(cs.length:Int)-1:=by omega
  have e3:1<=cs.length:=by omega
  simp only [hv,h3,e1,e2,e3,decide_true,Bool.and_self,Bool.not_true,cond_false,inbN,hj,cond_true,Int.toNat_natCast,rowAt_map hj,cRow,nv0,nvS,dvI,dvB,dvS,dvL,Option.bind_some,h2,h4];cases fnd d cs cs[j] 12 0 cs[j].l ((allC cs[j].v cs[j].g).map fun (i:Nat)=>(i:Int)) <;> rfl
end Go.Q.S
