/- The functions of this seat, as that machine runs them. -/
import Derived.Test.YtnjedojmdcpcaaaGreatcvP23
import Derived.Test.YtnjedojmdcpcaaaGreatMA
set_option linter.unusedVariables false
set_option linter.unusedSimpArgs false
namespace Go.Q.S
open Go Go.Q Go.Proofs
theorem r53 (d:DfM) (hd:DfB d) (cs:List ClM) (hcs:∀ c∈cs,ClB c) (hcd:∀ c∈cs,c.d=d) (hcl:cs.length<=1048576) (ps:List (List PnM)) (hps:∀ p∈ps,PfB p) (hpl:ps.length<=1048576):rn ⟨53,0,0⟩ [.sl (d.so.map sRow),.sl (d.op.map OpM.row),.sl (d.ru.map RuM.row),.sl (d.st.map StM.row),.sl (cs.map cRow),.sl (ps.map pfRow)]=some (0,[.bool (chkA d cs ps)]):=by
 have hlp:∀ n i,i+n=ps.length->rn ⟨53,0,1⟩ [.sl (cs.map cRow),.sl (ps.map pfRow),.sl (ps.map pfRow),.int (ps.length:Int),.int (i:Int),.sl (d.so.map sRow),.sl (d.op.map OpM.row),.sl (d.ru.map RuM.row),.sl (d.st.map StM.row)]=bif chkL d cs i (ps.drop i) then some (0,[.sl (ps.map pfRow)]) else some (1,[]):=by
  intro n;induction n with
  | zero =>
   intro i hi;obtain rfl:i=ps.length:=by omega
   rw [e53_0_1];simp only [List.length_map,Int.ofNat_lt,Nat.lt_irrefl,decide_false,cond_false,List.drop_length,chkL,cond_true]
  | succ n ih =>
   intro i hi;have hlt:i<ps.length:=by omega
   have hp:=hps _ (List.getElem_mem hlt);have h1:=r47 d hd cs hcs hcd hcl (i:Int) ps[i] hp.b hp.l;have h2:=ih (i+1) (by omega)
   rw [List.drop_eq_getElem_cons hlt,e53_0_1];simp only [List.length_map,Int.ofNat_lt,hlt,decide_true,cond_true,inbN,Int.toNat_natCast,rowAt_map hlt,wrap_succ hlt (maxB (by omega)),pfRow,nv0,nvS,dvI,dvB,dvS,dvL,Option.bind_some,h1,chkL]
   cases chkP d cs (i:Int) ps[i] with
   | false=>rfl
   | true=>simp only [Bool.not_true,cond_false,Bool.true_and]; exact h2
 have h1:=hlp ps.length 0 (Nat.zero_add _);simp only [Int.natCast_zero,List.drop_zero] at h1;rw [e53_0_0];simp only [List.length_map,h1];unfold chkA;by_cases hl:ps.length=cs.length
 · have e:((ps.length:Int)=(cs.length:Int)):=by omega
   have e2:decide ((0:Int)<(cs.length:Int))=decide (0<cs.length):=by by_cases q:0<cs.length <;> simp [q] <;> omega
   simp only [hl,e,decide_true,Bool.not_true,cond_false,Bool.true_and];cases chkL d cs 0 ps with
   | false=>rfl
   | true=>simp only [cond_true,nv0,nvS,dvI,dvB,dvS,dvL,Option.bind_some,Nat.beq_refl,cond_true,cond_false,List.length_map,hl,e2,Bool.true_and]
 · have e:¬((ps.length:Int)=(cs.length:Int)):=by omega
   simp only [hl,e,decide_false,Bool.not_false,cond_true,Bool.false_and]
theorem r51 (d:DfM) (hd:DfB d) (cs:List ClM) (hcs:∀ c∈cs,ClB c) (hcd:∀ c∈cs,c.d=d) (hcl:cs.length<=1048576) (ps:List (List PnM)) (hps:∀ p∈ps,PfB p) (hpl:ps.length<=1048576):rn ⟨51,0,0⟩ [.sl (d.so.map sRow),.sl (d.op.map OpM.row),.sl (d.ru.map RuM.row),.sl (d.st.map StM.row),.sl (cs.map cRow),.sl (ps.map pfRow)]=some (0,[.bool (chkA d cs ps)]):=by
 have hlp:∀ n i,i+n=ps.length->rn ⟨51,0,1⟩ [.sl (cs.map cRow),.sl (ps.map pfRow),.int (i:Int),.sl (d.so.map sRow),.sl (d.op.map OpM.row),.sl (d.ru.map RuM.row),.sl (d.st.map StM.row)]=bif chkL d cs i (ps.drop i) then some (0,[.sl (cs.map cRow)]) else some (1,[]):=by
  intro n;induction n with
  | zero =>
   intro i hi;obtain rfl:i=ps.length:=by omega
   rw [e51_0_1];simp only [List.length_map,Int.ofNat_lt,Nat.lt_irrefl,decide_false,cond_false,List.drop_length,chkL,cond_true]
  | succ n ih =>
   intro i hi;have hlt:i<ps.length:=by omega
   have hp:=hps _ (List.getElem_mem hlt);have h1:=r44 d hd cs hcs hcd hcl (i:Int) ps[i] hp.b hp.l;have h2:=ih (i+1) (by omega)
   rw [List.drop_eq_getElem_cons hlt,e51_0_1];simp only [List.length_map,Int.ofNat_lt,hlt,decide_true,cond_true,inbN,Int.toNat_natCast,rowAt_map hlt,wrap_succ hlt (maxB (by omega)),pfRow,nv0,nvS,dvI,dvB,dvS,dvL,Option.bind_some,h1,chkL]
   cases chkP d cs (i:Int) ps[i] with
   | false=>rfl
   | true=>simp only [Bool.not_true,cond_false,Bool.true_and]; exact h2
 have h1:=hlp ps.length 0 (Nat.zero_add _);simp only [Int.natCast_zero,List.drop_zero] at h1;rw [e51_0_0];simp only [List.length_map,h1];unfold chkA;by_cases hl:ps.length=cs.length
 · have e:((ps.length:Int)=(cs.length:Int)):=by omega
   have e2:decide ((0:Int)<(cs.length:Int))=decide (0<cs.length):=by by_cases q:0<cs.length <;> simp [q] <;> omega
   simp only [hl,e,decide_true,Bool.not_true,cond_false,Bool.true_and];cases chkL d cs 0 ps with
   | false=>rfl
   | true=>simp only [cond_true,nv0,nvS,dvI,dvB,dvS,dvL,Option.bind_some,Nat.beq_refl,cond_true,cond_false,List.length_map,e2,Bool.true_and]
 · have e:¬((ps.length:Int)=(cs.length:Int)):=by omega
   simp only [hl,e,decide_false,Bool.not_false,cond_true,Bool.false_and]
theorem r58 (d:DfM) (hd:DfB d) (cs:List ClM) (hcs:∀ c∈cs,ClB c) (hcd:∀ c∈cs,c.d=d) (hcl:cs.length<=1048576) (code:Int) (ps:List (List PnM)) (hps:∀ p∈ps,PfB p) (hpl:ps.length<=1048576) (cl k:Int):rn ⟨58,0,0⟩ [.sl (d.so.map sRow),.sl (d.op.map OpM.row),.sl (d.ru.map RuM.row),.sl (d.st.map StM.row),.sl (cs.map cRow),.int code,.sl (ps.map pfRow),.int cl,.int k]=some (0,[.bool (chkV d cs code ps cl k)]):=by
 have h1:=r53 d hd cs hcs hcd hcl ps hps hpl;have h2:=r129 d cs hcs hcd hcl cl;rw [e58_0_0];unfold chkV;by_cases k1:code=1
 · simp only [k1,decide_true,cond_true,if_true,h1,nv0,nvS,dvI,dvB,dvS,dvL,Option.bind_some]
 by_cases k2:code=2
 · have k21:¬(2:Int)=1:=by decide
   simp only [k2,k21,decide_true,decide_false,cond_true,cond_false,if_true,if_false,h2,nv0,nvS,dvI,dvB,dvS,dvL,Option.bind_some];cases hq:areC cs cl with
   | none=>rfl
   | some g =>
    obtain ⟨_,hv,ha⟩:=areC_some hq;obtain ⟨j,rfl,hj,e⟩:=clAt_some ha;subst e;have hg:=hcs _ (List.getElem_mem hj);have h3:=r131 cs[j].v hg.v cs[j].l cs[j].r (small_of _ hg.ln) cs[j].g hg.g (fun q hq=>⟨(hg.ga q hq).ln,(hg.ga q hq).rn⟩)
    rw [nrow_irow] at h3;have h4:=rContI ((allC cs[j].v cs[j].g).map fun (i:Nat)=>(i:Int)) (by rw [List.length_map]; have:=S.allC_len cs[j].v cs[j].g; unfold maxLen; omega) k
    have h5:=r138 cs[j] hg k;rw [hcd _ (List.getElem_mem hj)] at h5;simp only [Option.isSome_some,Bool.not_true,cond_false,List.length_map,inbN,hj,decide_true,cond_true,Int.toNat_natCast,rowAt_map hj,cRow,nv0,nvS,dvI,dvB,dvS,dvL,Option.bind_some,h3,h4,h5];cases hasI ((allC cs[j].v cs[j].g).map fun (i:Nat)=>(i:Int)) k <;> rfl
 · simp only [k1,k2,decide_false,cond_false,if_false]
theorem r56 (d:DfM) (hd:DfB d) (cs:List ClM) (hcs:∀ c∈cs,ClB c) (hcd:∀ c∈cs,c.d=d) (hcl:cs.length<=1048576) (code:Int) (ps:List (List PnM)) (hps:∀ p∈ps,PfB p) (hpl:ps.length<=1048576) (cl k:Int):rn ⟨56,0,0⟩ [.sl (d.so.map sRow),.sl (d.op.map OpM.row),.sl (d.ru.map RuM.row),.sl (d.st.map StM.row),.sl (cs.map cRow),.int code,.sl (ps.map pfRow),.int cl,.int k]=some (0,[.bool (chkV d cs code ps cl k)]):=by
 have h1:=r51 d hd cs hcs hcd hcl ps hps hpl;have h2:=r124 d cs hcs hcd hcl;rw [e56_0_0];unfold chkV;by_cases k1:code=1
 · simp only [k1,decide_true,cond_true,if_true,h1,nv0,nvS,dvI,dvB,dvS,dvL,Option.bind_some]
 by_cases k2:code=2
 · have k21:¬(2:Int)=1:=by decide
   simp only [k2,k21,decide_true,decide_false,cond_true,cond_false,if_true,if_false,h2,nv0,nvS,dvI,dvB,dvS,dvL,Option.bind_some,List.length_map,i64len (show cs.length<=1048577 by omega),rIn]
   cases hq:areC cs cl with
   | none =>
    unfold areC at hq;by_cases hc:cs.length<=3/\claimsB cs=true
    · rw [if_pos hc] at hq
      rw [hc.2];rcases clAt_none hq with h | h
      · cases decide (1<=cs.length)&&decide (cs.length<=3) with
        | false=>rfl
        | true=>rw [decide_eq_false (show ¬(0:Int)<=cl by omega)]; rfl
      · cases decide (1<=cs.length)&&decide (cs.length<=3) with
        | false=>rfl
        | true=>rw [decide_eq_false (show ¬ cl<=(cs.length:Int)-1 by omega),Bool.and_false]; rfl
    · have e:(claimsB cs&&(decide (1<=cs.length)&&decide (cs.length<=3)))=false:=by
       rw [Bool.and_eq_false_iff,Bool.and_eq_false_iff];by_cases h3:cs.length<=3
       · left
         cases hb:claimsB cs with
         | false=>rfl
         | true=>exact absurd ⟨h3,hb⟩ hc
       · exact .inr (.inr (decide_eq_false h3))
      rw [e]; rfl
   | some g =>
    obtain ⟨h3,hv,ha⟩:=areC_some hq;obtain ⟨j,rfl,hj,e⟩:=clAt_some ha;subst e;have hg:=hcs _ (List.getElem_mem hj);have hgv:cs[j].valid=true:=List.all_eq_true.1 hv _ (List.getElem_mem hj);simp only [ClM.valid,Bool.and_eq_true] at hgv;have h4:=r126 cs[j].v hg.v cs[j].l cs[j].r (small_of _ hg.ln) cs[j].g hg.g (fun q hq=>⟨(hg.ga q hq).ln,(hg.ga q hq).rn⟩)
    rw [nrow_irow] at h4;have h5:=r134 ((allC cs[j].v cs[j].g).map fun (i:Nat)=>(i:Int)) (by rw [List.length_map]; have:=S.allC_len cs[j].v cs[j].g; unfold maxLen; omega) k
    have e1:(0:Int)<=(j:Int):=by omega
    have e2:(j:Int)<=(cs.length:Int)-1:=by omega
    have e3:1<=cs.length:=by omega
    simp only [hv,h3,e1,e2,e3,decide_true,Bool.and_self,Bool.not_true,cond_false,inbN,hj,cond_true,Int.toNat_natCast,rowAt_map hj,cRow,nv0,nvS,dvI,dvB,dvS,dvL,Option.bind_some,h4,h5];cases hh:hasI ((allC cs[j].v cs[j].g).map fun (i:Nat)=>(i:Int)) k with
    | false=>rfl
    | true =>
     obtain ⟨i,hi,rfl⟩:=List.mem_map.1 (hasI_mem hh);have hC:isC cs[j].v.length (i:Int)=true:=allC_isC hi;have h6:=r105 cs[j].v cs[j].l (small_of _ hg.ln) (i:Int);rw [<- instR_C hC] at h6;have h7:=r136 cs[j].v cs[j].l cs[j].r (small_of _ hg.rn) (cs[j].g.map Gu.row) (i:Int);have hcf:cfg cs[j].d (S.instR cs[j].v cs[j].l (i:Int))=true:=by rw [instR_C hC]; exact cfg_inst hgv.1 hC
     rw [hcd _ (List.getElem_mem hj)] at hcf;have h8:=r135 d hd _ (wt_instR hg.wl (i:Int)) hcf (S.instR cs[j].v cs[j].r (i:Int));simp only [cond_true,h6,h7,h8,nv0,nvS,dvI,dvB,dvS,dvL,Option.bind_some,Bool.true_and]
 · simp only [k1,k2,decide_false,cond_false,if_false]
end Go.Q.S
