/- The functions of this seat, as that machine runs them. -/
import Derived.Test.YtnjedojmdcpcaaaGreatcaP23
import Derived.Test.YtnjedojmdcpcaaaGreatMA
set_option linter.unusedVariables false
set_option linter.unusedSimpArgs false
namespace Go.Q.S
open Go Go.Q Go.Proofs
theorem r53 (d:DfM) (hd:DfB d) (cs:List ClM) (hcs:∀ c∈cs,ClB c) (hcd:∀ c∈cs,c.d=d) (hcl:cs.length<=1048576) (ps:List (List PnM)) (hps:∀ p∈ps,PfB p) (hpl:ps.length<=1048576):rn ⟨53,0,0⟩ [.sl (d.so.map sRow),.sl (d.op.map OpM.row),.sl (d.ru.map RuM.row),.sl (d.st.map StM.row),.sl (cs.map cRow),.sl (ps.map pfRow)]=some (0,[.bool (chkA d cs ps)]):=by
 have hlp:∀ n i,i+n=ps.length->rn ⟨53,0,1⟩ [.sl (cs.map cRow),.sl (ps.map pfRow),.sl (ps.map pfRow),.int (ps.length:Int),.int (i:Int),.sl (d.so.map sRow),.sl (d.op.map OpM.row),.sl (d.ru.map RuM.row),.sl (d.st.map StM.row)]=bif chkL d cs i (ps.drop i) then some (0,[.sl (ps.map pfRow)]) else some (1,[]):=by
  intro n;induction n with
  | zero =>
   intro i hi;obtain rfl:i=ps.length:=by omega
   rw [e53_0_1];simp only [List.length_map,Int.ofNat_lt,Nat.lt_irrefl,decide_false,cond_false,List.drop_length,chkL,cond_true]
  | succ n ih =>
   intro i hi;have hlt:i<ps.length:=by omega
   have hp:=hps _ (List.getElem_mem hlt);have h1:=r47 d hd cs hcs hcd hcl (i:Int) ps[i] hp.b hp.l;have h2:=ih (i+1) (by omega)
   rw [List.drop_eq_getElem_cons hlt,e53_0_1];simp only [List.length_map,Int.ofNat_lt,hlt,decide_true,cond_true,inbN,Int.toNat_natCast,rowAt_map hlt,wrap_succ hlt (maxB (by omega)),pfRow,nv0,nvS,dvI,dvB,dvS,dvL,Option.bind_some,h1,chkL]
   cases chkP d cs (i:Int) ps[i] with
   | false=>rfl
   | true=>simp only [Bool.not_true,cond_false,Bool.true_and]; exact h2
 have h1:=hlp ps.length 0 (Nat.zero_add _);simp only [Int.natCast_zero,List.drop_zero] at h1;rw [e53_0_0];simp only [List.length_map,h1];unfold chkA;by_cases hl:ps.length=cs.length
 · have e:((ps.length:Int)=(cs.length:Int)):=by omega
   have e2:decide ((0:Int)<(cs.length:Int))=decide (0<cs.length):=by by_cases q:0<cs.length <;> simp [q] <;> omega
   simp only [hl,e,decide_true,Bool.not_true,cond_false,Bool.true_and];cases chkL d cs 0 ps with
   | false=>rfl
   | true=>simp only [cond_true,nv0,nvS,dvI,dvB,dvS,dvL,Option.bind_some,Nat.beq_refl,cond_true,cond_false,List.length_map,hl,e2,Bool.true_and]
 · have e:¬((ps.length:Int)=(cs.length:Int)):=by omega
   simp only [hl,e,decide_false,Bool.not_false,cond_true,Bool.false_and]
theorem r51 (d:DfM) (hd:DfB d) (cs:List ClM) (hcs:∀ c∈cs,ClB c) (hcd:∀ c∈cs,c.d=d) (hcl:cs.length<=1048576) (ps:List (List PnM)) (hps:∀ p∈ps,PfB p) (hpl:ps.length<=1048576):rn ⟨51,0,0⟩ [.sl (d.so.map sRow),.sl (d.op.map OpM.row),.sl (d.ru.map RuM.row),.sl (d.st.map StM.row),.sl (cs.map cRow),.sl (ps.map pfRow)]=some (0,[.bool (chkA d cs ps)]):=by
 have hlp:∀ n i,i+n=ps.length->rn ⟨51,0,1⟩ [.sl (cs.map cRow),.sl (ps.map pfRow),.int (i:Int),.sl (d.so.map sRow),.sl (d.op.map OpM.row),.sl (d.ru.map RuM.row),.sl (d.st.map StM.row)]=bif chkL d cs i (ps.drop i) then some (0,[.sl (cs.map cRow)]) else some (1,[]):=by
  intro n;induction n with
  | zero =>
   intro i hi;obtain rfl:i=ps.length:=by omega
   rw [e51_0_1];simp only [List.length_map,Int.ofNat_lt,Nat.lt_irrefl,decide_false,cond_false,List.drop_length,chkL,cond_true]
  | succ n ih =>
   intro i hi;have hlt:i<ps.length:=by omega
   have hp:=hps _ (List.getElem_mem hlt);have h1:=r44 d hd cs hcs hcd hcl (i:Int) ps[i] hp.b hp.l;have h2:=ih (i+1) (by omega)
   rw [List.drop_eq_getElem_cons hlt,e51_0_1];simp only [List.length_map,Int.ofNat_lt,hlt,decide_true,cond_true,inbN,Int.toNat_natCast,rowAt_map hlt,wrap_succ hlt (maxB (by omega)),pfRow,nv0,nvS,dvI,dvB,dvS,dvL,Option.bind_some,h1,chkL]
   cases chkP d cs (i:Int) ps[i] with
   | false=>rfl
   | true=>simp only [Bool.not_true,cond_false,Bool.true_and]; exact h2
 have h1:=hlp ps.length 0 (Nat.zero_add _);simp only [Int.natCast_zero,List.drop_zero] at h1;rw [e51_0_0];simp only [List.length_map,h1];unfold chkA;by_cases hl:ps.length=cs.length
 · have e:((ps.length:Int)=(cs.length:Int)):=by omega
   have e2:decide ((0:Int)<(cs.length:Int))=decide (0<cs.length):=by by_cases q:0<cs.length <;> simp [q] <;> omega
   simp only [hl,e,decide_true,Bool.not_true,cond_false,Bool.true_and];cases chkL d cs 0 ps with
   | false=>rfl
   | true=>simp only [cond_true,nv0,nvS,dvI,dvB,dvS,dvL,Option.bind_some,Nat.beq_refl,cond_true,cond_false,List.length_map,e2,Bool.true_and]
 · have e:¬((ps.length:Int)=(cs.length:Int)):=by omega
   simp only [hl,e,decide_false,Bool.not_false,cond_true,Bool.false_and]
end Go.Q.S
