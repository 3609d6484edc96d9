/- The functions of this seat, as that machine runs them. -/
import Derived.Test.YtnjedojmdcpcaaaGreatfP8
set_option linter.unusedVariables false
set_option linter.unusedSimpArgs false
namespace Go.Q.S
open Go Go.Q Go.Proofs
def inSt (l:List StM) (x:StM):Bool:=l.any fun y=>decide (y.o=x.o)&&decide (y.a=x.a)
theorem rContSt (l:List StM) (hl:l.length<=maxLen) (x:StM):rn ⟨245,0,0⟩ [.sl (l.map StM.row),.str x.o,.int x.a]=some (0,[.bool (inSt l x)]):=by
 have key:∀ n i,i+n=l.length->(inSt (l.drop i) x=false/\rn ⟨311,0,1⟩ [.sl (l.map StM.row),.int (l.length:Int),.int (i:Int),.str x.o,.int x.a]=some (0,[]))\/(inSt (l.drop i) x=true/\∃ j:Nat,rn ⟨311,0,1⟩ [.sl (l.map StM.row),.int (l.length:Int),.int (i:Int),.str x.o,.int x.a]=some (1,[.int (j:Int)])):=by
  intro n;induction n with
  | zero =>
   intro i hi;obtain rfl:i=l.length:=by omega
   rw [e311_0_1];simp only [List.length_map,Int.ofNat_lt,Nat.lt_irrefl,decide_false,cond_false,List.drop_length];exact .inl ⟨rfl,trivial⟩
  | succ n ih =>
   intro i hi;have hlt:i<l.length:=by omega
   rw [e311_0_1,List.drop_eq_getElem_cons hlt];simp only [List.length_map,Int.ofNat_lt,hlt,decide_true,cond_true,inbN,Int.toNat_natCast,rowAt_map hlt,wrap_succ hlt hl,StM.row,nv0,nvS,dvI,dvB,dvS,dvL,Option.bind_some,inSt,List.any_cons];by_cases h1:l[i].o=x.o
   · by_cases h2:l[i].a=x.a
     · right
       refine ⟨by simp [h1,h2],i,by simp [h1,h2]⟩
     · have h2':¬ x.a=l[i].a:=fun e=>h2 e.symm
       have:=ih (i+1) (by omega)
       simpa [h1,h2,h2',inSt] using this
   · have h1':¬ x.o=l[i].o:=fun e=>h1 e.symm
     have:=ih (i+1) (by omega)
     simpa [h1,h1',inSt] using this
 have h:=key l.length 0 (by omega)
 simp only [List.drop_zero,Int.natCast_zero] at h;rw [e245_0_0,e311_0_0];simp only [List.length_map];rcases h with ⟨h1,h2⟩|⟨h1,j,h2⟩
 · rw [h2,h1]; rfl
 · rw [h2,h1]
   simp only [nv0,nvS,dvI,dvB,dvS,dvL,Option.bind_some,Nat.beq_refl,cond_true,cond_false,show Nat.beq 1 0=false from rfl]
   have:(0:Int)<=(j:Int):=by omega
   simp [this]
theorem stOK_eq (ops:List OpM) (s:StM):stOK ops s=match findO ops s.o with
 | none=>false
 | some o=>!isB s.o&&(decide (0<=s.a)&&decide (s.a<o.a.length)):=rfl
theorem strOK_step (ops:List OpM) (l:List StM) {i:Nat} (h:i<l.length):strOK ops (l.take i) (l.drop i)=(stOK ops l[i]&&(!inSt (l.take i) l[i]&&strOK ops (l.take (i+1)) (l.drop (i+1)))):=by
 rw [List.drop_eq_getElem_cons h];simp only [strOK,inSt];rw [List.take_add_one,List.getElem?_eq_getElem h]; rfl
theorem r162 (d:DfM) (hb:DfB d):rn ⟨162,0,0⟩ [.sl (d.so.map sRow),.sl (d.op.map OpM.row),.sl (d.ru.map RuM.row),.sl (d.st.map StM.row)]=some (0,[.bool d.valid]):=by
 have hrl:=hb.ru;have hsl:=hb.st;have hl1:∀ n i (acc:List ByteArray),i+n=d.ru.length->acc.length<=i->rn ⟨162,0,1⟩ [.sl (d.ru.map RuM.row),.int (d.ru.length:Int),.int (i:Int),.sl (d.so.map sRow),.sl (d.op.map OpM.row),.sl (d.ru.map RuM.row),.sl (d.st.map StM.row),.sl (acc.map sRow)]=bif (d.ru.drop i).all (rulOK d.op) then some (0,[.sl (d.so.map sRow),.sl (d.op.map OpM.row),.sl (d.ru.map RuM.row),.sl (d.st.map StM.row),.sl ((acc++(d.ru.drop i).map (·.n)).map sRow)]) else some (1,[]):=by
  intro n;induction n with
  | zero =>
   intro i acc hi ha;obtain rfl:i=d.ru.length:=by omega
   rw [e162_0_1];simp only [List.length_map,Int.ofNat_lt,Nat.lt_irrefl,decide_false,cond_false,List.drop_length,List.all_nil,cond_true,List.map_nil,List.append_nil]
  | succ n ih =>
   intro i acc hi ha;have hlt:i<d.ru.length:=by omega
   rw [e162_0_1,List.drop_eq_getElem_cons hlt];have h1:=r242 (d.so.map sRow) d.op hb.op d.ru[i] (hb.rua _ (List.getElem_mem hlt));have hb2:Nat.ble (acc.length+1) M63=true:=nb (by omega)
   have h6:=ih (i+1) (acc++[d.ru[i].n]) (by omega) (by simp; omega)
   simp only [List.map_append,List.map_cons,List.map_nil,sRow] at h6;simp only [List.length_map,Int.ofNat_lt,hlt,decide_true,cond_true,inbN,Int.toNat_natCast,rowAt_map hlt,wrap_succ hlt (maxB (by omega)),RuM.row,nv0,nvS,dvI,dvB,dvS,dvL,Option.bind_some,h1,List.length_cons,List.length_nil,Nat.zero_add,hb2,h6,List.all_cons]
   cases rulOK d.op d.ru[i] with
   | false=>rfl
   | true=>simp only [List.map_append,List.map_cons,List.append_assoc,List.cons_append,List.nil_append,sRow,Bool.not_true,cond_false,cond_true,Bool.true_and]
 have hl3:∀ (x5 x7:Rows) n i,i+n=d.st.length->rn ⟨162,0,3⟩ [.sl (d.st.map StM.row),.int (d.st.length:Int),.int (i:Int),.sl (d.so.map sRow),.sl (d.op.map OpM.row),.sl x5,.sl (d.st.map StM.row),.sl x7]=bif strOK d.op (d.st.take i) (d.st.drop i) then some (0,[.sl x7]) else some (1,[]):=by
  intro x5 x7 n;induction n with
  | zero =>
   intro i hi;obtain rfl:i=d.st.length:=by omega
   rw [e162_0_3];simp only [List.length_map,Int.ofNat_lt,Nat.lt_irrefl,decide_false,cond_false,List.drop_length,strOK,cond_true]
  | succ n ih =>
   intro i hi;have hlt:i<d.st.length:=by omega
   rw [e162_0_3,strOK_step d.op d.st hlt,stOK_eq];have h1:=r243 (d.so.map sRow) d.op hb.op d.st[i].o;have h3:=rContSt (d.st.take i) (maxB (by rw [List.length_take]; omega)) d.st[i]
   simp only [List.length_map,Int.ofNat_lt,hlt,decide_true,cond_true,inbN,Int.toNat_natCast,rowAt_map hlt,wrap_succ hlt (maxB (by omega)),StM.row,nv0,nvS,dvI,dvB,dvS,dvL,Option.bind_some,h1,r244,ih (i+1) (by omega)]
   cases hf:findO d.op d.st[i].o with
   | none=>rfl
   | some o =>
    simp only [foRes,nv0,nvS,dvI,dvB,dvS,dvL,Option.bind_some,List.length_map,Bool.not_true,cond_false];cases isB d.st[i].o
    · by_cases q1:0<=d.st[i].a
      · have q1':¬ d.st[i].a<0:=by omega
        by_cases q2:d.st[i].a<o.a.length
        · have q2':¬(o.a.length:Int)<=d.st[i].a:=by omega
          have q3:(0:Int)<=(i:Int):=by omega
          have q4:(i:Int)<=(d.st.length:Int):=by omega
          simp only [q1,q1',q2,q2',q3,q4,Int.le_refl,decide_true,decide_false,cond_true,cond_false,Bool.and_true,Bool.not_false,Bool.true_and,Int.toNat_natCast,show Int.toNat 0=0 from rfl,List.drop_zero,<- List.map_take,h3,nv0,nvS,dvI,dvB,dvS,dvL,Option.bind_some]
          cases inSt (d.st.take i) d.st[i] <;> simp
        · have q2':(o.a.length:Int)<=d.st[i].a:=by omega
          simp [q1,q1',q2,q2']
      · have q1':d.st[i].a<0:=by omega
        simp [q1,q1']
    · rfl
 have hd:=r163 (d.ru.map (·.n)) (by rw [List.length_map]; omega)
 have hg:=r241 d.so hb.so hb.sos d.op hb.op hb.opn;have h1:=hl1 d.ru.length 0 [] (by omega) (Nat.zero_le _)
 have h3:=fun x5 x7=>hl3 x5 x7 d.st.length 0 (by omega)
 simp only [List.drop_zero,List.take_zero,Int.natCast_zero,List.map_nil,List.nil_append] at h1 h3;rw [e162_0_0];simp only [List.length_map,hg,nv0,nvS,dvI,dvB,dvS,dvL,Option.bind_some];unfold DfM.valid;cases sigOK d.so d.op
 · rfl
 · by_cases q1:d.ru.length<=16
   · have q1':¬((16:Int)<(d.ru.length:Int)):=by omega
     by_cases q2:d.st.length<=8
     · have q2':¬((8:Int)<(d.st.length:Int)):=by omega
       simp only [q1,q1',q2,q2',decide_true,decide_false,cond_true,cond_false,Bool.true_and,Bool.not_true,h1];cases d.ru.all (rulOK d.op)
       · rfl
       · simp only [cond_true,nv0,nvS,dvI,dvB,dvS,dvL,Option.bind_some,Nat.beq_refl,cond_true,cond_false,List.length_map,h3,Bool.true_and]
         cases strOK d.op [] d.st
         · rfl
         · simp only [cond_true,nv0,nvS,dvI,dvB,dvS,dvL,Option.bind_some,Nat.beq_refl,cond_true,cond_false,hd,Bool.true_and]
     · have q2':((8:Int)<(d.st.length:Int)):=by omega
       simp [q1,q1',q2,q2']
   · have q1':((16:Int)<(d.ru.length:Int)):=by omega
     simp [q1,q1']
theorem r230 (d:DfM) (hb:DfB d):rn ⟨230,0,0⟩ [.sl (d.so.map sRow),.sl (d.op.map OpM.row),.sl (d.ru.map RuM.row),.sl (d.st.map StM.row)]=some (0,[.bool (strOK d.op [] d.st&&decide (d.st.length<=8))]):=by
 have hsl:=hb.st;have hl3:∀ (x0:Nat),x0<=d.st.length->∀ (x:StM) (x2:ByteArray) (x3:Bool) (x4 x5 x6:Int) (x7 x8:Bool) (x15 x16:ByteArray) (x17:Rows),∀ n j,j+n=x0->rn ⟨230,0,3⟩ [.int (x0:Int),.int (j:Int),.str x2,.bool x3,.int x4,.int x5,.int x6,.bool x7,.bool x8,.sl (d.so.map sRow),.sl (d.op.map OpM.row),.sl (d.ru.map RuM.row),.sl (d.st.map StM.row),.str x.o,.int x.a,.str x15,.str x16,.sl x17]=bif inSt ((d.st.take x0).drop j) x then some (1,[]) else some (0,[.int (x0:Int),.str x2,.bool x3,.int x4,.int x5,.int x6,.bool x7,.bool x8,.sl (d.so.map sRow),.sl (d.op.map OpM.row),.sl (d.ru.map RuM.row),.sl (d.st.map StM.row),.str x.o,.int x.a,.str x15,.str x16,.sl x17]):=by
  intro x0 hx0 x x2 x3 x4 x5 x6 x7 x8 x15 x16 x17 n;induction n with
  | zero =>
   intro j hj;obtain rfl:j=x0:=by omega
   rw [e230_0_3];have:((d.st.take j).drop j)=[]:=List.drop_eq_nil_of_le (by rw [List.length_take]; omega)
   simp only [this,Int.lt_irrefl,decide_false,cond_false,inSt,List.any_nil]
  | succ n ih =>
   intro j hj;have hlt0:j<(d.st.take x0).length:=by rw [List.length_take]; omega
   have hlt:j<d.st.length:=by omega
   have hltx:j<x0:=by omega
   rw [e230_0_3,List.drop_eq_getElem_cons hlt0,List.getElem_take];simp only [List.length_map,Int.ofNat_lt,hlt,decide_true,cond_true,inbN,Int.toNat_natCast,rowAt_map hlt,wrap_succ hlt (maxB (by omega)),hltx,StM.row,nv0,nvS,dvI,dvB,dvS,dvL,Option.bind_some,ih (j+1) (by omega)]
   simp only [inSt,List.any_cons];by_cases h1:d.st[j].o=x.o
   · by_cases h2:d.st[j].a=x.a <;> simp [h1,h2]
   · simp [h1]
 have hl1:∀ n i,i+n=d.st.length->rn ⟨230,0,1⟩ [.int (i:Int),.sl (d.so.map sRow),.sl (d.op.map OpM.row),.sl (d.ru.map RuM.row),.sl (d.st.map StM.row)]=bif strOK d.op (d.st.take i) (d.st.drop i) then some (0,[.sl (d.so.map sRow),.sl (d.op.map OpM.row),.sl (d.ru.map RuM.row),.sl (d.st.map StM.row)]) else some (1,[]):=by
  intro n;induction n with
  | zero =>
   intro i hi;obtain rfl:i=d.st.length:=by omega
   rw [e230_0_1];simp only [List.length_map,Int.ofNat_lt,Nat.lt_irrefl,decide_false,cond_false,List.drop_length,strOK,cond_true]
  | succ n ih =>
   intro i hi;have hlt:i<d.st.length:=by omega
   rw [e230_0_1,strOK_step d.op d.st hlt,stOK_eq];have h1:=r239 (d.so.map sRow) d.op hb.op d.st[i].o;have h3:=fun x2 x3 x4 x5 x6 x7 x8 x15 x16 x17=>hl3 i (by omega) d.st[i] x2 x3 x4 x5 x6 x7 x8 x15 x16 x17 i 0 (by omega)
   simp only [List.drop_zero,Int.natCast_zero] at h3;simp only [List.length_map,Int.ofNat_lt,hlt,decide_true,cond_true,inbN,Int.toNat_natCast,rowAt_map hlt,wrap_succ hlt (maxB (by omega)),StM.row,nv0,nvS,dvI,dvB,dvS,dvL,Option.bind_some,h1,r265,rIn]
   cases hf:findO d.op d.st[i].o with
   | none=>rfl
   | some o =>
    have hoa:o.a.length<=1048576:=findO_ok hb.op.a hf;simp only [foRes,nv0,nvS,dvI,dvB,dvS,dvL,Option.bind_some,List.length_map,Bool.not_true,cond_false];rw [IntWalk.i64_in _ (by omega)]
    cases isB d.st[i].o
    · by_cases q1:0<=d.st[i].a
      · by_cases q2:d.st[i].a<o.a.length
        · have q2':d.st[i].a<=(o.a.length:Int)-1:=by omega
          simp only [q1,q2,q2',decide_true,cond_true,cond_false,Bool.and_true,Bool.not_false,Bool.not_true,Bool.true_and,h3];cases inSt (d.st.take i) d.st[i] with
          | true=>rfl
          | false=>simp only [cond_false,nv0,nvS,dvI,dvB,dvS,dvL,Option.bind_some,Nat.beq_refl,cond_true,cond_false,wrap_succ hlt (maxB (by omega)),ih (i+1) (by omega),Bool.not_false,Bool.true_and]
        · have q2':¬ d.st[i].a<=(o.a.length:Int)-1:=by omega
          simp [q1,q2,q2']
      · simp [q1]
    · rfl
 have h1:=hl1 d.st.length 0 (by omega)
 simp only [List.drop_zero,List.take_zero,Int.natCast_zero] at h1;rw [e230_0_0,h1];have i1:((d.st.length:Int)<=8)↔d.st.length<=8:=by omega
 cases strOK d.op [] d.st with
 | false=>rfl
 | true=>simp only [cond_true,nv0,nvS,dvI,dvB,dvS,dvL,Option.bind_some,Nat.beq_refl,cond_true,cond_false,List.length_map,i1,Bool.true_and]
theorem r150 (d:DfM) (hb:DfB d):rn ⟨150,0,0⟩ [.sl (d.so.map sRow),.sl (d.op.map OpM.row),.sl (d.ru.map RuM.row),.sl (d.st.map StM.row)]=some (0,[.bool d.valid]):=by
 have hrl:=hb.ru;have hl1:∀ n i (acc:List ByteArray),i+n=d.ru.length->acc.length<=i->rn ⟨150,0,1⟩ [.int (i:Int),.sl (d.so.map sRow),.sl (d.op.map OpM.row),.sl (d.ru.map RuM.row),.sl (d.st.map StM.row),.sl (acc.map sRow)]=bif (d.ru.drop i).all (rulOK d.op) then some (0,[.sl (d.so.map sRow),.sl (d.op.map OpM.row),.sl (d.ru.map RuM.row),.sl (d.st.map StM.row),.sl ((acc++(d.ru.drop i).map (·.n)).map sRow)]) else some (1,[]):=by
  intro n;induction n with
  | zero =>
   intro i acc hi ha;obtain rfl:i=d.ru.length:=by omega
   rw [e150_0_1];simp only [List.length_map,Int.ofNat_lt,Nat.lt_irrefl,decide_false,cond_false,List.drop_length,List.all_nil,cond_true,List.map_nil,List.append_nil]
  | succ n ih =>
   intro i acc hi ha;have hlt:i<d.ru.length:=by omega
   rw [e150_0_1,List.drop_eq_getElem_cons hlt];have h1:=r227 (d.so.map sRow) d.op hb.op d.ru[i] (hb.rua _ (List.getElem_mem hlt));have hb2:Nat.ble (acc.length+1) M63=true:=nb (by omega)
   have h6:=ih (i+1) (acc++[d.ru[i].n]) (by omega) (by simp; omega)
   simp only [List.map_append,List.map_cons,List.map_nil,sRow] at h6;simp only [List.length_map,Int.ofNat_lt,hlt,decide_true,cond_true,inbN,Int.toNat_natCast,rowAt_map hlt,wrap_succ hlt (maxB (by omega)),RuM.row,nv0,nvS,dvI,dvB,dvS,dvL,Option.bind_some,h1,List.length_cons,List.length_nil,Nat.zero_add,hb2,h6,List.all_cons]
   cases rulOK d.op d.ru[i] with
   | false=>rfl
   | true=>simp only [List.map_append,List.map_cons,List.append_assoc,List.cons_append,List.nil_append,sRow,Bool.not_true,cond_false,cond_true,Bool.true_and]
 have hd:=r229 (d.ru.map (·.n)) (by rw [List.length_map]; exact maxB (by omega))
 have hg:=r228 d.so hb.so hb.sos d.op hb.op hb.opn;have hs:=r230 d hb;have h1:=hl1 d.ru.length 0 [] (by omega) (Nat.zero_le _)
 simp only [List.drop_zero,Int.natCast_zero,List.map_nil,List.nil_append] at h1;have i1:((d.ru.length:Int)<=16)↔d.ru.length<=16:=by omega
 rw [e150_0_0,h1];unfold DfM.valid;cases d.ru.all (rulOK d.op) with
 | false=>cases sigOK d.so d.op <;> cases decide (d.ru.length<=16) <;> cases decide (d.st.length<=8) <;> rfl
 | true =>
  simp only [cond_true,nv0,nvS,dvI,dvB,dvS,dvL,Option.bind_some,Nat.beq_refl,cond_true,cond_false,List.length_map,hd,hg,hs,i1,Bool.true_and];cases sigOK d.so d.op <;> cases decide (d.ru.length<=16) <;> cases decide (d.st.length<=8) <;> cases strOK d.op [] d.st <;> cases dis (d.ru.map (·.n)) <;> rfl
end Go.Q.S
