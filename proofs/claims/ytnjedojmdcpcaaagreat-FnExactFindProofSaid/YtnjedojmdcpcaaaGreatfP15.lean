/- The functions of this seat, as that machine runs them. -/
import Derived.Test.YtnjedojmdcpcaaaGreatfP14
import Derived.Test.YtnjedojmdcpcaaaGreatMA
set_option linter.unusedVariables false
set_option linter.unusedSimpArgs false
namespace Go.Q.S
open Go Go.Q Go.Proofs
theorem symS (d:DfM) (hb:DfB d) (vars:List ByteArray) (hv:vars.length<=1048576) (hvs:∀ x∈vars,x.size<=maxLen) (t:Tm) (hw:Wt t) (hn:t.nodes<=1048577) (cs:List Int) (hcs:cs.length<=1048576):rn ⟨79,0,0⟩ [.sl (d.so.map sRow),.sl (d.op.map OpM.row),.sl (d.ru.map RuM.row),.sl (d.st.map StM.row),.sl (vars.map sRow),.int t.k,.int t.n,.str t.s,.sl (t.as.map Tm.row),.sl (cs.map iRow)]=some (0,[.bool (symC d vars t cs)]):=by
 have hl1:∀ n i,i+n=cs.length->rn ⟨79,0,1⟩ [.int (i:Int),.sl (d.so.map sRow),.sl (d.op.map OpM.row),.sl (d.ru.map RuM.row),.sl (d.st.map StM.row),.sl (vars.map sRow),.int t.k,.int t.n,.str t.s,.sl (t.as.map Tm.row),.sl (cs.map iRow)]=bif incC vars.length (prv cs i) (cs.drop i) then some (0,[.sl (d.so.map sRow),.sl (d.op.map OpM.row),.sl (d.ru.map RuM.row),.sl (d.st.map StM.row),.sl (vars.map sRow),.int t.k,.int t.n,.str t.s,.sl (t.as.map Tm.row),.sl (cs.map iRow)]) else some (1,[]):=by
  intro n;induction n with
  | zero =>
   intro i hi;obtain rfl:i=cs.length:=by omega
   rw [e79_0_1];simp only [List.length_map,Int.ofNat_lt,Nat.lt_irrefl,decide_false,cond_false,List.drop_length,incC,cond_true]
  | succ n ih =>
   intro i hi;have hlt:i<cs.length:=by omega
   have h1:=r155 vars.length;have hp:prv cs (i+1)=some cs[i]:=by simp [prv,hlt]
   have h2:=ih (i+1) (by omega)
   rw [hp] at h2;rw [e79_0_1,List.drop_eq_getElem_cons hlt];simp only [List.length_map,Int.ofNat_lt,hlt,decide_true,cond_true,inbN,Int.toNat_natCast,rowAt_map hlt,wrap_succ hlt (maxB (by omega)),iRow,nv0,nvS,dvI,dvB,dvS,dvL,Option.bind_some,h1,rIn,wcnt,incC,h2]
   cases isC vars.length cs[i] with
   | false=>rfl
   | true =>
    rcases i with _ | j
    · simp [prv]
    · have hj:j<cs.length:=by omega
      have q1:(0:Int)<((j+1:Nat):Int):=by omega
      have hw:IntKind.i64.wrap (((j+1:Nat):Int)-1)=(j:Int):=by rw [IntWalk.i64_in _ (by omega)]; omega
      simp only [q1,hw,inbN,hj,decide_true,cond_true,cond_false,Bool.not_true,Bool.true_and,Int.toNat_natCast,rowAt_map hj,iRow,nv0,nvS,dvI,dvB,dvS,dvL,Option.bind_some,prv,List.getElem?_eq_getElem hj];by_cases q:cs[j+1]<=cs[j] <;> simp [q]
 have h1:=hl1 cs.length 0 (by omega)
 simp only [List.drop_zero,Int.natCast_zero,prv] at h1;have h2:=r150 d hb;have h3:=r151 vars hv hvs;have h4:=r152 t (by omega) hw
 have hnt:=names_nodes t;have hsl:=srtN_len t.names;have h5:=r154 t hn;have h5':=r153 (srtN t.names) vars (by omega) (maxB (by omega))
 have h6:=r157 vars hv;have h7:=r156 (d.so.map sRow) d.op hb.op (wv vars) (by unfold wv; rw [List.length_map]; omega) t hw
 rw [e79_0_0];simp only [List.length_map,h1,h2,h3,h4,h5,h5',h6,h7,nv0,nvS,dvI,dvB,dvS,dvL,Option.bind_some,Nat.beq_refl,cond_true,cond_false];unfold symC symV;cases d.valid <;> try rfl
 cases decide (vars.length<=3) <;> try rfl
 cases dis vars <;> try rfl
 cases vars.all isVr <;> try rfl
 cases t.valid <;> try rfl
 have hw:=wo_srt' t vars;cases hw2:within t vars with
 | true =>
  rw [hw2] at hw;have:(wo (srtN t.names) vars).length=0:=hw.2 rfl;cases incC vars.length none cs with
  | false=>simp [this]; rfl
  | true =>
   simp only [this,Int.natCast_zero,Int.lt_irrefl,decide_false,cond_false,cond_true,Bool.not_true,nv0,nvS,dvI,dvB,dvS,dvL,Option.bind_some,Nat.beq_refl,cond_true,cond_false,h6,h7];simp
 | false =>
  rw [hw2] at hw;have:¬(wo (srtN t.names) vars).length=0:=fun h=>by have:=hw.1 h; simp at this
  have:0<(wo (srtN t.names) vars).length:=by omega
  simp [this]
theorem r134 (l:List Int) (hl:l.length<=maxLen) (x:Int):rn ⟨134,0,0⟩ [.sl (l.map iRow),.int x]=some (0,[.bool (hasI l x)]):=by
 have key:∀ n i,i+n=l.length->rn ⟨134,0,1⟩ [.sl (l.map iRow),.int x,.int (i:Int)]=bif hasI (l.drop i) x then some (1,[]) else some (0,[]):=by
  intro n;induction n with
  | zero =>
   intro i hi;obtain rfl:i=l.length:=by omega
   rw [e134_0_1];simp only [List.length_map,Int.ofNat_lt,Nat.lt_irrefl,decide_false,cond_false,List.drop_length,hasI,List.any_nil,cond_false]
  | succ n ih =>
   intro i hi;have hlt:i<l.length:=by omega
   rw [e134_0_1,List.drop_eq_getElem_cons hlt];simp only [List.length_map,Int.ofNat_lt,hlt,decide_true,cond_true,inbN,Int.toNat_natCast,rowAt_map hlt,wrap_succ hlt hl,iRow,nv0,nvS,dvI,dvB,dvS,dvL,Option.bind_some,ih (i+1) (by omega)]
   simp only [hasI,List.any_cons];by_cases h1:l[i]=x <;> simp [h1]
 have h:=key l.length 0 (by omega)
 simp only [List.drop_zero,Int.natCast_zero] at h;rw [e134_0_0,h];cases hasI l x <;> rfl
end Go.Q.S
