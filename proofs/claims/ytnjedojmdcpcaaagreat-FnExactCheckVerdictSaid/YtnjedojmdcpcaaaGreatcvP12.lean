/- The functions of this seat, as that machine runs them. -/
import Derived.Test.YtnjedojmdcpcaaaGreatcvP11d
import Derived.Test.YtnjedojmdcpcaaaGreatMA
set_option linter.unusedVariables false
set_option linter.unusedSimpArgs false
namespace Go.Q.S
open Go Go.Q Go.Proofs
theorem r219 (d:DfM) (hb:DfB d) (t:Tm) (hw:Wt t) (hn:t.nodes<=2097152) (f:Int):rn ⟨219,0,0⟩ [.sl (d.so.map sRow),.sl (d.op.map OpM.row),.sl (d.ru.map RuM.row),.sl (d.st.map StM.row),.int t.k,.int t.n,.str t.s,.sl (t.as.map Tm.row),.int f]=some (0,rtD (runT d t f)):=by
 have h1:=r295 d hb t hw hn f;rw [e219_0_0,h1];cases runT d t f <;> rfl
theorem r220 (d:DfM) (hb:DfB d) (t:Tm) (hw:Wt t) (hn:t.nodes<=2097152) (g:Tm) (f:Int):rn ⟨220,0,0⟩ [.sl (d.so.map sRow),.sl (d.op.map OpM.row),.sl (d.ru.map RuM.row),.sl (d.st.map StM.row),.int t.k,.int t.n,.str t.s,.sl (t.as.map Tm.row),.int g.k,.int g.n,.str g.s,.sl (g.as.map Tm.row),.int f]=some (0,[.bool (reachR (runT d t f) t g)]):=by
 have h1:=r295 d hb t hw hn f;have key:∀ l:List Tm,l.length<=1048576->(∀ x∈l,Small x)->rn ⟨296,0,0⟩ [.sl (l.map Tm.row),.int g.k,.int g.n,.str g.s,.sl (g.as.map Tm.row)]=some (0,[.bool (l.any fun x=>eqb x.row g.row),.int g.k,.int g.n,.str g.s,.sl (g.as.map Tm.row)]):=by
  intro l hl hs;have hlp:∀ n i,i+n=l.length->(((l.drop i).any fun x=>eqb x.row g.row)=false/\rn ⟨331,0,1⟩ [.sl (l.map Tm.row),.int (l.length:Int),.int (i:Int),.int g.k,.int g.n,.str g.s,.sl (g.as.map Tm.row)]=some (0,[.int g.k,.int g.n,.str g.s,.sl (g.as.map Tm.row)]))\/(((l.drop i).any fun x=>eqb x.row g.row)=true/\∃ j:Nat,rn ⟨331,0,1⟩ [.sl (l.map Tm.row),.int (l.length:Int),.int (i:Int),.int g.k,.int g.n,.str g.s,.sl (g.as.map Tm.row)]=some (1,[.int (j:Int),.int g.k,.int g.n,.str g.s,.sl (g.as.map Tm.row)])):=by
   intro n;induction n with
   | zero =>
    intro i hi;obtain rfl:i=l.length:=by omega
    rw [e331_0_1];simp only [List.length_map,Int.ofNat_lt,Nat.lt_irrefl,decide_false,cond_false,List.drop_length];exact .inl ⟨rfl,trivial⟩
   | succ n ih =>
    intro i hi;have hlt:i<l.length:=by omega
    have he:=r289 l[i] g (hs _ (List.getElem_mem hlt));rw [e331_0_1,List.drop_eq_getElem_cons hlt];simp only [List.any_cons];generalize eqb l[i].row g.row=b at he ⊢;have:=ih (i+1) (by omega)
    generalize ((l.drop (i+1)).any fun x=>eqb x.row g.row)=A at this ⊢
    simp only [List.length_map,Int.ofNat_lt,hlt,decide_true,cond_true,inbN,Int.toNat_natCast,rowAt_map hlt,wrap_succ hlt (maxB (by omega)),Tm.row_eq,nv0,nvS,dvI,dvB,dvS,dvL,Option.bind_some,e297_0_0,he]
    cases b with
    | true=>exact .inr ⟨rfl,i,by simp⟩
    | false=>simpa using this
  have h:=hlp l.length 0 (by omega)
  simp only [List.drop_zero,Int.natCast_zero] at h;rw [e296_0_0,e331_0_0];simp only [List.length_map];rcases h with ⟨q1,q2⟩|⟨q1,j,q2⟩
  · rw [q2,q1]; rfl
  · rw [q2,q1]
    have:(0:Int)<=(j:Int):=by omega
    simp only [nv0,nvS,dvI,dvB,dvS,dvL,Option.bind_some,Nat.beq_refl,cond_true,cond_false,show Nat.beq 1 0=false from rfl,this,decide_true]
 rw [e220_0_0,h1];cases hr:runT d t f with
 | none =>
  have h2:=key [] (by simp) (by simp)
  simp only [List.map_nil] at h2;simp only [runD,nv0,nvS,dvI,dvB,dvS,dvL,Option.bind_some,h2,reachR,List.any_nil]
 | some r =>
  obtain ⟨gd,hn60⟩:=runT_good hb hw hr;have h2:=key (t::r.st) (by have:=gd.sl; simp; omega) (fun x hx=>by
   rcases List.mem_cons.1 hx with e | hx
   · subst e; exact small_of _ (by omega)
   · exact small_of _ (by have:=(gd.s x hx).2; omega))
  simp only [runD,nv0,nvS,dvI,dvB,dvS,dvL,Option.bind_some,h2,reachR]
end Go.Q.S
