/- The functions of this seat, as that machine runs them. -/
import Derived.Test.YtnjedojmdcpcaaaGreatcvP12
import Derived.Test.YtnjedojmdcpcaaaGreatMA
set_option linter.unusedVariables false
set_option linter.unusedSimpArgs false
namespace Go.Q.S
open Go Go.Q Go.Proofs
theorem r120 (vars:List ByteArray) (t:Tm) (h:Small t) (cs:Rows) (c:Int):rn ⟨120,0,0⟩ [.sl (vars.map sRow),.int t.k,.int t.n,.str t.s,.sl (t.as.map Tm.row),.sl cs,.int c]=some (0,[.int (S.instR vars t c).k,.int (S.instR vars t c).n,.str (S.instR vars t c).s,.bool (isC vars.length c),.sl ((S.instR vars t c).as.map Tm.row)]):=by
 have e1:=r169 vars.length c;have e2:=r199 vars c;have e3:=r198 (caseS vars c) (caseS_len vars c) (caseS_small vars c) t h;have e4:=r197 _ (aS_small (caseS_small vars c) t h);rw [e120_0_0];simp only [List.length_map,e1,nv0,nvS,dvI,dvB,dvS,dvL,Option.bind_some];unfold S.instR;cases hc:isC vars.length c with
 | false=>rfl
 | true=>simp only [Bool.not_true,cond_false,e2,e3,e4,nv0,nvS,dvI,dvB,dvS,dvL,Option.bind_some,if_true]; rfl
theorem r118 (vars:List ByteArray) (t:Tm) (h:Small t) (cs:Rows) (c:Int):rn ⟨118,0,0⟩ [.sl (vars.map sRow),.int t.k,.int t.n,.str t.s,.sl (t.as.map Tm.row),.sl cs,.int c]=some (0,[.int (S.instR vars t c).k,.int (S.instR vars t c).n,.str (S.instR vars t c).s,.bool (isC vars.length c),.sl ((S.instR vars t c).as.map Tm.row)]):=by
 have e1:=r155 vars.length;have e2:=r105 vars t h c;rw [e118_0_0];simp only [List.length_map,e1,nv0,nvS,dvI,dvB,dvS,dvL,Option.bind_some,rIn,wcnt];unfold S.instR;cases hc:isC vars.length c with
 | false=>rfl
 | true=>simp only [Bool.not_true,cond_false,e2,nv0,nvS,dvI,dvB,dvS,dvL,Option.bind_some,if_true]
theorem r221 (vars:List ByteArray) (l t:Tm) (h:Small t) (gs:Rows) (c:Int):rn ⟨221,0,0⟩ [.sl (vars.map sRow),.int l.k,.int l.n,.str l.s,.sl (l.as.map Tm.row),.int t.k,.int t.n,.str t.s,.sl (t.as.map Tm.row),.sl gs,.int c]=some (0,[.int (S.instR vars t c).k,.int (S.instR vars t c).n,.str (S.instR vars t c).s,.sl ((S.instR vars t c).as.map Tm.row)]):=by
 have e1:=r120 vars t h [] c;rw [e221_0_0];simp only [e1,nv0,nvS,dvI,dvB,dvS,dvL,Option.bind_some]
theorem r136 (vars:List ByteArray) (l t:Tm) (h:Small t) (gs:Rows) (c:Int):rn ⟨136,0,0⟩ [.sl (vars.map sRow),.int l.k,.int l.n,.str l.s,.sl (l.as.map Tm.row),.int t.k,.int t.n,.str t.s,.sl (t.as.map Tm.row),.sl gs,.int c]=some (0,[.int (S.instR vars t c).k,.int (S.instR vars t c).n,.str (S.instR vars t c).s,.sl ((S.instR vars t c).as.map Tm.row)]):=by
 have e1:=r118 vars t h [] c;rw [e136_0_0];simp only [e1,nv0,nvS,dvI,dvB,dvS,dvL,Option.bind_some]
theorem r138 (c:ClM) (hb:ClB c) (i:Int):rn ⟨138,0,0⟩ [.sl (c.d.so.map sRow),.sl (c.d.op.map OpM.row),.sl (c.d.ru.map RuM.row),.sl (c.d.st.map StM.row),.sl (c.v.map sRow),.int (c.l).k,.int (c.l).n,.str (c.l).s,.sl ((c.l).as.map Tm.row),.int (c.r).k,.int (c.r).n,.str (c.r).s,.sl ((c.r).as.map Tm.row),.sl (c.g.map Gu.row),.int i]=some (0,[.bool (refB c.d (S.instR c.v c.l i) (S.instR c.v c.r i))]):=by
 have hls:=small_of _ hb.ln;have hrs:=small_of _ hb.rn;have hnl:=S.instR_nodes (vars:=c.v) (t:=c.l) i;have hln:=hb.ln;have hw:=wt_instR (vars:=c.v) hb.wl i;have h1:=r120 c.v c.l hls [] i;have h2:=r219 c.d hb.d _ hw (by omega) 200
 have h3:=r221 c.v c.l c.r hrs (c.g.map Gu.row) i;have h4:=r220 c.d hb.d _ hw (by omega) (S.instR c.v c.r i) 200
 rw [e138_0_0];simp only [h1,nv0,nvS,dvI,dvB,dvS,dvL,Option.bind_some,h2,h3,h4];unfold refB;cases runT c.d (S.instR c.v c.l i) 200 with
 | none=>rfl
 | some r =>
  simp only [rtD,nv0,nvS,dvI,dvB,dvS,dvL,Option.bind_some];cases decide (r.o=1) <;> rfl
theorem r135 (d:DfM) (hb:DfB d) (t:Tm) (hw:Wt t) (hc:cfg d t=true) (g:Tm):rn ⟨135,0,0⟩ [.sl (d.so.map sRow),.sl (d.op.map OpM.row),.sl (d.ru.map RuM.row),.sl (d.st.map StM.row),.int t.k,.int t.n,.str t.s,.sl (t.as.map Tm.row),.int g.k,.int g.n,.str g.s,.sl (g.as.map Tm.row)]=some (0,[.bool (refB d t g)]):=by
 have h1:=r216 d hb t hw 200 (by decide) (by decide) hc
 obtain ⟨hd,ht,hn⟩:=cfg_of hb hw hc;have hr:=runT_cfg hc;obtain ⟨gd,_⟩:=runT_good hb hw hr;have key:∀ l:List Tm,l.length<=1048576->(∀ x∈l,Small x)->∀ (o k n:Int) (s:ByteArray) (m:Int) (a b:Rows),∀ j i,i+j=l.length->rn ⟨135,0,1⟩ [.int (i:Int),.int g.k,.int g.n,.str g.s,.sl (g.as.map Tm.row),.int o,.int k,.int n,.str s,.int m,.sl a,.sl b,.sl (l.map Tm.row)]=bif ((l.drop i).any fun x=>eqb x.row g.row) then some (1,[]) else some (0,[.int o,.int k,.int n,.str s,.int m,.sl a,.sl b,.sl (l.map Tm.row)]):=by
  intro l hl hs o k n s m a b j;induction j with
  | zero =>
   intro i hi;obtain rfl:i=l.length:=by omega
   rw [e135_0_1];simp only [List.length_map,Int.ofNat_lt,Nat.lt_irrefl,decide_false,cond_false,List.drop_length,List.any_nil,cond_false]
  | succ j ih =>
   intro i hi;have hlt:i<l.length:=by omega
   have he:=r217 l[i] g (hs _ (List.getElem_mem hlt));rw [e135_0_1,List.drop_eq_getElem_cons hlt];simp only [List.any_cons];generalize eqb l[i].row g.row=b' at he ⊢;have:=ih (i+1) (by omega)
   generalize ((l.drop (i+1)).any fun x=>eqb x.row g.row)=A at this ⊢
   simp only [List.length_map,Int.ofNat_lt,hlt,decide_true,cond_true,inbN,Int.toNat_natCast,rowAt_map hlt,wrap_succ hlt (maxB (by omega)),Tm.row_eq,nv0,nvS,dvI,dvB,dvS,dvL,Option.bind_some,he,this]
   cases b' <;> simp
 have hk:=fun o k n s m a b=>key (t::(runF d 200 t).st) (by have:=gd.sl; simp; omega) (fun x hx=>by
  rcases List.mem_cons.1 hx with e | hx
  · subst e; exact small_of _ (by omega)
  · exact small_of _ (by have:=(gd.s x hx).2; omega)) o k n s m a b _ 0 (Nat.zero_add _)
 simp only [Int.natCast_zero,List.drop_zero] at hk;rw [e135_0_0,h1];unfold refB;rw [hr];simp only [allD,show Int.toNat 200=200 from rfl,nv0,nvS,dvI,dvB,dvS,dvL,Option.bind_some,hk,reachR]
 cases (t::(runF d 200 t).st).any fun x=>eqb x.row g.row with
 | true=>rw [Bool.not_true,Bool.and_false]; rfl
 | false=>simp only [cond_false,nv0,nvS,dvI,dvB,dvS,dvL,Option.bind_some,Nat.beq_refl,cond_true,cond_false,Bool.not_false,Bool.and_true]
end Go.Q.S
