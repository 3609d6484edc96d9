/- The functions of this seat, as that machine runs them. -/
import Derived.Test.YtnjedojmdcpcaaaGreatfP21
set_option linter.unusedVariables false
set_option linter.unusedSimpArgs false
namespace Go.Q.S
open Go Go.Q Go.Proofs
theorem i64len {n:Nat} (h:n<=1048577):IntKind.i64.wrap ((n:Int)-1)=(n:Int)-1:=IntWalk.i64_in _ (by omega)
theorem clAt_some {cs:List ClM} {i:Int} {c:ClM} (h:clAt cs i=some c):∃ j:Nat,i=(j:Int)/\∃ hj:j<cs.length,cs[j]=c:=by
 unfold clAt at h;split at h
 · obtain ⟨hj,e⟩:=List.getElem?_eq_some_iff.1 h
   exact ⟨i.toNat,by omega,hj,e⟩
 · simp at h
theorem clAt_none {cs:List ClM} {i:Int} (h:clAt cs i=none):i<0\/(cs.length:Int)<=i:=by
 unfold clAt at h;split at h
 · rw [List.getElem?_eq_none_iff] at h; omega
 · omega
theorem clAt_nat {cs:List ClM} {j:Nat} (h:j<cs.length):clAt cs (j:Int)=some cs[j]:=by
 unfold clAt;rw [if_pos (by omega)]; simp [h]
theorem r204 (cs:List ClM) (hcs:∀ c∈cs,ClB c) (hgu:∀ c∈cs,∀ q∈c.g,q.ok) (hcl:cs.length<=1048576) (j:Nat) (hj:j<cs.length) (x:PnM) (hx:PnB x) (t:Tm) (ht:Small t) (cl:List Int) (hl:cl.length<=1048576) (hk:∀ k∈cl,isC cs[j].v.length k=true):rn ⟨204,0,0⟩ [.sl (cs.map cRow),.int (j:Int),.sl (cs[j].v.map sRow),.int t.k,.int t.n,.str t.s,.sl (t.as.map Tm.row),.sl (cl.map iRow),.int x.k,.sl (x.nx.map iRow),.int x.c,.sl (x.s.map Bnd.row)]=some (0,[.bool (match clAt cs x.c with | some c=>cl.all (mapB c x.s cs[j] t) | none=>false)]):=by
 have hin:=rIn x.c 0 (IntKind.i64.wrap ((cs.length:Int)-1));rw [i64len (by omega)] at hin
 rw [e204_0_0];simp only [List.length_map,i64len (show cs.length<=1048577 by omega),hin,nv0,nvS,dvI,dvB,dvS,dvL,Option.bind_some]
 cases hq:clAt cs x.c with
 | none =>
  have:=clAt_none hq;have e:(decide ((0:Int)<=x.c)&&decide (x.c<=(cs.length:Int)-1))=false:=by
   rw [Bool.and_eq_false_iff];rcases this with h | h
   · exact .inl (decide_eq_false (by omega))
   · exact .inr (decide_eq_false (by omega))
  simp only [e,Bool.not_false,cond_true]
 | some c =>
  obtain ⟨i,hi,hic,e⟩:=clAt_some hq;subst e;have hci:=hcs _ (List.getElem_mem hic);have hcj:=hcs _ (List.getElem_mem hj);have e:(decide ((0:Int)<=(i:Int))&&decide ((i:Int)<=(cs.length:Int)-1))=true:=by simp; omega
  have hlp:∀ n m,m+n=cl.length->rn ⟨204,0,1⟩ [.sl (cs.map cRow),.int (j:Int),.int (m:Int),.sl (cs[j].v.map sRow),.int t.k,.int t.n,.str t.s,.sl (t.as.map Tm.row),.sl (cl.map iRow),.int x.k,.sl (x.nx.map iRow),.int (i:Int),.sl (x.s.map Bnd.row),.sl (cs[i].v.map sRow),.int (cs[i].l).k,.int (cs[i].l).n,.str (cs[i].l).s,.sl ((cs[i].l).as.map Tm.row),.int (cs[i].r).k,.int (cs[i].r).n,.str (cs[i].r).s,.sl ((cs[i].r).as.map Tm.row),.sl (cs[i].g.map Gu.row)]=bif (cl.drop m).all (mapB cs[i] x.s cs[j] t) then some (0,[]) else some (1,[]):=by
   intro n;induction n with
   | zero =>
    intro m hm;obtain rfl:m=cl.length:=by omega
    rw [e204_0_1];simp only [List.length_map,Int.ofNat_lt,Nat.lt_irrefl,decide_false,cond_false,List.drop_length,List.all_nil,cond_true]
   | succ n ih =>
    intro m hm;have hlt:m<cl.length:=by omega
    have hkm:=hk _ (List.getElem_mem hlt);have h1:=mpS cs[j].v cl[m] cs[i].v x.s hx.s hx.b;have h0:=ih (m+1) (by omega)
    rw [List.drop_eq_getElem_cons hlt,List.all_cons,e204_0_1];simp only [List.length_map,Int.ofNat_lt,hlt,decide_true,cond_true,inbN,Int.toNat_natCast,rowAt_map hlt,wrap_succ hlt (maxB (by omega)),iRow,nv0,nvS,dvI,dvB,dvS,dvL,Option.bind_some,h1]
    unfold mapB at h0 ⊢;cases hmr:(mapRes cs[j].v cl[m] cs[i].v x.s).2 with
    | false=>rfl
    | true =>
     have hn:=map_isC hmr;generalize (mapRes cs[j].v cl[m] cs[i].v x.s).1=a at hn ⊢;have h2:=r205 cs[i].v cs[i].g hci.g (hgu _ (List.getElem_mem hic));have h3:=r134 ((allC cs[i].v cs[i].g).map fun (i:Nat)=>(i:Int)) (by rw [List.length_map]; have:=S.allC_len cs[i].v cs[i].g; unfold maxLen; omega) a
     rw [allC_has hn] at h3;have h4:=r105 cs[i].v cs[i].l (small_of _ hci.ln) a;have h5:=r105 cs[j].v t ht cl[m];have h6:=r217 (inst cs[i].v cs[i].l a) (inst cs[j].v t cl[m]) (inst_small (small_of _ hci.ln) a);have h7:=r136 cs[i].v cs[i].l cs[i].r (small_of _ hci.rn) (cs[i].g.map Gu.row) a;have h8:=r136 cs[j].v cs[j].l cs[j].r (small_of _ hcj.rn) (cs[j].g.map Gu.row) cl[m];have h9:=r217 (S.instR cs[i].v cs[i].r a) (S.instR cs[j].v cs[j].r cl[m]) (S.instR_small (small_of _ hci.rn) a);rw [instR_C hn,instR_C hkm];simp only [Bool.not_true,cond_false,h2,nrow_irow,h3,nv0,nvS,dvI,dvB,dvS,dvL,Option.bind_some,Bool.true_and];cases cs[i].g.all fun q=>holds (appG (caseS cs[i].v a) q) with
     | false=>rfl
     | true =>
      simp only [Bool.not_true,cond_false,h4,h5,h6,nv0,nvS,dvI,dvB,dvS,dvL,Option.bind_some,Bool.true_and];cases eqb (inst cs[i].v cs[i].l a).row (inst cs[j].v t cl[m]).row with
      | false=>rfl
      | true =>
       simp only [Bool.not_true,cond_false,rowAt_map hj,cRow,hj,decide_true,cond_true,h7,h8,h9,nv0,nvS,dvI,dvB,dvS,dvL,Option.bind_some,Bool.true_and];cases eqb (S.instR cs[i].v cs[i].r a).row (S.instR cs[j].v cs[j].r cl[m]).row with
       | false=>rfl
       | true=>simp only [Bool.not_true,cond_false,Bool.true_and]; exact h0
  have h1:=hlp cl.length 0 (Nat.zero_add _);simp only [Int.natCast_zero,List.drop_zero] at h1;rw [hi];simp only [e,Bool.not_true,cond_false,inbN,hic,decide_true,cond_true,Int.toNat_natCast,rowAt_map hic,nv0,nvS,dvI,dvB,dvS,dvL,Option.bind_some];rw [show ∀ q:Bool,(bif q then (some (0,[]):R) else some (1,[]))=bif q then some (0,[]) else some (1,[]) from fun _=>rfl] at h1
  show (rn ⟨204,0,1⟩ [.sl (cs.map cRow),.int (j:Int),.int 0,.sl (cs[j].v.map sRow),.int t.k,.int t.n,.str t.s,.sl (t.as.map Tm.row),.sl (cl.map iRow),.int x.k,.sl (x.nx.map iRow),.int (i:Int),.sl (x.s.map Bnd.row),.sl (cs[i].v.map sRow),.int (cs[i].l).k,.int (cs[i].l).n,.str (cs[i].l).s,.sl ((cs[i].l).as.map Tm.row),.int (cs[i].r).k,.int (cs[i].r).n,.str (cs[i].r).s,.sl ((cs[i].r).as.map Tm.row),.sl (cs[i].g.map Gu.row)]).bind _=_
  rw [h1];cases cl.all (mapB cs[i] x.s cs[j] t) <;> rfl
theorem r129 (d:DfM) (cs:List ClM) (hcs:∀ c∈cs,ClB c) (hcd:∀ c∈cs,c.d=d) (hcl:cs.length<=1048576) (k:Int):rn ⟨129,0,0⟩ [.sl (d.so.map sRow),.sl (d.op.map OpM.row),.sl (d.ru.map RuM.row),.sl (d.st.map StM.row),.sl (cs.map cRow),.int k]=some (0,[.bool (areC cs k).isSome]):=by
 have hlp:∀ n i,i+n=cs.length->rn ⟨287,0,1⟩ [.sl (cs.map cRow),.int (cs.length:Int),.int (i:Int),.sl (d.so.map sRow),.sl (d.op.map OpM.row),.sl (d.ru.map RuM.row),.sl (d.st.map StM.row)]=bif (cs.drop i).all ClM.valid then some (0,[.sl (d.so.map sRow),.sl (d.op.map OpM.row),.sl (d.ru.map RuM.row),.sl (d.st.map StM.row)]) else some (1,[.int (((cs.drop i).takeWhile ClM.valid).length+i:Nat),.sl (d.so.map sRow),.sl (d.op.map OpM.row),.sl (d.ru.map RuM.row),.sl (d.st.map StM.row)]):=by
  intro n;induction n with
  | zero =>
   intro i hi;obtain rfl:i=cs.length:=by omega
   rw [e287_0_1];simp only [List.length_map,Int.ofNat_lt,Nat.lt_irrefl,decide_false,cond_false,List.drop_length,List.all_nil,cond_true]
  | succ n ih =>
   intro i hi;have hlt:i<cs.length:=by omega
   have hm:=List.getElem_mem hlt;have h1:=r210 cs[i] (hcs _ hm);unfold ClM.row at h1;rw [hcd _ hm] at h1;have h2:rn ⟨209,0,0⟩ [.sl (cs[i].v.map sRow),.int (cs[i].l).k,.int (cs[i].l).n,.str (cs[i].l).s,.sl ((cs[i].l).as.map Tm.row),.int (cs[i].r).k,.int (cs[i].r).n,.str (cs[i].r).s,.sl ((cs[i].r).as.map Tm.row),.sl (cs[i].g.map Gu.row),.sl (d.so.map sRow),.sl (d.op.map OpM.row),.sl (d.ru.map RuM.row),.sl (d.st.map StM.row)]=some (0,[.bool !cs[i].valid,.sl (d.so.map sRow),.sl (d.op.map OpM.row),.sl (d.ru.map RuM.row),.sl (d.st.map StM.row)]):=by
    rw [e209_0_0];simp only [h1,nv0,nvS,dvI,dvB,dvS,dvL,Option.bind_some]
   have h3:=ih (i+1) (by omega)
   rw [List.drop_eq_getElem_cons hlt,List.all_cons,List.takeWhile_cons,e287_0_1];simp only [List.length_map,Int.ofNat_lt,hlt,decide_true,cond_true,inbN,Int.toNat_natCast,rowAt_map hlt,wrap_succ hlt (maxB (by omega)),cRow,nv0,nvS,dvI,dvB,dvS,dvL,Option.bind_some,h2]
   cases cs[i].valid with
   | false=>simp
   | true =>
    simp only [Bool.not_true,cond_false,Bool.true_and,if_true,List.length_cons];rw [show ((cs.drop (i+1)).takeWhile ClM.valid).length+1+i=((cs.drop (i+1)).takeWhile ClM.valid).length+(i+1) by omega]
    exact h3
 have h1:=hlp cs.length 0 (Nat.zero_add _);simp only [Int.natCast_zero,List.drop_zero] at h1;have h2:∃ w,rn ⟨208,0,0⟩ [.sl (cs.map cRow),.sl (d.so.map sRow),.sl (d.op.map OpM.row),.sl (d.ru.map RuM.row),.sl (d.st.map StM.row)]=some (0,[.bool !claimsB cs,.sl (d.so.map sRow),.sl (d.op.map OpM.row),.sl (d.ru.map RuM.row),.sl (d.st.map StM.row)])/\w=0:=by
  refine ⟨0,?_,rfl⟩;rw [e208_0_0,e287_0_0];simp only [List.length_map,h1];unfold claimsB;cases cs.all ClM.valid with
  | true=>rfl
  | false =>
   simp only [cond_false,nv0,nvS,dvI,dvB,dvS,dvL,Option.bind_some,Bool.not_false];have e:decide ((0:Int)<=(((cs.takeWhile ClM.valid).length+0:Nat):Int))=true:=by simp
   simp only [show Nat.beq 1 0=false from rfl,show Nat.beq 1 1=true from rfl,cond_false,cond_true,Option.bind_some,nv0,nvS,dvI,dvB,dvS,dvL,Option.bind_some,e]
 obtain ⟨_,h2,_⟩:=h2;rw [e129_0_0];simp only [List.length_map];unfold areC;by_cases h3:cs.length<=3
 · have e3:decide ((cs.length:Int)<=3)=true:=decide_eq_true (by omega)
   simp only [e3,cond_true];cases hq:clAt cs k with
   | none =>
    have e:(if cs.length<=3/\claimsB cs=true then (none:Option ClM) else none)=none:=by split <;> rfl
    rw [e];rcases clAt_none hq with h | h
    · rw [decide_eq_false (show ¬(0:Int)<=k by omega)]; rfl
    · by_cases h0:(0:Int)<=k
      · rw [decide_eq_true h0,decide_eq_false (show ¬ k<(cs.length:Int) by omega)]; rfl
      · rw [decide_eq_false h0]; rfl
   | some c =>
    obtain ⟨j,rfl,hj,e⟩:=clAt_some hq;rw [decide_eq_true (show (0:Int)<=(j:Int) by omega),decide_eq_true (show (j:Int)<(cs.length:Int) by omega)]
    simp only [cond_true,h2,nv0,nvS,dvI,dvB,dvS,dvL,Option.bind_some,Bool.not_not];cases hv:claimsB cs with
    | true=>rw [if_pos ⟨h3,rfl⟩]; rfl
    | false=>rw [if_neg (by simp)]; rfl
 · rw [decide_eq_false (by omega:¬(cs.length:Int)<=3),if_neg (fun h=>h3 h.1)]; rfl
theorem r124 (d:DfM) (cs:List ClM) (hcs:∀ c∈cs,ClB c) (hcd:∀ c∈cs,c.d=d) (hcl:cs.length<=1048576):rn ⟨124,0,0⟩ [.sl (d.so.map sRow),.sl (d.op.map OpM.row),.sl (d.ru.map RuM.row),.sl (d.st.map StM.row),.sl (cs.map cRow)]=some (0,[.bool (claimsB cs&&(decide (1<=cs.length)&&decide (cs.length<=3)))]):=by
 have hlp:∀ n i,i+n=cs.length->rn ⟨124,0,1⟩ [.sl (cs.map cRow),.int (i:Int),.sl (d.so.map sRow),.sl (d.op.map OpM.row),.sl (d.ru.map RuM.row),.sl (d.st.map StM.row)]=bif (cs.drop i).all ClM.valid then some (0,[.sl (cs.map cRow)]) else some (1,[]):=by
  intro n;induction n with
  | zero =>
   intro i hi;obtain rfl:i=cs.length:=by omega
   rw [e124_0_1];simp only [List.length_map,Int.ofNat_lt,Nat.lt_irrefl,decide_false,cond_false,List.drop_length,List.all_nil,cond_true]
  | succ n ih =>
   intro i hi;have hlt:i<cs.length:=by omega
   have hm:=List.getElem_mem hlt;have h1:=r202 cs[i] (hcs _ hm);unfold ClM.row at h1;rw [hcd _ hm] at h1;have h3:=ih (i+1) (by omega)
   rw [List.drop_eq_getElem_cons hlt,List.all_cons,e124_0_1];simp only [List.length_map,Int.ofNat_lt,hlt,decide_true,cond_true,inbN,Int.toNat_natCast,rowAt_map hlt,wrap_succ hlt (maxB (by omega)),cRow,nv0,nvS,dvI,dvB,dvS,dvL,Option.bind_some,h1]
   cases cs[i].valid with
   | false=>rfl
   | true=>simp only [Bool.not_true,cond_false,Bool.true_and]; exact h3
 have h1:=hlp cs.length 0 (Nat.zero_add _);simp only [Int.natCast_zero,List.drop_zero] at h1;rw [e124_0_0,h1];unfold claimsB;cases cs.all ClM.valid with
 | false=>rfl
 | true =>
  have e1:decide ((1:Int)<=(cs.length:Int))=decide (1<=cs.length):=by by_cases q:1<=cs.length <;> simp [q] <;> omega
  have e2:decide ((cs.length:Int)<=3)=decide (cs.length<=3):=by by_cases q:cs.length<=3 <;> simp [q] <;> omega
  simp only [cond_true,nv0,nvS,dvI,dvB,dvS,dvL,Option.bind_some,Nat.beq_refl,cond_true,cond_false,List.length_map,rIn,e1,e2,Bool.true_and]
end Go.Q.S
