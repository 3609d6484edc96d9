/- The functions of this seat, as that machine runs them. -/
import Derived.Test.YtnjedojmdcpcaaaGreatfP11b
import Derived.Test.YtnjedojmdcpcaaaGreatMA
set_option linter.unusedVariables false
set_option linter.unusedSimpArgs false
namespace Go.Q.S
open Go Go.Q Go.Proofs
theorem r170 (d:DfM) (hd:DfG d):∀ t:Tm,Gt d.op t->t.nodes<=60->∀ acc:List Int,acc.length+t.nodes<=1048576->rn ⟨170,0,0⟩ [.sl (d.so.map sRow),.sl (d.op.map OpM.row),.sl (d.ru.map RuM.row),.sl (d.st.map StM.row),.int t.k,.int t.n,.str t.s,.sl (t.as.map Tm.row),.sl (acc.map iRow)]=some (0,nrR (nx d t) acc):=Tm.ind fun t ih ht hn acc hac=>by
 have hnd:=Tm.nodes_eq t;have hls:=len_sum (xs:=t.as);have hst:=hd.b.st;have hql:=stL_len d.st t;have hlp:∀ n i,i+n=(stL d.st t).length->rn ⟨170,0,1⟩ [.int ((stL d.st t).length:Int),.int (i:Int),.sl (acc.map iRow),.sl (d.so.map sRow),.sl (d.op.map OpM.row),.sl (d.ru.map RuM.row),.sl (d.st.map StM.row),.int t.k,.int t.n,.str t.s,.sl (t.as.map Tm.row),.int 0,.sl ((stL d.st t).map iRow),.sl []]=match pickF ((stL d.st t).drop i) (t.as.map (nx d)) with
  | some x=>some (1,[.int (x.1:Int),.sl ((acc++x.2).map iRow)])
  | none=>some (0,[.sl (acc.map iRow),.sl (d.so.map sRow),.sl (d.op.map OpM.row),.sl (d.ru.map RuM.row),.sl (d.st.map StM.row),.int t.k,.int t.n,.str t.s,.sl (t.as.map Tm.row),.int 0,.sl []]):=by
  have hq:∀ j∈stL d.st t,0<=j/\j.toNat<t.as.length:=fun j hj=>stL_lt hd ht hj
  generalize stL d.st t=q at hql hq ⊢;intro n;induction n with
  | zero =>
   intro i hi;obtain rfl:i=q.length:=by omega
   rw [e170_0_1];simp only [List.length_map,Int.ofNat_lt,Nat.lt_irrefl,decide_false,cond_false,List.drop_length,pick_nil]
  | succ n ih2 =>
   intro i hi;have hlt:i<q.length:=by omega
   obtain ⟨h0,hm⟩:=hq _ (List.getElem_mem hlt);rw [List.drop_eq_getElem_cons hlt];rw [e170_0_1];generalize hj:q[i]=j at h0 hm ⊢;obtain ⟨m,rfl⟩:∃ m:Nat,j=(m:Int):=⟨j.toNat,by omega⟩
   rw [Int.toNat_natCast] at hm;have hmm:=List.getElem_mem hm;have hms:=mem_sum (f:=Tm.nodes) hmm;have h1:=ih _ hmm (ht.sub hmm) (by omega) (acc++[(m:Int)]) (by simp; omega)
   have h2:=rCloneI (acc.map iRow) (by rw [List.length_map]; omega)
   have hb2:Nat.ble (acc.length+1) M63=true:=nb (by omega)
   simp only [List.map_append,List.map_cons,List.map_nil,iRow] at h1;rw [pick_cons hm];simp only [List.length_map,Int.ofNat_lt,hlt,decide_true,cond_true,inbN,Int.toNat_natCast,rowAt_map hlt,wrap_succ hlt (maxB (by omega)),hj,hm,rowAt_map hm,Tm.row_eq,iRow,nv0,nvS,dvI,dvB,dvS,dvL,Option.bind_some,List.length_cons,List.length_nil,Nat.zero_add,hb2]
   simp only [h2,nv0,nvS,dvI,dvB,dvS,dvL,Option.bind_some,List.length_map,hb2,cond_true,h1];have h3:=ih2 (i+1) (by omega)
   cases nx d t.as[m] with
   | some x=>simp only [nrR,nv0,nvS,dvI,dvB,dvS,dvL,Option.bind_some,cond_true,List.append_assoc,List.cons_append,List.nil_append]
   | none=>simp only [nrR,nv0,nvS,dvI,dvB,dvS,dvL,Option.bind_some,cond_false,h3]
 have h0:=hlp (stL d.st t).length 0 (by omega)
 simp only [List.drop_zero,Int.natCast_zero] at h0;have h1:=r254 d hd.b t;have h2:=r256 d hd t hn;rw [e170_0_0,nx_eq,h1];simp only [nv0,nvS,dvI,dvB,dvS,dvL,Option.bind_some,List.length_map,h0];cases pickF (stL d.st t) (t.as.map (nx d)) with
 | some x=>rfl
 | none =>
  simp only [nv0,nvS,dvI,dvB,dvS,dvL,Option.bind_some,Nat.beq_refl,cond_true,cond_false,h2];cases rootF d.ru t with
  | none=>rfl
  | some i =>
   have q:¬((i:Int)<0):=by omega
   simp only [optZ,q,decide_false,cond_false,Option.map_some,nrR,List.append_nil]
theorem r104 (d:DfM) (hd:DfG d):∀ t:Tm,Gt d.op t->t.nodes<=60->rn ⟨104,0,0⟩ [.sl (d.so.map sRow),.sl (d.op.map OpM.row),.sl (d.ru.map RuM.row),.sl (d.st.map StM.row),.int t.k,.int t.n,.str t.s,.sl (t.as.map Tm.row)]=some (0,nrS (nx d t)):=Tm.ind fun t ih ht hn=>by
 have hnd:=Tm.nodes_eq t;have hls:=len_sum (xs:=t.as);have hst:=hd.b.st;have hql:=strA_len d.st t.s;have hlp:∀ n i,i+n=(strA d.st t.s).length->rn ⟨104,0,1⟩ [.int (i:Int),.sl (d.so.map sRow),.sl (d.op.map OpM.row),.sl (d.ru.map RuM.row),.sl (d.st.map StM.row),.int t.k,.int t.n,.str t.s,.sl (t.as.map Tm.row),.int 0,.sl ((strA d.st t.s).map iRow),.sl []]=match pickF (if t.k=2 then (strA d.st t.s).drop i else []) (t.as.map (nx d)) with
  | some x=>some (1,[.int (x.1:Int),.sl (x.2.map iRow)])
  | none=>some (0,[.sl (d.so.map sRow),.sl (d.op.map OpM.row),.sl (d.ru.map RuM.row),.sl (d.st.map StM.row),.int t.k,.int t.n,.str t.s,.sl (t.as.map Tm.row),.int 0,.sl []]):=by
  by_cases hk:t.k=2
  · have hq:∀ j∈strA d.st t.s,0<=j/\j.toNat<t.as.length:=fun j hj=>stL_lt hd ht (by unfold stL; rw [if_pos hk]; exact hj)
    generalize strA d.st t.s=q at hql hq ⊢;intro n;simp only [if_pos hk];induction n with
    | zero =>
     intro i hi;obtain rfl:i=q.length:=by omega
     rw [e104_0_1];simp only [List.length_map,Int.ofNat_lt,Nat.lt_irrefl,decide_false,cond_false,List.drop_length,pick_nil]
    | succ n ih2 =>
     intro i hi;have hlt:i<q.length:=by omega
     obtain ⟨h0,hm⟩:=hq _ (List.getElem_mem hlt);rw [List.drop_eq_getElem_cons hlt];rw [e104_0_1];generalize hj:q[i]=j at h0 hm ⊢;obtain ⟨m,rfl⟩:∃ m:Nat,j=(m:Int):=⟨j.toNat,by omega⟩
     rw [Int.toNat_natCast] at hm;have hmm:=List.getElem_mem hm;have hms:=mem_sum (f:=Tm.nodes) hmm;have h1:=ih _ hmm (ht.sub hmm) (by omega)
     have q2:(m:Int)<=(t.as.length:Int)-1:=by omega
     have hw:IntKind.i64.wrap ((t.as.length:Int)-1)=(t.as.length:Int)-1:=IntWalk.i64_in _ (by omega)
     have h3:=ih2 (i+1) (by omega)
     rw [pick_cons hm,decide_eq_true hk];simp only [List.length_map,Int.ofNat_lt,hlt,decide_true,cond_true,inbN,Int.toNat_natCast,rowAt_map hlt,wrap_succ hlt (maxB (by omega)),hj,hm,hw,h0,q2,rIn,Bool.and_true,Bool.not_true,cond_false,rowAt_map hm,Tm.row_eq,iRow,nv0,nvS,dvI,dvB,dvS,dvL,Option.bind_some,h1]
     cases hx:nx d t.as[m] with
     | some x =>
      obtain ⟨u,_,_,hu,_⟩:=nx_spec d _ x.1 x.2 hx;have hun:=atT_nodes x.2 _ u hu;have hb2:Nat.ble (0+1+x.2.length) M63=true:=nb (by omega)
      simp only [nrS,nv0,nvS,dvI,dvB,dvS,dvL,Option.bind_some,cond_true,List.length_cons,List.length_nil,List.length_map,hb2,List.cons_append,List.nil_append,List.map_cons,iRow]
     | none=>simp only [nrS,nv0,nvS,dvI,dvB,dvS,dvL,Option.bind_some,cond_false,h3]
  · intro n i hi
    rw [if_neg hk,pick_nil,e104_0_1,decide_eq_false hk];cases decide ((i:Int)<(((strA d.st t.s).map iRow).length:Int)) <;> rfl
 have h0:=hlp (strA d.st t.s).length 0 (by omega)
 simp only [List.drop_zero,Int.natCast_zero] at h0;have h1:=fun a b c=>r181 a b c d.st hd.b.st t.s
 have h2:=r182 d hd t hn;have hmx:∀ x:Option Nat,rn ⟨183,0,0⟩ [.int (optZ x),.int 0]=some (0,[.int ((x.getD 0:Nat):Int)]):=fun x=>by
  rw [e183_0_0];cases x with
  | none=>rfl
  | some i =>
   by_cases hi:(0:Int)<optZ (some i)
   · rw [decide_eq_true hi]; rfl
   · rw [decide_eq_false hi]
     simp only [optZ] at hi;obtain rfl:i=0:=by omega
     rfl
 rw [e104_0_0,nx_eq,h1];simp only [nv0,nvS,dvI,dvB,dvS,dvL,Option.bind_some,h0];have e:(if t.k=2 then strA d.st t.s else [])=stL d.st t:=rfl
 rw [e];cases pickF (stL d.st t) (t.as.map (nx d)) with
 | some x=>rfl
 | none =>
  simp only [nv0,nvS,dvI,dvB,dvS,dvL,Option.bind_some,Nat.beq_refl,cond_true,cond_false,h2,hmx];cases rootF d.ru t with
  | none=>rfl
  | some i =>
   have q:(0:Int)<=(i:Int):=by omega
   simp only [optZ,q,decide_true,Option.map_some,nrS,Option.getD_some,List.map_nil]
end Go.Q.S
