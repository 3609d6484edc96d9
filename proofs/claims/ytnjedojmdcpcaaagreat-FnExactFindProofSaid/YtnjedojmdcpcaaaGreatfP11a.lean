/- The functions of this seat, as that machine runs them. -/
import Derived.Test.YtnjedojmdcpcaaaGreatfP10
import Derived.Test.YtnjedojmdcpcaaaGreatMA
set_option linter.unusedVariables false
set_option linter.unusedSimpArgs false
namespace Go.Q.S
open Go Go.Q Go.Proofs
theorem rCloneT (xs:Rows) (h:xs.length<=274877906944):rn ⟨345,0,0⟩ [.sl xs]=some (0,[.sl xs]):=by
 rw [e345_0_0];have hb:Nat.ble (([]:Rows).length+xs.length) M63=true:=Nat.ble_eq_true_of_le (by unfold M63; simpa using h)
 rw [hb];cases xs with
 | nil=>simp [both]
 | cons x xs=>rfl
theorem r314 (a b c:Rows) (st:List StM) (hst:st.length<=1048576) (s:ByteArray):rn ⟨314,0,0⟩ [.sl a,.sl b,.sl c,.sl (st.map StM.row),.str s]=some (0,[.sl ((strA st s).map iRow)]):=by
 have key:∀ n i (acc:List Int),i+n=st.length->acc.length<=i->rn ⟨314,0,1⟩ [.str s,.sl (st.map StM.row),.int (st.length:Int),.int (i:Int),.sl (acc.map iRow)]=some (0,[.sl ((acc++strA (st.drop i) s).map iRow)]):=by
  intro n;induction n with
  | zero =>
   intro i acc hi ha;obtain rfl:i=st.length:=by omega
   rw [e314_0_1];simp only [List.length_map,Int.ofNat_lt,Nat.lt_irrefl,decide_false,cond_false,List.drop_length,strA,List.filter_nil,List.map_nil,List.append_nil]
  | succ n ih =>
   intro i acc hi ha;have hlt:i<st.length:=by omega
   rw [e314_0_1,List.drop_eq_getElem_cons hlt,strA_cons];have hb2:Nat.ble (acc.length+1) M63=true:=nb (by omega)
   have h1:=ih (i+1) (acc++[st[i].a]) (by omega) (by simp; omega)
   have h2:=ih (i+1) acc (by omega) (by omega)
   simp only [List.map_append,List.map_cons,List.map_nil,iRow] at h1 h2;simp only [List.length_map,Int.ofNat_lt,hlt,decide_true,cond_true,inbN,Int.toNat_natCast,rowAt_map hlt,wrap_succ hlt (maxB (by omega)),StM.row,nv0,nvS,dvI,dvB,dvS,dvL,Option.bind_some,List.length_cons,List.length_nil,Nat.zero_add,hb2,iRow]
   by_cases hq:st[i].o=s
   · simp only [hq,decide_true,cond_true,if_true,h1,List.map_append,List.map_cons,List.append_assoc,List.cons_append,List.nil_append,iRow]
   · simp only [hq,decide_false,cond_false,if_false,h2,List.map_append,iRow]
 have h:=key st.length 0 [] (by omega) (Nat.zero_le _)
 rw [e314_0_0];simp only [Int.natCast_zero,List.map_nil,List.drop_zero,List.nil_append,List.length_map] at h ⊢;simp only [h,nv0,nvS,dvI,dvB,dvS,dvL,Option.bind_some,Nat.beq_refl,cond_true,cond_false]
theorem r181 (a b c:Rows) (st:List StM) (hst:st.length<=1048576) (s:ByteArray):rn ⟨181,0,0⟩ [.sl a,.sl b,.sl c,.sl (st.map StM.row),.str s]=some (0,[.sl ((strA st s).map iRow)]):=by
 have key:∀ n i (acc:List Int),i+n=st.length->acc.length<=i->rn ⟨181,0,1⟩ [.str s,.int (i:Int),.sl a,.sl b,.sl c,.sl (st.map StM.row),.sl (acc.map iRow)]=some (0,[.sl ((acc++strA (st.drop i) s).map iRow)]):=by
  intro n;induction n with
  | zero =>
   intro i acc hi ha;obtain rfl:i=st.length:=by omega
   rw [e181_0_1];simp only [List.length_map,Int.ofNat_lt,Nat.lt_irrefl,decide_false,cond_false,List.drop_length,strA,List.filter_nil,List.map_nil,List.append_nil]
  | succ n ih =>
   intro i acc hi ha;have hlt:i<st.length:=by omega
   rw [e181_0_1,List.drop_eq_getElem_cons hlt,strA_cons];have hb2:Nat.ble (acc.length+1) M63=true:=nb (by omega)
   have h1:=ih (i+1) (acc++[st[i].a]) (by omega) (by simp; omega)
   have h2:=ih (i+1) acc (by omega) (by omega)
   simp only [List.map_append,List.map_cons,List.map_nil,iRow] at h1 h2;simp only [List.length_map,Int.ofNat_lt,hlt,decide_true,cond_true,inbN,Int.toNat_natCast,rowAt_map hlt,wrap_succ hlt (maxB (by omega)),StM.row,nv0,nvS,dvI,dvB,dvS,dvL,Option.bind_some,List.length_cons,List.length_nil,Nat.zero_add,hb2,iRow]
   by_cases hq:st[i].o=s
   · simp only [hq,decide_true,cond_true,if_true,h1,List.map_append,List.map_cons,List.append_assoc,List.cons_append,List.nil_append,iRow]
   · simp only [hq,decide_false,cond_false,if_false,h2,List.map_append,iRow]
 have h:=key st.length 0 [] (by omega) (Nat.zero_le _)
 rw [e181_0_0];simp only [Int.natCast_zero,List.map_nil,List.drop_zero,List.nil_append] at h ⊢;simp only [h,nv0,nvS,dvI,dvB,dvS,dvL,Option.bind_some,Nat.beq_refl,cond_true,cond_false]
theorem r254 (d:DfM) (hb:DfB d) (t:Tm):rn ⟨254,0,0⟩ [.sl (d.so.map sRow),.sl (d.op.map OpM.row),.sl (d.ru.map RuM.row),.sl (d.st.map StM.row),.int t.k,.int t.n,.str t.s,.sl (t.as.map Tm.row)]=some (0,[.sl ((stL d.st t).map iRow)]):=by
 have h:=fun a b c=>r314 a b c d.st hb.st t.s
 rw [e254_0_0];unfold stL;by_cases hk:t.k=2
 · simp only [h,hk,nv0,nvS,dvI,dvB,dvS,dvL,Option.bind_some,if_true,decide_true,Bool.not_true,cond_false]
 · simp [hk]
theorem r317 (t w:Tm) (hn:t.nodes<=1048577) (m:Nat) (hm:m<t.as.length):rn ⟨317,0,0⟩ [.int t.k,.int t.n,.str t.s,.sl (t.as.map Tm.row),.int (m:Int),.int w.k,.int w.n,.str w.s,.sl (w.as.map Tm.row)]=some (0,[.int t.k,.int t.n,.str t.s,.sl ((t.as.set m w).map Tm.row)]):=by
 have hls:=len_sum (xs:=t.as);have hnd:=Tm.nodes_eq t;have h1:=rCloneT (t.as.map Tm.row) (by rw [List.length_map]; omega)
 rw [e317_0_0];simp only [h1,nv0,nvS,dvI,dvB,dvS,dvL,Option.bind_some,List.length_map,inbN,hm,decide_true,cond_true,Int.toNat_natCast,over_tm hm]
theorem r262 (w:Tm):∀ (p:List Int) (t u:Tm),t.nodes<=1048577->p.length<=1048576->atT t p=some u->rn ⟨262,0,0⟩ [.int t.k,.int t.n,.str t.s,.sl (t.as.map Tm.row),.sl (p.map iRow),.int w.k,.int w.n,.str w.s,.sl (w.as.map Tm.row)]=some (0,[.int (putT t p w).k,.int (putT t p w).n,.str (putT t p w).s,.sl ((putT t p w).as.map Tm.row)])
 | [],t,u,hn,hp,h=>by
  rw [e262_0_0];simp [putT]
 | j::p,t,u,hn,hp,h=>by
  obtain ⟨hm,h0,h1⟩:=atT_cons h;have hls:=len_sum (xs:=t.as);have hnd:=Tm.nodes_eq t;have hmn:=mem_sum (f:=Tm.nodes) (List.getElem_mem hm);have h2:=r262 w p _ u (by omega) (by simp only [List.length_cons] at hp; omega) h1
  have ht:=tail_rows j p;rw [e262_0_0];simp only [putT,dif_pos hm];obtain ⟨m,rfl⟩:∃ m:Nat,j=(m:Int):=⟨j.toNat,by omega⟩
  simp only [Int.toNat_natCast] at hm h2 ⊢;have h3:=r317 t (putT t.as[m] p w) hn m hm;have q0:rowAt (((m:Int)::p).map iRow) 0=[.int (m:Int)]:=rfl;have q1:inb 0 (((m:Int)::p).map iRow).length=true:=by simp [inb]
  have q2:¬(((((m:Int)::p).map iRow).length:Nat):Int)=0:=by simp; omega
  have q3:(1:Int)<=((((m:Int)::p).map iRow).length:Nat):=by simp only [List.length_map,List.length_cons]; omega
  have hm':m<(t.as.map Tm.row).length:=by rw [List.length_map]; exact hm
  have q4:(0:Int)<=1:=by decide
  simp only [q0,q1,q2,q3,q4,ht,show Int.toNat 0=0 from rfl,Int.le_refl,nv0,nvS,dvI,dvB,dvS,dvL,Option.bind_some,inbN,hm',rowAt_map hm,Tm.row_eq,decide_true,decide_false,cond_true,cond_false,Bool.and_true,Int.toNat_natCast,h2,h3]
  rfl
theorem r271 (w:Tm) (hw:w.nodes<=1048577):∀ (p:List Int) (t u:Tm),t.nodes<=1048577->p.length<=1048576->atT t p=some u->rn ⟨271,0,0⟩ [.int t.k,.int t.n,.str t.s,.sl (t.as.map Tm.row),.sl (p.map iRow),.int w.k,.int w.n,.str w.s,.sl (w.as.map Tm.row)]=some (0,[.int (putT t p w).k,.int (putT t p w).n,.str (putT t p w).s,.sl ((putT t p w).as.map Tm.row)])
 | [],t,u,hn,hp,h=>by
  have h3:=r188 w (small_of w hw);rw [e271_0_0];simp only [List.map_nil,List.length_nil,Int.natCast_zero,decide_true,cond_true,h3,nv0,nvS,dvI,dvB,dvS,dvL,Option.bind_some,putT]
 | j::p,t,u,hn,hp,h=>by
  obtain ⟨hm,h0,h1⟩:=atT_cons h;have hls:=len_sum (xs:=t.as);have hnd:=Tm.nodes_eq t;have hmn:=mem_sum (f:=Tm.nodes) (List.getElem_mem hm);have h2:=r271 w hw p _ u (by omega) (by simp only [List.length_cons] at hp; omega) h1
  have h3:=r188 t (small_of t hn);have ht:=tail_rows j p;rw [e271_0_0];simp only [putT,dif_pos hm];obtain ⟨m,rfl⟩:∃ m:Nat,j=(m:Int):=⟨j.toNat,by omega⟩
  simp only [Int.toNat_natCast] at hm h2 ⊢;have q0:rowAt (((m:Int)::p).map iRow) 0=[.int (m:Int)]:=rfl;have q1:inb 0 (((m:Int)::p).map iRow).length=true:=by simp [inb]
  have q2:¬(((((m:Int)::p).map iRow).length:Nat):Int)=0:=by simp; omega
  have q3:(1:Int)<=((((m:Int)::p).map iRow).length:Nat):=by simp only [List.length_map,List.length_cons]; omega
  have hm':m<(t.as.map Tm.row).length:=by rw [List.length_map]; exact hm
  have q4:(0:Int)<=1:=by decide
  have q5:=over_tm hm (putT t.as[m] p w);simp only [q0,q1,q2,q3,q4,ht,show Int.toNat 0=0 from rfl,Int.le_refl,nv0,nvS,dvI,dvB,dvS,dvL,Option.bind_some,inbN,hm',decide_true,decide_false,cond_true,cond_false,Bool.and_true,Int.toNat_natCast,h3]
  rw [rowAt_map hm] at q5 ⊢;simp only [Tm.row_eq,nv0,nvS,dvI,dvB,dvS,dvL,Option.bind_some] at q5 ⊢;simp only [h2,nv0,nvS,dvI,dvB,dvS,dvL,Option.bind_some,q5];rfl
end Go.Q.S
