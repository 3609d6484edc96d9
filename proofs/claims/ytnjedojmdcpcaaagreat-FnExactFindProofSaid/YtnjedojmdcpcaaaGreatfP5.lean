/- The functions of this seat, as that machine runs them. -/
import Derived.Test.YtnjedojmdcpcaaaGreatfP4
set_option linter.unusedVariables false
set_option linter.unusedSimpArgs false
namespace Go.Q.S
open Go Go.Q Go.Proofs
theorem r310 (n:ByteArray) (a:List ByteArray) (r:ByteArray) (h:a.length<=1048576):rn ⟨310,0,0⟩ [.str n,.sl (a.map sRow),.str r]=some (0,[.str n,.str r,.sl (a.map sRow)]):=by
 rw [e310_0_0];have:=rCloneS (a.map sRow) (by rw [List.length_map]; omega)
 simp only [this,nv0,nvS,dvI,dvB,dvS,dvL,Option.bind_some]
theorem r243 (so:Rows) (ops:List OpM) (ho:SigB ops) (s:ByteArray):rn ⟨243,0,0⟩ [.sl so,.sl (ops.map OpM.row),.str s]=some (0,foRes (findO ops s)):=by
 have hm:=ho.l;have hl:∀ n i,i+n=ops.length->rn ⟨243,0,1⟩ [.str s,.sl (ops.map OpM.row),.int (ops.length:Int),.int (i:Int),.str e0,.str e0,.sl []]=match (ops.drop i).find? (fun o=>decide (o.n=s)) with | some o=>some (1,[.str o.n,.str o.r,.sl (o.a.map sRow)]) | none=>some (0,[.str e0,.str e0,.sl []]):=by
  intro n;induction n with
  | zero =>
   intro i hi;obtain rfl:i=ops.length:=by omega
   rw [e243_0_1];simp only [List.length_map,Int.ofNat_lt,Nat.lt_irrefl,decide_false,cond_false,List.drop_length,List.find?_nil]
  | succ n ih =>
   intro i hi;have hlt:i<ops.length:=by omega
   rw [e243_0_1,List.drop_eq_getElem_cons hlt];have h1:=r310 ops[i].n ops[i].a ops[i].r (ho.a _ (List.getElem_mem hlt));simp only [List.length_map,Int.ofNat_lt,hlt,decide_true,cond_true,inbN,Int.toNat_natCast,rowAt_map hlt,wrap_succ hlt (maxB (by omega)),OpM.row,nv0,nvS,dvI,dvB,dvS,dvL,Option.bind_some,List.find?_cons,ih (i+1) (by omega),h1]
   by_cases hq:ops[i].n=s <;> simp [hq]
 have h:=hl ops.length 0 (by omega)
 rw [List.drop_zero] at h;simp only [Int.natCast_zero] at h;rw [e243_0_0];simp only [List.length_map,r244,nv0,nvS,dvI,dvB,dvS,dvL,Option.bind_some,h];unfold findO;cases isB s with
 | true=>rfl
 | false =>
  cases ops.find? (fun o=>decide (o.n=s)) <;> rfl
theorem r239 (so:Rows) (ops:List OpM) (ho:SigB ops) (s:ByteArray):rn ⟨239,0,0⟩ [.sl so,.sl (ops.map OpM.row),.str s]=some (0,foRes (findO ops s)):=by
 have hm:=ho.l;have hl:∀ n i,i+n=ops.length->rn ⟨239,0,1⟩ [.str s,.int (i:Int),.sl so,.sl (ops.map OpM.row),.str e0,.str e0,.sl []]=match (ops.drop i).find? (fun o=>decide (o.n=s)) with | some o=>some (1,[.str o.n,.str o.r,.sl (o.a.map sRow)]) | none=>some (0,[.str e0,.str e0,.sl []]):=by
  intro n;induction n with
  | zero =>
   intro i hi;obtain rfl:i=ops.length:=by omega
   rw [e239_0_1];simp only [List.length_map,Int.ofNat_lt,Nat.lt_irrefl,decide_false,cond_false,List.drop_length,List.find?_nil]
  | succ n ih =>
   intro i hi;have hlt:i<ops.length:=by omega
   rw [e239_0_1,List.drop_eq_getElem_cons hlt];have h1:ops[i].a.length<=1048576:=ho.a _ (List.getElem_mem hlt);have h2:Nat.ble (0+ops[i].a.length) M63=true:=nb (by omega)
   simp only [List.length_map,Int.ofNat_lt,hlt,decide_true,cond_true,inbN,Int.toNat_natCast,rowAt_map hlt,wrap_succ hlt (maxB (by omega)),OpM.row,nv0,nvS,dvI,dvB,dvS,dvL,Option.bind_some,List.find?_cons,ih (i+1) (by omega),List.length_nil,h2,List.nil_append]
   by_cases hq:ops[i].n=s <;> simp [hq]
 have h:=hl ops.length 0 (by omega)
 rw [List.drop_zero] at h;simp only [Int.natCast_zero] at h;rw [e239_0_0];simp only [List.length_map,r265,nv0,nvS,dvI,dvB,dvS,dvL,Option.bind_some,h];unfold findO;cases isB s with
 | true=>rfl
 | false =>
  cases ops.find? (fun o=>decide (o.n=s)) <;> rfl
theorem r167 (so:Rows) (ops:List OpM) (ho:SigB ops) (vs:List VS) (hv:vs.length<=1099511627776):∀ t:Tm,Wt t->rn ⟨167,0,0⟩ [.sl so,.sl (ops.map OpM.row),.int t.k,.int t.n,.str t.s,.sl (t.as.map Tm.row),.sl (vs.map VS.row)]=some (0,[.str (sortT ops vs t)]):=Tm.ind fun t ih h=>by
 have hlm:=h.l;have hvl:∀ n i,i+n=vs.length->rn ⟨167,0,2⟩ [.sl (vs.map VS.row),.int (vs.length:Int),.int (i:Int),.int t.k,.int t.n,.str t.s,.sl (t.as.map Tm.row)]=match (vs.drop i).find? (fun v=>decide (v.1=t.s)) with | some v=>some (1,[.str v.2]) | none=>some (0,[]):=by
  intro n;induction n with
  | zero =>
   intro i hi;obtain rfl:i=vs.length:=by omega
   rw [e167_0_2];simp only [List.length_map,Int.ofNat_lt,Nat.lt_irrefl,decide_false,cond_false,List.drop_length,List.find?_nil]
  | succ n ih2 =>
   intro i hi;have hlt:i<vs.length:=by omega
   rw [e167_0_2,List.drop_eq_getElem_cons hlt];simp only [List.length_map,Int.ofNat_lt,hlt,decide_true,cond_true,inbN,Int.toNat_natCast,rowAt_map hlt,wrap_succ hlt (maxB hv),VS.row,nv0,nvS,dvI,dvB,dvS,dvL,Option.bind_some,List.find?_cons,ih2 (i+1) (by omega)]
   by_cases hq:vs[i].1=t.s <;> simp [hq]
 have hal:∀ o:OpM,o.a.length=t.as.length->∀ n i,i+n=t.as.length->rn ⟨167,0,4⟩ [.sl (vs.map VS.row),.sl (t.as.map Tm.row),.int (t.as.length:Int),.int (i:Int),.sl so,.sl (ops.map OpM.row),.str o.n,.str o.r,.sl (o.a.map sRow)]=bif sortsT ops vs (t.as.drop i) (o.a.drop i) then some (0,[.str o.n,.str o.r,.sl (o.a.map sRow)]) else some (1,[.str e0]):=by
  intro o hlen n;induction n with
  | zero =>
   intro i hi;obtain rfl:i=t.as.length:=by omega
   rw [e167_0_4];simp only [List.length_map,Int.ofNat_lt,Nat.lt_irrefl,decide_false,cond_false,List.drop_length,sortsT,cond_true]
  | succ n ih2 =>
   intro i hi;have hlt:i<t.as.length:=by omega
   have hlo:i<o.a.length:=by omega
   have h1:=ih _ (List.getElem_mem hlt) (h.sub (List.getElem_mem hlt));rw [e167_0_4,List.drop_eq_getElem_cons hlt,List.drop_eq_getElem_cons hlo];simp only [List.length_map,Int.ofNat_lt,hlt,decide_true,cond_true,inbN,Int.toNat_natCast,rowAt_map hlt,wrap_succ hlt hlm,hlo,rowAt_map hlo,Tm.row_eq,sRow,nv0,nvS,dvI,dvB,dvS,dvL,Option.bind_some,ih2 (i+1) (by omega),h1,sortsT]
   by_cases hq:sortT ops vs t.as[i]=e0
   · simp [hq]
   · by_cases hq2:sortT ops vs t.as[i]=o.a[i]
     · have hq3:=hq; rw [hq2] at hq3
       simp [hq2,hq3]
     · simp [hq,hq2]
 have hv0:=hvl vs.length 0 (by omega)
 have ha0:=fun o ho=>hal o ho t.as.length 0 (by omega)
 simp only [List.drop_zero,Int.natCast_zero] at hv0 ha0;rw [e167_0_0,sortT_eq];by_cases h3:t.k=3
 · simp [h3]
 · by_cases h1:t.k=1
   · rw [if_neg h3,if_pos h1]
     simp only [h1] at hv0;simp only [List.length_map,hv0,h1,decide_true,cond_true];unfold lookV;cases vs.find? (fun v=>decide (v.1=t.s)) <;> rfl
   · rw [if_neg h3,if_neg h1]
     by_cases h2:t.k=2
     · rw [if_pos h2]
       simp only [List.length_map,h2,decide_true,cond_true,if_true,r243 so ops ho,nv0,nvS,dvI,dvB,dvS,dvL,Option.bind_some];cases hf:findO ops t.s with
       | none=>rfl
       | some o =>
        by_cases hlen:o.a.length=t.as.length
        · simp only [foRes,nv0,nvS,dvI,dvB,dvS,dvL,Option.bind_some,List.length_map,hlen,decide_true,ha0 o hlen]
          cases sortsT ops vs t.as o.a <;> rfl
        · simp only [foRes,nv0,nvS,dvI,dvB,dvS,dvL,Option.bind_some,List.length_map]
          have:¬((o.a.length:Int)=(t.as.length:Int)):=by omega
          simp [this,hlen]
     · simp [h1,h2,h3]
theorem r238 (vs:List VS) (hv:vs.length<=1099511627776) (s:ByteArray):rn ⟨238,0,0⟩ [.sl (vs.map VS.row),.str s]=some (0,[.str (lookV vs s)]):=by
 have hvl:∀ n i,i+n=vs.length->rn ⟨238,0,1⟩ [.sl (vs.map VS.row),.str s,.int (i:Int)]=match (vs.drop i).find? (fun v=>decide (v.1=s)) with | some v=>some (1,[.str v.2]) | none=>some (0,[]):=by
  intro n;induction n with
  | zero =>
   intro i hi;obtain rfl:i=vs.length:=by omega
   rw [e238_0_1];simp only [List.length_map,Int.ofNat_lt,Nat.lt_irrefl,decide_false,cond_false,List.drop_length,List.find?_nil]
  | succ n ih2 =>
   intro i hi;have hlt:i<vs.length:=by omega
   rw [e238_0_1,List.drop_eq_getElem_cons hlt];simp only [List.length_map,Int.ofNat_lt,hlt,decide_true,cond_true,inbN,Int.toNat_natCast,rowAt_map hlt,wrap_succ hlt (maxB hv),VS.row,nv0,nvS,dvI,dvB,dvS,dvL,Option.bind_some,List.find?_cons,ih2 (i+1) (by omega)]
   by_cases hq:vs[i].1=s <;> simp [hq]
 have hv0:=hvl vs.length 0 (by omega)
 simp only [List.drop_zero,Int.natCast_zero] at hv0;rw [e238_0_0];rw [hv0];unfold lookV;cases vs.find? (fun v=>decide (v.1=s)) <;> rfl
theorem r156 (so:Rows) (ops:List OpM) (ho:SigB ops) (vs:List VS) (hv:vs.length<=1099511627776):∀ t:Tm,Wt t->rn ⟨156,0,0⟩ [.sl so,.sl (ops.map OpM.row),.int t.k,.int t.n,.str t.s,.sl (t.as.map Tm.row),.sl (vs.map VS.row)]=some (0,[.str (sortT ops vs t)]):=Tm.ind fun t ih h=>by
 have hlm:=h.l;have hal:∀ o:OpM,o.a.length=t.as.length->∀ n i,i+n=t.as.length->rn ⟨156,0,2⟩ [.sl (vs.map VS.row),.int (i:Int),.sl so,.sl (ops.map OpM.row),.int t.k,.int t.n,.str t.s,.sl (t.as.map Tm.row),.str o.n,.str o.r,.sl (o.a.map sRow)]=bif sortsT ops vs (t.as.drop i) (o.a.drop i) then some (0,[.str o.n,.str o.r,.sl (o.a.map sRow)]) else some (1,[.str e0]):=by
  intro o hlen n;induction n with
  | zero =>
   intro i hi;obtain rfl:i=t.as.length:=by omega
   rw [e156_0_2];simp only [List.length_map,Int.ofNat_lt,Nat.lt_irrefl,decide_false,cond_false,List.drop_length,sortsT,cond_true]
  | succ n ih2 =>
   intro i hi;have hlt:i<t.as.length:=by omega
   have hlo:i<o.a.length:=by omega
   have h1:=ih _ (List.getElem_mem hlt) (h.sub (List.getElem_mem hlt));rw [e156_0_2,List.drop_eq_getElem_cons hlt,List.drop_eq_getElem_cons hlo];simp only [List.length_map,Int.ofNat_lt,hlt,decide_true,cond_true,inbN,Int.toNat_natCast,rowAt_map hlt,wrap_succ hlt hlm,hlo,rowAt_map hlo,Tm.row_eq,sRow,nv0,nvS,dvI,dvB,dvS,dvL,Option.bind_some,ih2 (i+1) (by omega),h1,sortsT]
   by_cases hq2:sortT ops vs t.as[i]=o.a[i]
   · by_cases hq:o.a[i]=e0
     · simp [hq2,hq]
     · simp [hq2,hq]
   · simp [hq2]
 have ha0:=fun o ho=>hal o ho t.as.length 0 (by omega)
 simp only [List.drop_zero,Int.natCast_zero] at ha0;rw [e156_0_0,sortT_eq];by_cases h3:t.k=3
 · simp [h3]
 · by_cases h1:t.k=1
   · rw [if_neg h3,if_pos h1]
     simp only [h1,decide_true,cond_true,r238 vs hv,nv0,nvS,dvI,dvB,dvS,dvL,Option.bind_some];rfl
   · rw [if_neg h3,if_neg h1]
     by_cases h2:t.k=2
     · rw [if_pos h2]
       simp only [h2,decide_true,cond_true,if_true,r239 so ops ho,nv0,nvS,dvI,dvB,dvS,dvL,Option.bind_some];cases hf:findO ops t.s with
       | none=>rfl
       | some o =>
        by_cases hlen:o.a.length=t.as.length
        · have:=ha0 o hlen
          rw [h2] at this;simp only [foRes,nv0,nvS,dvI,dvB,dvS,dvL,Option.bind_some,List.length_map,hlen,decide_true,this];cases sortsT ops vs t.as o.a <;> rfl
        · simp only [foRes,nv0,nvS,dvI,dvB,dvS,dvL,Option.bind_some,List.length_map]
          have:¬((o.a.length:Int)=(t.as.length:Int)):=by omega
          simp [this,hlen]
     · simp [h1,h2,h3]
end Go.Q.S
