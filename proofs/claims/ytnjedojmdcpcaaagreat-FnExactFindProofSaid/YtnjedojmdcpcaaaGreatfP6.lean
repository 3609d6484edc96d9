/- The functions of this seat, as that machine runs them. -/
import Derived.Test.YtnjedojmdcpcaaaGreatfP5
set_option linter.unusedVariables false
set_option linter.unusedSimpArgs false
namespace Go.Q.S
open Go Go.Q Go.Proofs
theorem inferI (so:Rows) (ops:List OpM) (ho:SigB ops):∀ t:Tm,∀ (x:ByteArray) (vs:List VS),Wt t->vs.length+t.nodes<=4194304->rn ⟨342,1,0⟩ [.sl so,.sl (ops.map OpM.row),.int t.k,.int t.n,.str t.s,.sl (t.as.map Tm.row),.str x,.sl (vs.map VS.row)]=some (0,infR ops t x vs):=Tm.ind fun t ih x vs h hb=>by
 have hlm:=h.l;have hnd:=Tm.nodes_eq t;have hvl:∀ n i,i+n=vs.length->rn ⟨342,1,1⟩ [.str x,.int (vs.length:Int),.int (i:Int),.sl (vs.map VS.row),.int t.k,.int t.n,.str t.s,.sl (t.as.map Tm.row)]=match (vs.drop i).find? (fun v=>decide (v.1=t.s)) with | some v=>some (1,[.bool (decide (v.2=x)),.sl (vs.map VS.row)]) | none=>some (0,[.str x,.sl (vs.map VS.row),.int t.k,.int t.n,.str t.s,.sl (t.as.map Tm.row)]):=by
  intro n;induction n with
  | zero =>
   intro i hi;obtain rfl:i=vs.length:=by omega
   rw [e342_1_1];simp only [List.length_map,Int.ofNat_lt,Nat.lt_irrefl,decide_false,cond_false,List.drop_length,List.find?_nil]
  | succ n ih2 =>
   intro i hi;have hlt:i<vs.length:=by omega
   rw [e342_1_1,List.drop_eq_getElem_cons hlt];simp only [List.length_map,Int.ofNat_lt,hlt,decide_true,cond_true,inbN,Int.toNat_natCast,rowAt_map hlt,wrap_succ hlt (maxB (by omega)),VS.row,nv0,nvS,dvI,dvB,dvS,dvL,Option.bind_some,List.find?_cons,ih2 (i+1) (by omega)]
   by_cases hq:vs[i].1=t.s <;> simp [hq]
 have hal:∀ (n1 n2:ByteArray) (a:List ByteArray),a.length<=1048576->∀ n i (vs:List VS),i+n=t.as.length->vs.length+((t.as.drop i).map Tm.nodes).sum<=4194304->rn ⟨342,1,3⟩ [.sl (t.as.map Tm.row),.int (t.as.length:Int),.int (i:Int),.sl (vs.map VS.row),.sl so,.sl (ops.map OpM.row),.str n1,.str n2,.sl (a.map sRow)]=match infL ops (t.as.drop i) (a.drop i) vs with | some v=>some (0,[.sl (v.map VS.row)]) | none=>some (1,[.sl []]):=by
  intro n1 n2 a hal n;induction n with
  | zero =>
   intro i vs hi hb;obtain rfl:i=t.as.length:=by omega
   rw [e342_1_3];simp only [List.length_map,Int.ofNat_lt,Nat.lt_irrefl,decide_false,cond_false,List.drop_length,infL]
  | succ n ih2 =>
   intro i vs hi hb;have hlt:i<t.as.length:=by omega
   have hmem:=List.getElem_mem hlt;rw [List.drop_eq_getElem_cons hlt] at hb ⊢;simp only [List.map_cons,List.sum_cons] at hb;rw [e342_1_3];by_cases hla:i<a.length
   · have h1:=ih _ hmem a[i] vs (h.sub hmem) (by omega)
     rw [List.drop_eq_getElem_cons hla];simp only [List.length_map,Int.ofNat_lt,hlt,decide_true,cond_true,inbN,Int.toNat_natCast,rowAt_map hlt,wrap_succ hlt hlm,hla,rowAt_map hla,Tm.row_eq,sRow,nv0,nvS,dvI,dvB,dvS,dvL,Option.bind_some,h1,infL,infR];cases hq:infT ops t.as[i] a[i] vs with
     | none=>rfl
     | some v =>
      have hv:=infT_len ops _ _ _ _ hq;have h2:=ih2 (i+1) v (by omega) (by omega)
      simp only [nv0,nvS,dvI,dvB,dvS,dvL,Option.bind_some,h2,Bool.not_true,cond_false]
   · have h1:=ih _ hmem e0 vs (h.sub hmem) (by omega)
     rw [show a.drop i=[] from List.drop_eq_nil_of_le (by omega)]
     simp only [List.length_map,Int.ofNat_lt,hlt,decide_true,cond_true,inbN,Int.toNat_natCast,rowAt_map hlt,wrap_succ hlt hlm,hla,decide_false,cond_false,Tm.row_eq,sRow,nv0,nvS,dvI,dvB,dvS,dvL,Option.bind_some,h1,infL,infR];cases hq:infT ops t.as[i] e0 vs with
     | none=>rfl
     | some v =>
      have hv:=infT_len ops _ _ _ _ hq;have h2:=ih2 (i+1) v (by omega) (by omega)
      rw [show a.drop (i+1)=[] from List.drop_eq_nil_of_le (by omega)] at h2
      simp only [nv0,nvS,dvI,dvB,dvS,dvL,Option.bind_some,h2,Bool.not_true,cond_false]
 have hv0:=hvl vs.length 0 (by omega)
 have ha0:=fun n1 n2 a ha=>hal n1 n2 a ha t.as.length 0 vs (by omega) (by rw [List.drop_zero]; omega)
 simp only [List.drop_zero,Int.natCast_zero] at hv0 ha0;rw [e342_1_0];unfold infR;rw [infT_eq];by_cases h1:t.k=1
 · rw [if_pos h1,if_pos h1]
   simp only [h1] at hv0;have hb2:Nat.ble (vs.length+1) M63=true:=nb (by omega)
   simp only [List.length_map,h1,decide_true,cond_true,hv0];cases hq:vs.find? (fun v=>decide (v.1=t.s)) with
   | none=>simp only [nv0,nvS,dvI,dvB,dvS,dvL,Option.bind_some,Nat.beq_refl,cond_true,cond_false,List.length_map,List.length_cons,List.length_nil,Nat.zero_add,hb2,List.map_append]; rfl
   | some v =>
    simp only [nv0,nvS,dvI,dvB,dvS,dvL,Option.bind_some,Nat.beq_refl,cond_true,cond_false,show Nat.beq 1 0=false from rfl]
    by_cases hq2:v.2=x <;> simp [hq2]
 · rw [if_neg h1,if_neg h1]
   by_cases h2:t.k=2
   · simp only [List.length_map,h2,decide_true,cond_true,if_true,r243 so ops ho,nv0,nvS,dvI,dvB,dvS,dvL,Option.bind_some]
     cases hf:findO ops t.s with
     | none =>
      simp only [foRes,nv0,nvS,dvI,dvB,dvS,dvL,Option.bind_some];rw [show ([]:Rows)=([]:List ByteArray).map sRow from rfl,ha0 e0 e0 [] (by simp)]
      cases infL ops t.as [] vs <;> rfl
     | some o =>
      have hok:o.ok:=findO_ok ho.a hf;simp only [foRes,nv0,nvS,dvI,dvB,dvS,dvL,Option.bind_some];rw [ha0 o.n o.r o.a hok];cases infL ops t.as o.a vs <;> rfl
   · simp only [List.length_map,h1,h2,decide_false,cond_false,if_false]
     rw [show ([]:Rows)=([]:List ByteArray).map sRow from rfl,ha0 e0 e0 [] (by simp)]
     cases infL ops t.as [] vs <;> rfl
theorem inferS (so:Rows) (ops:List OpM) (ho:SigB ops):∀ t:Tm,∀ (x:ByteArray) (vs:List VS),Wt t->vs.length+t.nodes<=4194304->rn ⟨338,1,0⟩ [.sl so,.sl (ops.map OpM.row),.int t.k,.int t.n,.str t.s,.sl (t.as.map Tm.row),.str x,.sl (vs.map VS.row)]=some (0,infR ops t x vs):=Tm.ind fun t ih x vs h hb=>by
 have hlm:=h.l;have hnd:=Tm.nodes_eq t;have hvl:∀ n i,i+n=vs.length->rn ⟨338,1,1⟩ [.str x,.int (i:Int),.sl (vs.map VS.row),.int t.k,.int t.n,.str t.s,.sl (t.as.map Tm.row)]=match (vs.drop i).find? (fun v=>decide (v.1=t.s)) with | some v=>some (1,[.bool (decide (v.2=x)),.sl (vs.map VS.row)]) | none=>some (0,[.str x,.sl (vs.map VS.row),.int t.k,.int t.n,.str t.s,.sl (t.as.map Tm.row)]):=by
  intro n;induction n with
  | zero =>
   intro i hi;obtain rfl:i=vs.length:=by omega
   rw [e338_1_1];simp only [List.length_map,Int.ofNat_lt,Nat.lt_irrefl,decide_false,cond_false,List.drop_length,List.find?_nil]
  | succ n ih2 =>
   intro i hi;have hlt:i<vs.length:=by omega
   rw [e338_1_1,List.drop_eq_getElem_cons hlt];simp only [List.length_map,Int.ofNat_lt,hlt,decide_true,cond_true,inbN,Int.toNat_natCast,rowAt_map hlt,wrap_succ hlt (maxB (by omega)),VS.row,nv0,nvS,dvI,dvB,dvS,dvL,Option.bind_some,List.find?_cons,ih2 (i+1) (by omega)]
   by_cases hq:vs[i].1=t.s <;> simp [hq]
 have hal:∀ (n1 n2:ByteArray) (a:List ByteArray),a.length<=1048576->∀ n i (vs:List VS),i+n=t.as.length->vs.length+((t.as.drop i).map Tm.nodes).sum<=4194304->rn ⟨338,1,3⟩ [.int (i:Int),.sl (vs.map VS.row),.sl so,.sl (ops.map OpM.row),.int t.k,.int t.n,.str t.s,.sl (t.as.map Tm.row),.str n1,.str n2,.sl (a.map sRow)]=match infL ops (t.as.drop i) (a.drop i) vs with | some v=>some (0,[.sl (v.map VS.row)]) | none=>some (1,[.sl []]):=by
  intro n1 n2 a hal n;induction n with
  | zero =>
   intro i vs hi hb;obtain rfl:i=t.as.length:=by omega
   rw [e338_1_3];simp only [List.length_map,Int.ofNat_lt,Nat.lt_irrefl,decide_false,cond_false,List.drop_length,infL]
  | succ n ih2 =>
   intro i vs hi hb;have hlt:i<t.as.length:=by omega
   have hmem:=List.getElem_mem hlt;rw [List.drop_eq_getElem_cons hlt] at hb ⊢;simp only [List.map_cons,List.sum_cons] at hb;rw [e338_1_3];by_cases hla:i<a.length
   · have h1:=ih _ hmem a[i] vs (h.sub hmem) (by omega)
     rw [List.drop_eq_getElem_cons hla];simp only [List.length_map,Int.ofNat_lt,hlt,decide_true,cond_true,inbN,Int.toNat_natCast,rowAt_map hlt,wrap_succ hlt hlm,hla,rowAt_map hla,Tm.row_eq,sRow,nv0,nvS,dvI,dvB,dvS,dvL,Option.bind_some,h1,infL,infR];cases hq:infT ops t.as[i] a[i] vs with
     | none=>rfl
     | some v =>
      have hv:=infT_len ops _ _ _ _ hq;have h2:=ih2 (i+1) v (by omega) (by omega)
      simp only [nv0,nvS,dvI,dvB,dvS,dvL,Option.bind_some,h2,Bool.not_true,cond_false]
   · have h1:=ih _ hmem e0 vs (h.sub hmem) (by omega)
     rw [show a.drop i=[] from List.drop_eq_nil_of_le (by omega)]
     simp only [List.length_map,Int.ofNat_lt,hlt,decide_true,cond_true,inbN,Int.toNat_natCast,rowAt_map hlt,wrap_succ hlt hlm,hla,decide_false,cond_false,Tm.row_eq,sRow,nv0,nvS,dvI,dvB,dvS,dvL,Option.bind_some,h1,infL,infR];cases hq:infT ops t.as[i] e0 vs with
     | none=>rfl
     | some v =>
      have hv:=infT_len ops _ _ _ _ hq;have h2:=ih2 (i+1) v (by omega) (by omega)
      rw [show a.drop (i+1)=[] from List.drop_eq_nil_of_le (by omega)] at h2
      simp only [nv0,nvS,dvI,dvB,dvS,dvL,Option.bind_some,h2,Bool.not_true,cond_false]
 have hv0:=hvl vs.length 0 (by omega)
 have ha0:=fun n1 n2 a ha=>hal n1 n2 a ha t.as.length 0 vs (by omega) (by rw [List.drop_zero]; omega)
 simp only [List.drop_zero,Int.natCast_zero] at hv0 ha0;rw [e338_1_0];unfold infR;rw [infT_eq];by_cases h1:t.k=1
 · rw [if_pos h1,if_pos h1]
   simp only [h1] at hv0;have hb2:Nat.ble (vs.length+1) M63=true:=nb (by omega)
   simp only [List.length_map,h1,decide_true,cond_true,hv0];cases hq:vs.find? (fun v=>decide (v.1=t.s)) with
   | none=>simp only [nv0,nvS,dvI,dvB,dvS,dvL,Option.bind_some,Nat.beq_refl,cond_true,cond_false,List.length_map,List.length_cons,List.length_nil,Nat.zero_add,hb2,List.map_append]; rfl
   | some v =>
    simp only [nv0,nvS,dvI,dvB,dvS,dvL,Option.bind_some,Nat.beq_refl,cond_true,cond_false,show Nat.beq 1 0=false from rfl]
    by_cases hq2:v.2=x <;> simp [hq2]
 · rw [if_neg h1,if_neg h1]
   by_cases h2:t.k=2
   · simp only [h2] at ha0
     simp only [List.length_map,h2,decide_true,cond_true,if_true,r239 so ops ho,nv0,nvS,dvI,dvB,dvS,dvL,Option.bind_some];cases hf:findO ops t.s with
     | none =>
      simp only [foRes,nv0,nvS,dvI,dvB,dvS,dvL,Option.bind_some];rw [show ([]:Rows)=([]:List ByteArray).map sRow from rfl,ha0 e0 e0 [] (by simp)]
      cases infL ops t.as [] vs <;> rfl
     | some o =>
      have hok:o.ok:=findO_ok ho.a hf;simp only [foRes,nv0,nvS,dvI,dvB,dvS,dvL,Option.bind_some];rw [ha0 o.n o.r o.a hok];cases infL ops t.as o.a vs <;> rfl
   · simp only [List.length_map,h1,h2,decide_false,cond_false,if_false]
     rw [show ([]:Rows)=([]:List ByteArray).map sRow from rfl,ha0 e0 e0 [] (by simp)]
     cases infL ops t.as [] vs <;> rfl
theorem r309 (so:Rows) (ops:List OpM) (ho:SigB ops) (t:Tm) (h:Wt t) (hn:t.nodes<=1048577) (x:ByteArray):rn ⟨309,0,0⟩ [.sl so,.sl (ops.map OpM.row),.int t.k,.int t.n,.str t.s,.sl (t.as.map Tm.row),.str x]=some (0,infVR (infV ops t x)):=by
 have h1:=inferI so ops ho t x [] h (by simp; omega)
 rw [List.map_nil] at h1;rw [e309_0_0,h1];unfold infR infV;cases hq:infT ops t x [] with
 | none=>rfl
 | some vs =>
  have hv:=infT_len ops _ _ _ _ hq;rw [List.length_nil] at hv;have h2:=r167 so ops ho vs (by omega) t h
  simp only [nv0,nvS,dvI,dvB,dvS,dvL,Option.bind_some,h2];by_cases hx:x=e0
  · simp [hx,infVR]
  · by_cases hs:sortT ops vs t=x <;> simp [hx,hs,infVR]
theorem r302 (so:Rows) (ops:List OpM) (ho:SigB ops) (t:Tm) (h:Wt t) (hn:t.nodes<=1048577) (x:ByteArray):rn ⟨302,0,0⟩ [.sl so,.sl (ops.map OpM.row),.int t.k,.int t.n,.str t.s,.sl (t.as.map Tm.row),.str x]=some (0,infVR (infV ops t x)):=by
 have h1:=inferS so ops ho t x [] h (by simp; omega)
 rw [List.map_nil] at h1;rw [e302_0_0,h1];unfold infR infV;cases hq:infT ops t x [] with
 | none=>rfl
 | some vs =>
  have hv:=infT_len ops _ _ _ _ hq;rw [List.length_nil] at hv;have h2:=r156 so ops ho vs (by omega) t h
  simp only [nv0,nvS,dvI,dvB,dvS,dvL,Option.bind_some,h2];by_cases hx:x=e0
  · simp [hx,infVR]
  · by_cases hs:sortT ops vs t=x <;> simp [hx,hs,infVR]
end Go.Q.S
