/- The functions of this seat, as that machine runs them. -/
import Derived.Test.YtnjedojmdcpcaaaGreatfP15
import Derived.Test.YtnjedojmdcpcaaaGreatMA
set_option linter.unusedVariables false
set_option linter.unusedSimpArgs false
namespace Go.Q.S
open Go Go.Q Go.Proofs
theorem atI (t:Tm) (p:List Int) (hp:p.length<=1048576):rn ⟨260,0,0⟩ [.int t.k,.int t.n,.str t.s,.sl (t.as.map Tm.row),.sl (p.map iRow)]=some (0,[.int (atO t p).k,.int (atO t p).n,.str (atO t p).s,.sl ((atO t p).as.map Tm.row),.bool (atT t p).isSome]):=by
 have key:∀ n i (t:Tm),i+n=p.length->rn ⟨260,0,1⟩ [.sl (p.map iRow),.int (p.length:Int),.int (i:Int),.int t.k,.int t.n,.str t.s,.sl (t.as.map Tm.row),.int 0,.int 0,.str e0,.sl []]=match atT t (p.drop i) with
  | some u=>some (0,[.int u.k,.int u.n,.str u.s,.sl (u.as.map Tm.row),.int 0,.int 0,.str e0,.sl []])
  | none=>some (1,[.int 0,.int 0,.str e0,.sl []]):=by
  intro n;induction n with
  | zero =>
   intro i t hi;obtain rfl:i=p.length:=by omega
   rw [e260_0_1];simp only [List.length_map,Int.ofNat_lt,Nat.lt_irrefl,decide_false,cond_false,List.drop_length,atT]
  | succ n ih =>
   intro i t hi;have hlt:i<p.length:=by omega
   rw [e260_0_1,List.drop_eq_getElem_cons hlt];generalize hj:p[i]=j;by_cases h0:j<0
   · have e:atT t (j::p.drop (i+1))=none:=by
      simp only [atT];split
      · rw [if_neg (by omega)]
      · rfl
     rw [e];simp only [List.length_map,Int.ofNat_lt,hlt,decide_true,cond_true,inbN,Int.toNat_natCast,rowAt_map hlt,wrap_succ hlt (maxB (by omega)),hj,iRow,nv0,nvS,dvI,dvB,dvS,dvL,Option.bind_some,h0]
   · obtain ⟨m,rfl⟩:∃ m:Nat,j=(m:Int):=⟨j.toNat,by omega⟩
     by_cases hm:m<t.as.length
     · have h2:=ih (i+1) t.as[m] (by omega)
       have e:atT t ((m:Int)::p.drop (i+1))=atT t.as[m] (p.drop (i+1)):=by
        simp only [atT,Int.toNat_natCast,dif_pos hm];rw [if_pos (by omega)]
       have q2:¬((t.as.length:Int)<=(m:Int)):=by omega
       rw [e,<- h2];simp only [List.length_map,Int.ofNat_lt,hlt,decide_true,cond_true,inbN,Int.toNat_natCast,rowAt_map hlt,wrap_succ hlt (maxB (by omega)),hm,hj,h0,q2,decide_false,cond_false,rowAt_map hm,Tm.row_eq,iRow,nv0,nvS,dvI,dvB,dvS,dvL,Option.bind_some]
     · have e:atT t ((m:Int)::p.drop (i+1))=none:=by simp only [atT,Int.toNat_natCast,dif_neg hm]
       have q2:(t.as.length:Int)<=(m:Int):=by omega
       rw [e];simp only [List.length_map,Int.ofNat_lt,hlt,decide_true,cond_true,inbN,Int.toNat_natCast,rowAt_map hlt,wrap_succ hlt (maxB (by omega)),hj,h0,q2,decide_false,cond_false,iRow,nv0,nvS,dvI,dvB,dvS,dvL,Option.bind_some]
 have h1:=key p.length 0 t (by omega)
 simp only [Int.natCast_zero,List.drop_zero] at h1;rw [e260_0_0];simp only [List.length_map,h1];unfold atO;cases atT t p <;> rfl
theorem atS (t:Tm) (hn:t.nodes<=1048577) (p:List Int) (hp:p.length<=1048576):rn ⟨270,0,0⟩ [.int t.k,.int t.n,.str t.s,.sl (t.as.map Tm.row),.sl (p.map iRow)]=some (0,[.int (atO t p).k,.int (atO t p).n,.str (atO t p).s,.bool (atT t p).isSome,.sl ((atO t p).as.map Tm.row)]):=by
 have key:∀ n i (t:Tm),i+n=p.length->t.nodes<=1048577->rn ⟨270,0,1⟩ [.sl (p.map iRow),.int (i:Int),.int t.k,.int t.n,.str t.s,.sl (t.as.map Tm.row),.int 0,.int 0,.str e0,.sl []]=match atT t (p.drop i) with
  | some u=>some (0,[.int u.k,.int u.n,.str u.s,.sl (u.as.map Tm.row),.int 0,.int 0,.str e0,.sl []])
  | none=>some (1,[.int 0,.int 0,.str e0,.sl []]):=by
  intro n;induction n with
  | zero =>
   intro i t hi _;obtain rfl:i=p.length:=by omega
   rw [e270_0_1];simp only [List.length_map,Int.ofNat_lt,Nat.lt_irrefl,decide_false,cond_false,List.drop_length,atT]
  | succ n ih =>
   intro i t hi hn;have hlt:i<p.length:=by omega
   have hls:=len_sum (xs:=t.as);have hnd:=Tm.nodes_eq t;have hw:IntKind.i64.wrap ((t.as.length:Int)-1)=(t.as.length:Int)-1:=IntWalk.i64_in _ (by omega)
   rw [e270_0_1,List.drop_eq_getElem_cons hlt];generalize hj:p[i]=j;by_cases h0:0<=j
   · obtain ⟨m,rfl⟩:∃ m:Nat,j=(m:Int):=⟨j.toNat,by omega⟩
     by_cases hm:m<t.as.length
     · have hmn:=mem_sum (f:=Tm.nodes) (List.getElem_mem hm)
       have h2:=ih (i+1) t.as[m] (by omega) (by omega)
       have e:atT t ((m:Int)::p.drop (i+1))=atT t.as[m] (p.drop (i+1)):=by
        simp only [atT,Int.toNat_natCast,dif_pos hm];rw [if_pos (by omega)]
       have q2:(m:Int)<=(t.as.length:Int)-1:=by omega
       rw [e,<- h2];simp only [List.length_map,Int.ofNat_lt,hlt,decide_true,cond_true,inbN,Int.toNat_natCast,rowAt_map hlt,wrap_succ hlt (maxB (by omega)),hm,hj,hw,rIn,h0,q2,Bool.and_true,Bool.not_true,cond_false,rowAt_map hm,Tm.row_eq,iRow,nv0,nvS,dvI,dvB,dvS,dvL,Option.bind_some]
     · have e:atT t ((m:Int)::p.drop (i+1))=none:=by simp only [atT,Int.toNat_natCast,dif_neg hm]
       have q2:¬(m:Int)<=(t.as.length:Int)-1:=by omega
       rw [e];simp only [List.length_map,Int.ofNat_lt,hlt,decide_true,cond_true,inbN,Int.toNat_natCast,rowAt_map hlt,wrap_succ hlt (maxB (by omega)),hj,hw,rIn,h0,q2,decide_false,Bool.and_false,Bool.not_false,iRow,nv0,nvS,dvI,dvB,dvS,dvL,Option.bind_some]
   · have e:atT t (j::p.drop (i+1))=none:=by
      simp only [atT];split <;> simp [h0]
     rw [e];simp only [List.length_map,Int.ofNat_lt,hlt,decide_true,cond_true,inbN,Int.toNat_natCast,rowAt_map hlt,wrap_succ hlt (maxB (by omega)),hj,hw,rIn,h0,decide_false,Bool.false_and,Bool.not_false,iRow,nv0,nvS,dvI,dvB,dvS,dvL,Option.bind_some]
 have h1:=key p.length 0 t (by omega) hn
 simp only [Int.natCast_zero,List.drop_zero] at h1;rw [e270_0_0,h1];unfold atO;cases ha:atT t p with
 | none=>rfl
 | some u =>
  have hun:=atT_nodes p t u ha;have h3:=r188 u (small_of u (by omega))
  simp only [nv0,nvS,dvI,dvB,dvS,dvL,Option.bind_some,Nat.beq_refl,cond_true,cond_false,h3,Option.getD_some,Option.isSome_some]
theorem posI:∀ t:Tm,∀ p:List Int,p.length+t.nodes<=1048576->rn ⟨316,0,0⟩ [.int t.k,.int t.n,.str t.s,.sl (t.as.map Tm.row),.sl (p.map iRow)]=some (0,[.sl ((posT t p).map pRow)]):=Tm.ind fun t ih p hp=>by
 have hnd:=Tm.nodes_eq t;have hls:=len_sum (xs:=t.as);have hlp:∀ n i (acc:List (List Int)),i+n=t.as.length->acc.length+((t.as.drop i).map Tm.nodes).sum<=1048576->rn ⟨316,0,1⟩ [.sl (p.map iRow),.sl (t.as.map Tm.row),.int (t.as.length:Int),.int (i:Int),.sl (acc.map pRow)]=some (0,[.sl ((acc++posL (t.as.drop i) p i).map pRow)]):=by
  intro n;induction n with
  | zero =>
   intro i acc hi _;obtain rfl:i=t.as.length:=by omega
   rw [e316_0_1];simp only [List.length_map,Int.ofNat_lt,Nat.lt_irrefl,decide_false,cond_false,List.drop_length,posL,List.append_nil]
  | succ n ih2 =>
   intro i acc hi hb;have hlt:i<t.as.length:=by omega
   have hm:=List.getElem_mem hlt;have hmn:=mem_sum (f:=Tm.nodes) hm;have h1:=ih _ hm (p++[(i:Int)]) (by simp; omega)
   have h2:=rCloneI (p.map iRow) (by rw [List.length_map]; omega)
   have hl:=posT_len t.as[i] (p++[(i:Int)]);rw [List.drop_eq_getElem_cons hlt,List.map_cons,List.sum_cons] at hb;have h3:=ih2 (i+1) (acc++posT t.as[i] (p++[(i:Int)])) (by omega) (by rw [List.length_append,hl]; omega)
   have b1:Nat.ble (p.length+1) M63=true:=nb (by omega)
   have b2:Nat.ble (acc.length+t.as[i].nodes) M63=true:=nb (by omega)
   rw [posL_drop hlt,<- List.append_assoc,<- h3];simp only [List.map_append,List.map_cons,List.map_nil,iRow] at h1 h2 ⊢;rw [e316_0_1];simp only [List.length_map,Int.ofNat_lt,hlt,decide_true,cond_true,inbN,Int.toNat_natCast,rowAt_map hlt,wrap_succ hlt (maxB (by omega)),Tm.row_eq,nv0,nvS,dvI,dvB,dvS,dvL,Option.bind_some,h2,List.length_cons,List.length_nil,Nat.zero_add,b1,h1,hl,b2]
 have h1:=hlp t.as.length 0 [p] (by omega) (by simp only [List.drop_zero,List.length_cons,List.length_nil]; omega)
 simp only [Int.natCast_zero,List.drop_zero,List.map_cons,List.map_nil,List.cons_append,List.nil_append] at h1;rw [e316_0_0,posT_eq];simp only [pRow] at h1 ⊢;simp only [List.length_map,h1,nv0,nvS,dvI,dvB,dvS,dvL,Option.bind_some,Nat.beq_refl,cond_true,cond_false,List.map_cons];rfl
theorem r261 (t:Tm) (h:t.nodes<=1048576):rn ⟨261,0,0⟩ [.int t.k,.int t.n,.str t.s,.sl (t.as.map Tm.row)]=some (0,[.sl ((posT t []).map pRow)]):=by
 have h1:=posI t [] (by simpa using h)
 rw [List.map_nil] at h1;rw [e261_0_0];simp only [h1,nv0,nvS,dvI,dvB,dvS,dvL,Option.bind_some]
theorem posS:∀ t:Tm,∀ (p:List Int) (acc:List (List Int)),p.length+t.nodes<=1048576->acc.length+t.nodes<=1048576->rn ⟨346,1,0⟩ [.int t.k,.int t.n,.str t.s,.sl (t.as.map Tm.row),.sl (p.map iRow),.sl (acc.map pRow)]=some (0,[.sl ((acc++posT t p).map pRow)]):=Tm.ind fun t ih p acc hp ha=>by
 have hnd:=Tm.nodes_eq t;have hls:=len_sum (xs:=t.as);have hlp:∀ n i (acc:List (List Int)),i+n=t.as.length->acc.length+((t.as.drop i).map Tm.nodes).sum<=1048576->rn ⟨346,1,1⟩ [.sl (p.map iRow),.int (i:Int),.sl (acc.map pRow),.int t.k,.int t.n,.str t.s,.sl (t.as.map Tm.row)]=some (0,[.sl ((acc++posL (t.as.drop i) p i).map pRow)]):=by
  intro n;induction n with
  | zero =>
   intro i acc hi _;obtain rfl:i=t.as.length:=by omega
   rw [e346_1_1];simp only [List.length_map,Int.ofNat_lt,Nat.lt_irrefl,decide_false,cond_false,List.drop_length,posL,List.append_nil]
  | succ n ih2 =>
   intro i acc hi hb;have hlt:i<t.as.length:=by omega
   have hm:=List.getElem_mem hlt;have hmn:=mem_sum (f:=Tm.nodes) hm;have hl:=posT_len t.as[i] (p++[(i:Int)]);rw [List.drop_eq_getElem_cons hlt,List.map_cons,List.sum_cons] at hb;have h1:=ih _ hm (p++[(i:Int)]) acc (by simp; omega) (by omega)
   have h3:=ih2 (i+1) (acc++posT t.as[i] (p++[(i:Int)])) (by omega) (by rw [List.length_append,hl]; omega)
   have b0:Nat.ble (0+p.length) M63=true:=nb (by omega)
   have b1:Nat.ble (p.length+1) M63=true:=nb (by omega)
   rw [posL_drop hlt,<- List.append_assoc,<- h3];simp only [List.map_append,List.map_cons,List.map_nil,iRow] at h1 ⊢;rw [e346_1_1];simp only [List.length_map,Int.ofNat_lt,hlt,decide_true,cond_true,inbN,Int.toNat_natCast,rowAt_map hlt,wrap_succ hlt (maxB (by omega)),Tm.row_eq,nv0,nvS,dvI,dvB,dvS,dvL,Option.bind_some,List.length_cons,List.length_nil,Nat.zero_add,b1,b0,List.nil_append,h1,show Nat.ble p.length M63=true from by simpa using b0]
 have h1:=hlp t.as.length 0 (acc++[p]) (by omega) (by simp only [List.drop_zero,List.length_append,List.length_cons,List.length_nil]; omega)
 have b0:Nat.ble p.length M63=true:=by simpa using nb (n:=p.length) (m:=0) (by omega)
 have b1:Nat.ble (acc.length+1) M63=true:=nb (by omega)
 simp only [Int.natCast_zero,List.drop_zero,List.map_append,List.map_cons,List.map_nil] at h1;rw [e346_1_0,posT_eq];simp only [pRow] at h1 ⊢;simp only [List.length_map,List.length_cons,List.length_nil,Nat.zero_add,List.nil_append,b0,b1,cond_true,h1,nv0,nvS,dvI,dvB,dvS,dvL,Option.bind_some,Nat.beq_refl,cond_true,cond_false,List.map_append,List.map_cons,List.append_assoc,List.cons_append];rfl
theorem r319 (t:Tm) (h:t.nodes<=1048576):rn ⟨319,0,0⟩ [.int t.k,.int t.n,.str t.s,.sl (t.as.map Tm.row)]=some (0,[.sl ((posT t []).map pRow)]):=by
 have h1:=posS t [] [] (by simpa using h) (by simpa using h)
 rw [List.map_nil,List.map_nil] at h1;rw [e319_0_0];simp only [h1,nv0,nvS,dvI,dvB,dvS,dvL,Option.bind_some,List.nil_append]
theorem eqLoopI {F:Nat->R} {a b:List Int} (hlen:a.length=b.length) {A B:R} (hs:∀ i (hi:i<a.length),F i=bif decide (a[i]=b[i]'(by omega)) then F (i+1) else B) (he:F a.length=A):F 0=bif decide (a=b) then A else B:=by
 have key:∀ n i,i+n=a.length->F i=bif decide (a.drop i=b.drop i) then A else B:=by
  intro n;induction n with
  | zero =>
   intro i hi;obtain rfl:i=a.length:=by omega
   rw [he,List.drop_length,List.drop_eq_nil_of_le (by omega)]; rfl
  | succ n ih =>
   intro i hi;have hlt:i<a.length:=by omega
   rw [hs i hlt,ih (i+1) (by omega),List.drop_eq_getElem_cons hlt,List.drop_eq_getElem_cons (show i<b.length by omega)]
   by_cases h1:a[i]=b[i]'(by omega)
   · simp only [h1,List.cons.injEq,true_and,decide_true,cond_true]
   · simp only [h1,List.cons.injEq,false_and,decide_false,cond_false]
 simpa using key a.length 0 (by omega)
theorem rEqualI (a b:List Int) (ha:a.length<=1048576):rn ⟨257,0,0⟩ [.sl (a.map iRow),.sl (b.map iRow)]=some (0,[.bool (decide (a=b))]):=by
 rw [e257_0_0];simp only [List.length_map];by_cases hlen:a.length=b.length
 · have hf:=eqLoopI (F:=fun i=>rn ⟨257,0,1⟩ [.sl (a.map iRow),.sl (b.map iRow),.int (a.length:Int),.int (i:Int)]) hlen (A:=some (0,[])) (B:=some (1,[])) (fun i hi=>by
    have hi':i<b.length:=by omega
    rw [e257_0_1];simp only [List.length_map,Int.ofNat_lt,hi,decide_true,cond_true,inbN,Int.toNat_natCast,rowAt_map hi,wrap_succ hi (maxB (by omega)),hi',rowAt_map hi',iRow,nv0,nvS,dvI,dvB,dvS,dvL,Option.bind_some]
    by_cases h1:a[i]=b[i] <;> simp [h1]) (by
    rw [e257_0_1];simp only [List.length_map,Int.ofNat_lt,Nat.lt_irrefl,decide_false,cond_false,List.drop_length])
   simp only [Int.natCast_zero] at hf;have e:((a.length:Int)=(b.length:Int)):=by omega
   simp only [e,decide_true,Bool.not_true,cond_false];rw [<- e,hf];cases decide (a=b) <;> rfl
 · have e:¬((a.length:Int)=(b.length:Int)):=by omega
   have:¬ a=b:=fun h=>hlen (by rw [h])
   simp [e,this]
theorem r173 (r r':Int) (a b:List Int) (ha:a.length<=1048576):rn ⟨173,0,0⟩ [.int r,.sl (a.map iRow),.int r',.sl (b.map iRow)]=some (0,[.bool (decide (r=r')&&decide (a=b))]):=by
 have h1:=rEqualI a b ha;rw [e173_0_0];by_cases e:r=r'
 · simp only [e,decide_true,cond_true,h1,nv0,nvS,dvI,dvB,dvS,dvL,Option.bind_some,Bool.true_and]
 · simp only [e,decide_false,cond_false,Bool.false_and]
theorem r187 (a b:List Int) (ha:a.length<=1048576):rn ⟨187,0,0⟩ [.sl (a.map iRow),.sl (b.map iRow)]=some (0,[.bool (decide (a=b))]):=by
 rw [e187_0_0];simp only [List.length_map];by_cases hlen:a.length=b.length
 · have hf:=eqLoopI (F:=fun i=>rn ⟨187,0,1⟩ [.sl (a.map iRow),.sl (b.map iRow),.int (i:Int)]) hlen (A:=some (0,[])) (B:=some (1,[])) (fun i hi=>by
    have hi':i<b.length:=by omega
    rw [e187_0_1];simp only [List.length_map,Int.ofNat_lt,hi,decide_true,cond_true,inbN,Int.toNat_natCast,rowAt_map hi,wrap_succ hi (maxB (by omega)),hi',rowAt_map hi',iRow,nv0,nvS,dvI,dvB,dvS,dvL,Option.bind_some]
    by_cases h1:a[i]=b[i] <;> simp [h1]) (by
    rw [e187_0_1];simp only [List.length_map,Int.ofNat_lt,Nat.lt_irrefl,decide_false,cond_false,List.drop_length])
   simp only [Int.natCast_zero] at hf;have e:((a.length:Int)=(b.length:Int)):=by omega
   simp only [e,decide_true,Bool.not_true,cond_false];rw [hf];cases decide (a=b) <;> rfl
 · have e:¬((a.length:Int)=(b.length:Int)):=by omega
   have:¬ a=b:=fun h=>hlen (by rw [h])
   simp [e,this]
end Go.Q.S
