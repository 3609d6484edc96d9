/- The functions of this seat, as that machine runs them. -/
import Derived.Test.YtnjedojmdcpcaaaGreatfP3
set_option linter.unusedVariables false
set_option linter.unusedSimpArgs false
namespace Go.Q.S
open Go Go.Q Go.Proofs
theorem r250:∀ t:Tm,Wt t->rn ⟨250,0,0⟩ [.int t.k,.int t.n,.str t.s,.sl (t.as.map Tm.row)]=some (0,[.bool t.areN]):=Tm.ind fun t ih h=>by
 have hlm:=h.l;have hl:∀ n i,i+n=t.as.length->rn ⟨250,0,2⟩ [.sl (t.as.map Tm.row),.int (t.as.length:Int),.int (i:Int)]=bif Tm.areNL (t.as.drop i) then some (0,[]) else some (1,[]):=by
  intro n;induction n with
  | zero =>
   intro i hi;obtain rfl:i=t.as.length:=by omega
   rw [e250_0_2];simp only [List.length_map,Int.ofNat_lt,Nat.lt_irrefl,decide_false,cond_false,List.drop_length,Tm.areNL,cond_true]
  | succ n ih2 =>
   intro i hi;have hlt:i<t.as.length:=by omega
   rw [e250_0_2,List.drop_eq_getElem_cons hlt];have h1:=ih _ (List.getElem_mem hlt) (h.sub (List.getElem_mem hlt));simp only [List.length_map,Int.ofNat_lt,hlt,decide_true,cond_true,inbN,Int.toNat_natCast,rowAt_map hlt,wrap_succ hlt hlm,Tm.row_eq,nv0,nvS,dvI,dvB,dvS,dvL,Option.bind_some,h1,ih2 (i+1) (by omega),Tm.areNL]
   cases t.as[i].areN <;> simp
 have h0:=hl t.as.length 0 (by omega)
 rw [List.drop_zero] at h0;rw [e250_0_0,Tm.areN_eq];simp only [List.length_map,Int.natCast_zero] at h0 ⊢;simp only [h0,r164 t.s h.s,r274 t,r306 t.s h.s,nv0,nvS,dvI,dvB,dvS,dvL,Option.bind_some];unfold Tm.nodeN;have hz:decide ((t.as.length:Int)=0)=decide (t.as.length=0):=by simp
 by_cases h1:t.k=1
 · rw [decide_eq_true h1,if_pos h1,hz]
   by_cases h2:t.as.length=0
   · have:t.as=[]:=List.length_eq_zero_iff.1 h2
     rw [decide_eq_true h2,this];simp only [Tm.areNL,cond_true,Bool.and_true,Bool.true_and];cases decide (t.n=0) <;> cases isVr t.s <;> rfl
   · rw [decide_eq_false h2]
     cases decide (t.n=0) <;> rfl
 · rw [decide_eq_false h1,if_neg h1]
   by_cases h3:t.k=3
   · rw [decide_eq_true h3,if_pos h3]
     cases hw:isW t with
     | false=>rfl
     | true =>
      have:t.as=[]:=by simp only [isW,Bool.and_eq_true,decide_eq_true_eq] at hw; exact List.length_eq_zero_iff.1 hw.2.2.2.2
      rw [this]; rfl
   · rw [decide_eq_false h3,if_neg h3]
     by_cases h2:t.k=2
     · rw [decide_eq_true h2,if_pos h2]
       cases decide (t.n=0) <;> cases isNm t.s <;> cases Tm.areNL t.as <;> rfl
     · rw [decide_eq_false h2,if_neg h2]; rfl
theorem r305 (t:Tm) (h:Wt t):rn ⟨305,0,0⟩ [.int t.k,.int t.n,.str t.s,.sl (t.as.map Tm.row)]=some (0,[.bool t.nodeN]):=by
 rw [e305_0_0];have hz:decide ((t.as.length:Int)=0)=decide (t.as.length=0):=by simp
 simp only [List.length_map,r231 t.s h.s,r300 t.s h.s,nv0,nvS,dvI,dvB,dvS,dvL,Option.bind_some,rIn,hz];unfold Tm.nodeN;by_cases h1:t.k=1
 · rw [decide_eq_true h1,if_pos h1]
   cases decide (t.n=0) <;> cases isVr t.s <;> cases decide (t.as.length=0) <;> rfl
 · rw [decide_eq_false h1,if_neg h1]
   by_cases h2:t.k=2
   · rw [decide_eq_true h2,if_neg (by omega),if_pos h2]
     cases decide (t.n=0) <;> cases isNm t.s <;> rfl
   · rw [decide_eq_false h2]
     by_cases h3:t.k=3
     · rw [decide_eq_true h3,if_pos h3]
       unfold isW;have e2:decide (t.n<=3)=decide (t.n<4):=decide_eq_decide.2 (by omega)
       rw [decide_eq_true h3,e2];cases decide (t.s=(⟨#[]⟩:ByteArray)) <;> cases decide (0<=t.n) <;> cases decide (t.n<4) <;> cases decide (t.as.length=0) <;> rfl
     · rw [decide_eq_false h3,if_neg h3,if_neg h2]; rfl
theorem r234:∀ t:Tm,Wt t->rn ⟨234,0,0⟩ [.int t.k,.int t.n,.str t.s,.sl (t.as.map Tm.row)]=some (0,[.bool t.areN]):=Tm.ind fun t ih h=>by
 have hlm:=h.l;have hl:∀ n i,i+n=t.as.length->rn ⟨234,0,1⟩ [.int (i:Int),.int t.k,.int t.n,.str t.s,.sl (t.as.map Tm.row)]=bif Tm.areNL (t.as.drop i) then some (0,[.int t.k,.int t.n,.str t.s,.sl (t.as.map Tm.row)]) else some (1,[]):=by
  intro n;induction n with
  | zero =>
   intro i hi;obtain rfl:i=t.as.length:=by omega
   rw [e234_0_1];simp only [List.length_map,Int.ofNat_lt,Nat.lt_irrefl,decide_false,cond_false,List.drop_length,Tm.areNL,cond_true]
  | succ n ih2 =>
   intro i hi;have hlt:i<t.as.length:=by omega
   rw [e234_0_1,List.drop_eq_getElem_cons hlt];have h1:=ih _ (List.getElem_mem hlt) (h.sub (List.getElem_mem hlt));simp only [List.length_map,Int.ofNat_lt,hlt,decide_true,cond_true,inbN,Int.toNat_natCast,rowAt_map hlt,wrap_succ hlt hlm,Tm.row_eq,nv0,nvS,dvI,dvB,dvS,dvL,Option.bind_some,h1,ih2 (i+1) (by omega),Tm.areNL]
   cases t.as[i].areN <;> simp
 have h0:=hl t.as.length 0 (by omega)
 rw [List.drop_zero] at h0;rw [e234_0_0,Tm.areN_eq];simp only [Int.natCast_zero] at h0 ⊢;rw [h0];cases Tm.areNL t.as with
 | true=>simp only [cond_true,nv0,nvS,dvI,dvB,dvS,dvL,Option.bind_some,Nat.beq_refl,cond_true,cond_false,r305 t h,Bool.and_true]
 | false=>rw [Bool.and_false]; rfl
theorem r165 (t:Tm) (hn:t.nodes<=2097152) (h:Wt t):rn ⟨165,0,0⟩ [.int t.k,.int t.n,.str t.s,.sl (t.as.map Tm.row)]=some (0,[.bool t.valid]):=by
 rw [e165_0_0];simp only [r248 t hn,r249 t hn,r250 t h,nv0,nvS,dvI,dvB,dvS,dvL,Option.bind_some];unfold Tm.valid;have i1:((t.nodes:Int)<=60)↔t.nodes<=60:=by omega
 have i2:((t.depth:Int)<=16)↔t.depth<=16:=by omega
 by_cases h1:t.nodes<=60 <;> by_cases h2:t.depth<=16 <;> simp [h1,h2,i1,i2]
theorem r152 (t:Tm) (hn:t.nodes<=2097152) (h:Wt t):rn ⟨152,0,0⟩ [.int t.k,.int t.n,.str t.s,.sl (t.as.map Tm.row)]=some (0,[.bool t.valid]):=by
 rw [e152_0_0];have h1:=r232 t 60 hn (by omega)
 rw [show ((60:Nat):Int)=60 from rfl] at h1
 simp only [h1,r233 t hn,r234 t h,nv0,nvS,dvI,dvB,dvS,dvL,Option.bind_some];have i0:((0:Int)<=leftI t.nodes 60)↔t.nodes<=60:=by
  unfold leftI;split <;> omega
 unfold Tm.valid;have i2:((t.depth:Int)<=16)↔t.depth<=16:=by omega
 by_cases h1:t.nodes<=60 <;> by_cases h2:t.depth<=16 <;> simp [h1,h2,i0,i2]
theorem r163 (l:List ByteArray) (h:l.length<=1048576):rn ⟨163,0,0⟩ [.sl (l.map sRow)]=some (0,[.bool (dis l)]):=by
 rw [e163_0_0];simp only [r246 l (by omega),nv0,nvS,dvI,dvB,dvS,dvL,Option.bind_some,List.length_map]
 congr 4
 unfold dis;exact decide_eq_decide.2 (by rw [<- srtN_iff]; omega)
def ixS (s:ByteArray):List ByteArray->Nat->Int
 | [],_=>-1
 | x::r,i=>if x=s then (i:Int) else ixS s r (i+1)
theorem ixS_neg (s:ByteArray):∀ (l:List ByteArray) (i:Nat),ixS s l i<0↔s∉l
 | [],i=>by simp [ixS]
 | x::r,i=>by
  unfold ixS;by_cases h:x=s
  · rw [if_pos h]; simp [h]
  · rw [if_neg h,ixS_neg s r]; simp [Ne.symm h]
theorem r235 (l:List ByteArray) (hl:l.length<=maxLen) (s:ByteArray):rn ⟨235,0,0⟩ [.sl (l.map sRow),.str s]=some (0,[.int (ixS s l 0)]):=by
 have hlp:∀ n i,i+n=l.length->(ixS s (l.drop i) i=-1/\rn ⟨235,0,1⟩ [.sl (l.map sRow),.str s,.int (i:Int)]=some (0,[]))\/rn ⟨235,0,1⟩ [.sl (l.map sRow),.str s,.int (i:Int)]=some (1,[.int (ixS s (l.drop i) i)]):=by
  intro n;induction n with
  | zero =>
   intro i hi;obtain rfl:i=l.length:=by omega
   rw [e235_0_1];simp only [List.length_map,Int.ofNat_lt,Nat.lt_irrefl,decide_false,cond_false,List.drop_length,ixS];exact .inl ⟨trivial,trivial⟩
  | succ n ih =>
   intro i hi;have hlt:i<l.length:=by omega
   rw [e235_0_1,List.drop_eq_getElem_cons hlt];simp only [List.length_map,Int.ofNat_lt,hlt,decide_true,cond_true,inbN,Int.toNat_natCast,rowAt_map hlt,wrap_succ hlt hl,sRow,nv0,nvS,dvI,dvB,dvS,dvL,Option.bind_some,ixS];by_cases h:l[i]=s
   · simp only [decide_eq_true h,cond_true,if_pos h]; exact .inr trivial
   · simp only [decide_eq_false h,cond_false,if_neg h]; exact ih (i+1) (by omega)
 have h:=hlp l.length 0 (by omega)
 rw [List.drop_zero] at h;simp only [Int.natCast_zero] at h;rw [e235_0_0];rcases h with ⟨h1,h2⟩ | h2
 · rw [h2,h1]; rfl
 · rw [h2]; rfl
theorem r229 (l:List ByteArray) (hl:l.length<=maxLen):rn ⟨229,0,0⟩ [.sl (l.map sRow)]=some (0,[.bool (dis l)]):=by
 have key:∀ n i,i+n=l.length->rn ⟨229,0,1⟩ [.sl (l.map sRow),.int (i:Int)]=bif (List.range' i n).all (fun j=>decide (ixS (l.getD j e0) l 0=(j:Int))) then some (0,[]) else some (1,[]):=by
  intro n;induction n with
  | zero =>
   intro i hi;obtain rfl:i=l.length:=by omega
   rw [e229_0_1];simp only [List.length_map,Int.ofNat_lt,Nat.lt_irrefl,decide_false,cond_false,List.drop_length]; rfl
  | succ n ih =>
   intro i hi;have hlt:i<l.length:=by omega
   rw [e229_0_1,List.range'_succ];have hg:l.getD i e0=l[i]:=by simp [List.getD,hlt]
   simp only [List.length_map,Int.ofNat_lt,hlt,decide_true,cond_true,inbN,Int.toNat_natCast,rowAt_map hlt,wrap_succ hlt hl,sRow,nv0,nvS,dvI,dvB,dvS,dvL,Option.bind_some,r235 l hl,ih (i+1) (by omega),List.all_cons,hg]
   by_cases hq:ixS l[i] l 0=(i:Int)
   · simp [hq]
   · simp [hq]
 have h:=key l.length 0 (by omega)
 rw [e229_0_0];simp only [Int.natCast_zero] at h;rw [h];have hfi:∀ (m:List ByteArray) (i k:Nat) (hk:k<m.length),ixS m[k] m i=((i+k:Nat):Int)↔∀ j (hj:j<k),m[j]≠m[k]:=by
  intro m;induction m with
  | nil=>intro i k hk; simp at hk
  | cons x m ih =>
   intro i k hk;cases k with
   | zero=>simp [ixS]
   | succ k =>
    have hk':k<m.length:=by simpa using hk
    simp only [List.getElem_cons_succ,ixS];by_cases hx:x=m[k]
    · rw [if_pos hx]
      constructor
      · intro h; omega
      · intro h; exact absurd hx (h 0 (by omega))
    · rw [if_neg hx]
      have:=ih (i+1) k hk';rw [show i+1+k=i+(k+1) by omega] at this
      rw [this];constructor
      · intro h j hj
        cases j with
        | zero=>exact hx
        | succ j=>exact h j (by omega)
      · intro h j hj; exact h (j+1) (by omega)
 have e:(List.range' 0 l.length).all (fun j=>decide (ixS (l.getD j e0) l 0=(j:Int)))=dis l:=by
  unfold dis;rw [Bool.eq_iff_iff,List.all_eq_true,decide_eq_true_eq];constructor
  · intro h
    refine List.pairwise_iff_getElem.2 fun i j _ hj hij=>?_
    have h1:=h j (by simp [List.mem_range']; omega)
    simp only [decide_eq_true_eq] at h1;have hg:l.getD j e0=l[j]:=by simp [List.getD,hj]
    rw [hg] at h1;exact (hfi l 0 j hj).1 (by simpa using h1) i hij
  · intro h j hj
    have hj':j<l.length:=by simp [List.mem_range'] at hj; omega
    have hg:l.getD j e0=l[j]:=by simp [List.getD,hj']
    simp only [decide_eq_true_eq,hg];have:=(hfi l 0 j hj').2 fun i hi=>List.pairwise_iff_getElem.1 h i j (by omega) hj' hi
    simpa using this
 rw [e];cases dis l <;> rfl
theorem rIndexS (l:List ByteArray) (hl:l.length<=maxLen) (s:ByteArray):rn ⟨341,0,0⟩ [.sl (l.map sRow),.str s]=some (0,[.int (ixS s l 0)]):=by
 have hlp:∀ n i,i+n=l.length->(ixS s (l.drop i) i=-1/\rn ⟨341,0,1⟩ [.sl (l.map sRow),.str s,.int (l.length:Int),.int (i:Int)]=some (0,[]))\/rn ⟨341,0,1⟩ [.sl (l.map sRow),.str s,.int (l.length:Int),.int (i:Int)]=some (1,[.int (ixS s (l.drop i) i)]):=by
  intro n;induction n with
  | zero =>
   intro i hi;obtain rfl:i=l.length:=by omega
   rw [e341_0_1];simp only [List.length_map,Int.ofNat_lt,Nat.lt_irrefl,decide_false,cond_false,List.drop_length,ixS];exact .inl ⟨trivial,trivial⟩
  | succ n ih =>
   intro i hi;have hlt:i<l.length:=by omega
   rw [e341_0_1,List.drop_eq_getElem_cons hlt];simp only [List.length_map,Int.ofNat_lt,hlt,decide_true,cond_true,inbN,Int.toNat_natCast,rowAt_map hlt,wrap_succ hlt hl,sRow,nv0,nvS,dvI,dvB,dvS,dvL,Option.bind_some,ixS];by_cases h:l[i]=s
   · simp only [decide_eq_true h.symm,cond_true,if_pos h]; exact .inr trivial
   · simp only [decide_eq_false (Ne.symm h),cond_false,if_neg h]; exact ih (i+1) (by omega)
 have h:=hlp l.length 0 (by omega)
 rw [List.drop_zero] at h;simp only [Int.natCast_zero] at h;rw [e341_0_0];simp only [List.length_map];rcases h with ⟨h1,h2⟩ | h2
 · rw [h2,h1]; rfl
 · rw [h2]; rfl
theorem ixS_has (l:List ByteArray) (s:ByteArray):decide ((0:Int)<=ixS s l 0)=hasS l s:=by
 rw [Bool.eq_iff_iff,decide_eq_true_eq,hasS_iff];have:=ixS_neg s l 0;constructor
 · intro h; exact Classical.byContradiction fun hn=>by have:=this.2 hn; omega
 · intro h; exact Classical.byContradiction fun hn=>absurd h (this.1 (by omega))
theorem ixS_no (l:List ByteArray) (s:ByteArray):decide (ixS s l 0<0)=!hasS l s:=by
 rw [<- ixS_has];by_cases h:ixS s l 0<0
 · rw [decide_eq_true h,decide_eq_false (by omega)]; rfl
 · rw [decide_eq_false h,decide_eq_true (by omega)]; rfl
theorem rContS (l:List ByteArray) (hl:l.length<=maxLen) (s:ByteArray):rn ⟨307,0,0⟩ [.sl (l.map sRow),.str s]=some (0,[.bool (hasS l s)]):=by
 rw [e307_0_0];simp only [rIndexS l hl,nv0,nvS,dvI,dvB,dvS,dvL,Option.bind_some];rw [ixS_has]
theorem r251 (l r:List ByteArray) (hl:l.length<=2097152) (hr:r.length<=maxLen):rn ⟨251,0,0⟩ [.sl (l.map sRow),.sl (r.map sRow)]=some (0,[.sl ((wo l r).map sRow)]):=by
 have key:∀ n i (acc:List ByteArray),i+n=l.length->acc.length<=i->rn ⟨251,0,1⟩ [.sl (r.map sRow),.sl (l.map sRow),.int (l.length:Int),.int (i:Int),.sl (acc.map sRow)]=some (0,[.sl ((acc++wo (l.drop i) r).map sRow)]):=by
  intro n;induction n with
  | zero =>
   intro i acc hi ha;obtain rfl:i=l.length:=by omega
   rw [e251_0_1];simp only [List.length_map,Int.ofNat_lt,Nat.lt_irrefl,decide_false,cond_false,List.drop_length,wo,List.filter_nil,List.append_nil]
  | succ n ih =>
   intro i acc hi ha;have hlt:i<l.length:=by omega
   rw [e251_0_1,List.drop_eq_getElem_cons hlt];simp only [List.length_map,Int.ofNat_lt,hlt,decide_true,cond_true,inbN,Int.toNat_natCast,rowAt_map hlt,wrap_succ hlt (maxB (by omega)),sRow,nv0,nvS,dvI,dvB,dvS,dvL,Option.bind_some,rContS r hr,List.length_cons,List.length_nil]
   unfold wo;rw [List.filter_cons];cases hh:hasS r l[i] with
   | true=>simp only [Bool.not_true,cond_false,Bool.false_eq_true,if_false]; exact ih (i+1) acc (by omega) (by omega)
   | false =>
    simp only [Bool.not_false,cond_true,if_true];rw [nb (by omega)]
    have:=ih (i+1) (acc++[l[i]]) (by omega) (by simp; omega)
    rw [List.map_append] at this;simp only [cond_true];simpa [wo,sRow] using this
 have h:=key l.length 0 [] (by omega) (Nat.zero_le _)
 rw [e251_0_0];simp only [Int.natCast_zero,List.map_nil,List.drop_zero,List.nil_append,List.length_map] at h ⊢;simp only [h,nv0,nvS,dvI,dvB,dvS,dvL,Option.bind_some,Nat.beq_refl,cond_true,cond_false]
theorem r153 (l r:List ByteArray) (hl:l.length<=2097152) (hr:r.length<=maxLen):rn ⟨153,0,0⟩ [.sl (l.map sRow),.sl (r.map sRow)]=some (0,[.sl ((wo l r).map sRow)]):=by
 have key:∀ n i (acc:List ByteArray),i+n=l.length->acc.length<=i->rn ⟨153,0,1⟩ [.sl (l.map sRow),.sl (r.map sRow),.int (i:Int),.sl (acc.map sRow)]=some (0,[.sl ((acc++wo (l.drop i) r).map sRow)]):=by
  intro n;induction n with
  | zero =>
   intro i acc hi ha;obtain rfl:i=l.length:=by omega
   rw [e153_0_1];simp only [List.length_map,Int.ofNat_lt,Nat.lt_irrefl,decide_false,cond_false,List.drop_length,wo,List.filter_nil,List.append_nil]
  | succ n ih =>
   intro i acc hi ha;have hlt:i<l.length:=by omega
   rw [e153_0_1,List.drop_eq_getElem_cons hlt];simp only [List.length_map,Int.ofNat_lt,hlt,decide_true,cond_true,inbN,Int.toNat_natCast,rowAt_map hlt,wrap_succ hlt (maxB (by omega)),sRow,nv0,nvS,dvI,dvB,dvS,dvL,Option.bind_some,r235 r hr,List.length_cons,List.length_nil]
   rw [ixS_no];unfold wo;rw [List.filter_cons];cases hh:hasS r l[i] with
   | true=>simp only [Bool.not_true,cond_false,Bool.false_eq_true,if_false]; exact ih (i+1) acc (by omega) (by omega)
   | false =>
    simp only [Bool.not_false,cond_true,if_true];rw [nb (by omega)]
    have:=ih (i+1) (acc++[l[i]]) (by omega) (by simp; omega)
    rw [List.map_append] at this;simp only [cond_true];simpa [wo,sRow] using this
 have h:=key l.length 0 [] (by omega) (Nat.zero_le _)
 rw [e153_0_0];simp only [Int.natCast_zero,List.map_nil,List.drop_zero,List.nil_append] at h ⊢;simp only [h,nv0,nvS,dvI,dvB,dvS,dvL,Option.bind_some,Nat.beq_refl,cond_true,cond_false]
end Go.Q.S
