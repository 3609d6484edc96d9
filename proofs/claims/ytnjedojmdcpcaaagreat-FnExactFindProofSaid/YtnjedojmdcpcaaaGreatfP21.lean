/- The functions of this seat, as that machine runs them. -/
import Derived.Test.YtnjedojmdcpcaaaGreatfP20
import Derived.Test.YtnjedojmdcpcaaaGreatMA
set_option linter.unusedVariables false
set_option linter.unusedSimpArgs false
namespace Go.Q.S
open Go Go.Q Go.Proofs
theorem opI (g:ClM) (hb:ClB g) (t:Tm) (ht:Small t) (cl:List Int) (hcl:cl.length<=1048576) (hc:∀ k∈cl,isC g.v.length k=true):rn ⟨211,0,0⟩ [.sl (g.v.map sRow),.int (g.l).k,.int (g.l).n,.str (g.l).s,.sl ((g.l).as.map Tm.row),.int (g.r).k,.int (g.r).n,.str (g.r).s,.sl ((g.r).as.map Tm.row),.sl (g.g.map Gu.row),.sl (g.v.map sRow),.int t.k,.int t.n,.str t.s,.sl (t.as.map Tm.row),.sl (cl.map iRow)]=some (0,[.sl ((opC g t cl).map iRow)]):=by
 have hrn:=hb.rn;have hlp:∀ n i (acc:List Int),i+n=cl.length->acc.length<=i->rn ⟨211,0,1⟩ [.sl (cl.map iRow),.int (cl.length:Int),.int (i:Int),.sl (g.v.map sRow),.int (g.l).k,.int (g.l).n,.str (g.l).s,.sl ((g.l).as.map Tm.row),.int (g.r).k,.int (g.r).n,.str (g.r).s,.sl ((g.r).as.map Tm.row),.sl (g.g.map Gu.row),.sl (g.v.map sRow),.int t.k,.int t.n,.str t.s,.sl (t.as.map Tm.row),.sl (cl.map iRow),.sl (acc.map iRow)]=some (0,[.sl ((acc++opC g t (cl.drop i)).map iRow)]):=by
  intro n;induction n with
  | zero =>
   intro i acc hi _;obtain rfl:i=cl.length:=by omega
   rw [e211_0_1];simp only [List.length_map,Int.ofNat_lt,Nat.lt_irrefl,decide_false,cond_false,List.drop_length,opC,List.filter_nil,List.append_nil]
  | succ n ih =>
   intro i acc hi ha;have hlt:i<cl.length:=by omega
   have hk:=hc _ (List.getElem_mem hlt);have h1:=r120 g.v t ht (cl.map iRow) cl[i];rw [hk] at h1;have h2:=r221 g.v g.l g.r (small_of _ hrn) (g.g.map Gu.row) cl[i];have h3:=r289 (S.instR g.v t cl[i]) (S.instR g.v g.r cl[i]) (S.instR_small ht cl[i]);have b1:Nat.ble (acc.length+1) M63=true:=nb (by omega)
   have i1:=ih (i+1) acc (by omega) (by omega)
   have i2:=ih (i+1) (acc++[cl[i]]) (by omega) (by simp; omega)
   simp only [List.map_append,List.map_cons,List.map_nil,List.append_assoc,List.cons_append,List.nil_append] at i2;unfold opC at i1 i2 ⊢;rw [List.drop_eq_getElem_cons hlt,List.filter_cons,e211_0_1];simp only [List.length_map,Int.ofNat_lt,hlt,decide_true,cond_true,inbN,Int.toNat_natCast,rowAt_map hlt,wrap_succ hlt (maxB (by omega)),iRow,nv0,nvS,dvI,dvB,dvS,dvL,Option.bind_some,h1,h2,h3,Bool.not_true,cond_false,List.length_cons,List.length_nil,Nat.zero_add,b1]
   cases eqb (S.instR g.v t cl[i]).row (S.instR g.v g.r cl[i]).row with
   | true=>exact i1
   | false =>
    simp only [Bool.not_false,cond_true,if_true,List.map_append,List.map_cons];exact i2
 have h1:=hlp cl.length 0 [] (Nat.zero_add _) (Nat.le_refl _);simp only [Int.natCast_zero,List.drop_zero,List.map_nil,List.nil_append] at h1;rw [e211_0_0];simp only [List.length_map,h1,nv0,nvS,dvI,dvB,dvS,dvL,Option.bind_some,Nat.beq_refl,cond_true,cond_false]
theorem opS (g:ClM) (hb:ClB g) (t:Tm) (ht:Small t) (cl:List Int) (hcl:cl.length<=1048576) (hc:∀ k∈cl,isC g.v.length k=true):rn ⟨281,0,0⟩ [.sl (g.v.map sRow),.int (g.l).k,.int (g.l).n,.str (g.l).s,.sl ((g.l).as.map Tm.row),.int (g.r).k,.int (g.r).n,.str (g.r).s,.sl ((g.r).as.map Tm.row),.sl (g.g.map Gu.row),.sl (g.v.map sRow),.int t.k,.int t.n,.str t.s,.sl (t.as.map Tm.row),.sl (cl.map iRow)]=some (0,[.sl ((opC g t cl).map iRow)]):=by
 have hrn:=hb.rn;have hlp:∀ n i (acc:List Int),i+n=cl.length->acc.length<=i->rn ⟨281,0,1⟩ [.int (i:Int),.sl (g.v.map sRow),.int (g.l).k,.int (g.l).n,.str (g.l).s,.sl ((g.l).as.map Tm.row),.int (g.r).k,.int (g.r).n,.str (g.r).s,.sl ((g.r).as.map Tm.row),.sl (g.g.map Gu.row),.sl (g.v.map sRow),.int t.k,.int t.n,.str t.s,.sl (t.as.map Tm.row),.sl (cl.map iRow),.sl (acc.map iRow)]=some (0,[.sl ((acc++opC g t (cl.drop i)).map iRow)]):=by
  intro n;induction n with
  | zero =>
   intro i acc hi _;obtain rfl:i=cl.length:=by omega
   rw [e281_0_1];simp only [List.length_map,Int.ofNat_lt,Nat.lt_irrefl,decide_false,cond_false,List.drop_length,opC,List.filter_nil,List.append_nil]
  | succ n ih =>
   intro i acc hi ha;have hlt:i<cl.length:=by omega
   have hk:=hc _ (List.getElem_mem hlt);have h1:=r118 g.v t ht (cl.map iRow) cl[i];rw [hk] at h1;have h2:=r136 g.v g.l g.r (small_of _ hrn) (g.g.map Gu.row) cl[i];have h3:=r217 (S.instR g.v t cl[i]) (S.instR g.v g.r cl[i]) (S.instR_small ht cl[i]);have b1:Nat.ble (acc.length+1) M63=true:=nb (by omega)
   have i1:=ih (i+1) acc (by omega) (by omega)
   have i2:=ih (i+1) (acc++[cl[i]]) (by omega) (by simp; omega)
   simp only [List.map_append,List.map_cons,List.map_nil,List.append_assoc,List.cons_append,List.nil_append] at i2;unfold opC at i1 i2 ⊢;rw [List.drop_eq_getElem_cons hlt,List.filter_cons,e281_0_1];simp only [List.length_map,Int.ofNat_lt,hlt,decide_true,cond_true,inbN,Int.toNat_natCast,rowAt_map hlt,wrap_succ hlt (maxB (by omega)),iRow,nv0,nvS,dvI,dvB,dvS,dvL,Option.bind_some,h1,h2,h3,Bool.not_true,cond_false,List.length_cons,List.length_nil,Nat.zero_add,b1]
   cases eqb (S.instR g.v t cl[i]).row (S.instR g.v g.r cl[i]).row with
   | true=>exact i1
   | false =>
    simp only [Bool.not_false,cond_true,if_true,List.map_append,List.map_cons];exact i2
 have h1:=hlp cl.length 0 [] (Nat.zero_add _) (Nat.le_refl _);simp only [Int.natCast_zero,List.drop_zero,List.map_nil,List.nil_append] at h1;rw [e281_0_0];simp only [h1,nv0,nvS,dvI,dvB,dvS,dvL,Option.bind_some,Nat.beq_refl,cond_true,cond_false]
theorem mpI (vars:List ByteArray) (c:Int) (target:List ByteArray) (l:List Bnd) (hl:l.length<=1048576) (hs:∀ b∈l,Small b.2):rn ⟨290,0,0⟩ [.sl (vars.map sRow),.int c,.sl (target.map sRow),.sl (l.map Bnd.row)]=some (0,[.int (mapRes vars c target l).1,.bool (mapRes vars c target l).2]):=by
 have hi:=r169 vars.length c;rw [<- mapRes_eq,e290_0_0];simp only [List.length_map,hi,nv0,nvS,dvI,dvB,dvS,dvL,Option.bind_some];cases hC:isC vars.length c with
 | false=>simp
 | true =>
  simp only [Bool.not_true,cond_false];by_cases h3:target.length<=3
  case neg =>
   rw [if_neg (fun h=>h3 h.2),decide_eq_true (by omega:(3:Int)<(target.length:Int))]; rfl
  rw [if_pos ⟨trivial,h3⟩,decide_eq_false (by omega:¬(3:Int)<(target.length:Int))]
  simp only [cond_false];have hf:=fold_loop (F:=fun i s=>rn ⟨290,0,1⟩ [.sl (vars.map sRow),.int c,.sl (l.map Bnd.row),.int s,.sl (target.map sRow),.int (target.length:Int),.int (i:Int)]) (xs:=target) (mapStep vars c l) (A:=fun s=>some (0,[.int s])) (B:=some (1,[.int 0])) (fun i hi s=>?_) (fun s=>?_) 0
  · simp only [Int.natCast_zero] at hf
    rw [hf];cases ofold (mapStep vars c l) target 0 <;> rfl
  · have hb:=r276 l hl target[i]
    rw [e290_0_1];simp only [List.length_map,Int.ofNat_lt,hi,decide_true,cond_true,inbN,Int.toNat_natCast,rowAt_map hi,wrap_succ hi (maxB (by omega)),sRow,nv0,nvS,dvI,dvB,dvS,dvL,Option.bind_some]
    rw [hb];unfold mapStep;cases hq:bnd l target[i] with
    | none=>rfl
    | some t =>
     obtain ⟨b,hbm,rfl⟩:=bnd_mem hq;have h1:=r199 vars c;have h2:=r198 (caseS vars c) (caseS_len vars c) (caseS_small vars c) b.2 (hs b hbm);have h3:=r197 (aS (caseS vars c) b.2) (aS_small (caseS_small vars c) b.2 (hs b hbm));have h4:=r274 (rW (aS (caseS vars c) b.2));simp only [h1,h2,h3,h4,nv0,nvS,dvI,dvB,dvS,dvL,Option.bind_some,Bool.not_true,cond_false];unfold inst;cases isW (rW (aS (caseS vars c) b.2)) <;> rfl
  · rw [e290_0_1]
    simp
theorem mpS (vars:List ByteArray) (c:Int) (target:List ByteArray) (l:List Bnd) (hl:l.length<=1048576) (hs:∀ b∈l,Small b.2):rn ⟨282,0,0⟩ [.sl (vars.map sRow),.int c,.sl (target.map sRow),.sl (l.map Bnd.row)]=some (0,[.int (mapRes vars c target l).1,.bool (mapRes vars c target l).2]):=by
 have hi:=r155 vars.length;have hj:=rIn c 0 (IntKind.i64.wrap (cnt4 vars.length-1));rw [wcnt] at hj;rw [<- mapRes_eq,e282_0_0];simp only [List.length_map,hi,hj,nv0,nvS,dvI,dvB,dvS,dvL,Option.bind_some];cases hC:isC vars.length c with
 | false=>simp
 | true =>
  simp only [Bool.not_true,cond_false];by_cases h3:target.length<=3
  case neg =>
   rw [if_neg (fun h=>h3 h.2),decide_eq_true (by omega:(3:Int)<(target.length:Int))]; rfl
  rw [if_pos ⟨trivial,h3⟩,decide_eq_false (by omega:¬(3:Int)<(target.length:Int))]
  simp only [cond_false];have hf:=fold_loop (F:=fun i s=>rn ⟨282,0,1⟩ [.sl (vars.map sRow),.int c,.sl (target.map sRow),.sl (l.map Bnd.row),.int s,.int (i:Int)]) (xs:=target) (mapStep vars c l) (A:=fun s=>some (0,[.int s])) (B:=some (1,[.int 0])) (fun i hi s=>?_) (fun s=>?_) 0
  · simp only [Int.natCast_zero] at hf
    rw [hf];cases ofold (mapStep vars c l) target 0 <;> rfl
  · have hb:=r269 l hl hs target[i]
    rw [e282_0_1];simp only [List.length_map,Int.ofNat_lt,hi,decide_true,cond_true,inbN,Int.toNat_natCast,rowAt_map hi,wrap_succ hi (maxB (by omega)),sRow,nv0,nvS,dvI,dvB,dvS,dvL,Option.bind_some]
    rw [hb];unfold mapStep;cases hq:bnd l target[i] with
    | none =>
     have h1:=r105 vars tm0 (small_word ..) c;have h1':rn ⟨105,0,0⟩ [.sl (vars.map sRow),.int 0,.int 0,.str ⟨#[]⟩,.sl [],.int c]=_:=h1;simp only [nv0,nvS,dvI,dvB,dvS,dvL,Option.bind_some,h1'];rfl
    | some t =>
     obtain ⟨b,hbm,rfl⟩:=bnd_mem hq;have h1:=r105 vars b.2 (hs b hbm) c;have h4:=r266 (inst vars b.2 c);simp only [nv0,nvS,dvI,dvB,dvS,dvL,Option.bind_some,h1,h4,Bool.not_true,cond_false];have e:IntKind.i64.wrap (s*4)=IntKind.i64.wrap (4*s):=by rw [Int.mul_comm]
     rw [e];cases isW (inst vars b.2 c) <;> rfl
  · rw [e282_0_1]
    simp
theorem r212 (c:ClM) (hc:ClB c) (sub:List Bnd) (hsl:sub.length<=1048576) (hs:∀ b∈sub,Small b.2) (g:ClM) (hg:ClB g) (t:Tm) (ht:Small t) (cl:List Int) (k:Int) (hk:isC g.v.length k=true) (hgu:∀ q∈c.g,q.ok):rn ⟨212,0,0⟩ [.sl (c.v.map sRow),.int (c.l).k,.int (c.l).n,.str (c.l).s,.sl ((c.l).as.map Tm.row),.int (c.r).k,.int (c.r).n,.str (c.r).s,.sl ((c.r).as.map Tm.row),.sl (c.g.map Gu.row),.sl (sub.map Bnd.row),.sl (g.v.map sRow),.int (g.l).k,.int (g.l).n,.str (g.l).s,.sl ((g.l).as.map Tm.row),.int (g.r).k,.int (g.r).n,.str (g.r).s,.sl ((g.r).as.map Tm.row),.sl (g.g.map Gu.row),.sl (g.v.map sRow),.int t.k,.int t.n,.str t.s,.sl (t.as.map Tm.row),.sl (cl.map iRow),.int k]=some (0,[.bool (mapB c sub g t k)]):=by
 have h1:=mpI g.v k c.v sub hsl hs;rw [e212_0_0];simp only [h1,nv0,nvS,dvI,dvB,dvS,dvL,Option.bind_some];unfold mapB;cases hm:(mapRes g.v k c.v sub).2 with
 | false=>rfl
 | true =>
  have hn:=map_isC hm;generalize (mapRes g.v k c.v sub).1=n at hn ⊢;have h2:=r199 c.v n;have h3:=r291 (caseS c.v n) (caseS_len c.v n) (fun b hb=>by unfold caseS at hb; obtain ⟨p,_,rfl⟩:=List.mem_map.1 hb; rfl) c.g hc.g hgu
  have h4:=r120 c.v c.l (small_of _ hc.ln) [] n;rw [hn] at h4;have h5:=r120 g.v t ht (cl.map iRow) k;have h6:=r289 (S.instR c.v c.l n) (S.instR g.v t k) (S.instR_small (small_of _ hc.ln) n);have h7:=r221 c.v c.l c.r (small_of _ hc.rn) (c.g.map Gu.row) n;have h8:=r221 g.v g.l g.r (small_of _ hg.rn) (g.g.map Gu.row) k;have h9:=r289 (S.instR c.v c.r n) (S.instR g.v g.r k) (S.instR_small (small_of _ hc.rn) n);simp only [Bool.not_true,cond_false,h2,h3,nv0,nvS,dvI,dvB,dvS,dvL,Option.bind_some,Bool.true_and];cases c.g.all fun q=>holds (appG (caseS c.v n) q) with
  | false=>rfl
  | true =>
   simp only [Bool.not_true,cond_false,h4,h5,h6,nv0,nvS,dvI,dvB,dvS,dvL,Option.bind_some,Bool.true_and];cases eqb (S.instR c.v c.l n).row (S.instR g.v t k).row with
   | false=>rfl
   | true=>simp only [cond_true,h7,h8,h9,nv0,nvS,dvI,dvB,dvS,dvL,Option.bind_some,Bool.true_and]
end Go.Q.S
