/- The functions of this seat, as that machine runs them. -/
import Derived.Test.YtnjedojmdcpcaaaGreatfP18
set_option linter.unusedVariables false
set_option linter.unusedSimpArgs false
namespace Go.Q.S
open Go Go.Q Go.Proofs
theorem brLoopI (d:DfM) (hb:DfB d) (v:List ByteArray) (hv:v.length<=1048576) (t:Tm) (hw:Wt t) (cs:List Int) (hcl:cs.length<=1048576) (hs:symV d v t=true) (hcs:∀ c∈cs,isC v.length c=true):∀ n i (out:List (Bk × List Int)),i+n=cs.length->BrB i out->(∀ b∈out,BkG d t b.1) →
 rn ⟨87,0,1⟩ [.sl (cs.map iRow),.int (cs.length:Int),.int (i:Int),.sl (d.so.map sRow),.sl (d.op.map OpM.row),.sl (d.ru.map RuM.row),.sl (d.st.map StM.row),.sl (v.map sRow),.int t.k,.int t.n,.str t.s,.sl (t.as.map Tm.row),.sl (cs.map iRow),.sl (out.map (brRow d v t))]=some (0,[.sl ((brF d v t (cs.drop i) out).map (brRow d v t))]):=by
 intro n;induction n with
 | zero =>
  intro i out hi _ _;obtain rfl:i=cs.length:=by omega
  rw [e87_0_1];simp only [List.length_map,Int.ofNat_lt,Nat.lt_irrefl,decide_false,cond_false,List.drop_length,brF]
 | succ n ih =>
  intro i out hi ho hk;have hlt:i<cs.length:=by omega
  have hc:=hcs _ (List.getElem_mem hlt);obtain ⟨hd,htn,hg,hgn,hx⟩:=nx_bkG hb hw hs hc;have hol:=ho.l;have hpl:∀ b∈out,(bP b.1).length<=1048576:=fun b hb'=>by
   have h1:=(hk b hb').i;cases hq:b.1 with
   | none=>exact Nat.zero_le _
   | some y=>have:=(h1 y hq).2.1; show y.2.length<=_; omega
  have h1:=r120 v t (small_of t (by omega)) (cs.map iRow) cs[i]
  rw [instR_C hc] at h1;have h2:=r170 d hd (inst v t cs[i]) hg hgn [] (by simp; omega)
  rw [nrR_bk,List.map_nil] at h2;obtain ⟨w1,w2,w3,h3,rfl,rfl,rfl⟩:=fndBI d v t out (by omega) hpl (nx d (inst v t cs[i]))
  have h4:=r174 (v.map sRow) (cs.map iRow) [[.int cs[i]]] t (small_of t (by omega)) (by rw [List.length_map]; omega) (by simp)
  have hob:=addB_b ho (nx d (inst v t cs[i])) cs[i];have hkb:∀ b∈addB out (nx d (inst v t cs[i])) cs[i],BkG d t b.1:=addB_k hk hx;rw [List.drop_eq_getElem_cons hlt,e87_0_1];simp only [brF,List.length_map,Int.ofNat_lt,hlt,decide_true,cond_true,inbN,Int.toNat_natCast,rowAt_map hlt,wrap_succ hlt (maxB (by omega)),iRow,nv0,nvS,dvI,dvB,dvS,dvL,Option.bind_some,h1,h2,h3]
  have h5:=ih (i+1) _ (by omega) hob hkb
  generalize nx d (inst v t cs[i])=x at hx h3 h5 ⊢;generalize hc0:cs[i]=c at h4 h5 ⊢;cases hf:fndB out x with
  | some j =>
   obtain ⟨hj,hjx⟩:=fndB_lt hf;have e8:(nth (rowAt (out.map (brRow d v t)) j) 8).L=out[j].2.map iRow:=by rw [rowAt_map hj]; rfl
   have hset:=br_set (d:=d) (v:=v) (t:=t) hj (out[j].2.map iRow++[[.int c]]) (out[j].2++[c]) (by simp [iRow])
   have hlen:=br_len (d:=d) (v:=v) (t:=t) hj;have b1:Nat.ble (out[j].2.length+1) M63=true:=b63 (by have:=ho.c _ (List.getElem_mem hj); omega)
   have b2:Nat.blt j out.length=true:=Nat.ble_eq_true_of_le hj;have b3:decide ((0:Int)<=(j:Int))=true:=by simp
   rw [addB_some hf hj] at h5 ⊢;simp only [fndI,hf,b3,cond_true,inbN,hlen,List.length_map,hj,decide_true,Int.toNat_natCast,b2,e8,List.length_cons,List.length_nil,Nat.zero_add,b1,Nat.beq_refl,Bool.and_self,hset,h5]
  | none =>
   have b1:Nat.ble (out.length+1) M63=true:=b63 (by omega)
   rw [addB_none hf] at h5 ⊢;simp only [List.map_append,List.map_cons,List.map_nil] at h5 ⊢;simp only [fndI,hf,show decide ((0:Int)<=-1)=false from rfl,cond_false,h4,nv0,nvS,dvI,dvB,dvS,dvL,Option.bind_some,List.length_cons,List.length_nil,Nat.zero_add,b1,List.length_map]
   cases x with
   | none=>exact h5
   | some y =>
    obtain ⟨y1,y2,y3⟩:=hx.i y rfl;have h6:=carI d hd t hw htn y.1 y1 y.2 y2 y3;simp only [bR,bP,Option.isSome_some,cond_true,h6,nv0,nvS,dvI,dvB,dvS,dvL,Option.bind_some];have hk1:bK d t (some y)=if (carT d t y).valid=true then 2 else 3:=rfl
    cases hvv:(carT d t (y.1,y.2)).valid with
    | true =>
     have hk2:bK d t (some y)=2:=by rw [hk1,if_pos hvv]
     simp only [brRow,hk2] at h5;exact h5
    | false =>
     have hk2:bK d t (some y)=3:=by rw [hk1,if_neg (by show ¬(carT d t (y.1,y.2)).valid=true; rw [hvv]; simp)]
     simp only [brRow,hk2] at h5;exact h5
theorem r87 (s:SyM) (hs:SyB s) (h:symC s.d s.v s.t s.c=true):rn ⟨87,0,0⟩ s.row=some (0,[.sl ((brL s).map (brRow s.d s.v s.t))]):=by
 have h':=h;simp only [symC,Bool.and_eq_true] at h';have h1:=brLoopI s.d hs.d s.v hs.v s.t hs.w s.c hs.c h'.1 (incC_isC s.c none h'.2) s.c.length 0 [] (Nat.zero_add _) ⟨Nat.le_refl _,by simp⟩ (by simp)
 simp only [Int.natCast_zero,List.map_nil,List.drop_zero] at h1;unfold SyM.row brL;rw [e87_0_0,if_pos h];simp only [List.length_map,h1,nv0,nvS,dvI,dvB,dvS,dvL,Option.bind_some,Nat.beq_refl,cond_true,cond_false]
theorem brLoopS (s:SyM) (hs:SyB s) (h:symC s.d s.v s.t s.c=true):∀ n i (out:List (Bk × List Int)),i+n=s.c.length->BrB i out->(∀ b∈out,BkG s.d s.t b.1) →
 rn ⟨27,0,1⟩ [.int (i:Int),.sl (s.d.so.map sRow),.sl (s.d.op.map OpM.row),.sl (s.d.ru.map RuM.row),.sl (s.d.st.map StM.row),.sl (s.v.map sRow),.int s.t.k,.int s.t.n,.str s.t.s,.sl (s.t.as.map Tm.row),.sl (s.c.map iRow),.sl (out.map (brRow s.d s.v s.t))]=some (0,[.sl ((brF s.d s.v s.t (s.c.drop i) out).map (brRow s.d s.v s.t))]):=by
 have h0:=symS s.d hs.d s.v hs.v hs.vs s.t hs.w hs.n s.c hs.c;have h':=h;simp only [symC,Bool.and_eq_true] at h';have hcs:=incC_isC s.c none h'.2;have hb:=hs.d;have hv:=hs.v;have hw:=hs.w;have hcl:=hs.c;have hsy:=h'.1;obtain ⟨d,v,t,cs⟩:=s;simp only at h h0 hcs hb hv hw hcl hsy ⊢;intro n;induction n with
 | zero =>
  intro i out hi _ _;obtain rfl:i=cs.length:=by omega
  rw [e27_0_1];simp only [List.length_map,Int.ofNat_lt,Nat.lt_irrefl,decide_false,cond_false,List.drop_length,brF]
 | succ n ih =>
  intro i out hi ho hk;have hlt:i<cs.length:=by omega
  have hc:=hcs _ (List.getElem_mem hlt);obtain ⟨hd,htn,hg,hgn,hx⟩:=nx_bkG hb hw hsy hc;have hol:=ho.l;have hpl:∀ b∈out,(bP b.1).length<=1048576:=fun b hb'=>by
   have h1:=(hk b hb').i;cases hq:b.1 with
   | none=>exact Nat.zero_le _
   | some y=>have:=(h1 y hq).2.1; show y.2.length<=_; omega
  have h1:=r105 v t (small_of t (by omega)) cs[i]
  have h2:=r104 d hd (inst v t cs[i]) hg hgn;rw [nrS_bk] at h2;have h3:=r106 d v t out (by omega) hpl (nx d (inst v t cs[i]))
  have h4:=r107 d hd v hv (cs.map iRow) t hw htn (nx d (inst v t cs[i])) hx;have hob:=addB_b ho (nx d (inst v t cs[i])) cs[i];have hkb:∀ b∈addB out (nx d (inst v t cs[i])) cs[i],BkG d t b.1:=addB_k hk hx;have h5:=ih (i+1) _ (by omega) hob hkb
  rw [List.drop_eq_getElem_cons hlt,e27_0_1];simp only [brF,List.length_map,Int.ofNat_lt,hlt,decide_true,cond_true,inbN,Int.toNat_natCast,rowAt_map hlt,wrap_succ hlt (maxB (by omega)),h0,h,iRow,nv0,nvS,dvI,dvB,dvS,dvL,Option.bind_some,h1,h2,h3,h4]
  generalize nx d (inst v t cs[i])=x at hx h5 ⊢;generalize hc0:cs[i]=c at h5 ⊢;cases hf:fndB out x with
  | some j =>
   obtain ⟨hj,hjx⟩:=fndB_lt hf;have e8:(nth (rowAt (out.map (brRow d v t)) j) 8).L=out[j].2.map iRow:=by rw [rowAt_map hj]; rfl
   have hset:=br_set (d:=d) (v:=v) (t:=t) hj (out[j].2.map iRow++[[.int c]]) (out[j].2++[c]) (by simp [iRow])
   have hlen:=br_len (d:=d) (v:=v) (t:=t) hj;have b1:Nat.ble (out[j].2.length+1) M63=true:=b63 (by have:=ho.c _ (List.getElem_mem hj); omega)
   have b2:Nat.blt j out.length=true:=Nat.ble_eq_true_of_le hj;have b3:¬((j:Int)<0):=by omega
   rw [addB_some hf hj] at h5 ⊢;simp only [fndI,hf,b3,decide_false,cond_false,cond_true,inbN,hlen,List.length_map,hj,decide_true,Int.toNat_natCast,b2,e8,List.length_cons,List.length_nil,Nat.zero_add,b1,Nat.beq_refl,Bool.and_self,hset,h5]
  | none =>
   have b1:Nat.ble (out.length+1) M63=true:=b63 (by omega)
   have hj:out.length<(out++[(x,([]:List Int))]).length:=by simp
   have hr:out.map (brRow d v t)++[[.int (bK d t x),.int (bR x),.sl ((bP x).map iRow),.sl (v.map sRow),.int (bT d t x).k,.int (bT d t x).n,.str (bT d t x).s,.sl ((bT d t x).as.map Tm.row),.sl []]]=(out++[(x,([]:List Int))]).map (brRow d v t):=by rw [List.map_append]; rfl
   have e0:(out++[(x,([]:List Int))])[out.length]=(x,[]):=by simp
   have e8:(nth (rowAt ((out++[(x,([]:List Int))]).map (brRow d v t)) out.length) 8).L=[]:=by rw [rowAt_map hj,e0]; rfl
   have hset:=br_set (d:=d) (v:=v) (t:=t) hj [[.int c]] [c] rfl;rw [e0,set_last] at hset;have hlen:=br_len (d:=d) (v:=v) (t:=t) hj;have b2:Nat.blt out.length (out.length+1)=true:=Nat.ble_eq_true_of_le (Nat.le_refl _);have b4:out.length<out.length+1:=Nat.lt_succ_self _;have b5:Nat.ble 1 M63=true:=rfl;rw [addB_none hf] at h5 ⊢;simp only [fndI,hf,show decide ((-1:Int)<0)=true from rfl,cond_true,hr,inbN,hlen,List.length_map,List.length_append,List.length_cons,List.length_nil,Nat.zero_add,Int.toNat_natCast,b1,b2,b4,b5,decide_true,e8,List.nil_append,Nat.beq_refl,Bool.and_self,hset,h5]
theorem r27 (s:SyM) (hs:SyB s):rn ⟨27,0,0⟩ s.row=some (0,[.sl ((brL s).map (brRow s.d s.v s.t))]):=by
 cases h:symC s.d s.v s.t s.c with
 | true =>
  have h1:=brLoopS s hs h s.c.length 0 [] (Nat.zero_add _) ⟨Nat.le_refl _,by simp⟩ (by simp)
  simp only [Int.natCast_zero,List.map_nil,List.drop_zero] at h1;unfold SyM.row brL;rw [e27_0_0,if_pos h];simp only [h1,nv0,nvS,dvI,dvB,dvS,dvL,Option.bind_some,Nat.beq_refl,cond_true,cond_false]
 | false =>
  have h0:=symS s.d hs.d s.v hs.v hs.vs s.t hs.w hs.n s.c hs.c;have h1:rn ⟨27,0,1⟩ [.int 0,.sl (s.d.so.map sRow),.sl (s.d.op.map OpM.row),.sl (s.d.ru.map RuM.row),.sl (s.d.st.map StM.row),.sl (s.v.map sRow),.int (s.t).k,.int (s.t).n,.str (s.t).s,.sl ((s.t).as.map Tm.row),.sl (s.c.map iRow),.sl []]=some (0,[.sl []]):=by
   rw [e27_0_1];simp only [h0,h,nv0,nvS,dvI,dvB,dvS,dvL,Option.bind_some,cond_false];cases decide ((0:Int)<((s.c.map iRow).length:Nat)) <;> rfl
  unfold SyM.row brL;rw [e27_0_0,h];simp only [h1,nv0,nvS,dvI,dvB,dvS,dvL,Option.bind_some,Nat.beq_refl,cond_true,cond_false];rfl
end Go.Q.S
