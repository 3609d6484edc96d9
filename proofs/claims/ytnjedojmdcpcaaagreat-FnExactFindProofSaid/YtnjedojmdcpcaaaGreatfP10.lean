/- The functions of this seat, as that machine runs them. -/
import Derived.Test.YtnjedojmdcpcaaaGreatfP9
import Derived.Test.YtnjedojmdcpcaaaGreatMA
set_option linter.unusedVariables false
set_option linter.unusedSimpArgs false
namespace Go.Q.S
open Go Go.Q Go.Proofs
theorem r168 (vars:List ByteArray) (hv:vars.length<=1048576):rn ⟨168,0,0⟩ [.sl (vars.map sRow)]=some (0,[.sl ((wv vars).map VS.row)]):=by
 have hl:∀ n i (acc:List VS),i+n=vars.length->acc.length<=i->rn ⟨168,0,1⟩ [.sl (vars.map sRow),.int (vars.length:Int),.int (i:Int),.sl (acc.map VS.row)]=some (0,[.sl ((acc++wv (vars.drop i)).map VS.row)]):=by
  intro n;induction n with
  | zero =>
   intro i acc hi ha;obtain rfl:i=vars.length:=by omega
   rw [e168_0_1];simp only [List.length_map,Int.ofNat_lt,Nat.lt_irrefl,decide_false,cond_false,List.drop_length,wv,List.map_nil,List.append_nil]
  | succ n ih =>
   intro i acc hi ha;have hlt:i<vars.length:=by omega
   rw [e168_0_1,List.drop_eq_getElem_cons hlt];have hb2:Nat.ble (acc.length+1) M63=true:=nb (by omega)
   have h6:=ih (i+1) (acc++[(vars[i],wordS)]) (by omega) (by simp; omega)
   simp only [List.map_append,List.map_cons,List.map_nil,VS.row] at h6;simp only [List.length_map,Int.ofNat_lt,hlt,decide_true,cond_true,inbN,Int.toNat_natCast,rowAt_map hlt,wrap_succ hlt (maxB (by omega)),sRow,nv0,nvS,dvI,dvB,dvS,dvL,Option.bind_some,List.length_cons,List.length_nil,Nat.zero_add,hb2,h6]
   simp only [wv,List.map_append,List.map_cons,List.append_assoc,List.cons_append,List.nil_append,VS.row]
 have h:=hl vars.length 0 [] (by omega) (Nat.zero_le _)
 simp only [List.drop_zero,Int.natCast_zero,List.map_nil,List.nil_append] at h;rw [e168_0_0];simp only [List.length_map,h,nv0,nvS,dvI,dvB,dvS,dvL,Option.bind_some,Nat.beq_refl,cond_true,cond_false]
theorem r157 (vars:List ByteArray) (hv:vars.length<=1048576):rn ⟨157,0,0⟩ [.sl (vars.map sRow)]=some (0,[.sl ((wv vars).map VS.row)]):=by
 have hl:∀ n i (acc:List VS),i+n=vars.length->acc.length<=i->rn ⟨157,0,1⟩ [.sl (vars.map sRow),.int (i:Int),.sl (acc.map VS.row)]=some (0,[.sl ((acc++wv (vars.drop i)).map VS.row)]):=by
  intro n;induction n with
  | zero =>
   intro i acc hi ha;obtain rfl:i=vars.length:=by omega
   rw [e157_0_1];simp only [List.length_map,Int.ofNat_lt,Nat.lt_irrefl,decide_false,cond_false,List.drop_length,wv,List.map_nil,List.append_nil]
  | succ n ih =>
   intro i acc hi ha;have hlt:i<vars.length:=by omega
   rw [e157_0_1,List.drop_eq_getElem_cons hlt];have hb2:Nat.ble (acc.length+1) M63=true:=nb (by omega)
   have h6:=ih (i+1) (acc++[(vars[i],wordS)]) (by omega) (by simp; omega)
   simp only [List.map_append,List.map_cons,List.map_nil,VS.row] at h6;simp only [List.length_map,Int.ofNat_lt,hlt,decide_true,cond_true,inbN,Int.toNat_natCast,rowAt_map hlt,wrap_succ hlt (maxB (by omega)),sRow,nv0,nvS,dvI,dvB,dvS,dvL,Option.bind_some,List.length_cons,List.length_nil,Nat.zero_add,hb2,h6]
   simp only [wv,List.map_append,List.map_cons,List.append_assoc,List.cons_append,List.nil_append,VS.row]
 have h:=hl vars.length 0 [] (by omega) (Nat.zero_le _)
 simp only [List.drop_zero,Int.natCast_zero,List.map_nil,List.nil_append] at h;rw [e157_0_0];simp only [h,nv0,nvS,dvI,dvB,dvS,dvL,Option.bind_some,Nat.beq_refl,cond_true,cond_false]
theorem r86 (d:DfM) (hb:DfB d) (vars:List ByteArray) (hv:vars.length<=1048576) (hvs:∀ x∈vars,x.size<=maxLen) (t:Tm) (hw:Wt t) (hn:t.nodes<=1048577):rn ⟨86,0,0⟩ [.sl (d.so.map sRow),.sl (d.op.map OpM.row),.sl (d.ru.map RuM.row),.sl (d.st.map StM.row),.sl (vars.map sRow),.int t.k,.int t.n,.str t.s,.sl (t.as.map Tm.row),.sl []]=some (0,[.bool (symV d vars t)]):=by
 have hl1:∀ n i,i+n=vars.length->rn ⟨86,0,1⟩ [.sl (vars.map sRow),.int (vars.length:Int),.int (i:Int),.sl (d.so.map sRow),.sl (d.op.map OpM.row),.sl (d.ru.map RuM.row),.sl (d.st.map StM.row),.sl (vars.map sRow),.int t.k,.int t.n,.str t.s,.sl (t.as.map Tm.row),.sl []]=bif (vars.drop i).all isVr then some (0,[.sl (d.so.map sRow),.sl (d.op.map OpM.row),.sl (d.ru.map RuM.row),.sl (d.st.map StM.row),.sl (vars.map sRow),.int t.k,.int t.n,.str t.s,.sl (t.as.map Tm.row),.sl []]) else some (1,[]):=by
  intro n;induction n with
  | zero =>
   intro i hi;obtain rfl:i=vars.length:=by omega
   rw [e86_0_1];simp only [List.length_map,Int.ofNat_lt,Nat.lt_irrefl,decide_false,cond_false,List.drop_length,List.all_nil,cond_true]
  | succ n ih =>
   intro i hi;have hlt:i<vars.length:=by omega
   rw [e86_0_1,List.drop_eq_getElem_cons hlt];have h1:=r164 vars[i] (hvs _ (List.getElem_mem hlt));simp only [List.length_map,Int.ofNat_lt,hlt,decide_true,cond_true,inbN,Int.toNat_natCast,rowAt_map hlt,wrap_succ hlt (maxB (by omega)),sRow,nv0,nvS,dvI,dvB,dvS,dvL,Option.bind_some,h1,ih (i+1) (by omega),List.all_cons]
   cases isVr vars[i] <;> rfl
 have h1:=hl1 vars.length 0 (by omega)
 simp only [List.drop_zero,Int.natCast_zero] at h1;have hl3:∀ a b c:Rows,∀ k n:Int,∀ s:ByteArray,rn ⟨86,0,3⟩ [.sl [],.int 0,.int 0,.sl a,.int k,.int n,.str s,.sl b,.sl c]=some (0,[]):=fun a b c k n s=>by
  rw [e86_0_3]; rfl
 have h2:=r162 d hb;have h3:=r163 vars hv;have h4:=r165 t (by omega) hw
 have h5:=r166 t hn vars (maxB (by omega))
 have h6:=r168 vars hv;have h7:=r167 (d.so.map sRow) d.op hb.op (wv vars) (by unfold wv; rw [List.length_map]; omega) t hw
 rw [e86_0_0];simp only [List.length_map,h2,h3,nv0,nvS,dvI,dvB,dvS,dvL,Option.bind_some];unfold symV;cases d.valid
 · rfl
 · by_cases q1:vars.length<=3
   · have q1':¬((3:Int)<(vars.length:Int)):=by omega
     simp only [q1,q1',decide_true,decide_false,cond_false,Bool.true_and,Bool.not_true];cases dis vars
     · rfl
     · simp only [Bool.not_true,cond_false,h1,Bool.true_and]
       cases vars.all isVr
       · rfl
       · simp only [cond_true,nv0,nvS,dvI,dvB,dvS,dvL,Option.bind_some,Nat.beq_refl,cond_true,cond_false,h4,h5,h6,h7,Bool.true_and]
         cases t.valid
         · rfl
         · cases within t vars
           · rfl
           · by_cases q2:sortT d.op (wv vars) t=e0
             · simp [q2]
             · simp only [q2,Bool.not_true,Bool.not_false,cond_false,decide_false,List.length_nil,Int.natCast_zero,hl3,nv0,nvS,dvI,dvB,dvS,dvL,Option.bind_some,Nat.beq_refl,cond_true,cond_false,Bool.true_and]
   · have q1':((3:Int)<(vars.length:Int)):=by omega
     simp [q1,q1']
theorem r151 (vars:List ByteArray) (hv:vars.length<=1048576) (hvs:∀ x∈vars,x.size<=maxLen):rn ⟨151,0,0⟩ [.sl (vars.map sRow)]=some (0,[.bool (decide (vars.length<=3)&&(dis vars&&vars.all isVr))]):=by
 have hl1:∀ n i,i+n=vars.length->rn ⟨151,0,1⟩ [.sl (vars.map sRow),.int (i:Int)]=bif (vars.drop i).all isVr then some (0,[.sl (vars.map sRow)]) else some (1,[]):=by
  intro n;induction n with
  | zero =>
   intro i hi;obtain rfl:i=vars.length:=by omega
   rw [e151_0_1];simp only [List.length_map,Int.ofNat_lt,Nat.lt_irrefl,decide_false,cond_false,List.drop_length,List.all_nil,cond_true]
  | succ n ih =>
   intro i hi;have hlt:i<vars.length:=by omega
   rw [e151_0_1,List.drop_eq_getElem_cons hlt];have h1:=r231 vars[i] (hvs _ (List.getElem_mem hlt));simp only [List.length_map,Int.ofNat_lt,hlt,decide_true,cond_true,inbN,Int.toNat_natCast,rowAt_map hlt,wrap_succ hlt (maxB (by omega)),sRow,nv0,nvS,dvI,dvB,dvS,dvL,Option.bind_some,h1,ih (i+1) (by omega),List.all_cons]
   cases isVr vars[i] <;> rfl
 have h1:=hl1 vars.length 0 (by omega)
 simp only [List.drop_zero,Int.natCast_zero] at h1;have h3:=r229 vars (maxB (by omega))
 have i1:((vars.length:Int)<=3)↔vars.length<=3:=by omega
 rw [e151_0_0,h1];cases vars.all isVr with
 | false=>cases decide (vars.length<=3) <;> cases dis vars <;> rfl
 | true =>
  simp only [cond_true,nv0,nvS,dvI,dvB,dvS,dvL,Option.bind_some,Nat.beq_refl,cond_true,cond_false,List.length_map,i1,h3,Bool.and_true];cases decide (vars.length<=3) <;> rfl
theorem r79 (d:DfM) (hb:DfB d) (vars:List ByteArray) (hv:vars.length<=1048576) (hvs:∀ x∈vars,x.size<=maxLen) (t:Tm) (hw:Wt t) (hn:t.nodes<=1048577):rn ⟨79,0,0⟩ [.sl (d.so.map sRow),.sl (d.op.map OpM.row),.sl (d.ru.map RuM.row),.sl (d.st.map StM.row),.sl (vars.map sRow),.int t.k,.int t.n,.str t.s,.sl (t.as.map Tm.row),.sl []]=some (0,[.bool (symV d vars t)]):=by
 have hl1:∀ a:List D,rn ⟨79,0,1⟩ [.int 0,.sl (d.so.map sRow),.sl (d.op.map OpM.row),.sl (d.ru.map RuM.row),.sl (d.st.map StM.row),.sl (vars.map sRow),.int t.k,.int t.n,.str t.s,.sl (t.as.map Tm.row),.sl []]=some (0,[.sl (d.so.map sRow),.sl (d.op.map OpM.row),.sl (d.ru.map RuM.row),.sl (d.st.map StM.row),.sl (vars.map sRow),.int t.k,.int t.n,.str t.s,.sl (t.as.map Tm.row),.sl []]):=fun _=>by
  rw [e79_0_1]; rfl
 have h1:=hl1 [];have h2:=r150 d hb;have h3:=r151 vars hv hvs;have h4:=r152 t (by omega) hw
 have hnt:=names_nodes t;have hsl:=srtN_len t.names;have h5:=r154 t hn;have h5':=r153 (srtN t.names) vars (by omega) (maxB (by omega))
 have h6:=r157 vars hv;have h7:=r156 (d.so.map sRow) d.op hb.op (wv vars) (by unfold wv; rw [List.length_map]; omega) t hw
 rw [e79_0_0];simp only [List.length_map,h1,h2,h3,h4,h5,h5',h6,h7,nv0,nvS,dvI,dvB,dvS,dvL,Option.bind_some,Nat.beq_refl,cond_true,cond_false];unfold symV;cases d.valid <;> try rfl
 cases decide (vars.length<=3) <;> try rfl
 cases dis vars <;> try rfl
 cases vars.all isVr <;> try rfl
 cases t.valid <;> try rfl
 have hw:=wo_srt' t vars;cases hw2:within t vars with
 | true =>
  rw [hw2] at hw;have:(wo (srtN t.names) vars).length=0:=hw.2 rfl;simp [this]
 | false =>
  rw [hw2] at hw;have:¬(wo (srtN t.names) vars).length=0:=fun h=>by have:=hw.1 h; simp at this
  have:0<(wo (srtN t.names) vars).length:=by omega
  simp [this]
theorem r210 (c:ClM) (hb:ClB c):rn ⟨210,0,0⟩ c.row=some (0,[.bool c.valid]):=by
 unfold ClM.row;have h1:=r86 c.d hb.d c.v hb.v hb.vs c.l hb.wl hb.ln;have h2:=r86 c.d hb.d c.v hb.v hb.vs c.r hb.wr hb.rn;have h3:=r168 c.v hb.v;have hv:=hb.v;have hl:(wv c.v).length<=1099511627776:=by unfold wv; rw [List.length_map]; omega
 have h4:=r167 (c.d.so.map sRow) c.d.op hb.d.op (wv c.v) hl c.l hb.wl;have h5:=r167 (c.d.so.map sRow) c.d.op hb.d.op (wv c.v) hl c.r hb.wr;have h6:=r288 (c.d.so.map sRow) c.d.op hb.d.op (wv c.v) hl c.v (maxB (by omega)) (wv_names c.v) c.g hb.g hb.ga
 rw [e210_0_0];simp only [h1,h2,h3,h4,h5,h6,nv0,nvS,dvI,dvB,dvS,dvL,Option.bind_some];unfold ClM.valid;cases symV c.d c.v c.l <;> try rfl
 cases symV c.d c.v c.r <;> try rfl
 cases decide (sortT c.d.op (wv c.v) c.l=sortT c.d.op (wv c.v) c.r) <;> rfl
theorem r202 (c:ClM) (hb:ClB c):rn ⟨202,0,0⟩ c.row=some (0,[.bool c.valid]):=by
 unfold ClM.row;have h1:=r79 c.d hb.d c.v hb.v hb.vs c.l hb.wl hb.ln;have h2:=r79 c.d hb.d c.v hb.v hb.vs c.r hb.wr hb.rn;have h3:=r157 c.v hb.v;have hv:=hb.v;have hg:=hb.g;have hl:(wv c.v).length<=1099511627776:=by unfold wv; rw [List.length_map]; omega
 have h4:=r156 (c.d.so.map sRow) c.d.op hb.d.op (wv c.v) hl c.l hb.wl;have h5:=r156 (c.d.so.map sRow) c.d.op hb.d.op (wv c.v) hl c.r hb.wr;have hlp:∀ n i,i+n=c.g.length->rn ⟨202,0,1⟩ (.int (i:Int)::(c.row++[.sl ((wv c.v).map VS.row)]))=bif (c.g.drop i).all (guOK c.d.op (wv c.v)) then some (0,c.row++[.sl ((wv c.v).map VS.row)]) else some (1,[]):=by
  unfold ClM.row;simp only [List.cons_append,List.nil_append];intro n;induction n with
  | zero =>
   intro i hi;obtain rfl:i=c.g.length:=by omega
   rw [e202_0_1];simp only [List.length_map,Int.ofNat_lt,Nat.lt_irrefl,decide_false,cond_false,List.drop_length,List.all_nil,cond_true]
  | succ n ih =>
   intro i hi;have hlt:i<c.g.length:=by omega
   rw [e202_0_1,List.drop_eq_getElem_cons hlt];have h1:=r279 (c.d.so.map sRow) c.d.op hb.d.op (wv c.v) hl c.g[i] (hb.ga _ (List.getElem_mem hlt));simp only [List.length_map,Int.ofNat_lt,hlt,decide_true,cond_true,inbN,Int.toNat_natCast,rowAt_map hlt,wrap_succ hlt (maxB (by omega)),Gu.row,nv0,nvS,dvI,dvB,dvS,dvL,Option.bind_some,h1,ih (i+1) (by omega),List.all_cons]
   cases guOK c.d.op (wv c.v) c.g[i] <;> simp
 have h6:=hlp c.g.length 0 (by omega)
 unfold ClM.row at h6;simp only [List.drop_zero,Int.natCast_zero,List.cons_append,List.nil_append] at h6;rw [e202_0_0];simp only [h1,h2,h3,h6,nv0,nvS,dvI,dvB,dvS,dvL,Option.bind_some,List.length_map];unfold ClM.valid gusOK;cases symV c.d c.v c.l <;> try rfl
 cases symV c.d c.v c.r <;> try rfl
 by_cases q:c.g.length<=2
 · have q':¬((2:Int)<(c.g.length:Int)):=by omega
   simp only [q,q',decide_true,decide_false,cond_false,Bool.not_true,Bool.true_and,Bool.and_true];cases c.g.all (guOK c.d.op (wv c.v)) with
   | false=>simp only [Bool.and_false]; rfl
   | true=>simp only [cond_true,nv0,nvS,dvI,dvB,dvS,dvL,Option.bind_some,Nat.beq_refl,cond_true,cond_false,h4,h5,Bool.and_true]
 · have q':((2:Int)<(c.g.length:Int)):=by omega
   simp [q,q']
end Go.Q.S
