/- The functions of this seat, as that machine runs them. -/
import Derived.Test.YtnjedojmdcpcaaaGreatfP24
import Derived.Test.YtnjedojmdcpcaaaGreatMA
set_option linter.unusedVariables false
set_option linter.unusedSimpArgs false
namespace Go.Q.S
open Go Go.Q Go.Proofs
theorem r349 (l:List Bnd) (hl:l.length<=1048576) (hs:∀ b∈l,Small b.2) (s:ByteArray):rn ⟨349,0,0⟩ [.sl (l.map Bnd.row),.str s]=match bnd l s with
 | some t=>some (0,[.int t.k,.int t.n,.str t.s,.bool true,.sl (t.as.map Tm.row)])
 | none=>some (0,[.int 0,.int 0,.str ⟨#[]⟩,.bool false,.sl []]):=by
 have hb:=r276 l hl s;rw [e349_0_0,hb];cases hq:bnd l s with
 | some t =>
  obtain ⟨b,hbm,rfl⟩:=bnd_mem hq;have hc:=r259 b.2 (hs b hbm);simp only [nv0,nvS,dvI,dvB,dvS,dvL,Option.bind_some,hc]
 | none =>
  have hc:=r259 tm0 (small_word ..);have hc':rn ⟨259,0,0⟩ [.int 0,.int 0,.str ⟨#[]⟩,.sl []]=_:=hc;simp only [nv0,nvS,dvI,dvB,dvS,dvL,Option.bind_some,hc'];rfl
theorem r335 (l:List Bnd) (hl:l.length<=1048576) (hs:∀ b∈l,Small b.2) (ns:List ByteArray) (hn:ns.length<=1048577):rn ⟨335,0,0⟩ [.sl (l.map Bnd.row),.sl (ns.map sRow)]=some (0,[.sl ((rsB l (srtN ns)).map Bnd.row)]):=by
 have h1:=r246 ns (by omega)
 have hsl:=srtN_len ns;rw [e335_0_0,h1];generalize srtN ns=ms at hsl ⊢;have key:∀ n i (acc:List Bnd),i+n=ms.length->acc.length<=i->rn ⟨335,0,1⟩ [.sl (l.map Bnd.row),.int (ms.length:Int),.int (i:Int),.sl (acc.map Bnd.row),.sl (ms.map sRow)]=some (0,[.sl ((acc++rsB l (ms.drop i)).map Bnd.row)]):=by
  intro n;induction n with
  | zero =>
   intro i acc hi ha;obtain rfl:i=ms.length:=by omega
   rw [e335_0_1];simp only [List.length_map,Int.ofNat_lt,Nat.lt_irrefl,decide_false,cond_false,List.drop_length,rsB,List.filterMap_nil,List.append_nil]
  | succ n ih =>
   intro i acc hi ha;have hlt:i<ms.length:=by omega
   rw [e335_0_1,List.drop_eq_getElem_cons hlt,rsB_cons];have hbd:=r349 l hl hs ms[i];have hb2:Nat.ble (acc.length+1) M63=true:=nb (by omega)
   simp only [List.length_map,Int.ofNat_lt,hlt,decide_true,cond_true,inbN,Int.toNat_natCast,rowAt_map hlt,wrap_succ hlt (maxB (by omega)),sRow,nv0,nvS,dvI,dvB,dvS,dvL,Option.bind_some,hbd]
   cases hq:bnd l ms[i] with
   | none =>
    have h2:=ih (i+1) acc (by omega) (by omega)
    simp only [nv0,nvS,dvI,dvB,dvS,dvL,Option.bind_some,cond_false,h2]
   | some v =>
    have h2:=ih (i+1) (acc++[(ms[i],v)]) (by omega) (by simp; omega)
    simp only [List.map_append,List.map_cons,List.map_nil,bd_row,sRow] at h2;simp only [nv0,nvS,dvI,dvB,dvS,dvL,Option.bind_some,cond_true,List.length_cons,List.length_nil,Nat.zero_add,hb2,h2,List.map_append,List.map_cons,List.append_assoc,List.cons_append,List.nil_append,bd_row]
 have h:=key ms.length 0 [] (by omega) (Nat.zero_le _)
 simp only [Int.natCast_zero,List.map_nil,List.drop_zero,List.nil_append] at h;simp only [List.length_map,h,nv0,nvS,dvI,dvB,dvS,dvL,Option.bind_some,Nat.beq_refl,cond_true,cond_false]
theorem r336 (t:Tm) (h:t.nodes<=1048577):rn ⟨336,0,0⟩ [.int t.k,.int t.n,.str t.s,.sl (t.as.map Tm.row)]=some (0,[.sl ((srtN t.names).map sRow)]):=by
 have h1:=r252 t h;have hnl:=names_nodes t;have h2:=r246 t.names (by omega)
 rw [e336_0_0];simp only [h1,nv0,nvS,dvI,dvB,dvS,dvL,Option.bind_some,h2]
theorem r299 (t u:Tm) (ht:t.nodes<=1048576) (hu:Small u):rn ⟨299,0,0⟩ [.int t.k,.int t.n,.str t.s,.sl (t.as.map Tm.row),.int u.k,.int u.n,.str u.s,.sl (u.as.map Tm.row)]=some (0,foI ((mT t u []).map (rsl t)) []):=by
 have h1:=mI1 t u [] hu (by simp) (by simpa using ht)
 have h3:=r336 t (by omega)
 have hnl:=names_nodes t;have hsl:=srtN_len t.names;rw [e299_0_0];simp only [List.map_nil] at h1;rw [h1];cases hq:mT t u [] with
 | none=>simp only [foI,nv0,nvS,dvI,dvB,dvS,dvL,Option.bind_some,Option.map_none]; rfl
 | some l =>
  have hls:=mT_all Small (fun t a h ha=>h.sub ha) t u [] l hu (by simp) hq
  have hln:=mT_len _ _ _ _ hq;simp only [List.length_nil] at hln;have h4:=r335 l (by omega) hls (srtN t.names) (by omega)
  simp only [foI,nv0,nvS,dvI,dvB,dvS,dvL,Option.bind_some,Nat.beq_refl,cond_true,cond_false,Bool.not_true,h3,h4,Option.map_some,rsl]
theorem rsl_ok {t u:Tm} {l:List Bnd} (ht:t.nodes<=1048576) (hu:Small u) (h:mT t u []=some l):(rsl t l).length<=1048576/\∀ b∈rsl t l,Small b.2:=by
 have hls:=mT_all Small (fun t a h ha=>h.sub ha) t u [] l hu (by simp) h
 have h1:=srtN_len t.names;have h2:=srtN_len (srtN t.names);have h3:=names_nodes t;refine ⟨Nat.le_trans (List.length_filterMap_le ..) (by omega),fun b hb=>hls _ (rsB_memp hb).2⟩
theorem r223 (cs:List ClM) (hcs:∀ c∈cs,ClB c) (hln:∀ c∈cs,c.l.nodes<=60) (hcl:cs.length<=1048576) (j:Nat) (hj:j<cs.length) (t:Tm) (ht:Small t) (cl op:List Int) (hl:op.length<=1048576) (hk:∀ k∈op,isC cs[j].v.length k=true):rn ⟨223,0,0⟩ [.sl (cs.map cRow),.int (j:Int),.sl (cs[j].v.map sRow),.int t.k,.int t.n,.str t.s,.sl (t.as.map Tm.row),.sl (cl.map iRow),.sl (op.map iRow)]=some (0,circD (cirF cs[j] t op cs 0)):=by
 have hgu:∀ c∈cs,∀ q∈c.g,q.ok:=fun c hc q hq=>⟨((hcs c hc).ga q hq).ln,((hcs c hc).ga q hq).rn⟩
 have hg:=hcs _ (List.getElem_mem hj);have hin:∀ (i:Nat) (hi:i<cs.length) (sub:List Bnd),sub.length<=1048576->(∀ b∈sub,Small b.2)->∀ n m (ok:Bool),m+n=op.length->rn ⟨223,0,3⟩ [.sl (cs.map cRow),.int (j:Int),.sl (op.map iRow),.int (i:Int),.bool ok,.sl (cs.map cRow),.int (cs.length:Int),.int (i:Int),.sl (op.map iRow),.int (op.length:Int),.int (m:Int),.sl (cs[j].v.map sRow),.int t.k,.int t.n,.str t.s,.sl (t.as.map Tm.row),.sl (cl.map iRow),.int 0,.int 0,.sl (cs[i].v.map sRow),.int (cs[i].l).k,.int (cs[i].l).n,.str (cs[i].l).s,.sl ((cs[i].l).as.map Tm.row),.int (cs[i].r).k,.int (cs[i].r).n,.str (cs[i].r).s,.sl ((cs[i].r).as.map Tm.row),.sl (cs[i].g.map Gu.row),.sl (sub.map Bnd.row),.sl [],.sl []]=some (0,[.sl (cs.map cRow),.int (j:Int),.sl (op.map iRow),.int (i:Int),.bool (ok&&(op.drop m).all (mapB cs[i] sub cs[j] t)),.sl (cs.map cRow),.int (cs.length:Int),.int (i:Int),.sl (cs[j].v.map sRow),.int t.k,.int t.n,.str t.s,.sl (t.as.map Tm.row),.sl (cl.map iRow),.int 0,.int 0,.sl (sub.map Bnd.row),.sl [],.sl []]):=by
  intro i hi sub hs1 hs2 n;induction n with
  | zero =>
   intro m ok hm;obtain rfl:m=op.length:=by omega
   rw [e223_0_3];simp only [List.length_map,Int.ofNat_lt,Nat.lt_irrefl,decide_false,cond_false,List.drop_length,List.all_nil,Bool.and_true]
  | succ n ih =>
   intro m ok hm;have hlt:m<op.length:=by omega
   rw [List.drop_eq_getElem_cons hlt,List.all_cons,e223_0_3];have h1:=r212 cs[i] (hcs _ (List.getElem_mem hi)) sub hs1 hs2 cs[j] hg t ht cl op[m] (hk _ (List.getElem_mem hlt)) (hgu _ (List.getElem_mem hi));cases ok with
   | false =>
    have h2:=ih (m+1) false (by omega)
    simp only [List.length_map,Int.ofNat_lt,hlt,decide_true,cond_true,inbN,Int.toNat_natCast,rowAt_map hlt,wrap_succ hlt (maxB (by omega)),cond_false,h2,Bool.false_and]
   | true =>
    have h2:=ih (m+1) (mapB cs[i] sub cs[j] t op[m]) (by omega)
    simp only [List.length_map,Int.ofNat_lt,hlt,decide_true,cond_true,inbN,Int.toNat_natCast,rowAt_map hlt,wrap_succ hlt (maxB (by omega)),hj,rowAt_map hj,cRow,iRow,nv0,nvS,dvI,dvB,dvS,dvL,Option.bind_some,h1,h2,Bool.true_and]
 have hlp:∀ n i,i+n=cs.length->rn ⟨223,0,1⟩ [.sl (cs.map cRow),.int (j:Int),.sl (op.map iRow),.sl (cs.map cRow),.int (cs.length:Int),.int (i:Int),.sl (cs[j].v.map sRow),.int t.k,.int t.n,.str t.s,.sl (t.as.map Tm.row),.sl (cl.map iRow),.int 0,.int 0,.sl [],.sl []]=match cirF cs[j] t op (cs.drop i) i with
  | some x=>some (1,[.int x.k,.int x.c,.sl (x.nx.map iRow),.sl (x.s.map Bnd.row)])
  | none=>some (0,[.int 0,.int 0,.sl [],.sl []]):=by
  intro n;induction n with
  | zero =>
   intro i hi;obtain rfl:i=cs.length:=by omega
   rw [e223_0_1];simp only [List.length_map,Int.ofNat_lt,Nat.lt_irrefl,decide_false,cond_false,List.drop_length,cirF]
  | succ n ih =>
   intro i hi;have hlt:i<cs.length:=by omega
   have hci:=List.getElem_mem hlt;have h1:=r299 cs[i].l t (by have:=hln _ hci; omega) ht
   have h0:=ih (i+1) (by omega)
   rw [List.drop_eq_getElem_cons hlt,e223_0_1];simp only [List.length_map,Int.ofNat_lt,hlt,decide_true,cond_true,inbN,Int.toNat_natCast,rowAt_map hlt,wrap_succ hlt (maxB (by omega)),cRow,nv0,nvS,dvI,dvB,dvS,dvL,Option.bind_some,h1,cirF]
   cases hq:mT cs[i].l t [] with
   | none =>
    have h2:=hin i hlt [] (by simp) (by simp) op.length 0 false (Nat.zero_add _)
    simp only [Int.natCast_zero,List.map_nil,Bool.false_and] at h2;simp only [Option.map_none,foI,nv0,nvS,dvI,dvB,dvS,dvL,Option.bind_some,h2,Nat.beq_refl,cond_true,cond_false,wrap_succ hlt (maxB (by omega)),h0]
   | some l =>
    obtain ⟨q1,q2⟩:=rsl_ok (by have:=hln _ hci; omega) ht hq
    have h2:=hin i hlt (rsl cs[i].l l) q1 q2 op.length 0 true (Nat.zero_add _);simp only [Int.natCast_zero,Bool.true_and,List.drop_zero] at h2;simp only [Option.map_some,foI,nv0,nvS,dvI,dvB,dvS,dvL,Option.bind_some,h2,Nat.beq_refl,cond_true,cond_false,wrap_succ hlt (maxB (by omega)),h0]
    cases op.all (mapB cs[i] (rsl cs[i].l l) cs[j] t) <;> rfl
 have h1:=hlp cs.length 0 (Nat.zero_add _);simp only [Int.natCast_zero,List.drop_zero] at h1;rw [e223_0_0];simp only [List.length_map,h1];cases cirF cs[j] t op cs 0 <;> rfl
theorem r222 (cs:List ClM) (hcs:∀ c∈cs,ClB c) (hln:∀ c∈cs,c.l.nodes<=60) (hcl:cs.length<=1048576) (j:Nat) (hj:j<cs.length) (t:Tm) (ht:Small t) (op:List Int) (hl:op.length<=1048576) (hk:∀ k∈op,isC cs[j].v.length k=true):rn ⟨222,0,0⟩ [.sl (cs.map cRow),.int (j:Int),.sl (cs[j].v.map sRow),.int t.k,.int t.n,.str t.s,.sl (t.as.map Tm.row),.sl (op.map iRow)]=some (0,circD (cirF cs[j] t op cs 0)):=by
 have hgu:∀ c∈cs,∀ q∈c.g,q.ok:=fun c hc q hq=>⟨((hcs c hc).ga q hq).ln,((hcs c hc).ga q hq).rn⟩
 have hlp:∀ n i,i+n=cs.length->rn ⟨222,0,1⟩ [.sl (cs.map cRow),.int (j:Int),.int (i:Int),.sl (cs[j].v.map sRow),.int t.k,.int t.n,.str t.s,.sl (t.as.map Tm.row),.sl (op.map iRow),.int 0,.int 0,.sl [],.sl []]=match cirF cs[j] t op (cs.drop i) i with
  | some x=>some (1,[.int x.k,.int x.c,.sl (x.nx.map iRow),.sl (x.s.map Bnd.row)])
  | none=>some (0,[.int 0,.int 0,.sl [],.sl []]):=by
  intro n;induction n with
  | zero =>
   intro i hi;obtain rfl:i=cs.length:=by omega
   rw [e222_0_1];simp only [List.length_map,Int.ofNat_lt,Nat.lt_irrefl,decide_false,cond_false,List.drop_length,cirF]
  | succ n ih =>
   intro i hi;have hlt:i<cs.length:=by omega
   have hci:=List.getElem_mem hlt;have h1:=r298 cs[i].l t (by have:=hln _ hci; omega) ht
   have h0:=ih (i+1) (by omega)
   rw [List.drop_eq_getElem_cons hlt,e222_0_1];simp only [List.length_map,Int.ofNat_lt,hlt,decide_true,cond_true,inbN,Int.toNat_natCast,rowAt_map hlt,wrap_succ hlt (maxB (by omega)),cRow,nv0,nvS,dvI,dvB,dvS,dvL,Option.bind_some,h1,cirF]
   cases hq:mT cs[i].l t [] with
   | none=>simp only [Option.map_none,foI,nv0,nvS,dvI,dvB,dvS,dvL,Option.bind_some,cond_false,h0]
   | some l =>
    obtain ⟨q1,q2⟩:=rsl_ok (by have:=hln _ hci; omega) ht hq
    have h2:=r204 cs hcs hgu hcl j hj ⟨3,[],(i:Int),rsl cs[i].l l⟩ ⟨Nat.zero_le _,q1,q2⟩ t ht op hl hk;simp only [clAt_nat hlt,List.map_nil] at h2;unfold rsl at h2 ⊢;simp only [Option.map_some,foI,nv0,nvS,dvI,dvB,dvS,dvL,Option.bind_some,h2,cond_true];cases op.all (mapB cs[i] (rsB l (srtN (srtN cs[i].l.names))) cs[j] t) with
    | true=>rfl
    | false=>simp only [cond_false,h0,Bool.false_eq_true,if_false]
 have h1:=hlp cs.length 0 (Nat.zero_add _);simp only [Int.natCast_zero,List.drop_zero] at h1;rw [e222_0_0];simp only [h1];cases cirF cs[j] t op cs 0 <;> rfl
theorem fndI (d:DfM) (hd:DfB d) (cs:List ClM) (hcs:∀ c∈cs,ClB c) (hln:∀ c∈cs,c.l.nodes<=60) (hcl:cs.length<=1048576) (j:Nat) (hj:j<cs.length):∀ (r:Nat) (t:Tm) (cl:List Int) (P:List PnM),r<=12->P.length<=60->StG d cs[j].v t cl →
 ∃ X:Rows,rn ⟨140,0,0⟩ [.sl (d.so.map sRow),.sl (d.op.map OpM.row),.sl (d.ru.map RuM.row),.sl (d.st.map StM.row),.sl (cs.map cRow),.int (j:Int),.sl (cs[j].v.map sRow),.int t.k,.int t.n,.str t.s,.sl (t.as.map Tm.row),.sl (cl.map iRow),.bool (decide (r<12)),.int ((12-r:Nat):Int),.sl (P.map PnM.row)]=match fnd d cs cs[j] r P.length t cl with
  | some n=>some (0,[.bool true,.sl ((P++n).map PnM.row)])
  | none=>some (0,[.bool false,.sl X]):=by
 have hg:=hcs _ (List.getElem_mem hj);intro r;induction r with
 | zero =>
  intro t cl P hr hP hs;have hsm:=small_of t (by have:=hs.n; omega)
  have hci:=incC_isC cl none hs.c;have h1:=opI cs[j] hg t hsm cl (by have:=hs.l; omega) hci
  have hso:StG d cs[j].v t (opC cs[j] t cl):=hs.op (List.filter_sublist);have hol:=hso.l;have h2:=r223 cs hcs hln hcl j hj t hsm cl (opC cs[j] t cl) (by omega) (incC_isC _ none hso.c)
  have b61:Nat.ble (P.length+1) M63=true:=b63 (by omega)
  rw [e140_0_0];simp only [List.length_map,inbN,hj,decide_true,cond_true,Int.toNat_natCast,rowAt_map hj,cRow,nv0,nvS,dvI,dvB,dvS,dvL,Option.bind_some,h1,fnd];by_cases e60:P.length=60
  · have e:((P.length:Int)=60):=by omega
    rw [fndP_60 e60];exact ⟨_,by simp only [e,decide_true,cond_true]; rfl⟩
  have e:¬((P.length:Int)=60):=by omega
  simp only [e,decide_false,cond_false];by_cases e0:(opC cs[j] t cl).length=0
  · rw [fndP_0 e60 e0]
    exact ⟨[],by simp only [e0,Int.natCast_zero,decide_true,cond_true,List.length_cons,List.length_nil,Nat.zero_add,b61,List.map_append,List.map_cons,List.map_nil,PnM.row]⟩
  have e0':¬(((opC cs[j] t cl).length:Int)=0):=by omega
  have e12:((12:Int)<=((12-0:Nat):Int)):=by decide
  simp only [e0',decide_false,cond_false,show decide ((0:Nat)<12)=true from rfl,cond_true,h2]
  cases cirF cs[j] t (opC cs[j] t cl) cs 0 with
  | some x =>
   rw [fndP_x e60 e0];exact ⟨[],by simp only [circD,nv0,nvS,dvI,dvB,dvS,dvL,Option.bind_some,cond_true,List.length_cons,List.length_nil,Nat.zero_add,b61,List.map_append,List.map_cons,List.map_nil,PnM.row]⟩
  | none =>
   rw [fndP_k e60 e0];exact ⟨_,by simp only [circD,nv0,nvS,dvI,dvB,dvS,dvL,Option.bind_some,cond_false,e12,decide_true,cond_true]; rfl⟩
 | succ r ih =>
  intro t cl P hr hP hs;have hsm:=small_of t (by have:=hs.n; omega)
  have hci:=incC_isC cl none hs.c;have h1:=opI cs[j] hg t hsm cl (by have:=hs.l; omega) hci
  have hso:StG d cs[j].v t (opC cs[j] t cl):=hs.op (List.filter_sublist);have hol:=hso.l;have h2:=r223 cs hcs hln hcl j hj t hsm cl (opC cs[j] t cl) (by omega) (incC_isC _ none hso.c)
  have h3:=r174 (cs[j].v.map sRow) (cl.map iRow) ((opC cs[j] t cl).map iRow) t hsm (by rw [List.length_map]; have:=hg.v; omega) (by rw [List.length_map]; omega)
  obtain ⟨s1,s2,s3⟩:=hso.sy hd hg;have h4:=r87 _ s1 s2;rw [s3] at h4;unfold SyM.row at h4;simp only at h4;have hmem:∀ b∈brF d cs[j].v t (opC cs[j] t cl) [],bK d t b.1=2->StG d cs[j].v (bT d t b.1) b.2:=fun b hb hk=>hso.next hd hb hk
  have hLl:(brF d cs[j].v t (opC cs[j] t cl) []).length<=64:=by
   have:=(brF_inv hd hso.w hso.s (P:=fun _=>True) (opC cs[j] t cl) 0 [] (fun c hc=>⟨incC_isC _ none hso.c c hc,trivial⟩) ⟨Nat.le_refl _,by simp⟩ (by simp) (by simp)).1.l
   omega
  have b61:Nat.ble (P.length+1) M63=true:=b63 (by omega)
  rw [e140_0_0];simp only [List.length_map,inbN,hj,decide_true,cond_true,Int.toNat_natCast,rowAt_map hj,cRow,nv0,nvS,dvI,dvB,dvS,dvL,Option.bind_some,h1,fnd];by_cases e60:P.length=60
  · have e:((P.length:Int)=60):=by omega
    rw [fndP_60 e60];exact ⟨_,by simp only [e,decide_true,cond_true]; rfl⟩
  have e:¬((P.length:Int)=60):=by omega
  simp only [e,decide_false,cond_false];by_cases e0:(opC cs[j] t cl).length=0
  · rw [fndP_0 e60 e0]
    exact ⟨[],by simp only [e0,Int.natCast_zero,decide_true,cond_true,List.length_cons,List.length_nil,Nat.zero_add,b61,List.map_append,List.map_cons,List.map_nil,PnM.row]⟩
  have e0':¬(((opC cs[j] t cl).length:Int)=0):=by omega
  have e12:¬((12:Int)<=((12-(r+1):Nat):Int)):=by omega
  simp only [e0',decide_false,cond_false];generalize brF d cs[j].v t (opC cs[j] t cl) []=L at hmem hLl h4 ⊢;have hL1:rn ⟨140,0,1⟩ [.sl (cs.map cRow),.int (j:Int),.int ((12-(r+1):Nat):Int),.int (P.length:Int),.int (L.length:Int),.int 0,.sl (d.so.map sRow),.sl (d.op.map OpM.row),.sl (d.ru.map RuM.row),.sl (d.st.map StM.row),.sl (L.map (brRow d cs[j].v t)),.sl (P.map PnM.row)]=bif L.all (fun b=>decide (bK d t b.1=2)) then some (0,[.sl (cs.map cRow),.int (j:Int),.int ((12-(r+1):Nat):Int),.int (P.length:Int),.sl (d.so.map sRow),.sl (d.op.map OpM.row),.sl (d.ru.map RuM.row),.sl (d.st.map StM.row),.sl (L.map (brRow d cs[j].v t)),.sl (P.map PnM.row)]) else some (1,[.sl (P.map PnM.row)]):=by
   have key:∀ n i,i+n=L.length->rn ⟨140,0,1⟩ [.sl (cs.map cRow),.int (j:Int),.int ((12-(r+1):Nat):Int),.int (P.length:Int),.int (L.length:Int),.int (i:Int),.sl (d.so.map sRow),.sl (d.op.map OpM.row),.sl (d.ru.map RuM.row),.sl (d.st.map StM.row),.sl (L.map (brRow d cs[j].v t)),.sl (P.map PnM.row)]=bif (L.drop i).all (fun b=>decide (bK d t b.1=2)) then some (0,[.sl (cs.map cRow),.int (j:Int),.int ((12-(r+1):Nat):Int),.int (P.length:Int),.sl (d.so.map sRow),.sl (d.op.map OpM.row),.sl (d.ru.map RuM.row),.sl (d.st.map StM.row),.sl (L.map (brRow d cs[j].v t)),.sl (P.map PnM.row)]) else some (1,[.sl (P.map PnM.row)]):=by
    intro n;induction n with
    | zero =>
     intro i hi;obtain rfl:i=L.length:=by omega
     rw [e140_0_1];simp only [List.length_map,Int.ofNat_lt,Nat.lt_irrefl,decide_false,cond_false,List.drop_length,List.all_nil,cond_true]
    | succ n ih2 =>
     intro i hi;have hlt:i<L.length:=by omega
     have h5:=ih2 (i+1) (by omega)
     rw [List.drop_eq_getElem_cons hlt,List.all_cons,e140_0_1];simp only [List.length_map,Int.ofNat_lt,hlt,decide_true,cond_true,inbN,Int.toNat_natCast,rowAt_map hlt,wrap_succ hlt (maxB (by omega)),brRow,nv0,nvS,dvI,dvB,dvS,dvL,Option.bind_some]
     cases decide (bK d t L[i].1=2) with
     | false=>rfl
     | true=>simp only [Bool.not_true,cond_false,Bool.true_and]; exact h5
   have:=key L.length 0 (Nat.zero_add _);simpa only [Int.natCast_zero,List.drop_zero] using this
  have hP1:P.map PnM.row++[[.int 2,.sl [],.int 0,.sl []]]=(P++[(⟨2,[],0,[]⟩:PnM)]).map PnM.row:=by rw [List.map_append]; rfl
  have hL3:L.all (fun b=>decide (bK d t b.1=2))=true->∃ Y:Rows,rn ⟨140,0,3⟩ [.sl (cs.map cRow),.int (j:Int),.int ((12-(r+1):Nat):Int),.int (P.length:Int),.int (L.length:Int),.int 0,.sl (d.so.map sRow),.sl (d.op.map OpM.row),.sl (d.ru.map RuM.row),.sl (d.st.map StM.row),.sl [],.sl (L.map (brRow d cs[j].v t)),.sl ((P++[(⟨2,[],0,[]⟩:PnM)]).map PnM.row)]=match chl (fnd d cs cs[j] r) d t L (P.length+1) with
   | some y=>some (0,[.int (P.length:Int),.sl (y.1.map iRow),.sl ((P++[(⟨2,[],0,[]⟩:PnM)]++y.2).map PnM.row)])
   | none=>some (1,[.sl Y]):=by
   intro hall;have key:∀ n i (N:List Int) (Q:List PnM),i+n=L.length->Q.length<=60->N.length<=i->∃ Y:Rows,rn ⟨140,0,3⟩ [.sl (cs.map cRow),.int (j:Int),.int ((12-(r+1):Nat):Int),.int (P.length:Int),.int (L.length:Int),.int (i:Int),.sl (d.so.map sRow),.sl (d.op.map OpM.row),.sl (d.ru.map RuM.row),.sl (d.st.map StM.row),.sl (N.map iRow),.sl (L.map (brRow d cs[j].v t)),.sl (Q.map PnM.row)]=match chl (fnd d cs cs[j] r) d t (L.drop i) Q.length with
    | some y=>some (0,[.int (P.length:Int),.sl ((N++y.1).map iRow),.sl ((Q++y.2).map PnM.row)])
    | none=>some (1,[.sl Y]):=by
    intro n;induction n with
    | zero =>
     intro i N Q hi hQ hN;obtain rfl:i=L.length:=by omega
     refine ⟨[],?_⟩;rw [e140_0_3];simp only [List.length_map,Int.ofNat_lt,Nat.lt_irrefl,decide_false,cond_false,List.drop_length,chl,List.append_nil]
    | succ n ih2 =>
     intro i N Q hi hQ hN;have hlt:i<L.length:=by omega
     have hk2:bK d t L[i].1=2:=by simpa using List.all_eq_true.1 hall _ (List.getElem_mem hlt)
     obtain ⟨X,h5⟩:=ih (bT d t L[i].1) L[i].2 Q (by omega) hQ (hmem _ (List.getElem_mem hlt) hk2)
     have hdt:decide (r<12)=true:=decide_eq_true (by omega)
     have hdd:IntKind.i64.wrap (((12-(r+1):Nat):Int)+1)=((12-r:Nat):Int):=by rw [IntWalk.i64_in _ (by omega)]; omega
     have b1:Nat.ble (N.length+1) M63=true:=b63 (by omega)
     rw [hdt] at h5;rw [List.drop_eq_getElem_cons hlt,e140_0_3];simp only [List.length_map,Int.ofNat_lt,hlt,decide_true,cond_true,inbN,Int.toNat_natCast,rowAt_map hlt,wrap_succ hlt (maxB (by omega)),brRow,nv0,nvS,dvI,dvB,dvS,dvL,Option.bind_some,List.length_cons,List.length_nil,Nat.zero_add,b1,hdd,h5,chl]
     cases hf:fnd d cs cs[j] r Q.length (bT d t L[i].1) L[i].2 with
     | none=>exact ⟨X,rfl⟩
     | some n1 =>
      have hq1:=fnd_len d cs cs[j] r _ _ _ n1 hQ hf;obtain ⟨Y,h6⟩:=ih2 (i+1) (N++[(Q.length:Int)]) (Q++n1) (by omega) (by rw [List.length_append]; omega) (by simp; omega)
      refine ⟨Y,?_⟩;rw [List.length_append] at h6;have e5:N.map iRow++[[.int (Q.length:Int)]]=(N++[(Q.length:Int)]).map iRow:=by rw [List.map_append]; rfl
      simp only [nv0,nvS,dvI,dvB,dvS,dvL,Option.bind_some,Bool.not_true,cond_false,e5,h6];cases chl (fnd d cs cs[j] r) d t (L.drop (i+1)) (Q.length+n1.length) with
      | none=>rfl
      | some y=>simp only [List.append_assoc,List.cons_append,List.nil_append]
   obtain ⟨Y,h5⟩:=key L.length 0 [] (P++[(⟨2,[],0,[]⟩:PnM)]) (Nat.zero_add _) (by simp; omega) (Nat.le_refl _)
   refine ⟨Y,?_⟩;simpa only [Int.natCast_zero,List.map_nil,List.drop_zero,List.nil_append,List.length_append,List.length_cons,List.length_nil,Nat.zero_add] using h5
  by_cases h12:r+1<12
  · simp only [h12,decide_true,cond_true,h2,if_true]
    cases cirF cs[j] t (opC cs[j] t cl) cs 0 with
    | some x =>
     rw [fndP_x e60 e0];exact ⟨[],by simp only [circD,nv0,nvS,dvI,dvB,dvS,dvL,Option.bind_some,cond_true,List.length_cons,List.length_nil,Nat.zero_add,b61,List.map_append,List.map_cons,List.map_nil,PnM.row]⟩
    | none =>
     rw [fndP_k e60 e0];simp only [circD,nv0,nvS,dvI,dvB,dvS,dvL,Option.bind_some,cond_false];simp only [e12,decide_false,cond_false,h3,nv0,nvS,dvI,dvB,dvS,dvL,Option.bind_some,h4,List.length_map,hL1];cases hall:L.all fun b=>decide (bK d t b.1=2) with
     | false=>exact ⟨_,by simp only [cond_false,nv0,nvS,dvI,dvB,dvS,dvL,Option.bind_some,Nat.beq_refl,cond_true,cond_false,Bool.false_eq_true,if_false]; rfl⟩
     | true =>
      obtain ⟨Y,hL3⟩:=hL3 hall;simp only [cond_true,nv0,nvS,dvI,dvB,dvS,dvL,Option.bind_some,Nat.beq_refl,cond_true,cond_false,List.length_cons,List.length_nil,List.length_map,Nat.zero_add,b61,if_true];rw [hP1,hL3];cases chl (fnd d cs cs[j] r) d t L (P.length+1) with
      | none=>exact ⟨Y,rfl⟩
      | some y =>
       have hib:P.length<(P++(⟨2,[],0,[]⟩:PnM)::y.2).length:=by simp
       refine ⟨[],?_⟩;simp only [nv0,nvS,dvI,dvB,dvS,dvL,Option.bind_some,Nat.beq_refl,cond_true,cond_false,mk2,List.append_assoc,List.cons_append,List.nil_append,inbN,List.length_map,hib,decide_true,cond_true,Int.toNat_natCast,pn_set1]
  · simp only [h12,decide_false,cond_false,if_false]
    rw [fndP_k e60 e0];simp only [e12,decide_false,cond_false,h3,nv0,nvS,dvI,dvB,dvS,dvL,Option.bind_some,h4,List.length_map,hL1];cases hall:L.all fun b=>decide (bK d t b.1=2) with
    | false=>exact ⟨_,by simp only [cond_false,nv0,nvS,dvI,dvB,dvS,dvL,Option.bind_some,Nat.beq_refl,cond_true,cond_false,Bool.false_eq_true,if_false]; rfl⟩
    | true =>
     obtain ⟨Y,hL3⟩:=hL3 hall;simp only [cond_true,nv0,nvS,dvI,dvB,dvS,dvL,Option.bind_some,Nat.beq_refl,cond_true,cond_false,List.length_cons,List.length_nil,List.length_map,Nat.zero_add,b61,if_true];rw [hP1,hL3];cases chl (fnd d cs cs[j] r) d t L (P.length+1) with
     | none=>exact ⟨Y,rfl⟩
     | some y =>
      have hib:P.length<(P++(⟨2,[],0,[]⟩:PnM)::y.2).length:=by simp
      refine ⟨[],?_⟩;simp only [nv0,nvS,dvI,dvB,dvS,dvL,Option.bind_some,Nat.beq_refl,cond_true,cond_false,mk2,List.append_assoc,List.cons_append,List.nil_append,inbN,List.length_map,hib,decide_true,cond_true,Int.toNat_natCast,pn_set1]
end Go.Q.S
