/- The functions of this seat, as that machine runs them. -/
import Derived.Test.YtnjedojmdcpcaaaGreatcvP22
import Derived.Test.YtnjedojmdcpcaaaGreatMA
set_option linter.unusedVariables false
set_option linter.unusedSimpArgs false
namespace Go.Q.S
open Go Go.Q Go.Proofs
theorem rgtI (d:DfM) (hd:DfB d) (cs:List ClM) (hcs:∀ c∈cs,ClB c) (hcl:cs.length<=1048576) (j:Nat) (hj:j<cs.length) (ns:List PnM) (hns:∀ n∈ns,PnB n) (hnl:ns.length<=1048576):∀ (f:Nat) (n:Int) (t:Tm) (cl:List Int) (st:Bool),(ns.length:Int)<=n+f->StG d cs[j].v t cl →
 rn ⟨130,0,0⟩ [.sl (d.so.map sRow),.sl (d.op.map OpM.row),.sl (d.ru.map RuM.row),.sl (d.st.map StM.row),.sl (cs.map cRow),.int (j:Int),.sl (ns.map PnM.row),.int n,.sl (cs[j].v.map sRow),.int t.k,.int t.n,.str t.s,.sl (t.as.map Tm.row),.sl (cl.map iRow),.bool st]=some (0,[.bool (rgt d cs cs[j] ns f n t cl st)]):=by
 have hg:=hcs _ (List.getElem_mem hj);have hgu:∀ c∈cs,∀ q∈c.g,q.ok:=fun c hc q hq=>⟨((hcs c hc).ga q hq).ln,((hcs c hc).ga q hq).rn⟩
 intro f;induction f with
 | zero =>
  intro n t cl st hf hs;have e1:¬ n<0:=by omega
  have e2:(ns.length:Int)<=n:=by omega
  rw [e130_0_0];simp only [e1,e2,decide_false,decide_true,cond_false,cond_true,List.length_map];rfl
 | succ f ih =>
  intro n t cl st hf hs;rw [e130_0_0];by_cases h0:n<0
  · have e:rgt d cs cs[j] ns (f+1) n t cl st=false:=by simp only [rgt,if_pos h0]
    rw [e];simp only [h0,decide_true,cond_true]
  obtain ⟨m,rfl⟩:∃ m:Nat,n=(m:Int):=⟨n.toNat,by omega⟩
  by_cases hm:m<ns.length
  case neg =>
   have e:rgt d cs cs[j] ns (f+1) (m:Int) t cl st=false:=by
    simp only [rgt,if_neg h0,Int.toNat_natCast,List.getElem?_eq_none (show ns.length<=m by omega)]
   have e2:(ns.length:Int)<=(m:Int):=by omega
   rw [e];simp only [h0,e2,decide_false,decide_true,cond_false,cond_true,List.length_map]
  have e2:¬(ns.length:Int)<=(m:Int):=by omega
  have hx:=hns _ (List.getElem_mem hm);have hsm:=small_of t (by have:=hs.n; omega)
  have hci:=incC_isC cl none hs.c;have h1:=opI cs[j] hg t hsm cl (by have:=hs.l; omega) hci
  have hso:StG d cs[j].v t (opC cs[j] t cl):=hs.op (List.filter_sublist);have hol:=hso.l;simp only [h0,e2,decide_false,cond_false,List.length_map,inbN,hj,hm,decide_true,cond_true,Int.toNat_natCast,rowAt_map hj,rowAt_map hm,cRow,PnM.row,nv0,nvS,dvI,dvB,dvS,dvL,Option.bind_some,h1];simp only [rgt,if_neg h0,Int.toNat_natCast,List.getElem?_eq_getElem hm];generalize hop:opC cs[j] t cl=op at hso hol ⊢;by_cases k1:ns[m].k=1
  · have e:decide ((op.length:Int)=0)=decide (op.length=0):=by by_cases q:op.length=0 <;> simp [q]
    simp only [k1,decide_true,cond_true,if_true,e]
  by_cases k2:ns[m].k=2
  · have h2:=r174 (cs[j].v.map sRow) (cl.map iRow) (op.map iRow) t hsm (by rw [List.length_map]; have:=hg.v; omega) (by rw [List.length_map]; omega)
    obtain ⟨s1,s2,s3⟩:=hso.sy hd hg;have h3:=r87 _ s1 s2;rw [s3] at h3;unfold SyM.row at h3;simp only at h3;have k2':¬(2:Int)=1:=by decide
    simp only [k2,k2',decide_false,decide_true,cond_false,cond_true,if_true,if_false,h2,nv0,nvS,dvI,dvB,dvS,dvL,Option.bind_some,h3];have hmem:∀ b∈brF d cs[j].v t op [],bK d t b.1=2->StG d cs[j].v (bT d t b.1) b.2:=fun b hb hk=>hso.next hd hb hk
    have hLl:(brF d cs[j].v t op []).length<=64:=by
     have:=(brF_inv hd hso.w hso.s (P:=fun _=>True) op 0 [] (fun c hc=>⟨incC_isC op none hso.c c hc,trivial⟩) ⟨Nat.le_refl _,by simp⟩ (by simp) (by simp)).1.l
     omega
    generalize brF d cs[j].v t op []=L at hmem hLl ⊢;by_cases hle:L.length=ns[m].nx.length
    case neg =>
     have e:¬((L.length:Int)=(ns[m].nx.length:Int)):=by omega
     simp only [List.length_map,e,hle,decide_false,Bool.not_false,cond_true,Bool.false_and]
    have e:((L.length:Int)=(ns[m].nx.length:Int)):=by omega
    have hlp:∀ n i,i+n=L.length->rn ⟨130,0,2⟩ [.sl (cs.map cRow),.int (j:Int),.int (m:Int),.int (L.length:Int),.int (i:Int),.sl (d.so.map sRow),.sl (d.op.map OpM.row),.sl (d.ru.map RuM.row),.sl (d.st.map StM.row),.sl (ns.map PnM.row),.int 2,.sl (ns[m].nx.map iRow),.int ns[m].c,.sl (ns[m].s.map Bnd.row),.sl (L.map (brRow d cs[j].v t))]=bif allZ (fun (b:Bk × List Int) (q:Int)=>decide (bK d t b.1=2)&&(!decide (q<=(m:Int))&&rgt d cs cs[j] ns f q (bT d t b.1) b.2 true)) (L.drop i) (ns[m].nx.drop i) then some (0,[]) else some (1,[]):=by
     intro n;induction n with
     | zero =>
      intro i hi;obtain rfl:i=L.length:=by omega
      rw [e130_0_2];simp only [List.length_map,Int.ofNat_lt,Nat.lt_irrefl,decide_false,cond_false,List.drop_length,allZ,cond_true]
     | succ n ih2 =>
      intro i hi;have hlt:i<L.length:=by omega
      have hlt2:i<ns[m].nx.length:=by omega
      have h4:=ih2 (i+1) (by omega)
      rw [List.drop_eq_getElem_cons hlt,List.drop_eq_getElem_cons hlt2,e130_0_2];simp only [List.length_map,Int.ofNat_lt,hlt,decide_true,cond_true,inbN,Int.toNat_natCast,rowAt_map hlt,wrap_succ hlt (maxB (by omega)),hlt2,rowAt_map hlt2,iRow,brRow,nv0,nvS,dvI,dvB,dvS,dvL,Option.bind_some,allZ]
      by_cases q2:bK d t L[i].1=2
      · by_cases q3:ns[m].nx[i]<=(m:Int)
        · simp only [q2,q3,decide_true,Bool.not_true,Bool.not_false,cond_false,cond_true,Bool.true_and,Bool.false_and]
        · have h5:=ih ns[m].nx[i] (bT d t L[i].1) L[i].2 true (by omega) (hmem _ (List.getElem_mem hlt) q2)
          simp only [q2,q3,decide_true,decide_false,Bool.not_true,Bool.not_false,cond_false,cond_true,Bool.true_and,h5,nv0,nvS,dvI,dvB,dvS,dvL,Option.bind_some];cases rgt d cs cs[j] ns f ns[m].nx[i] (bT d t L[i].1) L[i].2 true with
          | false=>rfl
          | true=>simp only [Bool.not_true,cond_false,Bool.true_and]; exact h4
      · simp only [q2,decide_false,Bool.not_false,cond_true,Bool.false_and,cond_false]
    have h4:=hlp L.length 0 (Nat.zero_add _);simp only [Int.natCast_zero,List.drop_zero] at h4;rw [allZ_zip _ _ _ hle] at h4;simp only [List.length_map,e,hle,decide_true,Bool.not_true,cond_false,h4,Bool.true_and];rw [hle] at h4;simp only [h4];cases (L.zip ns[m].nx).all _ <;> rfl
  by_cases k3:ns[m].k=3
  · have k31:¬(3:Int)=1:=by decide
    have k32:¬(3:Int)=2:=by decide
    simp only [k3,k31,k32,decide_false,decide_true,cond_false,cond_true,if_true,if_false];cases st with
    | false=>simp only [Bool.not_false,cond_true,Bool.false_and]
    | true =>
     simp only [Bool.not_true,cond_false,Bool.true_and];cases hq:clAt cs ns[m].c with
     | none =>
      by_cases q1:ns[m].c<0
      · simp only [q1,decide_true,cond_true]
      · have q2:(cs.length:Int)<=ns[m].c:=by rcases clAt_none hq with h | h <;> omega
        simp only [q1,q2,decide_true,decide_false,cond_true,cond_false]
     | some c =>
      obtain ⟨i,hi,hic,e⟩:=clAt_some hq;subst e;have q1:¬ ns[m].c<0:=by omega
      have q2:¬(cs.length:Int)<=ns[m].c:=by omega
      have hopc:∀ k∈op,isC cs[j].v.length k=true:=incC_isC op none hso.c;have hlp:∀ n a,a+n=op.length->rn ⟨130,0,4⟩ [.sl (cs.map cRow),.int (j:Int),.int (op.length:Int),.int (a:Int),.sl (cs[j].v.map sRow),.int t.k,.int t.n,.str t.s,.sl (t.as.map Tm.row),.sl (cl.map iRow),.int 3,.sl (ns[m].nx.map iRow),.int (i:Int),.sl (ns[m].s.map Bnd.row),.sl (op.map iRow)]=bif (op.drop a).all (mapB cs[i] ns[m].s cs[j] t) then some (0,[]) else some (1,[]):=by
       intro n;induction n with
       | zero =>
        intro a ha;obtain rfl:a=op.length:=by omega
        rw [e130_0_4];simp only [List.length_map,Int.ofNat_lt,Nat.lt_irrefl,decide_false,cond_false,List.drop_length,List.all_nil,cond_true]
       | succ n ih2 =>
        intro a ha;have hlt:a<op.length:=by omega
        have h4:=r212 cs[i] (hcs _ (List.getElem_mem hic)) ns[m].s hx.s hx.b cs[j] hg t hsm cl op[a] (hopc _ (List.getElem_mem hlt)) (hgu _ (List.getElem_mem hic));have h5:=ih2 (a+1) (by omega)
        rw [List.drop_eq_getElem_cons hlt,List.all_cons,e130_0_4];simp only [List.length_map,Int.ofNat_lt,hlt,decide_true,cond_true,inbN,Int.toNat_natCast,rowAt_map hlt,wrap_succ hlt (maxB (by omega)),hj,hic,rowAt_map hj,rowAt_map hic,cRow,iRow,nv0,nvS,dvI,dvB,dvS,dvL,Option.bind_some,h4]
        cases mapB cs[i] ns[m].s cs[j] t op[a] with
        | false=>rfl
        | true=>simp only [Bool.not_true,cond_false,Bool.true_and]; exact h5
      have h4:=hlp op.length 0 (Nat.zero_add _);simp only [Int.natCast_zero,List.drop_zero,<- hi] at h4;simp only [q1,q2,decide_false,cond_false,h4];cases op.all (mapB cs[i] ns[m].s cs[j] t) <;> rfl
  · simp only [k1,k2,k3,decide_false,cond_false,if_false]
theorem r47 (d:DfM) (hd:DfB d) (cs:List ClM) (hcs:∀ c∈cs,ClB c) (hcd:∀ c∈cs,c.d=d) (hcl:cs.length<=1048576) (k:Int) (ns:List PnM) (hns:∀ n∈ns,PnB n) (hnl:ns.length<=1048576):rn ⟨47,0,0⟩ [.sl (d.so.map sRow),.sl (d.op.map OpM.row),.sl (d.ru.map RuM.row),.sl (d.st.map StM.row),.sl (cs.map cRow),.int k,.sl (ns.map PnM.row)]=some (0,[.bool (chkP d cs k ns)]):=by
 have h1:=r129 d cs hcs hcd hcl k;rw [e47_0_0];simp only [h1,nv0,nvS,dvI,dvB,dvS,dvL,Option.bind_some];unfold chkP;cases hq:areC cs k with
 | none=>rfl
 | some g =>
  obtain ⟨_,hv,ha⟩:=areC_some hq;obtain ⟨j,rfl,hj,e⟩:=clAt_some ha;subst e;have hg:=hcs _ (List.getElem_mem hj);have hgv:cs[j].valid=true:=List.all_eq_true.1 hv _ (List.getElem_mem hj);have hst:=StG.start hg hgv;rw [hcd _ (List.getElem_mem hj)] at hst;have h2:=r131 cs[j].v hg.v cs[j].l cs[j].r (small_of _ hg.ln) cs[j].g hg.g (fun q hq=>⟨(hg.ga q hq).ln,(hg.ga q hq).rn⟩)
  rw [nrow_irow] at h2;have h3:=rgtI d hd cs hcs hcl j hj ns hns hnl ns.length 0 cs[j].l _ false (by omega) hst
  have e:decide ((ns.length:Int)<=60)=decide (ns.length<=60):=by by_cases q:ns.length<=60 <;> simp [q] <;> omega
  simp only [Option.isSome_some,cond_true,List.length_map,e,inbN,hj,decide_true,Int.toNat_natCast,rowAt_map hj,cRow,nv0,nvS,dvI,dvB,dvS,dvL,Option.bind_some,h2,h3];cases decide (ns.length<=60) <;> rfl
theorem r203 (g:ClM) (hb:ClB g) (t:Tm) (ht:Small t) (cl:List Int) (hcl:cl.length<=1048576) (hc:∀ k∈cl,isC g.v.length k=true):rn ⟨203,0,0⟩ [.sl (g.v.map sRow),.int (g.l).k,.int (g.l).n,.str (g.l).s,.sl ((g.l).as.map Tm.row),.int (g.r).k,.int (g.r).n,.str (g.r).s,.sl ((g.r).as.map Tm.row),.sl (g.g.map Gu.row),.sl (g.v.map sRow),.int t.k,.int t.n,.str t.s,.sl (t.as.map Tm.row),.sl (cl.map iRow)]=some (0,[.int t.k,.int t.n,.str t.s,.sl (g.v.map sRow),.sl (t.as.map Tm.row),.sl ((opC g t cl).map iRow)]):=by
 have h1:=opS g hb t ht cl hcl hc;have hv:=hb.v;have b1:Nat.ble (0+g.v.length) M63=true:=nb (by omega)
 have b2:Nat.ble (0+cl.length) M63=true:=nb (by omega)
 have h2:=r188 t ht;have h3:rn ⟨280,0,0⟩ [.sl (g.v.map sRow),.int t.k,.int t.n,.str t.s,.sl (t.as.map Tm.row),.sl (cl.map iRow)]=some (0,[.int t.k,.int t.n,.str t.s,.sl (g.v.map sRow),.sl (t.as.map Tm.row),.sl (cl.map iRow)]):=by
  rw [e280_0_0];simp only [List.length_nil,List.length_map,b1,b2,cond_true,h2,nv0,nvS,dvI,dvB,dvS,dvL,Option.bind_some,List.nil_append]
 rw [e203_0_0];simp only [h3,h1,nv0,nvS,dvI,dvB,dvS,dvL,Option.bind_some]
theorem rgtS (d:DfM) (hd:DfB d) (cs:List ClM) (hcs:∀ c∈cs,ClB c) (hcl:cs.length<=1048576) (j:Nat) (hj:j<cs.length) (ns:List PnM) (hns:∀ n∈ns,PnB n) (hnl:ns.length<=1048576):∀ (f:Nat) (n:Int) (t:Tm) (cl:List Int) (st:Bool),(ns.length:Int)<=n+f->StG d cs[j].v t cl →
 rn ⟨125,0,0⟩ [.sl (d.so.map sRow),.sl (d.op.map OpM.row),.sl (d.ru.map RuM.row),.sl (d.st.map StM.row),.sl (cs.map cRow),.int (j:Int),.sl (ns.map PnM.row),.int n,.sl (cs[j].v.map sRow),.int t.k,.int t.n,.str t.s,.sl (t.as.map Tm.row),.sl (cl.map iRow),.bool st]=some (0,[.bool (rgt d cs cs[j] ns f n t cl st)]):=by
 have hg:=hcs _ (List.getElem_mem hj);have hgu:∀ c∈cs,∀ q∈c.g,q.ok:=fun c hc q hq=>⟨((hcs c hc).ga q hq).ln,((hcs c hc).ga q hq).rn⟩
 intro f;induction f with
 | zero =>
  intro n t cl st hf hs;have e2:¬ n<=(ns.length:Int)-1:=by omega
  rw [e125_0_0];simp only [List.length_map,i64len (show ns.length<=1048577 by omega),rIn,e2,decide_false,Bool.and_false,nv0,nvS,dvI,dvB,dvS,dvL,Option.bind_some,Bool.not_false,cond_true]
  rfl
 | succ f ih =>
  intro n t cl st hf hs;rw [e125_0_0];simp only [List.length_map,i64len (show ns.length<=1048577 by omega),rIn]
  by_cases h0:n<0
  · have e:rgt d cs cs[j] ns (f+1) n t cl st=false:=by simp only [rgt,if_pos h0]
    have e2:¬ 0<=n:=by omega
    rw [e];simp only [e2,decide_false,Bool.false_and,nv0,nvS,dvI,dvB,dvS,dvL,Option.bind_some,Bool.not_false,cond_true]
  obtain ⟨m,rfl⟩:∃ m:Nat,n=(m:Int):=⟨n.toNat,by omega⟩
  by_cases hm:m<ns.length
  case neg =>
   have e:rgt d cs cs[j] ns (f+1) (m:Int) t cl st=false:=by
    simp only [rgt,if_neg h0,Int.toNat_natCast,List.getElem?_eq_none (show ns.length<=m by omega)]
   have e2:¬(m:Int)<=(ns.length:Int)-1:=by omega
   rw [e];simp only [e2,decide_false,Bool.and_false,nv0,nvS,dvI,dvB,dvS,dvL,Option.bind_some,Bool.not_false,cond_true]
  have e1:(0:Int)<=(m:Int):=by omega
  have e2:(m:Int)<=(ns.length:Int)-1:=by omega
  have hx:=hns _ (List.getElem_mem hm);have hsm:=small_of t (by have:=hs.n; omega)
  have hci:=incC_isC cl none hs.c;have h1:=r203 cs[j] hg t hsm cl (by have:=hs.l; omega) hci
  have hso:StG d cs[j].v t (opC cs[j] t cl):=hs.op (List.filter_sublist);have hol:=hso.l;simp only [e1,e2,Bool.and_self,Bool.not_true,cond_false,inbN,hj,hm,decide_true,cond_true,Int.toNat_natCast,rowAt_map hj,rowAt_map hm,cRow,PnM.row,nv0,nvS,dvI,dvB,dvS,dvL,Option.bind_some,h1,List.length_map];simp only [rgt,if_neg h0,Int.toNat_natCast,List.getElem?_eq_getElem hm];generalize hop:opC cs[j] t cl=op at hso hol ⊢;by_cases k1:ns[m].k=1
  · have e:decide ((op.length:Int)=0)=decide (op.length=0):=by by_cases q:op.length=0 <;> simp [q]
    simp only [k1,decide_true,cond_true,if_true,e]
  by_cases k3:ns[m].k=3
  · have k31:¬(3:Int)=1:=by decide
    have k32:¬(3:Int)=2:=by decide
    have h4:=r204 cs hcs hgu hcl j hj ns[m] hx t hsm op (by omega) (incC_isC op none hso.c)
    rw [k3] at h4;simp only [k3,k31,k32,decide_false,decide_true,cond_false,cond_true,if_true,if_false,h4,nv0,nvS,dvI,dvB,dvS,dvL,Option.bind_some];cases st <;> rfl
  by_cases k2:ns[m].k=2
  · obtain ⟨s1,s2,s3⟩:=hso.sy hd hg
    have h3:=r27 _ s1;rw [s3] at h3;unfold SyM.row at h3;simp only at h3;have k2':¬(2:Int)=1:=by decide
    have k23:¬(2:Int)=3:=by decide
    simp only [k2,k2',k23,decide_false,decide_true,cond_false,cond_true,if_true,if_false,nv0,nvS,dvI,dvB,dvS,dvL,Option.bind_some,h3];have hmem:∀ b∈brF d cs[j].v t op [],bK d t b.1=2->StG d cs[j].v (bT d t b.1) b.2:=fun b hb hk=>hso.next hd hb hk
    have hLl:(brF d cs[j].v t op []).length<=64:=by
     have:=(brF_inv hd hso.w hso.s (P:=fun _=>True) op 0 [] (fun c hc=>⟨incC_isC op none hso.c c hc,trivial⟩) ⟨Nat.le_refl _,by simp⟩ (by simp) (by simp)).1.l
     omega
    generalize brF d cs[j].v t op []=L at hmem hLl ⊢;have hlp:∀ n i,i+n=L.length->rn ⟨125,0,2⟩ [.sl (cs.map cRow),.int (j:Int),.int (m:Int),.int (i:Int),.sl (d.so.map sRow),.sl (d.op.map OpM.row),.sl (d.ru.map RuM.row),.sl (d.st.map StM.row),.sl (ns.map PnM.row),.int 2,.sl (ns[m].nx.map iRow),.int ns[m].c,.sl (ns[m].s.map Bnd.row),.sl (L.map (brRow d cs[j].v t))]=bif allZ (fun (b:Bk × List Int) (q:Int)=>decide (bK d t b.1=2)&&(!decide (q<=(m:Int))&&rgt d cs cs[j] ns f q (bT d t b.1) b.2 true)) (L.drop i) (ns[m].nx.drop i) then some (0,[.int 2,.sl (ns[m].nx.map iRow),.int ns[m].c,.sl (ns[m].s.map Bnd.row),.sl (L.map (brRow d cs[j].v t))]) else some (1,[]):=by
     intro n;induction n with
     | zero =>
      intro i hi;obtain rfl:i=L.length:=by omega
      rw [e125_0_2];simp only [List.length_map,Int.ofNat_lt,Nat.lt_irrefl,decide_false,cond_false,List.drop_length,allZ,cond_true]
     | succ n ih2 =>
      intro i hi;have hlt:i<L.length:=by omega
      have h4:=ih2 (i+1) (by omega)
      rw [List.drop_eq_getElem_cons hlt,e125_0_2];by_cases hlt2:i<ns[m].nx.length
      case neg =>
       have e:(ns[m].nx.length:Int)<=(i:Int):=by omega
       rw [List.drop_eq_nil_of_le (show ns[m].nx.length<=i by omega)]
       simp only [List.length_map,Int.ofNat_lt,hlt,decide_true,cond_true,inbN,Int.toNat_natCast,rowAt_map hlt,wrap_succ hlt (maxB (by omega)),e,allZ,cond_false]
      have e:¬(ns[m].nx.length:Int)<=(i:Int):=by omega
      rw [List.drop_eq_getElem_cons hlt2];simp only [List.length_map,Int.ofNat_lt,hlt,decide_true,cond_true,inbN,Int.toNat_natCast,rowAt_map hlt,wrap_succ hlt (maxB (by omega)),e,decide_false,cond_false,hlt2,rowAt_map hlt2,iRow,brRow,nv0,nvS,dvI,dvB,dvS,dvL,Option.bind_some,allZ]
      by_cases q2:bK d t L[i].1=2
      · by_cases q3:ns[m].nx[i]<=(m:Int)
        · simp only [q2,q3,decide_true,Bool.not_true,Bool.not_false,cond_false,cond_true,Bool.true_and,Bool.false_and]
        · have h5:=ih ns[m].nx[i] (bT d t L[i].1) L[i].2 true (by omega) (hmem _ (List.getElem_mem hlt) q2)
          simp only [q2,q3,decide_true,decide_false,Bool.not_true,Bool.not_false,cond_false,cond_true,Bool.true_and,h5,nv0,nvS,dvI,dvB,dvS,dvL,Option.bind_some];cases rgt d cs cs[j] ns f ns[m].nx[i] (bT d t L[i].1) L[i].2 true with
          | false=>rfl
          | true=>simp only [Bool.not_true,cond_false,Bool.true_and]; exact h4
      · simp only [q2,decide_false,Bool.not_false,cond_true,Bool.false_and,cond_false]
    have h4:=hlp L.length 0 (Nat.zero_add _);simp only [Int.natCast_zero,List.drop_zero] at h4;simp only [h4];by_cases hle:L.length=ns[m].nx.length
    · have e:((L.length:Int)=(ns[m].nx.length:Int)):=by omega
      rw [allZ_zip _ _ _ hle];cases (L.zip ns[m].nx).all _ with
      | true=>simp only [cond_true,nv0,nvS,dvI,dvB,dvS,dvL,Option.bind_some,Nat.beq_refl,cond_true,cond_false,List.length_map,e,hle,decide_true,Bool.true_and]
      | false=>simp only [hle,decide_true,Bool.true_and]; rfl
    · have e:¬((L.length:Int)=(ns[m].nx.length:Int)):=by omega
      cases allZ _ L ns[m].nx with
      | true=>simp only [cond_true,nv0,nvS,dvI,dvB,dvS,dvL,Option.bind_some,Nat.beq_refl,cond_true,cond_false,List.length_map,e,hle,decide_false,Bool.false_and]
      | false=>simp only [hle,decide_false,Bool.false_and]; rfl
  · simp only [k1,k2,k3,decide_false,cond_false,if_false]
theorem r44 (d:DfM) (hd:DfB d) (cs:List ClM) (hcs:∀ c∈cs,ClB c) (hcd:∀ c∈cs,c.d=d) (hcl:cs.length<=1048576) (k:Int) (ns:List PnM) (hns:∀ n∈ns,PnB n) (hnl:ns.length<=1048576):rn ⟨44,0,0⟩ [.sl (d.so.map sRow),.sl (d.op.map OpM.row),.sl (d.ru.map RuM.row),.sl (d.st.map StM.row),.sl (cs.map cRow),.int k,.sl (ns.map PnM.row)]=some (0,[.bool (chkP d cs k ns)]):=by
 have h1:=r124 d cs hcs hcd hcl;rw [e44_0_0];simp only [h1,nv0,nvS,dvI,dvB,dvS,dvL,Option.bind_some,List.length_map,i64len (show cs.length<=1048577 by omega),rIn]
 unfold chkP;cases hq:areC cs k with
 | none =>
  unfold areC at hq;by_cases hc:cs.length<=3/\claimsB cs=true
  · rw [if_pos hc] at hq
    rw [hc.2];rcases clAt_none hq with h | h
    · cases decide (1<=cs.length)&&decide (cs.length<=3) with
      | false=>rfl
      | true=>rw [decide_eq_false (show ¬(0:Int)<=k by omega)]; rfl
    · cases decide (1<=cs.length)&&decide (cs.length<=3) with
      | false=>rfl
      | true=>rw [decide_eq_false (show ¬ k<=(cs.length:Int)-1 by omega),Bool.and_false]; rfl
  · have e:(claimsB cs&&(decide (1<=cs.length)&&decide (cs.length<=3)))=false:=by
     rw [Bool.and_eq_false_iff,Bool.and_eq_false_iff];by_cases h3:cs.length<=3
     · left
       cases hb:claimsB cs with
       | false=>rfl
       | true=>exact absurd ⟨h3,hb⟩ hc
     · exact .inr (.inr (decide_eq_false h3))
    rw [e]; rfl
 | some g =>
  obtain ⟨h3,hv,ha⟩:=areC_some hq;obtain ⟨j,rfl,hj,e⟩:=clAt_some ha;subst e;have hg:=hcs _ (List.getElem_mem hj);have hgv:cs[j].valid=true:=List.all_eq_true.1 hv _ (List.getElem_mem hj);have hst:=StG.start hg hgv;rw [hcd _ (List.getElem_mem hj)] at hst;have h2:=r126 cs[j].v hg.v cs[j].l cs[j].r (small_of _ hg.ln) cs[j].g hg.g (fun q hq=>⟨(hg.ga q hq).ln,(hg.ga q hq).rn⟩)
  rw [nrow_irow] at h2;have h4:=rgtS d hd cs hcs hcl j hj ns hns hnl ns.length 0 cs[j].l _ false (by omega) hst
  have e1:(0:Int)<=(j:Int):=by omega
  have e2:(j:Int)<=(cs.length:Int)-1:=by omega
  have e3:1<=cs.length:=by omega
  by_cases h60:ns.length<=60
  · have e:¬(60:Int)<(ns.length:Int):=by omega
    simp only [hv,h3,e1,e2,e3,e,h60,decide_true,decide_false,Bool.and_self,Bool.not_true,cond_false,inbN,hj,cond_true,Int.toNat_natCast,rowAt_map hj,cRow,nv0,nvS,dvI,dvB,dvS,dvL,Option.bind_some,h2,h4,Bool.true_and]
  · have e:(60:Int)<(ns.length:Int):=by omega
    simp only [hv,h3,e1,e2,e3,e,h60,decide_true,decide_false,Bool.and_self,Bool.not_true,cond_false,cond_true,Bool.false_and]
end Go.Q.S
