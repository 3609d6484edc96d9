/- The functions of this seat, as that machine runs them. -/
import Derived.Test.YtnjedojmdcpcaaaGreatfP11a
set_option linter.unusedVariables false
set_option linter.unusedSimpArgs false
namespace Go.Q.S
open Go Go.Q Go.Proofs
theorem mI2:∀ t u:Tm,∀ l:List Bnd,Small u->(∀ b∈l,Small b.2)->l.length+t.nodes<=1048576->rn ⟨334,2,0⟩ [.int t.k,.int t.n,.str t.s,.sl (t.as.map Tm.row),.int u.k,.int u.n,.str u.s,.sl (u.as.map Tm.row),.sl (l.map Bnd.row)]=some (0,foI (mT t u l) (if t.k=1 then l.map Bnd.row else [])):=Tm.ind fun t ih u l hu hl hb=>by
 have hnd:=Tm.nodes_eq t;have hls:=len_sum (xs:=t.as);have hlp:t.as.length=u.as.length->∀ n i (l:List Bnd),i+n=t.as.length->(∀ b∈l,Small b.2)->l.length+((t.as.drop i).map Tm.nodes).sum<=1048576->rn ⟨334,2,1⟩ [.int (t.as.length:Int),.int (i:Int),.sl (l.map Bnd.row),.int t.k,.int t.n,.str t.s,.sl (t.as.map Tm.row),.int u.k,.int u.n,.str u.s,.sl (u.as.map Tm.row)]=match mTs (t.as.drop i) (u.as.drop i) l with
  | some l'=>some (0,[.sl (l'.map Bnd.row)])
  | none=>some (1,[.sl []]):=by
  intro hlen n;induction n with
  | zero =>
   intro i l hi hl hb;obtain rfl:i=t.as.length:=by omega
   rw [e334_2_1];simp only [List.length_map,Int.ofNat_lt,Nat.lt_irrefl,decide_false,cond_false,List.drop_length,mTs]
  | succ n ih2 =>
   intro i l hi hl hb;have hlt:i<t.as.length:=by omega
   have hlu:i<u.as.length:=by omega
   rw [List.drop_eq_getElem_cons hlt] at hb ⊢;rw [List.drop_eq_getElem_cons hlu];simp only [List.map_cons,List.sum_cons] at hb;have hm:=List.getElem_mem hlt;have hmu:=List.getElem_mem hlu;have h1:=ih _ hm u.as[i] l (hu.sub hmu) hl (by omega)
   rw [e334_2_1];simp only [List.length_map,Int.ofNat_lt,hlt,decide_true,cond_true,inbN,Int.toNat_natCast,rowAt_map hlt,wrap_succ hlt (maxB (by omega)),hlu,rowAt_map hlu,Tm.row_eq,nv0,nvS,dvI,dvB,dvS,dvL,Option.bind_some,h1,mTs]
   cases hq:mT t.as[i] u.as[i] l with
   | none=>rfl
   | some l1 =>
    have hl1:=mT_all Small (fun t a h ha=>h.sub ha) _ _ l l1 (hu.sub hmu) hl hq
    have hn1:=mT_len _ _ _ _ hq;have h2:=ih2 (i+1) l1 (by omega) hl1 (by omega)
    simp only [foI,nv0,nvS,dvI,dvB,dvS,dvL,Option.bind_some,Bool.not_true,cond_false,h2]
 have h0:=fun h=>hlp h t.as.length 0 l (by omega) hl (by rw [List.drop_zero]; omega)
 simp only [List.drop_zero,Int.natCast_zero] at h0;rw [e334_2_0,mT_eq];by_cases h1:t.k=1
 · have hbd:=r276 l (by omega) t.s
   have hb2:Nat.ble (l.length+1) M63=true:=nb (by omega)
   simp only [h1,decide_true,cond_true,if_true,hbd];cases hq:bnd l t.s with
   | some v =>
    have he:=r289 v u (bnd_mem' hl hq);simp only [nv0,nvS,dvI,dvB,dvS,dvL,Option.bind_some,cond_true,he];cases eqb v.row u.row <;> rfl
   | none =>
    simp only [nv0,nvS,dvI,dvB,dvS,dvL,Option.bind_some,cond_false,List.length_map,List.length_cons,List.length_nil,Nat.zero_add,hb2,cond_true,foI,List.map_append,List.map_cons,List.map_nil,bd_row]
 · simp only [h1,decide_false,cond_false,if_false]
   by_cases e1:t.k=u.k
   · rw [decide_eq_true e1,if_pos e1]
     by_cases e2:t.n=u.n
     · rw [decide_eq_true e2,if_pos e2]
       by_cases e3:t.s=u.s
       · rw [decide_eq_true e3,if_pos e3]
         by_cases e4:t.as.length=u.as.length
         · have e4':((t.as.map Tm.row).length:Int)=((u.as.map Tm.row).length:Int):=by simp [e4]
           rw [decide_eq_true e4',if_pos e4];simp only [Bool.not_true,cond_false,List.length_map,h0 e4];cases mTs t.as u.as l <;> rfl
         · have e4':¬((t.as.map Tm.row).length:Int)=((u.as.map Tm.row).length:Int):=by simp; omega
           rw [decide_eq_false e4',if_neg e4]; rfl
       · rw [decide_eq_false e3,if_neg e3]; rfl
     · rw [decide_eq_false e2,if_neg e2]; rfl
   · rw [decide_eq_false e1,if_neg e1]; rfl
theorem mI1:∀ t u:Tm,∀ l:List Bnd,Small u->(∀ b∈l,Small b.2)->l.length+t.nodes<=1048576->rn ⟨334,1,0⟩ [.int t.k,.int t.n,.str t.s,.sl (t.as.map Tm.row),.int u.k,.int u.n,.str u.s,.sl (u.as.map Tm.row),.sl (l.map Bnd.row)]=some (0,foI (mT t u l) (if t.k=1 then l.map Bnd.row else [])):=fun t u l hu hl hb=>by
 have ih:=fun (a:Tm) (_:a∈t.as)=>mI2 a
 have hnd:=Tm.nodes_eq t;have hls:=len_sum (xs:=t.as);have hlp:t.as.length=u.as.length->∀ n i (l:List Bnd),i+n=t.as.length->(∀ b∈l,Small b.2)->l.length+((t.as.drop i).map Tm.nodes).sum<=1048576->rn ⟨334,1,1⟩ [.int (t.as.length:Int),.int (i:Int),.sl (l.map Bnd.row),.int t.k,.int t.n,.str t.s,.sl (t.as.map Tm.row),.int u.k,.int u.n,.str u.s,.sl (u.as.map Tm.row)]=match mTs (t.as.drop i) (u.as.drop i) l with
  | some l'=>some (0,[.sl (l'.map Bnd.row)])
  | none=>some (1,[.sl []]):=by
  intro hlen n;induction n with
  | zero =>
   intro i l hi hl hb;obtain rfl:i=t.as.length:=by omega
   rw [e334_1_1];simp only [List.length_map,Int.ofNat_lt,Nat.lt_irrefl,decide_false,cond_false,List.drop_length,mTs]
  | succ n ih2 =>
   intro i l hi hl hb;have hlt:i<t.as.length:=by omega
   have hlu:i<u.as.length:=by omega
   rw [List.drop_eq_getElem_cons hlt] at hb ⊢;rw [List.drop_eq_getElem_cons hlu];simp only [List.map_cons,List.sum_cons] at hb;have hm:=List.getElem_mem hlt;have hmu:=List.getElem_mem hlu;have h1:=ih _ hm u.as[i] l (hu.sub hmu) hl (by omega)
   rw [e334_1_1];simp only [List.length_map,Int.ofNat_lt,hlt,decide_true,cond_true,inbN,Int.toNat_natCast,rowAt_map hlt,wrap_succ hlt (maxB (by omega)),hlu,rowAt_map hlu,Tm.row_eq,nv0,nvS,dvI,dvB,dvS,dvL,Option.bind_some,h1,mTs]
   cases hq:mT t.as[i] u.as[i] l with
   | none=>rfl
   | some l1 =>
    have hl1:=mT_all Small (fun t a h ha=>h.sub ha) _ _ l l1 (hu.sub hmu) hl hq
    have hn1:=mT_len _ _ _ _ hq;have h2:=ih2 (i+1) l1 (by omega) hl1 (by omega)
    simp only [foI,nv0,nvS,dvI,dvB,dvS,dvL,Option.bind_some,Bool.not_true,cond_false,h2]
 have h0:=fun h=>hlp h t.as.length 0 l (by omega) hl (by rw [List.drop_zero]; omega)
 simp only [List.drop_zero,Int.natCast_zero] at h0;rw [e334_1_0,mT_eq];by_cases h1:t.k=1
 · have hbd:=r276 l (by omega) t.s
   have hb2:Nat.ble (l.length+1) M63=true:=nb (by omega)
   simp only [h1,decide_true,cond_true,if_true,hbd];cases hq:bnd l t.s with
   | some v =>
    have he:=r289 v u (bnd_mem' hl hq);simp only [nv0,nvS,dvI,dvB,dvS,dvL,Option.bind_some,cond_true,he];cases eqb v.row u.row <;> rfl
   | none =>
    simp only [nv0,nvS,dvI,dvB,dvS,dvL,Option.bind_some,cond_false,List.length_map,List.length_cons,List.length_nil,Nat.zero_add,hb2,cond_true,foI,List.map_append,List.map_cons,List.map_nil,bd_row]
 · simp only [h1,decide_false,cond_false,if_false]
   by_cases e1:t.k=u.k
   · rw [decide_eq_true e1,if_pos e1]
     by_cases e2:t.n=u.n
     · rw [decide_eq_true e2,if_pos e2]
       by_cases e3:t.s=u.s
       · rw [decide_eq_true e3,if_pos e3]
         by_cases e4:t.as.length=u.as.length
         · have e4':((t.as.map Tm.row).length:Int)=((u.as.map Tm.row).length:Int):=by simp [e4]
           rw [decide_eq_true e4',if_pos e4];simp only [Bool.not_true,cond_false,List.length_map,h0 e4];cases mTs t.as u.as l <;> rfl
         · have e4':¬((t.as.map Tm.row).length:Int)=((u.as.map Tm.row).length:Int):=by simp; omega
           rw [decide_eq_false e4',if_neg e4]; rfl
       · rw [decide_eq_false e3,if_neg e3]; rfl
     · rw [decide_eq_false e2,if_neg e2]; rfl
   · rw [decide_eq_false e1,if_neg e1]; rfl
theorem mS:∀ t u:Tm,∀ l:List Bnd,Small u->(∀ b∈l,Small b.2)->l.length+t.nodes<=1048576->(∀ l',mT t u l=some l'->rn ⟨332,1,0⟩ [.int t.k,.int t.n,.str t.s,.sl (t.as.map Tm.row),.int u.k,.int u.n,.str u.s,.sl (u.as.map Tm.row),.sl (l.map Bnd.row)]=some (0,[.bool true,.sl (l'.map Bnd.row)]))/\(mT t u l=none->(∃ X,rn ⟨332,1,0⟩ [.int t.k,.int t.n,.str t.s,.sl (t.as.map Tm.row),.int u.k,.int u.n,.str u.s,.sl (u.as.map Tm.row),.sl (l.map Bnd.row)]=some (0,[.bool false,.sl X]))\/rn ⟨332,1,0⟩ [.int t.k,.int t.n,.str t.s,.sl (t.as.map Tm.row),.int u.k,.int u.n,.str u.s,.sl (u.as.map Tm.row),.sl (l.map Bnd.row)]=some (1,[])):=Tm.ind fun t ih u l hu hl hb=>by
 have hnd:=Tm.nodes_eq t;have hls:=len_sum (xs:=t.as);have hlp:t.as.length=u.as.length->∀ n i (l:List Bnd),i+n=t.as.length->(∀ b∈l,Small b.2)->l.length+((t.as.drop i).map Tm.nodes).sum<=1048576->rn ⟨332,1,1⟩ [.int (i:Int),.sl (l.map Bnd.row),.int t.k,.int t.n,.str t.s,.sl (t.as.map Tm.row),.int u.k,.int u.n,.str u.s,.sl (u.as.map Tm.row)]=match mTs (t.as.drop i) (u.as.drop i) l with
  | some l'=>some (0,[.sl (l'.map Bnd.row)])
  | none=>some (1,[]):=by
  intro hlen n;induction n with
  | zero =>
   intro i l hi hl hb;obtain rfl:i=t.as.length:=by omega
   rw [e332_1_1];simp only [List.length_map,Int.ofNat_lt,Nat.lt_irrefl,decide_false,cond_false,List.drop_length,mTs]
  | succ n ih2 =>
   intro i l hi hl hb;have hlt:i<t.as.length:=by omega
   have hlu:i<u.as.length:=by omega
   rw [List.drop_eq_getElem_cons hlt] at hb ⊢;rw [List.drop_eq_getElem_cons hlu];simp only [List.map_cons,List.sum_cons] at hb;have hm:=List.getElem_mem hlt;have hmu:=List.getElem_mem hlu;obtain ⟨h1,h1'⟩:=ih _ hm u.as[i] l (hu.sub hmu) hl (by omega)
   rw [e332_1_1];simp only [List.length_map,Int.ofNat_lt,hlt,decide_true,cond_true,inbN,Int.toNat_natCast,rowAt_map hlt,wrap_succ hlt (maxB (by omega)),hlu,rowAt_map hlu,Tm.row_eq,nv0,nvS,dvI,dvB,dvS,dvL,Option.bind_some,mTs]
   cases hq:mT t.as[i] u.as[i] l with
   | none =>
    rcases h1' hq with ⟨X,e⟩ | e
    · rw [e]; rfl
    · rw [e]; rfl
   | some l1 =>
    have hl1:=mT_all Small (fun t a h ha=>h.sub ha) _ _ l l1 (hu.sub hmu) hl hq
    have hn1:=mT_len _ _ _ _ hq;have h2:=ih2 (i+1) l1 (by omega) hl1 (by omega)
    simp only [h1 l1 hq,nv0,nvS,dvI,dvB,dvS,dvL,Option.bind_some,Nat.beq_refl,cond_true,cond_false,Bool.not_true,h2]
 have h0:=fun h=>hlp h t.as.length 0 l (by omega) hl (by rw [List.drop_zero]; omega)
 simp only [List.drop_zero,Int.natCast_zero] at h0;rw [e332_1_0,mT_eq];by_cases h1:t.k=1
 · have hbd:=r269 l (by omega) hl t.s
   have hb2:Nat.ble (l.length+1) M63=true:=nb (by omega)
   have hcp:=r188 u hu;simp only [h1,decide_true,cond_true,if_true,hbd];cases hq:bnd l t.s with
   | some v =>
    have he:=r217 v u (bnd_mem' hl hq);simp only [nv0,nvS,dvI,dvB,dvS,dvL,Option.bind_some,cond_true,he];cases eqb v.row u.row with
    | true=>exact ⟨fun l' h=>by simp only [if_true,Option.some.injEq] at h; subst h; rfl,fun h=>by simp at h⟩
    | false=>exact ⟨fun l' h=>by simp at h,fun _=>.inl ⟨_,rfl⟩⟩
   | none =>
    refine ⟨fun l' h=>?_,fun h=>by simp at h⟩
    simp only [Option.some.injEq] at h;subst h;simp only [nv0,nvS,dvI,dvB,dvS,dvL,Option.bind_some,cond_false,hcp,List.length_map,List.length_cons,List.length_nil,Nat.zero_add,hb2,cond_true,List.map_append,List.map_cons,List.map_nil,bd_row]
 · simp only [h1,decide_false,cond_false,if_false]
   by_cases e1:t.k=u.k
   · rw [decide_eq_true e1,if_pos e1]
     by_cases e2:t.n=u.n
     · rw [decide_eq_true e2,if_pos e2]
       by_cases e3:t.s=u.s
       · rw [decide_eq_true e3,if_pos e3]
         by_cases e4:t.as.length=u.as.length
         · have e4':((t.as.map Tm.row).length:Int)=((u.as.map Tm.row).length:Int):=by simp [e4]
           rw [decide_eq_true e4',if_pos e4];simp only [Bool.not_true,cond_false,h0 e4];cases mTs t.as u.as l with
           | none=>exact ⟨fun l' h=>by simp at h,fun _=>.inr rfl⟩
           | some l2=>exact ⟨fun l' h=>by simp only [Option.some.injEq] at h; subst h; rfl,fun h=>by simp at h⟩
         · have e4':¬((t.as.map Tm.row).length:Int)=((u.as.map Tm.row).length:Int):=by simp; omega
           rw [decide_eq_false e4',if_neg e4]; exact ⟨fun l' h=>by simp at h,fun _=>.inl ⟨_,rfl⟩⟩
       · rw [decide_eq_false e3,if_neg e3]; exact ⟨fun l' h=>by simp at h,fun _=>.inl ⟨_,rfl⟩⟩
     · rw [decide_eq_false e2,if_neg e2]; exact ⟨fun l' h=>by simp at h,fun _=>.inl ⟨_,rfl⟩⟩
   · rw [decide_eq_false e1,if_neg e1]; exact ⟨fun l' h=>by simp at h,fun _=>.inl ⟨_,rfl⟩⟩
theorem r333 (l:List Bnd) (hl:l.length<=1048576) (hs:∀ b∈l,Small b.2) (ns:List ByteArray) (hn:ns.length<=1048577):rn ⟨333,0,0⟩ [.sl (l.map Bnd.row),.sl (ns.map sRow)]=some (0,[.sl ((rsB l (srtN ns)).map Bnd.row)]):=by
 have h1:=r236 ns (by omega)
 have hsl:=srtN_len ns;rw [e333_0_0,h1];generalize srtN ns=ms at hsl ⊢;have key:∀ n i (acc:List Bnd),i+n=ms.length->acc.length<=i->rn ⟨333,0,1⟩ [.sl (l.map Bnd.row),.int (i:Int),.sl (acc.map Bnd.row),.sl (ms.map sRow)]=some (0,[.sl ((acc++rsB l (ms.drop i)).map Bnd.row)]):=by
  intro n;induction n with
  | zero =>
   intro i acc hi ha;obtain rfl:i=ms.length:=by omega
   rw [e333_0_1];simp only [List.length_map,Int.ofNat_lt,Nat.lt_irrefl,decide_false,cond_false,List.drop_length,rsB,List.filterMap_nil,List.append_nil]
  | succ n ih =>
   intro i acc hi ha;have hlt:i<ms.length:=by omega
   rw [e333_0_1,List.drop_eq_getElem_cons hlt,rsB_cons];have hbd:=r269 l hl hs ms[i];have hb2:Nat.ble (acc.length+1) M63=true:=nb (by omega)
   simp only [List.length_map,Int.ofNat_lt,hlt,decide_true,cond_true,inbN,Int.toNat_natCast,rowAt_map hlt,wrap_succ hlt (maxB (by omega)),sRow,nv0,nvS,dvI,dvB,dvS,dvL,Option.bind_some,hbd]
   cases hq:bnd l ms[i] with
   | none =>
    have h2:=ih (i+1) acc (by omega) (by omega)
    simp only [nv0,nvS,dvI,dvB,dvS,dvL,Option.bind_some,cond_false,h2]
   | some v =>
    have h2:=ih (i+1) (acc++[(ms[i],v)]) (by omega) (by simp; omega)
    simp only [List.map_append,List.map_cons,List.map_nil,bd_row,sRow] at h2;simp only [nv0,nvS,dvI,dvB,dvS,dvL,Option.bind_some,cond_true,List.length_cons,List.length_nil,Nat.zero_add,hb2,h2,List.map_append,List.map_cons,List.append_assoc,List.cons_append,List.nil_append,bd_row]
 have h:=key ms.length 0 [] (by omega) (Nat.zero_le _)
 simp only [Int.natCast_zero,List.map_nil,List.drop_zero,List.nil_append] at h;simp only [h,nv0,nvS,dvI,dvB,dvS,dvL,Option.bind_some,Nat.beq_refl,cond_true,cond_false]
theorem r298 (t u:Tm) (ht:t.nodes<=1048576) (hu:Small u):rn ⟨298,0,0⟩ [.int t.k,.int t.n,.str t.s,.sl (t.as.map Tm.row),.int u.k,.int u.n,.str u.s,.sl (u.as.map Tm.row)]=some (0,foI ((mT t u []).map fun l=>rsB l (srtN (srtN t.names))) []):=by
 obtain ⟨h1,h2⟩:=mS t u [] hu (by simp) (by simpa using ht)
 have h3:=r154 t (by omega)
 have hnl:=names_nodes t;have hsl:=srtN_len t.names;rw [e298_0_0];simp only [List.map_nil] at h1 h2;cases hq:mT t u [] with
 | none =>
  rcases h2 hq with ⟨X,e⟩ | e
  · rw [e]; rfl
  · rw [e]; rfl
 | some l =>
  have hls:=mT_all Small (fun t a h ha=>h.sub ha) t u [] l hu (by simp) hq
  have hln:=mT_len _ _ _ _ hq;simp only [List.length_nil] at hln;have h4:=r333 l (by omega) hls (srtN t.names) (by omega)
  simp only [h1 l hq,nv0,nvS,dvI,dvB,dvS,dvL,Option.bind_some,Nat.beq_refl,cond_true,cond_false,Bool.not_true,h3,h4,Option.map_some,foI]
theorem holdI (l:List Bnd) (hl:l.length<=1048576) (hs:∀ b∈l,b.2.nodes<=60) (gs:List Gu) (hg:gs.length<=1048576) (h:∀ g∈gs,g.l.nodes<=60/\g.r.nodes<=60):rn ⟨291,0,0⟩ [.sl (l.map Bnd.row),.sl (gs.map Gu.row)]=some (0,[.bool (gs.all fun g=>holds (appG l g))]):=by
 have hss:∀ b∈l,Small b.2:=fun b hb=>small_of _ (by have:=hs b hb; omega)
 rw [e291_0_0];have hf:=all_loop (F:=fun i=>rn ⟨291,0,1⟩ [.sl (l.map Bnd.row),.sl (gs.map Gu.row),.int (gs.map Gu.row).length,.int (i:Int)]) (xs:=gs) (p:=fun g=>holds (appG l g)) (A:=some (0,[])) (B:=some (1,[])) (fun i hi=>?_) ?_
 · simp only [Int.natCast_zero] at hf
   rw [hf];cases gs.all fun g=>holds (appG l g) <;> rfl
 · have hgi:=h _ (List.getElem_mem hi)
   have a1:=r327 l hl hss gs[i] ⟨by omega,by omega⟩
   have a2:=r326 (appG l gs[i]) (appG_ok60 hs hgi.1 hgi.2);rw [e291_0_1];simp only [Int.toNat_natCast,rowAt_map hi,gu_row,List.length_map,inbN,hi,Int.ofNat_lt,decide_true,cond_true,nv0,nvS,dvI,dvB,dvS,dvL,Option.bind_some,wrap_succ hi (by unfold maxLen; omega),a1,a2]
   cases holds (appG l gs[i]) <;> rfl
 · rw [e291_0_1]
   simp
theorem r315 (d:DfM) (hd:DfG d) (i:Nat) (hi:i<d.ru.length) (u:Tm) (hu:u.nodes<=60):rn ⟨315,0,0⟩ [.sl (d.so.map sRow),.sl (d.op.map OpM.row),.sl (d.ru.map RuM.row),.sl (d.st.map StM.row),.int (i:Int),.int u.k,.int u.n,.str u.s,.sl (u.as.map Tm.row)]=some (0,frR (fireR d.ru[i] u)):=by
 have hr:=hd.ru (List.getElem_mem hi);have hln:=valid_nodes hr.lv;have hrn:=valid_nodes hr.rv;have h1:=mI1 d.ru[i].l u [] (small_of u (by omega)) (by simp) (by simp; omega)
 rw [e315_0_0];simp only [List.map_nil] at h1;simp only [List.length_map,inbN,hi,decide_true,cond_true,Int.toNat_natCast,rowAt_map hi,RuM.row,nv0,nvS,dvI,dvB,dvS,dvL,Option.bind_some,h1];unfold fireR;cases hq:mT d.ru[i].l u [] with
 | none=>rfl
 | some l =>
  have hls:=mT_all (fun t=>t.nodes<=60) (fun t a h ha=>nodes_sub t a h ha) _ u [] l hu (by simp) hq
  have hln2:=mT_len _ _ _ _ hq;simp only [List.length_nil] at hln2;have hss:∀ b∈l,Small b.2:=fun b hb=>small_of _ (by have:=hls b hb; omega)
  have h2:=holdI l (by omega) hls d.ru[i].g hr.b.g (fun g hg=>⟨valid_nodes (hr.gl g hg).1,valid_nodes (hr.gl g hg).2⟩)
  have h3:=r198 l (by omega) hss d.ru[i].r (small_of _ (by omega))
  have h4:=r197 (aS l d.ru[i].r) (aS_small hss _ (small_of _ (by omega)))
  simp only [foI,nv0,nvS,dvI,dvB,dvS,dvL,Option.bind_some,Bool.not_true,cond_false,h2,h3,h4];cases d.ru[i].g.all fun g=>holds (appG l g) <;> rfl
theorem r264 {ops:List OpM} (r:RuM) (hr:RuG ops r) (u:Tm) (hu:u.nodes<=60):rn ⟨264,0,0⟩ [.str r.n,.int (r.l).k,.int (r.l).n,.str (r.l).s,.sl ((r.l).as.map Tm.row),.int (r.r).k,.int (r.r).n,.str (r.r).s,.sl ((r.r).as.map Tm.row),.sl (r.g.map Gu.row),.int u.k,.int u.n,.str u.s,.sl (u.as.map Tm.row)]=some (0,[.bool (fireR r u).isSome,.sl ((fiL r u).map Bnd.row)]):=by
 have hln:=valid_nodes hr.lv;have hrn:=valid_nodes hr.rv;have hgl:=hr.b.g;have h1:=r298 r.l u (by omega) (small_of u (by omega))
 have hL:(∀ b∈fiL r u,b.2.nodes<=60)/\(fiL r u).length<=1048576:=by
  unfold fiL;cases hq:mT r.l u [] with
  | none=>exact ⟨by simp,by simp⟩
  | some l =>
   have hls:=mT_all (fun t=>t.nodes<=60) (fun t a h ha=>nodes_sub t a h ha) _ u [] l hu (by simp) hq
   have h1:=srtN_len r.l.names;have h2:=srtN_len (srtN r.l.names);have h3:=names_nodes r.l;have h4:=rsB_len l (srtN (srtN r.l.names));exact ⟨fun b hb=>rsB_mem (P:=fun t=>t.nodes<=60) hls _ b hb,by show (rsB l _).length<=_; omega⟩
 have hss:∀ b∈fiL r u,Small b.2:=fun b hb=>small_of _ (by have:=hL.1 b hb; omega)
 have e:rn ⟨298,0,0⟩ [.int (r.l).k,.int (r.l).n,.str (r.l).s,.sl ((r.l).as.map Tm.row),.int u.k,.int u.n,.str u.s,.sl (u.as.map Tm.row)]=some (0,[.bool (mT r.l u []).isSome,.sl ((fiL r u).map Bnd.row)]):=by
  rw [h1]; unfold fiL;cases mT r.l u [] <;> rfl
 have key:∀ n i (b:Bool),i+n=r.g.length->rn ⟨264,0,1⟩ [.bool b,.int (i:Int),.str r.n,.int (r.l).k,.int (r.l).n,.str (r.l).s,.sl ((r.l).as.map Tm.row),.int (r.r).k,.int (r.r).n,.str (r.r).s,.sl ((r.r).as.map Tm.row),.sl (r.g.map Gu.row),.sl ((fiL r u).map Bnd.row)]=some (0,[.bool (b&&(r.g.drop i).all fun g=>holds (appG (fiL r u) g)),.sl ((fiL r u).map Bnd.row)]):=by
  intro n;induction n with
  | zero =>
   intro i b hi;obtain rfl:i=r.g.length:=by omega
   rw [e264_0_1];simp only [List.length_map,Int.ofNat_lt,Nat.lt_irrefl,decide_false,cond_false,List.drop_length,List.all_nil,Bool.and_true]
  | succ n ih =>
   intro i b hi;have hlt:i<r.g.length:=by omega
   have hgi:=hr.gl _ (List.getElem_mem hlt);have g1:=valid_nodes hgi.1;have g2:=valid_nodes hgi.2;have a1:=r284 (fiL r u) hL.2 hss r.g[i] ⟨by omega,by omega⟩
   have a2:=r283 (appG (fiL r u) r.g[i]) (appG_ok60 hL.1 g1 g2);rw [e264_0_1,List.drop_eq_getElem_cons hlt];cases b with
   | false=>simp [hlt]
   | true =>
    simp only [List.length_map,Int.ofNat_lt,hlt,decide_true,cond_true,inbN,Int.toNat_natCast,rowAt_map hlt,wrap_succ hlt (maxB (by omega)),gu_row,nv0,nvS,dvI,dvB,dvS,dvL,Option.bind_some,a1,a2,ih (i+1) _ (by omega),List.all_cons,Bool.true_and]
 have h2:=fun b=>key r.g.length 0 b (by omega)
 simp only [List.drop_zero,Int.natCast_zero] at h2;rw [e264_0_0];simp only [e,nv0,nvS,dvI,dvB,dvS,dvL,Option.bind_some,Nat.beq_refl,cond_true,cond_false,h2];rw [fireR_eq];cases ((mT r.l u []).isSome&&r.g.all fun g=>holds (appG (fiL r u) g)) <;> rfl
theorem r256 (d:DfM) (hd:DfG d) (u:Tm) (hu:u.nodes<=60):rn ⟨256,0,0⟩ [.sl (d.so.map sRow),.sl (d.op.map OpM.row),.sl (d.ru.map RuM.row),.sl (d.st.map StM.row),.int u.k,.int u.n,.str u.s,.sl (u.as.map Tm.row)]=some (0,[.int (optZ (rootF d.ru u))]):=by
 have hrl:=hd.b.ru;have key:∀ n i,i+n=d.ru.length->rn ⟨256,0,1⟩ [.int (d.ru.length:Int),.int (i:Int),.sl (d.so.map sRow),.sl (d.op.map OpM.row),.sl (d.ru.map RuM.row),.sl (d.st.map StM.row),.int u.k,.int u.n,.str u.s,.sl (u.as.map Tm.row)]=match (d.ru.drop i).findIdx? (fun r=>(fireR r u).isSome) with
  | some j=>some (1,[.int ((i+j:Nat):Int)])
  | none=>some (0,[]):=by
  intro n;induction n with
  | zero =>
   intro i hi;obtain rfl:i=d.ru.length:=by omega
   rw [e256_0_1];simp only [List.length_map,Int.ofNat_lt,Nat.lt_irrefl,decide_false,cond_false,List.drop_length,List.findIdx?_nil]
  | succ n ih =>
   intro i hi;have hlt:i<d.ru.length:=by omega
   have h1:=r315 d hd i hlt u hu;have h2:=ih (i+1) (by omega)
   rw [e256_0_1,List.drop_eq_getElem_cons hlt,List.findIdx?_cons];simp only [Int.ofNat_lt,hlt,decide_true,cond_true,h1,wrap_succ hlt (maxB (by omega)),h2]
   cases fireR d.ru[i] u with
   | some w=>rfl
   | none =>
    simp only [frR,nv0,nvS,dvI,dvB,dvS,dvL,Option.bind_some,cond_false,Option.isSome_none,Bool.false_eq_true,if_false];cases (d.ru.drop (i+1)).findIdx? (fun r=>(fireR r u).isSome) with
    | none=>rfl
    | some j=>simp only [Option.map_some,show i+(j+1)=i+1+j by omega]
 have h:=key d.ru.length 0 (by omega)
 simp only [List.drop_zero,Int.natCast_zero,Nat.zero_add] at h;rw [e256_0_0];simp only [List.length_map,h];unfold rootF;cases d.ru.findIdx? (fun r=>(fireR r u).isSome) <;> rfl
theorem r182 (d:DfM) (hd:DfG d) (u:Tm) (hu:u.nodes<=60):rn ⟨182,0,0⟩ [.sl (d.so.map sRow),.sl (d.op.map OpM.row),.sl (d.ru.map RuM.row),.sl (d.st.map StM.row),.int u.k,.int u.n,.str u.s,.sl (u.as.map Tm.row)]=some (0,[.int (optZ (rootF d.ru u))]):=by
 have hrl:=hd.b.ru;have key:∀ n i,i+n=d.ru.length->rn ⟨182,0,1⟩ [.int (i:Int),.sl (d.so.map sRow),.sl (d.op.map OpM.row),.sl (d.ru.map RuM.row),.sl (d.st.map StM.row),.int u.k,.int u.n,.str u.s,.sl (u.as.map Tm.row)]=match (d.ru.drop i).findIdx? (fun r=>(fireR r u).isSome) with
  | some j=>some (1,[.int ((i+j:Nat):Int)])
  | none=>some (0,[]):=by
  intro n;induction n with
  | zero =>
   intro i hi;obtain rfl:i=d.ru.length:=by omega
   rw [e182_0_1];simp only [List.length_map,Int.ofNat_lt,Nat.lt_irrefl,decide_false,cond_false,List.drop_length,List.findIdx?_nil]
  | succ n ih =>
   intro i hi;have hlt:i<d.ru.length:=by omega
   have h1:=r264 d.ru[i] (hd.ru (List.getElem_mem hlt)) u hu;have h2:=ih (i+1) (by omega)
   rw [e182_0_1,List.drop_eq_getElem_cons hlt,List.findIdx?_cons];simp only [List.length_map,Int.ofNat_lt,hlt,decide_true,cond_true,inbN,Int.toNat_natCast,rowAt_map hlt,wrap_succ hlt (maxB (by omega)),RuM.row,nv0,nvS,dvI,dvB,dvS,dvL,Option.bind_some,h1,h2]
   cases fireR d.ru[i] u with
   | some w=>rfl
   | none =>
    simp only [cond_false,Option.isSome_none,Bool.false_eq_true,if_false];cases (d.ru.drop (i+1)).findIdx? (fun r=>(fireR r u).isSome) with
    | none=>rfl
    | some j=>simp only [Option.map_some,show i+(j+1)=i+1+j by omega]
 have h:=key d.ru.length 0 (by omega)
 simp only [List.drop_zero,Int.natCast_zero,Nat.zero_add] at h;rw [e182_0_0];simp only [h];unfold rootF;cases d.ru.findIdx? (fun r=>(fireR r u).isSome) <;> rfl
end Go.Q.S
