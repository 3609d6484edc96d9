/- The functions of this seat, as that machine runs them, part 1. -/
import Derived.Test.YtddgnnhdjgjmnaaQC
import Derived.Test.YtddgnnhdjgjmnaafmX
import Derived.Test.YtddgnnhdjgjmnaaMA
import Derived.Test.YtddgnnhdjgjmnaaQD
import Derived.Test.YtddgnnhdjgjmnaaChecked
set_option linter.unusedVariables false
set_option linter.unusedSimpArgs false
open Bool renaming not_true->J1
open Int renaming toNat_natCast->E7,natCast_zero->F5,ofNat_lt->F9
open List renaming map_cons->C0,mem_cons->C3,length_map->C4,getElem_mem->C6,append_assoc->D0,length_cons->D3,getD_cons_zero->E2,length_nil->E4,drop_eq_getElem_cons->E5,getD_cons_succ->E8,length_append->E9,map_nil->F8,cons_append->G7,nil_append->J4,drop_zero->J8,map_append->K2,drop_length->K4,sum_cons->K6,append_nil->N4,getElem_map->O0
open Nat renaming ble_eq_true_of_le->F4,zero_add->F7,ble->G6,lt_irrefl->J9,beq_refl->K3,zero_le->O9
open Option renaming bind_some->B6,some->B9,map_some->K1
section
namespace Go.Q.S
open Go Go.Q Go.Proofs
end Go.Q.S
end
section
namespace Go.Q.S
open Go Go.Q Go.Proofs
theorem rCloneS (xs:Rows) (h:xs.length<=274877906944):rn ⟨64,0,0⟩ [.sl xs]=some (0,[.sl xs]):=by
 rw [e64_0_0];have hb:G6 (([]:Rows).length+xs.length) M63=true:=F4 (by unfold M63; simpa using h)
 rw [hb];cases xs with
 | nil=>simp [both]
 | cons x xs=>rfl
theorem rSort (ls:List D):rn ⟨65,0,0⟩ ls=sortG 0 ls:=by rw [rn_eq]; rfl
theorem rComp (ls:List D):rn ⟨66,0,0⟩ ls=compG 0 ls:=by rw [rn_eq]; rfl
theorem r44 (l:List ByteArray) (h:l.length<=274877906944):rn ⟨44,0,0⟩ [.sl (l.map sRow)]=some (0,[.sl ((srtN l).map sRow)]):=by
 rw [e44_0_0,rCloneS _ (by simpa using h)]
 simp only [nth0,nth1,nth2,nth3,nth4,nth5,nth6,nth7,nth8,nth9,nth10,nth11,nth12,nth13,nth14,nth15,nth16,nth17,nth18,nth19,nth20,nth21,nth22,nth23,nth24,nth25,dI,dB,dS,dL,B6];rw [rSort,sortG_eq 0 l (by omega)]
 simp only [nth0,nth1,nth2,nth3,nth4,nth5,nth6,nth7,nth8,nth9,nth10,nth11,nth12,nth13,nth14,nth15,nth16,nth17,nth18,nth19,nth20,nth21,nth22,nth23,nth24,nth25,dI,dB,dS,dL,B6];rw [rComp,compG_eq 0 _ (by simp; omega),compact_sort]
 simp only [nth0,nth1,nth2,nth3,nth4,nth5,nth6,nth7,nth8,nth9,nth10,nth11,nth12,nth13,nth14,nth15,nth16,nth17,nth18,nth19,nth20,nth21,nth22,nth23,nth24,nth25,dI,dB,dS,dL,B6];rw [rowS_map]; rfl
theorem r49 (l:List ByteArray) (h:l.length<=1073741824):rn ⟨49,0,0⟩ [.sl (l.map sRow)]=some (0,[.sl ((srtN l).map sRow)]):=by
 rw [e49_0_0,sRow_map];unfold srtN;generalize hks:l.map toK=ks;have hk:ks.length<=1073741824:=by rw [<- hks]; simpa using h
 have hin:∀ (i:Nat) (hi:i<ks.length) (acc:List Ky),acc.length<=1073741824->∀ n a,a+n=acc.length->rn ⟨49,0,3⟩ [.sl (ks.map rowS),.int (i:Int),.int (a:Int),.sl (acc.map rowS)] =
  some (0,[.sl (ks.map rowS),.int (i:Int),.int ((a+ldK ks[i] (acc.drop a):Nat):Int),.sl (acc.map rowS)]):=by
  intro i hi acc hacc n;induction n with
  | zero =>
   intro a ha;have:a=acc.length:=by omega
   subst this;rw [e49_0_3];simp [ldK]
  | succ n ih =>
   intro a ha;have hlt:a<acc.length:=by omega
   rw [e49_0_3,ldK_drop _ _ _ hlt];simp only [E7,rowAt_map hi,rowAt_map hlt,C4,inbN,hi,hlt,F9,H3,H1,nth0,nth1,nth2,nth3,nth4,nth5,nth6,nth7,nth8,nth9,nth10,nth11,nth12,nth13,nth14,nth15,nth16,nth17,nth18,nth19,nth20,nth21,nth22,nth23,nth24,nth25,dI,dB,dS,dL,B6,rowS_sRow,sRow,ltB_ofK,wrap_succ hlt (by unfold maxLen; omega)]
   by_cases hx:acc[a]<ks[i]
   · rw [H5 hx,H7 hx,H1,ih (a+1) (by omega)]
     have e:a+1+ldK ks[i] (acc.drop (a+1))=a+(ldK ks[i] (acc.drop (a+1))+1):=by omega
     rw [e]
   · rw [H6 hx,H8 hx,H2]; rfl
 have hout:∀ n (i:Nat) (acc:List Ky),i+n=ks.length->acc.length<=i->rn ⟨49,0,1⟩ [.sl (ks.map rowS),.int (i:Int),.sl (acc.map rowS)]=some (0,[.sl ((srtK (ks.drop i) acc).map rowS)]):=by
  intro n;induction n with
  | zero =>
   intro i acc hi ha;have:i=ks.length:=by omega
   subst this;rw [e49_0_1];simp [srtK]
  | succ n ih =>
   intro i acc hi ha;have hlt:i<ks.length:=by omega
   have hI:=hin i hlt acc (by omega) acc.length 0 (by omega)
   rw [J8,F7] at hI;rw [e49_0_1];have hc:ldK ks[i] acc<=acc.length:=ldK_le _ _;have hz:((0:Nat):Int)=0:=rfl;rw [hz] at hI;rw [hI,E5 hlt];have hins:=insK_ld ks[i] acc;have hil:(insK ks[i] acc).length<=i+1:=by
    rw [hins]; split
    · omega
    · simp; omega
   have ih':=ih (i+1) (insK ks[i] acc) (by omega) hil
   simp only [C4,F9,hlt,H3,H1,nth0,nth1,nth2,nth3,nth4,nth5,nth6,nth7,nth8,nth9,nth10,nth11,nth12,nth13,nth14,nth15,nth16,nth17,nth18,nth19,nth20,nth21,nth22,nth23,nth24,nth25,dI,dB,dS,dL,B6,K3,E7,wrap_succ hlt (by unfold maxLen; omega),srtK] at ih' ⊢
   rw [<- ih'];generalize hcc:ldK ks[i] acc=c at hc hins ⊢;have h0:(0:Int)<=(c:Int):=by omega
   have h3:(c:Int)<=(acc.length:Int):=by omega
   have hb2:G6 (([]:Rows).length+(List.drop (Int.toNat 0) (List.take c (acc.map rowS))).length) M63=true:=F4 (by unfold M63; simp; omega)
   have hb3:∀ z:Rows,z.length=1->G6 (([]++List.drop (Int.toNat 0) (List.take c (acc.map rowS)):Rows).length+z.length) M63=true:=fun z hz=>F4 (by unfold M63; simp [hz]; omega)
   have hb4:∀ z:Rows,z.length=1->G6 ((([]++List.drop (Int.toNat 0) (List.take c (acc.map rowS)):Rows)++z).length+(List.drop c (List.take acc.length (acc.map rowS))).length) M63=true:=fun z hz=>F4 (by unfold M63; simp [hz]; omega)
   have hfin:([]++List.drop (Int.toNat 0) (List.take c (acc.map rowS)):Rows)++[rowS ks[i]]++List.drop c (List.take acc.length (acc.map rowS))=(List.take c acc++[ks[i]]++List.drop c acc).map rowS:=by
    simp [List.map_take,List.map_drop,List.take_of_length_le]
   simp only [rowAt_map hlt,inbN,hlt,H3,H1];by_cases h1:c<acc.length
   · simp only [H7 h1,H1,rowAt_map h1,nth0,nth1,nth2,nth3,nth4,nth5,nth6,nth7,nth8,nth9,nth10,nth11,nth12,nth13,nth14,nth15,nth16,nth17,nth18,nth19,nth20,nth21,nth22,nth23,nth24,nth25,dI,dB,dS,dL,B6,rowS_sRow,sRow,ofK_inj]
     rw [List.getElem?_eq_getElem h1] at hins;by_cases h2:acc[c]=ks[i]
     · rw [H7 h2,H1,hins,H5 (by rw [h2])]
     · rw [H8 h2,H2,hins,H6 (by simpa using h2)]
       simp only [h0,h3,Int.le_refl,H3,Bool.and_self,H1];rw [hb2,hb3 _ rfl,hb4 _ rfl];simp only [H1];rw [<- hfin]; rfl
   · simp only [H8 h1,H2]
     rw [List.getElem?_eq_none (by omega)] at hins
     rw [hins,H6 (by simp)]
     simp only [h0,h3,Int.le_refl,H3,Bool.and_self,H1];rw [hb2];simp only [H1,rowAt_map hlt,nth0,nth1,nth2,nth3,nth4,nth5,nth6,nth7,nth8,nth9,nth10,nth11,nth12,nth13,nth14,nth15,nth16,nth17,nth18,nth19,nth20,nth21,nth22,nth23,nth24,nth25,dI,dB,dS,dL,B6,rowS_sRow,sRow];rw [hb3 _ rfl,hb4 _ rfl];simp only [H1];rw [<- hfin]; rfl
 have:=hout ks.length 0 [] (by omega) (O9 _)
 simp only [F5,F8,J8] at this;rw [this];simp only [nth0,nth1,nth2,nth3,nth4,nth5,nth6,nth7,nth8,nth9,nth10,nth11,nth12,nth13,nth14,nth15,nth16,nth17,nth18,nth19,nth20,nth21,nth22,nth23,nth24,nth25,dI,dB,dS,dL,B6,K3,H1];rw [rowS_map]
end Go.Q.S
end
section
namespace Go.Q.S
open Go Go.Q Go.Proofs
theorem r33:∀ t:Tm,Small t->rn ⟨33,0,0⟩ [.int t.k,.int t.n,.str t.s,.sl (t.as.map Tm.row)]=some (0,[.int t.k,.int t.n,.str t.s,.sl (t.as.map Tm.row)]):=Tm.ind fun t ih h=>by
 have hl:=h.len;show rn _ _=_
 rw [e33_0_0];have hf:=map_loop (F:=fun i acc=>rn ⟨33,0,1⟩ [.sl (t.as.map Tm.row),.int ((t.as.map Tm.row)).length,.int (i:Int),.int 0,.int 0,.str (⟨#[]⟩:ByteArray),.int t.k,.int t.n,.str t.s,.sl [],.sl acc]) (xs:=t.as) Tm.row (K:=fun acc=>some (0,[.int (0),.int (0),.str ((⟨#[]⟩:ByteArray)),.int (t.k),.int (t.n),.str (t.s),.sl ([]),.sl (acc)])) (fun i hi acc ha=>?_) (fun acc=>?_)
 · simp only [F5] at hf; rw [hf]; rfl
 · have hc:=ih _ (C6 hi) (h.sub (C6 hi))
   rw [e33_0_1];simp only [E7,rowAt_map hi,Tm.row_eq,C4,inbN,hi,F9,H3,H1,nth,E2,E8,D.I,D.S,D.L,D.B,wrap_succ hi (by unfold maxLen; omega),hc,B6,D3,E4]
   rw [show G6 (acc.length+(0+1)) M63=true from F4 (by unfold M63; omega)]
   rfl
 · skip
   rw [e33_0_1];simp
theorem r48:∀ t:Tm,Small t->rn ⟨48,0,0⟩ [.int t.k,.int t.n,.str t.s,.sl (t.as.map Tm.row)]=some (0,[.int t.k,.int t.n,.str t.s,.sl (t.as.map Tm.row)]):=Tm.ind fun t ih h=>by
 have hl:=h.len;show rn _ _=_
 rw [e48_0_0];have hf:=map_loop (F:=fun i acc=>rn ⟨48,0,1⟩ [.int (i:Int),.int t.k,.int t.n,.str t.s,.sl (t.as.map Tm.row),.int 0,.int 0,.str (⟨#[]⟩:ByteArray),.sl acc,.sl []]) (xs:=t.as) Tm.row (K:=fun acc=>some (0,[.int (t.k),.int (t.n),.str (t.s),.sl ((t.as.map Tm.row)),.int (0),.int (0),.str ((⟨#[]⟩:ByteArray)),.sl (acc),.sl ([])])) (fun i hi acc ha=>?_) (fun acc=>?_)
 · simp only [F5] at hf; rw [hf]; rfl
 · have hc:=ih _ (C6 hi) (h.sub (C6 hi))
   rw [e48_0_1];simp only [E7,rowAt_map hi,Tm.row_eq,C4,inbN,hi,F9,H3,H1,nth,E2,E8,D.I,D.S,D.L,D.B,wrap_succ hi (by unfold maxLen; omega),hc,B6,D3,E4]
   rw [show G6 (acc.length+(0+1)) M63=true from F4 (by unfold M63; omega)]
   rfl
 · skip
   rw [e48_0_1];simp
theorem r32 (l:List Bnd) (hl:l.length<=1048576) (s:ByteArray):rn ⟨32,0,0⟩ [.sl (l.map Bnd.row),.str s]=match bnd l s with
 | some t=>some (0,[.int t.k,.int t.n,.str t.s,.sl (t.as.map Tm.row),.bool true])
 | none=>some (0,[.int 0,.int 0,.str ⟨#[]⟩,.sl [],.bool false]):=by
 show rn _ _=_
 rw [e32_0_0];have hf:=find_loop (F:=fun i=>rn ⟨32,0,1⟩ [.str s,.sl (l.map Bnd.row),.int ((l.map Bnd.row)).length,.int (i:Int),.int 0,.int 0,.str (⟨#[]⟩:ByteArray),.sl []]) (xs:=l) (p:=fun b=>decide (b.1=s)) (A:=some (0,[.int (0),.int (0),.str ((⟨#[]⟩:ByteArray)),.sl ([])])) (B:=fun i b=>some (1,[.int b.2.k,.int b.2.n,.str b.2.s,.sl (b.2.as.map Tm.row)])) (fun i hi=>?_) ?_
 · simp only [F5] at hf
   rw [bnd_find];rcases hf with ⟨h1,h2⟩|⟨i,hi,h1,h2⟩
   · rw [h1,h2]; rfl
   · rw [h1,h2]; rfl
 · skip
   rw [e32_0_1];simp only [E7,rowAt_map hi,bd_row,C4,inbN,hi,F9,H3,H1,nth,E2,E8,D.I,D.S,D.L,D.B,wrap_succ hi (by unfold maxLen; omega)]
 · skip
   rw [e32_0_1];simp
theorem r67 (l:List Bnd) (hl:l.length<=1048576) (s:ByteArray):(bnd l s=none/\rn ⟨67,0,0⟩ [.sl (l.map Bnd.row),.str s]=some (0,[.int (-1)]))\/∃ i,∃ hi:i<l.length,bnd l s=some l[i].2/\rn ⟨67,0,0⟩ [.sl (l.map Bnd.row),.str s]=some (0,[.int (i:Int)]):=by
 have hf:=find_loop (F:=fun i=>rn ⟨67,0,1⟩ [.sl (l.map Bnd.row),.str s,.int (i:Int)]) (xs:=l) (p:=fun b=>decide (b.1=s)) (A:=some (0,[])) (B:=fun i b=>some (1,[.int (i:Int)])) (fun i hi=>?_) ?_
 · simp only [F5] at hf
   rw [bnd_find];rcases hf with ⟨h1,h2⟩|⟨i,hi,h1,h2⟩
   · left
     refine ⟨by rw [h1]; rfl,?_⟩
     show rn _ _=_
     rw [e67_0_0];rw [h2]; rfl
   · right
     refine ⟨i,hi,by rw [h1]; rfl,?_⟩
     show rn _ _=_
     rw [e67_0_0];rw [h2]; rfl
 · skip
   rw [e67_0_1];simp only [E7,rowAt_map hi,bd_row,C4,inbN,hi,F9,H3,H1,nth,E2,E8,D.I,D.S,D.L,D.B,wrap_succ hi (by unfold maxLen; omega)]
 · skip
   rw [e67_0_1];simp
theorem r47 (l:List Bnd) (hl:l.length<=1048576) (hs:∀ b∈l,Small b.2) (s:ByteArray):rn ⟨47,0,0⟩ [.sl (l.map Bnd.row),.str s]=match bnd l s with
 | some t=>some (0,[.int t.k,.int t.n,.str t.s,.bool true,.sl (t.as.map Tm.row)])
 | none=>some (0,[.int 0,.int 0,.str ⟨#[]⟩,.bool false,.sl []]):=by
 show rn _ _=_
 rw [e47_0_0];rcases r67 l hl s with ⟨h1,h2⟩|⟨i,hi,h1,h2⟩
 · skip
   rw [h1,h2]; rfl
 · skip
   have hc:=r48 l[i].2 (hs _ (C6 hi));rw [h1,h2];have hn:¬((i:Int)<0):=by omega
   simp only [B6,nth,E2,E8,D.I,D.S,D.L,D.B,E7,rowAt_map hi,bd_row,C4,inbN,hi,hn,H3,H4,H1,H2,hc]
theorem r13 (l:List Bnd) (hl:l.length<=1048576) (hs:∀ b∈l,Small b.2):∀ t:Tm,Small t->rn ⟨13,0,0⟩ [.sl (l.map Bnd.row),.int t.k,.int t.n,.str t.s,.sl (t.as.map Tm.row)]=some (0,[.int (aS l t).k,.int (aS l t).n,.str (aS l t).s,.sl ((aS l t).as.map Tm.row)]):=Tm.ind fun t ih h=>by
 have hlt:=h.len;show rn _ _=_
 rw [e13_0_0];have hf:=map_loop (F:=fun i acc=>rn ⟨13,0,1⟩ [.sl (l.map Bnd.row),.sl (t.as.map Tm.row),.int ((t.as.map Tm.row)).length,.int (i:Int),.int 0,.int 0,.str (⟨#[]⟩:ByteArray),.int t.k,.int t.n,.str t.s,.sl [],.sl acc]) (xs:=t.as) (fun x=>(aS l x).row) (K:=fun acc=>some (0,[.int (0),.int (0),.str ((⟨#[]⟩:ByteArray)),.int (t.k),.int (t.n),.str (t.s),.sl ([]),.sl (acc)])) (fun i hi acc ha=>?_) (fun acc=>?_)
 · simp only [F5] at hf
   have hb:=r32 l hl t.s;rw [aS_eq];by_cases hk:t.k=1
   · rw [H5 hk]
     cases hq:bnd l t.s with
     | none =>
      rw [hq] at hb;simp only at hb;simp only [H7 hk,H1,hb,B6,nth,E2,E8,D.I,D.S,D.L,D.B,H2,hf];simp [Tm.k,Tm.n,Tm.s,Tm.as,Function.comp_def]
     | some u =>
      rw [hq] at hb;simp only at hb;obtain ⟨b,hbm,rfl⟩:=bnd_mem hq;have hcp:=r33 b.2 (hs b hbm);simp only [H7 hk,H1,hb,B6,nth,E2,E8,D.I,D.S,D.L,D.B,hcp]
   · rw [H6 hk]
     simp only [H8 hk,H2,hf,B6,nth,E2,E8,D.I,D.S,D.L,D.B];simp [Tm.k,Tm.n,Tm.s,Tm.as,Function.comp_def]
 · have hc:=ih _ (C6 hi) (h.sub (C6 hi))
   rw [e13_0_1];simp only [E7,rowAt_map hi,Tm.row_eq,C4,inbN,hi,F9,H3,H1,nth,E2,E8,D.I,D.S,D.L,D.B,wrap_succ hi (by unfold maxLen; omega),hc,B6,D3,E4]
   rw [show G6 (acc.length+(0+1)) M63=true from F4 (by unfold M63; omega)]
   rfl
 · skip
   rw [e13_0_1];simp
theorem r41 (l:List Bnd) (hl:l.length<=1048576) (hs:∀ b∈l,Small b.2):∀ t:Tm,Small t->rn ⟨41,0,0⟩ [.sl (l.map Bnd.row),.int t.k,.int t.n,.str t.s,.sl (t.as.map Tm.row)]=some (0,[.int (aS l t).k,.int (aS l t).n,.str (aS l t).s,.sl ((aS l t).as.map Tm.row)]):=Tm.ind fun t ih h=>by
 have hlt:=h.len;show rn _ _=_
 rw [e41_0_0];have hf:=map_loop (F:=fun i acc=>rn ⟨41,0,1⟩ [.sl (l.map Bnd.row),.int (i:Int),.int t.k,.int t.n,.str t.s,.sl (t.as.map Tm.row),.int 0,.int 0,.str (⟨#[]⟩:ByteArray),.int t.k,.int t.n,.str t.s,.sl [],.sl acc]) (xs:=t.as) (fun x=>(aS l x).row) (K:=fun acc=>some (0,[.int (0),.int (0),.str ((⟨#[]⟩:ByteArray)),.int (t.k),.int (t.n),.str (t.s),.sl ([]),.sl (acc)])) (fun i hi acc ha=>?_) (fun acc=>?_)
 · simp only [F5] at hf
   have hb:=r47 l hl hs t.s;rw [aS_eq];by_cases hk:t.k=1
   · rw [H5 hk]
     cases hq:bnd l t.s with
     | none =>
      rw [hq] at hb;simp only at hb;simp only [H7 hk,H1,hb,B6,nth,E2,E8,D.I,D.S,D.L,D.B,H2,hf];simp [Tm.k,Tm.n,Tm.s,Tm.as,Function.comp_def]
     | some u =>
      rw [hq] at hb;simp only at hb;obtain ⟨b,hbm,rfl⟩:=bnd_mem hq;have hcp:=r33 b.2 (hs b hbm);simp only [H7 hk,H1,hb,B6,nth,E2,E8,D.I,D.S,D.L,D.B,hcp]
   · rw [H6 hk]
     simp only [H8 hk,H2,hf,B6,nth,E2,E8,D.I,D.S,D.L,D.B];simp [Tm.k,Tm.n,Tm.s,Tm.as,Function.comp_def]
 · have hc:=ih _ (C6 hi) (h.sub (C6 hi))
   rw [e41_0_1];simp only [E7,rowAt_map hi,Tm.row_eq,C4,inbN,hi,F9,H3,H1,nth,E2,E8,D.I,D.S,D.L,D.B,wrap_succ hi (by unfold maxLen; omega),hc,B6,D3,E4]
   rw [show G6 (acc.length+(0+1)) M63=true from F4 (by unfold M63; omega)]
   rfl
 · skip
   rw [e41_0_1];simp
theorem r58 (n:Int):rn ⟨58,0,0⟩ [.int n]=some (0,[.int 3,.int n,.str ⟨#[]⟩,.sl []]):=by
 show rn _ _=_
 rw [e58_0_0]
theorem r46:∀ t:Tm,t.nodes<=1048577->rn ⟨46,0,0⟩ [.int t.k,.int t.n,.str t.s,.sl (t.as.map Tm.row)]=some (0,[.sl (t.names.map sRow)]):=Tm.ind fun t ih h=>by
 have hnd:=Tm.nodes_eq t;have hsm:=names_sum t;have hlt:=len_sum (xs:=t.as);show rn _ _=_
 rw [e46_0_0];have hf:=fun a0:Rows=>fun ha0:a0.length<=1=>cat_loop (F:=fun i acc=>rn ⟨46,0,1⟩ [.sl (t.as.map Tm.row),.int (t.as.map Tm.row).length,.int (i:Int),.sl acc]) (xs:=t.as) (fun a=>a.names.map sRow) a0 (K:=fun acc=>some (0,[.sl acc])) (fun i hi acc ha=>by
  have hc:=ih _ (C6 hi) (by have:=mem_sum (f:=Tm.nodes) (C6 hi); omega)
  rw [e46_0_1];simp only [E7,rowAt_map hi,Tm.row_eq,C4,inbN,hi,F9,H3,H1,nth,E2,E8,D.I,D.S,D.L,D.B,wrap_succ hi (by unfold maxLen; omega),B6,hc]
  rw [E9,C4] at ha;rw [show G6 (acc.length+t.as[i].names.length) M63=true from F4 (by unfold M63; omega)]
  rfl) (fun acc=>by
  rw [e46_0_1];simp)
 simp only [F5] at hf;rw [names_rows];by_cases hk:t.k=1
 · rw [H5 hk,H7 hk]
   have h1:=hf [sRow t.s] (by simp)
   simp only [sRow] at h1;simp only [H1,sRow];rw [h1]; rfl
 · rw [H6 hk,H8 hk]
   have h1:=hf [] (by simp)
   simp only [H2];rw [h1]; rfl
theorem r38:∀ t:Tm,∀ a0:Rows,t.nodes<=1048577->a0.length+t.names.length<=1073741824->rn ⟨38,1,0⟩ [.int t.k,.int t.n,.str t.s,.sl (t.as.map Tm.row),.sl a0]=some (0,[.sl (a0++t.names.map sRow)]):=Tm.ind fun t ih a0 h h'=>by
 have hnd:=Tm.nodes_eq t;have hsm:=names_sum t;have hlt:=len_sum (xs:=t.as);show rn _ _=_
 rw [e38_1_0];have hf:=fun a1:Rows=>fun ha1:a1.length+(t.as.flatMap fun a=>a.names.map sRow).length<=1073741824=>cat_loop (F:=fun i acc=>rn ⟨38,1,1⟩ [.int (i:Int),.sl acc,.int t.k,.int t.n,.str t.s,.sl (t.as.map Tm.row)]) (xs:=t.as) (fun a=>a.names.map sRow) a1 (K:=fun acc=>some (0,[.sl acc])) (fun i hi acc ha=>by
  rw [E9] at ha;have hx:t.as[i].nodes<=(t.as.map Tm.nodes).sum:=mem_sum (f:=Tm.nodes) (C6 hi);have hc:=ih _ (C6 hi) acc (by omega) (by rw [C4] at ha; omega)
  rw [e38_1_1];simp only [E7,rowAt_map hi,Tm.row_eq,C4,inbN,hi,F9,H3,H1,nth,E2,E8,D.I,D.S,D.L,D.B,wrap_succ hi (by unfold maxLen; omega),B6,hc]) (fun acc=>by
  rw [e38_1_1];simp)
 simp only [F5] at hf;have hle:t.names.length=(if t.k=1 then [sRow t.s] else []).length+(t.as.flatMap fun a=>a.names.map sRow).length:=by
  rw [<- E9,<- names_rows,C4]
 rw [names_rows];by_cases hk:t.k=1
 · rw [H5 hk] at hle
   rw [H5 hk,H7 hk];have h1:=hf (a0++[sRow t.s]) (by rw [E9]; omega)
   simp only [sRow] at h1;simp only [H1,sRow,D3,E4];rw [show G6 (a0.length+(0+1)) M63=true from F4 (by unfold M63; omega)]
   simp only [H1];rw [h1,D0]; rfl
 · rw [H6 hk] at hle
   rw [H6 hk,H8 hk];have h1:=hf a0 (by rw [E4] at hle; omega)
   simp only [H2];rw [h1]; rfl
theorem r12:∀ t:Tm,∀ u:Tm,Small t->rn ⟨12,0,0⟩ [.int t.k,.int t.n,.str t.s,.sl (t.as.map Tm.row),.int u.k,.int u.n,.str u.s,.sl (u.as.map Tm.row)]=some (0,[.bool (eqb t.row u.row)]):=Tm.ind fun t ih u h=>by
 have hlt:=h.len;show rn _ _=_
 rw [e12_0_0];have hq:eqb t.row u.row=(decide (t.k=u.k)&&(decide (t.n=u.n)&&(decide (t.s=u.s)&&eqb (t.as.map Tm.row) (u.as.map Tm.row)))):=by
  rw [Tm.row_eq t,Tm.row_eq u];simp only [eqb_cons,eqb_nil,eqb_int,eqb_str,eqb_sl,Bool.and_true]
 rw [hq];try simp only [C4]
 by_cases l0:u.as.length≠t.as.length
 · rw [H8 (by omega:¬(t.as.length:Int)=(u.as.length:Int)),eqb_len (fun h=>l0 (by simpa using h.symm))]
   cases decide (t.k=u.k) <;> cases decide (t.n=u.n) <;> cases decide (t.s=u.s) <;> rfl
 have l0:=Classical.not_not.1 l0;rw [H7 (by omega:(t.as.length:Int)=(u.as.length:Int))]
 have hf:=eq_loop (F:=fun i=>rn ⟨12,0,1⟩ [.int (i:Int),.int t.k,.int t.n,.str t.s,.sl (t.as.map Tm.row),.int u.k,.int u.n,.str u.s,.sl (u.as.map Tm.row)]) (xs:=t.as.map Tm.row) (ys:=u.as.map Tm.row) (A:=some (0,[])) (B:=some (1,[])) (by simpa using l0) (fun i hi=>?_) ?_
 · simp only [F5] at hf
   rw [hf];cases decide (t.k=u.k) <;> cases decide (t.n=u.n) <;> cases decide (t.s=u.s) <;> cases eqb (t.as.map Tm.row) (u.as.map Tm.row) <;> rfl
 · have hi:i<t.as.length:=by simpa using hi
   have hi2:i<u.as.length:=by omega
   have hc:=ih _ (C6 hi) u.as[i] (h.sub (C6 hi));rw [e12_0_1];rw [O0,O0];generalize eqb t.as[i].row u.as[i].row=z at hc ⊢;simp only [E7,rowAt_map hi,rowAt_map hi2,Tm.row_eq,C4,inbN,hi,hi2,F9,H3,H1,nth,E2,E8,D.I,D.S,D.L,D.B,wrap_succ hi (by unfold maxLen; omega),B6,hc]
   cases z <;> rfl
 · skip
   rw [e12_0_1];simp
theorem r43:∀ t:Tm,∀ u:Tm,Small t->rn ⟨43,0,0⟩ [.int t.k,.int t.n,.str t.s,.sl (t.as.map Tm.row),.int u.k,.int u.n,.str u.s,.sl (u.as.map Tm.row)]=some (0,[.bool (eqb t.row u.row)]):=Tm.ind fun t ih u h=>by
 have hlt:=h.len;show rn _ _=_
 rw [e43_0_0];have hq:eqb t.row u.row=(decide (t.k=u.k)&&(decide (t.n=u.n)&&(decide (t.s=u.s)&&eqb (t.as.map Tm.row) (u.as.map Tm.row)))):=by
  rw [Tm.row_eq t,Tm.row_eq u];simp only [eqb_cons,eqb_nil,eqb_int,eqb_str,eqb_sl,Bool.and_true]
 rw [hq];try simp only [C4]
 have hl:rn ⟨63,0,0⟩ [.sl (t.as.map Tm.row),.sl (u.as.map Tm.row)]=some (0,[.bool (eqb (t.as.map Tm.row) (u.as.map Tm.row))]):=by
  rw [e63_0_0];simp only [C4];by_cases l0:u.as.length≠t.as.length
  · rw [H8 (by omega:¬(t.as.length:Int)=(u.as.length:Int)),eqb_len (fun h=>l0 (by simpa using h.symm))]; rfl
  have l0:=Classical.not_not.1 l0;rw [H7 (by omega:(t.as.length:Int)=(u.as.length:Int))]
  have hf:=eq_loop (F:=fun i=>rn ⟨63,0,1⟩ [.sl (u.as.map Tm.row),.sl (t.as.map Tm.row),.int ((t.as.map Tm.row)).length,.int (i:Int)]) (xs:=t.as.map Tm.row) (ys:=u.as.map Tm.row) (A:=some (0,[])) (B:=some (1,[])) (by simpa using l0) (fun i hi=>?_) ?_
  · simp only [F5,C4] at hf
    rw [hf];cases eqb (t.as.map Tm.row) (u.as.map Tm.row) <;> rfl
  · have hi:i<t.as.length:=by simpa using hi
    have hi2:i<u.as.length:=by omega
    have hc:=ih _ (C6 hi) u.as[i] (h.sub (C6 hi));rw [e63_0_1];rw [O0,O0];generalize eqb t.as[i].row u.as[i].row=z at hc ⊢;simp only [E7,rowAt_map hi,rowAt_map hi2,Tm.row_eq,C4,inbN,hi,hi2,F9,H3,H1,nth,E2,E8,D.I,D.S,D.L,D.B,wrap_succ hi (by unfold maxLen; omega),B6,hc]
    cases z <;> rfl
  · skip
    rw [e63_0_1];simp
 simp only [hl,B6,nth,E2,E8,D.I,D.S,D.L,D.B];cases decide (t.k=u.k) <;> cases decide (t.n=u.n) <;> cases decide (t.s=u.s) <;> rfl
end Go.Q.S
end
section
namespace Go.Q.S
open Go Go.Q Go.Proofs
theorem maxB {n:Nat} (h:n<=1099511627776):n<=maxLen:=by unfold maxLen; omega
theorem nb {n m:Nat} (h:n+m<=274877906944):G6 (n+m) M63=true:=F4 h
end Go.Q.S
end
section
namespace Go.Q.S
open Go Go.Q Go.Proofs
theorem r27 (t:Tm) (h:t.nodes<=1048577):rn ⟨27,0,0⟩ [.int t.k,.int t.n,.str t.s,.sl (t.as.map Tm.row)]=some (0,[.sl ((srtN t.names).map sRow)]):=by
 have hn:=names_nodes t;have h1:=r38 t [] h (by simp; omega)
 have h2:=r49 t.names (by omega)
 rw [e27_0_0];rw [J4] at h1;simp only [h1,nv0,nvS,dvI,dvB,dvS,dvL,B6,h2]
end Go.Q.S
end
section
namespace Go.Q.S
open Go Go.Q Go.Proofs
theorem mI2:∀ t u:Tm,∀ l:List Bnd,Small u->(∀ b∈l,Small b.2)->l.length+t.nodes<=1048576->rn ⟨22,2,0⟩ [.int t.k,.int t.n,.str t.s,.sl (t.as.map Tm.row),.int u.k,.int u.n,.str u.s,.sl (u.as.map Tm.row),.sl (l.map Bnd.row)]=some (0,foI (mT t u l) (if t.k=1 then l.map Bnd.row else [])):=Tm.ind fun t ih u l hu hl hb=>by
 have hnd:=Tm.nodes_eq t;have hls:=len_sum (xs:=t.as);have hlp:t.as.length=u.as.length->∀ n i (l:List Bnd),i+n=t.as.length->(∀ b∈l,Small b.2)->l.length+((t.as.drop i).map Tm.nodes).sum<=1048576->rn ⟨22,2,1⟩ [.int (t.as.length:Int),.int (i:Int),.sl (l.map Bnd.row),.int t.k,.int t.n,.str t.s,.sl (t.as.map Tm.row),.int u.k,.int u.n,.str u.s,.sl (u.as.map Tm.row)]=match mTs (t.as.drop i) (u.as.drop i) l with
  | some l'=>some (0,[.sl (l'.map Bnd.row)])
  | none=>some (1,[.sl []]):=by
  intro hlen n;induction n with
  | zero =>
   intro i l hi hl hb;obtain rfl:i=t.as.length:=by omega
   rw [e22_2_1];simp only [C4,F9,J9,H4,H2,K4,mTs]
  | succ n ih2 =>
   intro i l hi hl hb;have hlt:i<t.as.length:=by omega
   have hlu:i<u.as.length:=by omega
   rw [E5 hlt] at hb ⊢;rw [E5 hlu];simp only [C0,K6] at hb;have hm:=C6 hlt;have hmu:=C6 hlu;have h1:=ih _ hm u.as[i] l (hu.sub hmu) hl (by omega)
   rw [e22_2_1];simp only [C4,F9,hlt,H3,H1,inbN,E7,rowAt_map hlt,wrap_succ hlt (maxB (by omega)),hlu,rowAt_map hlu,Tm.row_eq,nv0,nvS,dvI,dvB,dvS,dvL,B6,h1,mTs]
   cases hq:mT t.as[i] u.as[i] l with
   | none=>rfl
   | some l1 =>
    have hl1:=mT_all Small (fun t a h ha=>h.sub ha) _ _ l l1 (hu.sub hmu) hl hq
    have hn1:=mT_len _ _ _ _ hq;have h2:=ih2 (i+1) l1 (by omega) hl1 (by omega)
    simp only [foI,nv0,nvS,dvI,dvB,dvS,dvL,B6,J1,H2,h2]
 have h0:=fun h=>hlp h t.as.length 0 l (by omega) hl (by rw [J8]; omega)
 simp only [J8,F5] at h0;rw [e22_2_0,mT_eq];by_cases h1:t.k=1
 · have hbd:=r32 l (by omega) t.s
   have hb2:G6 (l.length+1) M63=true:=nb (by omega)
   simp only [h1,H3,H1,if_true,hbd];cases hq:bnd l t.s with
   | some v =>
    have he:=r43 v u (bnd_mem' hl hq);simp only [nv0,nvS,dvI,dvB,dvS,dvL,B6,H1,he];cases eqb v.row u.row <;> rfl
   | none =>
    simp only [nv0,nvS,dvI,dvB,dvS,dvL,B6,H2,C4,D3,E4,F7,hb2,H1,foI,K2,C0,F8,bd_row]
 · simp only [h1,H4,H2,if_false]
   by_cases e1:t.k=u.k
   · rw [H7 e1,H5 e1]
     by_cases e2:t.n=u.n
     · rw [H7 e2,H5 e2]
       by_cases e3:t.s=u.s
       · rw [H7 e3,H5 e3]
         by_cases e4:t.as.length=u.as.length
         · have e4':((t.as.map Tm.row).length:Int)=((u.as.map Tm.row).length:Int):=by simp [e4]
           rw [H7 e4',H5 e4];simp only [J1,H2,C4,h0 e4];cases mTs t.as u.as l <;> rfl
         · have e4':¬((t.as.map Tm.row).length:Int)=((u.as.map Tm.row).length:Int):=by simp; omega
           rw [H8 e4',H6 e4]; rfl
       · rw [H8 e3,H6 e3]; rfl
     · rw [H8 e2,H6 e2]; rfl
   · rw [H8 e1,H6 e1]; rfl
theorem mI1:∀ t u:Tm,∀ l:List Bnd,Small u->(∀ b∈l,Small b.2)->l.length+t.nodes<=1048576->rn ⟨22,1,0⟩ [.int t.k,.int t.n,.str t.s,.sl (t.as.map Tm.row),.int u.k,.int u.n,.str u.s,.sl (u.as.map Tm.row),.sl (l.map Bnd.row)]=some (0,foI (mT t u l) (if t.k=1 then l.map Bnd.row else [])):=fun t u l hu hl hb=>by
 have ih:=fun (a:Tm) (_:a∈t.as)=>mI2 a
 have hnd:=Tm.nodes_eq t;have hls:=len_sum (xs:=t.as);have hlp:t.as.length=u.as.length->∀ n i (l:List Bnd),i+n=t.as.length->(∀ b∈l,Small b.2)->l.length+((t.as.drop i).map Tm.nodes).sum<=1048576->rn ⟨22,1,1⟩ [.int (t.as.length:Int),.int (i:Int),.sl (l.map Bnd.row),.int t.k,.int t.n,.str t.s,.sl (t.as.map Tm.row),.int u.k,.int u.n,.str u.s,.sl (u.as.map Tm.row)]=match mTs (t.as.drop i) (u.as.drop i) l with
  | some l'=>some (0,[.sl (l'.map Bnd.row)])
  | none=>some (1,[.sl []]):=by
  intro hlen n;induction n with
  | zero =>
   intro i l hi hl hb;obtain rfl:i=t.as.length:=by omega
   rw [e22_1_1];simp only [C4,F9,J9,H4,H2,K4,mTs]
  | succ n ih2 =>
   intro i l hi hl hb;have hlt:i<t.as.length:=by omega
   have hlu:i<u.as.length:=by omega
   rw [E5 hlt] at hb ⊢;rw [E5 hlu];simp only [C0,K6] at hb;have hm:=C6 hlt;have hmu:=C6 hlu;have h1:=ih _ hm u.as[i] l (hu.sub hmu) hl (by omega)
   rw [e22_1_1];simp only [C4,F9,hlt,H3,H1,inbN,E7,rowAt_map hlt,wrap_succ hlt (maxB (by omega)),hlu,rowAt_map hlu,Tm.row_eq,nv0,nvS,dvI,dvB,dvS,dvL,B6,h1,mTs]
   cases hq:mT t.as[i] u.as[i] l with
   | none=>rfl
   | some l1 =>
    have hl1:=mT_all Small (fun t a h ha=>h.sub ha) _ _ l l1 (hu.sub hmu) hl hq
    have hn1:=mT_len _ _ _ _ hq;have h2:=ih2 (i+1) l1 (by omega) hl1 (by omega)
    simp only [foI,nv0,nvS,dvI,dvB,dvS,dvL,B6,J1,H2,h2]
 have h0:=fun h=>hlp h t.as.length 0 l (by omega) hl (by rw [J8]; omega)
 simp only [J8,F5] at h0;rw [e22_1_0,mT_eq];by_cases h1:t.k=1
 · have hbd:=r32 l (by omega) t.s
   have hb2:G6 (l.length+1) M63=true:=nb (by omega)
   simp only [h1,H3,H1,if_true,hbd];cases hq:bnd l t.s with
   | some v =>
    have he:=r43 v u (bnd_mem' hl hq);simp only [nv0,nvS,dvI,dvB,dvS,dvL,B6,H1,he];cases eqb v.row u.row <;> rfl
   | none =>
    simp only [nv0,nvS,dvI,dvB,dvS,dvL,B6,H2,C4,D3,E4,F7,hb2,H1,foI,K2,C0,F8,bd_row]
 · simp only [h1,H4,H2,if_false]
   by_cases e1:t.k=u.k
   · rw [H7 e1,H5 e1]
     by_cases e2:t.n=u.n
     · rw [H7 e2,H5 e2]
       by_cases e3:t.s=u.s
       · rw [H7 e3,H5 e3]
         by_cases e4:t.as.length=u.as.length
         · have e4':((t.as.map Tm.row).length:Int)=((u.as.map Tm.row).length:Int):=by simp [e4]
           rw [H7 e4',H5 e4];simp only [J1,H2,C4,h0 e4];cases mTs t.as u.as l <;> rfl
         · have e4':¬((t.as.map Tm.row).length:Int)=((u.as.map Tm.row).length:Int):=by simp; omega
           rw [H8 e4',H6 e4]; rfl
       · rw [H8 e3,H6 e3]; rfl
     · rw [H8 e2,H6 e2]; rfl
   · rw [H8 e1,H6 e1]; rfl
theorem mS:∀ t u:Tm,∀ l:List Bnd,Small u->(∀ b∈l,Small b.2)->l.length+t.nodes<=1048576->(∀ l',mT t u l=some l'->rn ⟨25,1,0⟩ [.int t.k,.int t.n,.str t.s,.sl (t.as.map Tm.row),.int u.k,.int u.n,.str u.s,.sl (u.as.map Tm.row),.sl (l.map Bnd.row)]=some (0,[.bool true,.sl (l'.map Bnd.row)]))/\(mT t u l=none->(∃ X,rn ⟨25,1,0⟩ [.int t.k,.int t.n,.str t.s,.sl (t.as.map Tm.row),.int u.k,.int u.n,.str u.s,.sl (u.as.map Tm.row),.sl (l.map Bnd.row)]=some (0,[.bool false,.sl X]))\/rn ⟨25,1,0⟩ [.int t.k,.int t.n,.str t.s,.sl (t.as.map Tm.row),.int u.k,.int u.n,.str u.s,.sl (u.as.map Tm.row),.sl (l.map Bnd.row)]=some (1,[])):=Tm.ind fun t ih u l hu hl hb=>by
 have hnd:=Tm.nodes_eq t;have hls:=len_sum (xs:=t.as);have hlp:t.as.length=u.as.length->∀ n i (l:List Bnd),i+n=t.as.length->(∀ b∈l,Small b.2)->l.length+((t.as.drop i).map Tm.nodes).sum<=1048576->rn ⟨25,1,1⟩ [.int (i:Int),.sl (l.map Bnd.row),.int t.k,.int t.n,.str t.s,.sl (t.as.map Tm.row),.int u.k,.int u.n,.str u.s,.sl (u.as.map Tm.row)]=match mTs (t.as.drop i) (u.as.drop i) l with
  | some l'=>some (0,[.sl (l'.map Bnd.row)])
  | none=>some (1,[]):=by
  intro hlen n;induction n with
  | zero =>
   intro i l hi hl hb;obtain rfl:i=t.as.length:=by omega
   rw [e25_1_1];simp only [C4,F9,J9,H4,H2,K4,mTs]
  | succ n ih2 =>
   intro i l hi hl hb;have hlt:i<t.as.length:=by omega
   have hlu:i<u.as.length:=by omega
   rw [E5 hlt] at hb ⊢;rw [E5 hlu];simp only [C0,K6] at hb;have hm:=C6 hlt;have hmu:=C6 hlu;obtain ⟨h1,h1'⟩:=ih _ hm u.as[i] l (hu.sub hmu) hl (by omega)
   rw [e25_1_1];simp only [C4,F9,hlt,H3,H1,inbN,E7,rowAt_map hlt,wrap_succ hlt (maxB (by omega)),hlu,rowAt_map hlu,Tm.row_eq,nv0,nvS,dvI,dvB,dvS,dvL,B6,mTs]
   cases hq:mT t.as[i] u.as[i] l with
   | none =>
    rcases h1' hq with ⟨X,e⟩ | e
    · rw [e]; rfl
    · rw [e]; rfl
   | some l1 =>
    have hl1:=mT_all Small (fun t a h ha=>h.sub ha) _ _ l l1 (hu.sub hmu) hl hq
    have hn1:=mT_len _ _ _ _ hq;have h2:=ih2 (i+1) l1 (by omega) hl1 (by omega)
    simp only [h1 l1 hq,nv0,nvS,dvI,dvB,dvS,dvL,B6,K3,H1,H2,J1,h2]
 have h0:=fun h=>hlp h t.as.length 0 l (by omega) hl (by rw [J8]; omega)
 simp only [J8,F5] at h0;rw [e25_1_0,mT_eq];by_cases h1:t.k=1
 · have hbd:=r47 l (by omega) hl t.s
   have hb2:G6 (l.length+1) M63=true:=nb (by omega)
   have hcp:=r48 u hu;simp only [h1,H3,H1,if_true,hbd];cases hq:bnd l t.s with
   | some v =>
    have he:=r12 v u (bnd_mem' hl hq);simp only [nv0,nvS,dvI,dvB,dvS,dvL,B6,H1,he];cases eqb v.row u.row with
    | true=>exact ⟨fun l' h=>by simp only [if_true,B9.injEq] at h; subst h; rfl,fun h=>by simp at h⟩
    | false=>exact ⟨fun l' h=>by simp at h,fun _=>.inl ⟨_,rfl⟩⟩
   | none =>
    refine ⟨fun l' h=>?_,fun h=>by simp at h⟩
    simp only [B9.injEq] at h;subst h;simp only [nv0,nvS,dvI,dvB,dvS,dvL,B6,H2,hcp,C4,D3,E4,F7,hb2,H1,K2,C0,F8,bd_row]
 · simp only [h1,H4,H2,if_false]
   by_cases e1:t.k=u.k
   · rw [H7 e1,H5 e1]
     by_cases e2:t.n=u.n
     · rw [H7 e2,H5 e2]
       by_cases e3:t.s=u.s
       · rw [H7 e3,H5 e3]
         by_cases e4:t.as.length=u.as.length
         · have e4':((t.as.map Tm.row).length:Int)=((u.as.map Tm.row).length:Int):=by simp [e4]
           rw [H7 e4',H5 e4];simp only [J1,H2,h0 e4];cases mTs t.as u.as l with
           | none=>exact ⟨fun l' h=>by simp at h,fun _=>.inr rfl⟩
           | some l2=>exact ⟨fun l' h=>by simp only [B9.injEq] at h; subst h; rfl,fun h=>by simp at h⟩
         · have e4':¬((t.as.map Tm.row).length:Int)=((u.as.map Tm.row).length:Int):=by simp; omega
           rw [H8 e4',H6 e4]; exact ⟨fun l' h=>by simp at h,fun _=>.inl ⟨_,rfl⟩⟩
       · rw [H8 e3,H6 e3]; exact ⟨fun l' h=>by simp at h,fun _=>.inl ⟨_,rfl⟩⟩
     · rw [H8 e2,H6 e2]; exact ⟨fun l' h=>by simp at h,fun _=>.inl ⟨_,rfl⟩⟩
   · rw [H8 e1,H6 e1]; exact ⟨fun l' h=>by simp at h,fun _=>.inl ⟨_,rfl⟩⟩
theorem r26 (l:List Bnd) (hl:l.length<=1048576) (hs:∀ b∈l,Small b.2) (ns:List ByteArray) (hn:ns.length<=1048577):rn ⟨26,0,0⟩ [.sl (l.map Bnd.row),.sl (ns.map sRow)]=some (0,[.sl ((rsB l (srtN ns)).map Bnd.row)]):=by
 have h1:=r49 ns (by omega)
 have hsl:=srtN_len ns;rw [e26_0_0,h1];generalize srtN ns=ms at hsl ⊢;have key:∀ n i (acc:List Bnd),i+n=ms.length->acc.length<=i->rn ⟨26,0,1⟩ [.sl (l.map Bnd.row),.int (i:Int),.sl (acc.map Bnd.row),.sl (ms.map sRow)]=some (0,[.sl ((acc++rsB l (ms.drop i)).map Bnd.row)]):=by
  intro n;induction n with
  | zero =>
   intro i acc hi ha;obtain rfl:i=ms.length:=by omega
   rw [e26_0_1];simp only [C4,F9,J9,H4,H2,K4,rsB,List.filterMap_nil,N4]
  | succ n ih =>
   intro i acc hi ha;have hlt:i<ms.length:=by omega
   rw [e26_0_1,E5 hlt,rsB_cons];have hbd:=r47 l hl hs ms[i];have hb2:G6 (acc.length+1) M63=true:=nb (by omega)
   simp only [C4,F9,hlt,H3,H1,inbN,E7,rowAt_map hlt,wrap_succ hlt (maxB (by omega)),sRow,nv0,nvS,dvI,dvB,dvS,dvL,B6,hbd]
   cases hq:bnd l ms[i] with
   | none =>
    have h2:=ih (i+1) acc (by omega) (by omega)
    simp only [nv0,nvS,dvI,dvB,dvS,dvL,B6,H2,h2]
   | some v =>
    have h2:=ih (i+1) (acc++[(ms[i],v)]) (by omega) (by simp; omega)
    simp only [K2,C0,F8,bd_row,sRow] at h2;simp only [nv0,nvS,dvI,dvB,dvS,dvL,B6,H1,D3,E4,F7,hb2,h2,K2,C0,D0,G7,J4,bd_row]
 have h:=key ms.length 0 [] (by omega) (O9 _)
 simp only [F5,F8,J8,J4] at h;simp only [h,nv0,nvS,dvI,dvB,dvS,dvL,B6,K3,H1,H2]
theorem r8 (t u:Tm) (ht:t.nodes<=1048576) (hu:Small u):rn ⟨8,0,0⟩ [.int t.k,.int t.n,.str t.s,.sl (t.as.map Tm.row),.int u.k,.int u.n,.str u.s,.sl (u.as.map Tm.row)]=some (0,foI ((mT t u []).map fun l=>rsB l (srtN (srtN t.names))) []):=by
 obtain ⟨h1,h2⟩:=mS t u [] hu (by simp) (by simpa using ht)
 have h3:=r27 t (by omega)
 have hnl:=names_nodes t;have hsl:=srtN_len t.names;rw [e8_0_0];simp only [F8] at h1 h2;cases hq:mT t u [] with
 | none =>
  rcases h2 hq with ⟨X,e⟩ | e
  · rw [e]; rfl
  · rw [e]; rfl
 | some l =>
  have hls:=mT_all Small (fun t a h ha=>h.sub ha) t u [] l hu (by simp) hq
  have hln:=mT_len _ _ _ _ hq;simp only [E4] at hln;have h4:=r26 l (by omega) hls (srtN t.names) (by omega)
  simp only [h1 l hq,nv0,nvS,dvI,dvB,dvS,dvL,B6,K3,H1,H2,J1,h3,h4,K1,foI]
end Go.Q.S
end
section
namespace Go.Q.S
open Go Go.Q Go.Proofs
theorem r45 (l:List Bnd) (hl:l.length<=1048576) (hs:∀ b∈l,Small b.2) (s:ByteArray):rn ⟨45,0,0⟩ [.sl (l.map Bnd.row),.str s]=match bnd l s with
 | some t=>some (0,[.int t.k,.int t.n,.str t.s,.bool true,.sl (t.as.map Tm.row)])
 | none=>some (0,[.int 0,.int 0,.str ⟨#[]⟩,.bool false,.sl []]):=by
 have hb:=r32 l hl s;rw [e45_0_0,hb];cases hq:bnd l s with
 | some t =>
  obtain ⟨b,hbm,rfl⟩:=bnd_mem hq;have hc:=r33 b.2 (hs b hbm);simp only [nv0,nvS,dvI,dvB,dvS,dvL,B6,hc]
 | none =>
  have hc:=r33 tm0 (small_word ..);have hc':rn ⟨33,0,0⟩ [.int 0,.int 0,.str ⟨#[]⟩,.sl []]=_:=hc;simp only [nv0,nvS,dvI,dvB,dvS,dvL,B6,hc'];rfl
theorem r23 (l:List Bnd) (hl:l.length<=1048576) (hs:∀ b∈l,Small b.2) (ns:List ByteArray) (hn:ns.length<=1048577):rn ⟨23,0,0⟩ [.sl (l.map Bnd.row),.sl (ns.map sRow)]=some (0,[.sl ((rsB l (srtN ns)).map Bnd.row)]):=by
 have h1:=r44 ns (by omega)
 have hsl:=srtN_len ns;rw [e23_0_0,h1];generalize srtN ns=ms at hsl ⊢;have key:∀ n i (acc:List Bnd),i+n=ms.length->acc.length<=i->rn ⟨23,0,1⟩ [.sl (l.map Bnd.row),.int (ms.length:Int),.int (i:Int),.sl (acc.map Bnd.row),.sl (ms.map sRow)]=some (0,[.sl ((acc++rsB l (ms.drop i)).map Bnd.row)]):=by
  intro n;induction n with
  | zero =>
   intro i acc hi ha;obtain rfl:i=ms.length:=by omega
   rw [e23_0_1];simp only [C4,F9,J9,H4,H2,K4,rsB,List.filterMap_nil,N4]
  | succ n ih =>
   intro i acc hi ha;have hlt:i<ms.length:=by omega
   rw [e23_0_1,E5 hlt,rsB_cons];have hbd:=r45 l hl hs ms[i];have hb2:G6 (acc.length+1) M63=true:=nb (by omega)
   simp only [C4,F9,hlt,H3,H1,inbN,E7,rowAt_map hlt,wrap_succ hlt (maxB (by omega)),sRow,nv0,nvS,dvI,dvB,dvS,dvL,B6,hbd]
   cases hq:bnd l ms[i] with
   | none =>
    have h2:=ih (i+1) acc (by omega) (by omega)
    simp only [nv0,nvS,dvI,dvB,dvS,dvL,B6,H2,h2]
   | some v =>
    have h2:=ih (i+1) (acc++[(ms[i],v)]) (by omega) (by simp; omega)
    simp only [K2,C0,F8,bd_row,sRow] at h2;simp only [nv0,nvS,dvI,dvB,dvS,dvL,B6,H1,D3,E4,F7,hb2,h2,K2,C0,D0,G7,J4,bd_row]
 have h:=key ms.length 0 [] (by omega) (O9 _)
 simp only [F5,F8,J8,J4] at h;simp only [C4,h,nv0,nvS,dvI,dvB,dvS,dvL,B6,K3,H1,H2]
theorem r24 (t:Tm) (h:t.nodes<=1048577):rn ⟨24,0,0⟩ [.int t.k,.int t.n,.str t.s,.sl (t.as.map Tm.row)]=some (0,[.sl ((srtN t.names).map sRow)]):=by
 have h1:=r46 t h;have hnl:=names_nodes t;have h2:=r44 t.names (by omega)
 rw [e24_0_0];simp only [h1,nv0,nvS,dvI,dvB,dvS,dvL,B6,h2]
theorem r7 (t u:Tm) (ht:t.nodes<=1048576) (hu:Small u):rn ⟨7,0,0⟩ [.int t.k,.int t.n,.str t.s,.sl (t.as.map Tm.row),.int u.k,.int u.n,.str u.s,.sl (u.as.map Tm.row)]=some (0,foI ((mT t u []).map (rsl t)) []):=by
 have h1:=mI1 t u [] hu (by simp) (by simpa using ht)
 have h3:=r24 t (by omega)
 have hnl:=names_nodes t;have hsl:=srtN_len t.names;rw [e7_0_0];simp only [F8] at h1;rw [h1];cases hq:mT t u [] with
 | none=>simp only [foI,nv0,nvS,dvI,dvB,dvS,dvL,B6,Option.map_none]; rfl
 | some l =>
  have hls:=mT_all Small (fun t a h ha=>h.sub ha) t u [] l hu (by simp) hq
  have hln:=mT_len _ _ _ _ hq;simp only [E4] at hln;have h4:=r23 l (by omega) hls (srtN t.names) (by omega)
  simp only [foI,nv0,nvS,dvI,dvB,dvS,dvL,B6,K3,H1,H2,J1,h3,h4,K1,rsl]
theorem rsl_ok {t u:Tm} {l:List Bnd} (ht:t.nodes<=1048576) (hu:Small u) (h:mT t u []=some l):(rsl t l).length<=1048576/\∀ b∈rsl t l,Small b.2:=by
 have hls:=mT_all Small (fun t a h ha=>h.sub ha) t u [] l hu (by simp) h
 have h1:=srtN_len t.names;have h2:=srtN_len (srtN t.names);have h3:=names_nodes t;refine ⟨Nat.le_trans (List.length_filterMap_le ..) (by omega),fun b hb=>hls _ (rsB_memp hb).2⟩
end Go.Q.S
end
section
namespace Go.Q.S
open Go Go.Q Go.Proofs
theorem byte_ok {code:Rows} (hl:code.length<=1048576) (i:Nat) (h:Int):Good (rn ⟨62,0,0⟩ [.sl code,.int (i:Int),.int h]) fun x=>∃ b:Int,∃ i':Nat,∃ h':Int,0<=b/\b<=255/\x=(0,[.int b,.sl code,.int ((i':Nat):Int),.int h']):=by
 rw [e62_0_0];rw [H7 (by decide:(0:Int)<=33),H7 (by decide:(0:Int)<=45)]
 simp only [H1];by_cases hi:i<code.length
 · rw [H7 (by omega:(i:Int)<(code.length:Int))]
   simp only [H1,inbN,hi,H3,wrap_succ hi (by unfold maxLen; omega)]
   obtain ⟨h1,h2⟩:=and255 (IntKind.i64.wrap ((andI .i64 (xorI .i64 (shrI .i64 (IntKind.i64.wrap ((IntKind.i64.wrap (h*6364136223846793005))+1442695040888963407)) 33) (shrI .i64 (IntKind.i64.wrap ((IntKind.i64.wrap (h*6364136223846793005))+1442695040888963407)) 45)) 255)+(IntKind.i64.wrap ((nth (rowAt code (Int.toNat (i:Int))) 0).I))));exact Good.ret ⟨_,i+1,_,h1,h2,rfl⟩
 · rw [H8 (by omega:¬(i:Int)<(code.length:Int))]
   simp only [H2];obtain ⟨h1,h2⟩:=and255 (xorI .i64 (shrI .i64 (IntKind.i64.wrap ((IntKind.i64.wrap (h*6364136223846793005))+1442695040888963407)) 33) (shrI .i64 (IntKind.i64.wrap ((IntKind.i64.wrap (h*6364136223846793005))+1442695040888963407)) 45));exact Good.ret ⟨_,i,_,h1,h2,rfl⟩
theorem below_ok {code:Rows} (hl:code.length<=1048576) (i:Nat) (h:Int) {n:Int} (h0:0<n) (h1:n<=256):Good (rn ⟨40,0,0⟩ [.int n,.sl code,.int (i:Int),.int h]) fun x=>∃ b:Int,∃ i':Nat,∃ h':Int,0<=b/\b<n/\x=(0,[.int b,.sl code,.int ((i':Nat):Int),.int h']):=by
 rw [e40_0_0];rw [H8 (by omega:¬ n<=0),H7 h1]
 simp only [H1,H2];refine Good.bind (byte_ok hl i h) ?_
 rintro _ ⟨b,i',h',b0,b1,rfl⟩
 simp only [nv0,nvS,dvI,dvB,dvS,dvL,B6];rw [H8 (by omega:¬ n=0)]
 exact Good.ret ⟨_,i',h',Int.tmod_nonneg _ b0,Int.tmod_lt_of_pos _ h0,rfl⟩
theorem once_ok {code:Rows} (hl:code.length<=1048576) (i:Nat) (h:Int) {n:Int} (h0:0<n) (h1:n<=256):Good (rn ⟨30,0,0⟩ [.int n,.sl code,.int (i:Int),.int h]) fun x=>∃ b:Bool,∃ i':Nat,∃ h':Int,x=(0,[.bool b,.sl code,.int ((i':Nat):Int),.int h']):=by
 rw [e30_0_0];refine Good.bind (below_ok hl i h h0 h1) ?_
 rintro _ ⟨b,i',h',b0,b1,rfl⟩
 exact Good.ret ⟨_,i',h',rfl⟩
theorem pick_ok {code:Rows} (hl:code.length<=1048576) (i:Nat) (h:Int) {l:Rows} (h0:0<l.length) (h1:l.length<=256) (hs:∀ k,k<l.length->((nth (rowAt l k) 0).S).size<=1):Good (rn ⟨57,0,0⟩ [.sl l,.sl code,.int (i:Int),.int h]) fun x=>∃ s:ByteArray,∃ i':Nat,∃ h':Int,s.size<=1/\x=(0,[.str s,.sl code,.int ((i':Nat):Int),.int h']):=by
 rw [e57_0_0];refine Good.bind (below_ok hl i h (by omega:(0:Int)<(l.length:Int)) (by omega)) ?_
 rintro _ ⟨b,i',h',b0,b1,rfl⟩
 simp only [nv0,nvS,dvI,dvB,dvS,dvL,B6];rw [show inb b l.length=true from by simp [inb,b0,b1]]
 exact Good.ret ⟨_,i',h',hs b.toNat (by omega),rfl⟩
theorem new_ok {code:Rows} (hl:code.length<=1048576):Good (rn ⟨29,0,0⟩ [.sl code]) fun x=>∃ i':Nat,∃ h':Int,x=(0,[.sl code,.int ((i':Nat):Int),.int h']):=by
 have key:∀ (n i:Nat) (h:Int),i+n=code.length->∃ h':Int,rn ⟨29,0,1⟩ [.sl code,.int h,.int (i:Int)]=some (0,[.sl code,.int h']):=by
  intro n;induction n with
  | zero =>
   intro i h hi;rw [e29_0_1,H8 (by omega:¬(i:Int)<(code.length:Int))]
   exact ⟨_,rfl⟩
  | succ n ih =>
   intro i h hi;have hlt:i<code.length:=by omega
   rw [e29_0_1,H7 (by omega:(i:Int)<(code.length:Int))]
   simp only [H1,inbN,hlt,H3,wrap_succ hlt (by unfold maxLen; omega)]
   cases decide ((i:Int)<4000) with
   | true=>exact ih (i+1) _ (by omega)
   | false=>exact ⟨_,rfl⟩
 rw [e29_0_0];obtain ⟨h',e⟩:=key code.length 0 (IntKind.i64.wrap (26583+(code.length:Int))) (F7 _);simp only [F5] at e;rw [e];exact Good.ret ⟨0,h',rfl⟩
theorem r56 (s:ByteArray):rn ⟨56,0,0⟩ [.str s]=some (0,[.int 1,.int 0,.str s,.sl []]):=by rw [e56_0_0]
theorem r59 (s:ByteArray) (l:Rows):rn ⟨59,0,0⟩ [.str s,.sl l]=some (0,[.int 2,.int 0,.str s,.sl l]):=by rw [e59_0_0]
theorem r59b (s:ByteArray) (l:Rows):rn ⟨59,1,0⟩ [.str s,.sl l]=some (0,[.int 2,.int 0,.str s,.sl l]):=by rw [e59_1_0]
theorem r60 (s:ByteArray) (t:Tm):rn ⟨60,0,0⟩ [.str s,.int t.k,.int t.n,.str t.s,.sl (t.as.map Tm.row)]=some (0,[.int 2,.int 0,.str s,.sl [t.row]]):=by
 rw [e60_0_0,r59b];simp only [nv0,nvS,dvI,dvB,dvS,dvL,B6,Tm.row_eq t]
theorem r61 (s:ByteArray) (t u:Tm):rn ⟨61,0,0⟩ [.str s,.int t.k,.int t.n,.str t.s,.sl (t.as.map Tm.row),.int u.k,.int u.n,.str u.s,.sl (u.as.map Tm.row)]=some (0,[.int 2,.int 0,.str s,.sl [t.row,u.row]]):=by
 rw [e61_0_0,r59b];simp only [nv0,nvS,dvI,dvB,dvS,dvL,B6,Tm.row_eq t,Tm.row_eq u]
def DTm (code:Rows) (m:Nat) (x:Nat × List D):Prop:=∃ t:Tm,∃ i':Nat,∃ h':Int,Dt 1 t/\t.nodes<=m/\x=(0,[.int t.k,.int t.n,.str t.s,.sl code,.int (i':Int),.int h',.sl (t.as.map Tm.row)])
theorem lfV {code:Rows} {m:Nat} {s:ByteArray} {i:Nat} {h:Int} (hs:s.size<=1) (hm:1<=m):Good (some (0,[.int 1,.int 0,.str s,.sl code,.int (i:Int),.int h,.sl []])) (DTm code m) :=
 Good.ret ⟨.mk 1 0 s [],i,h,.var hs,by simp [Tm.nodes,Tm.nodesL]; exact hm,rfl⟩
theorem lfC {code:Rows} {m:Nat} {s:ByteArray} {i:Nat} {h:Int} (hs:s.size<=1) (hm:1<=m):Good (some (0,[.int 2,.int 0,.str s,.sl code,.int (i:Int),.int h,.sl []])) (DTm code m) :=
 Good.ret ⟨.mk 2 0 s [],i,h,.app hs (by simp) (by simp),by simp [Tm.nodes,Tm.nodesL]; exact hm,rfl⟩
theorem lfW {code:Rows} {m:Nat} {n:Int} {i:Nat} {h:Int} (hm:1<=m):Good (some (0,[.int 3,.int n,.str ⟨#[]⟩,.sl code,.int (i:Int),.int h,.sl []])) (DTm code m) :=
 Good.ret ⟨.mk 3 n ⟨#[]⟩ [],i,h,.word,by simp [Tm.nodes,Tm.nodesL]; exact hm,rfl⟩
theorem lf1 {code:Rows} {m:Nat} {s:ByteArray} {t:Tm} {i:Nat} {h:Int} (hs:s.size<=1) (ht:Dt 1 t) (hm:t.nodes+1<=m):Good (some (0,[.int 2,.int 0,.str s,.sl code,.int (i:Int),.int h,.sl [t.row]])) (DTm code m) :=
 Good.ret ⟨.mk 2 0 s [t],i,h,.app hs (by simp) (by simpa using ht),by simp [Tm.nodes,Tm.nodesL]; omega,rfl⟩
theorem lf2 {code:Rows} {m:Nat} {s:ByteArray} {t u:Tm} {i:Nat} {h:Int} (hs:s.size<=1) (ht:Dt 1 t) (hu:Dt 1 u) (hm:t.nodes+u.nodes+1<=m):Good (some (0,[.int 2,.int 0,.str s,.sl code,.int (i:Int),.int h,.sl [t.row,u.row]])) (DTm code m) :=
 Good.ret ⟨.mk 2 0 s [t,u],i,h,.app hs (by simp) (by simp [ht,hu]),by simp [Tm.nodes,Tm.nodesL]; omega,rfl⟩
theorem draw_ok {code:Rows} (hl:code.length<=1048576):∀ (d:Nat) (g:Bool) (i:Nat) (h:Int),d<=64->Good (rn ⟨39,0,0⟩ [.int (d:Int),.bool g,.sl code,.int (i:Int),.int h]) (DTm code (2 ^ (d+1)-1)):=by
 intro d;induction d with
 | zero =>
  intro g i h hd;rw [e39_0_0,H7 (by decide:((0:Nat):Int)<2)]
  simp only [H1];repeat' (first
   | refine Good.ite (fun _=>?_) (fun _=>?_)
   | (refine Good.bind (once_ok hl _ _ (by decide) (by decide)) ?_; rintro _ ⟨b,i,h,rfl⟩; simp only [nv0,nvS,dvI,dvB,dvS,dvL,B6])
   | (refine Good.bind (below_ok hl _ _ (by decide) (by decide)) ?_; rintro _ ⟨b,i,h,_,_,rfl⟩; simp only [nv0,nvS,dvI,dvB,dvS,dvL,B6])
   | (refine Good.bind (pick_ok hl _ _ (by decide) (by decide) (by decide)) ?_; rintro _ ⟨b,i,h,_,rfl⟩; simp only [nv0,nvS,dvI,dvB,dvS,dvL,B6])
   | (simp only [r56,r58,r59,nv0,nvS,dvI,dvB,dvS,dvL,B6]))
  all_goals (first | exact lfV (by assumption) (by decide) | exact lfC (by assumption) (by decide) | exact lfW (by decide))
 | succ d ih =>
  intro g i h hd;have hp:2 ^ (d+1+1)=2*2 ^ (d+1):=by omega
  have h1:1<=2 ^ (d+1):=Nat.one_le_pow _ _ (by decide)
  rw [e39_0_0];simp only [H2,wrap_dec (show d<=64 by omega)]
  repeat' (first
   | refine Good.ite (fun _=>?_) (fun _=>?_)
   | (refine Good.bind (ih _ _ _ (by omega)) ?_; rintro _ ⟨t,i,h,_,_,rfl⟩; simp only [nv0,nvS,dvI,dvB,dvS,dvL,B6])
   | (refine Good.bind (once_ok hl _ _ (by decide) (by decide)) ?_; rintro _ ⟨b,i,h,rfl⟩; simp only [nv0,nvS,dvI,dvB,dvS,dvL,B6])
   | (refine Good.bind (below_ok hl _ _ (by decide) (by decide)) ?_; rintro _ ⟨b,i,h,_,_,rfl⟩; simp only [nv0,nvS,dvI,dvB,dvS,dvL,B6])
   | (refine Good.bind (pick_ok hl _ _ (by decide) (by decide) (by decide)) ?_; rintro _ ⟨b,i,h,_,rfl⟩; simp only [nv0,nvS,dvI,dvB,dvS,dvL,B6])
   | (simp only [r56,r58,r59,r60,r61,nv0,nvS,dvI,dvB,dvS,dvL,B6]))
  all_goals (first | exact lfV (by assumption) (by omega) | exact lfC (by assumption) (by omega) | exact lfW (by omega) | exact lf1 (by first | assumption | decide) (by assumption) (by omega) | exact lf2 (by first | assumption | decide) (by assumption) (by assumption) (by omega))
def DSb (code:Rows) (x:Nat × List D):Prop:=∃ l:List Bnd,∃ i':Nat,∃ h':Int,l.length<=8/\(∀ b∈l,Dt 1 b.2/\b.2.nodes<=7)/\x=(0,[.sl code,.int (i':Int),.int h',.sl (l.map Bnd.row)])
theorem sub_ok {code:Rows} (hl:code.length<=1048576) (i:Nat) (h:Int):Good (rn ⟨42,0,0⟩ [.sl code,.int (i:Int),.int h]) (DSb code):=by
 have key:∀ (m k:Nat) (b:Int),b<4->(k:Int)+m=4->∀ (i:Nat) (h:Int) (l:List Bnd),l.length=k->(∀ b∈l,Dt 1 b.2/\b.2.nodes<=7)->Good (rn ⟨42,0,1⟩ [.int b,.int (k:Int),.sl code,.int (i:Int),.int h,.sl (l.map Bnd.row)]) (DSb code):=by
  intro m;induction m with
  | zero =>
   intro k b hb hk i h l hll hd;rw [e42_0_1,H8 (by omega:¬(k:Int)<b)]
   exact Good.ret ⟨l,i,h,by omega,hd,rfl⟩
  | succ m ih =>
   intro k b hb hk i h l hll hd;rw [e42_0_1];refine Good.ite (fun _=>?_) (fun _=>?_)
   · refine Good.bind (pick_ok hl _ _ (by decide) (by decide) (by decide)) ?_
     rintro _ ⟨s,i,h,hs,rfl⟩
     simp only [nv0,nvS,dvI,dvB,dvS,dvL,B6];refine Good.bind (below_ok hl _ _ (by decide) (by decide)) ?_
     rintro _ ⟨b1,i,h,hb0,hb1,rfl⟩
     simp only [nv0,nvS,dvI,dvB,dvS,dvL,B6];refine Good.bind (once_ok hl _ _ (by decide) (by decide)) ?_
     rintro _ ⟨g,i,h,rfl⟩
     simp only [nv0,nvS,dvI,dvB,dvS,dvL,B6];have e:∃ d:Nat,IntKind.i64.wrap (1+b1)=(d:Int)/\d<=2:=⟨(1+b1).toNat,by rw [IntWalk.i64_in _ (by omega)]; omega,by omega⟩
     obtain ⟨d,e,hd2⟩:=e;rw [e];refine Good.bind (draw_ok hl d g _ _ (by omega)) ?_
     rintro _ ⟨t,i,h,ht,hn,rfl⟩
     have hp:2 ^ (d+1)<=2 ^ 3:=Nat.pow_le_pow_right (by decide) (by omega)
     have hp8:(2:Nat) ^ 3=8:=rfl;have hb63:G6 (l.length+1) M63=true:=nb (by omega)
     simp only [nv0,nvS,dvI,dvB,dvS,dvL,B6,C4,D3,E4,F7,hb63,H1];have:=ih (k+1) b hb (by omega) i h (l++[(s,t)]) (by simp [hll]) (fun b hb=>by
      rcases List.mem_append.1 hb with hb | hb
      · exact hd b hb
      · simp only [List.mem_singleton] at hb; subst hb; exact ⟨ht,by show t.nodes<=7; omega⟩)
     simp only [K2,C0,F8,bd_row] at this;have ew:IntKind.i64.wrap ((k:Int)+1)=((k+1:Nat):Int):=by rw [IntWalk.i64_in _ (by omega)]; omega
     rw [ew];exact this
   · exact Good.ret ⟨l,i,h,by omega,hd,rfl⟩
 rw [e42_0_0];refine Good.bind (below_ok hl _ _ (by decide) (by decide)) ?_
 rintro _ ⟨b,i,h,b0,b1,rfl⟩
 simp only [nv0,nvS,dvI,dvB,dvS,dvL,B6];have:=key 4 0 b b1 rfl i h [] rfl (by simp)
 refine Good.bind this ?_
 rintro _ ⟨l,i,h,h1,h2,rfl⟩
 exact Good.ret ⟨l,i,h,h1,h2,rfl⟩
def DT2 (m:Nat) (x:Nat × List D):Prop:=∃ p t:Tm,Dt m p/\Dt m t/\p.nodes<=400/\t.nodes<=400/\x=(0,[.int p.k,.int p.n,.str p.s,.int t.k,.int t.n,.str t.s,.sl (p.as.map Tm.row),.sl (t.as.map Tm.row)])
theorem two_ok {code:Rows} (hl:code.length<=1048576):Good (rn ⟨21,0,0⟩ [.sl code]) (DT2 1):=by
 rw [e21_0_0];refine Good.bind (new_ok hl) ?_
 rintro _ ⟨i,h,rfl⟩
 simp only [nv0,nvS,dvI,dvB,dvS,dvL,B6];refine Good.bind (below_ok hl _ _ (by decide) (by decide)) ?_
 rintro _ ⟨b1,i,h,hb0,hb1,rfl⟩
 simp only [nv0,nvS,dvI,dvB,dvS,dvL,B6];have e:∃ d:Nat,IntKind.i64.wrap (1+b1)=(d:Int)/\d<=3:=⟨(1+b1).toNat,by rw [IntWalk.i64_in _ (by omega)]; omega,by omega⟩
 obtain ⟨d,e,hd2⟩:=e;rw [e];refine Good.bind (draw_ok hl d false _ _ (by omega)) ?_
 rintro _ ⟨p,i,h,hp,hpn,rfl⟩
 have hq:2 ^ (d+1)<=2 ^ 4:=Nat.pow_le_pow_right (by decide) (by omega)
 have hq8:(2:Nat) ^ 4=16:=rfl;simp only [nv0,nvS,dvI,dvB,dvS,dvL,B6];refine Good.bind (once_ok hl _ _ (by decide) (by decide)) ?_
 rintro _ ⟨g,i,h,rfl⟩
 simp only [nv0,nvS,dvI,dvB,dvS,dvL,B6];refine Good.ite (fun _=>?_) (fun _=>?_)
 · refine Good.bind (once_ok hl _ _ (by decide) (by decide)) ?_
   rintro _ ⟨g,i,h,rfl⟩
   simp only [nv0,nvS,dvI,dvB,dvS,dvL,B6];refine Good.bind (draw_ok hl 3 g _ _ (by omega)) ?_
   rintro _ ⟨t,i,h,ht,htn,rfl⟩
   exact Good.ret ⟨p,t,hp,ht,by omega,by omega,rfl⟩
 · refine Good.bind (sub_ok hl _ _) ?_
   rintro _ ⟨l,i,h,h1,h2,rfl⟩
   have hs:∀ b∈l,Small b.2:=fun b hb=>small_of _ (by have:=(h2 b hb).2; omega)
   have ha:=r41 l (by omega) hs p (small_of _ (by omega))
   simp only [nv0,nvS,dvI,dvB,dvS,dvL,B6,ha];have hn:=aS_nodesM (m:=7) (by decide) (fun b hb=>(h2 b hb).2) p
   exact Good.ret ⟨p,aS l p,hp,hp.aS (fun b hb=>(h2 b hb).1),by omega,by omega,rfl⟩
theorem dmatch_ok {code:Rows} (hl:code.length<=1048576):Good (rn ⟨6,0,0⟩ [.sl code]) (DT2 1):=by
 rw [e6_0_0];refine Good.bind (two_ok hl) ?_
 rintro _ ⟨p,t,h1,h2,h3,h4,rfl⟩
 exact Good.ret ⟨p,t,h1,h2,h3,h4,rfl⟩
theorem ren_ok (x:ByteArray) (hx:x.size<=1):∀ t:Tm,Small t->Dt 1 t->rn ⟨31,0,0⟩ [.int t.k,.int t.n,.str t.s,.sl (t.as.map Tm.row),.str x]=some (0,[.int (rnV x t).k,.int (rnV x t).n,.str (rnV x t).s,.sl ((rnV x t).as.map Tm.row)]):=Tm.ind fun t ih hs hd=>by
 have hl:=hs.len;have hf:∀ (s:ByteArray),rn ⟨31,0,1⟩ [.str x,.int 0,.int t.k,.int t.n,.str t.s,.sl (t.as.map Tm.row),.int 0,.int 0,.str ⟨#[]⟩,.int t.k,.int t.n,.str s,.sl [],.sl []]=some (0,[.int 0,.int 0,.str ⟨#[]⟩,.int t.k,.int t.n,.str s,.sl [],.sl ((t.as.map (rnV x)).map Tm.row)]):=by
  intro s;have hf:=map_loop (F:=fun i acc=>rn ⟨31,0,1⟩ [.str x,.int (i:Int),.int t.k,.int t.n,.str t.s,.sl (t.as.map Tm.row),.int 0,.int 0,.str ⟨#[]⟩,.int t.k,.int t.n,.str s,.sl [],.sl acc]) (xs:=t.as) (fun a=>(rnV x a).row) (K:=fun acc=>some (0,[.int 0,.int 0,.str ⟨#[]⟩,.int t.k,.int t.n,.str s,.sl [],.sl acc])) (fun i hi acc ha=>?_) (fun acc=>?_)
  · simp only [F5] at hf; rw [hf,List.map_map]; rfl
  · have hc:=ih _ (C6 hi) (hs.sub (C6 hi)) (hd.sub (C6 hi))
    rw [e31_0_1];simp only [E7,rowAt_map hi,Tm.row_eq,C4,inbN,hi,F9,H3,H1,nv0,nvS,dvI,dvB,dvS,dvL,B6,wrap_succ hi (by unfold maxLen; omega),hc,D3,E4]
    rw [show G6 (acc.length+(0+1)) M63=true from F4 (by unfold M63; omega)]
    rfl
  · rw [e31_0_1]
    simp
 rw [e31_0_0,rnV_eq];by_cases hk:t.k=1
 · have hsz:t.s.size<=1:=by
    cases hd with
    | var h=>exact h
    | word=>simp [Tm.k] at hk
    | app h _ _=>exact h
   rw [H7 hk,H7 (show t.s.size+x.size<=i64max by unfold i64max; omega)]
   simp only [H1];rw [hf];simp only [nv0,nvS,dvI,dvB,dvS,dvL,B6,K3,H1,H2,hk,if_true,Tm.as_mk,Tm.k_mk,Tm.s_mk];rfl
 · rw [H8 hk]
   simp only [H2];rw [hf];simp only [nv0,nvS,dvI,dvB,dvS,dvL,B6,K3,H1,H2,hk,if_false,Tm.as_mk,Tm.k_mk,Tm.s_mk];rfl
theorem dvar_ok {code:Rows} (hl:code.length<=1048576):Good (rn ⟨11,0,0⟩ [.sl code]) fun x=>∃ p t:Tm,p.nodes<=400/\t.nodes<=400/\x=(0,[.int p.k,.int p.n,.str p.s,.int t.k,.int t.n,.str t.s,.sl (p.as.map Tm.row),.sl (t.as.map Tm.row)]):=by
 rw [e11_0_0];refine Good.bind (two_ok hl) ?_
 rintro _ ⟨p,t,h1,h2,h3,h4,rfl⟩
 simp only [nv0,nvS,dvI,dvB,dvS,dvL,B6];refine Good.bind (new_ok hl) ?_
 rintro _ ⟨i,h,rfl⟩
 simp only [nv0,nvS,dvI,dvB,dvS,dvL,B6];refine Good.bind (once_ok hl _ _ (by decide) (by decide)) ?_
 rintro _ ⟨g,i,h,rfl⟩
 simp only [nv0,nvS,dvI,dvB,dvS,dvL,B6];refine Good.ite (fun _=>?_) (fun _=>?_)
 · have e:=ren_ok (⟨#[49]⟩:ByteArray) (by decide) p (small_of _ (by omega)) h1
   simp only [nv0,nvS,dvI,dvB,dvS,dvL,B6,e];exact Good.ret ⟨p,rnV _ p,h3,by rw [rnV_nodes]; exact h3,rfl⟩
 · exact Good.ret ⟨p,t,h3,h4,rfl⟩
end Go.Q.S
end
section
namespace Go.Proofs
open Go.Shelf
def Try.lays190_ren:Go.Shelf.Ren:=⟨fun | 190=>65 | 125=>73 | 258=>72 | 128=>83 | 129=>84 | 302=>74 | 303=>75 | 304=>76 | 305=>77 | 306=>78 | 307=>79 | 308=>80 | 309=>81 | 310=>82 | 333=>85 | 329=>86 | 330=>87 | 334=>88 | 335=>89 | 336=>90 | 344=>91 | n=>n,fun | 31=>38 | 9=>9 | 3=>3 | 46=>91 | 0=>0 | 51=>104 | 53=>106 | 4=>4 | 183=>96 | 182=>95 | 131=>101 | 5=>5 | 218=>107 | 222=>111 | 228=>114 | 229=>115 | n=>n,fun | n=>n⟩
theorem Try.lays190:Go.Proofs.Lays.n190 Try.prog Try.lays190_ren:={
 mixed:=by kernel_rfl
 f125:=Try.func73.trans (congrArg some (by kernel_rfl))
 f128:=Try.func83.trans (congrArg some (by kernel_rfl))
 f129:=Try.func84.trans (congrArg some (by kernel_rfl))
 f190:=Try.func65.trans (congrArg some (by kernel_rfl))
 f258:=Try.func72.trans (congrArg some (by kernel_rfl))
 f302:=Try.func74.trans (congrArg some (by kernel_rfl))
 f303:=Try.func75.trans (congrArg some (by kernel_rfl))
 f304:=Try.func76.trans (congrArg some (by kernel_rfl))
 f305:=Try.func77.trans (congrArg some (by kernel_rfl))
 f306:=Try.func78.trans (congrArg some (by kernel_rfl))
 f307:=Try.func79.trans (congrArg some (by kernel_rfl))
 f308:=Try.func80.trans (congrArg some (by kernel_rfl))
 f309:=Try.func81.trans (congrArg some (by kernel_rfl))
 f310:=Try.func82.trans (congrArg some (by kernel_rfl))
 f329:=Try.func86.trans (congrArg some (by kernel_rfl))
 f330:=Try.func87.trans (congrArg some (by kernel_rfl))
 f333:=Try.func85.trans (congrArg some (by kernel_rfl))
 f334:=Try.func88.trans (congrArg some (by kernel_rfl))
 f335:=Try.func89.trans (congrArg some (by kernel_rfl))
 f336:=Try.func90.trans (congrArg some (by kernel_rfl))
 f344:=Try.func91.trans (congrArg some (by kernel_rfl))
 t0:=Try.underlying0
 a0:=Try.isAgg0
 z0:=Try.sizeOf0
 v0:=Try.zeroValue0
 t3:=Try.underlying3
 a3:=Try.isAgg3
 z3:=Try.sizeOf3
 v3:=Try.zeroValue3
 t4:=Try.underlying4
 a4:=Try.isAgg4
 z4:=Try.sizeOf4
 v4:=Try.zeroValue4
 t5:=Try.underlying5
 a5:=Try.isAgg5
 z5:=Try.sizeOf5
 v5:=Try.zeroValue5
 t9:=Try.underlying9
 a9:=Try.isAgg9
 z9:=Try.sizeOf9
 v9:=Try.zeroValue9
 t31:=Try.underlying38
 a31:=Try.isAgg38
 z31:=Try.sizeOf38
 v31:=Try.zeroValue38
 t46:=Try.underlying91
 a46:=Try.isAgg91
 z46:=Try.sizeOf91
 v46:=Try.zeroValue91
 t51:=Try.underlying104
 a51:=Try.isAgg104
 z51:=Try.sizeOf104
 v51:=Try.zeroValue104
 t53:=Try.underlying106
 a53:=Try.isAgg106
 z53:=Try.sizeOf106
 v53:=Try.zeroValue106
 t131:=Try.underlying101
 a131:=Try.isAgg101
 z131:=Try.sizeOf101
 v131:=Try.zeroValue101
 t182:=Try.underlying95
 a182:=Try.isAgg95
 z182:=Try.sizeOf95
 v182:=Try.zeroValue95
 t183:=Try.underlying96
 a183:=Try.isAgg96
 z183:=Try.sizeOf96
 v183:=Try.zeroValue96
 t218:=Try.underlying107
 a218:=Try.isAgg107
 z218:=Try.sizeOf107
 v218:=Try.zeroValue107
 t222:=Try.underlying111
 a222:=Try.isAgg111
 z222:=Try.sizeOf111
 v222:=Try.zeroValue111
 t228:=Try.underlying114
 a228:=Try.isAgg114
 z228:=Try.sizeOf114
 v228:=Try.zeroValue114
 t229:=Try.underlying115
 a229:=Try.isAgg115
 z229:=Try.sizeOf115
 v229:=Try.zeroValue115 }
def Try.lays194_ren:Go.Shelf.Ren:=⟨fun | 194=>66 | n=>n,fun | 31=>38 | 9=>9 | 3=>3 | 4=>4 | 0=>0 | n=>n,fun | n=>n⟩
theorem Try.lays194:Go.Proofs.Lays.n194 Try.prog Try.lays194_ren:={
 mixed:=by kernel_rfl
 f194:=Try.func66.trans (congrArg some (by kernel_rfl))
 t0:=Try.underlying0
 a0:=Try.isAgg0
 z0:=Try.sizeOf0
 v0:=Try.zeroValue0
 t3:=Try.underlying3
 a3:=Try.isAgg3
 z3:=Try.sizeOf3
 v3:=Try.zeroValue3
 t4:=Try.underlying4
 a4:=Try.isAgg4
 z4:=Try.sizeOf4
 v4:=Try.zeroValue4
 t9:=Try.underlying9
 a9:=Try.isAgg9
 z9:=Try.sizeOf9
 v9:=Try.zeroValue9
 t31:=Try.underlying38
 a31:=Try.isAgg38
 z31:=Try.sizeOf38
 v31:=Try.zeroValue38 }
end Go.Proofs
namespace Go.Q.S
open Go Go.Q Go.Proofs
theorem kiF_mem:∀ {l:List (Nat × Nat × KI)} {v n:Nat} {i:KI},kiF l v n=some i->∃ a b,(a,b,i)∈l
 | [],v,n,i,h=>by simp [kiF] at h
 | (a,b,x)::r,v,n,i,h=>by
  unfold kiF at h;cases hb:Nat.beq a v&&Nat.beq b n with
  | true=>rw [hb] at h; simp only [H1,B9.injEq] at h; exact ⟨a,b,by rw [h]; exact List.mem_cons_self ..⟩
  | false =>
   rw [hb] at h;obtain ⟨a',b',h'⟩:=kiF_mem h;exact ⟨a',b',List.mem_cons_of_mem _ h'⟩
theorem ext_ok:∀ f g,H.ext f=some g->∀ v ls x,g v ls=some x->FnT Try.prog H ⟨f,v,0⟩ ls x:=fun f g h v ls x hx=>by
 have h:lookN extL f=some g:=h;simp only [extL,lookN] at h;cases h1:Nat.beq 65 f with
 | true =>
  rw [h1] at h;simp only [H1,B9.injEq] at h;subst h;obtain rfl:=beqN.1 h1;refine sort_fnT Go.Proofs.Try.lays190 rfl (E:=9) (fl:=[]) rfl Try.func65 (fun he=>by cases he) (of_decide_eq_false (by kernel_rfl)) (fun i hi=>?_) hx
  obtain ⟨a,b,hm⟩:=kiF_mem (l:=[(0,0,⟨[(0,.hd 0)],[(0,.arr 9 .deep)],[⟨.ret,[],[(0,.arr 9 .deep)]⟩]⟩)]) hi;simp only [C3,List.not_mem_nil,or_false,Prod.mk.injEq] at hm;exact hm.2.2
 | false =>
 rw [h1] at h;simp only [H2] at h;cases h1:Nat.beq 66 f with
 | true =>
  rw [h1] at h;simp only [H1,B9.injEq] at h;subst h;obtain rfl:=beqN.1 h1;refine comp_fnT Go.Proofs.Try.lays194 rfl (E:=9) (fl:=[]) rfl Try.func66 (fun he=>by cases he) (of_decide_eq_false (by kernel_rfl)) (fun i hi=>?_) hx
  obtain ⟨a,b,hm⟩:=kiF_mem (l:=[(0,0,⟨[(0,.hd 0)],[(0,.arr 9 .deep)],[⟨.ret,[(0,.hd 16)],[(16,.arr 9 .deep)]⟩]⟩)]) hi;simp only [C3,List.not_mem_nil,or_false,Prod.mk.injEq] at hm;exact hm.2.2
 | false =>
 rw [h1] at h;simp only [H2] at h;simp at h
theorem fits:Fits Try.prog H where
 ty:=tyOK_of (l:=tyL) (fun _=>rfl) (by kernel_rfl)
 eq:=eqOK_of (l:=eqL) (fun _=>rfl) (by kernel_rfl)
 mixed:=Try.checked.mixed
 names:=names_of (by kernel_rfl)
 ext:=ext_ok
end Go.Q.S
end
