/- The functions of this seat, as that machine runs them, part 1. -/
import Derived.Test.YtlhkpdimkimogaaQC
import Derived.Test.YtlhkpdimkimogaafsX
import Derived.Test.YtlhkpdimkimogaaMA
import Derived.Test.YtlhkpdimkimogaaQD
import Derived.Test.YtlhkpdimkimogaaChecked
set_option linter.unusedVariables false
set_option linter.unusedSimpArgs false
open Bool renaming not_true->N9
open Int renaming toNat_natCast->E7,ofNat_lt->F2,natCast_zero->F4
open List renaming map_cons->B9,mem_append->C0,mem_cons->C3,length_map->C4,length_cons->C7,append_assoc->D3,length_nil->D4,getElem_mem->D5,mem_singleton->D8,getD_cons_zero->E6,map_append->F1,drop_eq_getElem_cons->F5,getD_cons_succ->F6,map_nil->F7,nil_append->F9,cons_append->G8,map_map->J6,drop_length->K0,drop_zero->K3,append_nil->N1,getElem_map->O1,filter_cons->O2,not_mem_nil->Q3
open Nat renaming zero_add->D6,ble_eq_true_of_le->G6,ble->G7,le_trans->G9,lt_irrefl->J5,beq_refl->K6,zero_le->K8
open Option renaming bind_some->B6,some->C1
section
namespace Go.Q.S
open Go Go.Q Go.Proofs
end Go.Q.S
end
section
namespace Go.Q.S
open Go Go.Q Go.Proofs
theorem rCloneS (xs:Rows) (h:xs.length<=274877906944):rn ⟨46,0,0⟩ [.sl xs]=some (0,[.sl xs]):=by
 rw [e46_0_0];have hb:G7 (([]:Rows).length+xs.length) M63=true:=G6 (by unfold M63; simpa using h)
 rw [hb];cases xs with
 | nil=>simp [both]
 | cons x xs=>rfl
theorem rSort (ls:List D):rn ⟨47,0,0⟩ ls=sortG 0 ls:=by rw [rn_eq]; rfl
theorem rComp (ls:List D):rn ⟨48,0,0⟩ ls=compG 0 ls:=by rw [rn_eq]; rfl
theorem r29 (l:List ByteArray) (h:l.length<=274877906944):rn ⟨29,0,0⟩ [.sl (l.map sRow)]=some (0,[.sl ((srtN l).map sRow)]):=by
 rw [e29_0_0,rCloneS _ (by simpa using h)]
 simp only [nth0,nth1,nth2,nth3,nth4,nth5,nth6,nth7,nth8,nth9,nth10,nth11,nth12,nth13,nth14,nth15,nth16,nth17,nth18,nth19,nth20,nth21,nth22,nth23,nth24,nth25,dI,dB,dS,dL,B6];rw [rSort,sortG_eq 0 l (by omega)]
 simp only [nth0,nth1,nth2,nth3,nth4,nth5,nth6,nth7,nth8,nth9,nth10,nth11,nth12,nth13,nth14,nth15,nth16,nth17,nth18,nth19,nth20,nth21,nth22,nth23,nth24,nth25,dI,dB,dS,dL,B6];rw [rComp,compG_eq 0 _ (by simp; omega),compact_sort]
 simp only [nth0,nth1,nth2,nth3,nth4,nth5,nth6,nth7,nth8,nth9,nth10,nth11,nth12,nth13,nth14,nth15,nth16,nth17,nth18,nth19,nth20,nth21,nth22,nth23,nth24,nth25,dI,dB,dS,dL,B6];rw [rowS_map]; rfl
theorem r32 (l:List ByteArray) (h:l.length<=1073741824):rn ⟨32,0,0⟩ [.sl (l.map sRow)]=some (0,[.sl ((srtN l).map sRow)]):=by
 rw [e32_0_0,sRow_map];unfold srtN;generalize hks:l.map toK=ks;have hk:ks.length<=1073741824:=by rw [<- hks]; simpa using h
 have hin:∀ (i:Nat) (hi:i<ks.length) (acc:List Ky),acc.length<=1073741824->∀ n a,a+n=acc.length->rn ⟨32,0,3⟩ [.sl (ks.map rowS),.int (i:Int),.int (a:Int),.sl (acc.map rowS)] =
  some (0,[.sl (ks.map rowS),.int (i:Int),.int ((a+ldK ks[i] (acc.drop a):Nat):Int),.sl (acc.map rowS)]):=by
  intro i hi acc hacc n;induction n with
  | zero =>
   intro a ha;have:a=acc.length:=by omega
   subst this;rw [e32_0_3];simp [ldK]
  | succ n ih =>
   intro a ha;have hlt:a<acc.length:=by omega
   rw [e32_0_3,ldK_drop _ _ _ hlt];simp only [E7,rowAt_map hi,rowAt_map hlt,C4,inbN,hi,hlt,F2,H3,H1,nth0,nth1,nth2,nth3,nth4,nth5,nth6,nth7,nth8,nth9,nth10,nth11,nth12,nth13,nth14,nth15,nth16,nth17,nth18,nth19,nth20,nth21,nth22,nth23,nth24,nth25,dI,dB,dS,dL,B6,rowS_sRow,sRow,ltB_ofK,wrap_succ hlt (by unfold maxLen; omega)]
   by_cases hx:acc[a]<ks[i]
   · rw [H5 hx,H7 hx,H1,ih (a+1) (by omega)]
     have e:a+1+ldK ks[i] (acc.drop (a+1))=a+(ldK ks[i] (acc.drop (a+1))+1):=by omega
     rw [e]
   · rw [H6 hx,H8 hx,H2]; rfl
 have hout:∀ n (i:Nat) (acc:List Ky),i+n=ks.length->acc.length<=i->rn ⟨32,0,1⟩ [.sl (ks.map rowS),.int (i:Int),.sl (acc.map rowS)]=some (0,[.sl ((srtK (ks.drop i) acc).map rowS)]):=by
  intro n;induction n with
  | zero =>
   intro i acc hi ha;have:i=ks.length:=by omega
   subst this;rw [e32_0_1];simp [srtK]
  | succ n ih =>
   intro i acc hi ha;have hlt:i<ks.length:=by omega
   have hI:=hin i hlt acc (by omega) acc.length 0 (by omega)
   rw [K3,D6] at hI;rw [e32_0_1];have hc:ldK ks[i] acc<=acc.length:=ldK_le _ _;have hz:((0:Nat):Int)=0:=rfl;rw [hz] at hI;rw [hI,F5 hlt];have hins:=insK_ld ks[i] acc;have hil:(insK ks[i] acc).length<=i+1:=by
    rw [hins]; split
    · omega
    · simp; omega
   have ih':=ih (i+1) (insK ks[i] acc) (by omega) hil
   simp only [C4,F2,hlt,H3,H1,nth0,nth1,nth2,nth3,nth4,nth5,nth6,nth7,nth8,nth9,nth10,nth11,nth12,nth13,nth14,nth15,nth16,nth17,nth18,nth19,nth20,nth21,nth22,nth23,nth24,nth25,dI,dB,dS,dL,B6,K6,E7,wrap_succ hlt (by unfold maxLen; omega),srtK] at ih' ⊢
   rw [<- ih'];generalize hcc:ldK ks[i] acc=c at hc hins ⊢;have h0:(0:Int)<=(c:Int):=by omega
   have h3:(c:Int)<=(acc.length:Int):=by omega
   have hb2:G7 (([]:Rows).length+(List.drop (Int.toNat 0) (List.take c (acc.map rowS))).length) M63=true:=G6 (by unfold M63; simp; omega)
   have hb3:∀ z:Rows,z.length=1->G7 (([]++List.drop (Int.toNat 0) (List.take c (acc.map rowS)):Rows).length+z.length) M63=true:=fun z hz=>G6 (by unfold M63; simp [hz]; omega)
   have hb4:∀ z:Rows,z.length=1->G7 ((([]++List.drop (Int.toNat 0) (List.take c (acc.map rowS)):Rows)++z).length+(List.drop c (List.take acc.length (acc.map rowS))).length) M63=true:=fun z hz=>G6 (by unfold M63; simp [hz]; omega)
   have hfin:([]++List.drop (Int.toNat 0) (List.take c (acc.map rowS)):Rows)++[rowS ks[i]]++List.drop c (List.take acc.length (acc.map rowS))=(List.take c acc++[ks[i]]++List.drop c acc).map rowS:=by
    simp [List.map_take,List.map_drop,List.take_of_length_le]
   simp only [rowAt_map hlt,inbN,hlt,H3,H1];by_cases h1:c<acc.length
   · simp only [H7 h1,H1,rowAt_map h1,nth0,nth1,nth2,nth3,nth4,nth5,nth6,nth7,nth8,nth9,nth10,nth11,nth12,nth13,nth14,nth15,nth16,nth17,nth18,nth19,nth20,nth21,nth22,nth23,nth24,nth25,dI,dB,dS,dL,B6,rowS_sRow,sRow,ofK_inj]
     rw [List.getElem?_eq_getElem h1] at hins;by_cases h2:acc[c]=ks[i]
     · rw [H7 h2,H1,hins,H5 (by rw [h2])]
     · rw [H8 h2,H2,hins,H6 (by simpa using h2)]
       simp only [h0,h3,Int.le_refl,H3,Bool.and_self,H1];rw [hb2,hb3 _ rfl,hb4 _ rfl];simp only [H1];rw [<- hfin]; rfl
   · simp only [H8 h1,H2]
     rw [List.getElem?_eq_none (by omega)] at hins
     rw [hins,H6 (by simp)]
     simp only [h0,h3,Int.le_refl,H3,Bool.and_self,H1];rw [hb2];simp only [H1,rowAt_map hlt,nth0,nth1,nth2,nth3,nth4,nth5,nth6,nth7,nth8,nth9,nth10,nth11,nth12,nth13,nth14,nth15,nth16,nth17,nth18,nth19,nth20,nth21,nth22,nth23,nth24,nth25,dI,dB,dS,dL,B6,rowS_sRow,sRow];rw [hb3 _ rfl,hb4 _ rfl];simp only [H1];rw [<- hfin]; rfl
 have:=hout ks.length 0 [] (by omega) (K8 _)
 simp only [F4,F7,K3] at this;rw [this];simp only [nth0,nth1,nth2,nth3,nth4,nth5,nth6,nth7,nth8,nth9,nth10,nth11,nth12,nth13,nth14,nth15,nth16,nth17,nth18,nth19,nth20,nth21,nth22,nth23,nth24,nth25,dI,dB,dS,dL,B6,K6,H1];rw [rowS_map]
end Go.Q.S
end
section
namespace Go.Q.S
open Go Go.Q Go.Proofs
theorem r23:∀ t:Tm,Small t->rn ⟨23,0,0⟩ [.int t.k,.int t.n,.str t.s,.sl (t.as.map Tm.row)]=some (0,[.int t.k,.int t.n,.str t.s,.sl (t.as.map Tm.row)]):=Tm.ind fun t ih h=>by
 have hl:=h.len;show rn _ _=_
 rw [e23_0_0];have hf:=map_loop (F:=fun i acc=>rn ⟨23,0,1⟩ [.sl (t.as.map Tm.row),.int ((t.as.map Tm.row)).length,.int (i:Int),.int 0,.int 0,.str (⟨#[]⟩:ByteArray),.int t.k,.int t.n,.str t.s,.sl [],.sl acc]) (xs:=t.as) Tm.row (K:=fun acc=>some (0,[.int (0),.int (0),.str ((⟨#[]⟩:ByteArray)),.int (t.k),.int (t.n),.str (t.s),.sl ([]),.sl (acc)])) (fun i hi acc ha=>?_) (fun acc=>?_)
 · simp only [F4] at hf; rw [hf]; rfl
 · have hc:=ih _ (D5 hi) (h.sub (D5 hi))
   rw [e23_0_1];simp only [E7,rowAt_map hi,Tm.row_eq,C4,inbN,hi,F2,H3,H1,nth,E6,F6,D.I,D.S,D.L,D.B,wrap_succ hi (by unfold maxLen; omega),hc,B6,C7,D4]
   rw [show G7 (acc.length+(0+1)) M63=true from G6 (by unfold M63; omega)]
   rfl
 · skip
   rw [e23_0_1];simp
theorem r27:∀ t:Tm,Small t->rn ⟨27,0,0⟩ [.int t.k,.int t.n,.str t.s,.sl (t.as.map Tm.row)]=some (0,[.int t.k,.int t.n,.str t.s,.sl (t.as.map Tm.row)]):=Tm.ind fun t ih h=>by
 have hl:=h.len;show rn _ _=_
 rw [e27_0_0];have hf:=map_loop (F:=fun i acc=>rn ⟨27,0,1⟩ [.int (i:Int),.int t.k,.int t.n,.str t.s,.sl (t.as.map Tm.row),.int 0,.int 0,.str (⟨#[]⟩:ByteArray),.sl acc,.sl []]) (xs:=t.as) Tm.row (K:=fun acc=>some (0,[.int (t.k),.int (t.n),.str (t.s),.sl ((t.as.map Tm.row)),.int (0),.int (0),.str ((⟨#[]⟩:ByteArray)),.sl (acc),.sl ([])])) (fun i hi acc ha=>?_) (fun acc=>?_)
 · simp only [F4] at hf; rw [hf]; rfl
 · have hc:=ih _ (D5 hi) (h.sub (D5 hi))
   rw [e27_0_1];simp only [E7,rowAt_map hi,Tm.row_eq,C4,inbN,hi,F2,H3,H1,nth,E6,F6,D.I,D.S,D.L,D.B,wrap_succ hi (by unfold maxLen; omega),hc,B6,C7,D4]
   rw [show G7 (acc.length+(0+1)) M63=true from G6 (by unfold M63; omega)]
   rfl
 · skip
   rw [e27_0_1];simp
theorem r21 (l:List Bnd) (hl:l.length<=1048576) (s:ByteArray):rn ⟨21,0,0⟩ [.sl (l.map Bnd.row),.str s]=match bnd l s with
 | some t=>some (0,[.int t.k,.int t.n,.str t.s,.sl (t.as.map Tm.row),.bool true])
 | none=>some (0,[.int 0,.int 0,.str ⟨#[]⟩,.sl [],.bool false]):=by
 show rn _ _=_
 rw [e21_0_0];have hf:=find_loop (F:=fun i=>rn ⟨21,0,1⟩ [.str s,.sl (l.map Bnd.row),.int ((l.map Bnd.row)).length,.int (i:Int),.int 0,.int 0,.str (⟨#[]⟩:ByteArray),.sl []]) (xs:=l) (p:=fun b=>decide (b.1=s)) (A:=some (0,[.int (0),.int (0),.str ((⟨#[]⟩:ByteArray)),.sl ([])])) (B:=fun i b=>some (1,[.int b.2.k,.int b.2.n,.str b.2.s,.sl (b.2.as.map Tm.row)])) (fun i hi=>?_) ?_
 · simp only [F4] at hf
   rw [bnd_find];rcases hf with ⟨h1,h2⟩|⟨i,hi,h1,h2⟩
   · rw [h1,h2]; rfl
   · rw [h1,h2]; rfl
 · skip
   rw [e21_0_1];simp only [E7,rowAt_map hi,bd_row,C4,inbN,hi,F2,H3,H1,nth,E6,F6,D.I,D.S,D.L,D.B,wrap_succ hi (by unfold maxLen; omega)]
 · skip
   rw [e21_0_1];simp
theorem r26 (l:List Bnd) (hl:l.length<=1048576) (s:ByteArray):(bnd l s=none/\rn ⟨26,0,0⟩ [.sl (l.map Bnd.row),.str s]=some (0,[.int (-1)]))\/∃ i,∃ hi:i<l.length,bnd l s=some l[i].2/\rn ⟨26,0,0⟩ [.sl (l.map Bnd.row),.str s]=some (0,[.int (i:Int)]):=by
 have hf:=find_loop (F:=fun i=>rn ⟨26,0,1⟩ [.sl (l.map Bnd.row),.str s,.int (i:Int)]) (xs:=l) (p:=fun b=>decide (b.1=s)) (A:=some (0,[])) (B:=fun i b=>some (1,[.int (i:Int)])) (fun i hi=>?_) ?_
 · simp only [F4] at hf
   rw [bnd_find];rcases hf with ⟨h1,h2⟩|⟨i,hi,h1,h2⟩
   · left
     refine ⟨by rw [h1]; rfl,?_⟩
     show rn _ _=_
     rw [e26_0_0];rw [h2]; rfl
   · right
     refine ⟨i,hi,by rw [h1]; rfl,?_⟩
     show rn _ _=_
     rw [e26_0_0];rw [h2]; rfl
 · skip
   rw [e26_0_1];simp only [E7,rowAt_map hi,bd_row,C4,inbN,hi,F2,H3,H1,nth,E6,F6,D.I,D.S,D.L,D.B,wrap_succ hi (by unfold maxLen; omega)]
 · skip
   rw [e26_0_1];simp
theorem r33 (l:List Bnd) (hl:l.length<=1048576) (hs:∀ b∈l,Small b.2) (s:ByteArray):rn ⟨33,0,0⟩ [.sl (l.map Bnd.row),.str s]=match bnd l s with
 | some t=>some (0,[.int t.k,.int t.n,.str t.s,.bool true,.sl (t.as.map Tm.row)])
 | none=>some (0,[.int 0,.int 0,.str ⟨#[]⟩,.bool false,.sl []]):=by
 show rn _ _=_
 rw [e33_0_0];rcases r26 l hl s with ⟨h1,h2⟩|⟨i,hi,h1,h2⟩
 · skip
   rw [h1,h2]; rfl
 · skip
   have hc:=r27 l[i].2 (hs _ (D5 hi));rw [h1,h2];have hn:¬((i:Int)<0):=by omega
   simp only [B6,nth,E6,F6,D.I,D.S,D.L,D.B,E7,rowAt_map hi,bd_row,C4,inbN,hi,hn,H3,H4,H1,H2,hc]
theorem r9 (l:List Bnd) (hl:l.length<=1048576) (hs:∀ b∈l,Small b.2):∀ t:Tm,Small t->rn ⟨9,0,0⟩ [.sl (l.map Bnd.row),.int t.k,.int t.n,.str t.s,.sl (t.as.map Tm.row)]=some (0,[.int (aS l t).k,.int (aS l t).n,.str (aS l t).s,.sl ((aS l t).as.map Tm.row)]):=Tm.ind fun t ih h=>by
 have hlt:=h.len;show rn _ _=_
 rw [e9_0_0];have hf:=map_loop (F:=fun i acc=>rn ⟨9,0,1⟩ [.sl (l.map Bnd.row),.sl (t.as.map Tm.row),.int ((t.as.map Tm.row)).length,.int (i:Int),.int 0,.int 0,.str (⟨#[]⟩:ByteArray),.int t.k,.int t.n,.str t.s,.sl [],.sl acc]) (xs:=t.as) (fun x=>(aS l x).row) (K:=fun acc=>some (0,[.int (0),.int (0),.str ((⟨#[]⟩:ByteArray)),.int (t.k),.int (t.n),.str (t.s),.sl ([]),.sl (acc)])) (fun i hi acc ha=>?_) (fun acc=>?_)
 · simp only [F4] at hf
   have hb:=r21 l hl t.s;rw [aS_eq];by_cases hk:t.k=1
   · rw [H5 hk]
     cases hq:bnd l t.s with
     | none =>
      rw [hq] at hb;simp only at hb;simp only [H7 hk,H1,hb,B6,nth,E6,F6,D.I,D.S,D.L,D.B,H2,hf];simp [Tm.k,Tm.n,Tm.s,Tm.as,Function.comp_def]
     | some u =>
      rw [hq] at hb;simp only at hb;obtain ⟨b,hbm,rfl⟩:=bnd_mem hq;have hcp:=r23 b.2 (hs b hbm);simp only [H7 hk,H1,hb,B6,nth,E6,F6,D.I,D.S,D.L,D.B,hcp]
   · rw [H6 hk]
     simp only [H8 hk,H2,hf,B6,nth,E6,F6,D.I,D.S,D.L,D.B];simp [Tm.k,Tm.n,Tm.s,Tm.as,Function.comp_def]
 · have hc:=ih _ (D5 hi) (h.sub (D5 hi))
   rw [e9_0_1];simp only [E7,rowAt_map hi,Tm.row_eq,C4,inbN,hi,F2,H3,H1,nth,E6,F6,D.I,D.S,D.L,D.B,wrap_succ hi (by unfold maxLen; omega),hc,B6,C7,D4]
   rw [show G7 (acc.length+(0+1)) M63=true from G6 (by unfold M63; omega)]
   rfl
 · skip
   rw [e9_0_1];simp
theorem r25 (l:List Bnd) (hl:l.length<=1048576) (hs:∀ b∈l,Small b.2):∀ t:Tm,Small t->rn ⟨25,0,0⟩ [.sl (l.map Bnd.row),.int t.k,.int t.n,.str t.s,.sl (t.as.map Tm.row)]=some (0,[.int (aS l t).k,.int (aS l t).n,.str (aS l t).s,.sl ((aS l t).as.map Tm.row)]):=Tm.ind fun t ih h=>by
 have hlt:=h.len;show rn _ _=_
 rw [e25_0_0];have hf:=map_loop (F:=fun i acc=>rn ⟨25,0,1⟩ [.sl (l.map Bnd.row),.int (i:Int),.int t.k,.int t.n,.str t.s,.sl (t.as.map Tm.row),.int 0,.int 0,.str (⟨#[]⟩:ByteArray),.int t.k,.int t.n,.str t.s,.sl [],.sl acc]) (xs:=t.as) (fun x=>(aS l x).row) (K:=fun acc=>some (0,[.int (0),.int (0),.str ((⟨#[]⟩:ByteArray)),.int (t.k),.int (t.n),.str (t.s),.sl ([]),.sl (acc)])) (fun i hi acc ha=>?_) (fun acc=>?_)
 · simp only [F4] at hf
   have hb:=r33 l hl hs t.s;rw [aS_eq];by_cases hk:t.k=1
   · rw [H5 hk]
     cases hq:bnd l t.s with
     | none =>
      rw [hq] at hb;simp only at hb;simp only [H7 hk,H1,hb,B6,nth,E6,F6,D.I,D.S,D.L,D.B,H2,hf];simp [Tm.k,Tm.n,Tm.s,Tm.as,Function.comp_def]
     | some u =>
      rw [hq] at hb;simp only at hb;obtain ⟨b,hbm,rfl⟩:=bnd_mem hq;have hcp:=r23 b.2 (hs b hbm);simp only [H7 hk,H1,hb,B6,nth,E6,F6,D.I,D.S,D.L,D.B,hcp]
   · rw [H6 hk]
     simp only [H8 hk,H2,hf,B6,nth,E6,F6,D.I,D.S,D.L,D.B];simp [Tm.k,Tm.n,Tm.s,Tm.as,Function.comp_def]
 · have hc:=ih _ (D5 hi) (h.sub (D5 hi))
   rw [e25_0_1];simp only [E7,rowAt_map hi,Tm.row_eq,C4,inbN,hi,F2,H3,H1,nth,E6,F6,D.I,D.S,D.L,D.B,wrap_succ hi (by unfold maxLen; omega),hc,B6,C7,D4]
   rw [show G7 (acc.length+(0+1)) M63=true from G6 (by unfold M63; omega)]
   rfl
 · skip
   rw [e25_0_1];simp
theorem r41 (n:Int):rn ⟨41,0,0⟩ [.int n]=some (0,[.int 3,.int n,.str ⟨#[]⟩,.sl []]):=by
 show rn _ _=_
 rw [e41_0_0]
theorem r8:∀ t:Tm,∀ u:Tm,Small t->rn ⟨8,0,0⟩ [.int t.k,.int t.n,.str t.s,.sl (t.as.map Tm.row),.int u.k,.int u.n,.str u.s,.sl (u.as.map Tm.row)]=some (0,[.bool (eqb t.row u.row)]):=Tm.ind fun t ih u h=>by
 have hlt:=h.len;show rn _ _=_
 rw [e8_0_0];have hq:eqb t.row u.row=(decide (t.k=u.k)&&(decide (t.n=u.n)&&(decide (t.s=u.s)&&eqb (t.as.map Tm.row) (u.as.map Tm.row)))):=by
  rw [Tm.row_eq t,Tm.row_eq u];simp only [eqb_cons,eqb_nil,eqb_int,eqb_str,eqb_sl,Bool.and_true]
 rw [hq];try simp only [C4]
 by_cases l0:u.as.length≠t.as.length
 · rw [H8 (by omega:¬(t.as.length:Int)=(u.as.length:Int)),eqb_len (fun h=>l0 (by simpa using h.symm))]
   cases decide (t.k=u.k) <;> cases decide (t.n=u.n) <;> cases decide (t.s=u.s) <;> rfl
 have l0:=Classical.not_not.1 l0;rw [H7 (by omega:(t.as.length:Int)=(u.as.length:Int))]
 have hf:=eq_loop (F:=fun i=>rn ⟨8,0,1⟩ [.int (i:Int),.int t.k,.int t.n,.str t.s,.sl (t.as.map Tm.row),.int u.k,.int u.n,.str u.s,.sl (u.as.map Tm.row)]) (xs:=t.as.map Tm.row) (ys:=u.as.map Tm.row) (A:=some (0,[])) (B:=some (1,[])) (by simpa using l0) (fun i hi=>?_) ?_
 · simp only [F4] at hf
   rw [hf];cases decide (t.k=u.k) <;> cases decide (t.n=u.n) <;> cases decide (t.s=u.s) <;> cases eqb (t.as.map Tm.row) (u.as.map Tm.row) <;> rfl
 · have hi:i<t.as.length:=by simpa using hi
   have hi2:i<u.as.length:=by omega
   have hc:=ih _ (D5 hi) u.as[i] (h.sub (D5 hi));rw [e8_0_1];rw [O1,O1];generalize eqb t.as[i].row u.as[i].row=z at hc ⊢;simp only [E7,rowAt_map hi,rowAt_map hi2,Tm.row_eq,C4,inbN,hi,hi2,F2,H3,H1,nth,E6,F6,D.I,D.S,D.L,D.B,wrap_succ hi (by unfold maxLen; omega),B6,hc]
   cases z <;> rfl
 · skip
   rw [e8_0_1];simp
theorem r35:∀ t:Tm,∀ u:Tm,Small t->rn ⟨35,0,0⟩ [.int t.k,.int t.n,.str t.s,.sl (t.as.map Tm.row),.int u.k,.int u.n,.str u.s,.sl (u.as.map Tm.row)]=some (0,[.bool (eqb t.row u.row)]):=Tm.ind fun t ih u h=>by
 have hlt:=h.len;show rn _ _=_
 rw [e35_0_0];have hq:eqb t.row u.row=(decide (t.k=u.k)&&(decide (t.n=u.n)&&(decide (t.s=u.s)&&eqb (t.as.map Tm.row) (u.as.map Tm.row)))):=by
  rw [Tm.row_eq t,Tm.row_eq u];simp only [eqb_cons,eqb_nil,eqb_int,eqb_str,eqb_sl,Bool.and_true]
 rw [hq];try simp only [C4]
 have hl:rn ⟨50,0,0⟩ [.sl (t.as.map Tm.row),.sl (u.as.map Tm.row)]=some (0,[.bool (eqb (t.as.map Tm.row) (u.as.map Tm.row))]):=by
  rw [e50_0_0];simp only [C4];by_cases l0:u.as.length≠t.as.length
  · rw [H8 (by omega:¬(t.as.length:Int)=(u.as.length:Int)),eqb_len (fun h=>l0 (by simpa using h.symm))]; rfl
  have l0:=Classical.not_not.1 l0;rw [H7 (by omega:(t.as.length:Int)=(u.as.length:Int))]
  have hf:=eq_loop (F:=fun i=>rn ⟨50,0,1⟩ [.sl (u.as.map Tm.row),.sl (t.as.map Tm.row),.int ((t.as.map Tm.row)).length,.int (i:Int)]) (xs:=t.as.map Tm.row) (ys:=u.as.map Tm.row) (A:=some (0,[])) (B:=some (1,[])) (by simpa using l0) (fun i hi=>?_) ?_
  · simp only [F4,C4] at hf
    rw [hf];cases eqb (t.as.map Tm.row) (u.as.map Tm.row) <;> rfl
  · have hi:i<t.as.length:=by simpa using hi
    have hi2:i<u.as.length:=by omega
    have hc:=ih _ (D5 hi) u.as[i] (h.sub (D5 hi));rw [e50_0_1];rw [O1,O1];generalize eqb t.as[i].row u.as[i].row=z at hc ⊢;simp only [E7,rowAt_map hi,rowAt_map hi2,Tm.row_eq,C4,inbN,hi,hi2,F2,H3,H1,nth,E6,F6,D.I,D.S,D.L,D.B,wrap_succ hi (by unfold maxLen; omega),B6,hc]
    cases z <;> rfl
  · skip
    rw [e50_0_1];simp
 simp only [hl,B6,nth,E6,F6,D.I,D.S,D.L,D.B];cases decide (t.k=u.k) <;> cases decide (t.n=u.n) <;> cases decide (t.s=u.s) <;> rfl
end Go.Q.S
end
section
namespace Go.Q.S
open Go Go.Q Go.Proofs
theorem maxB {n:Nat} (h:n<=1099511627776):n<=maxLen:=by unfold maxLen; omega
theorem nb {n m:Nat} (h:n+m<=274877906944):G7 (n+m) M63=true:=G6 h
end Go.Q.S
end
section
namespace Go.Q.S
open Go Go.Q Go.Proofs
end Go.Q.S
end
section
namespace Go.Q.S
open Go Go.Q Go.Proofs
theorem r15 (l:List Bnd) (hl:l.length<=1048576) (hs:∀ b∈l,Small b.2) (ns:List ByteArray) (hn:ns.length<=1048577):rn ⟨15,0,0⟩ [.sl (l.map Bnd.row),.sl (ns.map sRow)]=some (0,[.sl ((rsB l (srtN ns)).map Bnd.row)]):=by
 have h1:=r32 ns (by omega)
 have hsl:=srtN_len ns;rw [e15_0_0,h1];generalize srtN ns=ms at hsl ⊢;have key:∀ n i (acc:List Bnd),i+n=ms.length->acc.length<=i->rn ⟨15,0,1⟩ [.sl (l.map Bnd.row),.int (i:Int),.sl (acc.map Bnd.row),.sl (ms.map sRow)]=some (0,[.sl ((acc++rsB l (ms.drop i)).map Bnd.row)]):=by
  intro n;induction n with
  | zero =>
   intro i acc hi ha;obtain rfl:i=ms.length:=by omega
   rw [e15_0_1];simp only [C4,F2,J5,H4,H2,K0,rsB,List.filterMap_nil,N1]
  | succ n ih =>
   intro i acc hi ha;have hlt:i<ms.length:=by omega
   rw [e15_0_1,F5 hlt,rsB_cons];have hbd:=r33 l hl hs ms[i];have hb2:G7 (acc.length+1) M63=true:=nb (by omega)
   simp only [C4,F2,hlt,H3,H1,inbN,E7,rowAt_map hlt,wrap_succ hlt (maxB (by omega)),sRow,nv0,nvS,dvI,dvB,dvS,dvL,B6,hbd]
   cases hq:bnd l ms[i] with
   | none =>
    have h2:=ih (i+1) acc (by omega) (by omega)
    simp only [nv0,nvS,dvI,dvB,dvS,dvL,B6,H2,h2]
   | some v =>
    have h2:=ih (i+1) (acc++[(ms[i],v)]) (by omega) (by simp; omega)
    simp only [F1,B9,F7,bd_row,sRow] at h2;simp only [nv0,nvS,dvI,dvB,dvS,dvL,B6,H1,C7,D4,D6,hb2,h2,F1,B9,D3,G8,F9,bd_row]
 have h:=key ms.length 0 [] (by omega) (K8 _)
 simp only [F4,F7,K3,F9] at h;simp only [h,nv0,nvS,dvI,dvB,dvS,dvL,B6,K6,H1,H2]
end Go.Q.S
end
section
namespace Go.Q.S
open Go Go.Q Go.Proofs
theorem r30 (l:List Bnd) (hl:l.length<=1048576) (hs:∀ b∈l,Small b.2) (s:ByteArray):rn ⟨30,0,0⟩ [.sl (l.map Bnd.row),.str s]=match bnd l s with
 | some t=>some (0,[.int t.k,.int t.n,.str t.s,.bool true,.sl (t.as.map Tm.row)])
 | none=>some (0,[.int 0,.int 0,.str ⟨#[]⟩,.bool false,.sl []]):=by
 have hb:=r21 l hl s;rw [e30_0_0,hb];cases hq:bnd l s with
 | some t =>
  obtain ⟨b,hbm,rfl⟩:=bnd_mem hq;have hc:=r23 b.2 (hs b hbm);simp only [nv0,nvS,dvI,dvB,dvS,dvL,B6,hc]
 | none =>
  have hc:=r23 tm0 (small_word ..);have hc':rn ⟨23,0,0⟩ [.int 0,.int 0,.str ⟨#[]⟩,.sl []]=_:=hc;simp only [nv0,nvS,dvI,dvB,dvS,dvL,B6,hc'];rfl
theorem r13 (l:List Bnd) (hl:l.length<=1048576) (hs:∀ b∈l,Small b.2) (ns:List ByteArray) (hn:ns.length<=1048577):rn ⟨13,0,0⟩ [.sl (l.map Bnd.row),.sl (ns.map sRow)]=some (0,[.sl ((rsB l (srtN ns)).map Bnd.row)]):=by
 have h1:=r29 ns (by omega)
 have hsl:=srtN_len ns;rw [e13_0_0,h1];generalize srtN ns=ms at hsl ⊢;have key:∀ n i (acc:List Bnd),i+n=ms.length->acc.length<=i->rn ⟨13,0,1⟩ [.sl (l.map Bnd.row),.int (ms.length:Int),.int (i:Int),.sl (acc.map Bnd.row),.sl (ms.map sRow)]=some (0,[.sl ((acc++rsB l (ms.drop i)).map Bnd.row)]):=by
  intro n;induction n with
  | zero =>
   intro i acc hi ha;obtain rfl:i=ms.length:=by omega
   rw [e13_0_1];simp only [C4,F2,J5,H4,H2,K0,rsB,List.filterMap_nil,N1]
  | succ n ih =>
   intro i acc hi ha;have hlt:i<ms.length:=by omega
   rw [e13_0_1,F5 hlt,rsB_cons];have hbd:=r30 l hl hs ms[i];have hb2:G7 (acc.length+1) M63=true:=nb (by omega)
   simp only [C4,F2,hlt,H3,H1,inbN,E7,rowAt_map hlt,wrap_succ hlt (maxB (by omega)),sRow,nv0,nvS,dvI,dvB,dvS,dvL,B6,hbd]
   cases hq:bnd l ms[i] with
   | none =>
    have h2:=ih (i+1) acc (by omega) (by omega)
    simp only [nv0,nvS,dvI,dvB,dvS,dvL,B6,H2,h2]
   | some v =>
    have h2:=ih (i+1) (acc++[(ms[i],v)]) (by omega) (by simp; omega)
    simp only [F1,B9,F7,bd_row,sRow] at h2;simp only [nv0,nvS,dvI,dvB,dvS,dvL,B6,H1,C7,D4,D6,hb2,h2,F1,B9,D3,G8,F9,bd_row]
 have h:=key ms.length 0 [] (by omega) (K8 _)
 simp only [F4,F7,K3,F9] at h;simp only [C4,h,nv0,nvS,dvI,dvB,dvS,dvL,B6,K6,H1,H2]
end Go.Q.S
end
section
namespace Go.Q.S
open Go Go.Q Go.Proofs
theorem byte_ok {code:Rows} (hl:code.length<=1048576) (i:Nat) (h:Int):Good (rn ⟨45,0,0⟩ [.sl code,.int (i:Int),.int h]) fun x=>∃ b:Int,∃ i':Nat,∃ h':Int,0<=b/\b<=255/\x=(0,[.int b,.sl code,.int ((i':Nat):Int),.int h']):=by
 rw [e45_0_0];rw [H7 (by decide:(0:Int)<=33),H7 (by decide:(0:Int)<=45)]
 simp only [H1];by_cases hi:i<code.length
 · rw [H7 (by omega:(i:Int)<(code.length:Int))]
   simp only [H1,inbN,hi,H3,wrap_succ hi (by unfold maxLen; omega)]
   obtain ⟨h1,h2⟩:=and255 (IntKind.i64.wrap ((andI .i64 (xorI .i64 (shrI .i64 (IntKind.i64.wrap ((IntKind.i64.wrap (h*6364136223846793005))+1442695040888963407)) 33) (shrI .i64 (IntKind.i64.wrap ((IntKind.i64.wrap (h*6364136223846793005))+1442695040888963407)) 45)) 255)+(IntKind.i64.wrap ((nth (rowAt code (Int.toNat (i:Int))) 0).I))));exact Good.ret ⟨_,i+1,_,h1,h2,rfl⟩
 · rw [H8 (by omega:¬(i:Int)<(code.length:Int))]
   simp only [H2];obtain ⟨h1,h2⟩:=and255 (xorI .i64 (shrI .i64 (IntKind.i64.wrap ((IntKind.i64.wrap (h*6364136223846793005))+1442695040888963407)) 33) (shrI .i64 (IntKind.i64.wrap ((IntKind.i64.wrap (h*6364136223846793005))+1442695040888963407)) 45));exact Good.ret ⟨_,i,_,h1,h2,rfl⟩
theorem below_ok {code:Rows} (hl:code.length<=1048576) (i:Nat) (h:Int) {n:Int} (h0:0<n) (h1:n<=256):Good (rn ⟨28,0,0⟩ [.int n,.sl code,.int (i:Int),.int h]) fun x=>∃ b:Int,∃ i':Nat,∃ h':Int,0<=b/\b<n/\x=(0,[.int b,.sl code,.int ((i':Nat):Int),.int h']):=by
 rw [e28_0_0];rw [H8 (by omega:¬ n<=0),H7 h1]
 simp only [H1,H2];refine Good.bind (byte_ok hl i h) ?_
 rintro _ ⟨b,i',h',b0,b1,rfl⟩
 simp only [nv0,nvS,dvI,dvB,dvS,dvL,B6];rw [H8 (by omega:¬ n=0)]
 exact Good.ret ⟨_,i',h',Int.tmod_nonneg _ b0,Int.tmod_lt_of_pos _ h0,rfl⟩
theorem once_ok {code:Rows} (hl:code.length<=1048576) (i:Nat) (h:Int) {n:Int} (h0:0<n) (h1:n<=256):Good (rn ⟨31,0,0⟩ [.int n,.sl code,.int (i:Int),.int h]) fun x=>∃ b:Bool,∃ i':Nat,∃ h':Int,x=(0,[.bool b,.sl code,.int ((i':Nat):Int),.int h']):=by
 rw [e31_0_0];refine Good.bind (below_ok hl i h h0 h1) ?_
 rintro _ ⟨b,i',h',b0,b1,rfl⟩
 exact Good.ret ⟨_,i',h',rfl⟩
theorem pick_ok {code:Rows} (hl:code.length<=1048576) (i:Nat) (h:Int) {l:Rows} (h0:0<l.length) (h1:l.length<=256) (m:Nat) (hs:∀ k,k<l.length->((nth (rowAt l k) 0).S).size<=m):Good (rn ⟨38,0,0⟩ [.sl l,.sl code,.int (i:Int),.int h]) fun x=>∃ s:ByteArray,∃ i':Nat,∃ h':Int,s.size<=m/\x=(0,[.str s,.sl code,.int ((i':Nat):Int),.int h']):=by
 rw [e38_0_0];refine Good.bind (below_ok hl i h (by omega:(0:Int)<(l.length:Int)) (by omega)) ?_
 rintro _ ⟨b,i',h',b0,b1,rfl⟩
 simp only [nv0,nvS,dvI,dvB,dvS,dvL,B6];rw [show inb b l.length=true from by simp [inb,b0,b1]]
 exact Good.ret ⟨_,i',h',hs b.toNat (by omega),rfl⟩
theorem pickI_ok {code:Rows} (hl:code.length<=1048576) (i:Nat) (h:Int) {l:Rows} (h0:0<l.length) (h1:l.length<=256) (hs:∀ k,k<l.length->-1000<=(nth (rowAt l k) 0).I/\(nth (rowAt l k) 0).I<=1000):Good (rn ⟨40,0,0⟩ [.sl l,.sl code,.int (i:Int),.int h]) fun x=>∃ n:Int,∃ i':Nat,∃ h':Int,-1000<=n/\n<=1000/\x=(0,[.int n,.sl code,.int ((i':Nat):Int),.int h']):=by
 rw [e40_0_0];refine Good.bind (below_ok hl i h (by omega:(0:Int)<(l.length:Int)) (by omega)) ?_
 rintro _ ⟨b,i',h',b0,b1,rfl⟩
 simp only [nv0,nvS,dvI,dvB,dvS,dvL,B6];rw [show inb b l.length=true from by simp [inb,b0,b1]]
 exact Good.ret ⟨_,i',h',(hs b.toNat (by omega)).1,(hs b.toNat (by omega)).2,rfl⟩
theorem new_ok {code:Rows} (hl:code.length<=1048576):Good (rn ⟨18,0,0⟩ [.sl code]) fun x=>∃ i':Nat,∃ h':Int,x=(0,[.sl code,.int ((i':Nat):Int),.int h']):=by
 have key:∀ (n i:Nat) (h:Int),i+n=code.length->∃ h':Int,rn ⟨18,0,1⟩ [.sl code,.int h,.int (i:Int)]=some (0,[.sl code,.int h']):=by
  intro n;induction n with
  | zero =>
   intro i h hi;rw [e18_0_1,H8 (by omega:¬(i:Int)<(code.length:Int))]
   exact ⟨_,rfl⟩
  | succ n ih =>
   intro i h hi;have hlt:i<code.length:=by omega
   rw [e18_0_1,H7 (by omega:(i:Int)<(code.length:Int))]
   simp only [H1,inbN,hlt,H3,wrap_succ hlt (by unfold maxLen; omega)]
   cases decide ((i:Int)<4000) with
   | true=>exact ih (i+1) _ (by omega)
   | false=>exact ⟨_,rfl⟩
 rw [e18_0_0];obtain ⟨h',e⟩:=key code.length 0 (IntKind.i64.wrap (26583+(code.length:Int))) (D6 _);simp only [F4] at e;rw [e];exact Good.ret ⟨0,h',rfl⟩
theorem r37 (s:ByteArray):rn ⟨37,0,0⟩ [.str s]=some (0,[.int 1,.int 0,.str s,.sl []]):=by rw [e37_0_0]
theorem r51 (s:ByteArray) (l:Rows):rn ⟨51,0,0⟩ [.str s,.sl l]=some (0,[.int 2,.int 0,.str s,.sl l]):=by rw [e51_0_0]
theorem r51b (s:ByteArray) (l:Rows):rn ⟨51,1,0⟩ [.str s,.sl l]=some (0,[.int 2,.int 0,.str s,.sl l]):=by rw [e51_1_0]
theorem r42 (s:ByteArray) (t:Tm):rn ⟨42,0,0⟩ [.str s,.int t.k,.int t.n,.str t.s,.sl (t.as.map Tm.row)]=some (0,[.int 2,.int 0,.str s,.sl [t.row]]):=by
 rw [e42_0_0];simp only [r51,r51b,nv0,nvS,dvI,dvB,dvS,dvL,B6,Tm.row_eq t]
theorem r52 (s:ByteArray) (t u:Tm):rn ⟨52,0,0⟩ [.str s,.int t.k,.int t.n,.str t.s,.sl (t.as.map Tm.row),.int u.k,.int u.n,.str u.s,.sl (u.as.map Tm.row)]=some (0,[.int 2,.int 0,.str s,.sl [t.row,u.row]]):=by
 rw [e52_0_0];simp only [r51,r51b,nv0,nvS,dvI,dvB,dvS,dvL,B6,Tm.row_eq t,Tm.row_eq u]
def DTk (code:Rows) (k m:Nat) (x:Nat×List D):Prop:=∃ t:Tm,∃ i':Nat,∃ h':Int,Dt k t/\t.nodes<=m/\x=(0,[.int t.k,.int t.n,.str t.s,.sl code,.int (i':Int),.int h',.sl (t.as.map Tm.row)])
theorem lfV {code:Rows} {k m:Nat} {s:ByteArray} {i:Nat} {h:Int} (hs:s.size<=k) (hm:1<=m):Good (some (0,[.int 1,.int 0,.str s,.sl code,.int (i:Int),.int h,.sl []])) (DTk code k m) :=
 Good.ret ⟨.mk 1 0 s [],i,h,.var hs,by simp [Tm.nodes,Tm.nodesL]; exact hm,rfl⟩
theorem lfC {code:Rows} {k m:Nat} {s:ByteArray} {i:Nat} {h:Int} (hs:s.size<=k) (hm:1<=m):Good (some (0,[.int 2,.int 0,.str s,.sl code,.int (i:Int),.int h,.sl []])) (DTk code k m) :=
 Good.ret ⟨.mk 2 0 s [],i,h,.app hs (by simp) (by simp),by simp [Tm.nodes,Tm.nodesL]; exact hm,rfl⟩
theorem lfW {code:Rows} {k m:Nat} {n:Int} {i:Nat} {h:Int} (h0:0<=n) (h1:n<=255) (hm:1<=m):Good (some (0,[.int 3,.int n,.str ⟨#[]⟩,.sl code,.int (i:Int),.int h,.sl []])) (DTk code k m) :=
 Good.ret ⟨.mk 3 n ⟨#[]⟩ [],i,h,.word h0 h1,by simp [Tm.nodes,Tm.nodesL]; exact hm,rfl⟩
theorem lf1 {code:Rows} {k m:Nat} {s:ByteArray} {t:Tm} {i:Nat} {h:Int} (hs:s.size<=k) (ht:Dt k t) (hm:t.nodes+1<=m):Good (some (0,[.int 2,.int 0,.str s,.sl code,.int (i:Int),.int h,.sl [t.row]])) (DTk code k m) :=
 Good.ret ⟨.mk 2 0 s [t],i,h,.app hs (by simp) (by simpa using ht),by simp [Tm.nodes,Tm.nodesL]; omega,rfl⟩
theorem lf2 {code:Rows} {k m:Nat} {s:ByteArray} {t u:Tm} {i:Nat} {h:Int} (hs:s.size<=k) (ht:Dt k t) (hu:Dt k u) (hm:t.nodes+u.nodes+1<=m):Good (some (0,[.int 2,.int 0,.str s,.sl code,.int (i:Int),.int h,.sl [t.row,u.row]])) (DTk code k m) :=
 Good.ret ⟨.mk 2 0 s [t,u],i,h,.app hs (by simp) (by simp [ht,hu]),by simp [Tm.nodes,Tm.nodesL]; omega,rfl⟩
theorem draw_ok {code:Rows} (hl:code.length<=1048576):∀ (d:Nat) (g:Bool) (i:Nat) (h:Int),d<=64->Good (rn ⟨39,0,0⟩ [.int (d:Int),.bool g,.sl code,.int (i:Int),.int h]) (DTk code 1 (2 ^ (d+1)-1)):=by
 intro d;induction d with
 | zero =>
  intro g i h hd;rw [e39_0_0,H7 (by decide:((0:Nat):Int)<2)]
  simp only [H1];repeat' (first
   | refine Good.ite (fun _=>?_) (fun _=>?_)
   | (refine Good.bind (once_ok hl _ _ (by decide) (by decide)) ?_; rintro _ ⟨b,i,h,rfl⟩; simp only [nv0,nvS,dvI,dvB,dvS,dvL,B6])
   | (refine Good.bind (below_ok hl _ _ (by decide) (by decide)) ?_; rintro _ ⟨b,i,h,_,_,rfl⟩; simp only [nv0,nvS,dvI,dvB,dvS,dvL,B6])
   | (refine Good.bind (pick_ok hl _ _ (by decide) (by decide) 1 (by decide)) ?_; rintro _ ⟨b,i,h,_,rfl⟩; simp only [nv0,nvS,dvI,dvB,dvS,dvL,B6])
   | (simp only [r37,r41,r51,r51b,nv0,nvS,dvI,dvB,dvS,dvL,B6]))
  all_goals (first | exact lfV (by assumption) (by decide) | exact lfC (by assumption) (by decide) | exact lfW (by assumption) (by omega) (by decide))
 | succ d ih =>
  intro g i h hd;have hp:2 ^ (d+1+1)=2*2 ^ (d+1):=by omega
  have h1:1<=2 ^ (d+1):=Nat.one_le_pow _ _ (by decide)
  rw [e39_0_0];simp only [H2,wrap_dec (show d<=64 by omega)]
  repeat' (first
   | refine Good.ite (fun _=>?_) (fun _=>?_)
   | (refine Good.bind (ih _ _ _ (by omega)) ?_; rintro _ ⟨t,i,h,_,_,rfl⟩; simp only [nv0,nvS,dvI,dvB,dvS,dvL,B6])
   | (refine Good.bind (once_ok hl _ _ (by decide) (by decide)) ?_; rintro _ ⟨b,i,h,rfl⟩; simp only [nv0,nvS,dvI,dvB,dvS,dvL,B6])
   | (refine Good.bind (below_ok hl _ _ (by decide) (by decide)) ?_; rintro _ ⟨b,i,h,_,_,rfl⟩; simp only [nv0,nvS,dvI,dvB,dvS,dvL,B6])
   | (refine Good.bind (pick_ok hl _ _ (by decide) (by decide) 1 (by decide)) ?_; rintro _ ⟨b,i,h,_,rfl⟩; simp only [nv0,nvS,dvI,dvB,dvS,dvL,B6])
   | (simp only [r37,r41,r51,r51b,r42,r52,nv0,nvS,dvI,dvB,dvS,dvL,B6]))
  all_goals (first | exact lfV (by assumption) (by omega) | exact lfC (by assumption) (by omega) | exact lfW (by assumption) (by omega) (by omega) | exact lf1 (by first | assumption | decide) (by assumption) (by omega) | exact lf2 (by first | assumption | decide) (by assumption) (by assumption) (by omega))
def DSb (code:Rows) (x:Nat×List D):Prop:=∃ l:List Bnd,∃ i':Nat,∃ h':Int,l.length<=8/\(∀ b∈l,Dt 1 b.2/\b.2.nodes<=7)/\x=(0,[.sl code,.int (i':Int),.int h',.sl (l.map Bnd.row)])
theorem sub_ok {code:Rows} (hl:code.length<=1048576) (i:Nat) (h:Int):Good (rn ⟨19,0,0⟩ [.sl code,.int (i:Int),.int h]) (DSb code):=by
 have key:∀ (m k:Nat) (b:Int),b<4->(k:Int)+m=4->∀ (i:Nat) (h:Int) (l:List Bnd),l.length=k->(∀ b∈l,Dt 1 b.2/\b.2.nodes<=7)->Good (rn ⟨19,0,1⟩ [.int b,.int (k:Int),.sl code,.int (i:Int),.int h,.sl (l.map Bnd.row)]) (DSb code):=by
  intro m;induction m with
  | zero =>
   intro k b hb hk i h l hll hd;rw [e19_0_1,H8 (by omega:¬(k:Int)<b)]
   exact Good.ret ⟨l,i,h,by omega,hd,rfl⟩
  | succ m ih =>
   intro k b hb hk i h l hll hd;rw [e19_0_1];refine Good.ite (fun _=>?_) (fun _=>?_)
   · refine Good.bind (pick_ok hl _ _ (by decide) (by decide) 1 (by decide)) ?_
     rintro _ ⟨s,i,h,hs,rfl⟩
     simp only [nv0,nvS,dvI,dvB,dvS,dvL,B6];refine Good.bind (below_ok hl _ _ (by decide) (by decide)) ?_
     rintro _ ⟨b1,i,h,hb0,hb1,rfl⟩
     simp only [nv0,nvS,dvI,dvB,dvS,dvL,B6];refine Good.bind (once_ok hl _ _ (by decide) (by decide)) ?_
     rintro _ ⟨g,i,h,rfl⟩
     simp only [nv0,nvS,dvI,dvB,dvS,dvL,B6];have e:∃ d:Nat,IntKind.i64.wrap (1+b1)=(d:Int)/\d<=2:=⟨(1+b1).toNat,by rw [IntWalk.i64_in _ (by omega)]; omega,by omega⟩
     obtain ⟨d,e,hd2⟩:=e;rw [e];refine Good.bind (draw_ok hl d g _ _ (by omega)) ?_
     rintro _ ⟨t,i,h,ht,hn,rfl⟩
     have hp:2 ^ (d+1)<=2 ^ 3:=Nat.pow_le_pow_right (by decide) (by omega)
     have hp8:(2:Nat) ^ 3=8:=rfl;have hb63:G7 (l.length+1) M63=true:=nb (by omega)
     simp only [nv0,nvS,dvI,dvB,dvS,dvL,B6,C4,C7,D4,D6,hb63,H1];have:=ih (k+1) b hb (by omega) i h (l++[(s,t)]) (by simp [hll]) (fun b hb=>by
      rcases C0.1 hb with hb | hb
      · exact hd b hb
      · simp only [D8] at hb; subst hb; exact ⟨ht,by show t.nodes<=7; omega⟩)
     simp only [F1,B9,F7,bd_row] at this;have ew:IntKind.i64.wrap ((k:Int)+1)=((k+1:Nat):Int):=by rw [IntWalk.i64_in _ (by omega)]; omega
     rw [ew];exact this
   · exact Good.ret ⟨l,i,h,by omega,hd,rfl⟩
 rw [e19_0_0];refine Good.bind (below_ok hl _ _ (by decide) (by decide)) ?_
 rintro _ ⟨b,i,h,b0,b1,rfl⟩
 simp only [nv0,nvS,dvI,dvB,dvS,dvL,B6];have:=key 4 0 b b1 rfl i h [] rfl (by simp)
 refine Good.bind this ?_
 rintro _ ⟨l,i,h,h1,h2,rfl⟩
 exact Good.ret ⟨l,i,h,h1,h2,rfl⟩
end Go.Q.S
end
section
namespace Go.Q.S
open Go Go.Q Go.Proofs
theorem copyB_ok (b:Bnd) (hb:Small b.2):rn ⟨22,0,0⟩ [.str b.1,.int b.2.k,.int b.2.n,.str b.2.s,.sl (b.2.as.map Tm.row)]=some (0,[.str b.1,.int b.2.k,.int b.2.n,.str b.2.s,.sl (b.2.as.map Tm.row)]):=by
 rw [e22_0_0,r23 b.2 hb];rfl
theorem composeI (a b:List Bnd) (ha:a.length<=1048576) (hb:b.length<=1048576) (hsa:∀ x∈a,Small x.2) (hsb:∀ x∈b,Small x.2):rn ⟨7,0,0⟩ [.sl (a.map Bnd.row),.sl (b.map Bnd.row)]=some (0,[.sl ((cmS a b).map Bnd.row)]):=by
 have hf:=map_loop (F:=fun i acc=>rn ⟨7,0,1⟩ [.sl (a.map Bnd.row),.sl (b.map Bnd.row),.sl (a.map Bnd.row),.int (a.length:Int),.int (i:Int),.sl acc]) (xs:=a) (fun x=>Bnd.row (x.1,aS b x.2)) (K:=fun acc=>some (0,[.sl (a.map Bnd.row),.sl (b.map Bnd.row),.sl acc])) (fun i hi acc hac=>?_) (fun acc=>?_)
 · simp only [F4] at hf
   have key:∀ n i (acc:List Bnd),i+n=b.length->acc.length<=a.length+i->rn ⟨7,0,3⟩ [.sl (a.map Bnd.row),.sl (b.map Bnd.row),.int (b.length:Int),.int (i:Int),.sl (acc.map Bnd.row)]=some (0,[.sl ((acc++(b.drop i).filter fun x=>(bnd a x.1).isNone).map Bnd.row)]):=by
    intro n;induction n with
    | zero =>
     intro i acc hi hac;obtain rfl:i=b.length:=by omega
     rw [e7_0_3];simp only [C4,F2,J5,H4,H2,K0,List.filter_nil,N1]
    | succ n ih =>
     intro i acc hi hac;have hlt:i<b.length:=by omega
     have h1:=r21 a ha b[i].1;have h2:=copyB_ok b[i] (hsb _ (D5 hlt));have hb2:G7 (acc.length+1) M63=true:=nb (by omega)
     rw [e7_0_3,F5 hlt,O2];simp only [C4,F2,hlt,H3,H1,inbN,E7,rowAt_map hlt,wrap_succ hlt (maxB (by omega)),bd_row,nv0,nvS,dvI,dvB,dvS,dvL,B6,h1]
     cases hq:bnd a b[i].1 with
     | some v =>
      have h3:=ih (i+1) acc (by omega) (by omega)
      simp only [nv0,nvS,dvI,dvB,dvS,dvL,B6,N9,H2,h3,Option.isNone_some,Bool.false_eq_true,if_false]
     | none =>
      have h3:=ih (i+1) (acc++[b[i]]) (by omega) (by simp; omega)
      simp only [F1,B9,F7,bd_row] at h3;simp only [nv0,nvS,dvI,dvB,dvS,dvL,B6,Bool.not_false,H1,h2,C7,D4,D6,hb2,h3,Option.isNone_none,if_true,F1,B9,D3,G8,F9,bd_row]
   have h2:=key b.length 0 (a.map fun x=>(x.1,aS b x.2)) (D6 _) (by simp)
   simp only [F4,K3,J6] at h2;rw [e7_0_0];simp only [C4,hf,nv0,nvS,dvI,dvB,dvS,dvL,B6,K6,H1,H2];have e:(a.map fun x=>Bnd.row (x.1,aS b x.2))=a.map (Bnd.row ∘ fun x=>(x.1,aS b x.2)):=rfl
   rw [e,h2];rfl
 · have h1:=r9 b hb hsb a[i].2 (hsa _ (D5 hi))
   have hb2:G7 (acc.length+1) M63=true:=nb (by omega)
   rw [e7_0_1];simp only [C4,F2,hi,H3,H1,inbN,E7,rowAt_map hi,wrap_succ hi (maxB (by omega)),bd_row,nv0,nvS,dvI,dvB,dvS,dvL,B6,h1,C7,D4,D6,hb2]
 · rw [e7_0_1]
   simp only [F2,J5,H4,H2]
theorem composeS (a b:List Bnd) (ha:a.length<=1048576) (hb:b.length<=1048576) (hsa:∀ x∈a,Small x.2) (hsb:∀ x∈b,Small x.2):rn ⟨11,0,0⟩ [.sl (a.map Bnd.row),.sl (b.map Bnd.row)]=some (0,[.sl ((cmS a b).map Bnd.row)]):=by
 have hf:=map_loop (F:=fun i acc=>rn ⟨11,0,1⟩ [.sl (a.map Bnd.row),.sl (b.map Bnd.row),.int (i:Int),.sl acc]) (xs:=a) (fun x=>Bnd.row (x.1,aS b x.2)) (K:=fun acc=>some (0,[.sl (a.map Bnd.row),.sl (b.map Bnd.row),.sl acc])) (fun i hi acc hac=>?_) (fun acc=>?_)
 · simp only [F4] at hf
   have key:∀ n i (acc:List Bnd),i+n=b.length->acc.length<=a.length+i->rn ⟨11,0,3⟩ [.sl (a.map Bnd.row),.sl (b.map Bnd.row),.int (i:Int),.sl (acc.map Bnd.row)]=some (0,[.sl ((acc++(b.drop i).filter fun x=>(bnd a x.1).isNone).map Bnd.row)]):=by
    intro n;induction n with
    | zero =>
     intro i acc hi hac;obtain rfl:i=b.length:=by omega
     rw [e11_0_3];simp only [C4,F2,J5,H4,H2,K0,List.filter_nil,N1]
    | succ n ih =>
     intro i acc hi hac;have hlt:i<b.length:=by omega
     have h1:=r26 a ha b[i].1;have h2:=r27 b[i].2 (hsb _ (D5 hlt));have hb2:G7 (acc.length+1) M63=true:=nb (by omega)
     rw [e11_0_3,F5 hlt,O2];rcases h1 with ⟨hq,h1⟩|⟨j,hj,hq,h1⟩
     · have h3:=ih (i+1) (acc++[b[i]]) (by omega) (by simp; omega)
       simp only [F1,B9,F7,bd_row] at h3;simp only [C4,F2,hlt,H3,H1,inbN,E7,rowAt_map hlt,wrap_succ hlt (maxB (by omega)),bd_row,nv0,nvS,dvI,dvB,dvS,dvL,B6,h1,show decide ((-1:Int)<0)=true from rfl,h2,C7,D4,D6,hb2,h3,hq,Option.isNone_none,if_true,F1,B9,D3,G8,F9]
     · have h3:=ih (i+1) acc (by omega) (by omega)
       simp only [C4,F2,hlt,H3,H1,inbN,E7,rowAt_map hlt,wrap_succ hlt (maxB (by omega)),bd_row,nv0,nvS,dvI,dvB,dvS,dvL,B6,h1,H8 (show ¬(j:Int)<0 by omega),H2,h3,hq,Option.isNone_some,Bool.false_eq_true,if_false]
   have h2:=key b.length 0 (a.map fun x=>(x.1,aS b x.2)) (D6 _) (by simp)
   simp only [F4,K3,J6] at h2;rw [e11_0_0];simp only [hf,nv0,nvS,dvI,dvB,dvS,dvL,B6,K6,H1,H2];have e:(a.map fun x=>Bnd.row (x.1,aS b x.2))=a.map (Bnd.row ∘ fun x=>(x.1,aS b x.2)):=rfl
   rw [e,h2];rfl
 · have h1:=r25 b hb hsb a[i].2 (hsa _ (D5 hi))
   have hb2:G7 (acc.length+1) M63=true:=nb (by omega)
   rw [e11_0_1];simp only [C4,F2,hi,H3,H1,inbN,E7,rowAt_map hi,wrap_succ hi (maxB (by omega)),bd_row,nv0,nvS,dvI,dvB,dvS,dvL,B6,h1,C7,D4,D6,hb2]
 · rw [e11_0_1]
   simp
end Go.Q.S
end
section
namespace Go.Q.S
open Go Go.Q Go.Proofs
theorem ints0:rn ⟨43,0,0⟩ [.sl [],.sl []]=some (0,[.bool true]):=by
 have h:rn ⟨43,0,1⟩ [.sl [],.sl [],.int 0]=some (0,[]):=by rw [e43_0_1]; rfl
 rw [e43_0_0];have h':rn ⟨43,0,1⟩ [.sl [],.sl [],.int 0]=some (0,[]):=h;simp only [D4,H3,N9,H2,h',nv0,nvS,dvI,dvB,dvS,dvL,B6,K6,H1,H2]
theorem binds_ok (l:List Bnd) (hl:l.length<=1048576) (hs:∀ b∈l,Small b.2):rn ⟨44,0,0⟩ [.sl (l.map Bnd.row),.sl (l.map Bnd.row)]=some (0,[.bool true]):=by
 have key:∀ n i,i+n=l.length->rn ⟨44,0,1⟩ [.sl (l.map Bnd.row),.sl (l.map Bnd.row),.int (i:Int)]=some (0,[]):=by
  intro n;induction n with
  | zero =>
   intro i hi;obtain rfl:i=l.length:=by omega
   rw [e44_0_1];simp only [C4,F2,J5,H4,H2,K0]
  | succ n ih =>
   intro i hi;have hlt:i<l.length:=by omega
   have he:=r8 l[i].2 l[i].2 (hs _ (D5 hlt));have h1:=ih (i+1) (by omega)
   rw [eqb_refl] at he;rw [e44_0_1];simp only [C4,F2,hlt,H3,H1,inbN,E7,rowAt_map hlt,wrap_succ hlt (maxB (by omega)),bd_row,nv0,nvS,dvI,dvB,dvS,dvL,B6,N9,H2,he,h1]
 rw [e44_0_0];have h:=key l.length 0 (D6 _);simp only [F4] at h;simp only [H3,N9,H2,h,nv0,nvS,dvI,dvB,dvS,dvL,B6,K6,H1,H2]
theorem sameBinds_ok (l:List Bnd) (hl:l.length<=1048576) (hs:∀ b∈l,Small b.2):rn ⟨10,0,0⟩ [.sl (l.map Bnd.row),.sl (l.map Bnd.row)]=some (0,[.bool true]):=by
 have h1:=binds_ok l hl hs;have h2:rn ⟨24,0,1⟩ [.int 1,.sl [[.int 0,.sl [],.int 0,.sl (l.map Bnd.row)]],.sl [[.int 0,.sl [],.int 0,.sl (l.map Bnd.row)]]]=some (0,[]):=by
  rw [e24_0_1]; rfl
 have h3:rn ⟨24,0,1⟩ [.int 0,.sl [[.int 0,.sl [],.int 0,.sl (l.map Bnd.row)]],.sl [[.int 0,.sl [],.int 0,.sl (l.map Bnd.row)]]]=some (0,[]):=by
  rw [e24_0_1];have hr:∀ x:List D,rowAt [x] (Int.toNat 0)=x:=fun _=>rfl
  have hi:inb 0 1=true:=rfl;have hw:IntKind.i64.wrap (0+1)=1:=rfl;simp only [C7,D4,D6,hr,hi,hw,nv0,nvS,dvI,dvB,dvS,dvL,B6,H3,N9,H2,H1,ints0,h1,h2,show decide ((0:Int)<((1:Nat):Int))=true from rfl]
 have h4:rn ⟨24,0,0⟩ [.sl [[.int 0,.sl [],.int 0,.sl (l.map Bnd.row)]],.sl [[.int 0,.sl [],.int 0,.sl (l.map Bnd.row)]]]=some (0,[.bool true]):=by
  rw [e24_0_0];simp only [H3,N9,H2,h3,nv0,nvS,dvI,dvB,dvS,dvL,B6,K6,H1,H2]
 rw [e10_0_0,h4];rfl
theorem big_ok (code:Rows):rn ⟨4,0,0⟩ [.sl code]=some (0,[.bool (decide ((1048576:Int)<code.length))]):=by rw [e4_0_0]
end Go.Q.S
end
section
namespace Go.Q.S
open Go Go.Q Go.Proofs
theorem DTk.mono {code:Rows} {k m m':Nat} {x:Nat×List D} (h:DTk code k m x) (hm:m<=m'):DTk code k m' x:=by
 obtain ⟨t,i,h',h1,h2,e⟩:=h;exact ⟨t,i,h',h1,G9 h2 hm,e⟩
def DW (code:Rows) (m:Nat) (x:Nat×List D):Prop:=∃ t:Tm,∃ i':Nat,∃ h':Int,Wn m t/\x=(0,[.int t.k,.int t.n,.str t.s,.sl code,.int (i':Int),.int h',.sl (t.as.map Tm.row)])
theorem bent_ok {code:Rows} (hl:code.length<=1048576) (i:Nat) (h:Int):Good (rn ⟨20,0,0⟩ [.sl code,.int (i:Int),.int h]) (DW code 60):=by
 have key:∀ (n j:Nat) (t:Tm) (i:Nat) (h:Int) (m:Nat),j+n=16->Wn m t->∃ u:Tm,Wn (m+n) u/\rn ⟨20,0,2⟩ [.int (j:Int),.sl code,.int (i:Int),.int h,.int 0,.int 0,.str ⟨#[]⟩,.int t.k,.int t.n,.str t.s,.sl [],.sl (t.as.map Tm.row)]=some (0,[.sl code,.int (i:Int),.int h,.int 0,.int 0,.str ⟨#[]⟩,.int u.k,.int u.n,.str u.s,.sl [],.sl (u.as.map Tm.row)]):=by
  intro n;induction n with
  | zero =>
   intro j t i h m hj ht;rw [e20_0_2,H8 (by omega:¬(j:Int)<16)]
   exact ⟨t,ht,rfl⟩
  | succ n ih =>
   intro j t i h m hj ht;rw [e20_0_2,H7 (by omega:(j:Int)<16)]
   have ew:IntKind.i64.wrap ((j:Int)+1)=((j+1:Nat):Int):=by rw [IntWalk.i64_in _ (by omega)]; omega
   simp only [H1,r42,nv0,nvS,dvI,dvB,dvS,dvL,B6,ew];obtain ⟨u,hu,e⟩:=ih (j+1) (tO (⟨#[103]⟩:ByteArray) t) i h (m+1) (by omega) (wn_O (by decide) ht)
   exact ⟨u,hu.mono (by omega),e⟩
 rw [e20_0_0];refine Good.bind (below_ok hl _ _ (by decide) (by decide)) ?_
 rintro _ ⟨b1,i,h,hb0,hb1,rfl⟩
 simp only [nv0,nvS,dvI,dvB,dvS,dvL,B6];refine Good.bind (once_ok hl _ _ (by decide) (by decide)) ?_
 rintro _ ⟨g,i,h,rfl⟩
 simp only [nv0,nvS,dvI,dvB,dvS,dvL,B6];have e:∃ d:Nat,IntKind.i64.wrap (1+b1)=(d:Int)/\d<=4:=⟨(1+b1).toNat,by rw [IntWalk.i64_in _ (by omega)]; omega,by omega⟩
 obtain ⟨d,e,hd2⟩:=e;rw [e];refine Good.bind (draw_ok hl d g _ _ (by omega)) ?_
 rintro _ ⟨t,i,h,ht,htn,rfl⟩
 have hq:2 ^ (d+1)<=2 ^ 5:=Nat.pow_le_pow_right (by decide) (by omega)
 have hq8:(2:Nat) ^ 5=32:=rfl;have hw:Wn 31 t:=ht.wn (by decide) (by omega)
 have hal:t.as.length<=2:=by
  cases ht with
  | var _=>simp [Tm.as]
  | word _ _=>simp [Tm.as]
  | app _ h _=>exact h
 have hk:-1000<=t.k/\t.k<=1000/\-1000<=t.n/\t.n<=1000/\t.s.size<=1000:=by
  cases ht with
  | var h=>refine ⟨?_,?_,?_,?_,?_⟩ <;> simp [Tm.k,Tm.n,Tm.s]; omega
  | word h0 h1=>exact ⟨by show (-1000:Int)<=3; decide,by show (3:Int)<=1000; decide,by simp only [Tm.n]; omega,by simp only [Tm.n]; omega,by show (⟨#[]⟩:ByteArray).size<=1000; decide⟩
  | app h _ _=>refine ⟨?_,?_,?_,?_,?_⟩ <;> simp [Tm.k,Tm.n,Tm.s]; omega
 obtain ⟨k1,k2,k3,k4,k5⟩:=hk;have hsub:∀ a∈t.as,Wt a:=fun a ha=>hw.w.sub ha
 have hnod:∀ (k n:Int) (s:ByteArray),(Tm.mk k n s t.as).nodes<=31:=fun k n s=>by have:=hw.n; rw [Tm.nodes_eq] at this ⊢; exact this
 simp only [nv0,nvS,dvI,dvB,dvS,dvL,B6];refine Good.bind (below_ok hl _ _ (by decide) (by decide)) ?_
 rintro _ ⟨c,i,h,hc0,hc1,rfl⟩
 simp only [nv0,nvS,dvI,dvB,dvS,dvL,B6];refine Good.ite (fun _=>?_) (fun _=>?_)
 · refine Good.bind (below_ok hl _ _ (by decide) (by decide)) ?_
   rintro _ ⟨b,i,h,b0,b1,rfl⟩
   exact Good.ret ⟨.mk b t.n t.s t.as,i,h,⟨wt_of (by omega) (by omega) k3 k4 k5 (by omega) hsub,G9 (hnod _ _ _) (by decide)⟩,rfl⟩
 refine Good.ite (fun _=>?_) (fun _=>?_)
 · refine Good.bind (pickI_ok hl _ _ (by decide) (by decide) (by decide)) ?_
   rintro _ ⟨b,i,h,b0,b1,rfl⟩
   exact Good.ret ⟨.mk t.k b t.s t.as,i,h,⟨wt_of k1 k2 b0 b1 k5 (by omega) hsub,G9 (hnod _ _ _) (by decide)⟩,rfl⟩
 refine Good.ite (fun _=>?_) (fun _=>?_)
 · refine Good.bind (pick_ok hl _ _ (by decide) (by decide) 8 (by decide)) ?_
   rintro _ ⟨s,i,h,hs,rfl⟩
   exact Good.ret ⟨.mk t.k t.n s t.as,i,h,⟨wt_of k1 k2 k3 k4 (by omega) (by omega) hsub,G9 (hnod _ _ _) (by decide)⟩,rfl⟩
 refine Good.ite (fun _=>?_) (fun _=>?_)
 · have hb63:G7 (t.as.length+1) M63=true:=nb (by omega)
   simp only [r41,nv0,nvS,dvI,dvB,dvS,dvL,B6,C4,C7,D4,D6,hb63,H1];refine Good.ret ⟨.mk t.k t.n t.s (t.as++[tW 1]),i,h,⟨wt_of k1 k2 k3 k4 k5 (by simp; omega) (fun a ha=>?_),?_⟩,?_⟩
   · rcases C0.1 ha with ha | ha
     · exact hsub a ha
     · rw [D8.1 ha]; exact (wn_W (by decide) (by decide)).w
   · have:=hw.n
     rw [Tm.nodes_eq] at this ⊢;have h1:(tW 1).nodes=1:=by simp [tW,Tm.nodes,Tm.nodesL]
     simp only [Tm.as_mk,F1,B9,F7,List.sum_append,List.sum_cons,List.sum_nil,h1];omega
   · simp only [Tm.k_mk,Tm.s_mk,Tm.as_mk,F1,B9,F7,tW,Tm.row,Tm.rows]; rfl
 refine Good.ite (fun _=>?_) (fun _=>?_)
 · obtain ⟨u,hu,e⟩:=key 16 0 t i h 31 rfl hw
   simp only [F4] at e;simp only [e,nv0,nvS,dvI,dvB,dvS,dvL,B6,K6,H1,H2];exact Good.ret ⟨u,i,h,hu.mono (by decide),rfl⟩
 · exact Good.ret ⟨t,i,h,hw.mono (by decide),rfl⟩
end Go.Q.S
end
section
namespace Go.Proofs
open Go.Shelf
def Try.lays190_ren:Go.Shelf.Ren:=⟨fun | 190=>47 | 125=>54 | 258=>53 | 128=>64 | 129=>65 | 302=>55 | 303=>56 | 304=>57 | 305=>58 | 306=>59 | 307=>60 | 308=>61 | 309=>62 | 310=>63 | 333=>66 | 329=>67 | 330=>68 | 334=>69 | 335=>70 | 336=>71 | 344=>72 | n=>n,fun | 31=>36 | 9=>9 | 3=>3 | 46=>79 | 0=>0 | 51=>92 | 53=>94 | 4=>4 | 183=>84 | 182=>83 | 131=>89 | 5=>5 | 218=>95 | 222=>99 | 228=>102 | 229=>103 | n=>n,fun | n=>n⟩
theorem Try.lays190:Go.Proofs.Lays.n190 Try.prog Try.lays190_ren:={
 mixed:=by kernel_rfl
 f125:=Try.func54.trans (congrArg some (by kernel_rfl))
 f128:=Try.func64.trans (congrArg some (by kernel_rfl))
 f129:=Try.func65.trans (congrArg some (by kernel_rfl))
 f190:=Try.func47.trans (congrArg some (by kernel_rfl))
 f258:=Try.func53.trans (congrArg some (by kernel_rfl))
 f302:=Try.func55.trans (congrArg some (by kernel_rfl))
 f303:=Try.func56.trans (congrArg some (by kernel_rfl))
 f304:=Try.func57.trans (congrArg some (by kernel_rfl))
 f305:=Try.func58.trans (congrArg some (by kernel_rfl))
 f306:=Try.func59.trans (congrArg some (by kernel_rfl))
 f307:=Try.func60.trans (congrArg some (by kernel_rfl))
 f308:=Try.func61.trans (congrArg some (by kernel_rfl))
 f309:=Try.func62.trans (congrArg some (by kernel_rfl))
 f310:=Try.func63.trans (congrArg some (by kernel_rfl))
 f329:=Try.func67.trans (congrArg some (by kernel_rfl))
 f330:=Try.func68.trans (congrArg some (by kernel_rfl))
 f333:=Try.func66.trans (congrArg some (by kernel_rfl))
 f334:=Try.func69.trans (congrArg some (by kernel_rfl))
 f335:=Try.func70.trans (congrArg some (by kernel_rfl))
 f336:=Try.func71.trans (congrArg some (by kernel_rfl))
 f344:=Try.func72.trans (congrArg some (by kernel_rfl))
 t0:=Try.underlying0
 a0:=Try.isAgg0
 z0:=Try.sizeOf0
 v0:=Try.zeroValue0
 t3:=Try.underlying3
 a3:=Try.isAgg3
 z3:=Try.sizeOf3
 v3:=Try.zeroValue3
 t4:=Try.underlying4
 a4:=Try.isAgg4
 z4:=Try.sizeOf4
 v4:=Try.zeroValue4
 t5:=Try.underlying5
 a5:=Try.isAgg5
 z5:=Try.sizeOf5
 v5:=Try.zeroValue5
 t9:=Try.underlying9
 a9:=Try.isAgg9
 z9:=Try.sizeOf9
 v9:=Try.zeroValue9
 t31:=Try.underlying36
 a31:=Try.isAgg36
 z31:=Try.sizeOf36
 v31:=Try.zeroValue36
 t46:=Try.underlying79
 a46:=Try.isAgg79
 z46:=Try.sizeOf79
 v46:=Try.zeroValue79
 t51:=Try.underlying92
 a51:=Try.isAgg92
 z51:=Try.sizeOf92
 v51:=Try.zeroValue92
 t53:=Try.underlying94
 a53:=Try.isAgg94
 z53:=Try.sizeOf94
 v53:=Try.zeroValue94
 t131:=Try.underlying89
 a131:=Try.isAgg89
 z131:=Try.sizeOf89
 v131:=Try.zeroValue89
 t182:=Try.underlying83
 a182:=Try.isAgg83
 z182:=Try.sizeOf83
 v182:=Try.zeroValue83
 t183:=Try.underlying84
 a183:=Try.isAgg84
 z183:=Try.sizeOf84
 v183:=Try.zeroValue84
 t218:=Try.underlying95
 a218:=Try.isAgg95
 z218:=Try.sizeOf95
 v218:=Try.zeroValue95
 t222:=Try.underlying99
 a222:=Try.isAgg99
 z222:=Try.sizeOf99
 v222:=Try.zeroValue99
 t228:=Try.underlying102
 a228:=Try.isAgg102
 z228:=Try.sizeOf102
 v228:=Try.zeroValue102
 t229:=Try.underlying103
 a229:=Try.isAgg103
 z229:=Try.sizeOf103
 v229:=Try.zeroValue103 }
def Try.lays194_ren:Go.Shelf.Ren:=⟨fun | 194=>48 | n=>n,fun | 31=>36 | 9=>9 | 3=>3 | 4=>4 | 0=>0 | n=>n,fun | n=>n⟩
theorem Try.lays194:Go.Proofs.Lays.n194 Try.prog Try.lays194_ren:={
 mixed:=by kernel_rfl
 f194:=Try.func48.trans (congrArg some (by kernel_rfl))
 t0:=Try.underlying0
 a0:=Try.isAgg0
 z0:=Try.sizeOf0
 v0:=Try.zeroValue0
 t3:=Try.underlying3
 a3:=Try.isAgg3
 z3:=Try.sizeOf3
 v3:=Try.zeroValue3
 t4:=Try.underlying4
 a4:=Try.isAgg4
 z4:=Try.sizeOf4
 v4:=Try.zeroValue4
 t9:=Try.underlying9
 a9:=Try.isAgg9
 z9:=Try.sizeOf9
 v9:=Try.zeroValue9
 t31:=Try.underlying36
 a31:=Try.isAgg36
 z31:=Try.sizeOf36
 v31:=Try.zeroValue36 }
def Try.laysG49_ren:Go.Shelf.Ren:=⟨fun | 4=>49 | n=>n,fun | 22=>24 | 25=>45 | 3=>3 | 4=>4 | 9=>9 | 20=>20 | 0=>0 | n=>n,fun | n=>n⟩
theorem Try.laysG49:Go.Proofs.Lays8.n4 Try.prog Try.laysG49_ren:={
 mixed:=by kernel_rfl
 f4:=⟨Try.f49.name,by decide,Try.func49.trans (congrArg some (by kernel_rfl))⟩
 t0:=Try.underlying0
 a0:=Try.isAgg0
 z0:=Try.sizeOf0
 v0:=Try.zeroValue0
 t3:=Try.underlying3
 a3:=Try.isAgg3
 z3:=Try.sizeOf3
 v3:=Try.zeroValue3
 t4:=Try.underlying4
 a4:=Try.isAgg4
 z4:=Try.sizeOf4
 v4:=Try.zeroValue4
 t9:=Try.underlying9
 a9:=Try.isAgg9
 z9:=Try.sizeOf9
 v9:=Try.zeroValue9
 t20:=Try.underlying20
 a20:=Try.isAgg20
 z20:=Try.sizeOf20
 v20:=Try.zeroValue20
 t22:=Try.underlying24
 a22:=Try.isAgg24
 z22:=Try.sizeOf24
 v22:=Try.zeroValue24 }
end Go.Proofs
namespace Go.Q.S
open Go Go.Q Go.Proofs
theorem kiF_mem:∀ {l:List (Nat×Nat×KI)} {v n:Nat} {i:KI},kiF l v n=some i->∃ a b,(a,b,i)∈l
 | [],v,n,i,h=>by simp [kiF] at h
 | (a,b,x)::r,v,n,i,h=>by
  unfold kiF at h;cases hb:Nat.beq a v&&Nat.beq b n with
  | true=>rw [hb] at h; simp only [H1,C1.injEq] at h; exact ⟨a,b,by rw [h]; exact List.mem_cons_self ..⟩
  | false =>
   rw [hb] at h;obtain ⟨a',b',h'⟩:=kiF_mem h;exact ⟨a',b',List.mem_cons_of_mem _ h'⟩
theorem ext_ok:∀ f g,H.ext f=some g->∀ v ls x,g v ls=some x->FnT Try.prog H ⟨f,v,0⟩ ls x:=fun f g h v ls x hx=>by
 have h:lookN extL f=some g:=h;simp only [extL,lookN] at h;cases h1:Nat.beq 47 f with
 | true =>
  rw [h1] at h;simp only [H1,C1.injEq] at h;subst h;obtain rfl:=beqN.1 h1;refine sort_fnT Go.Proofs.Try.lays190 rfl (E:=9) (fl:=[]) rfl Try.func47 (fun he=>by cases he) (of_decide_eq_false (by kernel_rfl)) (fun i hi=>?_) hx
  obtain ⟨a,b,hm⟩:=kiF_mem (l:=[(0,0,⟨[(0,.hd 0)],[(0,.arr 9 .deep)],[⟨.ret,[],[(0,.arr 9 .deep)]⟩]⟩)]) hi;simp only [C3,Q3,or_false,Prod.mk.injEq] at hm;exact hm.2.2
 | false =>
 rw [h1] at h;simp only [H2] at h;cases h1:Nat.beq 48 f with
 | true =>
  rw [h1] at h;simp only [H1,C1.injEq] at h;subst h;obtain rfl:=beqN.1 h1;refine comp_fnT Go.Proofs.Try.lays194 rfl (E:=9) (fl:=[]) rfl Try.func48 (fun he=>by cases he) (of_decide_eq_false (by kernel_rfl)) (fun i hi=>?_) hx
  obtain ⟨a,b,hm⟩:=kiF_mem (l:=[(0,0,⟨[(0,.hd 0)],[(0,.arr 9 .deep)],[⟨.ret,[(0,.hd 16)],[(16,.arr 9 .deep)]⟩]⟩)]) hi;simp only [C3,Q3,or_false,Prod.mk.injEq] at hm;exact hm.2.2
 | false =>
 rw [h1] at h;simp only [H2] at h;cases h1:Nat.beq 49 f with
 | true =>
  rw [h1] at h;simp only [H1,C1.injEq] at h;subst h;obtain rfl:=beqN.1 h1;refine grow_fnT Go.Proofs.Try.laysG49 rfl (E:=45) (ti:=⟨true,[.str,.int .i64,.int .i64,.str,.sl 29],[(0,9),(1,29)]⟩) rfl (by decide) (by kernel_rfl) Try.func49 (fun he=>by cases he) (of_decide_eq_false (by kernel_rfl)) (fun i hi=>?_) hx
  obtain ⟨a,b,hm⟩:=kiF_mem (l:=[(0,0,⟨[(0,.nils),(1,.int .i64)],[],[⟨.ret,[(0,.hd 16)],[(16,.arr 45 .deep)]⟩]⟩)]) hi;simp only [C3,Q3,or_false,Prod.mk.injEq] at hm;exact hm.2.2
 | false =>
 rw [h1] at h;simp only [H2] at h;simp at h
theorem fits:Fits Try.prog H where
 ty:=tyOK_of (l:=tyL) (fun _=>rfl) (by kernel_rfl)
 eq:=eqOK_of (l:=eqL) (fun _=>rfl) (by kernel_rfl)
 mixed:=Try.checked.mixed
 names:=names_of (by kernel_rfl)
 ext:=ext_ok
end Go.Q.S
end
