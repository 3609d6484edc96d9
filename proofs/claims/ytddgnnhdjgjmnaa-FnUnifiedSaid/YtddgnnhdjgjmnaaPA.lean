/- The functions of this seat, as that machine runs them, part 1. -/
import Derived.Test.YtddgnnhdjgjmnaaQC
import Derived.Test.YtddgnnhdjgjmnaafuX
import Derived.Test.YtddgnnhdjgjmnaaMA
import Derived.Test.YtddgnnhdjgjmnaaQD
import Derived.Test.YtddgnnhdjgjmnaaChecked
set_option linter.unusedVariables false
set_option linter.unusedSimpArgs false
open Bool renaming not_true->F6,not_false->K9,not_eq_true->N0
open Int renaming toNat_natCast->C9,ofNat_lt->D6,natCast_zero->E3,toNat->P6
open List renaming map_cons->B9,length_map->C0,mem_cons->C3,getElem_mem->C4,length_cons->C6,append_assoc->D0,drop_eq_getElem_cons->D4,length_nil->E0,getD_cons_zero->E5,length_append->E8,getD_cons_succ->F4,nil_append->F5,map_nil->F8,map_append->G5,cons_append->G8,drop_length->J2,map_map->J3,sum_cons->J7,drop_zero->J9,append_nil->K6,getElem_map->N6,filter_cons->O5
open Nat renaming zero_add->F1,ble_eq_true_of_le->G6,ble->G7,lt_irrefl->J1,beq_refl->J6,zero_le->N4
open Option renaming bind_some->B6,some->C1
section
namespace Go.Q.S
open Go Go.Q Go.Proofs
end Go.Q.S
end
section
namespace Go.Q.S
open Go Go.Q Go.Proofs
theorem rCloneS (xs:Rows) (h:xs.length<=274877906944):rn ⟨64,0,0⟩ [.sl xs]=some (0,[.sl xs]):=by
 rw [e64_0_0];have hb:G7 (([]:Rows).length+xs.length) M63=true:=G6 (by unfold M63; simpa using h)
 rw [hb];cases xs with
 | nil=>simp [both]
 | cons x xs=>rfl
theorem rSort (ls:List D):rn ⟨65,0,0⟩ ls=sortG 0 ls:=by rw [rn_eq]; rfl
theorem rComp (ls:List D):rn ⟨66,0,0⟩ ls=compG 0 ls:=by rw [rn_eq]; rfl
theorem r44 (l:List ByteArray) (h:l.length<=274877906944):rn ⟨44,0,0⟩ [.sl (l.map sRow)]=some (0,[.sl ((srtN l).map sRow)]):=by
 rw [e44_0_0,rCloneS _ (by simpa using h)]
 simp only [nth0,nth1,nth2,nth3,nth4,nth5,nth6,nth7,nth8,nth9,nth10,nth11,nth12,nth13,nth14,nth15,nth16,nth17,nth18,nth19,nth20,nth21,nth22,nth23,nth24,nth25,dI,dB,dS,dL,B6];rw [rSort,sortG_eq 0 l (by omega)]
 simp only [nth0,nth1,nth2,nth3,nth4,nth5,nth6,nth7,nth8,nth9,nth10,nth11,nth12,nth13,nth14,nth15,nth16,nth17,nth18,nth19,nth20,nth21,nth22,nth23,nth24,nth25,dI,dB,dS,dL,B6];rw [rComp,compG_eq 0 _ (by simp; omega),compact_sort]
 simp only [nth0,nth1,nth2,nth3,nth4,nth5,nth6,nth7,nth8,nth9,nth10,nth11,nth12,nth13,nth14,nth15,nth16,nth17,nth18,nth19,nth20,nth21,nth22,nth23,nth24,nth25,dI,dB,dS,dL,B6];rw [rowS_map]; rfl
theorem r49 (l:List ByteArray) (h:l.length<=1073741824):rn ⟨49,0,0⟩ [.sl (l.map sRow)]=some (0,[.sl ((srtN l).map sRow)]):=by
 rw [e49_0_0,sRow_map];unfold srtN;generalize hks:l.map toK=ks;have hk:ks.length<=1073741824:=by rw [<- hks]; simpa using h
 have hin:∀ (i:Nat) (hi:i<ks.length) (acc:List Ky),acc.length<=1073741824->∀ n a,a+n=acc.length->rn ⟨49,0,3⟩ [.sl (ks.map rowS),.int (i:Int),.int (a:Int),.sl (acc.map rowS)] =
  some (0,[.sl (ks.map rowS),.int (i:Int),.int ((a+ldK ks[i] (acc.drop a):Nat):Int),.sl (acc.map rowS)]):=by
  intro i hi acc hacc n;induction n with
  | zero =>
   intro a ha;have:a=acc.length:=by omega
   subst this;rw [e49_0_3];simp [ldK]
  | succ n ih =>
   intro a ha;have hlt:a<acc.length:=by omega
   rw [e49_0_3,ldK_drop _ _ _ hlt];simp only [C9,rowAt_map hi,rowAt_map hlt,C0,inbN,hi,hlt,D6,H3,H1,nth0,nth1,nth2,nth3,nth4,nth5,nth6,nth7,nth8,nth9,nth10,nth11,nth12,nth13,nth14,nth15,nth16,nth17,nth18,nth19,nth20,nth21,nth22,nth23,nth24,nth25,dI,dB,dS,dL,B6,rowS_sRow,sRow,ltB_ofK,wrap_succ hlt (by unfold maxLen; omega)]
   by_cases hx:acc[a]<ks[i]
   · rw [H5 hx,H7 hx,H1,ih (a+1) (by omega)]
     have e:a+1+ldK ks[i] (acc.drop (a+1))=a+(ldK ks[i] (acc.drop (a+1))+1):=by omega
     rw [e]
   · rw [H6 hx,H8 hx,H2]; rfl
 have hout:∀ n (i:Nat) (acc:List Ky),i+n=ks.length->acc.length<=i->rn ⟨49,0,1⟩ [.sl (ks.map rowS),.int (i:Int),.sl (acc.map rowS)]=some (0,[.sl ((srtK (ks.drop i) acc).map rowS)]):=by
  intro n;induction n with
  | zero =>
   intro i acc hi ha;have:i=ks.length:=by omega
   subst this;rw [e49_0_1];simp [srtK]
  | succ n ih =>
   intro i acc hi ha;have hlt:i<ks.length:=by omega
   have hI:=hin i hlt acc (by omega) acc.length 0 (by omega)
   rw [J9,F1] at hI;rw [e49_0_1];have hc:ldK ks[i] acc<=acc.length:=ldK_le _ _;have hz:((0:Nat):Int)=0:=rfl;rw [hz] at hI;rw [hI,D4 hlt];have hins:=insK_ld ks[i] acc;have hil:(insK ks[i] acc).length<=i+1:=by
    rw [hins]; split
    · omega
    · simp; omega
   have ih':=ih (i+1) (insK ks[i] acc) (by omega) hil
   simp only [C0,D6,hlt,H3,H1,nth0,nth1,nth2,nth3,nth4,nth5,nth6,nth7,nth8,nth9,nth10,nth11,nth12,nth13,nth14,nth15,nth16,nth17,nth18,nth19,nth20,nth21,nth22,nth23,nth24,nth25,dI,dB,dS,dL,B6,J6,C9,wrap_succ hlt (by unfold maxLen; omega),srtK] at ih' ⊢
   rw [<- ih'];generalize hcc:ldK ks[i] acc=c at hc hins ⊢;have h0:(0:Int)<=(c:Int):=by omega
   have h3:(c:Int)<=(acc.length:Int):=by omega
   have hb2:G7 (([]:Rows).length+(List.drop (P6 0) (List.take c (acc.map rowS))).length) M63=true:=G6 (by unfold M63; simp; omega)
   have hb3:∀ z:Rows,z.length=1->G7 (([]++List.drop (P6 0) (List.take c (acc.map rowS)):Rows).length+z.length) M63=true:=fun z hz=>G6 (by unfold M63; simp [hz]; omega)
   have hb4:∀ z:Rows,z.length=1->G7 ((([]++List.drop (P6 0) (List.take c (acc.map rowS)):Rows)++z).length+(List.drop c (List.take acc.length (acc.map rowS))).length) M63=true:=fun z hz=>G6 (by unfold M63; simp [hz]; omega)
   have hfin:([]++List.drop (P6 0) (List.take c (acc.map rowS)):Rows)++[rowS ks[i]]++List.drop c (List.take acc.length (acc.map rowS))=(List.take c acc++[ks[i]]++List.drop c acc).map rowS:=by
    simp [List.map_take,List.map_drop,List.take_of_length_le]
   simp only [rowAt_map hlt,inbN,hlt,H3,H1];by_cases h1:c<acc.length
   · simp only [H7 h1,H1,rowAt_map h1,nth0,nth1,nth2,nth3,nth4,nth5,nth6,nth7,nth8,nth9,nth10,nth11,nth12,nth13,nth14,nth15,nth16,nth17,nth18,nth19,nth20,nth21,nth22,nth23,nth24,nth25,dI,dB,dS,dL,B6,rowS_sRow,sRow,ofK_inj]
     rw [List.getElem?_eq_getElem h1] at hins;by_cases h2:acc[c]=ks[i]
     · rw [H7 h2,H1,hins,H5 (by rw [h2])]
     · rw [H8 h2,H2,hins,H6 (by simpa using h2)]
       simp only [h0,h3,Int.le_refl,H3,Bool.and_self,H1];rw [hb2,hb3 _ rfl,hb4 _ rfl];simp only [H1];rw [<- hfin]; rfl
   · simp only [H8 h1,H2]
     rw [List.getElem?_eq_none (by omega)] at hins
     rw [hins,H6 (by simp)]
     simp only [h0,h3,Int.le_refl,H3,Bool.and_self,H1];rw [hb2];simp only [H1,rowAt_map hlt,nth0,nth1,nth2,nth3,nth4,nth5,nth6,nth7,nth8,nth9,nth10,nth11,nth12,nth13,nth14,nth15,nth16,nth17,nth18,nth19,nth20,nth21,nth22,nth23,nth24,nth25,dI,dB,dS,dL,B6,rowS_sRow,sRow];rw [hb3 _ rfl,hb4 _ rfl];simp only [H1];rw [<- hfin]; rfl
 have:=hout ks.length 0 [] (by omega) (N4 _)
 simp only [E3,F8,J9] at this;rw [this];simp only [nth0,nth1,nth2,nth3,nth4,nth5,nth6,nth7,nth8,nth9,nth10,nth11,nth12,nth13,nth14,nth15,nth16,nth17,nth18,nth19,nth20,nth21,nth22,nth23,nth24,nth25,dI,dB,dS,dL,B6,J6,H1];rw [rowS_map]
end Go.Q.S
end
section
namespace Go.Q.S
open Go Go.Q Go.Proofs
theorem r33:∀ t:Tm,Small t->rn ⟨33,0,0⟩ [.int t.k,.int t.n,.str t.s,.sl (t.as.map Tm.row)]=some (0,[.int t.k,.int t.n,.str t.s,.sl (t.as.map Tm.row)]):=Tm.ind fun t ih h=>by
 have hl:=h.len;show rn _ _=_
 rw [e33_0_0];have hf:=map_loop (F:=fun i acc=>rn ⟨33,0,1⟩ [.sl (t.as.map Tm.row),.int ((t.as.map Tm.row)).length,.int (i:Int),.int 0,.int 0,.str (⟨#[]⟩:ByteArray),.int t.k,.int t.n,.str t.s,.sl [],.sl acc]) (xs:=t.as) Tm.row (K:=fun acc=>some (0,[.int (0),.int (0),.str ((⟨#[]⟩:ByteArray)),.int (t.k),.int (t.n),.str (t.s),.sl ([]),.sl (acc)])) (fun i hi acc ha=>?_) (fun acc=>?_)
 · simp only [E3] at hf; rw [hf]; rfl
 · have hc:=ih _ (C4 hi) (h.sub (C4 hi))
   rw [e33_0_1];simp only [C9,rowAt_map hi,Tm.row_eq,C0,inbN,hi,D6,H3,H1,nth,E5,F4,D.I,D.S,D.L,D.B,wrap_succ hi (by unfold maxLen; omega),hc,B6,C6,E0]
   rw [show G7 (acc.length+(0+1)) M63=true from G6 (by unfold M63; omega)]
   rfl
 · skip
   rw [e33_0_1];simp
theorem r48:∀ t:Tm,Small t->rn ⟨48,0,0⟩ [.int t.k,.int t.n,.str t.s,.sl (t.as.map Tm.row)]=some (0,[.int t.k,.int t.n,.str t.s,.sl (t.as.map Tm.row)]):=Tm.ind fun t ih h=>by
 have hl:=h.len;show rn _ _=_
 rw [e48_0_0];have hf:=map_loop (F:=fun i acc=>rn ⟨48,0,1⟩ [.int (i:Int),.int t.k,.int t.n,.str t.s,.sl (t.as.map Tm.row),.int 0,.int 0,.str (⟨#[]⟩:ByteArray),.sl acc,.sl []]) (xs:=t.as) Tm.row (K:=fun acc=>some (0,[.int (t.k),.int (t.n),.str (t.s),.sl ((t.as.map Tm.row)),.int (0),.int (0),.str ((⟨#[]⟩:ByteArray)),.sl (acc),.sl ([])])) (fun i hi acc ha=>?_) (fun acc=>?_)
 · simp only [E3] at hf; rw [hf]; rfl
 · have hc:=ih _ (C4 hi) (h.sub (C4 hi))
   rw [e48_0_1];simp only [C9,rowAt_map hi,Tm.row_eq,C0,inbN,hi,D6,H3,H1,nth,E5,F4,D.I,D.S,D.L,D.B,wrap_succ hi (by unfold maxLen; omega),hc,B6,C6,E0]
   rw [show G7 (acc.length+(0+1)) M63=true from G6 (by unfold M63; omega)]
   rfl
 · skip
   rw [e48_0_1];simp
theorem r32 (l:List Bnd) (hl:l.length<=1048576) (s:ByteArray):rn ⟨32,0,0⟩ [.sl (l.map Bnd.row),.str s]=match bnd l s with
 | some t=>some (0,[.int t.k,.int t.n,.str t.s,.sl (t.as.map Tm.row),.bool true])
 | none=>some (0,[.int 0,.int 0,.str ⟨#[]⟩,.sl [],.bool false]):=by
 show rn _ _=_
 rw [e32_0_0];have hf:=find_loop (F:=fun i=>rn ⟨32,0,1⟩ [.str s,.sl (l.map Bnd.row),.int ((l.map Bnd.row)).length,.int (i:Int),.int 0,.int 0,.str (⟨#[]⟩:ByteArray),.sl []]) (xs:=l) (p:=fun b=>decide (b.1=s)) (A:=some (0,[.int (0),.int (0),.str ((⟨#[]⟩:ByteArray)),.sl ([])])) (B:=fun i b=>some (1,[.int b.2.k,.int b.2.n,.str b.2.s,.sl (b.2.as.map Tm.row)])) (fun i hi=>?_) ?_
 · simp only [E3] at hf
   rw [bnd_find];rcases hf with ⟨h1,h2⟩|⟨i,hi,h1,h2⟩
   · rw [h1,h2]; rfl
   · rw [h1,h2]; rfl
 · skip
   rw [e32_0_1];simp only [C9,rowAt_map hi,bd_row,C0,inbN,hi,D6,H3,H1,nth,E5,F4,D.I,D.S,D.L,D.B,wrap_succ hi (by unfold maxLen; omega)]
 · skip
   rw [e32_0_1];simp
theorem r67 (l:List Bnd) (hl:l.length<=1048576) (s:ByteArray):(bnd l s=none/\rn ⟨67,0,0⟩ [.sl (l.map Bnd.row),.str s]=some (0,[.int (-1)]))\/∃ i,∃ hi:i<l.length,bnd l s=some l[i].2/\rn ⟨67,0,0⟩ [.sl (l.map Bnd.row),.str s]=some (0,[.int (i:Int)]):=by
 have hf:=find_loop (F:=fun i=>rn ⟨67,0,1⟩ [.sl (l.map Bnd.row),.str s,.int (i:Int)]) (xs:=l) (p:=fun b=>decide (b.1=s)) (A:=some (0,[])) (B:=fun i b=>some (1,[.int (i:Int)])) (fun i hi=>?_) ?_
 · simp only [E3] at hf
   rw [bnd_find];rcases hf with ⟨h1,h2⟩|⟨i,hi,h1,h2⟩
   · left
     refine ⟨by rw [h1]; rfl,?_⟩
     show rn _ _=_
     rw [e67_0_0];rw [h2]; rfl
   · right
     refine ⟨i,hi,by rw [h1]; rfl,?_⟩
     show rn _ _=_
     rw [e67_0_0];rw [h2]; rfl
 · skip
   rw [e67_0_1];simp only [C9,rowAt_map hi,bd_row,C0,inbN,hi,D6,H3,H1,nth,E5,F4,D.I,D.S,D.L,D.B,wrap_succ hi (by unfold maxLen; omega)]
 · skip
   rw [e67_0_1];simp
theorem r47 (l:List Bnd) (hl:l.length<=1048576) (hs:∀ b∈l,Small b.2) (s:ByteArray):rn ⟨47,0,0⟩ [.sl (l.map Bnd.row),.str s]=match bnd l s with
 | some t=>some (0,[.int t.k,.int t.n,.str t.s,.bool true,.sl (t.as.map Tm.row)])
 | none=>some (0,[.int 0,.int 0,.str ⟨#[]⟩,.bool false,.sl []]):=by
 show rn _ _=_
 rw [e47_0_0];rcases r67 l hl s with ⟨h1,h2⟩|⟨i,hi,h1,h2⟩
 · skip
   rw [h1,h2]; rfl
 · skip
   have hc:=r48 l[i].2 (hs _ (C4 hi));rw [h1,h2];have hn:¬((i:Int)<0):=by omega
   simp only [B6,nth,E5,F4,D.I,D.S,D.L,D.B,C9,rowAt_map hi,bd_row,C0,inbN,hi,hn,H3,H4,H1,H2,hc]
theorem r13 (l:List Bnd) (hl:l.length<=1048576) (hs:∀ b∈l,Small b.2):∀ t:Tm,Small t->rn ⟨13,0,0⟩ [.sl (l.map Bnd.row),.int t.k,.int t.n,.str t.s,.sl (t.as.map Tm.row)]=some (0,[.int (aS l t).k,.int (aS l t).n,.str (aS l t).s,.sl ((aS l t).as.map Tm.row)]):=Tm.ind fun t ih h=>by
 have hlt:=h.len;show rn _ _=_
 rw [e13_0_0];have hf:=map_loop (F:=fun i acc=>rn ⟨13,0,1⟩ [.sl (l.map Bnd.row),.sl (t.as.map Tm.row),.int ((t.as.map Tm.row)).length,.int (i:Int),.int 0,.int 0,.str (⟨#[]⟩:ByteArray),.int t.k,.int t.n,.str t.s,.sl [],.sl acc]) (xs:=t.as) (fun x=>(aS l x).row) (K:=fun acc=>some (0,[.int (0),.int (0),.str ((⟨#[]⟩:ByteArray)),.int (t.k),.int (t.n),.str (t.s),.sl ([]),.sl (acc)])) (fun i hi acc ha=>?_) (fun acc=>?_)
 · simp only [E3] at hf
   have hb:=r32 l hl t.s;rw [aS_eq];by_cases hk:t.k=1
   · rw [H5 hk]
     cases hq:bnd l t.s with
     | none =>
      rw [hq] at hb;simp only at hb;simp only [H7 hk,H1,hb,B6,nth,E5,F4,D.I,D.S,D.L,D.B,H2,hf];simp [Tm.k,Tm.n,Tm.s,Tm.as,Function.comp_def]
     | some u =>
      rw [hq] at hb;simp only at hb;obtain ⟨b,hbm,rfl⟩:=bnd_mem hq;have hcp:=r33 b.2 (hs b hbm);simp only [H7 hk,H1,hb,B6,nth,E5,F4,D.I,D.S,D.L,D.B,hcp]
   · rw [H6 hk]
     simp only [H8 hk,H2,hf,B6,nth,E5,F4,D.I,D.S,D.L,D.B];simp [Tm.k,Tm.n,Tm.s,Tm.as,Function.comp_def]
 · have hc:=ih _ (C4 hi) (h.sub (C4 hi))
   rw [e13_0_1];simp only [C9,rowAt_map hi,Tm.row_eq,C0,inbN,hi,D6,H3,H1,nth,E5,F4,D.I,D.S,D.L,D.B,wrap_succ hi (by unfold maxLen; omega),hc,B6,C6,E0]
   rw [show G7 (acc.length+(0+1)) M63=true from G6 (by unfold M63; omega)]
   rfl
 · skip
   rw [e13_0_1];simp
theorem r41 (l:List Bnd) (hl:l.length<=1048576) (hs:∀ b∈l,Small b.2):∀ t:Tm,Small t->rn ⟨41,0,0⟩ [.sl (l.map Bnd.row),.int t.k,.int t.n,.str t.s,.sl (t.as.map Tm.row)]=some (0,[.int (aS l t).k,.int (aS l t).n,.str (aS l t).s,.sl ((aS l t).as.map Tm.row)]):=Tm.ind fun t ih h=>by
 have hlt:=h.len;show rn _ _=_
 rw [e41_0_0];have hf:=map_loop (F:=fun i acc=>rn ⟨41,0,1⟩ [.sl (l.map Bnd.row),.int (i:Int),.int t.k,.int t.n,.str t.s,.sl (t.as.map Tm.row),.int 0,.int 0,.str (⟨#[]⟩:ByteArray),.int t.k,.int t.n,.str t.s,.sl [],.sl acc]) (xs:=t.as) (fun x=>(aS l x).row) (K:=fun acc=>some (0,[.int (0),.int (0),.str ((⟨#[]⟩:ByteArray)),.int (t.k),.int (t.n),.str (t.s),.sl ([]),.sl (acc)])) (fun i hi acc ha=>?_) (fun acc=>?_)
 · simp only [E3] at hf
   have hb:=r47 l hl hs t.s;rw [aS_eq];by_cases hk:t.k=1
   · rw [H5 hk]
     cases hq:bnd l t.s with
     | none =>
      rw [hq] at hb;simp only at hb;simp only [H7 hk,H1,hb,B6,nth,E5,F4,D.I,D.S,D.L,D.B,H2,hf];simp [Tm.k,Tm.n,Tm.s,Tm.as,Function.comp_def]
     | some u =>
      rw [hq] at hb;simp only at hb;obtain ⟨b,hbm,rfl⟩:=bnd_mem hq;have hcp:=r33 b.2 (hs b hbm);simp only [H7 hk,H1,hb,B6,nth,E5,F4,D.I,D.S,D.L,D.B,hcp]
   · rw [H6 hk]
     simp only [H8 hk,H2,hf,B6,nth,E5,F4,D.I,D.S,D.L,D.B];simp [Tm.k,Tm.n,Tm.s,Tm.as,Function.comp_def]
 · have hc:=ih _ (C4 hi) (h.sub (C4 hi))
   rw [e41_0_1];simp only [C9,rowAt_map hi,Tm.row_eq,C0,inbN,hi,D6,H3,H1,nth,E5,F4,D.I,D.S,D.L,D.B,wrap_succ hi (by unfold maxLen; omega),hc,B6,C6,E0]
   rw [show G7 (acc.length+(0+1)) M63=true from G6 (by unfold M63; omega)]
   rfl
 · skip
   rw [e41_0_1];simp
theorem r58 (n:Int):rn ⟨58,0,0⟩ [.int n]=some (0,[.int 3,.int n,.str ⟨#[]⟩,.sl []]):=by
 show rn _ _=_
 rw [e58_0_0]
theorem r46:∀ t:Tm,t.nodes<=1048577->rn ⟨46,0,0⟩ [.int t.k,.int t.n,.str t.s,.sl (t.as.map Tm.row)]=some (0,[.sl (t.names.map sRow)]):=Tm.ind fun t ih h=>by
 have hnd:=Tm.nodes_eq t;have hsm:=names_sum t;have hlt:=len_sum (xs:=t.as);show rn _ _=_
 rw [e46_0_0];have hf:=fun a0:Rows=>fun ha0:a0.length<=1=>cat_loop (F:=fun i acc=>rn ⟨46,0,1⟩ [.sl (t.as.map Tm.row),.int (t.as.map Tm.row).length,.int (i:Int),.sl acc]) (xs:=t.as) (fun a=>a.names.map sRow) a0 (K:=fun acc=>some (0,[.sl acc])) (fun i hi acc ha=>by
  have hc:=ih _ (C4 hi) (by have:=mem_sum (f:=Tm.nodes) (C4 hi); omega)
  rw [e46_0_1];simp only [C9,rowAt_map hi,Tm.row_eq,C0,inbN,hi,D6,H3,H1,nth,E5,F4,D.I,D.S,D.L,D.B,wrap_succ hi (by unfold maxLen; omega),B6,hc]
  rw [E8,C0] at ha;rw [show G7 (acc.length+t.as[i].names.length) M63=true from G6 (by unfold M63; omega)]
  rfl) (fun acc=>by
  rw [e46_0_1];simp)
 simp only [E3] at hf;rw [names_rows];by_cases hk:t.k=1
 · rw [H5 hk,H7 hk]
   have h1:=hf [sRow t.s] (by simp)
   simp only [sRow] at h1;simp only [H1,sRow];rw [h1]; rfl
 · rw [H6 hk,H8 hk]
   have h1:=hf [] (by simp)
   simp only [H2];rw [h1]; rfl
theorem r38:∀ t:Tm,∀ a0:Rows,t.nodes<=1048577->a0.length+t.names.length<=1073741824->rn ⟨38,1,0⟩ [.int t.k,.int t.n,.str t.s,.sl (t.as.map Tm.row),.sl a0]=some (0,[.sl (a0++t.names.map sRow)]):=Tm.ind fun t ih a0 h h'=>by
 have hnd:=Tm.nodes_eq t;have hsm:=names_sum t;have hlt:=len_sum (xs:=t.as);show rn _ _=_
 rw [e38_1_0];have hf:=fun a1:Rows=>fun ha1:a1.length+(t.as.flatMap fun a=>a.names.map sRow).length<=1073741824=>cat_loop (F:=fun i acc=>rn ⟨38,1,1⟩ [.int (i:Int),.sl acc,.int t.k,.int t.n,.str t.s,.sl (t.as.map Tm.row)]) (xs:=t.as) (fun a=>a.names.map sRow) a1 (K:=fun acc=>some (0,[.sl acc])) (fun i hi acc ha=>by
  rw [E8] at ha;have hx:t.as[i].nodes<=(t.as.map Tm.nodes).sum:=mem_sum (f:=Tm.nodes) (C4 hi);have hc:=ih _ (C4 hi) acc (by omega) (by rw [C0] at ha; omega)
  rw [e38_1_1];simp only [C9,rowAt_map hi,Tm.row_eq,C0,inbN,hi,D6,H3,H1,nth,E5,F4,D.I,D.S,D.L,D.B,wrap_succ hi (by unfold maxLen; omega),B6,hc]) (fun acc=>by
  rw [e38_1_1];simp)
 simp only [E3] at hf;have hle:t.names.length=(if t.k=1 then [sRow t.s] else []).length+(t.as.flatMap fun a=>a.names.map sRow).length:=by
  rw [<- E8,<- names_rows,C0]
 rw [names_rows];by_cases hk:t.k=1
 · rw [H5 hk] at hle
   rw [H5 hk,H7 hk];have h1:=hf (a0++[sRow t.s]) (by rw [E8]; omega)
   simp only [sRow] at h1;simp only [H1,sRow,C6,E0];rw [show G7 (a0.length+(0+1)) M63=true from G6 (by unfold M63; omega)]
   simp only [H1];rw [h1,D0]; rfl
 · rw [H6 hk] at hle
   rw [H6 hk,H8 hk];have h1:=hf a0 (by rw [E0] at hle; omega)
   simp only [H2];rw [h1]; rfl
theorem r19 (t:Tm) (h:t.nodes<=1048577):rn ⟨19,0,0⟩ [.int t.k,.int t.n,.str t.s,.sl (t.as.map Tm.row)]=some (0,[.bool (isG t)]):=by
 show rn _ _=_
 rw [e19_0_0];have hc:=r38 t [] h (by have:=names_nodes t; simp; omega)
 simp only [hc,B6,nth,E5,F4,D.I,D.S,D.L,D.B,F5,C0];rfl
theorem r12:∀ t:Tm,∀ u:Tm,Small t->rn ⟨12,0,0⟩ [.int t.k,.int t.n,.str t.s,.sl (t.as.map Tm.row),.int u.k,.int u.n,.str u.s,.sl (u.as.map Tm.row)]=some (0,[.bool (eqb t.row u.row)]):=Tm.ind fun t ih u h=>by
 have hlt:=h.len;show rn _ _=_
 rw [e12_0_0];have hq:eqb t.row u.row=(decide (t.k=u.k)&&(decide (t.n=u.n)&&(decide (t.s=u.s)&&eqb (t.as.map Tm.row) (u.as.map Tm.row)))):=by
  rw [Tm.row_eq t,Tm.row_eq u];simp only [eqb_cons,eqb_nil,eqb_int,eqb_str,eqb_sl,Bool.and_true]
 rw [hq];try simp only [C0]
 by_cases l0:u.as.length≠t.as.length
 · rw [H8 (by omega:¬(t.as.length:Int)=(u.as.length:Int)),eqb_len (fun h=>l0 (by simpa using h.symm))]
   cases decide (t.k=u.k) <;> cases decide (t.n=u.n) <;> cases decide (t.s=u.s) <;> rfl
 have l0:=Classical.not_not.1 l0;rw [H7 (by omega:(t.as.length:Int)=(u.as.length:Int))]
 have hf:=eq_loop (F:=fun i=>rn ⟨12,0,1⟩ [.int (i:Int),.int t.k,.int t.n,.str t.s,.sl (t.as.map Tm.row),.int u.k,.int u.n,.str u.s,.sl (u.as.map Tm.row)]) (xs:=t.as.map Tm.row) (ys:=u.as.map Tm.row) (A:=some (0,[])) (B:=some (1,[])) (by simpa using l0) (fun i hi=>?_) ?_
 · simp only [E3] at hf
   rw [hf];cases decide (t.k=u.k) <;> cases decide (t.n=u.n) <;> cases decide (t.s=u.s) <;> cases eqb (t.as.map Tm.row) (u.as.map Tm.row) <;> rfl
 · have hi:i<t.as.length:=by simpa using hi
   have hi2:i<u.as.length:=by omega
   have hc:=ih _ (C4 hi) u.as[i] (h.sub (C4 hi));rw [e12_0_1];rw [N6,N6];generalize eqb t.as[i].row u.as[i].row=z at hc ⊢;simp only [C9,rowAt_map hi,rowAt_map hi2,Tm.row_eq,C0,inbN,hi,hi2,D6,H3,H1,nth,E5,F4,D.I,D.S,D.L,D.B,wrap_succ hi (by unfold maxLen; omega),B6,hc]
   cases z <;> rfl
 · skip
   rw [e12_0_1];simp
theorem r43:∀ t:Tm,∀ u:Tm,Small t->rn ⟨43,0,0⟩ [.int t.k,.int t.n,.str t.s,.sl (t.as.map Tm.row),.int u.k,.int u.n,.str u.s,.sl (u.as.map Tm.row)]=some (0,[.bool (eqb t.row u.row)]):=Tm.ind fun t ih u h=>by
 have hlt:=h.len;show rn _ _=_
 rw [e43_0_0];have hq:eqb t.row u.row=(decide (t.k=u.k)&&(decide (t.n=u.n)&&(decide (t.s=u.s)&&eqb (t.as.map Tm.row) (u.as.map Tm.row)))):=by
  rw [Tm.row_eq t,Tm.row_eq u];simp only [eqb_cons,eqb_nil,eqb_int,eqb_str,eqb_sl,Bool.and_true]
 rw [hq];try simp only [C0]
 have hl:rn ⟨63,0,0⟩ [.sl (t.as.map Tm.row),.sl (u.as.map Tm.row)]=some (0,[.bool (eqb (t.as.map Tm.row) (u.as.map Tm.row))]):=by
  rw [e63_0_0];simp only [C0];by_cases l0:u.as.length≠t.as.length
  · rw [H8 (by omega:¬(t.as.length:Int)=(u.as.length:Int)),eqb_len (fun h=>l0 (by simpa using h.symm))]; rfl
  have l0:=Classical.not_not.1 l0;rw [H7 (by omega:(t.as.length:Int)=(u.as.length:Int))]
  have hf:=eq_loop (F:=fun i=>rn ⟨63,0,1⟩ [.sl (u.as.map Tm.row),.sl (t.as.map Tm.row),.int ((t.as.map Tm.row)).length,.int (i:Int)]) (xs:=t.as.map Tm.row) (ys:=u.as.map Tm.row) (A:=some (0,[])) (B:=some (1,[])) (by simpa using l0) (fun i hi=>?_) ?_
  · simp only [E3,C0] at hf
    rw [hf];cases eqb (t.as.map Tm.row) (u.as.map Tm.row) <;> rfl
  · have hi:i<t.as.length:=by simpa using hi
    have hi2:i<u.as.length:=by omega
    have hc:=ih _ (C4 hi) u.as[i] (h.sub (C4 hi));rw [e63_0_1];rw [N6,N6];generalize eqb t.as[i].row u.as[i].row=z at hc ⊢;simp only [C9,rowAt_map hi,rowAt_map hi2,Tm.row_eq,C0,inbN,hi,hi2,D6,H3,H1,nth,E5,F4,D.I,D.S,D.L,D.B,wrap_succ hi (by unfold maxLen; omega),B6,hc]
    cases z <;> rfl
  · skip
    rw [e63_0_1];simp
 simp only [hl,B6,nth,E5,F4,D.I,D.S,D.L,D.B];cases decide (t.k=u.k) <;> cases decide (t.n=u.n) <;> cases decide (t.s=u.s) <;> rfl
end Go.Q.S
end
section
namespace Go.Q.S
open Go Go.Q Go.Proofs
theorem maxB {n:Nat} (h:n<=1099511627776):n<=maxLen:=by unfold maxLen; omega
theorem nb {n m:Nat} (h:n+m<=274877906944):G7 (n+m) M63=true:=G6 h
end Go.Q.S
end
section
namespace Go.Q.S
open Go Go.Q Go.Proofs
def ixS (s:ByteArray):List ByteArray->Nat->Int
 | [],_=>-1
 | x::r,i=>if x=s then (i:Int) else ixS s r (i+1)
theorem ixS_neg (s:ByteArray):∀ (l:List ByteArray) (i:Nat),ixS s l i<0↔s∉l
 | [],i=>by simp [ixS]
 | x::r,i=>by
  unfold ixS;by_cases h:x=s
  · rw [H5 h]; simp [h]
  · rw [H6 h,ixS_neg s r]; simp [Ne.symm h]
theorem r70 (l:List ByteArray) (hl:l.length<=maxLen) (s:ByteArray):rn ⟨70,0,0⟩ [.sl (l.map sRow),.str s]=some (0,[.int (ixS s l 0)]):=by
 have hlp:∀ n i,i+n=l.length->(ixS s (l.drop i) i=-1/\rn ⟨70,0,1⟩ [.sl (l.map sRow),.str s,.int (i:Int)]=some (0,[]))\/rn ⟨70,0,1⟩ [.sl (l.map sRow),.str s,.int (i:Int)]=some (1,[.int (ixS s (l.drop i) i)]):=by
  intro n;induction n with
  | zero =>
   intro i hi;obtain rfl:i=l.length:=by omega
   rw [e70_0_1];simp only [C0,D6,J1,H4,H2,J2,ixS];exact .inl ⟨trivial,trivial⟩
  | succ n ih =>
   intro i hi;have hlt:i<l.length:=by omega
   rw [e70_0_1,D4 hlt];simp only [C0,D6,hlt,H3,H1,inbN,C9,rowAt_map hlt,wrap_succ hlt hl,sRow,nv0,nvS,dvI,dvB,dvS,dvL,B6,ixS];by_cases h:l[i]=s
   · simp only [H7 h,H1,H5 h]; exact .inr trivial
   · simp only [H8 h,H2,H6 h]; exact ih (i+1) (by omega)
 have h:=hlp l.length 0 (by omega)
 rw [J9] at h;simp only [E3] at h;rw [e70_0_0];rcases h with ⟨h1,h2⟩ | h2
 · rw [h2,h1]; rfl
 · rw [h2]; rfl
end Go.Q.S
end
section
namespace Go.Q.S
open Go Go.Q Go.Proofs
theorem r27 (t:Tm) (h:t.nodes<=1048577):rn ⟨27,0,0⟩ [.int t.k,.int t.n,.str t.s,.sl (t.as.map Tm.row)]=some (0,[.sl ((srtN t.names).map sRow)]):=by
 have hn:=names_nodes t;have h1:=r38 t [] h (by simp; omega)
 have h2:=r49 t.names (by omega)
 rw [e27_0_0];rw [F5] at h1;simp only [h1,nv0,nvS,dvI,dvB,dvS,dvL,B6,h2]
end Go.Q.S
end
section
namespace Go.Q.S
open Go Go.Q Go.Proofs
theorem mS:∀ t u:Tm,∀ l:List Bnd,Small u->(∀ b∈l,Small b.2)->l.length+t.nodes<=1048576->(∀ l',mT t u l=some l'->rn ⟨25,1,0⟩ [.int t.k,.int t.n,.str t.s,.sl (t.as.map Tm.row),.int u.k,.int u.n,.str u.s,.sl (u.as.map Tm.row),.sl (l.map Bnd.row)]=some (0,[.bool true,.sl (l'.map Bnd.row)]))/\(mT t u l=none->(∃ X,rn ⟨25,1,0⟩ [.int t.k,.int t.n,.str t.s,.sl (t.as.map Tm.row),.int u.k,.int u.n,.str u.s,.sl (u.as.map Tm.row),.sl (l.map Bnd.row)]=some (0,[.bool false,.sl X]))\/rn ⟨25,1,0⟩ [.int t.k,.int t.n,.str t.s,.sl (t.as.map Tm.row),.int u.k,.int u.n,.str u.s,.sl (u.as.map Tm.row),.sl (l.map Bnd.row)]=some (1,[])):=Tm.ind fun t ih u l hu hl hb=>by
 have hnd:=Tm.nodes_eq t;have hls:=len_sum (xs:=t.as);have hlp:t.as.length=u.as.length->∀ n i (l:List Bnd),i+n=t.as.length->(∀ b∈l,Small b.2)->l.length+((t.as.drop i).map Tm.nodes).sum<=1048576->rn ⟨25,1,1⟩ [.int (i:Int),.sl (l.map Bnd.row),.int t.k,.int t.n,.str t.s,.sl (t.as.map Tm.row),.int u.k,.int u.n,.str u.s,.sl (u.as.map Tm.row)]=match mTs (t.as.drop i) (u.as.drop i) l with
  | some l'=>some (0,[.sl (l'.map Bnd.row)])
  | none=>some (1,[]):=by
  intro hlen n;induction n with
  | zero =>
   intro i l hi hl hb;obtain rfl:i=t.as.length:=by omega
   rw [e25_1_1];simp only [C0,D6,J1,H4,H2,J2,mTs]
  | succ n ih2 =>
   intro i l hi hl hb;have hlt:i<t.as.length:=by omega
   have hlu:i<u.as.length:=by omega
   rw [D4 hlt] at hb ⊢;rw [D4 hlu];simp only [B9,J7] at hb;have hm:=C4 hlt;have hmu:=C4 hlu;obtain ⟨h1,h1'⟩:=ih _ hm u.as[i] l (hu.sub hmu) hl (by omega)
   rw [e25_1_1];simp only [C0,D6,hlt,H3,H1,inbN,C9,rowAt_map hlt,wrap_succ hlt (maxB (by omega)),hlu,rowAt_map hlu,Tm.row_eq,nv0,nvS,dvI,dvB,dvS,dvL,B6,mTs]
   cases hq:mT t.as[i] u.as[i] l with
   | none =>
    rcases h1' hq with ⟨X,e⟩ | e
    · rw [e]; rfl
    · rw [e]; rfl
   | some l1 =>
    have hl1:=mT_all Small (fun t a h ha=>h.sub ha) _ _ l l1 (hu.sub hmu) hl hq
    have hn1:=mT_len _ _ _ _ hq;have h2:=ih2 (i+1) l1 (by omega) hl1 (by omega)
    simp only [h1 l1 hq,nv0,nvS,dvI,dvB,dvS,dvL,B6,J6,H1,H2,F6,h2]
 have h0:=fun h=>hlp h t.as.length 0 l (by omega) hl (by rw [J9]; omega)
 simp only [J9,E3] at h0;rw [e25_1_0,mT_eq];by_cases h1:t.k=1
 · have hbd:=r47 l (by omega) hl t.s
   have hb2:G7 (l.length+1) M63=true:=nb (by omega)
   have hcp:=r48 u hu;simp only [h1,H3,H1,if_true,hbd];cases hq:bnd l t.s with
   | some v =>
    have he:=r12 v u (bnd_mem' hl hq);simp only [nv0,nvS,dvI,dvB,dvS,dvL,B6,H1,he];cases eqb v.row u.row with
    | true=>exact ⟨fun l' h=>by simp only [if_true,C1.injEq] at h; subst h; rfl,fun h=>by simp at h⟩
    | false=>exact ⟨fun l' h=>by simp at h,fun _=>.inl ⟨_,rfl⟩⟩
   | none =>
    refine ⟨fun l' h=>?_,fun h=>by simp at h⟩
    simp only [C1.injEq] at h;subst h;simp only [nv0,nvS,dvI,dvB,dvS,dvL,B6,H2,hcp,C0,C6,E0,F1,hb2,H1,G5,B9,F8,bd_row]
 · simp only [h1,H4,H2,if_false]
   by_cases e1:t.k=u.k
   · rw [H7 e1,H5 e1]
     by_cases e2:t.n=u.n
     · rw [H7 e2,H5 e2]
       by_cases e3:t.s=u.s
       · rw [H7 e3,H5 e3]
         by_cases e4:t.as.length=u.as.length
         · have e4':((t.as.map Tm.row).length:Int)=((u.as.map Tm.row).length:Int):=by simp [e4]
           rw [H7 e4',H5 e4];simp only [F6,H2,h0 e4];cases mTs t.as u.as l with
           | none=>exact ⟨fun l' h=>by simp at h,fun _=>.inr rfl⟩
           | some l2=>exact ⟨fun l' h=>by simp only [C1.injEq] at h; subst h; rfl,fun h=>by simp at h⟩
         · have e4':¬((t.as.map Tm.row).length:Int)=((u.as.map Tm.row).length:Int):=by simp; omega
           rw [H8 e4',H6 e4]; exact ⟨fun l' h=>by simp at h,fun _=>.inl ⟨_,rfl⟩⟩
       · rw [H8 e3,H6 e3]; exact ⟨fun l' h=>by simp at h,fun _=>.inl ⟨_,rfl⟩⟩
     · rw [H8 e2,H6 e2]; exact ⟨fun l' h=>by simp at h,fun _=>.inl ⟨_,rfl⟩⟩
   · rw [H8 e1,H6 e1]; exact ⟨fun l' h=>by simp at h,fun _=>.inl ⟨_,rfl⟩⟩
theorem r26 (l:List Bnd) (hl:l.length<=1048576) (hs:∀ b∈l,Small b.2) (ns:List ByteArray) (hn:ns.length<=1048577):rn ⟨26,0,0⟩ [.sl (l.map Bnd.row),.sl (ns.map sRow)]=some (0,[.sl ((rsB l (srtN ns)).map Bnd.row)]):=by
 have h1:=r49 ns (by omega)
 have hsl:=srtN_len ns;rw [e26_0_0,h1];generalize srtN ns=ms at hsl ⊢;have key:∀ n i (acc:List Bnd),i+n=ms.length->acc.length<=i->rn ⟨26,0,1⟩ [.sl (l.map Bnd.row),.int (i:Int),.sl (acc.map Bnd.row),.sl (ms.map sRow)]=some (0,[.sl ((acc++rsB l (ms.drop i)).map Bnd.row)]):=by
  intro n;induction n with
  | zero =>
   intro i acc hi ha;obtain rfl:i=ms.length:=by omega
   rw [e26_0_1];simp only [C0,D6,J1,H4,H2,J2,rsB,List.filterMap_nil,K6]
  | succ n ih =>
   intro i acc hi ha;have hlt:i<ms.length:=by omega
   rw [e26_0_1,D4 hlt,rsB_cons];have hbd:=r47 l hl hs ms[i];have hb2:G7 (acc.length+1) M63=true:=nb (by omega)
   simp only [C0,D6,hlt,H3,H1,inbN,C9,rowAt_map hlt,wrap_succ hlt (maxB (by omega)),sRow,nv0,nvS,dvI,dvB,dvS,dvL,B6,hbd]
   cases hq:bnd l ms[i] with
   | none =>
    have h2:=ih (i+1) acc (by omega) (by omega)
    simp only [nv0,nvS,dvI,dvB,dvS,dvL,B6,H2,h2]
   | some v =>
    have h2:=ih (i+1) (acc++[(ms[i],v)]) (by omega) (by simp; omega)
    simp only [G5,B9,F8,bd_row,sRow] at h2;simp only [nv0,nvS,dvI,dvB,dvS,dvL,B6,H1,C6,E0,F1,hb2,h2,G5,B9,D0,G8,F5,bd_row]
 have h:=key ms.length 0 [] (by omega) (N4 _)
 simp only [E3,F8,J9,F5] at h;simp only [h,nv0,nvS,dvI,dvB,dvS,dvL,B6,J6,H1,H2]
theorem r8 (t u:Tm) (ht:t.nodes<=1048576) (hu:Small u):rn ⟨8,0,0⟩ [.int t.k,.int t.n,.str t.s,.sl (t.as.map Tm.row),.int u.k,.int u.n,.str u.s,.sl (u.as.map Tm.row)]=some (0,foI ((mT t u []).map fun l=>rsB l (srtN (srtN t.names))) []):=by
 obtain ⟨h1,h2⟩:=mS t u [] hu (by simp) (by simpa using ht)
 have h3:=r27 t (by omega)
 have hnl:=names_nodes t;have hsl:=srtN_len t.names;rw [e8_0_0];simp only [F8] at h1 h2;cases hq:mT t u [] with
 | none =>
  rcases h2 hq with ⟨X,e⟩ | e
  · rw [e]; rfl
  · rw [e]; rfl
 | some l =>
  have hls:=mT_all Small (fun t a h ha=>h.sub ha) t u [] l hu (by simp) hq
  have hln:=mT_len _ _ _ _ hq;simp only [E0] at hln;have h4:=r26 l (by omega) hls (srtN t.names) (by omega)
  simp only [h1 l hq,nv0,nvS,dvI,dvB,dvS,dvL,B6,J6,H1,H2,F6,h3,h4,Option.map_some,foI]
end Go.Q.S
end
section
namespace Go.Q.S
open Go Go.Q Go.Proofs
theorem r45 (l:List Bnd) (hl:l.length<=1048576) (hs:∀ b∈l,Small b.2) (s:ByteArray):rn ⟨45,0,0⟩ [.sl (l.map Bnd.row),.str s]=match bnd l s with
 | some t=>some (0,[.int t.k,.int t.n,.str t.s,.bool true,.sl (t.as.map Tm.row)])
 | none=>some (0,[.int 0,.int 0,.str ⟨#[]⟩,.bool false,.sl []]):=by
 have hb:=r32 l hl s;rw [e45_0_0,hb];cases hq:bnd l s with
 | some t =>
  obtain ⟨b,hbm,rfl⟩:=bnd_mem hq;have hc:=r33 b.2 (hs b hbm);simp only [nv0,nvS,dvI,dvB,dvS,dvL,B6,hc]
 | none =>
  have hc:=r33 tm0 (small_word ..);have hc':rn ⟨33,0,0⟩ [.int 0,.int 0,.str ⟨#[]⟩,.sl []]=_:=hc;simp only [nv0,nvS,dvI,dvB,dvS,dvL,B6,hc'];rfl
theorem r23 (l:List Bnd) (hl:l.length<=1048576) (hs:∀ b∈l,Small b.2) (ns:List ByteArray) (hn:ns.length<=1048577):rn ⟨23,0,0⟩ [.sl (l.map Bnd.row),.sl (ns.map sRow)]=some (0,[.sl ((rsB l (srtN ns)).map Bnd.row)]):=by
 have h1:=r44 ns (by omega)
 have hsl:=srtN_len ns;rw [e23_0_0,h1];generalize srtN ns=ms at hsl ⊢;have key:∀ n i (acc:List Bnd),i+n=ms.length->acc.length<=i->rn ⟨23,0,1⟩ [.sl (l.map Bnd.row),.int (ms.length:Int),.int (i:Int),.sl (acc.map Bnd.row),.sl (ms.map sRow)]=some (0,[.sl ((acc++rsB l (ms.drop i)).map Bnd.row)]):=by
  intro n;induction n with
  | zero =>
   intro i acc hi ha;obtain rfl:i=ms.length:=by omega
   rw [e23_0_1];simp only [C0,D6,J1,H4,H2,J2,rsB,List.filterMap_nil,K6]
  | succ n ih =>
   intro i acc hi ha;have hlt:i<ms.length:=by omega
   rw [e23_0_1,D4 hlt,rsB_cons];have hbd:=r45 l hl hs ms[i];have hb2:G7 (acc.length+1) M63=true:=nb (by omega)
   simp only [C0,D6,hlt,H3,H1,inbN,C9,rowAt_map hlt,wrap_succ hlt (maxB (by omega)),sRow,nv0,nvS,dvI,dvB,dvS,dvL,B6,hbd]
   cases hq:bnd l ms[i] with
   | none =>
    have h2:=ih (i+1) acc (by omega) (by omega)
    simp only [nv0,nvS,dvI,dvB,dvS,dvL,B6,H2,h2]
   | some v =>
    have h2:=ih (i+1) (acc++[(ms[i],v)]) (by omega) (by simp; omega)
    simp only [G5,B9,F8,bd_row,sRow] at h2;simp only [nv0,nvS,dvI,dvB,dvS,dvL,B6,H1,C6,E0,F1,hb2,h2,G5,B9,D0,G8,F5,bd_row]
 have h:=key ms.length 0 [] (by omega) (N4 _)
 simp only [E3,F8,J9,F5] at h;simp only [C0,h,nv0,nvS,dvI,dvB,dvS,dvL,B6,J6,H1,H2]
end Go.Q.S
end
section
namespace Go.Q.S
open Go Go.Q Go.Proofs
theorem byte_ok {code:Rows} (hl:code.length<=1048576) (i:Nat) (h:Int):Good (rn ⟨62,0,0⟩ [.sl code,.int (i:Int),.int h]) fun x=>∃ b:Int,∃ i':Nat,∃ h':Int,0<=b/\b<=255/\x=(0,[.int b,.sl code,.int ((i':Nat):Int),.int h']):=by
 rw [e62_0_0];rw [H7 (by decide:(0:Int)<=33),H7 (by decide:(0:Int)<=45)]
 simp only [H1];by_cases hi:i<code.length
 · rw [H7 (by omega:(i:Int)<(code.length:Int))]
   simp only [H1,inbN,hi,H3,wrap_succ hi (by unfold maxLen; omega)]
   obtain ⟨h1,h2⟩:=and255 (IntKind.i64.wrap ((andI .i64 (xorI .i64 (shrI .i64 (IntKind.i64.wrap ((IntKind.i64.wrap (h*6364136223846793005))+1442695040888963407)) 33) (shrI .i64 (IntKind.i64.wrap ((IntKind.i64.wrap (h*6364136223846793005))+1442695040888963407)) 45)) 255)+(IntKind.i64.wrap ((nth (rowAt code (P6 (i:Int))) 0).I))));exact Good.ret ⟨_,i+1,_,h1,h2,rfl⟩
 · rw [H8 (by omega:¬(i:Int)<(code.length:Int))]
   simp only [H2];obtain ⟨h1,h2⟩:=and255 (xorI .i64 (shrI .i64 (IntKind.i64.wrap ((IntKind.i64.wrap (h*6364136223846793005))+1442695040888963407)) 33) (shrI .i64 (IntKind.i64.wrap ((IntKind.i64.wrap (h*6364136223846793005))+1442695040888963407)) 45));exact Good.ret ⟨_,i,_,h1,h2,rfl⟩
theorem below_ok {code:Rows} (hl:code.length<=1048576) (i:Nat) (h:Int) {n:Int} (h0:0<n) (h1:n<=256):Good (rn ⟨40,0,0⟩ [.int n,.sl code,.int (i:Int),.int h]) fun x=>∃ b:Int,∃ i':Nat,∃ h':Int,0<=b/\b<n/\x=(0,[.int b,.sl code,.int ((i':Nat):Int),.int h']):=by
 rw [e40_0_0];rw [H8 (by omega:¬ n<=0),H7 h1]
 simp only [H1,H2];refine Good.bind (byte_ok hl i h) ?_
 rintro _ ⟨b,i',h',b0,b1,rfl⟩
 simp only [nv0,nvS,dvI,dvB,dvS,dvL,B6];rw [H8 (by omega:¬ n=0)]
 exact Good.ret ⟨_,i',h',Int.tmod_nonneg _ b0,Int.tmod_lt_of_pos _ h0,rfl⟩
theorem once_ok {code:Rows} (hl:code.length<=1048576) (i:Nat) (h:Int) {n:Int} (h0:0<n) (h1:n<=256):Good (rn ⟨30,0,0⟩ [.int n,.sl code,.int (i:Int),.int h]) fun x=>∃ b:Bool,∃ i':Nat,∃ h':Int,x=(0,[.bool b,.sl code,.int ((i':Nat):Int),.int h']):=by
 rw [e30_0_0];refine Good.bind (below_ok hl i h h0 h1) ?_
 rintro _ ⟨b,i',h',b0,b1,rfl⟩
 exact Good.ret ⟨_,i',h',rfl⟩
theorem pick_ok {code:Rows} (hl:code.length<=1048576) (i:Nat) (h:Int) {l:Rows} (h0:0<l.length) (h1:l.length<=256) (hs:∀ k,k<l.length->((nth (rowAt l k) 0).S).size<=1):Good (rn ⟨57,0,0⟩ [.sl l,.sl code,.int (i:Int),.int h]) fun x=>∃ s:ByteArray,∃ i':Nat,∃ h':Int,s.size<=1/\x=(0,[.str s,.sl code,.int ((i':Nat):Int),.int h']):=by
 rw [e57_0_0];refine Good.bind (below_ok hl i h (by omega:(0:Int)<(l.length:Int)) (by omega)) ?_
 rintro _ ⟨b,i',h',b0,b1,rfl⟩
 simp only [nv0,nvS,dvI,dvB,dvS,dvL,B6];rw [show inb b l.length=true from by simp [inb,b0,b1]]
 exact Good.ret ⟨_,i',h',hs b.toNat (by omega),rfl⟩
theorem new_ok {code:Rows} (hl:code.length<=1048576):Good (rn ⟨29,0,0⟩ [.sl code]) fun x=>∃ i':Nat,∃ h':Int,x=(0,[.sl code,.int ((i':Nat):Int),.int h']):=by
 have key:∀ (n i:Nat) (h:Int),i+n=code.length->∃ h':Int,rn ⟨29,0,1⟩ [.sl code,.int h,.int (i:Int)]=some (0,[.sl code,.int h']):=by
  intro n;induction n with
  | zero =>
   intro i h hi;rw [e29_0_1,H8 (by omega:¬(i:Int)<(code.length:Int))]
   exact ⟨_,rfl⟩
  | succ n ih =>
   intro i h hi;have hlt:i<code.length:=by omega
   rw [e29_0_1,H7 (by omega:(i:Int)<(code.length:Int))]
   simp only [H1,inbN,hlt,H3,wrap_succ hlt (by unfold maxLen; omega)]
   cases decide ((i:Int)<4000) with
   | true=>exact ih (i+1) _ (by omega)
   | false=>exact ⟨_,rfl⟩
 rw [e29_0_0];obtain ⟨h',e⟩:=key code.length 0 (IntKind.i64.wrap (26583+(code.length:Int))) (F1 _);simp only [E3] at e;rw [e];exact Good.ret ⟨0,h',rfl⟩
theorem r56 (s:ByteArray):rn ⟨56,0,0⟩ [.str s]=some (0,[.int 1,.int 0,.str s,.sl []]):=by rw [e56_0_0]
theorem r59 (s:ByteArray) (l:Rows):rn ⟨59,0,0⟩ [.str s,.sl l]=some (0,[.int 2,.int 0,.str s,.sl l]):=by rw [e59_0_0]
theorem r59b (s:ByteArray) (l:Rows):rn ⟨59,1,0⟩ [.str s,.sl l]=some (0,[.int 2,.int 0,.str s,.sl l]):=by rw [e59_1_0]
theorem r60 (s:ByteArray) (t:Tm):rn ⟨60,0,0⟩ [.str s,.int t.k,.int t.n,.str t.s,.sl (t.as.map Tm.row)]=some (0,[.int 2,.int 0,.str s,.sl [t.row]]):=by
 rw [e60_0_0,r59b];simp only [nv0,nvS,dvI,dvB,dvS,dvL,B6,Tm.row_eq t]
theorem r61 (s:ByteArray) (t u:Tm):rn ⟨61,0,0⟩ [.str s,.int t.k,.int t.n,.str t.s,.sl (t.as.map Tm.row),.int u.k,.int u.n,.str u.s,.sl (u.as.map Tm.row)]=some (0,[.int 2,.int 0,.str s,.sl [t.row,u.row]]):=by
 rw [e61_0_0,r59b];simp only [nv0,nvS,dvI,dvB,dvS,dvL,B6,Tm.row_eq t,Tm.row_eq u]
def DTm (code:Rows) (m:Nat) (x:Nat × List D):Prop:=∃ t:Tm,∃ i':Nat,∃ h':Int,Dt 1 t/\t.nodes<=m/\x=(0,[.int t.k,.int t.n,.str t.s,.sl code,.int (i':Int),.int h',.sl (t.as.map Tm.row)])
theorem lfV {code:Rows} {m:Nat} {s:ByteArray} {i:Nat} {h:Int} (hs:s.size<=1) (hm:1<=m):Good (some (0,[.int 1,.int 0,.str s,.sl code,.int (i:Int),.int h,.sl []])) (DTm code m) :=
 Good.ret ⟨.mk 1 0 s [],i,h,.var hs,by simp [Tm.nodes,Tm.nodesL]; exact hm,rfl⟩
theorem lfC {code:Rows} {m:Nat} {s:ByteArray} {i:Nat} {h:Int} (hs:s.size<=1) (hm:1<=m):Good (some (0,[.int 2,.int 0,.str s,.sl code,.int (i:Int),.int h,.sl []])) (DTm code m) :=
 Good.ret ⟨.mk 2 0 s [],i,h,.app hs (by simp) (by simp),by simp [Tm.nodes,Tm.nodesL]; exact hm,rfl⟩
theorem lfW {code:Rows} {m:Nat} {n:Int} {i:Nat} {h:Int} (hm:1<=m):Good (some (0,[.int 3,.int n,.str ⟨#[]⟩,.sl code,.int (i:Int),.int h,.sl []])) (DTm code m) :=
 Good.ret ⟨.mk 3 n ⟨#[]⟩ [],i,h,.word,by simp [Tm.nodes,Tm.nodesL]; exact hm,rfl⟩
theorem lf1 {code:Rows} {m:Nat} {s:ByteArray} {t:Tm} {i:Nat} {h:Int} (hs:s.size<=1) (ht:Dt 1 t) (hm:t.nodes+1<=m):Good (some (0,[.int 2,.int 0,.str s,.sl code,.int (i:Int),.int h,.sl [t.row]])) (DTm code m) :=
 Good.ret ⟨.mk 2 0 s [t],i,h,.app hs (by simp) (by simpa using ht),by simp [Tm.nodes,Tm.nodesL]; omega,rfl⟩
theorem lf2 {code:Rows} {m:Nat} {s:ByteArray} {t u:Tm} {i:Nat} {h:Int} (hs:s.size<=1) (ht:Dt 1 t) (hu:Dt 1 u) (hm:t.nodes+u.nodes+1<=m):Good (some (0,[.int 2,.int 0,.str s,.sl code,.int (i:Int),.int h,.sl [t.row,u.row]])) (DTm code m) :=
 Good.ret ⟨.mk 2 0 s [t,u],i,h,.app hs (by simp) (by simp [ht,hu]),by simp [Tm.nodes,Tm.nodesL]; omega,rfl⟩
theorem draw_ok {code:Rows} (hl:code.length<=1048576):∀ (d:Nat) (g:Bool) (i:Nat) (h:Int),d<=64->Good (rn ⟨39,0,0⟩ [.int (d:Int),.bool g,.sl code,.int (i:Int),.int h]) (DTm code (2 ^ (d+1)-1)):=by
 intro d;induction d with
 | zero =>
  intro g i h hd;rw [e39_0_0,H7 (by decide:((0:Nat):Int)<2)]
  simp only [H1];repeat' (first
   | refine Good.ite (fun _=>?_) (fun _=>?_)
   | (refine Good.bind (once_ok hl _ _ (by decide) (by decide)) ?_; rintro _ ⟨b,i,h,rfl⟩; simp only [nv0,nvS,dvI,dvB,dvS,dvL,B6])
   | (refine Good.bind (below_ok hl _ _ (by decide) (by decide)) ?_; rintro _ ⟨b,i,h,_,_,rfl⟩; simp only [nv0,nvS,dvI,dvB,dvS,dvL,B6])
   | (refine Good.bind (pick_ok hl _ _ (by decide) (by decide) (by decide)) ?_; rintro _ ⟨b,i,h,_,rfl⟩; simp only [nv0,nvS,dvI,dvB,dvS,dvL,B6])
   | (simp only [r56,r58,r59,nv0,nvS,dvI,dvB,dvS,dvL,B6]))
  all_goals (first | exact lfV (by assumption) (by decide) | exact lfC (by assumption) (by decide) | exact lfW (by decide))
 | succ d ih =>
  intro g i h hd;have hp:2 ^ (d+1+1)=2*2 ^ (d+1):=by omega
  have h1:1<=2 ^ (d+1):=Nat.one_le_pow _ _ (by decide)
  rw [e39_0_0];simp only [H2,wrap_dec (show d<=64 by omega)]
  repeat' (first
   | refine Good.ite (fun _=>?_) (fun _=>?_)
   | (refine Good.bind (ih _ _ _ (by omega)) ?_; rintro _ ⟨t,i,h,_,_,rfl⟩; simp only [nv0,nvS,dvI,dvB,dvS,dvL,B6])
   | (refine Good.bind (once_ok hl _ _ (by decide) (by decide)) ?_; rintro _ ⟨b,i,h,rfl⟩; simp only [nv0,nvS,dvI,dvB,dvS,dvL,B6])
   | (refine Good.bind (below_ok hl _ _ (by decide) (by decide)) ?_; rintro _ ⟨b,i,h,_,_,rfl⟩; simp only [nv0,nvS,dvI,dvB,dvS,dvL,B6])
   | (refine Good.bind (pick_ok hl _ _ (by decide) (by decide) (by decide)) ?_; rintro _ ⟨b,i,h,_,rfl⟩; simp only [nv0,nvS,dvI,dvB,dvS,dvL,B6])
   | (simp only [r56,r58,r59,r60,r61,nv0,nvS,dvI,dvB,dvS,dvL,B6]))
  all_goals (first | exact lfV (by assumption) (by omega) | exact lfC (by assumption) (by omega) | exact lfW (by omega) | exact lf1 (by first | assumption | decide) (by assumption) (by omega) | exact lf2 (by first | assumption | decide) (by assumption) (by assumption) (by omega))
def DSb (code:Rows) (x:Nat × List D):Prop:=∃ l:List Bnd,∃ i':Nat,∃ h':Int,l.length<=8/\(∀ b∈l,Dt 1 b.2/\b.2.nodes<=7)/\x=(0,[.sl code,.int (i':Int),.int h',.sl (l.map Bnd.row)])
theorem sub_ok {code:Rows} (hl:code.length<=1048576) (i:Nat) (h:Int):Good (rn ⟨42,0,0⟩ [.sl code,.int (i:Int),.int h]) (DSb code):=by
 have key:∀ (m k:Nat) (b:Int),b<4->(k:Int)+m=4->∀ (i:Nat) (h:Int) (l:List Bnd),l.length=k->(∀ b∈l,Dt 1 b.2/\b.2.nodes<=7)->Good (rn ⟨42,0,1⟩ [.int b,.int (k:Int),.sl code,.int (i:Int),.int h,.sl (l.map Bnd.row)]) (DSb code):=by
  intro m;induction m with
  | zero =>
   intro k b hb hk i h l hll hd;rw [e42_0_1,H8 (by omega:¬(k:Int)<b)]
   exact Good.ret ⟨l,i,h,by omega,hd,rfl⟩
  | succ m ih =>
   intro k b hb hk i h l hll hd;rw [e42_0_1];refine Good.ite (fun _=>?_) (fun _=>?_)
   · refine Good.bind (pick_ok hl _ _ (by decide) (by decide) (by decide)) ?_
     rintro _ ⟨s,i,h,hs,rfl⟩
     simp only [nv0,nvS,dvI,dvB,dvS,dvL,B6];refine Good.bind (below_ok hl _ _ (by decide) (by decide)) ?_
     rintro _ ⟨b1,i,h,hb0,hb1,rfl⟩
     simp only [nv0,nvS,dvI,dvB,dvS,dvL,B6];refine Good.bind (once_ok hl _ _ (by decide) (by decide)) ?_
     rintro _ ⟨g,i,h,rfl⟩
     simp only [nv0,nvS,dvI,dvB,dvS,dvL,B6];have e:∃ d:Nat,IntKind.i64.wrap (1+b1)=(d:Int)/\d<=2:=⟨(1+b1).toNat,by rw [IntWalk.i64_in _ (by omega)]; omega,by omega⟩
     obtain ⟨d,e,hd2⟩:=e;rw [e];refine Good.bind (draw_ok hl d g _ _ (by omega)) ?_
     rintro _ ⟨t,i,h,ht,hn,rfl⟩
     have hp:2 ^ (d+1)<=2 ^ 3:=Nat.pow_le_pow_right (by decide) (by omega)
     have hp8:(2:Nat) ^ 3=8:=rfl;have hb63:G7 (l.length+1) M63=true:=nb (by omega)
     simp only [nv0,nvS,dvI,dvB,dvS,dvL,B6,C0,C6,E0,F1,hb63,H1];have:=ih (k+1) b hb (by omega) i h (l++[(s,t)]) (by simp [hll]) (fun b hb=>by
      rcases List.mem_append.1 hb with hb | hb
      · exact hd b hb
      · simp only [List.mem_singleton] at hb; subst hb; exact ⟨ht,by show t.nodes<=7; omega⟩)
     simp only [G5,B9,F8,bd_row] at this;have ew:IntKind.i64.wrap ((k:Int)+1)=((k+1:Nat):Int):=by rw [IntWalk.i64_in _ (by omega)]; omega
     rw [ew];exact this
   · exact Good.ret ⟨l,i,h,by omega,hd,rfl⟩
 rw [e42_0_0];refine Good.bind (below_ok hl _ _ (by decide) (by decide)) ?_
 rintro _ ⟨b,i,h,b0,b1,rfl⟩
 simp only [nv0,nvS,dvI,dvB,dvS,dvL,B6];have:=key 4 0 b b1 rfl i h [] rfl (by simp)
 refine Good.bind this ?_
 rintro _ ⟨l,i,h,h1,h2,rfl⟩
 exact Good.ret ⟨l,i,h,h1,h2,rfl⟩
def DT2 (m:Nat) (x:Nat × List D):Prop:=∃ p t:Tm,Dt m p/\Dt m t/\p.nodes<=400/\t.nodes<=400/\x=(0,[.int p.k,.int p.n,.str p.s,.int t.k,.int t.n,.str t.s,.sl (p.as.map Tm.row),.sl (t.as.map Tm.row)])
theorem two_ok {code:Rows} (hl:code.length<=1048576):Good (rn ⟨21,0,0⟩ [.sl code]) (DT2 1):=by
 rw [e21_0_0];refine Good.bind (new_ok hl) ?_
 rintro _ ⟨i,h,rfl⟩
 simp only [nv0,nvS,dvI,dvB,dvS,dvL,B6];refine Good.bind (below_ok hl _ _ (by decide) (by decide)) ?_
 rintro _ ⟨b1,i,h,hb0,hb1,rfl⟩
 simp only [nv0,nvS,dvI,dvB,dvS,dvL,B6];have e:∃ d:Nat,IntKind.i64.wrap (1+b1)=(d:Int)/\d<=3:=⟨(1+b1).toNat,by rw [IntWalk.i64_in _ (by omega)]; omega,by omega⟩
 obtain ⟨d,e,hd2⟩:=e;rw [e];refine Good.bind (draw_ok hl d false _ _ (by omega)) ?_
 rintro _ ⟨p,i,h,hp,hpn,rfl⟩
 have hq:2 ^ (d+1)<=2 ^ 4:=Nat.pow_le_pow_right (by decide) (by omega)
 have hq8:(2:Nat) ^ 4=16:=rfl;simp only [nv0,nvS,dvI,dvB,dvS,dvL,B6];refine Good.bind (once_ok hl _ _ (by decide) (by decide)) ?_
 rintro _ ⟨g,i,h,rfl⟩
 simp only [nv0,nvS,dvI,dvB,dvS,dvL,B6];refine Good.ite (fun _=>?_) (fun _=>?_)
 · refine Good.bind (once_ok hl _ _ (by decide) (by decide)) ?_
   rintro _ ⟨g,i,h,rfl⟩
   simp only [nv0,nvS,dvI,dvB,dvS,dvL,B6];refine Good.bind (draw_ok hl 3 g _ _ (by omega)) ?_
   rintro _ ⟨t,i,h,ht,htn,rfl⟩
   exact Good.ret ⟨p,t,hp,ht,by omega,by omega,rfl⟩
 · refine Good.bind (sub_ok hl _ _) ?_
   rintro _ ⟨l,i,h,h1,h2,rfl⟩
   have hs:∀ b∈l,Small b.2:=fun b hb=>small_of _ (by have:=(h2 b hb).2; omega)
   have ha:=r41 l (by omega) hs p (small_of _ (by omega))
   simp only [nv0,nvS,dvI,dvB,dvS,dvL,B6,ha];have hn:=aS_nodesM (m:=7) (by decide) (fun b hb=>(h2 b hb).2) p
   exact Good.ret ⟨p,aS l p,hp,hp.aS (fun b hb=>(h2 b hb).1),by omega,by omega,rfl⟩
theorem dmatch_ok {code:Rows} (hl:code.length<=1048576):Good (rn ⟨6,0,0⟩ [.sl code]) (DT2 1):=by
 rw [e6_0_0];refine Good.bind (two_ok hl) ?_
 rintro _ ⟨p,t,h1,h2,h3,h4,rfl⟩
 exact Good.ret ⟨p,t,h1,h2,h3,h4,rfl⟩
theorem ren_ok (x:ByteArray) (hx:x.size<=1):∀ t:Tm,Small t->Dt 1 t->rn ⟨31,0,0⟩ [.int t.k,.int t.n,.str t.s,.sl (t.as.map Tm.row),.str x]=some (0,[.int (rnV x t).k,.int (rnV x t).n,.str (rnV x t).s,.sl ((rnV x t).as.map Tm.row)]):=Tm.ind fun t ih hs hd=>by
 have hl:=hs.len;have hf:∀ (s:ByteArray),rn ⟨31,0,1⟩ [.str x,.int 0,.int t.k,.int t.n,.str t.s,.sl (t.as.map Tm.row),.int 0,.int 0,.str ⟨#[]⟩,.int t.k,.int t.n,.str s,.sl [],.sl []]=some (0,[.int 0,.int 0,.str ⟨#[]⟩,.int t.k,.int t.n,.str s,.sl [],.sl ((t.as.map (rnV x)).map Tm.row)]):=by
  intro s;have hf:=map_loop (F:=fun i acc=>rn ⟨31,0,1⟩ [.str x,.int (i:Int),.int t.k,.int t.n,.str t.s,.sl (t.as.map Tm.row),.int 0,.int 0,.str ⟨#[]⟩,.int t.k,.int t.n,.str s,.sl [],.sl acc]) (xs:=t.as) (fun a=>(rnV x a).row) (K:=fun acc=>some (0,[.int 0,.int 0,.str ⟨#[]⟩,.int t.k,.int t.n,.str s,.sl [],.sl acc])) (fun i hi acc ha=>?_) (fun acc=>?_)
  · simp only [E3] at hf; rw [hf,J3]; rfl
  · have hc:=ih _ (C4 hi) (hs.sub (C4 hi)) (hd.sub (C4 hi))
    rw [e31_0_1];simp only [C9,rowAt_map hi,Tm.row_eq,C0,inbN,hi,D6,H3,H1,nv0,nvS,dvI,dvB,dvS,dvL,B6,wrap_succ hi (by unfold maxLen; omega),hc,C6,E0]
    rw [show G7 (acc.length+(0+1)) M63=true from G6 (by unfold M63; omega)]
    rfl
  · rw [e31_0_1]
    simp
 rw [e31_0_0,rnV_eq];by_cases hk:t.k=1
 · have hsz:t.s.size<=1:=by
    cases hd with
    | var h=>exact h
    | word=>simp [Tm.k] at hk
    | app h _ _=>exact h
   rw [H7 hk,H7 (show t.s.size+x.size<=i64max by unfold i64max; omega)]
   simp only [H1];rw [hf];simp only [nv0,nvS,dvI,dvB,dvS,dvL,B6,J6,H1,H2,hk,if_true,Tm.as_mk,Tm.k_mk,Tm.s_mk];rfl
 · rw [H8 hk]
   simp only [H2];rw [hf];simp only [nv0,nvS,dvI,dvB,dvS,dvL,B6,J6,H1,H2,hk,if_false,Tm.as_mk,Tm.k_mk,Tm.s_mk];rfl
theorem duni_ok {code:Rows} (hl:code.length<=1048576):Good (rn ⟨16,0,0⟩ [.sl code]) (DT2 2):=by
 rw [e16_0_0];refine Good.bind (two_ok hl) ?_
 rintro _ ⟨p,t,h1,h2,h3,h4,rfl⟩
 simp only [nv0,nvS,dvI,dvB,dvS,dvL,B6];refine Good.bind (new_ok hl) ?_
 rintro _ ⟨i,h,rfl⟩
 simp only [nv0,nvS,dvI,dvB,dvS,dvL,B6];refine Good.bind (once_ok hl _ _ (by decide) (by decide)) ?_
 rintro _ ⟨g,i,h,rfl⟩
 simp only [nv0,nvS,dvI,dvB,dvS,dvL,B6];refine Good.ite (fun _=>?_) (fun _=>?_)
 · have e:=ren_ok (⟨#[49]⟩:ByteArray) (by decide) t (small_of _ (by omega)) h2
   simp only [nv0,nvS,dvI,dvB,dvS,dvL,B6,e];have hd:Dt 2 (rnV (⟨#[49]⟩:ByteArray) t):=rnV_dt (m:=1) (⟨#[49]⟩:ByteArray) t h2;exact Good.ret ⟨p,rnV (⟨#[49]⟩:ByteArray) t,h1.mono (by decide),hd,h3,by rw [rnV_nodes]; exact h4,rfl⟩
 · exact Good.ret ⟨p,t,h1.mono (by decide),h2.mono (by decide),h3,h4,rfl⟩
end Go.Q.S
end
section
namespace Go.Q.S
open Go Go.Q Go.Proofs
theorem cntB:∀ t:Tm,Small t->t.nodes<=1099511627776->rn ⟨35,0,0⟩ [.int t.k,.int t.n,.str t.s,.sl (t.as.map Tm.row)]=some (0,[.int (t.nodes:Int)]):=Tm.ind fun t ih hs h=>by
 have hnd:=Tm.nodes_eq t;have hls:=hs.len;have hl:∀ n i (c:Nat),i+n=t.as.length->c+((t.as.drop i).map Tm.nodes).sum<=1099511627776->rn ⟨35,0,1⟩ [.int (c:Int),.sl (t.as.map Tm.row),.int (t.as.length:Int),.int (i:Int)]=some (0,[.int ((c+((t.as.drop i).map Tm.nodes).sum:Nat):Int)]):=by
  intro n;induction n with
  | zero =>
   intro i c hi hc;obtain rfl:i=t.as.length:=by omega
   rw [e35_0_1];simp only [C0,D6,J1,H4,H2,J2,F8,List.sum_nil,Nat.add_zero]
  | succ n ih2 =>
   intro i c hi hc;have hlt:i<t.as.length:=by omega
   rw [D4 hlt] at hc ⊢;simp only [B9,J7] at hc ⊢;rw [e35_0_1];have h1:=ih _ (C4 hlt) (hs.sub (C4 hlt)) (by omega)
   simp only [C0,D6,hlt,H3,H1,inbN,C9,rowAt_map hlt,wrap_succ hlt (maxB (by omega)),Tm.row_eq,nv0,nvS,dvI,dvB,dvS,dvL,B6,h1]
   rw [IntWalk.i64_in _ (by omega),show ((c:Int)+(t.as[i].nodes:Int))=((c+t.as[i].nodes:Nat):Int) by omega,ih2 (i+1) _ (by omega) (by omega),Nat.add_assoc]
 rw [e35_0_0];have:=hl t.as.length 0 1 (by omega) (by rw [J9]; omega)
 rw [J9,<- hnd] at this;simp only [C0,show ((1:Nat):Int)=1 from rfl,E3] at this ⊢
 simp only [this,nv0,nvS,dvI,dvB,dvS,dvL,B6,J6,H1,H2]
def lfN (n:Nat) (a:Int):Int:=if (n:Int)<=a then a-n else -1
theorem left_ok:∀ t:Tm,Small t->t.nodes<=1099511627776->∀ a:Int,0<=a->a<=1048576->rn ⟨55,0,0⟩ [.int t.k,.int t.n,.str t.s,.sl (t.as.map Tm.row),.int a]=some (0,[.int (lfN t.nodes a)]):=Tm.ind fun t ih hs h a ha0 ha1=>by
 have hnd:=Tm.nodes_eq t;have hls:=hs.len;have hl:∀ n i (c:Int),i+n=t.as.length->-1<=c->c<=1048576->rn ⟨55,0,1⟩ [.int c,.int (i:Int),.int t.k,.int t.n,.str t.s,.sl (t.as.map Tm.row)]=some (0,[.int (if c=-1 then -1 else lfN ((t.as.drop i).map Tm.nodes).sum c)]):=by
  intro n;induction n with
  | zero =>
   intro i c hi h1 h2;obtain rfl:i=t.as.length:=by omega
   rw [e55_0_1];simp only [C0,D6,J1,H4,H2,J2,F8,List.sum_nil];have e:(if c=-1 then -1 else lfN 0 c)=c:=by unfold lfN; split <;> (try split) <;> omega
   rw [e]
  | succ n ih2 =>
   intro i c hi h1 h2;have hlt:i<t.as.length:=by omega
   rw [D4 hlt];simp only [B9,J7];rw [e55_0_1];by_cases hc:c=-1
   · subst hc
     simp only [C0,D6,hlt,H3,H1,inbN,C9,rowAt_map hlt,wrap_succ hlt (maxB (by omega)),show decide ((0:Int)<=-1)=false from rfl,H2,if_true]
   · have hc0:0<=c:=by omega
     have hm:=mem_sum (f:=Tm.nodes) (C4 hlt);have h3:=ih _ (C4 hlt) (hs.sub (C4 hlt)) (by omega) c hc0 h2
     have hb:-1<=lfN t.as[i].nodes c/\lfN t.as[i].nodes c<=1048576:=by unfold lfN; split <;> omega
     have h4:=ih2 (i+1) (lfN t.as[i].nodes c) (by omega) hb.1 hb.2
     simp only [C0,D6,hlt,H3,H1,inbN,C9,rowAt_map hlt,wrap_succ hlt (maxB (by omega)),H7 hc0,Tm.row_eq,nv0,nvS,dvI,dvB,dvS,dvL,B6,h3,h4]
     congr 4
     rw [H6 hc];unfold lfN;split <;> (try split) <;> (try split) <;> (try split) <;> omega
 rw [e55_0_0];have:=hl t.as.length 0 (a-1) (by omega) (by omega) (by omega)
 rw [J9] at this;simp only [E3] at this;rw [IntWalk.i64_in _ (by omega),this]
 simp only [nv0,nvS,dvI,dvB,dvS,dvL,B6,J6,H1,H2];congr 4
 unfold lfN;split <;> (try split) <;> (try split) <;> omega
theorem large_ok (l:List Bnd) (hl:l.length<=1048576) (hs:∀ b∈l,Small b.2/\b.2.nodes<=1099511627776):rn ⟨37,0,0⟩ [.sl (l.map Bnd.row)]=some (0,[.bool (lrg l)]):=by
 have key:∀ n i,i+n=l.length->rn ⟨37,0,1⟩ [.sl (l.map Bnd.row),.int (i:Int)]=bif lrg (l.drop i) then some (1,[]) else some (0,[]):=by
  intro n;induction n with
  | zero =>
   intro i hi;obtain rfl:i=l.length:=by omega
   rw [e37_0_1];simp only [C0,D6,J1,H4,H2,J2,lrg,List.any_nil]
  | succ n ih =>
   intro i hi;have hlt:i<l.length:=by omega
   have hb:=hs _ (C4 hlt);have h1:=left_ok l[i].2 hb.1 hb.2 400 (by decide) (by decide)
   rw [e37_0_1,D4 hlt];simp only [C0,D6,hlt,H3,H1,inbN,C9,rowAt_map hlt,wrap_succ hlt (maxB (by omega)),bd_row,nv0,nvS,dvI,dvB,dvS,dvL,B6,h1,ih (i+1) (by omega),lrg,List.any_cons]
   have e:decide (lfN l[i].2.nodes 400<0)=decide (400<l[i].2.nodes):=decide_eq_decide.2 (by unfold lfN; split <;> omega)
   rw [e];cases decide (400<l[i].2.nodes) <;> rfl
 have h:=key l.length 0 (F1 _);simp only [E3,J9] at h;rw [e37_0_0,h];cases lrg l <;> rfl
theorem copyB_ok (b:Bnd) (hb:Small b.2):rn ⟨69,0,0⟩ [.str b.1,.int b.2.k,.int b.2.n,.str b.2.s,.sl (b.2.as.map Tm.row)]=some (0,[.str b.1,.int b.2.k,.int b.2.n,.str b.2.s,.sl (b.2.as.map Tm.row)]):=by
 rw [e69_0_0,r33 b.2 hb];rfl
theorem composeI (a b:List Bnd) (ha:a.length<=1048576) (hb:b.length<=1048576) (hsa:∀ x∈a,Small x.2) (hsb:∀ x∈b,Small x.2):rn ⟨53,0,0⟩ [.sl (a.map Bnd.row),.sl (b.map Bnd.row)]=some (0,[.sl ((cmS a b).map Bnd.row)]):=by
 have hf:=map_loop (F:=fun i acc=>rn ⟨53,0,1⟩ [.sl (a.map Bnd.row),.sl (b.map Bnd.row),.sl (a.map Bnd.row),.int (a.length:Int),.int (i:Int),.sl acc]) (xs:=a) (fun x=>Bnd.row (x.1,aS b x.2)) (K:=fun acc=>some (0,[.sl (a.map Bnd.row),.sl (b.map Bnd.row),.sl acc])) (fun i hi acc hac=>?_) (fun acc=>?_)
 · simp only [E3] at hf
   have key:∀ n i (acc:List Bnd),i+n=b.length->acc.length<=a.length+i->rn ⟨53,0,3⟩ [.sl (a.map Bnd.row),.sl (b.map Bnd.row),.int (b.length:Int),.int (i:Int),.sl (acc.map Bnd.row)]=some (0,[.sl ((acc++(b.drop i).filter fun x=>(bnd a x.1).isNone).map Bnd.row)]):=by
    intro n;induction n with
    | zero =>
     intro i acc hi hac;obtain rfl:i=b.length:=by omega
     rw [e53_0_3];simp only [C0,D6,J1,H4,H2,J2,List.filter_nil,K6]
    | succ n ih =>
     intro i acc hi hac;have hlt:i<b.length:=by omega
     have h1:=r32 a ha b[i].1;have h2:=copyB_ok b[i] (hsb _ (C4 hlt));have hb2:G7 (acc.length+1) M63=true:=nb (by omega)
     rw [e53_0_3,D4 hlt,O5];simp only [C0,D6,hlt,H3,H1,inbN,C9,rowAt_map hlt,wrap_succ hlt (maxB (by omega)),bd_row,nv0,nvS,dvI,dvB,dvS,dvL,B6,h1]
     cases hq:bnd a b[i].1 with
     | some v =>
      have h3:=ih (i+1) acc (by omega) (by omega)
      simp only [nv0,nvS,dvI,dvB,dvS,dvL,B6,F6,H2,h3,Option.isNone_some,Bool.false_eq_true,if_false]
     | none =>
      have h3:=ih (i+1) (acc++[b[i]]) (by omega) (by simp; omega)
      simp only [G5,B9,F8,bd_row] at h3;simp only [nv0,nvS,dvI,dvB,dvS,dvL,B6,K9,H1,h2,C6,E0,F1,hb2,h3,Option.isNone_none,if_true,G5,B9,D0,G8,F5,bd_row]
   have h2:=key b.length 0 (a.map fun x=>(x.1,aS b x.2)) (F1 _) (by simp)
   simp only [E3,J9,J3] at h2;rw [e53_0_0];simp only [C0,hf,nv0,nvS,dvI,dvB,dvS,dvL,B6,J6,H1,H2];have e:(a.map fun x=>Bnd.row (x.1,aS b x.2))=a.map (Bnd.row ∘ fun x=>(x.1,aS b x.2)):=rfl
   rw [e,h2];rfl
 · have h1:=r13 b hb hsb a[i].2 (hsa _ (C4 hi))
   have hb2:G7 (acc.length+1) M63=true:=nb (by omega)
   rw [e53_0_1];simp only [C0,D6,hi,H3,H1,inbN,C9,rowAt_map hi,wrap_succ hi (maxB (by omega)),bd_row,nv0,nvS,dvI,dvB,dvS,dvL,B6,h1,C6,E0,F1,hb2]
 · rw [e53_0_1]
   simp only [D6,J1,H4,H2]
theorem composeS (a b:List Bnd) (ha:a.length<=1048576) (hb:b.length<=1048576) (hsa:∀ x∈a,Small x.2) (hsb:∀ x∈b,Small x.2):rn ⟨71,0,0⟩ [.sl (a.map Bnd.row),.sl (b.map Bnd.row)]=some (0,[.sl ((cmS a b).map Bnd.row)]):=by
 have hf:=map_loop (F:=fun i acc=>rn ⟨71,0,1⟩ [.sl (a.map Bnd.row),.sl (b.map Bnd.row),.int (i:Int),.sl acc]) (xs:=a) (fun x=>Bnd.row (x.1,aS b x.2)) (K:=fun acc=>some (0,[.sl (a.map Bnd.row),.sl (b.map Bnd.row),.sl acc])) (fun i hi acc hac=>?_) (fun acc=>?_)
 · simp only [E3] at hf
   have key:∀ n i (acc:List Bnd),i+n=b.length->acc.length<=a.length+i->rn ⟨71,0,3⟩ [.sl (a.map Bnd.row),.sl (b.map Bnd.row),.int (i:Int),.sl (acc.map Bnd.row)]=some (0,[.sl ((acc++(b.drop i).filter fun x=>(bnd a x.1).isNone).map Bnd.row)]):=by
    intro n;induction n with
    | zero =>
     intro i acc hi hac;obtain rfl:i=b.length:=by omega
     rw [e71_0_3];simp only [C0,D6,J1,H4,H2,J2,List.filter_nil,K6]
    | succ n ih =>
     intro i acc hi hac;have hlt:i<b.length:=by omega
     have h1:=r67 a ha b[i].1;have h2:=r48 b[i].2 (hsb _ (C4 hlt));have hb2:G7 (acc.length+1) M63=true:=nb (by omega)
     rw [e71_0_3,D4 hlt,O5];rcases h1 with ⟨hq,h1⟩|⟨j,hj,hq,h1⟩
     · have h3:=ih (i+1) (acc++[b[i]]) (by omega) (by simp; omega)
       simp only [G5,B9,F8,bd_row] at h3;simp only [C0,D6,hlt,H3,H1,inbN,C9,rowAt_map hlt,wrap_succ hlt (maxB (by omega)),bd_row,nv0,nvS,dvI,dvB,dvS,dvL,B6,h1,show decide ((-1:Int)<0)=true from rfl,h2,C6,E0,F1,hb2,h3,hq,Option.isNone_none,if_true,G5,B9,D0,G8,F5]
     · have h3:=ih (i+1) acc (by omega) (by omega)
       simp only [C0,D6,hlt,H3,H1,inbN,C9,rowAt_map hlt,wrap_succ hlt (maxB (by omega)),bd_row,nv0,nvS,dvI,dvB,dvS,dvL,B6,h1,H8 (show ¬(j:Int)<0 by omega),H2,h3,hq,Option.isNone_some,Bool.false_eq_true,if_false]
   have h2:=key b.length 0 (a.map fun x=>(x.1,aS b x.2)) (F1 _) (by simp)
   simp only [E3,J9,J3] at h2;rw [e71_0_0];simp only [hf,nv0,nvS,dvI,dvB,dvS,dvL,B6,J6,H1,H2];have e:(a.map fun x=>Bnd.row (x.1,aS b x.2))=a.map (Bnd.row ∘ fun x=>(x.1,aS b x.2)):=rfl
   rw [e,h2];rfl
 · have h1:=r41 b hb hsb a[i].2 (hsa _ (C4 hi))
   have hb2:G7 (acc.length+1) M63=true:=nb (by omega)
   rw [e71_0_1];simp only [C0,D6,hi,H3,H1,inbN,C9,rowAt_map hi,wrap_succ hi (maxB (by omega)),bd_row,nv0,nvS,dvI,dvB,dvS,dvL,B6,h1,C6,E0,F1,hb2]
 · rw [e71_0_1]
   simp
end Go.Q.S
end
section
namespace Go.Q.S
open Go Go.Q Go.Proofs
def hasN (l:List ByteArray) (x:ByteArray):Bool:=l.any fun y=>decide (x=y)
theorem hasN_t {l:List ByteArray} {x:ByteArray} (h:x∈l):hasN l x=true:=List.any_eq_true.2 ⟨x,h,H7 rfl⟩
theorem hasN_f {l:List ByteArray} {x:ByteArray} (h:x∉l):hasN l x=false:=List.any_eq_false.2 fun y hy he=>h (by simp only [decide_eq_true_eq] at he; rw [he]; exact hy)
theorem contS (l:List ByteArray) (hl:l.length<=maxLen) (x:ByteArray):rn ⟨52,0,0⟩ [.sl (l.map sRow),.str x]=some (0,[.bool (hasN l x)]):=by
 have key:∀ n i,i+n=l.length->(x∉l.drop i/\rn ⟨68,0,1⟩ [.sl (l.map sRow),.str x,.int (l.length:Int),.int (i:Int)]=some (0,[]))\/(x∈l.drop i/\∃ j:Nat,rn ⟨68,0,1⟩ [.sl (l.map sRow),.str x,.int (l.length:Int),.int (i:Int)]=some (1,[.int (j:Int)])):=by
  intro n;induction n with
  | zero =>
   intro i hi;obtain rfl:i=l.length:=by omega
   rw [e68_0_1];simp only [C0,D6,J1,H4,H2,J2];exact .inl ⟨by simp,trivial⟩
  | succ n ih =>
   intro i hi;have hlt:i<l.length:=by omega
   have:=ih (i+1) (by omega)
   rw [e68_0_1,D4 hlt];simp only [C0,D6,hlt,H3,H1,inbN,C9,rowAt_map hlt,wrap_succ hlt hl,sRow,nv0,nvS,dvI,dvB,dvS,dvL,B6];by_cases h1:x=l[i]
   · right
     refine ⟨by rw [h1]; exact List.mem_cons_self ..,i,by simp [h1]⟩
   · simp only [H8 h1,H2]
     rcases this with ⟨h2,h3⟩|⟨h2,h3⟩
     · exact .inl ⟨by simp only [C3,not_or]; exact ⟨h1,h2⟩,h3⟩
     · exact .inr ⟨List.mem_cons_of_mem _ h2,h3⟩
 have h:=key l.length 0 (by omega)
 simp only [J9,E3] at h;rw [e52_0_0,e68_0_0];simp only [C0];rcases h with ⟨h1,h2⟩|⟨h1,j,h2⟩
 · rw [h2,hasN_f h1]; rfl
 · rw [h2,hasN_t h1]
   simp only [nv0,nvS,dvI,dvB,dvS,dvL,B6,J6,H1,H2,show Nat.beq 1 0=false from rfl]
   have:(0:Int)<=(j:Int):=by omega
   simp [this]
theorem pairs_ok (L:Rows) (X Y:Tm) (hX:X.as.length<=1048576) (hlen:X.as.length=Y.as.length):rn ⟨34,0,1⟩ [.sl L,.int (X.as.length:Int),.int 0,.int X.k,.int X.n,.str X.s,.int Y.k,.int Y.n,.str Y.s,.sl [],.sl (X.as.map Tm.row),.sl (Y.as.map Tm.row)]=some (0,[.sl L,.sl ((X.as.zip Y.as).map eqRow)]):=by
 have key:∀ n i (acc:Rows),i+n=X.as.length->acc.length<=i->rn ⟨34,0,1⟩ [.sl L,.int (X.as.length:Int),.int (i:Int),.int X.k,.int X.n,.str X.s,.int Y.k,.int Y.n,.str Y.s,.sl acc,.sl (X.as.map Tm.row),.sl (Y.as.map Tm.row)]=some (0,[.sl L,.sl (acc++((X.as.drop i).zip (Y.as.drop i)).map eqRow)]):=by
  intro n;induction n with
  | zero =>
   intro i acc hi ha;obtain rfl:i=X.as.length:=by omega
   rw [e34_0_1];simp only [C0,D6,J1,H4,H2,J2,List.zip_nil_left,F8,K6]
  | succ n ih =>
   intro i acc hi ha;have hlt:i<X.as.length:=by omega
   have hlu:i<Y.as.length:=by omega
   have h1:=ih (i+1) (acc++[eqRow (X.as[i],Y.as[i])]) (by omega) (by simp; omega)
   have hb2:G7 (acc.length+1) M63=true:=nb (by omega)
   rw [e34_0_1,D4 hlt,D4 hlu,List.zip_cons_cons,B9];simp only [eqRow] at h1;simp only [C0,D6,hlt,H3,H1,inbN,C9,rowAt_map hlt,wrap_succ hlt (maxB (by omega)),hlu,rowAt_map hlu,Tm.row_eq,nv0,nvS,dvI,dvB,dvS,dvL,B6,C6,E0,F1,hb2,h1,eqRow,D0,G8,F5]
 have h:=key X.as.length 0 [] (F1 _) (N4 _);simpa using h
theorem treat_ok (x y:Tm) (l:List Bnd) (r:List (Tm × Tm)) (h:UniB l x y r):rn ⟨34,0,0⟩ [.int x.k,.int x.n,.str x.s,.sl (x.as.map Tm.row),.int y.k,.int y.n,.str y.s,.sl (y.as.map Tm.row),.sl (l.map Bnd.row)]=some (0,utD (trt (aS l x) (aS l y) l)):=by
 have h1:=r13 l (by have:=h.ll; omega) h.ls x (Dt.small _ h.dx)
 have h2:=r13 l (by have:=h.ll; omega) h.ls y (Dt.small _ h.dy)
 have nX:=h.nx;have nY:=h.ny;have hll:=h.ll;have hls:=h.ls;rw [e34_0_0];simp only [h1,nv0,nvS,dvI,dvB,dvS,dvL,B6,h2];generalize aS l x=X at nX ⊢;generalize aS l y=Y at nY ⊢;have sX:Small X:=small_of _ (by omega)
 have sY:Small Y:=small_of _ (by omega)
 have h3:=r43 X Y sX;have h4:=r46 X (by omega)
 have h5:=r46 Y (by omega)
 have nnX:=names_nodes X;have nnY:=names_nodes Y;have h6:=contS X.names (maxB (by omega)) Y.s
 have h7:=contS Y.names (maxB (by omega)) X.s
 have h8:=composeI l [(Y.s,X)] (by omega) (by simp) hls (by simpa using sX)
 have h9:=composeI l [(X.s,Y)] (by omega) (by simp) hls (by simpa using sY)
 simp only [B9,F8,bd_row] at h8 h9;unfold trt;simp only [h3,nv0,nvS,dvI,dvB,dvS,dvL,B6];by_cases e1:eqb X.row Y.row=true
 · rw [e1,H5 rfl]; rfl
 rw [H6 e1];rw [N0] at e1;rw [e1];simp only [H2];by_cases k1:X.k=1
 · rw [H5 k1,H7 k1]
   simp only [F6,H2,H1,h5,nv0,nvS,dvI,dvB,dvS,dvL,B6,h7];by_cases hm:X.s∈Y.names
   · rw [hasN_t hm,H5 hm]; rfl
   · rw [hasN_f hm,H6 hm]
     simp only [H2,h9,nv0,nvS,dvI,dvB,dvS,dvL,B6]; rfl
 rw [H6 k1,H8 k1];simp only [K9,H1];by_cases k2:Y.k=1
 · rw [H5 k2,H7 k2]
   simp only [H1,h4,nv0,nvS,dvI,dvB,dvS,dvL,B6,h6];by_cases hm:Y.s∈X.names
   · rw [hasN_t hm,H5 hm]; rfl
   · rw [hasN_f hm,H6 hm]
     simp only [H2,h8,nv0,nvS,dvI,dvB,dvS,dvL,B6]; rfl
 rw [H6 k2,H8 k2];simp only [H2];by_cases e2:X.k=2
 · by_cases e3:Y.k=2
   · by_cases e4:X.s=Y.s
     · by_cases e5:X.as.length=Y.as.length
       · have hp:=pairs_ok (l.map Bnd.row) X Y sX.len e5
         have e5':((Y.as.length:Int)=(X.as.length:Int)):=by omega
         rw [H5 ⟨e2,e3,e4,e5⟩];simp only [e2,e3,e4,e5,C0,H3,F6,H2] at hp ⊢;simp only [hp,nv0,nvS,dvI,dvB,dvS,dvL,B6,J6,H1,H2]; rfl
       · have e5':¬((X.as.length:Int)=(Y.as.length:Int)):=by omega
         rw [H6 (fun h=>e5 h.2.2.2)]
         simp only [e2,e3,e4,C0,H3,F6,H2,H8 e5',K9,H1]; rfl
     · rw [H6 (fun h=>e4 h.2.2.1)]
       simp only [e2,e3,H3,F6,H2,H8 e4,K9,H1]; rfl
   · rw [H6 (fun h=>e3 h.2.1)]
     simp only [e2,H3,F6,H2,H8 e3,K9,H1]; rfl
 · rw [H6 (fun h=>e2 h.1)]
   simp only [H8 e2,K9,H1]; rfl
theorem l8bind_ok (v:ByteArray) (u:Tm) (L R:Rows) (l:List Bnd) (hl:l.length<=800) (hs:∀ b∈l,Small b.2) (hu:u.nodes<=160000):rn ⟨54,0,0⟩ [.str v,.int u.k,.int u.n,.str u.s,.sl (u.as.map Tm.row),.sl L,.sl R,.sl (l.map Bnd.row)]=some (0,bif hasN u.names v then [.bool false,.sl L,.sl R,.sl (l.map Bnd.row)] else [.bool true,.sl L,.sl R,.sl ((cmS l [(v,u)]).map Bnd.row)]):=by
 have h1:=r27 u (by omega)
 have n1:=names_nodes u;have n2:=srtN_len u.names;have h2:=r70 (srtN u.names) (maxB (by omega)) v
 have h3:=composeS l [(v,u)] (by omega) (by simp) hs (by simpa using small_of u (by omega))
 simp only [B9,F8,bd_row] at h3;have hneg:=ixS_neg v (srtN u.names) 0;rw [srtN_mem] at hneg;rw [e54_0_0];simp only [h1,nv0,nvS,dvI,dvB,dvS,dvL,B6,h2];by_cases hm:v∈u.names
 · rw [hasN_t hm,H7 (show 0<=ixS v (srtN u.names) 0 by have:¬ ixS v (srtN u.names) 0<0:=fun h=>(hneg.1 h) hm; omega)]; rfl
 · rw [hasN_f hm,H8 (show ¬ 0<=ixS v (srtN u.names) 0 by have:=hneg.2 hm; omega)]
   simp only [H2,h3,nv0,nvS,dvI,dvB,dvS,dvL,B6]
def stD (r:List (Tm × Tm)):Option (List Bnd × List (Tm × Tm))->List D->Prop
 | none,x=>∃ L R S,x=[.bool false,.sl L,.sl R,.sl S]
 | some q,x=>x=[.bool true,.sl ((q.2++r).map fun e=>e.1.row),.sl ((q.2++r).map fun e=>e.2.row),.sl (q.1.map Bnd.row)]
theorem take_all {x:List D} {xs:Rows}:((x::xs).take (x::xs).length).drop 1=xs:=by rw [List.take_length]; rfl
theorem l8step_ok (x y:Tm) (l:List Bnd) (r:List (Tm × Tm)) (h:UniB l x y r):∃ q,rn ⟨36,1,0⟩ [.sl (((x,y)::r).map fun e=>e.1.row),.sl (((x,y)::r).map fun e=>e.2.row),.sl (l.map Bnd.row)]=some (0,q)/\stD r (trt (aS l x) (aS l y) l) q:=by
 have h1:=r41 l (by have:=h.ll; omega) h.ls x (Dt.small _ h.dx)
 have h2:=r41 l (by have:=h.ll; omega) h.ls y (Dt.small _ h.dy)
 have nX:=h.nx;have nY:=h.ny;have hll:=h.ll;have hls:=h.ls;have hrl:=h.rl;rw [e36_1_0];have hi:∀ n:Nat,inb 0 (n+1)=true:=fun n=>by simp [inb]
 have hr0:∀ (a:List D) (b:Rows),rowAt (a::b) (P6 0)=a:=fun _ _=>rfl
 have hd1:∀ n:Nat,decide ((1:Int)<=((n+1:Nat):Int))=true:=fun n=>H7 (by omega)
 have htk:∀ (a:List D) (b:Rows),((a::b).take (P6 ((b.length+1:Nat):Int))).drop (P6 1)=b:=fun a b=>by rw [C9]; exact take_all
 simp only [B9,C6,hi,H1,hr0,Tm.row_eq,nv0,nvS,dvI,dvB,dvS,dvL,B6,h1,h2,hd1,Int.le_refl,H3,Bool.and_self,htk,show decide ((0:Int)<=1)=true from rfl]
 generalize aS l x=X at nX ⊢;generalize aS l y=Y at nY ⊢;have sX:Small X:=small_of _ (by omega)
 have sY:Small Y:=small_of _ (by omega)
 have h3:=r12 X Y sX;have h8:=l8bind_ok Y.s X (r.map fun e=>e.1.row) (r.map fun e=>e.2.row) l hll hls nX
 have h9:=l8bind_ok X.s Y (r.map fun e=>e.1.row) (r.map fun e=>e.2.row) l hll hls nY
 simp only [Tm.row_eq] at h8 h9;unfold trt;simp only [h3,nv0,nvS,dvI,dvB,dvS,dvL,B6];by_cases e1:eqb X.row Y.row=true
 · rw [e1,H5 rfl]
   exact ⟨_,rfl,by simp only [stD,F5,Tm.row_eq]⟩
 rw [H6 e1];rw [N0] at e1;rw [e1];simp only [H2];by_cases k1:X.k=1
 · rw [H5 k1,H7 k1]
   simp only [H1,h9,nv0,nvS,dvI,dvB,dvS,dvL,B6];by_cases hm:X.s∈Y.names
   · rw [hasN_t hm,H5 hm]
     exact ⟨_,rfl,⟨_,_,_,rfl⟩⟩
   · rw [hasN_f hm,H6 hm]
     exact ⟨_,rfl,by simp only [stD,F5,Tm.row_eq]; rfl⟩
 rw [H6 k1,H8 k1];simp only [H2];by_cases k2:Y.k=1
 · rw [H5 k2,H7 k2]
   simp only [H1,h8,nv0,nvS,dvI,dvB,dvS,dvL,B6];by_cases hm:Y.s∈X.names
   · rw [hasN_t hm,H5 hm]
     exact ⟨_,rfl,⟨_,_,_,rfl⟩⟩
   · rw [hasN_f hm,H6 hm]
     exact ⟨_,rfl,by simp only [stD,F5,Tm.row_eq]; rfl⟩
 rw [H6 k2,H8 k2];simp only [H2];by_cases e2:X.k=2
 · by_cases e3:Y.k=2
   · by_cases e4:X.s=Y.s
     · by_cases e5:X.as.length=Y.as.length
       · rw [H5 ⟨e2,e3,e4,e5⟩]
         have lX:=sX.len;have lY:=sY.len;have b1:G7 (([]:Rows).length+X.as.length) M63=true:=nb (by simp; omega)
         have b2:G7 (([]:Rows).length+Y.as.length) M63=true:=nb (by simp; omega)
         have b3:G7 ((([]:Rows)++X.as.map Tm.row).length+r.length) M63=true:=nb (by simp; omega)
         have b4:G7 ((([]:Rows)++Y.as.map Tm.row).length+r.length) M63=true:=nb (by simp; omega)
         have e5':((X.as.length:Int)=(Y.as.length:Int)):=by omega
         refine ⟨[.bool true,.sl (([]++X.as.map Tm.row)++r.map fun e=>e.1.row),.sl (([]++Y.as.map Tm.row)++r.map fun e=>e.2.row),.sl (l.map Bnd.row)],?_,?_⟩
         · simp only [e2,e3,e4,C0,e5',H3,F6,H2]
           simp only [b1,b2,b3,b4,H1,Tm.row_eq]
         · simp only [stD,G5,F5,map_zip_row1 e5,map_zip_row2 e5]
       · have e5':¬((X.as.length:Int)=(Y.as.length:Int)):=by omega
         rw [H6 (fun h=>e5 h.2.2.2)]
         simp only [e2,e3,e4,C0,H3,F6,H2,H8 e5',K9,H1];exact ⟨_,rfl,⟨_,_,_,rfl⟩⟩
     · rw [H6 (fun h=>e4 h.2.2.1)]
       simp only [e2,e3,H3,F6,H2,H8 e4,K9,H1];exact ⟨_,rfl,⟨_,_,_,rfl⟩⟩
   · rw [H6 (fun h=>e3 h.2.1)]
     simp only [e2,H3,F6,H2,H8 e3,K9,H1];exact ⟨_,rfl,⟨_,_,_,rfl⟩⟩
 · rw [H6 (fun h=>e2 h.1)]
   simp only [H8 e2,K9,H1];exact ⟨_,rfl,⟨_,_,_,rfl⟩⟩
end Go.Q.S
end
section
namespace Go.Q.S
open Go Go.Q Go.Proofs
theorem ints0:rn ⟨50,0,0⟩ [.sl [],.sl []]=some (0,[.bool true]):=by
 have h:rn ⟨50,0,1⟩ [.sl [],.sl [],.int 0]=some (0,[]):=by rw [e50_0_1]; rfl
 rw [e50_0_0];have h':rn ⟨50,0,1⟩ [.sl [],.sl [],.int 0]=some (0,[]):=h;simp only [E0,H3,F6,H2,h',nv0,nvS,dvI,dvB,dvS,dvL,B6,J6,H1,H2]
theorem binds_ok (l:List Bnd) (hl:l.length<=1048576) (hs:∀ b∈l,Small b.2):rn ⟨51,0,0⟩ [.sl (l.map Bnd.row),.sl (l.map Bnd.row)]=some (0,[.bool true]):=by
 have key:∀ n i,i+n=l.length->rn ⟨51,0,1⟩ [.sl (l.map Bnd.row),.sl (l.map Bnd.row),.int (i:Int)]=some (0,[]):=by
  intro n;induction n with
  | zero =>
   intro i hi;obtain rfl:i=l.length:=by omega
   rw [e51_0_1];simp only [C0,D6,J1,H4,H2,J2]
  | succ n ih =>
   intro i hi;have hlt:i<l.length:=by omega
   have he:=r12 l[i].2 l[i].2 (hs _ (C4 hlt));have h1:=ih (i+1) (by omega)
   rw [eqb_refl] at he;rw [e51_0_1];simp only [C0,D6,hlt,H3,H1,inbN,C9,rowAt_map hlt,wrap_succ hlt (maxB (by omega)),bd_row,nv0,nvS,dvI,dvB,dvS,dvL,B6,F6,H2,he,h1]
 rw [e51_0_0];have h:=key l.length 0 (F1 _);simp only [E3] at h;simp only [H3,F6,H2,h,nv0,nvS,dvI,dvB,dvS,dvL,B6,J6,H1,H2]
theorem sameBinds_ok (l:List Bnd) (hl:l.length<=1048576) (hs:∀ b∈l,Small b.2):rn ⟨9,0,0⟩ [.sl (l.map Bnd.row),.sl (l.map Bnd.row)]=some (0,[.bool true]):=by
 have h1:=binds_ok l hl hs;have h2:rn ⟨28,0,1⟩ [.int 1,.sl [[.int 0,.sl [],.int 0,.sl (l.map Bnd.row)]],.sl [[.int 0,.sl [],.int 0,.sl (l.map Bnd.row)]]]=some (0,[]):=by
  rw [e28_0_1]; rfl
 have h3:rn ⟨28,0,1⟩ [.int 0,.sl [[.int 0,.sl [],.int 0,.sl (l.map Bnd.row)]],.sl [[.int 0,.sl [],.int 0,.sl (l.map Bnd.row)]]]=some (0,[]):=by
  rw [e28_0_1];have hr:∀ x:List D,rowAt [x] (P6 0)=x:=fun _=>rfl
  have hi:inb 0 1=true:=rfl;have hw:IntKind.i64.wrap (0+1)=1:=rfl;simp only [C6,E0,F1,hr,hi,hw,nv0,nvS,dvI,dvB,dvS,dvL,B6,H3,F6,H2,H1,ints0,h1,h2,show decide ((0:Int)<((1:Nat):Int))=true from rfl]
 have h4:rn ⟨28,0,0⟩ [.sl [[.int 0,.sl [],.int 0,.sl (l.map Bnd.row)]],.sl [[.int 0,.sl [],.int 0,.sl (l.map Bnd.row)]]]=some (0,[.bool true]):=by
  rw [e28_0_0];simp only [H3,F6,H2,h3,nv0,nvS,dvI,dvB,dvS,dvL,B6,J6,H1,H2]
 rw [e9_0_0,h4];rfl
theorem big_ok (code:Rows):rn ⟨5,0,0⟩ [.sl code]=some (0,[.bool (decide ((1048576:Int)<code.length))]):=by rw [e5_0_0]
end Go.Q.S
end
section
namespace Go.Proofs
open Go.Shelf
def Try.lays190_ren:Go.Shelf.Ren:=⟨fun | 190=>65 | 125=>73 | 258=>72 | 128=>83 | 129=>84 | 302=>74 | 303=>75 | 304=>76 | 305=>77 | 306=>78 | 307=>79 | 308=>80 | 309=>81 | 310=>82 | 333=>85 | 329=>86 | 330=>87 | 334=>88 | 335=>89 | 336=>90 | 344=>91 | n=>n,fun | 31=>38 | 9=>9 | 3=>3 | 46=>91 | 0=>0 | 51=>104 | 53=>106 | 4=>4 | 183=>96 | 182=>95 | 131=>101 | 5=>5 | 218=>107 | 222=>111 | 228=>114 | 229=>115 | n=>n,fun | n=>n⟩
theorem Try.lays190:Go.Proofs.Lays.n190 Try.prog Try.lays190_ren:={
 mixed:=by kernel_rfl
 f125:=Try.func73.trans (congrArg some (by kernel_rfl))
 f128:=Try.func83.trans (congrArg some (by kernel_rfl))
 f129:=Try.func84.trans (congrArg some (by kernel_rfl))
 f190:=Try.func65.trans (congrArg some (by kernel_rfl))
 f258:=Try.func72.trans (congrArg some (by kernel_rfl))
 f302:=Try.func74.trans (congrArg some (by kernel_rfl))
 f303:=Try.func75.trans (congrArg some (by kernel_rfl))
 f304:=Try.func76.trans (congrArg some (by kernel_rfl))
 f305:=Try.func77.trans (congrArg some (by kernel_rfl))
 f306:=Try.func78.trans (congrArg some (by kernel_rfl))
 f307:=Try.func79.trans (congrArg some (by kernel_rfl))
 f308:=Try.func80.trans (congrArg some (by kernel_rfl))
 f309:=Try.func81.trans (congrArg some (by kernel_rfl))
 f310:=Try.func82.trans (congrArg some (by kernel_rfl))
 f329:=Try.func86.trans (congrArg some (by kernel_rfl))
 f330:=Try.func87.trans (congrArg some (by kernel_rfl))
 f333:=Try.func85.trans (congrArg some (by kernel_rfl))
 f334:=Try.func88.trans (congrArg some (by kernel_rfl))
 f335:=Try.func89.trans (congrArg some (by kernel_rfl))
 f336:=Try.func90.trans (congrArg some (by kernel_rfl))
 f344:=Try.func91.trans (congrArg some (by kernel_rfl))
 t0:=Try.underlying0
 a0:=Try.isAgg0
 z0:=Try.sizeOf0
 v0:=Try.zeroValue0
 t3:=Try.underlying3
 a3:=Try.isAgg3
 z3:=Try.sizeOf3
 v3:=Try.zeroValue3
 t4:=Try.underlying4
 a4:=Try.isAgg4
 z4:=Try.sizeOf4
 v4:=Try.zeroValue4
 t5:=Try.underlying5
 a5:=Try.isAgg5
 z5:=Try.sizeOf5
 v5:=Try.zeroValue5
 t9:=Try.underlying9
 a9:=Try.isAgg9
 z9:=Try.sizeOf9
 v9:=Try.zeroValue9
 t31:=Try.underlying38
 a31:=Try.isAgg38
 z31:=Try.sizeOf38
 v31:=Try.zeroValue38
 t46:=Try.underlying91
 a46:=Try.isAgg91
 z46:=Try.sizeOf91
 v46:=Try.zeroValue91
 t51:=Try.underlying104
 a51:=Try.isAgg104
 z51:=Try.sizeOf104
 v51:=Try.zeroValue104
 t53:=Try.underlying106
 a53:=Try.isAgg106
 z53:=Try.sizeOf106
 v53:=Try.zeroValue106
 t131:=Try.underlying101
 a131:=Try.isAgg101
 z131:=Try.sizeOf101
 v131:=Try.zeroValue101
 t182:=Try.underlying95
 a182:=Try.isAgg95
 z182:=Try.sizeOf95
 v182:=Try.zeroValue95
 t183:=Try.underlying96
 a183:=Try.isAgg96
 z183:=Try.sizeOf96
 v183:=Try.zeroValue96
 t218:=Try.underlying107
 a218:=Try.isAgg107
 z218:=Try.sizeOf107
 v218:=Try.zeroValue107
 t222:=Try.underlying111
 a222:=Try.isAgg111
 z222:=Try.sizeOf111
 v222:=Try.zeroValue111
 t228:=Try.underlying114
 a228:=Try.isAgg114
 z228:=Try.sizeOf114
 v228:=Try.zeroValue114
 t229:=Try.underlying115
 a229:=Try.isAgg115
 z229:=Try.sizeOf115
 v229:=Try.zeroValue115 }
def Try.lays194_ren:Go.Shelf.Ren:=⟨fun | 194=>66 | n=>n,fun | 31=>38 | 9=>9 | 3=>3 | 4=>4 | 0=>0 | n=>n,fun | n=>n⟩
theorem Try.lays194:Go.Proofs.Lays.n194 Try.prog Try.lays194_ren:={
 mixed:=by kernel_rfl
 f194:=Try.func66.trans (congrArg some (by kernel_rfl))
 t0:=Try.underlying0
 a0:=Try.isAgg0
 z0:=Try.sizeOf0
 v0:=Try.zeroValue0
 t3:=Try.underlying3
 a3:=Try.isAgg3
 z3:=Try.sizeOf3
 v3:=Try.zeroValue3
 t4:=Try.underlying4
 a4:=Try.isAgg4
 z4:=Try.sizeOf4
 v4:=Try.zeroValue4
 t9:=Try.underlying9
 a9:=Try.isAgg9
 z9:=Try.sizeOf9
 v9:=Try.zeroValue9
 t31:=Try.underlying38
 a31:=Try.isAgg38
 z31:=Try.sizeOf38
 v31:=Try.zeroValue38 }
end Go.Proofs
namespace Go.Q.S
open Go Go.Q Go.Proofs
theorem kiF_mem:∀ {l:List (Nat × Nat × KI)} {v n:Nat} {i:KI},kiF l v n=some i->∃ a b,(a,b,i)∈l
 | [],v,n,i,h=>by simp [kiF] at h
 | (a,b,x)::r,v,n,i,h=>by
  unfold kiF at h;cases hb:Nat.beq a v&&Nat.beq b n with
  | true=>rw [hb] at h; simp only [H1,C1.injEq] at h; exact ⟨a,b,by rw [h]; exact List.mem_cons_self ..⟩
  | false =>
   rw [hb] at h;obtain ⟨a',b',h'⟩:=kiF_mem h;exact ⟨a',b',List.mem_cons_of_mem _ h'⟩
theorem ext_ok:∀ f g,H.ext f=some g->∀ v ls x,g v ls=some x->FnT Try.prog H ⟨f,v,0⟩ ls x:=fun f g h v ls x hx=>by
 have h:lookN extL f=some g:=h;simp only [extL,lookN] at h;cases h1:Nat.beq 65 f with
 | true =>
  rw [h1] at h;simp only [H1,C1.injEq] at h;subst h;obtain rfl:=beqN.1 h1;refine sort_fnT Go.Proofs.Try.lays190 rfl (E:=9) (fl:=[]) rfl Try.func65 (fun he=>by cases he) (of_decide_eq_false (by kernel_rfl)) (fun i hi=>?_) hx
  obtain ⟨a,b,hm⟩:=kiF_mem (l:=[(0,0,⟨[(0,.hd 0)],[(0,.arr 9 .deep)],[⟨.ret,[],[(0,.arr 9 .deep)]⟩]⟩)]) hi;simp only [C3,List.not_mem_nil,or_false,Prod.mk.injEq] at hm;exact hm.2.2
 | false =>
 rw [h1] at h;simp only [H2] at h;cases h1:Nat.beq 66 f with
 | true =>
  rw [h1] at h;simp only [H1,C1.injEq] at h;subst h;obtain rfl:=beqN.1 h1;refine comp_fnT Go.Proofs.Try.lays194 rfl (E:=9) (fl:=[]) rfl Try.func66 (fun he=>by cases he) (of_decide_eq_false (by kernel_rfl)) (fun i hi=>?_) hx
  obtain ⟨a,b,hm⟩:=kiF_mem (l:=[(0,0,⟨[(0,.hd 0)],[(0,.arr 9 .deep)],[⟨.ret,[(0,.hd 16)],[(16,.arr 9 .deep)]⟩]⟩)]) hi;simp only [C3,List.not_mem_nil,or_false,Prod.mk.injEq] at hm;exact hm.2.2
 | false =>
 rw [h1] at h;simp only [H2] at h;simp at h
theorem fits:Fits Try.prog H where
 ty:=tyOK_of (l:=tyL) (fun _=>rfl) (by kernel_rfl)
 eq:=eqOK_of (l:=eqL) (fun _=>rfl) (by kernel_rfl)
 mixed:=Try.checked.mixed
 names:=names_of (by kernel_rfl)
 ext:=ext_ok
end Go.Q.S
end
