/- The functions of this seat, as that machine runs them, part 1. -/
import Derived.Test.YtebncngjklhbfaaGreatQC
import Derived.Test.YtebncngjklhbfaaGreatfqX2
import Derived.Test.YtebncngjklhbfaaGreatMA
set_option linter.unusedVariables false
set_option linter.unusedSimpArgs false
open Bool renaming and_eq_true->B7,not_true->D8,true_and->G5,not_false->K2,and_true->N5,false_eq_true->Q2
open Int renaming toNat_natCast->B9,ofNat_lt->C0,natCast_zero->C7,toNat->N9
open List renaming length_map->B6,drop_eq_getElem_cons->B8,map_cons->C2,getElem_mem->C4,length_cons->C5,drop_length->C8,length_nil->C9,mem_append->D0,getElem?_eq_some_iff->D1,map_nil->D2,drop_zero->D3,mem_cons->D5,map_append->D6,getD_cons_zero->D9,all_eq_true->E0,append_assoc->E1,length_append->E2,getD_cons_succ->E5,nil_append->E8,getElem?_eq_getElem->F1,length_eq_zero_iff->F2,mem_singleton->F6,append_nil->J1,cons_append->J2,sum_cons->J4,all_cons->J9,flatMap_cons->N0,all_nil->N8,getD->O1,filter_cons->O5,drop_eq_nil_of_le->O8,drop_succ_cons->O9,find?_cons->P1,cons->P4,getElem_map->Q0,not_mem_nil->R0,getElem_cons_zero->R5,range'->R7,find?_nil->R8,pairwise_iff_getElem->S0,take_zero->S5
open Nat renaming lt_irrefl->D4,zero_add->D7,beq->E3,beq_refl->E6,le_refl->F8,ble->F9,le_trans->G6,ble_eq_true_of_le->J3,zero_le->K3,add_zero->K7
open Option renaming bind_some->B5,some->C6,map_some->K4,isSome_some->S3
section
namespace Go.Q.S
open Go Go.Q Go.Proofs
end Go.Q.S
end
section
namespace Go.Q.S
open Go Go.Q Go.Proofs
theorem rCloneS (xs:Rows) (h:xs.length<=274877906944):rn ⟨191,0,0⟩ [.sl xs]=some (0,[.sl xs]):=by
 rw [e191_0_0];have hb:F9 (([]:Rows).length+xs.length) M63=true:=J3 (by unfold M63; simpa using h)
 rw [hb];cases xs with
 | nil=>simp [both]
 | cons x xs=>rfl
theorem rCloneI (xs:Rows) (h:xs.length<=274877906944):rn ⟨84,0,0⟩ [.sl xs]=some (0,[.sl xs]):=by
 rw [e84_0_0];have hb:F9 (([]:Rows).length+xs.length) M63=true:=J3 (by unfold M63; simpa using h)
 rw [hb];cases xs with
 | nil=>simp [both]
 | cons x xs=>rfl
theorem rSort (ls:List D):rn ⟨206,0,0⟩ ls=sortG 0 ls:=by rw [rn_eq]; rfl
theorem rComp (ls:List D):rn ⟨207,0,0⟩ ls=compG 0 ls:=by rw [rn_eq]; rfl
theorem r171 (l:List ByteArray) (h:l.length<=274877906944):rn ⟨171,0,0⟩ [.sl (l.map sRow)]=some (0,[.sl ((srtN l).map sRow)]):=by
 rw [e171_0_0,rCloneS _ (by simpa using h)]
 simp only [nth0,nth1,nth2,nth3,nth4,nth5,nth6,nth7,nth8,nth9,nth10,nth11,nth12,nth13,nth14,nth15,nth16,nth17,nth18,nth19,nth20,nth21,nth22,nth23,nth24,nth25,dI,dB,dS,dL,B5];rw [rSort,sortG_eq 0 l (by omega)]
 simp only [nth0,nth1,nth2,nth3,nth4,nth5,nth6,nth7,nth8,nth9,nth10,nth11,nth12,nth13,nth14,nth15,nth16,nth17,nth18,nth19,nth20,nth21,nth22,nth23,nth24,nth25,dI,dB,dS,dL,B5];rw [rComp,compG_eq 0 _ (by simp; omega),compact_sort]
 simp only [nth0,nth1,nth2,nth3,nth4,nth5,nth6,nth7,nth8,nth9,nth10,nth11,nth12,nth13,nth14,nth15,nth16,nth17,nth18,nth19,nth20,nth21,nth22,nth23,nth24,nth25,dI,dB,dS,dL,B5];rw [rowS_map]; rfl
theorem r182 (l:List ByteArray) (h:l.length<=1073741824):rn ⟨182,0,0⟩ [.sl (l.map sRow)]=some (0,[.sl ((srtN l).map sRow)]):=by
 rw [e182_0_0,sRow_map];unfold srtN;generalize hks:l.map toK=ks;have hk:ks.length<=1073741824:=by rw [<- hks]; simpa using h
 have hin:∀ (i:Nat) (hi:i<ks.length) (acc:List Ky),acc.length<=1073741824->∀ n a,a+n=acc.length->rn ⟨182,0,3⟩ [.sl (ks.map rowS),.int (i:Int),.int (a:Int),.sl (acc.map rowS)] =
  some (0,[.sl (ks.map rowS),.int (i:Int),.int ((a+ldK ks[i] (acc.drop a):Nat):Int),.sl (acc.map rowS)]):=by
  intro i hi acc hacc n;induction n with
  | zero =>
   intro a ha;have:a=acc.length:=by omega
   subst this;rw [e182_0_3];simp [ldK]
  | succ n ih =>
   intro a ha;have hlt:a<acc.length:=by omega
   rw [e182_0_3,ldK_drop _ _ _ hlt];simp only [B9,rowAt_map hi,rowAt_map hlt,B6,inbN,hi,hlt,C0,H3,H1,nth0,nth1,nth2,nth3,nth4,nth5,nth6,nth7,nth8,nth9,nth10,nth11,nth12,nth13,nth14,nth15,nth16,nth17,nth18,nth19,nth20,nth21,nth22,nth23,nth24,nth25,dI,dB,dS,dL,B5,rowS_sRow,sRow,ltB_ofK,wrap_succ hlt (by unfold maxLen; omega)]
   by_cases hx:acc[a]<ks[i]
   · rw [H5 hx,H7 hx,H1,ih (a+1) (by omega)]
     have e:a+1+ldK ks[i] (acc.drop (a+1))=a+(ldK ks[i] (acc.drop (a+1))+1):=by omega
     rw [e]
   · rw [H6 hx,H8 hx,H2]; rfl
 have hout:∀ n (i:Nat) (acc:List Ky),i+n=ks.length->acc.length<=i->rn ⟨182,0,1⟩ [.sl (ks.map rowS),.int (i:Int),.sl (acc.map rowS)]=some (0,[.sl ((srtK (ks.drop i) acc).map rowS)]):=by
  intro n;induction n with
  | zero =>
   intro i acc hi ha;have:i=ks.length:=by omega
   subst this;rw [e182_0_1];simp [srtK]
  | succ n ih =>
   intro i acc hi ha;have hlt:i<ks.length:=by omega
   have hI:=hin i hlt acc (by omega) acc.length 0 (by omega)
   rw [D3,D7] at hI;rw [e182_0_1];have hc:ldK ks[i] acc<=acc.length:=ldK_le _ _;have hz:((0:Nat):Int)=0:=rfl;rw [hz] at hI;rw [hI,B8 hlt];have hins:=insK_ld ks[i] acc;have hil:(insK ks[i] acc).length<=i+1:=by
    rw [hins]; split
    · omega
    · simp; omega
   have ih':=ih (i+1) (insK ks[i] acc) (by omega) hil
   simp only [B6,C0,hlt,H3,H1,nth0,nth1,nth2,nth3,nth4,nth5,nth6,nth7,nth8,nth9,nth10,nth11,nth12,nth13,nth14,nth15,nth16,nth17,nth18,nth19,nth20,nth21,nth22,nth23,nth24,nth25,dI,dB,dS,dL,B5,E6,B9,wrap_succ hlt (by unfold maxLen; omega),srtK] at ih' ⊢
   rw [<- ih'];generalize hcc:ldK ks[i] acc=c at hc hins ⊢;have h0:(0:Int)<=(c:Int):=by omega
   have h3:(c:Int)<=(acc.length:Int):=by omega
   have hb2:F9 (([]:Rows).length+(List.drop (N9 0) (List.take c (acc.map rowS))).length) M63=true:=J3 (by unfold M63; simp; omega)
   have hb3:∀ z:Rows,z.length=1->F9 (([]++List.drop (N9 0) (List.take c (acc.map rowS)):Rows).length+z.length) M63=true:=fun z hz=>J3 (by unfold M63; simp [hz]; omega)
   have hb4:∀ z:Rows,z.length=1->F9 ((([]++List.drop (N9 0) (List.take c (acc.map rowS)):Rows)++z).length+(List.drop c (List.take acc.length (acc.map rowS))).length) M63=true:=fun z hz=>J3 (by unfold M63; simp [hz]; omega)
   have hfin:([]++List.drop (N9 0) (List.take c (acc.map rowS)):Rows)++[rowS ks[i]]++List.drop c (List.take acc.length (acc.map rowS))=(List.take c acc++[ks[i]]++List.drop c acc).map rowS:=by
    simp [List.map_take,List.map_drop,List.take_of_length_le]
   simp only [rowAt_map hlt,inbN,hlt,H3,H1];by_cases h1:c<acc.length
   · simp only [H7 h1,H1,rowAt_map h1,nth0,nth1,nth2,nth3,nth4,nth5,nth6,nth7,nth8,nth9,nth10,nth11,nth12,nth13,nth14,nth15,nth16,nth17,nth18,nth19,nth20,nth21,nth22,nth23,nth24,nth25,dI,dB,dS,dL,B5,rowS_sRow,sRow,ofK_inj]
     rw [F1 h1] at hins;by_cases h2:acc[c]=ks[i]
     · rw [H7 h2,H1,hins,H5 (by rw [h2])]
     · rw [H8 h2,H2,hins,H6 (by simpa using h2)]
       simp only [h0,h3,Int.le_refl,H3,Bool.and_self,H1];rw [hb2,hb3 _ rfl,hb4 _ rfl];simp only [H1];rw [<- hfin]; rfl
   · simp only [H8 h1,H2]
     rw [List.getElem?_eq_none (by omega)] at hins
     rw [hins,H6 (by simp)]
     simp only [h0,h3,Int.le_refl,H3,Bool.and_self,H1];rw [hb2];simp only [H1,rowAt_map hlt,nth0,nth1,nth2,nth3,nth4,nth5,nth6,nth7,nth8,nth9,nth10,nth11,nth12,nth13,nth14,nth15,nth16,nth17,nth18,nth19,nth20,nth21,nth22,nth23,nth24,nth25,dI,dB,dS,dL,B5,rowS_sRow,sRow];rw [hb3 _ rfl,hb4 _ rfl];simp only [H1];rw [<- hfin]; rfl
 have:=hout ks.length 0 [] (by omega) (K3 _)
 simp only [C7,D2,D3] at this;rw [this];simp only [nth0,nth1,nth2,nth3,nth4,nth5,nth6,nth7,nth8,nth9,nth10,nth11,nth12,nth13,nth14,nth15,nth16,nth17,nth18,nth19,nth20,nth21,nth22,nth23,nth24,nth25,dI,dB,dS,dL,B5,E6,H1];rw [rowS_map]
end Go.Q.S
end
section
namespace Go.Q.S
open Go Go.Q Go.Proofs
theorem r49:∀ t:Tm,Small t->rn ⟨49,0,0⟩ [.int t.k,.int t.n,.str t.s,.sl (t.as.map Tm.row)]=some (0,[.int t.k,.int t.n,.str t.s,.sl (t.as.map Tm.row)]):=Tm.ind fun t ih h=>by
 have hl:=h.len;show rn _ _=_
 rw [e49_0_0];have hf:=map_loop (F:=fun i acc=>rn ⟨49,0,1⟩ [.sl (t.as.map Tm.row),.int ((t.as.map Tm.row)).length,.int (i:Int),.int 0,.int 0,.str (⟨#[]⟩:ByteArray),.int t.k,.int t.n,.str t.s,.sl [],.sl acc]) (xs:=t.as) Tm.row (K:=fun acc=>some (0,[.int (0),.int (0),.str ((⟨#[]⟩:ByteArray)),.int (t.k),.int (t.n),.str (t.s),.sl ([]),.sl (acc)])) (fun i hi acc ha=>?_) (fun acc=>?_)
 · simp only [C7] at hf; rw [hf]; rfl
 · have hc:=ih _ (C4 hi) (h.sub (C4 hi))
   rw [e49_0_1];simp only [B9,rowAt_map hi,Tm.row_eq,B6,inbN,hi,C0,H3,H1,nth,D9,E5,D.I,D.S,D.L,D.B,wrap_succ hi (by unfold maxLen; omega),hc,B5,C5,C9]
   rw [show F9 (acc.length+(0+1)) M63=true from J3 (by unfold M63; omega)]
   rfl
 · skip
   rw [e49_0_1];simp
theorem r60:∀ t:Tm,Small t->rn ⟨60,0,0⟩ [.int t.k,.int t.n,.str t.s,.sl (t.as.map Tm.row)]=some (0,[.int t.k,.int t.n,.str t.s,.sl (t.as.map Tm.row)]):=Tm.ind fun t ih h=>by
 have hl:=h.len;show rn _ _=_
 rw [e60_0_0];have hf:=map_loop (F:=fun i acc=>rn ⟨60,0,1⟩ [.int (i:Int),.int t.k,.int t.n,.str t.s,.sl (t.as.map Tm.row),.int 0,.int 0,.str (⟨#[]⟩:ByteArray),.sl acc,.sl []]) (xs:=t.as) Tm.row (K:=fun acc=>some (0,[.int (t.k),.int (t.n),.str (t.s),.sl ((t.as.map Tm.row)),.int (0),.int (0),.str ((⟨#[]⟩:ByteArray)),.sl (acc),.sl ([])])) (fun i hi acc ha=>?_) (fun acc=>?_)
 · simp only [C7] at hf; rw [hf]; rfl
 · have hc:=ih _ (C4 hi) (h.sub (C4 hi))
   rw [e60_0_1];simp only [B9,rowAt_map hi,Tm.row_eq,B6,inbN,hi,C0,H3,H1,nth,D9,E5,D.I,D.S,D.L,D.B,wrap_succ hi (by unfold maxLen; omega),hc,B5,C5,C9]
   rw [show F9 (acc.length+(0+1)) M63=true from J3 (by unfold M63; omega)]
   rfl
 · skip
   rw [e60_0_1];simp
theorem r176 (t:Tm):rn ⟨176,0,0⟩ [.int t.k,.int t.n,.str t.s,.sl (t.as.map Tm.row)]=some (0,[.bool (isW t)]):=by
 show rn _ _=_
 rw [e176_0_0];simp only [B6];unfold isW;have e:decide ((t.as.length:Int)=0)=decide (t.as.length=0):=by simp
 rw [e];cases decide (t.k=3) <;> cases decide (0<=t.n) <;> cases decide (t.n<4) <;> cases decide (t.s=⟨#[]⟩) <;> cases decide (t.as.length=0) <;> rfl
theorem r74 (a b c:Int):rn ⟨74,0,0⟩ [.int a,.int b,.int c]=some (0,[.bool (decide (b<=a)&&decide (a<=c))]):=by
 show rn _ _=_
 rw [e74_0_0];cases decide (b<=a) <;> rfl
theorem r164 (t:Tm):rn ⟨164,0,0⟩ [.int t.k,.int t.n,.str t.s,.sl (t.as.map Tm.row)]=some (0,[.bool (isW t)]):=by
 show rn _ _=_
 rw [e164_0_0];have hc:=r74 t.n 0 3;simp only [hc,B5,nth,D9,E5,D.I,D.S,D.L,D.B,B6];unfold isW;have e:decide ((t.as.length:Int)=0)=decide (t.as.length=0):=by simp
 have e2:decide (t.n<=3)=decide (t.n<4):=decide_eq_decide.2 (by omega)
 rw [e,e2];cases decide (t.k=3) <;> cases decide (0<=t.n) <;> cases decide (t.n<4) <;> cases decide (t.s=⟨#[]⟩) <;> cases decide (t.as.length=0) <;> rfl
theorem r141 (s:ByteArray):rn ⟨141,0,0⟩ [.str s]=some (0,[.bool (isB s)]):=by
 show rn _ _=_
 rw [e141_0_0];unfold isB plusS minusS timesS;cases decide (s=(⟨#[112,108,117,115]⟩:ByteArray)) <;> cases decide (s=(⟨#[109,105,110,117,115]⟩:ByteArray)) <;> cases decide (s=(⟨#[116,105,109,101,115]⟩:ByteArray)) <;> rfl
theorem r163 (s:ByteArray):rn ⟨163,0,0⟩ [.str s]=some (0,[.bool (isB s)]):=by
 show rn _ _=_
 rw [e163_0_0];unfold isB plusS minusS timesS;cases decide (s=(⟨#[112,108,117,115]⟩:ByteArray)) <;> cases decide (s=(⟨#[109,105,110,117,115]⟩:ByteArray)) <;> cases decide (s=(⟨#[116,105,109,101,115]⟩:ByteArray)) <;> rfl
theorem r177 (s:ByteArray) {a b:Int} (ha:0<=a) (ha':a<4) (hb:0<=b) (hb':b<4):rn ⟨177,0,0⟩ [.str s,.int a,.int b]=some (0,[.int (cmp s a b)]):=by
 show rn _ _=_
 rw [e177_0_0];unfold cmp plusS minusS;have h4:(!decide ((4:Int)=0))=true:=rfl;simp only [h4,H1];obtain rfl | rfl | rfl | rfl:a=0\/a=1\/a=2\/a=3:=by omega
 all_goals
  obtain rfl | rfl | rfl | rfl:b=0\/b=1\/b=2\/b=3:=by omega
  all_goals
   by_cases h1:s=(⟨#[112,108,117,115]⟩:ByteArray)
   · simp only [h1,H3,H1,if_true]; rfl
   · by_cases h2:s=(⟨#[109,105,110,117,115]⟩:ByteArray)
     · simp only [h1,h2,H3,H4,H1,H2,if_true,if_false]; rfl
     · simp only [h1,h2,H4,H2,if_false]; rfl
theorem r165 (s:ByteArray) {a b:Int} (ha:0<=a) (ha':a<4) (hb:0<=b) (hb':b<4):rn ⟨165,0,0⟩ [.str s,.int a,.int b]=some (0,[.int (cmp s a b)]):=by
 show rn _ _=_
 rw [e165_0_0];unfold cmp plusS minusS;have h4:(!decide ((4:Int)=0))=true:=rfl;simp only [h4,H1];obtain rfl | rfl | rfl | rfl:a=0\/a=1\/a=2\/a=3:=by omega
 all_goals
  obtain rfl | rfl | rfl | rfl:b=0\/b=1\/b=2\/b=3:=by omega
  all_goals
   by_cases h1:s=(⟨#[112,108,117,115]⟩:ByteArray)
   · simp only [h1,H3,H1,if_true]; rfl
   · by_cases h2:s=(⟨#[109,105,110,117,115]⟩:ByteArray)
     · simp only [h1,h2,H3,H4,H1,H2,if_true,if_false]; rfl
     · simp only [h1,h2,H4,H2,if_false]; rfl
theorem r178 (l:List Bnd) (hl:l.length<=1048576) (s:ByteArray):rn ⟨178,0,0⟩ [.sl (l.map Bnd.row),.str s]=match bnd l s with
 | some t=>some (0,[.int t.k,.int t.n,.str t.s,.sl (t.as.map Tm.row),.bool true])
 | none=>some (0,[.int 0,.int 0,.str ⟨#[]⟩,.sl [],.bool false]):=by
 show rn _ _=_
 rw [e178_0_0];have hf:=find_loop (F:=fun i=>rn ⟨178,0,1⟩ [.str s,.sl (l.map Bnd.row),.int ((l.map Bnd.row)).length,.int (i:Int),.int 0,.int 0,.str (⟨#[]⟩:ByteArray),.sl []]) (xs:=l) (p:=fun b=>decide (b.1=s)) (A:=some (0,[.int (0),.int (0),.str ((⟨#[]⟩:ByteArray)),.sl ([])])) (B:=fun i b=>some (1,[.int b.2.k,.int b.2.n,.str b.2.s,.sl (b.2.as.map Tm.row)])) (fun i hi=>?_) ?_
 · simp only [C7] at hf
   rw [bnd_find];rcases hf with ⟨h1,h2⟩|⟨i,hi,h1,h2⟩
   · rw [h1,h2]; rfl
   · rw [h1,h2]; rfl
 · skip
   rw [e178_0_1];simp only [B9,rowAt_map hi,bd_row,B6,inbN,hi,C0,H3,H1,nth,D9,E5,D.I,D.S,D.L,D.B,wrap_succ hi (by unfold maxLen; omega)]
 · skip
   rw [e178_0_1];simp
theorem r205 (l:List Bnd) (hl:l.length<=1048576) (s:ByteArray):(bnd l s=none/\rn ⟨205,0,0⟩ [.sl (l.map Bnd.row),.str s]=some (0,[.int (-1)]))\/∃ i,∃ hi:i<l.length,bnd l s=some l[i].2/\rn ⟨205,0,0⟩ [.sl (l.map Bnd.row),.str s]=some (0,[.int (i:Int)]):=by
 have hf:=find_loop (F:=fun i=>rn ⟨205,0,1⟩ [.sl (l.map Bnd.row),.str s,.int (i:Int)]) (xs:=l) (p:=fun b=>decide (b.1=s)) (A:=some (0,[])) (B:=fun i b=>some (1,[.int (i:Int)])) (fun i hi=>?_) ?_
 · simp only [C7] at hf
   rw [bnd_find];rcases hf with ⟨h1,h2⟩|⟨i,hi,h1,h2⟩
   · left
     refine ⟨by rw [h1]; rfl,?_⟩
     show rn _ _=_
     rw [e205_0_0];rw [h2]; rfl
   · right
     refine ⟨i,hi,by rw [h1]; rfl,?_⟩
     show rn _ _=_
     rw [e205_0_0];rw [h2]; rfl
 · skip
   rw [e205_0_1];simp only [B9,rowAt_map hi,bd_row,B6,inbN,hi,C0,H3,H1,nth,D9,E5,D.I,D.S,D.L,D.B,wrap_succ hi (by unfold maxLen; omega)]
 · skip
   rw [e205_0_1];simp
theorem r166 (l:List Bnd) (hl:l.length<=1048576) (hs:∀ b∈l,Small b.2) (s:ByteArray):rn ⟨166,0,0⟩ [.sl (l.map Bnd.row),.str s]=match bnd l s with
 | some t=>some (0,[.int t.k,.int t.n,.str t.s,.bool true,.sl (t.as.map Tm.row)])
 | none=>some (0,[.int 0,.int 0,.str ⟨#[]⟩,.bool false,.sl []]):=by
 show rn _ _=_
 rw [e166_0_0];rcases r205 l hl s with ⟨h1,h2⟩|⟨i,hi,h1,h2⟩
 · skip
   rw [h1,h2]; rfl
 · skip
   have hc:=r60 l[i].2 (hs _ (C4 hi));rw [h1,h2];have hn:¬((i:Int)<0):=by omega
   simp only [B5,nth,D9,E5,D.I,D.S,D.L,D.B,B9,rowAt_map hi,bd_row,B6,inbN,hi,hn,H3,H4,H1,H2,hc]
theorem r121 (l:List Bnd) (hl:l.length<=1048576) (hs:∀ b∈l,Small b.2):∀ t:Tm,Small t->rn ⟨121,0,0⟩ [.sl (l.map Bnd.row),.int t.k,.int t.n,.str t.s,.sl (t.as.map Tm.row)]=some (0,[.int (aS l t).k,.int (aS l t).n,.str (aS l t).s,.sl ((aS l t).as.map Tm.row)]):=Tm.ind fun t ih h=>by
 have hlt:=h.len;show rn _ _=_
 rw [e121_0_0];have hf:=map_loop (F:=fun i acc=>rn ⟨121,0,1⟩ [.sl (l.map Bnd.row),.sl (t.as.map Tm.row),.int ((t.as.map Tm.row)).length,.int (i:Int),.int 0,.int 0,.str (⟨#[]⟩:ByteArray),.int t.k,.int t.n,.str t.s,.sl [],.sl acc]) (xs:=t.as) (fun x=>(aS l x).row) (K:=fun acc=>some (0,[.int (0),.int (0),.str ((⟨#[]⟩:ByteArray)),.int (t.k),.int (t.n),.str (t.s),.sl ([]),.sl (acc)])) (fun i hi acc ha=>?_) (fun acc=>?_)
 · simp only [C7] at hf
   have hb:=r178 l hl t.s;rw [aS_eq];by_cases hk:t.k=1
   · rw [H5 hk]
     cases hq:bnd l t.s with
     | none =>
      rw [hq] at hb;simp only at hb;simp only [H7 hk,H1,hb,B5,nth,D9,E5,D.I,D.S,D.L,D.B,H2,hf];simp [Tm.k,Tm.n,Tm.s,Tm.as,Function.comp_def]
     | some u =>
      rw [hq] at hb;simp only at hb;obtain ⟨b,hbm,rfl⟩:=bnd_mem hq;have hcp:=r49 b.2 (hs b hbm);simp only [H7 hk,H1,hb,B5,nth,D9,E5,D.I,D.S,D.L,D.B,hcp]
   · rw [H6 hk]
     simp only [H8 hk,H2,hf,B5,nth,D9,E5,D.I,D.S,D.L,D.B];simp [Tm.k,Tm.n,Tm.s,Tm.as,Function.comp_def]
 · have hc:=ih _ (C4 hi) (h.sub (C4 hi))
   rw [e121_0_1];simp only [B9,rowAt_map hi,Tm.row_eq,B6,inbN,hi,C0,H3,H1,nth,D9,E5,D.I,D.S,D.L,D.B,wrap_succ hi (by unfold maxLen; omega),hc,B5,C5,C9]
   rw [show F9 (acc.length+(0+1)) M63=true from J3 (by unfold M63; omega)]
   rfl
 · skip
   rw [e121_0_1];simp
theorem r107 (l:List Bnd) (hl:l.length<=1048576) (hs:∀ b∈l,Small b.2):∀ t:Tm,Small t->rn ⟨107,0,0⟩ [.sl (l.map Bnd.row),.int t.k,.int t.n,.str t.s,.sl (t.as.map Tm.row)]=some (0,[.int (aS l t).k,.int (aS l t).n,.str (aS l t).s,.sl ((aS l t).as.map Tm.row)]):=Tm.ind fun t ih h=>by
 have hlt:=h.len;show rn _ _=_
 rw [e107_0_0];have hf:=map_loop (F:=fun i acc=>rn ⟨107,0,1⟩ [.sl (l.map Bnd.row),.int (i:Int),.int t.k,.int t.n,.str t.s,.sl (t.as.map Tm.row),.int 0,.int 0,.str (⟨#[]⟩:ByteArray),.int t.k,.int t.n,.str t.s,.sl [],.sl acc]) (xs:=t.as) (fun x=>(aS l x).row) (K:=fun acc=>some (0,[.int (0),.int (0),.str ((⟨#[]⟩:ByteArray)),.int (t.k),.int (t.n),.str (t.s),.sl ([]),.sl (acc)])) (fun i hi acc ha=>?_) (fun acc=>?_)
 · simp only [C7] at hf
   have hb:=r166 l hl hs t.s;rw [aS_eq];by_cases hk:t.k=1
   · rw [H5 hk]
     cases hq:bnd l t.s with
     | none =>
      rw [hq] at hb;simp only at hb;simp only [H7 hk,H1,hb,B5,nth,D9,E5,D.I,D.S,D.L,D.B,H2,hf];simp [Tm.k,Tm.n,Tm.s,Tm.as,Function.comp_def]
     | some u =>
      rw [hq] at hb;simp only at hb;obtain ⟨b,hbm,rfl⟩:=bnd_mem hq;have hcp:=r49 b.2 (hs b hbm);simp only [H7 hk,H1,hb,B5,nth,D9,E5,D.I,D.S,D.L,D.B,hcp]
   · rw [H6 hk]
     simp only [H8 hk,H2,hf,B5,nth,D9,E5,D.I,D.S,D.L,D.B];simp [Tm.k,Tm.n,Tm.s,Tm.as,Function.comp_def]
 · have hc:=ih _ (C4 hi) (h.sub (C4 hi))
   rw [e107_0_1];simp only [B9,rowAt_map hi,Tm.row_eq,B6,inbN,hi,C0,H3,H1,nth,D9,E5,D.I,D.S,D.L,D.B,wrap_succ hi (by unfold maxLen; omega),hc,B5,C5,C9]
   rw [show F9 (acc.length+(0+1)) M63=true from J3 (by unfold M63; omega)]
   rfl
 · skip
   rw [e107_0_1];simp
theorem r120:∀ t:Tm,Small t->rn ⟨120,0,0⟩ [.int t.k,.int t.n,.str t.s,.sl (t.as.map Tm.row)]=some (0,[.int (rW t).k,.int (rW t).n,.str (rW t).s,.sl ((rW t).as.map Tm.row)]):=Tm.ind fun t ih h=>by
 have hlt:=h.len;show rn _ _=_
 rw [e120_0_0];have hf:=map_loop (F:=fun i acc=>rn ⟨120,0,1⟩ [.sl (t.as.map Tm.row),.int ((t.as.map Tm.row)).length,.int (i:Int),.int 0,.int 0,.str (⟨#[]⟩:ByteArray),.int t.k,.int t.n,.str t.s,.sl [],.sl acc]) (xs:=t.as) (fun x=>(rW x).row) (K:=fun acc=>some (0,[.int (0),.int (0),.str ((⟨#[]⟩:ByteArray)),.int (t.k),.int (t.n),.str (t.s),.sl ([]),.sl (acc)])) (fun i hi acc ha=>?_) (fun acc=>?_)
 · simp only [C7] at hf
   have e:t.as.map (fun x=>(rW x).row)=(t.as.map rW).map Tm.row:=by simp [Function.comp_def]
   rw [e] at hf;rw [rW_eq];generalize t.as.map rW=us at hf ⊢;have hB:=r141 t.s;rw [hf];simp only [B5,E6,H1,nth,D9,E5,D.I,D.S,D.L,D.B,hB,B6];by_cases h1:t.k=2
   case neg =>
    simp only [H8 h1,H2];unfold rW1;split
    · rw [H6 (fun h=>h1 h.1)]; rfl
    · rfl
   by_cases h2:t.n=0
   case neg =>
    simp only [H7 h1,H8 h2,H1,H2];unfold rW1;split
    · rw [H6 (fun h=>h2 h.2.1)]; rfl
    · rfl
   simp only [H7 h1,H7 h2,H1];cases h3:isB t.s with
   | false =>
    simp only [H2];unfold rW1;split
    · rw [H6 (fun h=>by rw [h3] at h; exact absurd h.2.2.1 (by decide))]; rfl
    · rfl
   | true =>
    simp only [H1]
    match us with
    | []=>rfl
    | [x]=>rfl
    | x::y::z::zs =>
     have:¬(((x::y::z::zs).length:Int)=2):=by simp only [C5]; omega
     simp only [H8 this,H2];rfl
    | [x,y] =>
     have hx:=r176 x;have hy:=r176 y;have l2:decide ((([x,y]:List Tm).length:Int)=2)=true:=rfl;have i0:inb 0 ([x,y]:List Tm).length=true:=rfl;have i1:inb 1 ([x,y]:List Tm).length=true:=rfl;have r0:rowAt (([x,y]:List Tm).map Tm.row) (N9 0)=x.row:=rfl;have r1:rowAt (([x,y]:List Tm).map Tm.row) (N9 1)=y.row:=rfl;simp only [l2,i0,i1,r0,r1,H1,Tm.row_eq,nth,D9,E5,D.I,D.S,D.L,D.B,hx,hy,B5];unfold rW1;simp only;cases h4:isW x with
     | false=>simp only [H2]; rw [H6 (fun h=>by simp at h)]; rfl
     | true =>
      cases h5:isW y with
      | false=>simp only [H1,H2]; rw [H6 (fun h=>by simp at h)]; rfl
      | true =>
       have b1:=h4;have b2:=h5;simp only [isW,B7,decide_eq_true_eq] at b1 b2;have hcm:=r177 t.s b1.2.1 b1.2.2.1 b2.2.1 b2.2.2.1;simp only [H1,hcm,B5,nth,D9,E5,D.I,D.S,D.L,D.B];rw [H5 ⟨h1,h2,h3,trivial,trivial⟩];rfl
 · have hc:=ih _ (C4 hi) (h.sub (C4 hi))
   rw [e120_0_1];simp only [B9,rowAt_map hi,Tm.row_eq,B6,inbN,hi,C0,H3,H1,nth,D9,E5,D.I,D.S,D.L,D.B,wrap_succ hi (by unfold maxLen; omega),hc,B5,C5,C9]
   rw [show F9 (acc.length+(0+1)) M63=true from J3 (by unfold M63; omega)]
   rfl
 · skip
   rw [e120_0_1];simp
theorem r81 (n:Int):rn ⟨81,0,0⟩ [.int n]=some (0,[.int 3,.int n,.str ⟨#[]⟩,.sl []]):=by
 show rn _ _=_
 rw [e81_0_0]
theorem r106:∀ t:Tm,Small t->rn ⟨106,0,0⟩ [.int t.k,.int t.n,.str t.s,.sl (t.as.map Tm.row)]=some (0,[.int (rW t).k,.int (rW t).n,.str (rW t).s,.sl ((rW t).as.map Tm.row)]):=Tm.ind fun t ih h=>by
 have hlt:=h.len;show rn _ _=_
 rw [e106_0_0];have hf:=map_loop (F:=fun i acc=>rn ⟨106,0,1⟩ [.int (i:Int),.int t.k,.int t.n,.str t.s,.sl (t.as.map Tm.row),.int 0,.int 0,.str (⟨#[]⟩:ByteArray),.int t.k,.int t.n,.str t.s,.sl [],.sl acc]) (xs:=t.as) (fun x=>(rW x).row) (K:=fun acc=>some (0,[.int (t.k),.int (t.n),.str (t.s),.sl ((t.as.map Tm.row)),.int (0),.int (0),.str ((⟨#[]⟩:ByteArray)),.int (t.k),.int (t.n),.str (t.s),.sl ([]),.sl (acc)])) (fun i hi acc ha=>?_) (fun acc=>?_)
 · simp only [C7] at hf
   have e:t.as.map (fun x=>(rW x).row)=(t.as.map rW).map Tm.row:=by simp [Function.comp_def]
   rw [e] at hf;rw [rW_eq];generalize t.as.map rW=us at hf ⊢;have hB:=r163 t.s;rw [hf];simp only [B5,E6,H1,nth,D9,E5,D.I,D.S,D.L,D.B,hB,B6];by_cases h1:t.k=2
   case neg =>
    simp only [H8 h1,H2];unfold rW1;split
    · rw [H6 (fun h=>h1 h.1)]; rfl
    · rfl
   by_cases h2:t.n=0
   case neg =>
    simp only [H7 h1,H8 h2,H1,H2];unfold rW1;split
    · rw [H6 (fun h=>h2 h.2.1)]; rfl
    · rfl
   simp only [H7 h1,H7 h2,H1];cases h3:isB t.s with
   | false =>
    simp only [H2];unfold rW1;split
    · rw [H6 (fun h=>by rw [h3] at h; exact absurd h.2.2.1 (by decide))]; rfl
    · rfl
   | true =>
    simp only [H1]
    match us with
    | []=>rfl
    | [x]=>rfl
    | x::y::z::zs =>
     have:¬(((x::y::z::zs).length:Int)=2):=by simp only [C5]; omega
     simp only [H8 this,H2];rfl
    | [x,y] =>
     have hx:=r164 x;have hy:=r164 y;have l2:decide ((([x,y]:List Tm).length:Int)=2)=true:=rfl;have i0:inb 0 ([x,y]:List Tm).length=true:=rfl;have i1:inb 1 ([x,y]:List Tm).length=true:=rfl;have r0:rowAt (([x,y]:List Tm).map Tm.row) (N9 0)=x.row:=rfl;have r1:rowAt (([x,y]:List Tm).map Tm.row) (N9 1)=y.row:=rfl;simp only [l2,i0,i1,r0,r1,H1,Tm.row_eq,nth,D9,E5,D.I,D.S,D.L,D.B,hx,hy,B5];unfold rW1;simp only;cases h4:isW x with
     | false=>simp only [H2]; rw [H6 (fun h=>by simp at h)]; rfl
     | true =>
      cases h5:isW y with
      | false=>simp only [H1,H2]; rw [H6 (fun h=>by simp at h)]; rfl
      | true =>
       have b1:=h4;have b2:=h5;simp only [isW,B7,decide_eq_true_eq] at b1 b2;have hcm:=r165 t.s b1.2.1 b1.2.2.1 b2.2.1 b2.2.2.1;have hwd:=r81 (cmp t.s x.n y.n);simp only [H1,hcm,B5,nth,D9,E5,D.I,D.S,D.L,D.B,hwd];rw [H5 ⟨h1,h2,h3,trivial,trivial⟩];rfl
 · have hc:=ih _ (C4 hi) (h.sub (C4 hi))
   rw [e106_0_1];simp only [B9,rowAt_map hi,Tm.row_eq,B6,inbN,hi,C0,H3,H1,nth,D9,E5,D.I,D.S,D.L,D.B,wrap_succ hi (by unfold maxLen; omega),hc,B5,C5,C9]
   rw [show F9 (acc.length+(0+1)) M63=true from J3 (by unfold M63; omega)]
   rfl
 · skip
   rw [e106_0_1];simp
theorem r174:∀ t:Tm,t.nodes<=1048577->rn ⟨174,0,0⟩ [.int t.k,.int t.n,.str t.s,.sl (t.as.map Tm.row)]=some (0,[.sl (t.names.map sRow)]):=Tm.ind fun t ih h=>by
 have hnd:=Tm.nodes_eq t;have hsm:=names_sum t;have hlt:=len_sum (xs:=t.as);show rn _ _=_
 rw [e174_0_0];have hf:=fun a0:Rows=>fun ha0:a0.length<=1=>cat_loop (F:=fun i acc=>rn ⟨174,0,1⟩ [.sl (t.as.map Tm.row),.int (t.as.map Tm.row).length,.int (i:Int),.sl acc]) (xs:=t.as) (fun a=>a.names.map sRow) a0 (K:=fun acc=>some (0,[.sl acc])) (fun i hi acc ha=>by
  have hc:=ih _ (C4 hi) (by have:=mem_sum (f:=Tm.nodes) (C4 hi); omega)
  rw [e174_0_1];simp only [B9,rowAt_map hi,Tm.row_eq,B6,inbN,hi,C0,H3,H1,nth,D9,E5,D.I,D.S,D.L,D.B,wrap_succ hi (by unfold maxLen; omega),B5,hc]
  rw [E2,B6] at ha;rw [show F9 (acc.length+t.as[i].names.length) M63=true from J3 (by unfold M63; omega)]
  rfl) (fun acc=>by
  rw [e174_0_1];simp)
 simp only [C7] at hf;rw [names_rows];by_cases hk:t.k=1
 · rw [H5 hk,H7 hk]
   have h1:=hf [sRow t.s] (by simp)
   simp only [sRow] at h1;simp only [H1,sRow];rw [h1]; rfl
 · rw [H6 hk,H8 hk]
   have h1:=hf [] (by simp)
   simp only [H2];rw [h1]; rfl
theorem r143 (t:Tm) (h:t.nodes<=1048577):rn ⟨143,0,0⟩ [.int t.k,.int t.n,.str t.s,.sl (t.as.map Tm.row)]=some (0,[.bool (isG t)]):=by
 show rn _ _=_
 rw [e143_0_0];have hc:=r174 t h;simp only [hc,B5,nth,D9,E5,D.I,D.S,D.L,D.B,B6];rfl
theorem r157:∀ t:Tm,∀ a0:Rows,t.nodes<=1048577->a0.length+t.names.length<=1073741824->rn ⟨157,1,0⟩ [.int t.k,.int t.n,.str t.s,.sl (t.as.map Tm.row),.sl a0]=some (0,[.sl (a0++t.names.map sRow)]):=Tm.ind fun t ih a0 h h'=>by
 have hnd:=Tm.nodes_eq t;have hsm:=names_sum t;have hlt:=len_sum (xs:=t.as);show rn _ _=_
 rw [e157_1_0];have hf:=fun a1:Rows=>fun ha1:a1.length+(t.as.flatMap fun a=>a.names.map sRow).length<=1073741824=>cat_loop (F:=fun i acc=>rn ⟨157,1,1⟩ [.int (i:Int),.sl acc,.int t.k,.int t.n,.str t.s,.sl (t.as.map Tm.row)]) (xs:=t.as) (fun a=>a.names.map sRow) a1 (K:=fun acc=>some (0,[.sl acc])) (fun i hi acc ha=>by
  rw [E2] at ha;have hx:t.as[i].nodes<=(t.as.map Tm.nodes).sum:=mem_sum (f:=Tm.nodes) (C4 hi);have hc:=ih _ (C4 hi) acc (by omega) (by rw [B6] at ha; omega)
  rw [e157_1_1];simp only [B9,rowAt_map hi,Tm.row_eq,B6,inbN,hi,C0,H3,H1,nth,D9,E5,D.I,D.S,D.L,D.B,wrap_succ hi (by unfold maxLen; omega),B5,hc]) (fun acc=>by
  rw [e157_1_1];simp)
 simp only [C7] at hf;have hle:t.names.length=(if t.k=1 then [sRow t.s] else []).length+(t.as.flatMap fun a=>a.names.map sRow).length:=by
  rw [<- E2,<- names_rows,B6]
 rw [names_rows];by_cases hk:t.k=1
 · rw [H5 hk] at hle
   rw [H5 hk,H7 hk];have h1:=hf (a0++[sRow t.s]) (by rw [E2]; omega)
   simp only [sRow] at h1;simp only [H1,sRow,C5,C9];rw [show F9 (a0.length+(0+1)) M63=true from J3 (by unfold M63; omega)]
   simp only [H1];rw [h1,E1]; rfl
 · rw [H6 hk] at hle
   rw [H6 hk,H8 hk];have h1:=hf a0 (by rw [C9] at hle; omega)
   simp only [H2];rw [h1]; rfl
theorem r99 (t:Tm) (h:t.nodes<=1048577):rn ⟨99,0,0⟩ [.int t.k,.int t.n,.str t.s,.sl (t.as.map Tm.row)]=some (0,[.bool (isG t)]):=by
 show rn _ _=_
 rw [e99_0_0];have hc:=r157 t [] h (by have:=names_nodes t; simp; omega)
 simp only [hc,B5,nth,D9,E5,D.I,D.S,D.L,D.B,E8,B6];rfl
theorem r12:∀ t:Tm,∀ u:Tm,Small t->rn ⟨12,0,0⟩ [.int t.k,.int t.n,.str t.s,.sl (t.as.map Tm.row),.int u.k,.int u.n,.str u.s,.sl (u.as.map Tm.row)]=some (0,[.bool (eqb t.row u.row)]):=Tm.ind fun t ih u h=>by
 have hlt:=h.len;show rn _ _=_
 rw [e12_0_0];have hq:eqb t.row u.row=(decide (t.k=u.k)&&(decide (t.n=u.n)&&(decide (t.s=u.s)&&eqb (t.as.map Tm.row) (u.as.map Tm.row)))):=by
  rw [Tm.row_eq t,Tm.row_eq u];simp only [eqb_cons,eqb_nil,eqb_int,eqb_str,eqb_sl,N5]
 rw [hq];try simp only [B6]
 by_cases l0:u.as.length≠t.as.length
 · rw [H8 (by omega:¬(t.as.length:Int)=(u.as.length:Int)),eqb_len (fun h=>l0 (by simpa using h.symm))]
   cases decide (t.k=u.k) <;> cases decide (t.n=u.n) <;> cases decide (t.s=u.s) <;> rfl
 have l0:=Classical.not_not.1 l0;rw [H7 (by omega:(t.as.length:Int)=(u.as.length:Int))]
 have hf:=eq_loop (F:=fun i=>rn ⟨12,0,1⟩ [.int (i:Int),.int t.k,.int t.n,.str t.s,.sl (t.as.map Tm.row),.int u.k,.int u.n,.str u.s,.sl (u.as.map Tm.row)]) (xs:=t.as.map Tm.row) (ys:=u.as.map Tm.row) (A:=some (0,[])) (B:=some (1,[])) (by simpa using l0) (fun i hi=>?_) ?_
 · simp only [C7] at hf
   rw [hf];cases decide (t.k=u.k) <;> cases decide (t.n=u.n) <;> cases decide (t.s=u.s) <;> cases eqb (t.as.map Tm.row) (u.as.map Tm.row) <;> rfl
 · have hi:i<t.as.length:=by simpa using hi
   have hi2:i<u.as.length:=by omega
   have hc:=ih _ (C4 hi) u.as[i] (h.sub (C4 hi));rw [e12_0_1];rw [Q0,Q0];generalize eqb t.as[i].row u.as[i].row=z at hc ⊢;simp only [B9,rowAt_map hi,rowAt_map hi2,Tm.row_eq,B6,inbN,hi,hi2,C0,H3,H1,nth,D9,E5,D.I,D.S,D.L,D.B,wrap_succ hi (by unfold maxLen; omega),B5,hc]
   cases z <;> rfl
 · skip
   rw [e12_0_1];simp
theorem r56:∀ t:Tm,∀ u:Tm,Small t->rn ⟨56,0,0⟩ [.int t.k,.int t.n,.str t.s,.sl (t.as.map Tm.row),.int u.k,.int u.n,.str u.s,.sl (u.as.map Tm.row)]=some (0,[.bool (eqb t.row u.row)]):=Tm.ind fun t ih u h=>by
 have hlt:=h.len;show rn _ _=_
 rw [e56_0_0];have hq:eqb t.row u.row=(decide (t.k=u.k)&&(decide (t.n=u.n)&&(decide (t.s=u.s)&&eqb (t.as.map Tm.row) (u.as.map Tm.row)))):=by
  rw [Tm.row_eq t,Tm.row_eq u];simp only [eqb_cons,eqb_nil,eqb_int,eqb_str,eqb_sl,N5]
 rw [hq];try simp only [B6]
 have hl:rn ⟨95,0,0⟩ [.sl (t.as.map Tm.row),.sl (u.as.map Tm.row)]=some (0,[.bool (eqb (t.as.map Tm.row) (u.as.map Tm.row))]):=by
  rw [e95_0_0];simp only [B6];by_cases l0:u.as.length≠t.as.length
  · rw [H8 (by omega:¬(t.as.length:Int)=(u.as.length:Int)),eqb_len (fun h=>l0 (by simpa using h.symm))]; rfl
  have l0:=Classical.not_not.1 l0;rw [H7 (by omega:(t.as.length:Int)=(u.as.length:Int))]
  have hf:=eq_loop (F:=fun i=>rn ⟨95,0,1⟩ [.sl (u.as.map Tm.row),.sl (t.as.map Tm.row),.int ((t.as.map Tm.row)).length,.int (i:Int)]) (xs:=t.as.map Tm.row) (ys:=u.as.map Tm.row) (A:=some (0,[])) (B:=some (1,[])) (by simpa using l0) (fun i hi=>?_) ?_
  · simp only [C7,B6] at hf
    rw [hf];cases eqb (t.as.map Tm.row) (u.as.map Tm.row) <;> rfl
  · have hi:i<t.as.length:=by simpa using hi
    have hi2:i<u.as.length:=by omega
    have hc:=ih _ (C4 hi) u.as[i] (h.sub (C4 hi));rw [e95_0_1];rw [Q0,Q0];generalize eqb t.as[i].row u.as[i].row=z at hc ⊢;simp only [B9,rowAt_map hi,rowAt_map hi2,Tm.row_eq,B6,inbN,hi,hi2,C0,H3,H1,nth,D9,E5,D.I,D.S,D.L,D.B,wrap_succ hi (by unfold maxLen; omega),B5,hc]
    cases z <;> rfl
  · skip
    rw [e95_0_1];simp
 simp only [hl,B5,nth,D9,E5,D.I,D.S,D.L,D.B];cases decide (t.k=u.k) <;> cases decide (t.n=u.n) <;> cases decide (t.s=u.s) <;> rfl
theorem r198 (g:Gu) (h:g.ok):rn ⟨198,0,0⟩ [.int g.k,.int g.l.k,.int g.l.n,.str g.l.s,.sl (g.l.as.map Tm.row),.int g.r.k,.int g.r.n,.str g.r.s,.sl (g.r.as.map Tm.row)]=some (0,[.bool (holds g)]):=by
 show rn _ _=_
 rw [e198_0_0];obtain ⟨hl,hr⟩:=h;have sl:=small_of _ hl;have sr:=small_of _ hr;have hl':=G6 (rW_nodes g.l) hl;have hr':=G6 (rW_nodes g.r) hr;have a1:=r143 g.l hl;have a2:=r143 g.r hr;have b1:=r120 g.l sl;have b2:=r120 g.r sr;have c1:=r56 (rW g.l) (rW g.r) (rW_small _ sl);have d1:=r176 (rW g.l);have d2:=r176 (rW g.r);simp only [a1,a2,b1,b2,c1,d1,d2,B5,nth,D9,E5,D.I,D.S,D.L,D.B];unfold holds;cases isG g.l
 · rfl
 cases isG g.r
 · rfl
 simp only [D8,H2,G5];by_cases k1:g.k=1
 · rw [H5 k1,H7 k1]; rfl
 rw [H6 k1,H8 k1];by_cases k2:g.k=2
 · rw [H5 k2,H7 k2]; rfl
 rw [H6 k2,H8 k2];by_cases k3:g.k=3
 · rw [H5 k3,H7 k3]
   cases isW (rW g.l) <;> cases isW (rW g.r) <;> rfl
 · rw [H6 k3,H8 k3]; rfl
theorem r161 (g:Gu) (h:g.ok):rn ⟨161,0,0⟩ [.int g.k,.int g.l.k,.int g.l.n,.str g.l.s,.sl (g.l.as.map Tm.row),.int g.r.k,.int g.r.n,.str g.r.s,.sl (g.r.as.map Tm.row)]=some (0,[.bool (holds g)]):=by
 show rn _ _=_
 rw [e161_0_0];obtain ⟨hl,hr⟩:=h;have sl:=small_of _ hl;have sr:=small_of _ hr;have hl':=G6 (rW_nodes g.l) hl;have hr':=G6 (rW_nodes g.r) hr;have a1:=r99 (rW g.l) hl';have a2:=r99 (rW g.r) hr';have b1:=r106 g.l sl;have b2:=r106 g.r sr;have c1:=r12 (rW g.l) (rW g.r) (rW_small _ sl);have d1:=r164 (rW g.l);have d2:=r164 (rW g.r);simp only [a1,a2,b1,b2,c1,d1,d2,B5,nth,D9,E5,D.I,D.S,D.L,D.B];unfold holds;rw [isG_rW,isG_rW];cases isG g.l
 · rfl
 cases isG g.r
 · rfl
 simp only [D8,H2,G5];by_cases k1:g.k=1
 · rw [H5 k1,H7 k1]; rfl
 rw [H6 k1,H8 k1];by_cases k2:g.k=2
 · rw [H5 k2,H7 k2]; rfl
 rw [H6 k2,H8 k2];by_cases k3:g.k=3
 · rw [H5 k3,H7 k3]
   cases isW (rW g.l) <;> cases isW (rW g.r) <;> rfl
 · rw [H6 k3,H8 k3]; rfl
theorem r199 (l:List Bnd) (hl:l.length<=1048576) (hs:∀ b∈l,Small b.2) (g:Gu) (h:g.ok):rn ⟨199,0,0⟩ [.sl (l.map Bnd.row),.int g.k,.int g.l.k,.int g.l.n,.str g.l.s,.sl (g.l.as.map Tm.row),.int g.r.k,.int g.r.n,.str g.r.s,.sl (g.r.as.map Tm.row)]=some (0,[.int (appG l g).k,.int (appG l g).l.k,.int (appG l g).l.n,.str (appG l g).l.s,.int (appG l g).r.k,.int (appG l g).r.n,.str (appG l g).r.s,.sl ((appG l g).l.as.map Tm.row),.sl ((appG l g).r.as.map Tm.row)]):=by
 show rn _ _=_
 rw [e199_0_0];have a1:=r121 l hl hs g.l (small_of _ h.1);have a2:=r121 l hl hs g.r (small_of _ h.2);simp only [a1,a2,B5,nth,D9,E5,D.I,D.S,D.L,D.B];rfl
theorem r162 (l:List Bnd) (hl:l.length<=1048576) (hs:∀ b∈l,Small b.2) (g:Gu) (h:g.ok):rn ⟨162,0,0⟩ [.sl (l.map Bnd.row),.int g.k,.int g.l.k,.int g.l.n,.str g.l.s,.sl (g.l.as.map Tm.row),.int g.r.k,.int g.r.n,.str g.r.s,.sl (g.r.as.map Tm.row)]=some (0,[.int (appG l g).k,.int (appG l g).l.k,.int (appG l g).l.n,.str (appG l g).l.s,.int (appG l g).r.k,.int (appG l g).r.n,.str (appG l g).r.s,.sl ((appG l g).l.as.map Tm.row),.sl ((appG l g).r.as.map Tm.row)]):=by
 show rn _ _=_
 rw [e162_0_0];have a1:=r107 l hl hs g.l (small_of _ h.1);have a2:=r107 l hl hs g.r (small_of _ h.2);simp only [a1,a2,B5,nth,D9,E5,D.I,D.S,D.L,D.B];rfl
theorem gu_row (g:Gu):g.row=[.int g.k,.int g.l.k,.int g.l.n,.str g.l.s,.sl (g.l.as.map Tm.row),.int g.r.k,.int g.r.n,.str g.r.s,.sl (g.r.as.map Tm.row)]:=rfl
end Go.Q.S
end
section
namespace Go.Q.S
open Go Go.Q Go.Proofs
theorem qlt (a c:Nat):decide ((c:Int)<(a:Int))=!decide (a<=c):=by by_cases h:a<=c <;> simp [h] <;> omega
theorem qle (a c:Nat):decide ((c:Int)<=(a:Int))=decide (c<=a):=by by_cases h:c<=a <;> simp [h] <;> omega
theorem maxB {n:Nat} (h:n<=1099511627776):n<=maxLen:=by unfold maxLen; omega
theorem nb {n m:Nat} (h:n+m<=274877906944):F9 (n+m) M63=true:=J3 h
theorem r210 (c:Nat):rn ⟨210,0,0⟩ [.int (c:Int)]=some (0,[.bool (decide (97<=c)&&decide (c<=122))]):=by
 rw [e210_0_0,show decide ((97:Int)<=(c:Int))=decide (97<=c) from qle c 97,show decide ((c:Int)<=122)=decide (c<=122) from qle 122 c]
 cases decide (97<=c) <;> rfl
theorem r219 (c:Nat):rn ⟨219,0,0⟩ [.int (c:Int)]=some (0,[.bool (decide (48<=c)&&decide (c<=57))]):=by
 rw [e219_0_0,show decide ((48:Int)<=(c:Int))=decide (48<=c) from qle c 48,show decide ((c:Int)<=57)=decide (c<=57) from qle 57 c]
 cases decide (48<=c) <;> rfl
theorem rIn (a b c:Int):rn ⟨74,0,0⟩ [.int a,.int b,.int c]=some (0,[.bool (decide (b<=a)&&decide (a<=c))]):=r74 a b c
theorem r172 (s:ByteArray) (hs:s.size<=maxLen) (lo hi:Nat):rn ⟨172,0,0⟩ [.str s,.int (lo:Int),.int (hi:Int)]=some (0,[.bool (nameK lo hi s.data.toList)]):=by
 have hz:=size_list s;have hl:∀ n i,i+n=s.data.toList.length->rn ⟨172,0,1⟩ [.str s,.int (i:Int)]=bif (s.data.toList.drop i).all lowB then some (0,[]) else some (1,[]):=by
  intro n;induction n with
  | zero =>
   intro i hi;obtain rfl:i=s.data.toList.length:=by omega
   rw [e172_0_1];simp only [hz,B6,C0,D4,H4,H2,C8,N8,H1]
  | succ n ih =>
   intro i hi;have hlt:i<s.data.toList.length:=by omega
   rw [e172_0_1,B8 hlt];simp only [hz,C0,hlt,H3,H1,inbN,B9,wrap_succ hlt (by omega),get_list hlt,J9,ih (i+1) (by omega),lowB]
   generalize s.data.toList[i].toNat=c;rw [show decide ((c:Int)<97)=!decide (97<=c) from qlt 97 c,show decide ((c:Int)<48)=!decide (48<=c) from qlt 48 c,show decide ((57:Int)<(c:Int))=!decide (c<=57) from qlt c 57,show decide ((122:Int)<(c:Int))=!decide (c<=122) from qlt c 122]
   cases decide (97<=c) <;> cases decide (c<=122) <;> cases decide (48<=c) <;> cases decide (c<=57) <;> simp
 have h1:=hl (s.data.toList.length-1) 1;rw [e172_0_0];have hg:∀ h:0<s.data.toList.length,s.get! 0=s.data.toList[0]:=fun h=>get_list h
 rw [hz] at hs;rw [hz];generalize s.data.toList=l at hs hz hl h1 hg ⊢;cases l with
 | nil=>rfl
 | cons b r =>
  have e0:=hg (by simp)
  have e1:=h1 (by simp; omega)
  simp only [O9,D3] at e1;rw [show ((1:Nat):Int)=1 from rfl] at e1
  have hn:¬(((b::r).length:Nat):Int)<1:=by simp only [C5]; omega
  have hi0:inb 0 (b::r).length=true:=by simp [inb]
  rw [show decide ((8:Int)<(((b::r).length:Nat):Int))=!decide ((b::r).length<=8) from qlt _ 8]
  simp only [H8 hn,H2,hi0,H1,show N9 0=0 from rfl,e0,R5,e1,nameK]
  rw [qlt lo b.toNat,qlt b.toNat hi];cases decide ((b::r).length<=8) <;> cases decide (lo<=b.toNat) <;> cases decide (b.toNat<=hi) <;> cases r.all lowB <;> first | rfl | (simp; done) | (simp; rfl)
theorem r190 (s:ByteArray) (hs:s.size<=maxLen):rn ⟨190,0,0⟩ [.str s]=some (0,[.bool (isNm s)]):=by
 have h:=r172 s hs 97 122;rw [e190_0_0];simp only [show ((97:Nat):Int)=97 from rfl,show ((122:Nat):Int)=122 from rfl] at h
 simp only [h,nv0,nvS,dvI,dvB,dvS,dvL,B5]; rfl
theorem r114 (s:ByteArray) (hs:s.size<=maxLen):rn ⟨114,0,0⟩ [.str s]=some (0,[.bool (isVr s)]):=by
 have h:=r172 s hs 65 90;rw [e114_0_0];simp only [show ((65:Nat):Int)=65 from rfl,show ((90:Nat):Int)=90 from rfl] at h
 simp only [h,nv0,nvS,dvI,dvB,dvS,dvL,B5]; rfl
theorem r209 (s:ByteArray) (hs:s.size<=maxLen):rn ⟨209,0,0⟩ [.str s]=some (0,[.bool ((s.data.toList.drop 1).all lowB&&(decide (1<=s.data.toList.length)&&decide (s.data.toList.length<=8)))]):=by
 have hz:=size_list s;have hl:∀ n i,i+n=s.data.toList.length->rn ⟨209,0,1⟩ [.str s,.int (i:Int)]=bif (s.data.toList.drop i).all lowB then some (0,[.str s]) else some (1,[]):=by
  intro n;induction n with
  | zero =>
   intro i hi;obtain rfl:i=s.data.toList.length:=by omega
   rw [e209_0_1];simp only [hz,B6,C0,D4,H4,H2,C8,N8,H1]
  | succ n ih =>
   intro i hi;have hlt:i<s.data.toList.length:=by omega
   rw [e209_0_1,B8 hlt];simp only [hz,C0,hlt,H3,H1,inbN,B9,wrap_succ hlt (by omega),get_list hlt,J9,ih (i+1) (by omega),lowB,r210,r219,nv0,nvS,dvI,dvB,dvS,dvL,B5]
   generalize s.data.toList[i].toNat=c;cases decide (97<=c) <;> cases decide (c<=122) <;> cases decide (48<=c) <;> cases decide (c<=57) <;> simp
 rw [e209_0_0];have hlen:decide ((1:Int)<=(s.data.toList.length:Int))=decide (1<=s.data.toList.length):=qle s.data.toList.length 1;have hlen8:decide ((s.data.toList.length:Int)<=8)=decide (s.data.toList.length<=8):=qle 8 s.data.toList.length;by_cases h0:s.data.toList.length=0
 · have e:rn ⟨209,0,1⟩ [.str s,.int 1]=some (0,[.str s]):=by
    rw [e209_0_1];rw [H8 (show ¬(1:Int)<(s.size:Int) by rw [hz]; omega)]; rfl
   simp only [e,nv0,nvS,dvI,dvB,dvS,dvL,B5,E6,H1,H2,rIn,hz,hlen,hlen8];have:s.data.toList=[]:=F2.1 h0;rw [this]; rfl
 · have h1:=hl (s.data.toList.length-1) 1 (by omega)
   rw [show ((1:Nat):Int)=1 from rfl] at h1
   rw [h1];cases (s.data.toList.drop 1).all lowB with
   | true=>simp only [nv0,nvS,dvI,dvB,dvS,dvL,B5,E6,H1,H2,rIn,hz,hlen,hlen8,G5]
   | false=>rfl
theorem r186 (s:ByteArray) (hs:s.size<=maxLen):rn ⟨186,0,0⟩ [.str s]=some (0,[.bool (isNm s)]):=by
 have hr:=r209 s hs;have hz:=size_list s;rw [e186_0_0];have he:decide (s=(⟨#[]⟩:ByteArray))=decide (s.data.toList=[]):=decide_eq_decide.2 (nil_list s);have hg:∀ h:0<s.data.toList.length,s.get! 0=s.data.toList[0]:=fun h=>get_list h
 rw [he,hz];unfold isNm;generalize s.data.toList=l at hr hz hg ⊢;cases l with
 | nil=>rfl
 | cons b r =>
  have e0:=hg (by simp)
  have hi0:inb 0 (r.length+1)=true:=by simp [inb]
  simp only [show N9 0=0 from rfl,e0,R5,C5,hi0,H1,H8 (List.cons_ne_nil b r),K2,r210,nv0,nvS,dvI,dvB,dvS,dvL,B5,hr,nameK,O9,D3,C5]
  have:decide (1<=r.length+1)=true:=by simp
  rw [this];cases decide (97<=b.toNat) <;> cases decide (b.toNat<=122) <;> cases r.all lowB <;> cases decide (r.length+1<=8) <;> rfl
theorem r180 (s:ByteArray) (hs:s.size<=maxLen):rn ⟨180,0,0⟩ [.str s]=some (0,[.bool (isVr s)]):=by
 have hr:=r209 s hs;have hz:=size_list s;rw [e180_0_0];have he:decide (s=(⟨#[]⟩:ByteArray))=decide (s.data.toList=[]):=decide_eq_decide.2 (nil_list s);have hg:∀ h:0<s.data.toList.length,s.get! 0=s.data.toList[0]:=fun h=>get_list h
 rw [he,hz];unfold isVr;generalize s.data.toList=l at hr hz hg ⊢;cases l with
 | nil=>rfl
 | cons b r =>
  have e0:=hg (by simp)
  have hi0:inb 0 (r.length+1)=true:=by simp [inb]
  simp only [show N9 0=0 from rfl,e0,R5,C5,hi0,H1,H8 (List.cons_ne_nil b r),K2,nv0,nvS,dvI,dvB,dvS,dvL,B5,hr,nameK,O9,D3,C5]
  have:decide (1<=r.length+1)=true:=by simp
  rw [this,show decide ((65:Int)<=(b.toNat:Int))=decide (65<=b.toNat) from qle b.toNat 65,show decide ((b.toNat:Int)<=90)=decide (b.toNat<=90) from qle 90 b.toNat]
  cases decide (65<=b.toNat) <;> cases decide (b.toNat<=90) <;> cases r.all lowB <;> cases decide (r.length+1<=8) <;> rfl
theorem r148:∀ t:Tm,t.nodes<=2097152->rn ⟨148,0,0⟩ [.int t.k,.int t.n,.str t.s,.sl (t.as.map Tm.row)]=some (0,[.int (t.nodes:Int)]):=Tm.ind fun t ih h=>by
 have hnd:=Tm.nodes_eq t;have hls:=len_sum (xs:=t.as);have hl:∀ n i (c:Nat),i+n=t.as.length->c+((t.as.drop i).map Tm.nodes).sum<=2097152->rn ⟨148,0,1⟩ [.int (c:Int),.sl (t.as.map Tm.row),.int (t.as.length:Int),.int (i:Int)]=some (0,[.int ((c+((t.as.drop i).map Tm.nodes).sum:Nat):Int)]):=by
  intro n;induction n with
  | zero =>
   intro i c hi hc;obtain rfl:i=t.as.length:=by omega
   rw [e148_0_1];simp only [B6,C0,D4,H4,H2,C8,D2,List.sum_nil,K7]
  | succ n ih2 =>
   intro i c hi hc;have hlt:i<t.as.length:=by omega
   rw [B8 hlt] at hc ⊢;simp only [C2,J4] at hc ⊢;rw [e148_0_1];have h1:=ih _ (C4 hlt) (by omega)
   simp only [B6,C0,hlt,H3,H1,inbN,B9,rowAt_map hlt,wrap_succ hlt (maxB (by omega)),Tm.row_eq,nv0,nvS,dvI,dvB,dvS,dvL,B5,h1]
   rw [IntWalk.i64_in _ (by omega),show ((c:Int)+(t.as[i].nodes:Int))=((c+t.as[i].nodes:Nat):Int) by omega,ih2 (i+1) _ (by omega) (by omega),Nat.add_assoc]
 rw [e148_0_0];have:=hl t.as.length 0 1 (by omega) (by rw [D3]; omega)
 rw [D3,<- hnd] at this;simp only [B6,show ((1:Nat):Int)=1 from rfl,C7] at this ⊢
 simp only [this,nv0,nvS,dvI,dvB,dvS,dvL,B5,E6,H1,H2]
theorem dstep (a b:Nat):(bif decide (b<a) then (a:Int) else (b:Int))=((max b a:Nat):Int):=by
 by_cases h:b<a
 · rw [H7 h,H1]; omega
 · rw [H8 h,H2]; omega
theorem r149:∀ t:Tm,t.nodes<=2097152->rn ⟨149,0,0⟩ [.int t.k,.int t.n,.str t.s,.sl (t.as.map Tm.row)]=some (0,[.int (t.depth:Int)]):=Tm.ind fun t ih h=>by
 have hnd:=Tm.nodes_eq t;have hls:=len_sum (xs:=t.as);have hdn:=Tm.depth_nodes t;have hde:=Tm.depth_eq t;have hl:∀ n i (c:Nat),i+n=t.as.length->rn ⟨149,0,1⟩ [.int (c:Int),.sl (t.as.map Tm.row),.int (t.as.length:Int),.int (i:Int)]=some (0,[.int ((max c (Tm.depthL (t.as.drop i)):Nat):Int)]):=by
  intro n;induction n with
  | zero =>
   intro i c hi;obtain rfl:i=t.as.length:=by omega
   rw [e149_0_1];simp only [B6,C0,D4,H4,H2,C8,Tm.depthL,Nat.max_zero]
  | succ n ih2 =>
   intro i c hi;have hlt:i<t.as.length:=by omega
   rw [B8 hlt];have hm:=mem_sum (f:=Tm.nodes) (C4 hlt);have h1:=ih _ (C4 hlt) (by omega)
   rw [e149_0_1];simp only [B6,C0,hlt,H3,H1,inbN,B9,rowAt_map hlt,wrap_succ hlt (maxB (by omega)),Tm.row_eq,nv0,nvS,dvI,dvB,dvS,dvL,B5,h1]
   rw [dstep,ih2 (i+1) _ (by omega)]
   simp only [Tm.depthL,Nat.max_assoc]
 rw [e149_0_0];have:=hl t.as.length 0 0 (by omega)
 rw [D3,Nat.zero_max] at this;simp only [B6,C7] at this ⊢;simp only [this,nv0,nvS,dvI,dvB,dvS,dvL,B5,E6,H1,H2];rw [IntWalk.i64_in _ (by omega),hde]; rfl
theorem r137 (a b:Nat):rn ⟨137,0,0⟩ [.int (a:Int),.int (b:Int)]=some (0,[.int ((max a b:Nat):Int)]):=by
 rw [e137_0_0];by_cases h:(b:Int)<(a:Int)
 · rw [H7 h,H1,show max a b=a by omega]
 · rw [H8 h,H2,show max a b=b by omega]
theorem r155:∀ t:Tm,t.nodes<=2097152->rn ⟨155,0,0⟩ [.int t.k,.int t.n,.str t.s,.sl (t.as.map Tm.row)]=some (0,[.int (t.depth:Int)]):=Tm.ind fun t ih h=>by
 have hnd:=Tm.nodes_eq t;have hls:=len_sum (xs:=t.as);have hdn:=Tm.depth_nodes t;have hde:=Tm.depth_eq t;have hl:∀ n i (c:Nat),i+n=t.as.length->rn ⟨155,0,1⟩ [.int (c:Int),.int (i:Int),.int t.k,.int t.n,.str t.s,.sl (t.as.map Tm.row)]=some (0,[.int ((max c (Tm.depthL (t.as.drop i)):Nat):Int)]):=by
  intro n;induction n with
  | zero =>
   intro i c hi;obtain rfl:i=t.as.length:=by omega
   rw [e155_0_1];simp only [B6,C0,D4,H4,H2,C8,Tm.depthL,Nat.max_zero]
  | succ n ih2 =>
   intro i c hi;have hlt:i<t.as.length:=by omega
   rw [B8 hlt];have hm:=mem_sum (f:=Tm.nodes) (C4 hlt);have h1:=ih _ (C4 hlt) (by omega)
   rw [e155_0_1];simp only [B6,C0,hlt,H3,H1,inbN,B9,rowAt_map hlt,wrap_succ hlt (maxB (by omega)),Tm.row_eq,nv0,nvS,dvI,dvB,dvS,dvL,B5,h1,r137]
   have h2:=ih2 (i+1) (max c t.as[i].depth) (by omega)
   rw [h2];simp only [Tm.depthL,Nat.max_assoc]
 rw [e155_0_0];have:=hl t.as.length 0 0 (by omega)
 rw [D3,Nat.zero_max] at this;simp only [C7] at this ⊢;simp only [this,nv0,nvS,dvI,dvB,dvS,dvL,B5,E6,H1,H2];rw [IntWalk.i64_in _ (by omega),hde]; rfl
def leftI (n left:Nat):Int:=if n<=left then ((left-n:Nat):Int) else -1
theorem leftI_add {a b c:Nat} (h:a<=c):leftI b (c-a)=leftI (a+b) c:=by
 unfold leftI;by_cases hb:b<=c-a
 · rw [H5 hb,H5 (by omega),Nat.sub_sub]
 · rw [H6 hb,H6 (by omega)]
theorem r154:∀ t:Tm,∀ left:Nat,t.nodes<=2097152->left<=1048576->rn ⟨154,0,0⟩ [.int t.k,.int t.n,.str t.s,.sl (t.as.map Tm.row),.int (left:Int)]=some (0,[.int (leftI t.nodes left)]):=Tm.ind fun t ih left h hle=>by
 have hnd:=Tm.nodes_eq t;have hls:=len_sum (xs:=t.as);have hl:∀ n i (c:Nat),i+n=t.as.length->c<=1048576->rn ⟨154,0,1⟩ [.int (c:Int),.int (i:Int),.int t.k,.int t.n,.str t.s,.sl (t.as.map Tm.row)]=some (0,[.int (leftI ((t.as.drop i).map Tm.nodes).sum c)]):=by
  intro n;induction n with
  | zero =>
   intro i c hi hc;obtain rfl:i=t.as.length:=by omega
   rw [e154_0_1];simp only [B6,C0,D4,H4,H2,C8,D2,List.sum_nil,leftI,K3,if_true,Nat.sub_zero]
  | succ n ih2 =>
   intro i c hi hc;have hlt:i<t.as.length:=by omega
   rw [B8 hlt];rw [e154_0_1];have h1:=ih _ (C4 hlt) c (by have:=mem_sum (f:=Tm.nodes) (C4 hlt); omega) hc
   have hc0:(0:Int)<=(c:Int):=by omega
   simp only [B6,C0,hlt,H3,H1,inbN,B9,rowAt_map hlt,wrap_succ hlt (maxB (by omega)),Tm.row_eq,nv0,nvS,dvI,dvB,dvS,dvL,B5,h1,hc0]
   simp only [C2,J4];by_cases hq:t.as[i].nodes<=c
   · have e:leftI t.as[i].nodes c=((c-t.as[i].nodes:Nat):Int):=H5 hq
     rw [e,ih2 (i+1) _ (by omega) (by omega),leftI_add hq]
   · have e:leftI t.as[i].nodes c=-1:=H6 hq
     have e2:leftI (t.as[i].nodes+((t.as.drop (i+1)).map Tm.nodes).sum) c=-1:=H6 (by omega)
     rw [e,e2,e154_0_1];have hneg:¬(0:Int)<=-1:=by decide
     simp only [hneg,H4,H2];cases decide (((i+1:Nat):Int)<((t.as.map Tm.row).length:Int)) <;> rfl
 rw [e154_0_0,IntWalk.i64_in _ (by omega)]
 by_cases hz:left=0
 · subst hz
   have e:leftI t.nodes 0=-1:=H6 (by omega)
   have hneg:¬(0:Int)<=-1:=by decide
   have e2:rn ⟨154,0,1⟩ [.int (((0:Nat):Int)-1),.int 0,.int t.k,.int t.n,.str t.s,.sl (t.as.map Tm.row)]=some (0,[.int (-1)]):=by
    rw [e154_0_1];simp only [show (((0:Nat):Int)-1)=-1 from rfl,hneg,H4,H2]
    cases decide ((0:Int)<((t.as.map Tm.row).length:Int)) <;> rfl
   rw [e2,e]; rfl
 · have:=hl t.as.length 0 (left-1) (by omega) (by omega)
   rw [D3] at this;rw [show (left:Int)-1=((left-1:Nat):Int) by omega]
   simp only [C7] at this;simp only [this,nv0,nvS,dvI,dvB,dvS,dvL,B5,E6,H1,H2];rw [leftI_add (by omega),hnd]
end Go.Q.S
end
section
namespace Go.Q.S
open Go Go.Q Go.Proofs
theorem r150:∀ t:Tm,Wt t->rn ⟨150,0,0⟩ [.int t.k,.int t.n,.str t.s,.sl (t.as.map Tm.row)]=some (0,[.bool t.areN]):=Tm.ind fun t ih h=>by
 have hlm:=h.l;have hl:∀ n i,i+n=t.as.length->rn ⟨150,0,2⟩ [.sl (t.as.map Tm.row),.int (t.as.length:Int),.int (i:Int)]=bif Tm.areNL (t.as.drop i) then some (0,[]) else some (1,[]):=by
  intro n;induction n with
  | zero =>
   intro i hi;obtain rfl:i=t.as.length:=by omega
   rw [e150_0_2];simp only [B6,C0,D4,H4,H2,C8,Tm.areNL,H1]
  | succ n ih2 =>
   intro i hi;have hlt:i<t.as.length:=by omega
   rw [e150_0_2,B8 hlt];have h1:=ih _ (C4 hlt) (h.sub (C4 hlt));simp only [B6,C0,hlt,H3,H1,inbN,B9,rowAt_map hlt,wrap_succ hlt hlm,Tm.row_eq,nv0,nvS,dvI,dvB,dvS,dvL,B5,h1,ih2 (i+1) (by omega),Tm.areNL]
   cases t.as[i].areN <;> simp
 have h0:=hl t.as.length 0 (by omega)
 rw [D3] at h0;rw [e150_0_0,Tm.areN_eq];simp only [B6,C7] at h0 ⊢;simp only [h0,r114 t.s h.s,r176 t,r190 t.s h.s,nv0,nvS,dvI,dvB,dvS,dvL,B5];unfold Tm.nodeN;have hz:decide ((t.as.length:Int)=0)=decide (t.as.length=0):=by simp
 by_cases h1:t.k=1
 · rw [H7 h1,H5 h1,hz]
   by_cases h2:t.as.length=0
   · have:t.as=[]:=F2.1 h2
     rw [H7 h2,this];simp only [Tm.areNL,H1,N5,G5];cases decide (t.n=0) <;> cases isVr t.s <;> rfl
   · rw [H8 h2]
     cases decide (t.n=0) <;> rfl
 · rw [H8 h1,H6 h1]
   by_cases h3:t.k=3
   · rw [H7 h3,H5 h3]
     cases hw:isW t with
     | false=>rfl
     | true =>
      have:t.as=[]:=by simp only [isW,B7,decide_eq_true_eq] at hw; exact F2.1 hw.2.2.2.2
      rw [this]; rfl
   · rw [H8 h3,H6 h3]
     by_cases h2:t.k=2
     · rw [H7 h2,H5 h2]
       cases decide (t.n=0) <;> cases isNm t.s <;> cases Tm.areNL t.as <;> rfl
     · rw [H8 h2,H6 h2]; rfl
theorem r202 (t:Tm) (h:Wt t):rn ⟨202,0,0⟩ [.int t.k,.int t.n,.str t.s,.sl (t.as.map Tm.row)]=some (0,[.bool t.nodeN]):=by
 rw [e202_0_0];have hz:decide ((t.as.length:Int)=0)=decide (t.as.length=0):=by simp
 simp only [B6,r180 t.s h.s,r186 t.s h.s,nv0,nvS,dvI,dvB,dvS,dvL,B5,rIn,hz];unfold Tm.nodeN;by_cases h1:t.k=1
 · rw [H7 h1,H5 h1]
   cases decide (t.n=0) <;> cases isVr t.s <;> cases decide (t.as.length=0) <;> rfl
 · rw [H8 h1,H6 h1]
   by_cases h2:t.k=2
   · rw [H7 h2,H6 (by omega),H5 h2]
     cases decide (t.n=0) <;> cases isNm t.s <;> rfl
   · rw [H8 h2]
     by_cases h3:t.k=3
     · rw [H7 h3,H5 h3]
       unfold isW;have e2:decide (t.n<=3)=decide (t.n<4):=decide_eq_decide.2 (by omega)
       rw [H7 h3,e2];cases decide (t.s=(⟨#[]⟩:ByteArray)) <;> cases decide (0<=t.n) <;> cases decide (t.n<4) <;> cases decide (t.as.length=0) <;> rfl
     · rw [H8 h3,H6 h3,H6 h2]; rfl
theorem r156:∀ t:Tm,Wt t->rn ⟨156,0,0⟩ [.int t.k,.int t.n,.str t.s,.sl (t.as.map Tm.row)]=some (0,[.bool t.areN]):=Tm.ind fun t ih h=>by
 have hlm:=h.l;have hl:∀ n i,i+n=t.as.length->rn ⟨156,0,1⟩ [.int (i:Int),.int t.k,.int t.n,.str t.s,.sl (t.as.map Tm.row)]=bif Tm.areNL (t.as.drop i) then some (0,[.int t.k,.int t.n,.str t.s,.sl (t.as.map Tm.row)]) else some (1,[]):=by
  intro n;induction n with
  | zero =>
   intro i hi;obtain rfl:i=t.as.length:=by omega
   rw [e156_0_1];simp only [B6,C0,D4,H4,H2,C8,Tm.areNL,H1]
  | succ n ih2 =>
   intro i hi;have hlt:i<t.as.length:=by omega
   rw [e156_0_1,B8 hlt];have h1:=ih _ (C4 hlt) (h.sub (C4 hlt));simp only [B6,C0,hlt,H3,H1,inbN,B9,rowAt_map hlt,wrap_succ hlt hlm,Tm.row_eq,nv0,nvS,dvI,dvB,dvS,dvL,B5,h1,ih2 (i+1) (by omega),Tm.areNL]
   cases t.as[i].areN <;> simp
 have h0:=hl t.as.length 0 (by omega)
 rw [D3] at h0;rw [e156_0_0,Tm.areN_eq];simp only [C7] at h0 ⊢;rw [h0];cases Tm.areNL t.as with
 | true=>simp only [H1,nv0,nvS,dvI,dvB,dvS,dvL,B5,E6,H1,H2,r202 t h,N5]
 | false=>rw [Bool.and_false]; rfl
theorem r94 (t:Tm) (hn:t.nodes<=2097152) (h:Wt t):rn ⟨94,0,0⟩ [.int t.k,.int t.n,.str t.s,.sl (t.as.map Tm.row)]=some (0,[.bool t.valid]):=by
 rw [e94_0_0];simp only [r148 t hn,r149 t hn,r150 t h,nv0,nvS,dvI,dvB,dvS,dvL,B5];unfold Tm.valid;have i1:((t.nodes:Int)<=60)↔t.nodes<=60:=by omega
 have i2:((t.depth:Int)<=16)↔t.depth<=16:=by omega
 by_cases h1:t.nodes<=60 <;> by_cases h2:t.depth<=16 <;> simp [h1,h2,i1,i2]
theorem r98 (t:Tm) (hn:t.nodes<=2097152) (h:Wt t):rn ⟨98,0,0⟩ [.int t.k,.int t.n,.str t.s,.sl (t.as.map Tm.row)]=some (0,[.bool t.valid]):=by
 rw [e98_0_0];have h1:=r154 t 60 hn (by omega)
 rw [show ((60:Nat):Int)=60 from rfl] at h1
 simp only [h1,r155 t hn,r156 t h,nv0,nvS,dvI,dvB,dvS,dvL,B5];have i0:((0:Int)<=leftI t.nodes 60)↔t.nodes<=60:=by
  unfold leftI;split <;> omega
 unfold Tm.valid;have i2:((t.depth:Int)<=16)↔t.depth<=16:=by omega
 by_cases h1:t.nodes<=60 <;> by_cases h2:t.depth<=16 <;> simp [h1,h2,i0,i2]
theorem r113 (l:List ByteArray) (h:l.length<=1048576):rn ⟨113,0,0⟩ [.sl (l.map sRow)]=some (0,[.bool (dis l)]):=by
 rw [e113_0_0];simp only [r171 l (by omega),nv0,nvS,dvI,dvB,dvS,dvL,B5,B6]
 congr 4
 unfold dis;exact decide_eq_decide.2 (by rw [<- srtN_iff]; omega)
def ixS (s:ByteArray):List ByteArray->Nat->Int
 | [],_=>-1
 | x::r,i=>if x=s then (i:Int) else ixS s r (i+1)
theorem ixS_neg (s:ByteArray):∀ (l:List ByteArray) (i:Nat),ixS s l i<0↔s∉l
 | [],i=>by simp [ixS]
 | x::r,i=>by
  unfold ixS;by_cases h:x=s
  · rw [H5 h]; simp [h]
  · rw [H6 h,ixS_neg s r]; simp [Ne.symm h]
theorem r181 (l:List ByteArray) (hl:l.length<=maxLen) (s:ByteArray):rn ⟨181,0,0⟩ [.sl (l.map sRow),.str s]=some (0,[.int (ixS s l 0)]):=by
 have hlp:∀ n i,i+n=l.length->(ixS s (l.drop i) i=-1/\rn ⟨181,0,1⟩ [.sl (l.map sRow),.str s,.int (i:Int)]=some (0,[]))\/rn ⟨181,0,1⟩ [.sl (l.map sRow),.str s,.int (i:Int)]=some (1,[.int (ixS s (l.drop i) i)]):=by
  intro n;induction n with
  | zero =>
   intro i hi;obtain rfl:i=l.length:=by omega
   rw [e181_0_1];simp only [B6,C0,D4,H4,H2,C8,ixS];exact .inl ⟨trivial,trivial⟩
  | succ n ih =>
   intro i hi;have hlt:i<l.length:=by omega
   rw [e181_0_1,B8 hlt];simp only [B6,C0,hlt,H3,H1,inbN,B9,rowAt_map hlt,wrap_succ hlt hl,sRow,nv0,nvS,dvI,dvB,dvS,dvL,B5,ixS];by_cases h:l[i]=s
   · simp only [H7 h,H1,H5 h]; exact .inr trivial
   · simp only [H8 h,H2,H6 h]; exact ih (i+1) (by omega)
 have h:=hlp l.length 0 (by omega)
 rw [D3] at h;simp only [C7] at h;rw [e181_0_0];rcases h with ⟨h1,h2⟩ | h2
 · rw [h2,h1]; rfl
 · rw [h2]; rfl
theorem r152 (l:List ByteArray) (hl:l.length<=maxLen):rn ⟨152,0,0⟩ [.sl (l.map sRow)]=some (0,[.bool (dis l)]):=by
 have key:∀ n i,i+n=l.length->rn ⟨152,0,1⟩ [.sl (l.map sRow),.int (i:Int)]=bif (R7 i n).all (fun j=>decide (ixS (l.getD j e0) l 0=(j:Int))) then some (0,[]) else some (1,[]):=by
  intro n;induction n with
  | zero =>
   intro i hi;obtain rfl:i=l.length:=by omega
   rw [e152_0_1];simp only [B6,C0,D4,H4,H2,C8]; rfl
  | succ n ih =>
   intro i hi;have hlt:i<l.length:=by omega
   rw [e152_0_1,List.range'_succ];have hg:l.getD i e0=l[i]:=by simp [O1,hlt]
   simp only [B6,C0,hlt,H3,H1,inbN,B9,rowAt_map hlt,wrap_succ hlt hl,sRow,nv0,nvS,dvI,dvB,dvS,dvL,B5,r181 l hl,ih (i+1) (by omega),J9,hg]
   by_cases hq:ixS l[i] l 0=(i:Int)
   · simp [hq]
   · simp [hq]
 have h:=key l.length 0 (by omega)
 rw [e152_0_0];simp only [C7] at h;rw [h];have hfi:∀ (m:List ByteArray) (i k:Nat) (hk:k<m.length),ixS m[k] m i=((i+k:Nat):Int)↔∀ j (hj:j<k),m[j]≠m[k]:=by
  intro m;induction m with
  | nil=>intro i k hk; simp at hk
  | cons x m ih =>
   intro i k hk;cases k with
   | zero=>simp [ixS]
   | succ k =>
    have hk':k<m.length:=by simpa using hk
    simp only [List.getElem_cons_succ,ixS];by_cases hx:x=m[k]
    · rw [H5 hx]
      constructor
      · intro h; omega
      · intro h; exact absurd hx (h 0 (by omega))
    · rw [H6 hx]
      have:=ih (i+1) k hk';rw [show i+1+k=i+(k+1) by omega] at this
      rw [this];constructor
      · intro h j hj
        cases j with
        | zero=>exact hx
        | succ j=>exact h j (by omega)
      · intro h j hj; exact h (j+1) (by omega)
 have e:(R7 0 l.length).all (fun j=>decide (ixS (l.getD j e0) l 0=(j:Int)))=dis l:=by
  unfold dis;rw [Bool.eq_iff_iff,E0,decide_eq_true_eq];constructor
  · intro h
    refine S0.2 fun i j _ hj hij=>?_
    have h1:=h j (by simp [List.mem_range']; omega)
    simp only [decide_eq_true_eq] at h1;have hg:l.getD j e0=l[j]:=by simp [O1,hj]
    rw [hg] at h1;exact (hfi l 0 j hj).1 (by simpa using h1) i hij
  · intro h j hj
    have hj':j<l.length:=by simp [List.mem_range'] at hj; omega
    have hg:l.getD j e0=l[j]:=by simp [O1,hj']
    simp only [decide_eq_true_eq,hg];have:=(hfi l 0 j hj').2 fun i hi=>S0.1 h i j (by omega) hj' hi
    simpa using this
 rw [e];cases dis l <;> rfl
theorem rIndexS (l:List ByteArray) (hl:l.length<=maxLen) (s:ByteArray):rn ⟨213,0,0⟩ [.sl (l.map sRow),.str s]=some (0,[.int (ixS s l 0)]):=by
 have hlp:∀ n i,i+n=l.length->(ixS s (l.drop i) i=-1/\rn ⟨213,0,1⟩ [.sl (l.map sRow),.str s,.int (l.length:Int),.int (i:Int)]=some (0,[]))\/rn ⟨213,0,1⟩ [.sl (l.map sRow),.str s,.int (l.length:Int),.int (i:Int)]=some (1,[.int (ixS s (l.drop i) i)]):=by
  intro n;induction n with
  | zero =>
   intro i hi;obtain rfl:i=l.length:=by omega
   rw [e213_0_1];simp only [B6,C0,D4,H4,H2,C8,ixS];exact .inl ⟨trivial,trivial⟩
  | succ n ih =>
   intro i hi;have hlt:i<l.length:=by omega
   rw [e213_0_1,B8 hlt];simp only [B6,C0,hlt,H3,H1,inbN,B9,rowAt_map hlt,wrap_succ hlt hl,sRow,nv0,nvS,dvI,dvB,dvS,dvL,B5,ixS];by_cases h:l[i]=s
   · simp only [H7 h.symm,H1,H5 h]; exact .inr trivial
   · simp only [H8 (Ne.symm h),H2,H6 h]; exact ih (i+1) (by omega)
 have h:=hlp l.length 0 (by omega)
 rw [D3] at h;simp only [C7] at h;rw [e213_0_0];simp only [B6];rcases h with ⟨h1,h2⟩ | h2
 · rw [h2,h1]; rfl
 · rw [h2]; rfl
theorem ixS_has (l:List ByteArray) (s:ByteArray):decide ((0:Int)<=ixS s l 0)=hasS l s:=by
 rw [Bool.eq_iff_iff,decide_eq_true_eq,hasS_iff];have:=ixS_neg s l 0;constructor
 · intro h; exact Classical.byContradiction fun hn=>by have:=this.2 hn; omega
 · intro h; exact Classical.byContradiction fun hn=>absurd h (this.1 (by omega))
theorem ixS_no (l:List ByteArray) (s:ByteArray):decide (ixS s l 0<0)=!hasS l s:=by
 rw [<- ixS_has];by_cases h:ixS s l 0<0
 · rw [H7 h,H8 (by omega)]; rfl
 · rw [H8 h,H7 (by omega)]; rfl
theorem rContS (l:List ByteArray) (hl:l.length<=maxLen) (s:ByteArray):rn ⟨192,0,0⟩ [.sl (l.map sRow),.str s]=some (0,[.bool (hasS l s)]):=by
 rw [e192_0_0];simp only [rIndexS l hl,nv0,nvS,dvI,dvB,dvS,dvL,B5];rw [ixS_has]
theorem r173 (l r:List ByteArray) (hl:l.length<=2097152) (hr:r.length<=maxLen):rn ⟨173,0,0⟩ [.sl (l.map sRow),.sl (r.map sRow)]=some (0,[.sl ((wo l r).map sRow)]):=by
 have key:∀ n i (acc:List ByteArray),i+n=l.length->acc.length<=i->rn ⟨173,0,1⟩ [.sl (r.map sRow),.sl (l.map sRow),.int (l.length:Int),.int (i:Int),.sl (acc.map sRow)]=some (0,[.sl ((acc++wo (l.drop i) r).map sRow)]):=by
  intro n;induction n with
  | zero =>
   intro i acc hi ha;obtain rfl:i=l.length:=by omega
   rw [e173_0_1];simp only [B6,C0,D4,H4,H2,C8,wo,List.filter_nil,J1]
  | succ n ih =>
   intro i acc hi ha;have hlt:i<l.length:=by omega
   rw [e173_0_1,B8 hlt];simp only [B6,C0,hlt,H3,H1,inbN,B9,rowAt_map hlt,wrap_succ hlt (maxB (by omega)),sRow,nv0,nvS,dvI,dvB,dvS,dvL,B5,rContS r hr,C5,C9]
   unfold wo;rw [O5];cases hh:hasS r l[i] with
   | true=>simp only [D8,H2,Q2,if_false]; exact ih (i+1) acc (by omega) (by omega)
   | false =>
    simp only [K2,H1,if_true];rw [nb (by omega)]
    have:=ih (i+1) (acc++[l[i]]) (by omega) (by simp; omega)
    rw [D6] at this;simp only [H1];simpa [wo,sRow] using this
 have h:=key l.length 0 [] (by omega) (K3 _)
 rw [e173_0_0];simp only [C7,D2,D3,E8,B6] at h ⊢;simp only [h,nv0,nvS,dvI,dvB,dvS,dvL,B5,E6,H1,H2]
theorem r124 (l r:List ByteArray) (hl:l.length<=2097152) (hr:r.length<=maxLen):rn ⟨124,0,0⟩ [.sl (l.map sRow),.sl (r.map sRow)]=some (0,[.sl ((wo l r).map sRow)]):=by
 have key:∀ n i (acc:List ByteArray),i+n=l.length->acc.length<=i->rn ⟨124,0,1⟩ [.sl (l.map sRow),.sl (r.map sRow),.int (i:Int),.sl (acc.map sRow)]=some (0,[.sl ((acc++wo (l.drop i) r).map sRow)]):=by
  intro n;induction n with
  | zero =>
   intro i acc hi ha;obtain rfl:i=l.length:=by omega
   rw [e124_0_1];simp only [B6,C0,D4,H4,H2,C8,wo,List.filter_nil,J1]
  | succ n ih =>
   intro i acc hi ha;have hlt:i<l.length:=by omega
   rw [e124_0_1,B8 hlt];simp only [B6,C0,hlt,H3,H1,inbN,B9,rowAt_map hlt,wrap_succ hlt (maxB (by omega)),sRow,nv0,nvS,dvI,dvB,dvS,dvL,B5,r181 r hr,C5,C9]
   rw [ixS_no];unfold wo;rw [O5];cases hh:hasS r l[i] with
   | true=>simp only [D8,H2,Q2,if_false]; exact ih (i+1) acc (by omega) (by omega)
   | false =>
    simp only [K2,H1,if_true];rw [nb (by omega)]
    have:=ih (i+1) (acc++[l[i]]) (by omega) (by simp; omega)
    rw [D6] at this;simp only [H1];simpa [wo,sRow] using this
 have h:=key l.length 0 [] (by omega) (K3 _)
 rw [e124_0_0];simp only [C7,D2,D3,E8] at h ⊢;simp only [h,nv0,nvS,dvI,dvB,dvS,dvL,B5,E6,H1,H2]
end Go.Q.S
end
section
namespace Go.Q.S
open Go Go.Q Go.Proofs
theorem r196 (n:ByteArray) (a:List ByteArray) (r:ByteArray) (h:a.length<=1048576):rn ⟨196,0,0⟩ [.str n,.sl (a.map sRow),.str r]=some (0,[.str n,.str r,.sl (a.map sRow)]):=by
 rw [e196_0_0];have:=rCloneS (a.map sRow) (by rw [B6]; omega)
 simp only [this,nv0,nvS,dvI,dvB,dvS,dvL,B5]
theorem r140 (so:Rows) (ops:List OpM) (ho:SigB ops) (s:ByteArray):rn ⟨140,0,0⟩ [.sl so,.sl (ops.map OpM.row),.str s]=some (0,foRes (findO ops s)):=by
 have hm:=ho.l;have hl:∀ n i,i+n=ops.length->rn ⟨140,0,1⟩ [.str s,.sl (ops.map OpM.row),.int (ops.length:Int),.int (i:Int),.str e0,.str e0,.sl []]=match (ops.drop i).find? (fun o=>decide (o.n=s)) with | some o=>some (1,[.str o.n,.str o.r,.sl (o.a.map sRow)]) | none=>some (0,[.str e0,.str e0,.sl []]):=by
  intro n;induction n with
  | zero =>
   intro i hi;obtain rfl:i=ops.length:=by omega
   rw [e140_0_1];simp only [B6,C0,D4,H4,H2,C8,R8]
  | succ n ih =>
   intro i hi;have hlt:i<ops.length:=by omega
   rw [e140_0_1,B8 hlt];have h1:=r196 ops[i].n ops[i].a ops[i].r (ho.a _ (C4 hlt));simp only [B6,C0,hlt,H3,H1,inbN,B9,rowAt_map hlt,wrap_succ hlt (maxB (by omega)),OpM.row,nv0,nvS,dvI,dvB,dvS,dvL,B5,P1,ih (i+1) (by omega),h1]
   by_cases hq:ops[i].n=s <;> simp [hq]
 have h:=hl ops.length 0 (by omega)
 rw [D3] at h;simp only [C7] at h;rw [e140_0_0];simp only [B6,r141,nv0,nvS,dvI,dvB,dvS,dvL,B5,h];unfold findO;cases isB s with
 | true=>rfl
 | false =>
  cases ops.find? (fun o=>decide (o.n=s)) <;> rfl
theorem r159 (so:Rows) (ops:List OpM) (ho:SigB ops) (s:ByteArray):rn ⟨159,0,0⟩ [.sl so,.sl (ops.map OpM.row),.str s]=some (0,foRes (findO ops s)):=by
 have hm:=ho.l;have hl:∀ n i,i+n=ops.length->rn ⟨159,0,1⟩ [.str s,.int (i:Int),.sl so,.sl (ops.map OpM.row),.str e0,.str e0,.sl []]=match (ops.drop i).find? (fun o=>decide (o.n=s)) with | some o=>some (1,[.str o.n,.str o.r,.sl (o.a.map sRow)]) | none=>some (0,[.str e0,.str e0,.sl []]):=by
  intro n;induction n with
  | zero =>
   intro i hi;obtain rfl:i=ops.length:=by omega
   rw [e159_0_1];simp only [B6,C0,D4,H4,H2,C8,R8]
  | succ n ih =>
   intro i hi;have hlt:i<ops.length:=by omega
   rw [e159_0_1,B8 hlt];have h1:ops[i].a.length<=1048576:=ho.a _ (C4 hlt);have h2:F9 (0+ops[i].a.length) M63=true:=nb (by omega)
   simp only [B6,C0,hlt,H3,H1,inbN,B9,rowAt_map hlt,wrap_succ hlt (maxB (by omega)),OpM.row,nv0,nvS,dvI,dvB,dvS,dvL,B5,P1,ih (i+1) (by omega),C9,h2,E8]
   by_cases hq:ops[i].n=s <;> simp [hq]
 have h:=hl ops.length 0 (by omega)
 rw [D3] at h;simp only [C7] at h;rw [e159_0_0];simp only [B6,r163,nv0,nvS,dvI,dvB,dvS,dvL,B5,h];unfold findO;cases isB s with
 | true=>rfl
 | false =>
  cases ops.find? (fun o=>decide (o.n=s)) <;> rfl
theorem r116 (so:Rows) (ops:List OpM) (ho:SigB ops) (vs:List VS) (hv:vs.length<=1099511627776):∀ t:Tm,Wt t->rn ⟨116,0,0⟩ [.sl so,.sl (ops.map OpM.row),.int t.k,.int t.n,.str t.s,.sl (t.as.map Tm.row),.sl (vs.map VS.row)]=some (0,[.str (sortT ops vs t)]):=Tm.ind fun t ih h=>by
 have hlm:=h.l;have hvl:∀ n i,i+n=vs.length->rn ⟨116,0,2⟩ [.sl (vs.map VS.row),.int (vs.length:Int),.int (i:Int),.int t.k,.int t.n,.str t.s,.sl (t.as.map Tm.row)]=match (vs.drop i).find? (fun v=>decide (v.1=t.s)) with | some v=>some (1,[.str v.2]) | none=>some (0,[]):=by
  intro n;induction n with
  | zero =>
   intro i hi;obtain rfl:i=vs.length:=by omega
   rw [e116_0_2];simp only [B6,C0,D4,H4,H2,C8,R8]
  | succ n ih2 =>
   intro i hi;have hlt:i<vs.length:=by omega
   rw [e116_0_2,B8 hlt];simp only [B6,C0,hlt,H3,H1,inbN,B9,rowAt_map hlt,wrap_succ hlt (maxB hv),VS.row,nv0,nvS,dvI,dvB,dvS,dvL,B5,P1,ih2 (i+1) (by omega)]
   by_cases hq:vs[i].1=t.s <;> simp [hq]
 have hal:∀ o:OpM,o.a.length=t.as.length->∀ n i,i+n=t.as.length->rn ⟨116,0,4⟩ [.sl (vs.map VS.row),.sl (t.as.map Tm.row),.int (t.as.length:Int),.int (i:Int),.sl so,.sl (ops.map OpM.row),.str o.n,.str o.r,.sl (o.a.map sRow)]=bif sortsT ops vs (t.as.drop i) (o.a.drop i) then some (0,[.str o.n,.str o.r,.sl (o.a.map sRow)]) else some (1,[.str e0]):=by
  intro o hlen n;induction n with
  | zero =>
   intro i hi;obtain rfl:i=t.as.length:=by omega
   rw [e116_0_4];simp only [B6,C0,D4,H4,H2,C8,sortsT,H1]
  | succ n ih2 =>
   intro i hi;have hlt:i<t.as.length:=by omega
   have hlo:i<o.a.length:=by omega
   have h1:=ih _ (C4 hlt) (h.sub (C4 hlt));rw [e116_0_4,B8 hlt,B8 hlo];simp only [B6,C0,hlt,H3,H1,inbN,B9,rowAt_map hlt,wrap_succ hlt hlm,hlo,rowAt_map hlo,Tm.row_eq,sRow,nv0,nvS,dvI,dvB,dvS,dvL,B5,ih2 (i+1) (by omega),h1,sortsT]
   by_cases hq:sortT ops vs t.as[i]=e0
   · simp [hq]
   · by_cases hq2:sortT ops vs t.as[i]=o.a[i]
     · have hq3:=hq; rw [hq2] at hq3
       simp [hq2,hq3]
     · simp [hq,hq2]
 have hv0:=hvl vs.length 0 (by omega)
 have ha0:=fun o ho=>hal o ho t.as.length 0 (by omega)
 simp only [D3,C7] at hv0 ha0;rw [e116_0_0,sortT_eq];by_cases h3:t.k=3
 · simp [h3]
 · by_cases h1:t.k=1
   · rw [H6 h3,H5 h1]
     simp only [h1] at hv0;simp only [B6,hv0,h1,H3,H1];unfold lookV;cases vs.find? (fun v=>decide (v.1=t.s)) <;> rfl
   · rw [H6 h3,H6 h1]
     by_cases h2:t.k=2
     · rw [H5 h2]
       simp only [B6,h2,H3,H1,if_true,r140 so ops ho,nv0,nvS,dvI,dvB,dvS,dvL,B5];cases hf:findO ops t.s with
       | none=>rfl
       | some o =>
        by_cases hlen:o.a.length=t.as.length
        · simp only [foRes,nv0,nvS,dvI,dvB,dvS,dvL,B5,B6,hlen,H3,ha0 o hlen]
          cases sortsT ops vs t.as o.a <;> rfl
        · simp only [foRes,nv0,nvS,dvI,dvB,dvS,dvL,B5,B6]
          have:¬((o.a.length:Int)=(t.as.length:Int)):=by omega
          simp [this,hlen]
     · simp [h1,h2,h3]
theorem r158 (vs:List VS) (hv:vs.length<=1099511627776) (s:ByteArray):rn ⟨158,0,0⟩ [.sl (vs.map VS.row),.str s]=some (0,[.str (lookV vs s)]):=by
 have hvl:∀ n i,i+n=vs.length->rn ⟨158,0,1⟩ [.sl (vs.map VS.row),.str s,.int (i:Int)]=match (vs.drop i).find? (fun v=>decide (v.1=s)) with | some v=>some (1,[.str v.2]) | none=>some (0,[]):=by
  intro n;induction n with
  | zero =>
   intro i hi;obtain rfl:i=vs.length:=by omega
   rw [e158_0_1];simp only [B6,C0,D4,H4,H2,C8,R8]
  | succ n ih2 =>
   intro i hi;have hlt:i<vs.length:=by omega
   rw [e158_0_1,B8 hlt];simp only [B6,C0,hlt,H3,H1,inbN,B9,rowAt_map hlt,wrap_succ hlt (maxB hv),VS.row,nv0,nvS,dvI,dvB,dvS,dvL,B5,P1,ih2 (i+1) (by omega)]
   by_cases hq:vs[i].1=s <;> simp [hq]
 have hv0:=hvl vs.length 0 (by omega)
 simp only [D3,C7] at hv0;rw [e158_0_0];rw [hv0];unfold lookV;cases vs.find? (fun v=>decide (v.1=s)) <;> rfl
theorem r100 (so:Rows) (ops:List OpM) (ho:SigB ops) (vs:List VS) (hv:vs.length<=1099511627776):∀ t:Tm,Wt t->rn ⟨100,0,0⟩ [.sl so,.sl (ops.map OpM.row),.int t.k,.int t.n,.str t.s,.sl (t.as.map Tm.row),.sl (vs.map VS.row)]=some (0,[.str (sortT ops vs t)]):=Tm.ind fun t ih h=>by
 have hlm:=h.l;have hal:∀ o:OpM,o.a.length=t.as.length->∀ n i,i+n=t.as.length->rn ⟨100,0,2⟩ [.sl (vs.map VS.row),.int (i:Int),.sl so,.sl (ops.map OpM.row),.int t.k,.int t.n,.str t.s,.sl (t.as.map Tm.row),.str o.n,.str o.r,.sl (o.a.map sRow)]=bif sortsT ops vs (t.as.drop i) (o.a.drop i) then some (0,[.str o.n,.str o.r,.sl (o.a.map sRow)]) else some (1,[.str e0]):=by
  intro o hlen n;induction n with
  | zero =>
   intro i hi;obtain rfl:i=t.as.length:=by omega
   rw [e100_0_2];simp only [B6,C0,D4,H4,H2,C8,sortsT,H1]
  | succ n ih2 =>
   intro i hi;have hlt:i<t.as.length:=by omega
   have hlo:i<o.a.length:=by omega
   have h1:=ih _ (C4 hlt) (h.sub (C4 hlt));rw [e100_0_2,B8 hlt,B8 hlo];simp only [B6,C0,hlt,H3,H1,inbN,B9,rowAt_map hlt,wrap_succ hlt hlm,hlo,rowAt_map hlo,Tm.row_eq,sRow,nv0,nvS,dvI,dvB,dvS,dvL,B5,ih2 (i+1) (by omega),h1,sortsT]
   by_cases hq2:sortT ops vs t.as[i]=o.a[i]
   · by_cases hq:o.a[i]=e0
     · simp [hq2,hq]
     · simp [hq2,hq]
   · simp [hq2]
 have ha0:=fun o ho=>hal o ho t.as.length 0 (by omega)
 simp only [D3,C7] at ha0;rw [e100_0_0,sortT_eq];by_cases h3:t.k=3
 · simp [h3]
 · by_cases h1:t.k=1
   · rw [H6 h3,H5 h1]
     simp only [h1,H3,H1,r158 vs hv,nv0,nvS,dvI,dvB,dvS,dvL,B5];rfl
   · rw [H6 h3,H6 h1]
     by_cases h2:t.k=2
     · rw [H5 h2]
       simp only [h2,H3,H1,if_true,r159 so ops ho,nv0,nvS,dvI,dvB,dvS,dvL,B5];cases hf:findO ops t.s with
       | none=>rfl
       | some o =>
        by_cases hlen:o.a.length=t.as.length
        · have:=ha0 o hlen
          rw [h2] at this;simp only [foRes,nv0,nvS,dvI,dvB,dvS,dvL,B5,B6,hlen,H3,this];cases sortsT ops vs t.as o.a <;> rfl
        · simp only [foRes,nv0,nvS,dvI,dvB,dvS,dvL,B5,B6]
          have:¬((o.a.length:Int)=(t.as.length:Int)):=by omega
          simp [this,hlen]
     · simp [h1,h2,h3]
end Go.Q.S
end
section
namespace Go.Q.S
open Go Go.Q Go.Proofs
theorem inferI (so:Rows) (ops:List OpM) (ho:SigB ops):∀ t:Tm,∀ (x:ByteArray) (vs:List VS),Wt t->vs.length+t.nodes<=4194304->rn ⟨214,1,0⟩ [.sl so,.sl (ops.map OpM.row),.int t.k,.int t.n,.str t.s,.sl (t.as.map Tm.row),.str x,.sl (vs.map VS.row)]=some (0,infR ops t x vs):=Tm.ind fun t ih x vs h hb=>by
 have hlm:=h.l;have hnd:=Tm.nodes_eq t;have hvl:∀ n i,i+n=vs.length->rn ⟨214,1,1⟩ [.str x,.int (vs.length:Int),.int (i:Int),.sl (vs.map VS.row),.int t.k,.int t.n,.str t.s,.sl (t.as.map Tm.row)]=match (vs.drop i).find? (fun v=>decide (v.1=t.s)) with | some v=>some (1,[.bool (decide (v.2=x)),.sl (vs.map VS.row)]) | none=>some (0,[.str x,.sl (vs.map VS.row),.int t.k,.int t.n,.str t.s,.sl (t.as.map Tm.row)]):=by
  intro n;induction n with
  | zero =>
   intro i hi;obtain rfl:i=vs.length:=by omega
   rw [e214_1_1];simp only [B6,C0,D4,H4,H2,C8,R8]
  | succ n ih2 =>
   intro i hi;have hlt:i<vs.length:=by omega
   rw [e214_1_1,B8 hlt];simp only [B6,C0,hlt,H3,H1,inbN,B9,rowAt_map hlt,wrap_succ hlt (maxB (by omega)),VS.row,nv0,nvS,dvI,dvB,dvS,dvL,B5,P1,ih2 (i+1) (by omega)]
   by_cases hq:vs[i].1=t.s <;> simp [hq]
 have hal:∀ (n1 n2:ByteArray) (a:List ByteArray),a.length<=1048576->∀ n i (vs:List VS),i+n=t.as.length->vs.length+((t.as.drop i).map Tm.nodes).sum<=4194304->rn ⟨214,1,3⟩ [.sl (t.as.map Tm.row),.int (t.as.length:Int),.int (i:Int),.sl (vs.map VS.row),.sl so,.sl (ops.map OpM.row),.str n1,.str n2,.sl (a.map sRow)]=match infL ops (t.as.drop i) (a.drop i) vs with | some v=>some (0,[.sl (v.map VS.row)]) | none=>some (1,[.sl []]):=by
  intro n1 n2 a hal n;induction n with
  | zero =>
   intro i vs hi hb;obtain rfl:i=t.as.length:=by omega
   rw [e214_1_3];simp only [B6,C0,D4,H4,H2,C8,infL]
  | succ n ih2 =>
   intro i vs hi hb;have hlt:i<t.as.length:=by omega
   have hmem:=C4 hlt;rw [B8 hlt] at hb ⊢;simp only [C2,J4] at hb;rw [e214_1_3];by_cases hla:i<a.length
   · have h1:=ih _ hmem a[i] vs (h.sub hmem) (by omega)
     rw [B8 hla];simp only [B6,C0,hlt,H3,H1,inbN,B9,rowAt_map hlt,wrap_succ hlt hlm,hla,rowAt_map hla,Tm.row_eq,sRow,nv0,nvS,dvI,dvB,dvS,dvL,B5,h1,infL,infR];cases hq:infT ops t.as[i] a[i] vs with
     | none=>rfl
     | some v =>
      have hv:=infT_len ops _ _ _ _ hq;have h2:=ih2 (i+1) v (by omega) (by omega)
      simp only [nv0,nvS,dvI,dvB,dvS,dvL,B5,h2,D8,H2]
   · have h1:=ih _ hmem e0 vs (h.sub hmem) (by omega)
     rw [show a.drop i=[] from O8 (by omega)]
     simp only [B6,C0,hlt,H3,H1,inbN,B9,rowAt_map hlt,wrap_succ hlt hlm,hla,H4,H2,Tm.row_eq,sRow,nv0,nvS,dvI,dvB,dvS,dvL,B5,h1,infL,infR];cases hq:infT ops t.as[i] e0 vs with
     | none=>rfl
     | some v =>
      have hv:=infT_len ops _ _ _ _ hq;have h2:=ih2 (i+1) v (by omega) (by omega)
      rw [show a.drop (i+1)=[] from O8 (by omega)] at h2
      simp only [nv0,nvS,dvI,dvB,dvS,dvL,B5,h2,D8,H2]
 have hv0:=hvl vs.length 0 (by omega)
 have ha0:=fun n1 n2 a ha=>hal n1 n2 a ha t.as.length 0 vs (by omega) (by rw [D3]; omega)
 simp only [D3,C7] at hv0 ha0;rw [e214_1_0];unfold infR;rw [infT_eq];by_cases h1:t.k=1
 · rw [H5 h1,H5 h1]
   simp only [h1] at hv0;have hb2:F9 (vs.length+1) M63=true:=nb (by omega)
   simp only [B6,h1,H3,H1,hv0];cases hq:vs.find? (fun v=>decide (v.1=t.s)) with
   | none=>simp only [nv0,nvS,dvI,dvB,dvS,dvL,B5,E6,H1,H2,B6,C5,C9,D7,hb2,D6]; rfl
   | some v =>
    simp only [nv0,nvS,dvI,dvB,dvS,dvL,B5,E6,H1,H2,show E3 1 0=false from rfl]
    by_cases hq2:v.2=x <;> simp [hq2]
 · rw [H6 h1,H6 h1]
   by_cases h2:t.k=2
   · simp only [B6,h2,H3,H1,if_true,r140 so ops ho,nv0,nvS,dvI,dvB,dvS,dvL,B5]
     cases hf:findO ops t.s with
     | none =>
      simp only [foRes,nv0,nvS,dvI,dvB,dvS,dvL,B5];rw [show ([]:Rows)=([]:List ByteArray).map sRow from rfl,ha0 e0 e0 [] (by simp)]
      cases infL ops t.as [] vs <;> rfl
     | some o =>
      have hok:o.ok:=findO_ok ho.a hf;simp only [foRes,nv0,nvS,dvI,dvB,dvS,dvL,B5];rw [ha0 o.n o.r o.a hok];cases infL ops t.as o.a vs <;> rfl
   · simp only [B6,h1,h2,H4,H2,if_false]
     rw [show ([]:Rows)=([]:List ByteArray).map sRow from rfl,ha0 e0 e0 [] (by simp)]
     cases infL ops t.as [] vs <;> rfl
theorem inferS (so:Rows) (ops:List OpM) (ho:SigB ops):∀ t:Tm,∀ (x:ByteArray) (vs:List VS),Wt t->vs.length+t.nodes<=4194304->rn ⟨211,1,0⟩ [.sl so,.sl (ops.map OpM.row),.int t.k,.int t.n,.str t.s,.sl (t.as.map Tm.row),.str x,.sl (vs.map VS.row)]=some (0,infR ops t x vs):=Tm.ind fun t ih x vs h hb=>by
 have hlm:=h.l;have hnd:=Tm.nodes_eq t;have hvl:∀ n i,i+n=vs.length->rn ⟨211,1,1⟩ [.str x,.int (i:Int),.sl (vs.map VS.row),.int t.k,.int t.n,.str t.s,.sl (t.as.map Tm.row)]=match (vs.drop i).find? (fun v=>decide (v.1=t.s)) with | some v=>some (1,[.bool (decide (v.2=x)),.sl (vs.map VS.row)]) | none=>some (0,[.str x,.sl (vs.map VS.row),.int t.k,.int t.n,.str t.s,.sl (t.as.map Tm.row)]):=by
  intro n;induction n with
  | zero =>
   intro i hi;obtain rfl:i=vs.length:=by omega
   rw [e211_1_1];simp only [B6,C0,D4,H4,H2,C8,R8]
  | succ n ih2 =>
   intro i hi;have hlt:i<vs.length:=by omega
   rw [e211_1_1,B8 hlt];simp only [B6,C0,hlt,H3,H1,inbN,B9,rowAt_map hlt,wrap_succ hlt (maxB (by omega)),VS.row,nv0,nvS,dvI,dvB,dvS,dvL,B5,P1,ih2 (i+1) (by omega)]
   by_cases hq:vs[i].1=t.s <;> simp [hq]
 have hal:∀ (n1 n2:ByteArray) (a:List ByteArray),a.length<=1048576->∀ n i (vs:List VS),i+n=t.as.length->vs.length+((t.as.drop i).map Tm.nodes).sum<=4194304->rn ⟨211,1,3⟩ [.int (i:Int),.sl (vs.map VS.row),.sl so,.sl (ops.map OpM.row),.int t.k,.int t.n,.str t.s,.sl (t.as.map Tm.row),.str n1,.str n2,.sl (a.map sRow)]=match infL ops (t.as.drop i) (a.drop i) vs with | some v=>some (0,[.sl (v.map VS.row)]) | none=>some (1,[.sl []]):=by
  intro n1 n2 a hal n;induction n with
  | zero =>
   intro i vs hi hb;obtain rfl:i=t.as.length:=by omega
   rw [e211_1_3];simp only [B6,C0,D4,H4,H2,C8,infL]
  | succ n ih2 =>
   intro i vs hi hb;have hlt:i<t.as.length:=by omega
   have hmem:=C4 hlt;rw [B8 hlt] at hb ⊢;simp only [C2,J4] at hb;rw [e211_1_3];by_cases hla:i<a.length
   · have h1:=ih _ hmem a[i] vs (h.sub hmem) (by omega)
     rw [B8 hla];simp only [B6,C0,hlt,H3,H1,inbN,B9,rowAt_map hlt,wrap_succ hlt hlm,hla,rowAt_map hla,Tm.row_eq,sRow,nv0,nvS,dvI,dvB,dvS,dvL,B5,h1,infL,infR];cases hq:infT ops t.as[i] a[i] vs with
     | none=>rfl
     | some v =>
      have hv:=infT_len ops _ _ _ _ hq;have h2:=ih2 (i+1) v (by omega) (by omega)
      simp only [nv0,nvS,dvI,dvB,dvS,dvL,B5,h2,D8,H2]
   · have h1:=ih _ hmem e0 vs (h.sub hmem) (by omega)
     rw [show a.drop i=[] from O8 (by omega)]
     simp only [B6,C0,hlt,H3,H1,inbN,B9,rowAt_map hlt,wrap_succ hlt hlm,hla,H4,H2,Tm.row_eq,sRow,nv0,nvS,dvI,dvB,dvS,dvL,B5,h1,infL,infR];cases hq:infT ops t.as[i] e0 vs with
     | none=>rfl
     | some v =>
      have hv:=infT_len ops _ _ _ _ hq;have h2:=ih2 (i+1) v (by omega) (by omega)
      rw [show a.drop (i+1)=[] from O8 (by omega)] at h2
      simp only [nv0,nvS,dvI,dvB,dvS,dvL,B5,h2,D8,H2]
 have hv0:=hvl vs.length 0 (by omega)
 have ha0:=fun n1 n2 a ha=>hal n1 n2 a ha t.as.length 0 vs (by omega) (by rw [D3]; omega)
 simp only [D3,C7] at hv0 ha0;rw [e211_1_0];unfold infR;rw [infT_eq];by_cases h1:t.k=1
 · rw [H5 h1,H5 h1]
   simp only [h1] at hv0;have hb2:F9 (vs.length+1) M63=true:=nb (by omega)
   simp only [B6,h1,H3,H1,hv0];cases hq:vs.find? (fun v=>decide (v.1=t.s)) with
   | none=>simp only [nv0,nvS,dvI,dvB,dvS,dvL,B5,E6,H1,H2,B6,C5,C9,D7,hb2,D6]; rfl
   | some v =>
    simp only [nv0,nvS,dvI,dvB,dvS,dvL,B5,E6,H1,H2,show E3 1 0=false from rfl]
    by_cases hq2:v.2=x <;> simp [hq2]
 · rw [H6 h1,H6 h1]
   by_cases h2:t.k=2
   · simp only [h2] at ha0
     simp only [B6,h2,H3,H1,if_true,r159 so ops ho,nv0,nvS,dvI,dvB,dvS,dvL,B5];cases hf:findO ops t.s with
     | none =>
      simp only [foRes,nv0,nvS,dvI,dvB,dvS,dvL,B5];rw [show ([]:Rows)=([]:List ByteArray).map sRow from rfl,ha0 e0 e0 [] (by simp)]
      cases infL ops t.as [] vs <;> rfl
     | some o =>
      have hok:o.ok:=findO_ok ho.a hf;simp only [foRes,nv0,nvS,dvI,dvB,dvS,dvL,B5];rw [ha0 o.n o.r o.a hok];cases infL ops t.as o.a vs <;> rfl
   · simp only [B6,h1,h2,H4,H2,if_false]
     rw [show ([]:Rows)=([]:List ByteArray).map sRow from rfl,ha0 e0 e0 [] (by simp)]
     cases infL ops t.as [] vs <;> rfl
theorem r194 (so:Rows) (ops:List OpM) (ho:SigB ops) (t:Tm) (h:Wt t) (hn:t.nodes<=1048577) (x:ByteArray):rn ⟨194,0,0⟩ [.sl so,.sl (ops.map OpM.row),.int t.k,.int t.n,.str t.s,.sl (t.as.map Tm.row),.str x]=some (0,infVR (infV ops t x)):=by
 have h1:=inferI so ops ho t x [] h (by simp; omega)
 rw [D2] at h1;rw [e194_0_0,h1];unfold infR infV;cases hq:infT ops t x [] with
 | none=>rfl
 | some vs =>
  have hv:=infT_len ops _ _ _ _ hq;rw [C9] at hv;have h2:=r116 so ops ho vs (by omega) t h
  simp only [nv0,nvS,dvI,dvB,dvS,dvL,B5,h2];by_cases hx:x=e0
  · simp [hx,infVR]
  · by_cases hs:sortT ops vs t=x <;> simp [hx,hs,infVR]
theorem r188 (so:Rows) (ops:List OpM) (ho:SigB ops) (t:Tm) (h:Wt t) (hn:t.nodes<=1048577) (x:ByteArray):rn ⟨188,0,0⟩ [.sl so,.sl (ops.map OpM.row),.int t.k,.int t.n,.str t.s,.sl (t.as.map Tm.row),.str x]=some (0,infVR (infV ops t x)):=by
 have h1:=inferS so ops ho t x [] h (by simp; omega)
 rw [D2] at h1;rw [e188_0_0,h1];unfold infR infV;cases hq:infT ops t x [] with
 | none=>rfl
 | some vs =>
  have hv:=infT_len ops _ _ _ _ hq;rw [C9] at hv;have h2:=r100 so ops ho vs (by omega) t h
  simp only [nv0,nvS,dvI,dvB,dvS,dvL,B5,h2];by_cases hx:x=e0
  · simp [hx,infVR]
  · by_cases hs:sortT ops vs t=x <;> simp [hx,hs,infVR]
end Go.Q.S
end
section
namespace Go.Q.S
open Go Go.Q Go.Proofs
def opOK (so:List ByteArray) (o:OpM):Bool:=isNm o.n&&(!isB o.n&&(decide (o.a.length<=3)&&(o.a.all (fun x=>decide (x=wordS)||hasS so x)&&(decide (o.r=wordS)||hasS so o.r))))
theorem sigOK_eq (so:List ByteArray) (ops:List OpM):sigOK so ops=(decide (so.length<=4)&&(dis so&&(decide (ops.length<=16)&&((so.all fun x=>isNm x&&!decide (x=wordS))&&(ops.all (opOK so)&&dis (ops.map (·.n))))))):=rfl
theorem r138 (so:List ByteArray) (hso:so.length<=1048576) (hss:∀ x∈so,x.size<=maxLen) (ops:List OpM) (ho:SigB ops) (hon:∀ o∈ops,o.n.size<=maxLen):rn ⟨138,0,0⟩ [.sl (so.map sRow),.sl (ops.map OpM.row)]=some (0,[.bool (sigOK so ops)]):=by
 have hm:=ho.l;have hl1:∀ n i,i+n=so.length->rn ⟨138,0,1⟩ [.sl (so.map sRow),.int (so.length:Int),.int (i:Int),.sl (so.map sRow),.sl (ops.map OpM.row)]=bif (so.drop i).all (fun x=>isNm x&&!decide (x=wordS)) then some (0,[.sl (so.map sRow),.sl (ops.map OpM.row)]) else some (1,[]):=by
  intro n;induction n with
  | zero =>
   intro i hi;obtain rfl:i=so.length:=by omega
   rw [e138_0_1];simp only [B6,C0,D4,H4,H2,C8,N8,H1]
  | succ n ih =>
   intro i hi;have hlt:i<so.length:=by omega
   rw [e138_0_1,B8 hlt];have h1:=r190 so[i] (hss _ (C4 hlt));simp only [B6,C0,hlt,H3,H1,inbN,B9,rowAt_map hlt,wrap_succ hlt (maxB (by omega)),sRow,nv0,nvS,dvI,dvB,dvS,dvL,B5,h1,ih (i+1) (by omega),J9]
   cases isNm so[i]
   · rfl
   · by_cases hq:so[i]=wordS <;> simp [hq]
 have hl5:∀ (o:OpM),o.a.length<=1048576->∀ (x0:Rows) (x1 x2:Int) (x3:ByteArray) (x4:Bool) (x5:Rows) (x6:Int) (x7:Bool) (x11 x12:Rows) (x13:ByteArray) (x14:Rows) (x15:ByteArray),∀ n i,i+n=(o.a++[o.r]).length->rn ⟨138,0,5⟩ [.sl x0,.int x1,.int x2,.str x3,.bool x4,.sl x5,.int x6,.bool x7,.int ((o.a++[o.r]).length:Int),.int (i:Int),.sl (so.map sRow),.sl x11,.sl x12,.str x13,.sl x14,.str x15,.sl ((o.a++[o.r]).map sRow)]=bif ((o.a++[o.r]).drop i).all (fun x=>decide (x=wordS)||hasS so x) then some (0,[.sl x0,.int x1,.int x2,.str x3,.bool x4,.sl x5,.int x6,.bool x7,.sl (so.map sRow),.sl x11,.sl x12,.str x13,.sl x14,.str x15]) else some (1,[]):=by
  intro o hoa x0 x1 x2 x3 x4 x5 x6 x7 x11 x12 x13 x14 x15;have hL:(o.a++[o.r]).length<=1048577:=by simp; omega
  generalize o.a++[o.r]=l at hL ⊢;intro n;induction n with
  | zero =>
   intro i hi;obtain rfl:i=l.length:=by omega
   rw [e138_0_5];simp only [B6,C0,D4,H4,H2,C8,N8,H1]
  | succ n ih =>
   intro i hi;have hlt:i<l.length:=by omega
   rw [e138_0_5,B8 hlt];have h1:=rContS so (maxB (by omega)) l[i]
   simp only [B6,C0,hlt,H3,H1,inbN,B9,rowAt_map hlt,wrap_succ hlt (maxB (by omega)),sRow,nv0,nvS,dvI,dvB,dvS,dvL,B5,h1,ih (i+1) (by omega),J9]
   by_cases hq:l[i]=wordS
   · simp [hq]
   · cases hasS so l[i] <;> simp [hq]
 have hl3:∀ n i (acc:List ByteArray),i+n=ops.length->acc.length<=i->rn ⟨138,0,3⟩ [.sl (ops.map OpM.row),.int (ops.length:Int),.int (i:Int),.sl (so.map sRow),.sl (ops.map OpM.row),.sl (acc.map sRow)]=bif (ops.drop i).all (opOK so) then some (0,[.sl ((acc++(ops.drop i).map (·.n)).map sRow)]) else some (1,[]):=by
  intro n;induction n with
  | zero =>
   intro i acc hi ha;obtain rfl:i=ops.length:=by omega
   rw [e138_0_3];simp only [B6,C0,D4,H4,H2,C8,N8,H1,D2,J1]
  | succ n ih =>
   intro i acc hi ha;have hlt:i<ops.length:=by omega
   have hmem:=C4 hlt;rw [e138_0_3,B8 hlt];have h1:=r190 ops[i].n (hon _ hmem);have hoa:ops[i].a.length<=1048576:=ho.a _ hmem;have h2:=rCloneS (ops[i].a.map sRow) (by rw [B6]; omega)
   have hb:F9 (ops[i].a.length+1) M63=true:=nb (by omega)
   have hb2:F9 (acc.length+1) M63=true:=nb (by omega)
   have h5:=fun x0 x1 x2 x3 x4 x5 x6 x7 x11 x12 x13 x14 x15=>hl5 ops[i] hoa x0 x1 x2 x3 x4 x5 x6 x7 x11 x12 x13 x14 x15 (ops[i].a++[ops[i].r]).length 0 (by omega)
   simp only [D3,C7,E2,C5,C9,D7,D6,C2,D2,sRow] at h5;have h6:=ih (i+1) (acc++[ops[i].n]) (by omega) (by simp; omega)
   simp only [D6,C2,D2,sRow] at h6;simp only [B6,C0,hlt,H3,H1,inbN,B9,rowAt_map hlt,wrap_succ hlt (maxB (by omega)),OpM.row,nv0,nvS,dvI,dvB,dvS,dvL,B5,h1,r141,h2,C5,C9,D7,hb,E2,J9]
   rw [show opOK so ops[i]=(isNm ops[i].n&&(!isB ops[i].n&&(decide (ops[i].a.length<=3)&&(ops[i].a.all (fun x=>decide (x=wordS)||hasS so x)&&(decide (ops[i].r=wordS)||hasS so ops[i].r))))) from rfl]
   cases isNm ops[i].n
   · rfl
   · cases isB ops[i].n
     · by_cases h3:ops[i].a.length<=3
       · have h3':¬((3:Int)<(ops[i].a.length:Int)):=by omega
         simp only [h3,h3',H3,H4,H1,H2,D8,K2,G5];rw [h5,List.all_append];simp only [J9,N8,N5];cases (ops[i].a.all (fun x=>decide (x=wordS)||hasS so x)&&(decide (ops[i].r=wordS)||hasS so ops[i].r)) with
         | false=>rfl
         | true =>
          simp only [H1,nv0,nvS,dvI,dvB,dvS,dvL,B5,E6,H1,H2,B6,hb2,wrap_succ hlt (maxB (by omega)),h6,G5]
          simp only [D6,C2,E1,J2,E8,sRow]
       · have h3':((3:Int)<(ops[i].a.length:Int)):=by omega
         simp [h3,h3']
     · rfl
 have h1:=hl1 so.length 0 (by omega)
 have h3:=hl3 ops.length 0 [] (by omega) (K3 _)
 simp only [D3,C7,D2,E8] at h1 h3;have hd:=r113 so (by omega)
 have hd2:=r113 (ops.map (·.n)) (by rw [B6]; omega)
 rw [e138_0_0,sigOK_eq];simp only [B6,hd,nv0,nvS,dvI,dvB,dvS,dvL,B5];by_cases hs:so.length<=4
 · have hs':¬((4:Int)<(so.length:Int)):=by omega
   simp only [hs,hs',H3,H4,H2,G5];cases dis so
   · rfl
   · by_cases hs2:ops.length<=16
     · have hs2':¬((16:Int)<(ops.length:Int)):=by omega
       simp only [hs2,hs2',H3,H4,H2,G5,D8,h1];cases so.all (fun x=>isNm x&&!decide (x=wordS))
       · rfl
       · simp only [H1,nv0,nvS,dvI,dvB,dvS,dvL,B5,E6,H1,H2,B6,h3,G5]
         cases ops.all (opOK so)
         · rfl
         · simp only [H1,nv0,nvS,dvI,dvB,dvS,dvL,B5,E6,H1,H2,hd2,G5]
     · have hs2':((16:Int)<(ops.length:Int)):=by omega
       simp [hs2,hs2']
 · have hs':((4:Int)<(so.length:Int)):=by omega
   simp [hs,hs']
theorem r216 (so:List ByteArray) (hso:so.length<=1048576) (ops:Rows) (x:ByteArray):rn ⟨216,0,0⟩ [.sl (so.map sRow),.sl ops,.str x]=some (0,[.bool (decide (x=wordS)||hasS so x)]):=by
 have h1:=r181 so (maxB (by omega)) x
 rw [e216_0_0];simp only [h1,nv0,nvS,dvI,dvB,dvS,dvL,B5,ixS_has];by_cases hq:x=wordS <;> simp [hq]
theorem r201 (so:List ByteArray) (hso:so.length<=1048576) (ops:Rows) (o:OpM) (hoa:o.a.length<=1048576) (hon:o.n.size<=maxLen):rn ⟨201,0,0⟩ [.sl (so.map sRow),.sl ops,.str o.n,.sl (o.a.map sRow),.str o.r]=some (0,[.bool (opOK so o)]):=by
 have hl:∀ n i,i+n=o.a.length->rn ⟨201,0,1⟩ [.int (i:Int),.sl (so.map sRow),.sl ops,.str o.n,.sl (o.a.map sRow),.str o.r]=bif (o.a.drop i).all (fun x=>decide (x=wordS)||hasS so x) then some (0,[.sl (so.map sRow),.sl ops,.str o.n,.sl (o.a.map sRow),.str o.r]) else some (1,[]):=by
  intro n;induction n with
  | zero =>
   intro i hi;obtain rfl:i=o.a.length:=by omega
   rw [e201_0_1];simp only [B6,C0,D4,H4,H2,C8,N8,H1]
  | succ n ih =>
   intro i hi;have hlt:i<o.a.length:=by omega
   rw [e201_0_1,B8 hlt];have h1:=r216 so hso ops o.a[i];simp only [B6,C0,hlt,H3,H1,inbN,B9,rowAt_map hlt,wrap_succ hlt (maxB (by omega)),sRow,nv0,nvS,dvI,dvB,dvS,dvL,B5,h1,ih (i+1) (by omega),J9]
   cases (decide (o.a[i]=wordS)||hasS so o.a[i]) <;> rfl
 have h:=hl o.a.length 0 (by omega)
 simp only [D3,C7] at h;have hn:=r186 o.n hon;rw [e201_0_0,h];unfold opOK;cases (o.a.all fun x=>decide (x=wordS)||hasS so x) with
 | false=>cases isNm o.n <;> cases isB o.n <;> cases decide (o.a.length<=3) <;> rfl
 | true =>
  have i3:((o.a.length:Int)<=3)↔o.a.length<=3:=by omega
  simp only [H1,nv0,nvS,dvI,dvB,dvS,dvL,B5,E6,H1,H2,hn,r163,r216 so hso ops,B6,i3,G5];cases isNm o.n <;> cases isB o.n <;> cases decide (o.a.length<=3) <;> rfl
theorem r151 (so:List ByteArray) (hso:so.length<=1048576) (hss:∀ x∈so,x.size<=maxLen) (ops:List OpM) (ho:SigB ops) (hon:∀ o∈ops,o.n.size<=maxLen):rn ⟨151,0,0⟩ [.sl (so.map sRow),.sl (ops.map OpM.row)]=some (0,[.bool (sigOK so ops)]):=by
 have hm:=ho.l;have hl1:∀ n i,i+n=so.length->rn ⟨151,0,1⟩ [.int (i:Int),.sl (so.map sRow),.sl (ops.map OpM.row),.sl []]=bif (so.drop i).all (fun x=>isNm x&&!decide (x=wordS)) then some (0,[.sl (so.map sRow),.sl (ops.map OpM.row),.sl []]) else some (1,[]):=by
  intro n;induction n with
  | zero =>
   intro i hi;obtain rfl:i=so.length:=by omega
   rw [e151_0_1];simp only [B6,C0,D4,H4,H2,C8,N8,H1]
  | succ n ih =>
   intro i hi;have hlt:i<so.length:=by omega
   rw [e151_0_1,B8 hlt];have h1:=r186 so[i] (hss _ (C4 hlt));simp only [B6,C0,hlt,H3,H1,inbN,B9,rowAt_map hlt,wrap_succ hlt (maxB (by omega)),sRow,nv0,nvS,dvI,dvB,dvS,dvL,B5,h1,ih (i+1) (by omega),J9]
   cases isNm so[i]
   · rfl
   · by_cases hq:so[i]=wordS <;> simp [hq]
 have hl3:∀ n i (acc:List ByteArray),i+n=ops.length->acc.length<=i->rn ⟨151,0,3⟩ [.int (i:Int),.sl (so.map sRow),.sl (ops.map OpM.row),.sl (acc.map sRow)]=bif (ops.drop i).all (opOK so) then some (0,[.sl (so.map sRow),.sl (ops.map OpM.row),.sl ((acc++(ops.drop i).map (·.n)).map sRow)]) else some (1,[]):=by
  intro n;induction n with
  | zero =>
   intro i acc hi ha;obtain rfl:i=ops.length:=by omega
   rw [e151_0_3];simp only [B6,C0,D4,H4,H2,C8,N8,H1,D2,J1]
  | succ n ih =>
   intro i acc hi ha;have hlt:i<ops.length:=by omega
   have hmem:=C4 hlt;rw [e151_0_3,B8 hlt];have h1:=r201 so hso (ops.map OpM.row) ops[i] (ho.a _ hmem) (hon _ hmem);have hb2:F9 (acc.length+1) M63=true:=nb (by omega)
   have h6:=ih (i+1) (acc++[ops[i].n]) (by omega) (by simp; omega)
   simp only [D6,C2,D2,sRow] at h6;simp only [B6,C0,hlt,H3,H1,inbN,B9,rowAt_map hlt,wrap_succ hlt (maxB (by omega)),OpM.row,nv0,nvS,dvI,dvB,dvS,dvL,B5,h1,C5,C9,D7,hb2,h6,J9]
   cases opOK so ops[i] with
   | false=>rfl
   | true=>simp only [D6,C2,E1,J2,E8,sRow,D8,H2,H1,G5]
 have h1:=hl1 so.length 0 (by omega)
 have h3:=hl3 ops.length 0 [] (by omega) (K3 _)
 simp only [D3,C7,D2,E8] at h1 h3;have hd:=r152 so (maxB (by omega))
 have hd2:=r152 (ops.map (·.n)) (by rw [B6]; exact maxB (by omega))
 rw [e151_0_0,sigOK_eq,h1];have i1:((so.length:Int)<=4)↔so.length<=4:=by omega
 have i2:((ops.length:Int)<=16)↔ops.length<=16:=by omega
 cases so.all (fun x=>isNm x&&!decide (x=wordS)) with
 | false=>cases decide (so.length<=4) <;> cases dis so <;> cases decide (ops.length<=16) <;> rfl
 | true =>
  simp only [H1,nv0,nvS,dvI,dvB,dvS,dvL,B5,E6,H1,H2,h3,G5];cases ops.all (opOK so) with
  | false=>cases decide (so.length<=4) <;> cases dis so <;> cases decide (ops.length<=16) <;> rfl
  | true =>
   simp only [H1,nv0,nvS,dvI,dvB,dvS,dvL,B5,E6,H1,H2,B6,hd,hd2,i1,i2,G5];cases decide (so.length<=4) <;> cases dis so <;> cases decide (ops.length<=16) <;> rfl
end Go.Q.S
end
section
namespace Go.Q.S
open Go Go.Q Go.Proofs
theorem r193:∀ t:Tm,Wt t->rn ⟨193,0,0⟩ [.int t.k,.int t.n,.str t.s,.sl (t.as.map Tm.row)]=some (0,[.bool (lackB t)]):=Tm.ind fun t ih h=>by
 have hlm:=h.l;have hl:∀ n i,i+n=t.as.length->rn ⟨193,0,1⟩ [.sl (t.as.map Tm.row),.int (t.as.length:Int),.int (i:Int)]=bif lackBL (t.as.drop i) then some (0,[]) else some (1,[]):=by
  intro n;induction n with
  | zero =>
   intro i hi;obtain rfl:i=t.as.length:=by omega
   rw [e193_0_1];simp only [B6,C0,D4,H4,H2,C8,lackBL,H1]
  | succ n ih2 =>
   intro i hi;have hlt:i<t.as.length:=by omega
   rw [e193_0_1,B8 hlt];have h1:=ih _ (C4 hlt) (h.sub (C4 hlt));simp only [B6,C0,hlt,H3,H1,inbN,B9,rowAt_map hlt,wrap_succ hlt hlm,Tm.row_eq,nv0,nvS,dvI,dvB,dvS,dvL,B5,h1,ih2 (i+1) (by omega),lackBL]
   cases lackB t.as[i] <;> simp
 have h0:=hl t.as.length 0 (by omega)
 simp only [D3,C7] at h0;rw [e193_0_0,lackB_eq];simp only [B6,h0,r141,nv0,nvS,dvI,dvB,dvS,dvL,B5];by_cases h2:t.k=2 <;> cases isB t.s <;> cases lackBL t.as <;> simp [h2] <;> rfl
theorem r187:∀ t:Tm,Wt t->rn ⟨187,0,0⟩ [.int t.k,.int t.n,.str t.s,.sl (t.as.map Tm.row)]=some (0,[.bool (!lackB t)]):=Tm.ind fun t ih h=>by
 have hlm:=h.l;have hl:∀ n i,i+n=t.as.length->rn ⟨187,0,1⟩ [.int (i:Int),.int t.k,.int t.n,.str t.s,.sl (t.as.map Tm.row)]=bif lackBL (t.as.drop i) then some (0,[.int t.k,.int t.n,.str t.s,.sl (t.as.map Tm.row)]) else some (1,[]):=by
  intro n;induction n with
  | zero =>
   intro i hi;obtain rfl:i=t.as.length:=by omega
   rw [e187_0_1];simp only [B6,C0,D4,H4,H2,C8,lackBL,H1]
  | succ n ih2 =>
   intro i hi;have hlt:i<t.as.length:=by omega
   rw [e187_0_1,B8 hlt];have h1:=ih _ (C4 hlt) (h.sub (C4 hlt));simp only [B6,C0,hlt,H3,H1,inbN,B9,rowAt_map hlt,wrap_succ hlt hlm,Tm.row_eq,nv0,nvS,dvI,dvB,dvS,dvL,B5,h1,ih2 (i+1) (by omega),lackBL]
   cases lackB t.as[i] <;> simp
 have h0:=hl t.as.length 0 (by omega)
 simp only [D3,C7] at h0;rw [e187_0_0,lackB_eq,h0];cases lackBL t.as with
 | false=>cases (!(decide (t.k=2)&&isB t.s)) <;> rfl
 | true =>
  simp only [H1,nv0,nvS,dvI,dvB,dvS,dvL,B5,E6,H1,H2,r163];by_cases h2:t.k=2 <;> cases isB t.s <;> simp [h2]
theorem r115 (t:Tm) (h:t.nodes<=1048577) (ns:List ByteArray) (hn:ns.length<=maxLen):rn ⟨115,0,0⟩ [.int t.k,.int t.n,.str t.s,.sl (t.as.map Tm.row),.sl (ns.map sRow)]=some (0,[.bool (within t ns)]):=by
 have h1:=r174 t h;have h2:=r173 t.names ns (by have:=names_nodes t; omega) hn
 rw [e115_0_0];simp only [h1,nv0,nvS,dvI,dvB,dvS,dvL,B5,h2,B6];have h3:=wo_len t.names ns;have i1:(((wo t.names ns).length:Int)=0)↔(wo t.names ns).length=0:=by omega
 simp only [i1];rw [h3]; rfl
theorem r125 (t:Tm) (h:t.nodes<=1048577):rn ⟨125,0,0⟩ [.int t.k,.int t.n,.str t.s,.sl (t.as.map Tm.row)]=some (0,[.sl ((srtN t.names).map sRow)]):=by
 have hn:=names_nodes t;have h1:=r157 t [] h (by simp; omega)
 have h2:=r182 t.names (by omega)
 rw [e125_0_0];rw [E8] at h1;simp only [h1,nv0,nvS,dvI,dvB,dvS,dvL,B5,h2]
theorem r215 (k:Int):rn ⟨215,0,0⟩ [.int k]=some (0,[.bool (decide (1<=k)&&decide (k<=3))]):=by
 rw [e215_0_0];cases decide (1<=k) <;> rfl
theorem r195 (so:Rows) (ops:List OpM) (ho:SigB ops) (vs:List VS) (hv:vs.length<=1099511627776) (ns:List ByteArray) (hn:ns.length<=maxLen) (hvn:∀ v∈vs,v.1∈ns) (gs:List Gu) (hg:gs.length<=1048576) (hgb:∀ g∈gs,GuB g):rn ⟨195,0,0⟩ [.sl so,.sl (ops.map OpM.row),.sl (gs.map Gu.row),.sl (vs.map VS.row),.sl (ns.map sRow)]=some (0,[.bool (gusOK ops vs gs)]):=by
 have hl:∀ n i,i+n=gs.length->rn ⟨195,0,1⟩ [.sl (gs.map Gu.row),.sl (vs.map VS.row),.sl (ns.map sRow),.sl (gs.map Gu.row),.int (gs.length:Int),.int (i:Int),.sl so,.sl (ops.map OpM.row)]=bif (gs.drop i).all (guOK ops vs) then some (0,[.sl (gs.map Gu.row)]) else some (1,[]):=by
  intro n;induction n with
  | zero =>
   intro i hi;obtain rfl:i=gs.length:=by omega
   rw [e195_0_1];simp only [B6,C0,D4,H4,H2,C8,N8,H1]
  | succ n ih =>
   intro i hi;have hlt:i<gs.length:=by omega
   rw [e195_0_1,B8 hlt];have hb:=hgb _ (C4 hlt);have hw:guOK ops vs gs[i]=true->_:=fun h=>guOK_within hvn h
   have h1:=r94 gs[i].l (G6 hb.ln (by decide)) hb.wl
   have h2:=r94 gs[i].r (G6 hb.rn (by decide)) hb.wr
   have h3:=r115 gs[i].l hb.ln ns hn;have h4:=r115 gs[i].r hb.rn ns hn;have h5:=r116 so ops ho vs hv gs[i].l hb.wl;have h6:=r116 so ops ho vs hv gs[i].r hb.wr;simp only [B6,C0,hlt,H3,H1,inbN,B9,rowAt_map hlt,wrap_succ hlt (maxB (by omega)),Gu.row,nv0,nvS,dvI,dvB,dvS,dvL,B5,h1,h2,h3,h4,h5,h6,r215,ih (i+1) (by omega),J9]
   unfold guOK at hw ⊢;generalize (decide (1<=gs[i].k)&&decide (gs[i].k<=3))=bk at hw ⊢;generalize gs[i].l.valid=b1 at hw ⊢;generalize gs[i].r.valid=b2 at hw ⊢;generalize within gs[i].l ns=w1 at hw ⊢;generalize within gs[i].r ns=w2 at hw ⊢;generalize sortT ops vs gs[i].l=s1 at hw ⊢;generalize sortT ops vs gs[i].r=s2 at hw ⊢;cases bk
   · rfl
   · cases b1
     · rfl
     · cases b2
       · rfl
       · by_cases q1:s1=e0
         · cases w1 <;> cases w2 <;> simp [q1]
         · by_cases q2:s1=s2
           · by_cases q3:gs[i].k=3
             · by_cases q4:s1=wordS
               · have:=hw (by simp [q1,<- q2,q3,q4])
                 simp [this.1,this.2,q1,<- q2,q3,q4]
               · cases w1 <;> cases w2 <;> simp [q1,<- q2,q3,q4]
             · have:=hw (by simp [q1,<- q2,q3])
               simp [this.1,this.2,q1,<- q2,q3]
           · cases w1 <;> cases w2 <;> simp [q1,q2]
 have h0:=hl gs.length 0 (by omega)
 simp only [D3,C7] at h0;rw [e195_0_0];simp only [B6,h0,gusOK];cases gs.all (guOK ops vs) with
 | false=>rfl
 | true =>
  have i1:((gs.length:Int)<=2)↔gs.length<=2:=by omega
  simp only [H1,nv0,nvS,dvI,dvB,dvS,dvL,B5,E6,H1,H2,B6,i1,G5]
theorem r212 (k:Int):∃ s,rn ⟨212,0,0⟩ [.int k]=some (0,[.str s])/\decide (s=e0)=!(decide (1<=k)&&decide (k<=3)):=by
 rw [e212_0_0];simp only [rIn,nv0,nvS,dvI,dvB,dvS,dvL,B5];by_cases h1:1<=k
 · by_cases h2:k<=3
   · obtain h | h | h:k=1\/k=2\/k=3:=by omega
     all_goals subst h; exact ⟨_,rfl,by decide⟩
   · refine ⟨e0,by simp [h1,h2],by simp [h1,h2]⟩
 · refine ⟨e0,by simp [h1],by simp [h1]⟩
theorem r189 (so:Rows) (ops:List OpM) (ho:SigB ops) (vs:List VS) (hv:vs.length<=1099511627776) (g:Gu) (hb:GuB g):rn ⟨189,0,0⟩ [.sl so,.sl (ops.map OpM.row),.int g.k,.int (g.l).k,.int (g.l).n,.str (g.l).s,.sl ((g.l).as.map Tm.row),.int (g.r).k,.int (g.r).n,.str (g.r).s,.sl ((g.r).as.map Tm.row),.sl (vs.map VS.row)]=some (0,[.bool (guOK ops vs g)]):=by
 have h1:=r98 g.l (G6 hb.ln (by decide)) hb.wl
 have h2:=r98 g.r (G6 hb.rn (by decide)) hb.wr
 have h5:=r100 so ops ho vs hv g.l hb.wl;have h6:=r100 so ops ho vs hv g.r hb.wr;obtain ⟨s,h7,h8⟩:=r212 g.k;rw [e189_0_0];simp only [nv0,nvS,dvI,dvB,dvS,dvL,B5,h1,h2,h5,h6,h7,h8];unfold guOK;generalize sortT ops vs g.l=s1;generalize sortT ops vs g.r=s2;cases (decide (1<=g.k)&&decide (g.k<=3)) <;> cases g.l.valid <;> cases g.r.valid <;> try rfl
 by_cases q1:s1=e0
 · simp [q1]
 · by_cases q2:s2=s1
   · by_cases q3:g.k=3 <;> simp [q1,q2,q3]
   · have q2':¬ s1=s2:=fun e=>q2 e.symm
     simp [q1,q2,q2']
theorem r139 (so:Rows) (ops:List OpM) (ho:SigB ops) (r:RuM) (hb:RuB r):rn ⟨139,0,0⟩ [.sl so,.sl (ops.map OpM.row),.str r.n,.int (r.l).k,.int (r.l).n,.str (r.l).s,.sl ((r.l).as.map Tm.row),.int (r.r).k,.int (r.r).n,.str (r.r).s,.sl ((r.r).as.map Tm.row),.sl (r.g.map Gu.row)]=some (0,[.bool (rulOK ops r)]):=by
 have h1:=r190 r.n hb.n;have h2:=r94 r.l (G6 hb.ln (by decide)) hb.wl
 have h3:=r193 r.l hb.wl;have h4:=r94 r.r (G6 hb.rn (by decide)) hb.wr
 have h5:=r140 so ops ho r.l.s;have h7:=r174 r.l hb.ln;have hnl:=names_nodes r.l;have hln:=hb.ln;rw [e139_0_0];simp only [h1,h2,h3,h4,h5,nv0,nvS,dvI,dvB,dvS,dvL,B5];unfold rulOK;cases isNm r.n <;> try rfl
 cases r.l.valid <;> try rfl
 by_cases q:r.l.k=2
 · simp only [q,H3,D8,H2,G5]
   cases lackB r.l <;> try rfl
   cases r.r.valid <;> try rfl
   cases hf:findO ops r.l.s with
   | none=>rfl
   | some o =>
    have h6:=r194 so ops ho r.l hb.wl hb.ln o.r;simp only [q] at h6 h7;simp only [foRes,nv0,nvS,dvI,dvB,dvS,dvL,B5,h6,h7,D8,H2,G5];cases hi:infV ops r.l o.r with
    | none=>rfl
    | some vs =>
     have hvl:=infV_len hi;have h8:=r116 so ops ho vs (by omega) r.r hb.wr
     have h9:=r115 r.r hb.rn r.l.names (maxB (by omega))
     have h10:=r195 so ops ho vs (by omega) r.l.names (maxB (by omega)) (infV_names hi) r.g hb.g hb.ga
     simp only [infVR,nv0,nvS,dvI,dvB,dvS,dvL,B5,h8,h9,h10,D8,H2];by_cases q2:sortT ops vs r.r=o.r
     · cases within r.r r.l.names <;> simp [q2]
     · simp [q2]
 · simp [q]
theorem r131 (so:Rows) (ops:List OpM) (ho:SigB ops) (r:RuM) (hb:RuB r):rn ⟨131,0,0⟩ [.sl so,.sl (ops.map OpM.row),.str r.n,.int (r.l).k,.int (r.l).n,.str (r.l).s,.sl ((r.l).as.map Tm.row),.int (r.r).k,.int (r.r).n,.str (r.r).s,.sl ((r.r).as.map Tm.row),.sl (r.g.map Gu.row)]=some (0,[.bool (rulOK ops r)]):=by
 have h1:=r186 r.n hb.n;have h2:=r98 r.l (G6 hb.ln (by decide)) hb.wl
 have h3:=r187 r.l hb.wl;have h4:=r98 r.r (G6 hb.rn (by decide)) hb.wr
 have h5:=r159 so ops ho r.l.s;have h7:=r125 r.l hb.ln;have h9:=r125 r.r hb.rn;have hnl:=names_nodes r.l;have hnr:=names_nodes r.r;have hsl:=srtN_len r.l.names;have hsr:=srtN_len r.r.names;have hln:=hb.ln;have hrn:=hb.rn;have hgl:=hb.g;have h10:=r124 (srtN r.r.names) (srtN r.l.names) (by omega) (maxB (by omega))
 have hl:∀ vs:List VS,vs.length<=1099511627776->∀ n i,i+n=r.g.length->rn ⟨131,0,1⟩ [.int (i:Int),.sl so,.sl (ops.map OpM.row),.str r.n,.int (r.l).k,.int (r.l).n,.str (r.l).s,.sl ((r.l).as.map Tm.row),.int (r.r).k,.int (r.r).n,.str (r.r).s,.sl ((r.r).as.map Tm.row),.sl (r.g.map Gu.row),.sl (vs.map VS.row)]=bif (r.g.drop i).all (guOK ops vs) then some (0,[]) else some (1,[]):=by
  intro vs hv n;induction n with
  | zero =>
   intro i hi;obtain rfl:i=r.g.length:=by omega
   rw [e131_0_1];simp only [B6,C0,D4,H4,H2,C8,N8,H1]
  | succ n ih =>
   intro i hi;have hlt:i<r.g.length:=by omega
   rw [e131_0_1,B8 hlt];have h1:=r189 so ops ho vs hv r.g[i] (hb.ga _ (C4 hlt));simp only [B6,C0,hlt,H3,H1,inbN,B9,rowAt_map hlt,wrap_succ hlt (maxB (by omega)),Gu.row,nv0,nvS,dvI,dvB,dvS,dvL,B5,h1,ih (i+1) (by omega),J9]
   cases guOK ops vs r.g[i] <;> simp
 rw [e131_0_0];simp only [h1,h2,h3,h4,h5,nv0,nvS,dvI,dvB,dvS,dvL,B5,B6];unfold rulOK;cases isNm r.n <;> try rfl
 cases r.l.valid <;> try rfl
 by_cases q:r.l.k=2
 · simp only [q,H3,D8,H2,G5,Bool.not_not]
   cases r.r.valid
   · cases lackB r.l <;> rfl
   · cases lackB r.l <;> try rfl
     simp only [D8,H2,G5];by_cases q5:r.g.length<=2
     · have q5':¬((2:Int)<(r.g.length:Int)):=by omega
       cases hf:findO ops r.l.s with
       | none =>
        have h6:=r188 so ops ho r.l hb.wl hb.ln e0;have:infV ops r.l e0=none:=by unfold infV; cases infT ops r.l e0 [] <;> simp
        rw [this] at h6;simp only [q] at h6;simp only [foRes,nv0,nvS,dvI,dvB,dvS,dvL,B5,h6,q5',H4,H2,infVR,K2,H1]
       | some o =>
        have h6:=r188 so ops ho r.l hb.wl hb.ln o.r;simp only [q] at h6 h7 hl;simp only [foRes,nv0,nvS,dvI,dvB,dvS,dvL,B5,h6,q5',H4,H2];cases hi:infV ops r.l o.r with
        | none=>rfl
        | some vs =>
         have hvl:=infV_len hi;have h8:=r100 so ops ho vs (by omega) r.r hb.wr
         have h11:=hl vs (by omega) r.g.length 0 (by omega)
         simp only [D3,C7] at h11;simp only [infVR,nv0,nvS,dvI,dvB,dvS,dvL,B5,h8,h7,h9,h10,B6,h11,D8,H2];by_cases q2:sortT ops vs r.r=o.r
         · have hw:=wo_srt r.r r.l
           cases hw2:within r.r r.l.names with
           | true =>
            rw [hw2] at hw;have:(wo (srtN r.r.names) (srtN r.l.names)).length=0:=hw.2 rfl;simp only [q2,this,H3,D8,H2,C7,Int.lt_irrefl,H4,gusOK,q5,N5,G5];cases r.g.all (guOK ops vs) <;> rfl
           | false =>
            rw [hw2] at hw;have:¬(wo (srtN r.r.names) (srtN r.l.names)).length=0:=fun h=>by have:=hw.1 h; simp at this
            have:0<(wo (srtN r.r.names) (srtN r.l.names)).length:=by omega
            simp [q2,this]
         · simp [q2]
     · have q5':((2:Int)<(r.g.length:Int)):=by omega
       simp only [q5',H3,H1,gusOK,q5,H4,Bool.and_false];cases findO ops r.l.s with
       | none=>rfl
       | some o =>
        dsimp only;cases infV ops r.l o.r <;> rfl
 · cases r.r.valid <;> simp [q]
end Go.Q.S
end
section
namespace Go.Q.S
open Go Go.Q Go.Proofs
def inSt (l:List StM) (x:StM):Bool:=l.any fun y=>decide (y.o=x.o)&&decide (y.a=x.a)
theorem rContSt (l:List StM) (hl:l.length<=maxLen) (x:StM):rn ⟨142,0,0⟩ [.sl (l.map StM.row),.str x.o,.int x.a]=some (0,[.bool (inSt l x)]):=by
 have key:∀ n i,i+n=l.length->(inSt (l.drop i) x=false/\rn ⟨197,0,1⟩ [.sl (l.map StM.row),.int (l.length:Int),.int (i:Int),.str x.o,.int x.a]=some (0,[]))\/(inSt (l.drop i) x=true/\∃ j:Nat,rn ⟨197,0,1⟩ [.sl (l.map StM.row),.int (l.length:Int),.int (i:Int),.str x.o,.int x.a]=some (1,[.int (j:Int)])):=by
  intro n;induction n with
  | zero =>
   intro i hi;obtain rfl:i=l.length:=by omega
   rw [e197_0_1];simp only [B6,C0,D4,H4,H2,C8];exact .inl ⟨rfl,trivial⟩
  | succ n ih =>
   intro i hi;have hlt:i<l.length:=by omega
   rw [e197_0_1,B8 hlt];simp only [B6,C0,hlt,H3,H1,inbN,B9,rowAt_map hlt,wrap_succ hlt hl,StM.row,nv0,nvS,dvI,dvB,dvS,dvL,B5,inSt,List.any_cons];by_cases h1:l[i].o=x.o
   · by_cases h2:l[i].a=x.a
     · right
       refine ⟨by simp [h1,h2],i,by simp [h1,h2]⟩
     · have h2':¬ x.a=l[i].a:=fun e=>h2 e.symm
       have:=ih (i+1) (by omega)
       simpa [h1,h2,h2',inSt] using this
   · have h1':¬ x.o=l[i].o:=fun e=>h1 e.symm
     have:=ih (i+1) (by omega)
     simpa [h1,h1',inSt] using this
 have h:=key l.length 0 (by omega)
 simp only [D3,C7] at h;rw [e142_0_0,e197_0_0];simp only [B6];rcases h with ⟨h1,h2⟩|⟨h1,j,h2⟩
 · rw [h2,h1]; rfl
 · rw [h2,h1]
   simp only [nv0,nvS,dvI,dvB,dvS,dvL,B5,E6,H1,H2,show E3 1 0=false from rfl]
   have:(0:Int)<=(j:Int):=by omega
   simp [this]
theorem stOK_eq (ops:List OpM) (s:StM):stOK ops s=match findO ops s.o with
 | none=>false
 | some o=>!isB s.o&&(decide (0<=s.a)&&decide (s.a<o.a.length)):=rfl
theorem strOK_step (ops:List OpM) (l:List StM) {i:Nat} (h:i<l.length):strOK ops (l.take i) (l.drop i)=(stOK ops l[i]&&(!inSt (l.take i) l[i]&&strOK ops (l.take (i+1)) (l.drop (i+1)))):=by
 rw [B8 h];simp only [strOK,inSt];rw [List.take_add_one,F1 h]; rfl
theorem r86 (d:DfM) (hb:DfB d):rn ⟨86,0,0⟩ [.sl (d.so.map sRow),.sl (d.op.map OpM.row),.sl (d.ru.map RuM.row),.sl (d.st.map StM.row)]=some (0,[.bool d.valid]):=by
 have hrl:=hb.ru;have hsl:=hb.st;have hl1:∀ n i (acc:List ByteArray),i+n=d.ru.length->acc.length<=i->rn ⟨86,0,1⟩ [.sl (d.ru.map RuM.row),.int (d.ru.length:Int),.int (i:Int),.sl (d.so.map sRow),.sl (d.op.map OpM.row),.sl (d.ru.map RuM.row),.sl (d.st.map StM.row),.sl (acc.map sRow)]=bif (d.ru.drop i).all (rulOK d.op) then some (0,[.sl (d.so.map sRow),.sl (d.op.map OpM.row),.sl (d.ru.map RuM.row),.sl (d.st.map StM.row),.sl ((acc++(d.ru.drop i).map (·.n)).map sRow)]) else some (1,[]):=by
  intro n;induction n with
  | zero =>
   intro i acc hi ha;obtain rfl:i=d.ru.length:=by omega
   rw [e86_0_1];simp only [B6,C0,D4,H4,H2,C8,N8,H1,D2,J1]
  | succ n ih =>
   intro i acc hi ha;have hlt:i<d.ru.length:=by omega
   rw [e86_0_1,B8 hlt];have h1:=r139 (d.so.map sRow) d.op hb.op d.ru[i] (hb.rua _ (C4 hlt));have hb2:F9 (acc.length+1) M63=true:=nb (by omega)
   have h6:=ih (i+1) (acc++[d.ru[i].n]) (by omega) (by simp; omega)
   simp only [D6,C2,D2,sRow] at h6;simp only [B6,C0,hlt,H3,H1,inbN,B9,rowAt_map hlt,wrap_succ hlt (maxB (by omega)),RuM.row,nv0,nvS,dvI,dvB,dvS,dvL,B5,h1,C5,C9,D7,hb2,h6,J9]
   cases rulOK d.op d.ru[i] with
   | false=>rfl
   | true=>simp only [D6,C2,E1,J2,E8,sRow,D8,H2,H1,G5]
 have hl3:∀ (x5 x7:Rows) n i,i+n=d.st.length->rn ⟨86,0,3⟩ [.sl (d.st.map StM.row),.int (d.st.length:Int),.int (i:Int),.sl (d.so.map sRow),.sl (d.op.map OpM.row),.sl x5,.sl (d.st.map StM.row),.sl x7]=bif strOK d.op (d.st.take i) (d.st.drop i) then some (0,[.sl x7]) else some (1,[]):=by
  intro x5 x7 n;induction n with
  | zero =>
   intro i hi;obtain rfl:i=d.st.length:=by omega
   rw [e86_0_3];simp only [B6,C0,D4,H4,H2,C8,strOK,H1]
  | succ n ih =>
   intro i hi;have hlt:i<d.st.length:=by omega
   rw [e86_0_3,strOK_step d.op d.st hlt,stOK_eq];have h1:=r140 (d.so.map sRow) d.op hb.op d.st[i].o;have h3:=rContSt (d.st.take i) (maxB (by rw [List.length_take]; omega)) d.st[i]
   simp only [B6,C0,hlt,H3,H1,inbN,B9,rowAt_map hlt,wrap_succ hlt (maxB (by omega)),StM.row,nv0,nvS,dvI,dvB,dvS,dvL,B5,h1,r141,ih (i+1) (by omega)]
   cases hf:findO d.op d.st[i].o with
   | none=>rfl
   | some o =>
    simp only [foRes,nv0,nvS,dvI,dvB,dvS,dvL,B5,B6,D8,H2];cases isB d.st[i].o
    · by_cases q1:0<=d.st[i].a
      · have q1':¬ d.st[i].a<0:=by omega
        by_cases q2:d.st[i].a<o.a.length
        · have q2':¬(o.a.length:Int)<=d.st[i].a:=by omega
          have q3:(0:Int)<=(i:Int):=by omega
          have q4:(i:Int)<=(d.st.length:Int):=by omega
          simp only [q1,q1',q2,q2',q3,q4,Int.le_refl,H3,H4,H1,H2,N5,K2,G5,B9,show N9 0=0 from rfl,D3,<- List.map_take,h3,nv0,nvS,dvI,dvB,dvS,dvL,B5]
          cases inSt (d.st.take i) d.st[i] <;> simp
        · have q2':(o.a.length:Int)<=d.st[i].a:=by omega
          simp [q1,q1',q2,q2']
      · have q1':d.st[i].a<0:=by omega
        simp [q1,q1']
    · rfl
 have hd:=r113 (d.ru.map (·.n)) (by rw [B6]; omega)
 have hg:=r138 d.so hb.so hb.sos d.op hb.op hb.opn;have h1:=hl1 d.ru.length 0 [] (by omega) (K3 _)
 have h3:=fun x5 x7=>hl3 x5 x7 d.st.length 0 (by omega)
 simp only [D3,S5,C7,D2,E8] at h1 h3;rw [e86_0_0];simp only [B6,hg,nv0,nvS,dvI,dvB,dvS,dvL,B5];unfold DfM.valid;cases sigOK d.so d.op
 · rfl
 · by_cases q1:d.ru.length<=16
   · have q1':¬((16:Int)<(d.ru.length:Int)):=by omega
     by_cases q2:d.st.length<=8
     · have q2':¬((8:Int)<(d.st.length:Int)):=by omega
       simp only [q1,q1',q2,q2',H3,H4,H1,H2,G5,D8,h1];cases d.ru.all (rulOK d.op)
       · rfl
       · simp only [H1,nv0,nvS,dvI,dvB,dvS,dvL,B5,E6,H1,H2,B6,h3,G5]
         cases strOK d.op [] d.st
         · rfl
         · simp only [H1,nv0,nvS,dvI,dvB,dvS,dvL,B5,E6,H1,H2,hd,G5]
     · have q2':((8:Int)<(d.st.length:Int)):=by omega
       simp [q1,q1',q2,q2']
   · have q1':((16:Int)<(d.ru.length:Int)):=by omega
     simp [q1,q1']
theorem r153 (d:DfM) (hb:DfB d):rn ⟨153,0,0⟩ [.sl (d.so.map sRow),.sl (d.op.map OpM.row),.sl (d.ru.map RuM.row),.sl (d.st.map StM.row)]=some (0,[.bool (strOK d.op [] d.st&&decide (d.st.length<=8))]):=by
 have hsl:=hb.st;have hl3:∀ (x0:Nat),x0<=d.st.length->∀ (x:StM) (x2:ByteArray) (x3:Bool) (x4 x5 x6:Int) (x7 x8:Bool) (x15 x16:ByteArray) (x17:Rows),∀ n j,j+n=x0->rn ⟨153,0,3⟩ [.int (x0:Int),.int (j:Int),.str x2,.bool x3,.int x4,.int x5,.int x6,.bool x7,.bool x8,.sl (d.so.map sRow),.sl (d.op.map OpM.row),.sl (d.ru.map RuM.row),.sl (d.st.map StM.row),.str x.o,.int x.a,.str x15,.str x16,.sl x17]=bif inSt ((d.st.take x0).drop j) x then some (1,[]) else some (0,[.int (x0:Int),.str x2,.bool x3,.int x4,.int x5,.int x6,.bool x7,.bool x8,.sl (d.so.map sRow),.sl (d.op.map OpM.row),.sl (d.ru.map RuM.row),.sl (d.st.map StM.row),.str x.o,.int x.a,.str x15,.str x16,.sl x17]):=by
  intro x0 hx0 x x2 x3 x4 x5 x6 x7 x8 x15 x16 x17 n;induction n with
  | zero =>
   intro j hj;obtain rfl:j=x0:=by omega
   rw [e153_0_3];have:((d.st.take j).drop j)=[]:=O8 (by rw [List.length_take]; omega)
   simp only [this,Int.lt_irrefl,H4,H2,inSt,List.any_nil]
  | succ n ih =>
   intro j hj;have hlt0:j<(d.st.take x0).length:=by rw [List.length_take]; omega
   have hlt:j<d.st.length:=by omega
   have hltx:j<x0:=by omega
   rw [e153_0_3,B8 hlt0,List.getElem_take];simp only [B6,C0,hlt,H3,H1,inbN,B9,rowAt_map hlt,wrap_succ hlt (maxB (by omega)),hltx,StM.row,nv0,nvS,dvI,dvB,dvS,dvL,B5,ih (j+1) (by omega)]
   simp only [inSt,List.any_cons];by_cases h1:d.st[j].o=x.o
   · by_cases h2:d.st[j].a=x.a <;> simp [h1,h2]
   · simp [h1]
 have hl1:∀ n i,i+n=d.st.length->rn ⟨153,0,1⟩ [.int (i:Int),.sl (d.so.map sRow),.sl (d.op.map OpM.row),.sl (d.ru.map RuM.row),.sl (d.st.map StM.row)]=bif strOK d.op (d.st.take i) (d.st.drop i) then some (0,[.sl (d.so.map sRow),.sl (d.op.map OpM.row),.sl (d.ru.map RuM.row),.sl (d.st.map StM.row)]) else some (1,[]):=by
  intro n;induction n with
  | zero =>
   intro i hi;obtain rfl:i=d.st.length:=by omega
   rw [e153_0_1];simp only [B6,C0,D4,H4,H2,C8,strOK,H1]
  | succ n ih =>
   intro i hi;have hlt:i<d.st.length:=by omega
   rw [e153_0_1,strOK_step d.op d.st hlt,stOK_eq];have h1:=r159 (d.so.map sRow) d.op hb.op d.st[i].o;have h3:=fun x2 x3 x4 x5 x6 x7 x8 x15 x16 x17=>hl3 i (by omega) d.st[i] x2 x3 x4 x5 x6 x7 x8 x15 x16 x17 i 0 (by omega)
   simp only [D3,C7] at h3;simp only [B6,C0,hlt,H3,H1,inbN,B9,rowAt_map hlt,wrap_succ hlt (maxB (by omega)),StM.row,nv0,nvS,dvI,dvB,dvS,dvL,B5,h1,r163,rIn]
   cases hf:findO d.op d.st[i].o with
   | none=>rfl
   | some o =>
    have hoa:o.a.length<=1048576:=findO_ok hb.op.a hf;simp only [foRes,nv0,nvS,dvI,dvB,dvS,dvL,B5,B6,D8,H2];rw [IntWalk.i64_in _ (by omega)]
    cases isB d.st[i].o
    · by_cases q1:0<=d.st[i].a
      · by_cases q2:d.st[i].a<o.a.length
        · have q2':d.st[i].a<=(o.a.length:Int)-1:=by omega
          simp only [q1,q2,q2',H3,H1,H2,N5,K2,D8,G5,h3];cases inSt (d.st.take i) d.st[i] with
          | true=>rfl
          | false=>simp only [H2,nv0,nvS,dvI,dvB,dvS,dvL,B5,E6,H1,H2,wrap_succ hlt (maxB (by omega)),ih (i+1) (by omega),K2,G5]
        · have q2':¬ d.st[i].a<=(o.a.length:Int)-1:=by omega
          simp [q1,q2,q2']
      · simp [q1]
    · rfl
 have h1:=hl1 d.st.length 0 (by omega)
 simp only [D3,S5,C7] at h1;rw [e153_0_0,h1];have i1:((d.st.length:Int)<=8)↔d.st.length<=8:=by omega
 cases strOK d.op [] d.st with
 | false=>rfl
 | true=>simp only [H1,nv0,nvS,dvI,dvB,dvS,dvL,B5,E6,H1,H2,B6,i1,G5]
theorem r97 (d:DfM) (hb:DfB d):rn ⟨97,0,0⟩ [.sl (d.so.map sRow),.sl (d.op.map OpM.row),.sl (d.ru.map RuM.row),.sl (d.st.map StM.row)]=some (0,[.bool d.valid]):=by
 have hrl:=hb.ru;have hl1:∀ n i (acc:List ByteArray),i+n=d.ru.length->acc.length<=i->rn ⟨97,0,1⟩ [.int (i:Int),.sl (d.so.map sRow),.sl (d.op.map OpM.row),.sl (d.ru.map RuM.row),.sl (d.st.map StM.row),.sl (acc.map sRow)]=bif (d.ru.drop i).all (rulOK d.op) then some (0,[.sl (d.so.map sRow),.sl (d.op.map OpM.row),.sl (d.ru.map RuM.row),.sl (d.st.map StM.row),.sl ((acc++(d.ru.drop i).map (·.n)).map sRow)]) else some (1,[]):=by
  intro n;induction n with
  | zero =>
   intro i acc hi ha;obtain rfl:i=d.ru.length:=by omega
   rw [e97_0_1];simp only [B6,C0,D4,H4,H2,C8,N8,H1,D2,J1]
  | succ n ih =>
   intro i acc hi ha;have hlt:i<d.ru.length:=by omega
   rw [e97_0_1,B8 hlt];have h1:=r131 (d.so.map sRow) d.op hb.op d.ru[i] (hb.rua _ (C4 hlt));have hb2:F9 (acc.length+1) M63=true:=nb (by omega)
   have h6:=ih (i+1) (acc++[d.ru[i].n]) (by omega) (by simp; omega)
   simp only [D6,C2,D2,sRow] at h6;simp only [B6,C0,hlt,H3,H1,inbN,B9,rowAt_map hlt,wrap_succ hlt (maxB (by omega)),RuM.row,nv0,nvS,dvI,dvB,dvS,dvL,B5,h1,C5,C9,D7,hb2,h6,J9]
   cases rulOK d.op d.ru[i] with
   | false=>rfl
   | true=>simp only [D6,C2,E1,J2,E8,sRow,D8,H2,H1,G5]
 have hd:=r152 (d.ru.map (·.n)) (by rw [B6]; exact maxB (by omega))
 have hg:=r151 d.so hb.so hb.sos d.op hb.op hb.opn;have hs:=r153 d hb;have h1:=hl1 d.ru.length 0 [] (by omega) (K3 _)
 simp only [D3,C7,D2,E8] at h1;have i1:((d.ru.length:Int)<=16)↔d.ru.length<=16:=by omega
 rw [e97_0_0,h1];unfold DfM.valid;cases d.ru.all (rulOK d.op) with
 | false=>cases sigOK d.so d.op <;> cases decide (d.ru.length<=16) <;> cases decide (d.st.length<=8) <;> rfl
 | true =>
  simp only [H1,nv0,nvS,dvI,dvB,dvS,dvL,B5,E6,H1,H2,B6,hd,hg,hs,i1,G5];cases sigOK d.so d.op <;> cases decide (d.ru.length<=16) <;> cases decide (d.st.length<=8) <;> cases strOK d.op [] d.st <;> cases dis (d.ru.map (·.n)) <;> rfl
end Go.Q.S
end
section
namespace Go.Q.S
open Go Go.Q Go.Proofs
theorem rCloneT (xs:Rows) (h:xs.length<=274877906944):rn ⟨200,0,0⟩ [.sl xs]=some (0,[.sl xs]):=by
 rw [e200_0_0];have hb:F9 (([]:Rows).length+xs.length) M63=true:=J3 (by unfold M63; simpa using h)
 rw [hb];cases xs with
 | nil=>simp [both]
 | cons x xs=>rfl
theorem r146 (a b c:Rows) (st:List StM) (hst:st.length<=1048576) (s:ByteArray):rn ⟨146,0,0⟩ [.sl a,.sl b,.sl c,.sl (st.map StM.row),.str s]=some (0,[.sl ((strA st s).map iRow)]):=by
 have key:∀ n i (acc:List Int),i+n=st.length->acc.length<=i->rn ⟨146,0,1⟩ [.str s,.sl (st.map StM.row),.int (st.length:Int),.int (i:Int),.sl (acc.map iRow)]=some (0,[.sl ((acc++strA (st.drop i) s).map iRow)]):=by
  intro n;induction n with
  | zero =>
   intro i acc hi ha;obtain rfl:i=st.length:=by omega
   rw [e146_0_1];simp only [B6,C0,D4,H4,H2,C8,strA,List.filter_nil,D2,J1]
  | succ n ih =>
   intro i acc hi ha;have hlt:i<st.length:=by omega
   rw [e146_0_1,B8 hlt,strA_cons];have hb2:F9 (acc.length+1) M63=true:=nb (by omega)
   have h1:=ih (i+1) (acc++[st[i].a]) (by omega) (by simp; omega)
   have h2:=ih (i+1) acc (by omega) (by omega)
   simp only [D6,C2,D2,iRow] at h1 h2;simp only [B6,C0,hlt,H3,H1,inbN,B9,rowAt_map hlt,wrap_succ hlt (maxB (by omega)),StM.row,nv0,nvS,dvI,dvB,dvS,dvL,B5,C5,C9,D7,hb2,iRow]
   by_cases hq:st[i].o=s
   · simp only [hq,H3,H1,if_true,h1,D6,C2,E1,J2,E8,iRow]
   · simp only [hq,H4,H2,if_false,h2,D6,iRow]
 have h:=key st.length 0 [] (by omega) (K3 _)
 rw [e146_0_0];simp only [C7,D2,D3,E8,B6] at h ⊢;simp only [h,nv0,nvS,dvI,dvB,dvS,dvL,B5,E6,H1,H2]
theorem r103 (a b c:Rows) (st:List StM) (hst:st.length<=1048576) (s:ByteArray):rn ⟨103,0,0⟩ [.sl a,.sl b,.sl c,.sl (st.map StM.row),.str s]=some (0,[.sl ((strA st s).map iRow)]):=by
 have key:∀ n i (acc:List Int),i+n=st.length->acc.length<=i->rn ⟨103,0,1⟩ [.str s,.int (i:Int),.sl a,.sl b,.sl c,.sl (st.map StM.row),.sl (acc.map iRow)]=some (0,[.sl ((acc++strA (st.drop i) s).map iRow)]):=by
  intro n;induction n with
  | zero =>
   intro i acc hi ha;obtain rfl:i=st.length:=by omega
   rw [e103_0_1];simp only [B6,C0,D4,H4,H2,C8,strA,List.filter_nil,D2,J1]
  | succ n ih =>
   intro i acc hi ha;have hlt:i<st.length:=by omega
   rw [e103_0_1,B8 hlt,strA_cons];have hb2:F9 (acc.length+1) M63=true:=nb (by omega)
   have h1:=ih (i+1) (acc++[st[i].a]) (by omega) (by simp; omega)
   have h2:=ih (i+1) acc (by omega) (by omega)
   simp only [D6,C2,D2,iRow] at h1 h2;simp only [B6,C0,hlt,H3,H1,inbN,B9,rowAt_map hlt,wrap_succ hlt (maxB (by omega)),StM.row,nv0,nvS,dvI,dvB,dvS,dvL,B5,C5,C9,D7,hb2,iRow]
   by_cases hq:st[i].o=s
   · simp only [hq,H3,H1,if_true,h1,D6,C2,E1,J2,E8,iRow]
   · simp only [hq,H4,H2,if_false,h2,D6,iRow]
 have h:=key st.length 0 [] (by omega) (K3 _)
 rw [e103_0_0];simp only [C7,D2,D3,E8] at h ⊢;simp only [h,nv0,nvS,dvI,dvB,dvS,dvL,B5,E6,H1,H2]
theorem r90 (d:DfM) (hb:DfB d) (t:Tm):rn ⟨90,0,0⟩ [.sl (d.so.map sRow),.sl (d.op.map OpM.row),.sl (d.ru.map RuM.row),.sl (d.st.map StM.row),.int t.k,.int t.n,.str t.s,.sl (t.as.map Tm.row)]=some (0,[.sl ((stL d.st t).map iRow)]):=by
 have h:=fun a b c=>r146 a b c d.st hb.st t.s
 rw [e90_0_0];unfold stL;by_cases hk:t.k=2
 · simp only [h,hk,nv0,nvS,dvI,dvB,dvS,dvL,B5,if_true,H3,D8,H2]
 · simp [hk]
theorem r92 (t u:Tm) (p:List Int) (hp:p.length<=1048576) (h:atT t p=some u):rn ⟨92,0,0⟩ [.int t.k,.int t.n,.str t.s,.sl (t.as.map Tm.row),.sl (p.map iRow)]=some (0,[.int u.k,.int u.n,.str u.s,.sl (u.as.map Tm.row),.bool true]):=by
 have key:∀ n i (t:Tm),i+n=p.length->atT t (p.drop i)=some u->rn ⟨92,0,1⟩ [.sl (p.map iRow),.int (p.length:Int),.int (i:Int),.int t.k,.int t.n,.str t.s,.sl (t.as.map Tm.row),.int 0,.int 0,.str e0,.sl []]=some (0,[.int u.k,.int u.n,.str u.s,.sl (u.as.map Tm.row),.int 0,.int 0,.str e0,.sl []]):=by
  intro n;induction n with
  | zero =>
   intro i t hi h;obtain rfl:i=p.length:=by omega
   rw [C8] at h;simp only [atT,C6.injEq] at h;subst h;rw [e92_0_1];simp only [B6,C0,D4,H4,H2,C8]
  | succ n ih =>
   intro i t hi h;have hlt:i<p.length:=by omega
   rw [B8 hlt] at h;obtain ⟨hm,h0,h1⟩:=atT_cons h;have h2:=ih (i+1) _ (by omega) h1
   rw [e92_0_1];generalize hj:p[i]=j at hm h0 h1 h2;obtain ⟨m,rfl⟩:∃ m:Nat,j=(m:Int):=⟨j.toNat,by omega⟩
   rw [B9] at hm;simp only [B9] at h2;have q1:¬((m:Int)<0):=by omega
   have q2:¬((t.as.length:Int)<=(m:Int)):=by omega
   simp only [B6,C0,hlt,H3,H1,inbN,B9,rowAt_map hlt,wrap_succ hlt (maxB (by omega)),hm,hj,q1,q2,H4,H2,rowAt_map hm,Tm.row_eq,iRow,nv0,nvS,dvI,dvB,dvS,dvL,B5]
   exact h2
 have h1:=key p.length 0 t (by omega) (by rw [D3]; exact h)
 simp only [C7] at h1;rw [e92_0_0];simp only [B6,h1,nv0,nvS,dvI,dvB,dvS,dvL,B5,E6,H1,H2]
theorem r104 (t u:Tm) (hn:t.nodes<=1048577) (p:List Int) (hp:p.length<=1048576) (h:atT t p=some u):rn ⟨104,0,0⟩ [.int t.k,.int t.n,.str t.s,.sl (t.as.map Tm.row),.sl (p.map iRow)]=some (0,[.int u.k,.int u.n,.str u.s,.bool true,.sl (u.as.map Tm.row)]):=by
 have key:∀ n i (t:Tm),i+n=p.length->t.nodes<=1048577->atT t (p.drop i)=some u->rn ⟨104,0,1⟩ [.sl (p.map iRow),.int (i:Int),.int t.k,.int t.n,.str t.s,.sl (t.as.map Tm.row),.int 0,.int 0,.str e0,.sl []]=some (0,[.int u.k,.int u.n,.str u.s,.sl (u.as.map Tm.row),.int 0,.int 0,.str e0,.sl []]):=by
  intro n;induction n with
  | zero =>
   intro i t hi _ h;obtain rfl:i=p.length:=by omega
   rw [C8] at h;simp only [atT,C6.injEq] at h;subst h;rw [e104_0_1];simp only [B6,C0,D4,H4,H2,C8]
  | succ n ih =>
   intro i t hi hn h;have hlt:i<p.length:=by omega
   rw [B8 hlt] at h;obtain ⟨hm,h0,h1⟩:=atT_cons h;have hls:=len_sum (xs:=t.as);have hnd:=Tm.nodes_eq t;have hmn:=mem_sum (f:=Tm.nodes) (C4 hm);have h2:=ih (i+1) _ (by omega) (by omega) h1
   rw [e104_0_1];generalize hj:p[i]=j at hm h0 h1 h2 hmn;obtain ⟨m,rfl⟩:∃ m:Nat,j=(m:Int):=⟨j.toNat,by omega⟩
   rw [B9] at hm;simp only [B9] at h2;have q2:(m:Int)<=(t.as.length:Int)-1:=by omega
   have hw:IntKind.i64.wrap ((t.as.length:Int)-1)=(t.as.length:Int)-1:=IntWalk.i64_in _ (by omega)
   simp only [B6,C0,hlt,H3,H1,inbN,B9,rowAt_map hlt,wrap_succ hlt (maxB (by omega)),hm,hj,hw,rIn,h0,q2,N5,D8,H2,rowAt_map hm,Tm.row_eq,iRow,nv0,nvS,dvI,dvB,dvS,dvL,B5]
   exact h2
 have h1:=key p.length 0 t (by omega) hn (by rw [D3]; exact h)
 have hun:=atT_nodes p t u h;have h3:=r60 u (small_of u (by omega))
 simp only [C7] at h1;rw [e104_0_0];simp only [h1,h3,nv0,nvS,dvI,dvB,dvS,dvL,B5,E6,H1,H2]
theorem r147 (t w:Tm) (hn:t.nodes<=1048577) (m:Nat) (hm:m<t.as.length):rn ⟨147,0,0⟩ [.int t.k,.int t.n,.str t.s,.sl (t.as.map Tm.row),.int (m:Int),.int w.k,.int w.n,.str w.s,.sl (w.as.map Tm.row)]=some (0,[.int t.k,.int t.n,.str t.s,.sl ((t.as.set m w).map Tm.row)]):=by
 have hls:=len_sum (xs:=t.as);have hnd:=Tm.nodes_eq t;have h1:=rCloneT (t.as.map Tm.row) (by rw [B6]; omega)
 rw [e147_0_0];simp only [h1,nv0,nvS,dvI,dvB,dvS,dvL,B5,B6,inbN,hm,H3,H1,B9,over_tm hm]
theorem r93 (w:Tm):∀ (p:List Int) (t u:Tm),t.nodes<=1048577->p.length<=1048576->atT t p=some u->rn ⟨93,0,0⟩ [.int t.k,.int t.n,.str t.s,.sl (t.as.map Tm.row),.sl (p.map iRow),.int w.k,.int w.n,.str w.s,.sl (w.as.map Tm.row)]=some (0,[.int (putT t p w).k,.int (putT t p w).n,.str (putT t p w).s,.sl ((putT t p w).as.map Tm.row)])
 | [],t,u,hn,hp,h=>by
  rw [e93_0_0];simp [putT]
 | j::p,t,u,hn,hp,h=>by
  obtain ⟨hm,h0,h1⟩:=atT_cons h;have hls:=len_sum (xs:=t.as);have hnd:=Tm.nodes_eq t;have hmn:=mem_sum (f:=Tm.nodes) (C4 hm);have h2:=r93 w p _ u (by omega) (by simp only [C5] at hp; omega) h1
  have ht:=tail_rows j p;rw [e93_0_0];simp only [putT,dif_pos hm];obtain ⟨m,rfl⟩:∃ m:Nat,j=(m:Int):=⟨j.toNat,by omega⟩
  simp only [B9] at hm h2 ⊢;have h3:=r147 t (putT t.as[m] p w) hn m hm;have q0:rowAt (((m:Int)::p).map iRow) 0=[.int (m:Int)]:=rfl;have q1:inb 0 (((m:Int)::p).map iRow).length=true:=by simp [inb]
  have q2:¬(((((m:Int)::p).map iRow).length:Nat):Int)=0:=by simp; omega
  have q3:(1:Int)<=((((m:Int)::p).map iRow).length:Nat):=by simp only [B6,C5]; omega
  have hm':m<(t.as.map Tm.row).length:=by rw [B6]; exact hm
  have q4:(0:Int)<=1:=by decide
  simp only [q0,q1,q2,q3,q4,ht,show N9 0=0 from rfl,Int.le_refl,nv0,nvS,dvI,dvB,dvS,dvL,B5,inbN,hm',rowAt_map hm,Tm.row_eq,H3,H4,H1,H2,N5,B9,h2,h3]
  rfl
theorem r105 (w:Tm) (hw:w.nodes<=1048577):∀ (p:List Int) (t u:Tm),t.nodes<=1048577->p.length<=1048576->atT t p=some u->rn ⟨105,0,0⟩ [.int t.k,.int t.n,.str t.s,.sl (t.as.map Tm.row),.sl (p.map iRow),.int w.k,.int w.n,.str w.s,.sl (w.as.map Tm.row)]=some (0,[.int (putT t p w).k,.int (putT t p w).n,.str (putT t p w).s,.sl ((putT t p w).as.map Tm.row)])
 | [],t,u,hn,hp,h=>by
  have h3:=r60 w (small_of w hw);rw [e105_0_0];simp only [D2,C9,C7,H3,H1,h3,nv0,nvS,dvI,dvB,dvS,dvL,B5,putT]
 | j::p,t,u,hn,hp,h=>by
  obtain ⟨hm,h0,h1⟩:=atT_cons h;have hls:=len_sum (xs:=t.as);have hnd:=Tm.nodes_eq t;have hmn:=mem_sum (f:=Tm.nodes) (C4 hm);have h2:=r105 w hw p _ u (by omega) (by simp only [C5] at hp; omega) h1
  have h3:=r60 t (small_of t hn);have ht:=tail_rows j p;rw [e105_0_0];simp only [putT,dif_pos hm];obtain ⟨m,rfl⟩:∃ m:Nat,j=(m:Int):=⟨j.toNat,by omega⟩
  simp only [B9] at hm h2 ⊢;have q0:rowAt (((m:Int)::p).map iRow) 0=[.int (m:Int)]:=rfl;have q1:inb 0 (((m:Int)::p).map iRow).length=true:=by simp [inb]
  have q2:¬(((((m:Int)::p).map iRow).length:Nat):Int)=0:=by simp; omega
  have q3:(1:Int)<=((((m:Int)::p).map iRow).length:Nat):=by simp only [B6,C5]; omega
  have hm':m<(t.as.map Tm.row).length:=by rw [B6]; exact hm
  have q4:(0:Int)<=1:=by decide
  have q5:=over_tm hm (putT t.as[m] p w);simp only [q0,q1,q2,q3,q4,ht,show N9 0=0 from rfl,Int.le_refl,nv0,nvS,dvI,dvB,dvS,dvL,B5,inbN,hm',H3,H4,H1,H2,N5,B9,h3]
  rw [rowAt_map hm] at q5 ⊢;simp only [Tm.row_eq,nv0,nvS,dvI,dvB,dvS,dvL,B5] at q5 ⊢;simp only [h2,nv0,nvS,dvI,dvB,dvS,dvL,B5,q5];rfl
end Go.Q.S
end
section
namespace Go.Q.S
open Go Go.Q Go.Proofs
theorem mI2:∀ t u:Tm,∀ l:List Bnd,Small u->(∀ b∈l,Small b.2)->l.length+t.nodes<=1048576->rn ⟨144,2,0⟩ [.int t.k,.int t.n,.str t.s,.sl (t.as.map Tm.row),.int u.k,.int u.n,.str u.s,.sl (u.as.map Tm.row),.sl (l.map Bnd.row)]=some (0,foI (mT t u l) (if t.k=1 then l.map Bnd.row else [])):=Tm.ind fun t ih u l hu hl hb=>by
 have hnd:=Tm.nodes_eq t;have hls:=len_sum (xs:=t.as);have hlp:t.as.length=u.as.length->∀ n i (l:List Bnd),i+n=t.as.length->(∀ b∈l,Small b.2)->l.length+((t.as.drop i).map Tm.nodes).sum<=1048576->rn ⟨144,2,1⟩ [.int (t.as.length:Int),.int (i:Int),.sl (l.map Bnd.row),.int t.k,.int t.n,.str t.s,.sl (t.as.map Tm.row),.int u.k,.int u.n,.str u.s,.sl (u.as.map Tm.row)]=match mTs (t.as.drop i) (u.as.drop i) l with
  | some l'=>some (0,[.sl (l'.map Bnd.row)])
  | none=>some (1,[.sl []]):=by
  intro hlen n;induction n with
  | zero =>
   intro i l hi hl hb;obtain rfl:i=t.as.length:=by omega
   rw [e144_2_1];simp only [B6,C0,D4,H4,H2,C8,mTs]
  | succ n ih2 =>
   intro i l hi hl hb;have hlt:i<t.as.length:=by omega
   have hlu:i<u.as.length:=by omega
   rw [B8 hlt] at hb ⊢;rw [B8 hlu];simp only [C2,J4] at hb;have hm:=C4 hlt;have hmu:=C4 hlu;have h1:=ih _ hm u.as[i] l (hu.sub hmu) hl (by omega)
   rw [e144_2_1];simp only [B6,C0,hlt,H3,H1,inbN,B9,rowAt_map hlt,wrap_succ hlt (maxB (by omega)),hlu,rowAt_map hlu,Tm.row_eq,nv0,nvS,dvI,dvB,dvS,dvL,B5,h1,mTs]
   cases hq:mT t.as[i] u.as[i] l with
   | none=>rfl
   | some l1 =>
    have hl1:=mT_all Small (fun t a h ha=>h.sub ha) _ _ l l1 (hu.sub hmu) hl hq
    have hn1:=mT_len _ _ _ _ hq;have h2:=ih2 (i+1) l1 (by omega) hl1 (by omega)
    simp only [foI,nv0,nvS,dvI,dvB,dvS,dvL,B5,D8,H2,h2]
 have h0:=fun h=>hlp h t.as.length 0 l (by omega) hl (by rw [D3]; omega)
 simp only [D3,C7] at h0;rw [e144_2_0,mT_eq];by_cases h1:t.k=1
 · have hbd:=r178 l (by omega) t.s
   have hb2:F9 (l.length+1) M63=true:=nb (by omega)
   simp only [h1,H3,H1,if_true,hbd];cases hq:bnd l t.s with
   | some v =>
    have he:=r56 v u (bnd_mem' hl hq);simp only [nv0,nvS,dvI,dvB,dvS,dvL,B5,H1,he];cases eqb v.row u.row <;> rfl
   | none =>
    simp only [nv0,nvS,dvI,dvB,dvS,dvL,B5,H2,B6,C5,C9,D7,hb2,H1,foI,D6,C2,D2,bd_row]
 · simp only [h1,H4,H2,if_false]
   by_cases e1:t.k=u.k
   · rw [H7 e1,H5 e1]
     by_cases e2:t.n=u.n
     · rw [H7 e2,H5 e2]
       by_cases e3:t.s=u.s
       · rw [H7 e3,H5 e3]
         by_cases e4:t.as.length=u.as.length
         · have e4':((t.as.map Tm.row).length:Int)=((u.as.map Tm.row).length:Int):=by simp [e4]
           rw [H7 e4',H5 e4];simp only [D8,H2,B6,h0 e4];cases mTs t.as u.as l <;> rfl
         · have e4':¬((t.as.map Tm.row).length:Int)=((u.as.map Tm.row).length:Int):=by simp; omega
           rw [H8 e4',H6 e4]; rfl
       · rw [H8 e3,H6 e3]; rfl
     · rw [H8 e2,H6 e2]; rfl
   · rw [H8 e1,H6 e1]; rfl
theorem mI1:∀ t u:Tm,∀ l:List Bnd,Small u->(∀ b∈l,Small b.2)->l.length+t.nodes<=1048576->rn ⟨144,1,0⟩ [.int t.k,.int t.n,.str t.s,.sl (t.as.map Tm.row),.int u.k,.int u.n,.str u.s,.sl (u.as.map Tm.row),.sl (l.map Bnd.row)]=some (0,foI (mT t u l) (if t.k=1 then l.map Bnd.row else [])):=fun t u l hu hl hb=>by
 have ih:=fun (a:Tm) (_:a∈t.as)=>mI2 a
 have hnd:=Tm.nodes_eq t;have hls:=len_sum (xs:=t.as);have hlp:t.as.length=u.as.length->∀ n i (l:List Bnd),i+n=t.as.length->(∀ b∈l,Small b.2)->l.length+((t.as.drop i).map Tm.nodes).sum<=1048576->rn ⟨144,1,1⟩ [.int (t.as.length:Int),.int (i:Int),.sl (l.map Bnd.row),.int t.k,.int t.n,.str t.s,.sl (t.as.map Tm.row),.int u.k,.int u.n,.str u.s,.sl (u.as.map Tm.row)]=match mTs (t.as.drop i) (u.as.drop i) l with
  | some l'=>some (0,[.sl (l'.map Bnd.row)])
  | none=>some (1,[.sl []]):=by
  intro hlen n;induction n with
  | zero =>
   intro i l hi hl hb;obtain rfl:i=t.as.length:=by omega
   rw [e144_1_1];simp only [B6,C0,D4,H4,H2,C8,mTs]
  | succ n ih2 =>
   intro i l hi hl hb;have hlt:i<t.as.length:=by omega
   have hlu:i<u.as.length:=by omega
   rw [B8 hlt] at hb ⊢;rw [B8 hlu];simp only [C2,J4] at hb;have hm:=C4 hlt;have hmu:=C4 hlu;have h1:=ih _ hm u.as[i] l (hu.sub hmu) hl (by omega)
   rw [e144_1_1];simp only [B6,C0,hlt,H3,H1,inbN,B9,rowAt_map hlt,wrap_succ hlt (maxB (by omega)),hlu,rowAt_map hlu,Tm.row_eq,nv0,nvS,dvI,dvB,dvS,dvL,B5,h1,mTs]
   cases hq:mT t.as[i] u.as[i] l with
   | none=>rfl
   | some l1 =>
    have hl1:=mT_all Small (fun t a h ha=>h.sub ha) _ _ l l1 (hu.sub hmu) hl hq
    have hn1:=mT_len _ _ _ _ hq;have h2:=ih2 (i+1) l1 (by omega) hl1 (by omega)
    simp only [foI,nv0,nvS,dvI,dvB,dvS,dvL,B5,D8,H2,h2]
 have h0:=fun h=>hlp h t.as.length 0 l (by omega) hl (by rw [D3]; omega)
 simp only [D3,C7] at h0;rw [e144_1_0,mT_eq];by_cases h1:t.k=1
 · have hbd:=r178 l (by omega) t.s
   have hb2:F9 (l.length+1) M63=true:=nb (by omega)
   simp only [h1,H3,H1,if_true,hbd];cases hq:bnd l t.s with
   | some v =>
    have he:=r56 v u (bnd_mem' hl hq);simp only [nv0,nvS,dvI,dvB,dvS,dvL,B5,H1,he];cases eqb v.row u.row <;> rfl
   | none =>
    simp only [nv0,nvS,dvI,dvB,dvS,dvL,B5,H2,B6,C5,C9,D7,hb2,H1,foI,D6,C2,D2,bd_row]
 · simp only [h1,H4,H2,if_false]
   by_cases e1:t.k=u.k
   · rw [H7 e1,H5 e1]
     by_cases e2:t.n=u.n
     · rw [H7 e2,H5 e2]
       by_cases e3:t.s=u.s
       · rw [H7 e3,H5 e3]
         by_cases e4:t.as.length=u.as.length
         · have e4':((t.as.map Tm.row).length:Int)=((u.as.map Tm.row).length:Int):=by simp [e4]
           rw [H7 e4',H5 e4];simp only [D8,H2,B6,h0 e4];cases mTs t.as u.as l <;> rfl
         · have e4':¬((t.as.map Tm.row).length:Int)=((u.as.map Tm.row).length:Int):=by simp; omega
           rw [H8 e4',H6 e4]; rfl
       · rw [H8 e3,H6 e3]; rfl
     · rw [H8 e2,H6 e2]; rfl
   · rw [H8 e1,H6 e1]; rfl
theorem mS:∀ t u:Tm,∀ l:List Bnd,Small u->(∀ b∈l,Small b.2)->l.length+t.nodes<=1048576->(∀ l',mT t u l=some l'->rn ⟨203,1,0⟩ [.int t.k,.int t.n,.str t.s,.sl (t.as.map Tm.row),.int u.k,.int u.n,.str u.s,.sl (u.as.map Tm.row),.sl (l.map Bnd.row)]=some (0,[.bool true,.sl (l'.map Bnd.row)]))/\(mT t u l=none->(∃ X,rn ⟨203,1,0⟩ [.int t.k,.int t.n,.str t.s,.sl (t.as.map Tm.row),.int u.k,.int u.n,.str u.s,.sl (u.as.map Tm.row),.sl (l.map Bnd.row)]=some (0,[.bool false,.sl X]))\/rn ⟨203,1,0⟩ [.int t.k,.int t.n,.str t.s,.sl (t.as.map Tm.row),.int u.k,.int u.n,.str u.s,.sl (u.as.map Tm.row),.sl (l.map Bnd.row)]=some (1,[])):=Tm.ind fun t ih u l hu hl hb=>by
 have hnd:=Tm.nodes_eq t;have hls:=len_sum (xs:=t.as);have hlp:t.as.length=u.as.length->∀ n i (l:List Bnd),i+n=t.as.length->(∀ b∈l,Small b.2)->l.length+((t.as.drop i).map Tm.nodes).sum<=1048576->rn ⟨203,1,1⟩ [.int (i:Int),.sl (l.map Bnd.row),.int t.k,.int t.n,.str t.s,.sl (t.as.map Tm.row),.int u.k,.int u.n,.str u.s,.sl (u.as.map Tm.row)]=match mTs (t.as.drop i) (u.as.drop i) l with
  | some l'=>some (0,[.sl (l'.map Bnd.row)])
  | none=>some (1,[]):=by
  intro hlen n;induction n with
  | zero =>
   intro i l hi hl hb;obtain rfl:i=t.as.length:=by omega
   rw [e203_1_1];simp only [B6,C0,D4,H4,H2,C8,mTs]
  | succ n ih2 =>
   intro i l hi hl hb;have hlt:i<t.as.length:=by omega
   have hlu:i<u.as.length:=by omega
   rw [B8 hlt] at hb ⊢;rw [B8 hlu];simp only [C2,J4] at hb;have hm:=C4 hlt;have hmu:=C4 hlu;obtain ⟨h1,h1'⟩:=ih _ hm u.as[i] l (hu.sub hmu) hl (by omega)
   rw [e203_1_1];simp only [B6,C0,hlt,H3,H1,inbN,B9,rowAt_map hlt,wrap_succ hlt (maxB (by omega)),hlu,rowAt_map hlu,Tm.row_eq,nv0,nvS,dvI,dvB,dvS,dvL,B5,mTs]
   cases hq:mT t.as[i] u.as[i] l with
   | none =>
    rcases h1' hq with ⟨X,e⟩ | e
    · rw [e]; rfl
    · rw [e]; rfl
   | some l1 =>
    have hl1:=mT_all Small (fun t a h ha=>h.sub ha) _ _ l l1 (hu.sub hmu) hl hq
    have hn1:=mT_len _ _ _ _ hq;have h2:=ih2 (i+1) l1 (by omega) hl1 (by omega)
    simp only [h1 l1 hq,nv0,nvS,dvI,dvB,dvS,dvL,B5,E6,H1,H2,D8,h2]
 have h0:=fun h=>hlp h t.as.length 0 l (by omega) hl (by rw [D3]; omega)
 simp only [D3,C7] at h0;rw [e203_1_0,mT_eq];by_cases h1:t.k=1
 · have hbd:=r166 l (by omega) hl t.s
   have hb2:F9 (l.length+1) M63=true:=nb (by omega)
   have hcp:=r60 u hu;simp only [h1,H3,H1,if_true,hbd];cases hq:bnd l t.s with
   | some v =>
    have he:=r12 v u (bnd_mem' hl hq);simp only [nv0,nvS,dvI,dvB,dvS,dvL,B5,H1,he];cases eqb v.row u.row with
    | true=>exact ⟨fun l' h=>by simp only [if_true,C6.injEq] at h; subst h; rfl,fun h=>by simp at h⟩
    | false=>exact ⟨fun l' h=>by simp at h,fun _=>.inl ⟨_,rfl⟩⟩
   | none =>
    refine ⟨fun l' h=>?_,fun h=>by simp at h⟩
    simp only [C6.injEq] at h;subst h;simp only [nv0,nvS,dvI,dvB,dvS,dvL,B5,H2,hcp,B6,C5,C9,D7,hb2,H1,D6,C2,D2,bd_row]
 · simp only [h1,H4,H2,if_false]
   by_cases e1:t.k=u.k
   · rw [H7 e1,H5 e1]
     by_cases e2:t.n=u.n
     · rw [H7 e2,H5 e2]
       by_cases e3:t.s=u.s
       · rw [H7 e3,H5 e3]
         by_cases e4:t.as.length=u.as.length
         · have e4':((t.as.map Tm.row).length:Int)=((u.as.map Tm.row).length:Int):=by simp [e4]
           rw [H7 e4',H5 e4];simp only [D8,H2,h0 e4];cases mTs t.as u.as l with
           | none=>exact ⟨fun l' h=>by simp at h,fun _=>.inr rfl⟩
           | some l2=>exact ⟨fun l' h=>by simp only [C6.injEq] at h; subst h; rfl,fun h=>by simp at h⟩
         · have e4':¬((t.as.map Tm.row).length:Int)=((u.as.map Tm.row).length:Int):=by simp; omega
           rw [H8 e4',H6 e4]; exact ⟨fun l' h=>by simp at h,fun _=>.inl ⟨_,rfl⟩⟩
       · rw [H8 e3,H6 e3]; exact ⟨fun l' h=>by simp at h,fun _=>.inl ⟨_,rfl⟩⟩
     · rw [H8 e2,H6 e2]; exact ⟨fun l' h=>by simp at h,fun _=>.inl ⟨_,rfl⟩⟩
   · rw [H8 e1,H6 e1]; exact ⟨fun l' h=>by simp at h,fun _=>.inl ⟨_,rfl⟩⟩
theorem r204 (l:List Bnd) (hl:l.length<=1048576) (hs:∀ b∈l,Small b.2) (ns:List ByteArray) (hn:ns.length<=1048577):rn ⟨204,0,0⟩ [.sl (l.map Bnd.row),.sl (ns.map sRow)]=some (0,[.sl ((rsB l (srtN ns)).map Bnd.row)]):=by
 have h1:=r182 ns (by omega)
 have hsl:=srtN_len ns;rw [e204_0_0,h1];generalize srtN ns=ms at hsl ⊢;have key:∀ n i (acc:List Bnd),i+n=ms.length->acc.length<=i->rn ⟨204,0,1⟩ [.sl (l.map Bnd.row),.int (i:Int),.sl (acc.map Bnd.row),.sl (ms.map sRow)]=some (0,[.sl ((acc++rsB l (ms.drop i)).map Bnd.row)]):=by
  intro n;induction n with
  | zero =>
   intro i acc hi ha;obtain rfl:i=ms.length:=by omega
   rw [e204_0_1];simp only [B6,C0,D4,H4,H2,C8,rsB,List.filterMap_nil,J1]
  | succ n ih =>
   intro i acc hi ha;have hlt:i<ms.length:=by omega
   rw [e204_0_1,B8 hlt,rsB_cons];have hbd:=r166 l hl hs ms[i];have hb2:F9 (acc.length+1) M63=true:=nb (by omega)
   simp only [B6,C0,hlt,H3,H1,inbN,B9,rowAt_map hlt,wrap_succ hlt (maxB (by omega)),sRow,nv0,nvS,dvI,dvB,dvS,dvL,B5,hbd]
   cases hq:bnd l ms[i] with
   | none =>
    have h2:=ih (i+1) acc (by omega) (by omega)
    simp only [nv0,nvS,dvI,dvB,dvS,dvL,B5,H2,h2]
   | some v =>
    have h2:=ih (i+1) (acc++[(ms[i],v)]) (by omega) (by simp; omega)
    simp only [D6,C2,D2,bd_row,sRow] at h2;simp only [nv0,nvS,dvI,dvB,dvS,dvL,B5,H1,C5,C9,D7,hb2,h2,D6,C2,E1,J2,E8,bd_row]
 have h:=key ms.length 0 [] (by omega) (K3 _)
 simp only [C7,D2,D3,E8] at h;simp only [h,nv0,nvS,dvI,dvB,dvS,dvL,B5,E6,H1,H2]
theorem r160 (t u:Tm) (ht:t.nodes<=1048576) (hu:Small u):rn ⟨160,0,0⟩ [.int t.k,.int t.n,.str t.s,.sl (t.as.map Tm.row),.int u.k,.int u.n,.str u.s,.sl (u.as.map Tm.row)]=some (0,foI ((mT t u []).map fun l=>rsB l (srtN (srtN t.names))) []):=by
 obtain ⟨h1,h2⟩:=mS t u [] hu (by simp) (by simpa using ht)
 have h3:=r125 t (by omega)
 have hnl:=names_nodes t;have hsl:=srtN_len t.names;rw [e160_0_0];simp only [D2] at h1 h2;cases hq:mT t u [] with
 | none =>
  rcases h2 hq with ⟨X,e⟩ | e
  · rw [e]; rfl
  · rw [e]; rfl
 | some l =>
  have hls:=mT_all Small (fun t a h ha=>h.sub ha) t u [] l hu (by simp) hq
  have hln:=mT_len _ _ _ _ hq;simp only [C9] at hln;have h4:=r204 l (by omega) hls (srtN t.names) (by omega)
  simp only [h1 l hq,nv0,nvS,dvI,dvB,dvS,dvL,B5,E6,H1,H2,D8,h3,h4,K4,foI]
theorem holdI (l:List Bnd) (hl:l.length<=1048576) (hs:∀ b∈l,b.2.nodes<=60) (gs:List Gu) (hg:gs.length<=1048576) (h:∀ g∈gs,g.l.nodes<=60/\g.r.nodes<=60):rn ⟨145,0,0⟩ [.sl (l.map Bnd.row),.sl (gs.map Gu.row)]=some (0,[.bool (gs.all fun g=>holds (appG l g))]):=by
 have hss:∀ b∈l,Small b.2:=fun b hb=>small_of _ (by have:=hs b hb; omega)
 rw [e145_0_0];have hf:=all_loop (F:=fun i=>rn ⟨145,0,1⟩ [.sl (l.map Bnd.row),.sl (gs.map Gu.row),.int (gs.map Gu.row).length,.int (i:Int)]) (xs:=gs) (p:=fun g=>holds (appG l g)) (A:=some (0,[])) (B:=some (1,[])) (fun i hi=>?_) ?_
 · simp only [C7] at hf
   rw [hf];cases gs.all fun g=>holds (appG l g) <;> rfl
 · have hgi:=h _ (C4 hi)
   have a1:=r199 l hl hss gs[i] ⟨by omega,by omega⟩
   have a2:=r198 (appG l gs[i]) (appG_ok60 hs hgi.1 hgi.2);rw [e145_0_1];simp only [B9,rowAt_map hi,gu_row,B6,inbN,hi,C0,H3,H1,nv0,nvS,dvI,dvB,dvS,dvL,B5,wrap_succ hi (by unfold maxLen; omega),a1,a2]
   cases holds (appG l gs[i]) <;> rfl
 · rw [e145_0_1]
   simp
theorem r89 (d:DfM) (hd:DfG d) (i:Nat) (hi:i<d.ru.length) (u:Tm) (hu:u.nodes<=60):rn ⟨89,0,0⟩ [.sl (d.so.map sRow),.sl (d.op.map OpM.row),.sl (d.ru.map RuM.row),.sl (d.st.map StM.row),.int (i:Int),.int u.k,.int u.n,.str u.s,.sl (u.as.map Tm.row)]=some (0,frR (fireR d.ru[i] u)):=by
 have hr:=hd.ru (C4 hi);have hln:=valid_nodes hr.lv;have hrn:=valid_nodes hr.rv;have h1:=mI1 d.ru[i].l u [] (small_of u (by omega)) (by simp) (by simp; omega)
 rw [e89_0_0];simp only [D2] at h1;simp only [B6,inbN,hi,H3,H1,B9,rowAt_map hi,RuM.row,nv0,nvS,dvI,dvB,dvS,dvL,B5,h1];unfold fireR;cases hq:mT d.ru[i].l u [] with
 | none=>rfl
 | some l =>
  have hls:=mT_all (fun t=>t.nodes<=60) (fun t a h ha=>nodes_sub t a h ha) _ u [] l hu (by simp) hq
  have hln2:=mT_len _ _ _ _ hq;simp only [C9] at hln2;have hss:∀ b∈l,Small b.2:=fun b hb=>small_of _ (by have:=hls b hb; omega)
  have h2:=holdI l (by omega) hls d.ru[i].g hr.b.g (fun g hg=>⟨valid_nodes (hr.gl g hg).1,valid_nodes (hr.gl g hg).2⟩)
  have h3:=r121 l (by omega) hss d.ru[i].r (small_of _ (by omega))
  have h4:=r120 (aS l d.ru[i].r) (aS_small hss _ (small_of _ (by omega)))
  simp only [foI,nv0,nvS,dvI,dvB,dvS,dvL,B5,D8,H2,h2,h3,h4];cases d.ru[i].g.all fun g=>holds (appG l g) <;> rfl
theorem r102 {ops:List OpM} (r:RuM) (hr:RuG ops r) (u:Tm) (hu:u.nodes<=60):rn ⟨102,0,0⟩ [.str r.n,.int (r.l).k,.int (r.l).n,.str (r.l).s,.sl ((r.l).as.map Tm.row),.int (r.r).k,.int (r.r).n,.str (r.r).s,.sl ((r.r).as.map Tm.row),.sl (r.g.map Gu.row),.int u.k,.int u.n,.str u.s,.sl (u.as.map Tm.row)]=some (0,[.bool (fireR r u).isSome,.sl ((fiL r u).map Bnd.row)]):=by
 have hln:=valid_nodes hr.lv;have hrn:=valid_nodes hr.rv;have hgl:=hr.b.g;have h1:=r160 r.l u (by omega) (small_of u (by omega))
 have hL:(∀ b∈fiL r u,b.2.nodes<=60)/\(fiL r u).length<=1048576:=by
  unfold fiL;cases hq:mT r.l u [] with
  | none=>exact ⟨by simp,by simp⟩
  | some l =>
   have hls:=mT_all (fun t=>t.nodes<=60) (fun t a h ha=>nodes_sub t a h ha) _ u [] l hu (by simp) hq
   have h1:=srtN_len r.l.names;have h2:=srtN_len (srtN r.l.names);have h3:=names_nodes r.l;have h4:=rsB_len l (srtN (srtN r.l.names));exact ⟨fun b hb=>rsB_mem (P:=fun t=>t.nodes<=60) hls _ b hb,by show (rsB l _).length<=_; omega⟩
 have hss:∀ b∈fiL r u,Small b.2:=fun b hb=>small_of _ (by have:=hL.1 b hb; omega)
 have e:rn ⟨160,0,0⟩ [.int (r.l).k,.int (r.l).n,.str (r.l).s,.sl ((r.l).as.map Tm.row),.int u.k,.int u.n,.str u.s,.sl (u.as.map Tm.row)]=some (0,[.bool (mT r.l u []).isSome,.sl ((fiL r u).map Bnd.row)]):=by
  rw [h1]; unfold fiL;cases mT r.l u [] <;> rfl
 have key:∀ n i (b:Bool),i+n=r.g.length->rn ⟨102,0,1⟩ [.bool b,.int (i:Int),.str r.n,.int (r.l).k,.int (r.l).n,.str (r.l).s,.sl ((r.l).as.map Tm.row),.int (r.r).k,.int (r.r).n,.str (r.r).s,.sl ((r.r).as.map Tm.row),.sl (r.g.map Gu.row),.sl ((fiL r u).map Bnd.row)]=some (0,[.bool (b&&(r.g.drop i).all fun g=>holds (appG (fiL r u) g)),.sl ((fiL r u).map Bnd.row)]):=by
  intro n;induction n with
  | zero =>
   intro i b hi;obtain rfl:i=r.g.length:=by omega
   rw [e102_0_1];simp only [B6,C0,D4,H4,H2,C8,N8,N5]
  | succ n ih =>
   intro i b hi;have hlt:i<r.g.length:=by omega
   have hgi:=hr.gl _ (C4 hlt);have g1:=valid_nodes hgi.1;have g2:=valid_nodes hgi.2;have a1:=r162 (fiL r u) hL.2 hss r.g[i] ⟨by omega,by omega⟩
   have a2:=r161 (appG (fiL r u) r.g[i]) (appG_ok60 hL.1 g1 g2);rw [e102_0_1,B8 hlt];cases b with
   | false=>simp [hlt]
   | true =>
    simp only [B6,C0,hlt,H3,H1,inbN,B9,rowAt_map hlt,wrap_succ hlt (maxB (by omega)),gu_row,nv0,nvS,dvI,dvB,dvS,dvL,B5,a1,a2,ih (i+1) _ (by omega),J9,G5]
 have h2:=fun b=>key r.g.length 0 b (by omega)
 simp only [D3,C7] at h2;rw [e102_0_0];simp only [e,nv0,nvS,dvI,dvB,dvS,dvL,B5,E6,H1,H2,h2];rw [fireR_eq];cases ((mT r.l u []).isSome&&r.g.all fun g=>holds (appG (fiL r u) g)) <;> rfl
theorem r135 (d:DfM) (hd:DfG d) (u:Tm) (hu:u.nodes<=60):rn ⟨135,0,0⟩ [.sl (d.so.map sRow),.sl (d.op.map OpM.row),.sl (d.ru.map RuM.row),.sl (d.st.map StM.row),.int u.k,.int u.n,.str u.s,.sl (u.as.map Tm.row)]=some (0,[.int (optZ (rootF d.ru u))]):=by
 have hrl:=hd.b.ru;have key:∀ n i,i+n=d.ru.length->rn ⟨135,0,1⟩ [.int (d.ru.length:Int),.int (i:Int),.sl (d.so.map sRow),.sl (d.op.map OpM.row),.sl (d.ru.map RuM.row),.sl (d.st.map StM.row),.int u.k,.int u.n,.str u.s,.sl (u.as.map Tm.row)]=match (d.ru.drop i).findIdx? (fun r=>(fireR r u).isSome) with
  | some j=>some (1,[.int ((i+j:Nat):Int)])
  | none=>some (0,[]):=by
  intro n;induction n with
  | zero =>
   intro i hi;obtain rfl:i=d.ru.length:=by omega
   rw [e135_0_1];simp only [B6,C0,D4,H4,H2,C8,List.findIdx?_nil]
  | succ n ih =>
   intro i hi;have hlt:i<d.ru.length:=by omega
   have h1:=r89 d hd i hlt u hu;have h2:=ih (i+1) (by omega)
   rw [e135_0_1,B8 hlt,List.findIdx?_cons];simp only [C0,hlt,H3,H1,h1,wrap_succ hlt (maxB (by omega)),h2]
   cases fireR d.ru[i] u with
   | some w=>rfl
   | none =>
    simp only [frR,nv0,nvS,dvI,dvB,dvS,dvL,B5,H2,Option.isSome_none,Q2,if_false];cases (d.ru.drop (i+1)).findIdx? (fun r=>(fireR r u).isSome) with
    | none=>rfl
    | some j=>simp only [K4,show i+(j+1)=i+1+j by omega]
 have h:=key d.ru.length 0 (by omega)
 simp only [D3,C7,D7] at h;rw [e135_0_0];simp only [B6,h];unfold rootF;cases d.ru.findIdx? (fun r=>(fireR r u).isSome) <;> rfl
theorem r136 (d:DfM) (hd:DfG d) (u:Tm) (hu:u.nodes<=60):rn ⟨136,0,0⟩ [.sl (d.so.map sRow),.sl (d.op.map OpM.row),.sl (d.ru.map RuM.row),.sl (d.st.map StM.row),.int u.k,.int u.n,.str u.s,.sl (u.as.map Tm.row)]=some (0,[.int (optZ (rootF d.ru u))]):=by
 have hrl:=hd.b.ru;have key:∀ n i,i+n=d.ru.length->rn ⟨136,0,1⟩ [.int (i:Int),.sl (d.so.map sRow),.sl (d.op.map OpM.row),.sl (d.ru.map RuM.row),.sl (d.st.map StM.row),.int u.k,.int u.n,.str u.s,.sl (u.as.map Tm.row)]=match (d.ru.drop i).findIdx? (fun r=>(fireR r u).isSome) with
  | some j=>some (1,[.int ((i+j:Nat):Int)])
  | none=>some (0,[]):=by
  intro n;induction n with
  | zero =>
   intro i hi;obtain rfl:i=d.ru.length:=by omega
   rw [e136_0_1];simp only [B6,C0,D4,H4,H2,C8,List.findIdx?_nil]
  | succ n ih =>
   intro i hi;have hlt:i<d.ru.length:=by omega
   have h1:=r102 d.ru[i] (hd.ru (C4 hlt)) u hu;have h2:=ih (i+1) (by omega)
   rw [e136_0_1,B8 hlt,List.findIdx?_cons];simp only [B6,C0,hlt,H3,H1,inbN,B9,rowAt_map hlt,wrap_succ hlt (maxB (by omega)),RuM.row,nv0,nvS,dvI,dvB,dvS,dvL,B5,h1,h2]
   cases fireR d.ru[i] u with
   | some w=>rfl
   | none =>
    simp only [H2,Option.isSome_none,Q2,if_false];cases (d.ru.drop (i+1)).findIdx? (fun r=>(fireR r u).isSome) with
    | none=>rfl
    | some j=>simp only [K4,show i+(j+1)=i+1+j by omega]
 have h:=key d.ru.length 0 (by omega)
 simp only [D3,C7,D7] at h;rw [e136_0_0];simp only [h];unfold rootF;cases d.ru.findIdx? (fun r=>(fireR r u).isSome) <;> rfl
end Go.Q.S
end
section
namespace Go.Q.S
open Go Go.Q Go.Proofs
theorem r83 (d:DfM) (hd:DfG d):∀ t:Tm,Gt d.op t->t.nodes<=60->∀ acc:List Int,acc.length+t.nodes<=1048576->rn ⟨83,0,0⟩ [.sl (d.so.map sRow),.sl (d.op.map OpM.row),.sl (d.ru.map RuM.row),.sl (d.st.map StM.row),.int t.k,.int t.n,.str t.s,.sl (t.as.map Tm.row),.sl (acc.map iRow)]=some (0,nrR (nx d t) acc):=Tm.ind fun t ih ht hn acc hac=>by
 have hnd:=Tm.nodes_eq t;have hls:=len_sum (xs:=t.as);have hst:=hd.b.st;have hql:=stL_len d.st t;have hlp:∀ n i,i+n=(stL d.st t).length->rn ⟨83,0,1⟩ [.int ((stL d.st t).length:Int),.int (i:Int),.sl (acc.map iRow),.sl (d.so.map sRow),.sl (d.op.map OpM.row),.sl (d.ru.map RuM.row),.sl (d.st.map StM.row),.int t.k,.int t.n,.str t.s,.sl (t.as.map Tm.row),.int 0,.sl ((stL d.st t).map iRow),.sl []]=match pickF ((stL d.st t).drop i) (t.as.map (nx d)) with
  | some x=>some (1,[.int (x.1:Int),.sl ((acc++x.2).map iRow)])
  | none=>some (0,[.sl (acc.map iRow),.sl (d.so.map sRow),.sl (d.op.map OpM.row),.sl (d.ru.map RuM.row),.sl (d.st.map StM.row),.int t.k,.int t.n,.str t.s,.sl (t.as.map Tm.row),.int 0,.sl []]):=by
  have hq:∀ j∈stL d.st t,0<=j/\j.toNat<t.as.length:=fun j hj=>stL_lt hd ht hj
  generalize stL d.st t=q at hql hq ⊢;intro n;induction n with
  | zero =>
   intro i hi;obtain rfl:i=q.length:=by omega
   rw [e83_0_1];simp only [B6,C0,D4,H4,H2,C8,pick_nil]
  | succ n ih2 =>
   intro i hi;have hlt:i<q.length:=by omega
   obtain ⟨h0,hm⟩:=hq _ (C4 hlt);rw [B8 hlt];rw [e83_0_1];generalize hj:q[i]=j at h0 hm ⊢;obtain ⟨m,rfl⟩:∃ m:Nat,j=(m:Int):=⟨j.toNat,by omega⟩
   rw [B9] at hm;have hmm:=C4 hm;have hms:=mem_sum (f:=Tm.nodes) hmm;have h1:=ih _ hmm (ht.sub hmm) (by omega) (acc++[(m:Int)]) (by simp; omega)
   have h2:=rCloneI (acc.map iRow) (by rw [B6]; omega)
   have hb2:F9 (acc.length+1) M63=true:=nb (by omega)
   simp only [D6,C2,D2,iRow] at h1;rw [pick_cons hm];simp only [B6,C0,hlt,H3,H1,inbN,B9,rowAt_map hlt,wrap_succ hlt (maxB (by omega)),hj,hm,rowAt_map hm,Tm.row_eq,iRow,nv0,nvS,dvI,dvB,dvS,dvL,B5,C5,C9,D7,hb2]
   simp only [h2,nv0,nvS,dvI,dvB,dvS,dvL,B5,B6,hb2,H1,h1];have h3:=ih2 (i+1) (by omega)
   cases nx d t.as[m] with
   | some x=>simp only [nrR,nv0,nvS,dvI,dvB,dvS,dvL,B5,H1,E1,J2,E8]
   | none=>simp only [nrR,nv0,nvS,dvI,dvB,dvS,dvL,B5,H2,h3]
 have h0:=hlp (stL d.st t).length 0 (by omega)
 simp only [D3,C7] at h0;have h1:=r90 d hd.b t;have h2:=r135 d hd t hn;rw [e83_0_0,nx_eq,h1];simp only [nv0,nvS,dvI,dvB,dvS,dvL,B5,B6,h0];cases pickF (stL d.st t) (t.as.map (nx d)) with
 | some x=>rfl
 | none =>
  simp only [nv0,nvS,dvI,dvB,dvS,dvL,B5,E6,H1,H2,h2];cases rootF d.ru t with
  | none=>rfl
  | some i =>
   have q:¬((i:Int)<0):=by omega
   simp only [optZ,q,H4,H2,K4,nrR,J1]
theorem r85 (d:DfM) (hd:DfG d):∀ t:Tm,Gt d.op t->t.nodes<=60->rn ⟨85,0,0⟩ [.sl (d.so.map sRow),.sl (d.op.map OpM.row),.sl (d.ru.map RuM.row),.sl (d.st.map StM.row),.int t.k,.int t.n,.str t.s,.sl (t.as.map Tm.row)]=some (0,nrS (nx d t)):=Tm.ind fun t ih ht hn=>by
 have hnd:=Tm.nodes_eq t;have hls:=len_sum (xs:=t.as);have hst:=hd.b.st;have hql:=strA_len d.st t.s;have hlp:∀ n i,i+n=(strA d.st t.s).length->rn ⟨85,0,1⟩ [.int (i:Int),.sl (d.so.map sRow),.sl (d.op.map OpM.row),.sl (d.ru.map RuM.row),.sl (d.st.map StM.row),.int t.k,.int t.n,.str t.s,.sl (t.as.map Tm.row),.int 0,.sl ((strA d.st t.s).map iRow),.sl []]=match pickF (if t.k=2 then (strA d.st t.s).drop i else []) (t.as.map (nx d)) with
  | some x=>some (1,[.int (x.1:Int),.sl (x.2.map iRow)])
  | none=>some (0,[.sl (d.so.map sRow),.sl (d.op.map OpM.row),.sl (d.ru.map RuM.row),.sl (d.st.map StM.row),.int t.k,.int t.n,.str t.s,.sl (t.as.map Tm.row),.int 0,.sl []]):=by
  by_cases hk:t.k=2
  · have hq:∀ j∈strA d.st t.s,0<=j/\j.toNat<t.as.length:=fun j hj=>stL_lt hd ht (by unfold stL; rw [H5 hk]; exact hj)
    generalize strA d.st t.s=q at hql hq ⊢;intro n;simp only [H5 hk];induction n with
    | zero =>
     intro i hi;obtain rfl:i=q.length:=by omega
     rw [e85_0_1];simp only [B6,C0,D4,H4,H2,C8,pick_nil]
    | succ n ih2 =>
     intro i hi;have hlt:i<q.length:=by omega
     obtain ⟨h0,hm⟩:=hq _ (C4 hlt);rw [B8 hlt];rw [e85_0_1];generalize hj:q[i]=j at h0 hm ⊢;obtain ⟨m,rfl⟩:∃ m:Nat,j=(m:Int):=⟨j.toNat,by omega⟩
     rw [B9] at hm;have hmm:=C4 hm;have hms:=mem_sum (f:=Tm.nodes) hmm;have h1:=ih _ hmm (ht.sub hmm) (by omega)
     have q2:(m:Int)<=(t.as.length:Int)-1:=by omega
     have hw:IntKind.i64.wrap ((t.as.length:Int)-1)=(t.as.length:Int)-1:=IntWalk.i64_in _ (by omega)
     have h3:=ih2 (i+1) (by omega)
     rw [pick_cons hm,H7 hk];simp only [B6,C0,hlt,H3,H1,inbN,B9,rowAt_map hlt,wrap_succ hlt (maxB (by omega)),hj,hm,hw,h0,q2,rIn,N5,D8,H2,rowAt_map hm,Tm.row_eq,iRow,nv0,nvS,dvI,dvB,dvS,dvL,B5,h1]
     cases hx:nx d t.as[m] with
     | some x =>
      obtain ⟨u,_,_,hu,_⟩:=nx_spec d _ x.1 x.2 hx;have hun:=atT_nodes x.2 _ u hu;have hb2:F9 (0+1+x.2.length) M63=true:=nb (by omega)
      simp only [nrS,nv0,nvS,dvI,dvB,dvS,dvL,B5,H1,C5,C9,B6,hb2,J2,E8,C2,iRow]
     | none=>simp only [nrS,nv0,nvS,dvI,dvB,dvS,dvL,B5,H2,h3]
  · intro n i hi
    rw [H6 hk,pick_nil,e85_0_1,H8 hk];cases decide ((i:Int)<(((strA d.st t.s).map iRow).length:Int)) <;> rfl
 have h0:=hlp (strA d.st t.s).length 0 (by omega)
 simp only [D3,C7] at h0;have h1:=fun a b c=>r103 a b c d.st hd.b.st t.s
 have h2:=r136 d hd t hn;have hmx:∀ x:Option Nat,rn ⟨137,0,0⟩ [.int (optZ x),.int 0]=some (0,[.int ((x.getD 0:Nat):Int)]):=fun x=>by
  rw [e137_0_0];cases x with
  | none=>rfl
  | some i =>
   by_cases hi:(0:Int)<optZ (some i)
   · rw [H7 hi]; rfl
   · rw [H8 hi]
     simp only [optZ] at hi;obtain rfl:i=0:=by omega
     rfl
 rw [e85_0_0,nx_eq,h1];simp only [nv0,nvS,dvI,dvB,dvS,dvL,B5,h0];have e:(if t.k=2 then strA d.st t.s else [])=stL d.st t:=rfl
 rw [e];cases pickF (stL d.st t) (t.as.map (nx d)) with
 | some x=>rfl
 | none =>
  simp only [nv0,nvS,dvI,dvB,dvS,dvL,B5,E6,H1,H2,h2,hmx];cases rootF d.ru t with
  | none=>rfl
  | some i =>
   have q:(0:Int)<=(i:Int):=by omega
   simp only [optZ,q,H3,K4,nrS,Option.getD_some,D2]
theorem r54 (d:DfM) (hd:DfG d) (t:Tm) (ht:Gt d.op t) (hn:t.nodes<=60) (i:Nat) (p:List Int) (hx:nx d t=some (i,p)):rn ⟨54,0,0⟩ [.sl (d.so.map sRow),.sl (d.op.map OpM.row),.sl (d.ru.map RuM.row),.sl (d.st.map StM.row),.int t.k,.int t.n,.str t.s,.sl (t.as.map Tm.row),.int (i:Int),.sl (p.map iRow)]=some (0,[.int (stepT d t i p).k,.int (stepT d t i p).n,.str (stepT d t i p).s,.sl ((stepT d t i p).as.map Tm.row),.bool (stepT d t i p).valid]):=by
 obtain ⟨u,r,w,h1,h2,h3,e,hu,hun,hw,hwn,hg,hgn,hp,hr⟩:=step_good hd ht hn hx;obtain ⟨hi,hri⟩:=D1.1 h2;have a1:=r92 t u p (by omega) h1
 have a2:=r89 d hd i hi u hun;rw [hri,h3] at a2;have a3:=r93 w p t u (by omega) (by omega) h1
 have a4:=r94 (stepT d t i p) (by omega) hg.w
 rw [<- e] at a3;rw [e54_0_0];simp only [a1,a2,frR,nv0,nvS,dvI,dvB,dvS,dvL,B5,a3,a4]
theorem r63 (d:DfM) (hd:DfG d) (t:Tm) (ht:Gt d.op t) (hn:t.nodes<=60) (i:Nat) (p:List Int) (hx:nx d t=some (i,p)):rn ⟨63,0,0⟩ [.sl (d.so.map sRow),.sl (d.op.map OpM.row),.sl (d.ru.map RuM.row),.sl (d.st.map StM.row),.int t.k,.int t.n,.str t.s,.sl (t.as.map Tm.row),.int (i:Int),.sl (p.map iRow)]=some (0,[.int (stepT d t i p).k,.int (stepT d t i p).n,.str (stepT d t i p).s,.bool (stepT d t i p).valid,.sl ((stepT d t i p).as.map Tm.row)]):=by
 obtain ⟨u,r,w,h1,h2,h3,e,hu,hun,hw,hwn,hg,hgn,hp,hr⟩:=step_good hd ht hn hx;obtain ⟨hi,hri⟩:=D1.1 h2;have hrn:=valid_nodes hr.rv;have hln:=valid_nodes hr.lv;have a1:=r104 t u (by omega) p (by omega) h1
 have a2:=r102 r hr u hun;have e3:=fireR_eq r u;rw [h3] at e3;split at e3
 · simp only [C6.injEq] at e3
   have hL:(∀ b∈fiL r u,b.2.nodes<=60)/\(fiL r u).length<=1048576:=by
    unfold fiL;cases hq:mT r.l u [] with
    | none=>exact ⟨by simp,by simp⟩
    | some l =>
     have hls:=mT_all (fun t=>t.nodes<=60) (fun t a h ha=>nodes_sub t a h ha) _ u [] l hun (by simp) hq
     have h1:=srtN_len r.l.names;have h2:=srtN_len (srtN r.l.names);have h3:=names_nodes r.l;have h4:=rsB_len l (srtN (srtN r.l.names));exact ⟨fun b hb=>rsB_mem (P:=fun t=>t.nodes<=60) hls _ b hb,by show (rsB l _).length<=_; omega⟩
   have hss:∀ b∈fiL r u,Small b.2:=fun b hb=>small_of _ (by have:=hL.1 b hb; omega)
   have a3:=r107 (fiL r u) hL.2 hss r.r (small_of _ (by omega))
   have a4:=r106 (aS (fiL r u) r.r) (aS_small hss _ (small_of _ (by omega)))
   rw [<- e3] at a4;have a5:=r105 w (by omega) p t u (by omega) (by omega) h1
   have a6:=r98 (stepT d t i p) (by omega) hg.w
   rw [<- e] at a5;rw [e63_0_0];subst hri;rw [h3] at a2;simp only [a1,B6,inbN,hi,H3,H1,B9,rowAt_map hi,RuM.row,nv0,nvS,dvI,dvB,dvS,dvL,B5,a2,a3,a4,a5,a6,S3]
 · simp at e3
theorem r48 (d:DfM) (hb:DfB d) (t:Tm) (hw:Wt t) (hn:t.nodes<=2097152):rn ⟨48,0,0⟩ [.sl (d.so.map sRow),.sl (d.op.map OpM.row),.sl (d.ru.map RuM.row),.sl (d.st.map StM.row),.int t.k,.int t.n,.str t.s,.sl (t.as.map Tm.row)]=some (0,[.bool (cfg d t)]):=by
 have h1:=r86 d hb;have h2:=r94 t (by omega) hw
 have h4:=r116 (d.so.map sRow) d.op hb.op [] (by simp) t hw
 simp only [D2] at h4;rw [e48_0_0,e87_0_0];simp only [h1,h2,nv0,nvS,dvI,dvB,dvS,dvL,B5];unfold cfg;cases d.valid <;> try rfl
 cases hv:t.valid with
 | false=>rfl
 | true =>
  have h3:=r143 t (by have:=valid_nodes hv; omega)
  simp only [h3,h4,nv0,nvS,dvI,dvB,dvS,dvL,B5,H1,G5];cases isG t <;> rfl
theorem r59 (d:DfM) (hb:DfB d) (t:Tm) (hw:Wt t) (hn:t.nodes<=2097152):rn ⟨59,0,0⟩ [.sl (d.so.map sRow),.sl (d.op.map OpM.row),.sl (d.ru.map RuM.row),.sl (d.st.map StM.row),.int t.k,.int t.n,.str t.s,.sl (t.as.map Tm.row)]=some (0,[.bool (cfg d t)]):=by
 have h1:=r97 d hb;have h2:=r98 t (by omega) hw
 have h4:=r100 (d.so.map sRow) d.op hb.op [] (by simp) t hw
 simp only [D2] at h4;rw [e59_0_0];simp only [h1,h2,nv0,nvS,dvI,dvB,dvS,dvL,B5];unfold cfg;cases d.valid <;> try rfl
 cases hv:t.valid with
 | false=>rfl
 | true =>
  have h3:=r99 t (by have:=valid_nodes hv; omega)
  simp only [h3,h4,nv0,nvS,dvI,dvB,dvS,dvL,B5,H1,G5];cases isG t <;> rfl
theorem r45 (d:DfM) (hb:DfB d) (t:Tm) (hw:Wt t) (hn:t.nodes<=2097152) (f:Int):rn ⟨45,0,0⟩ [.sl (d.so.map sRow),.sl (d.op.map OpM.row),.sl (d.ru.map RuM.row),.sl (d.st.map StM.row),.int t.k,.int t.n,.str t.s,.sl (t.as.map Tm.row),.int f]=some (0,[.bool (cfg d t&&(decide (0<=f)&&decide (f<=200)))]):=by
 have h1:=r59 d hb t hw hn;rw [e45_0_0];simp only [h1,rIn,nv0,nvS,dvI,dvB,dvS,dvL,B5];cases cfg d t <;> rfl
end Go.Q.S
end
section
namespace Go.Q.S
open Go Go.Q Go.Proofs
theorem runIL (d:DfM) (hd:DfG d):∀ (n:Nat) (t:Tm) (S:List Tm) (R:List (Nat × List Int)) (f:Nat),Gt d.op t->t.nodes<=60->R.length+n=f->f<=200->S.length<=R.length+1->rn ⟨43,0,1⟩ [.int (f:Int),.sl (d.so.map sRow),.sl (d.op.map OpM.row),.sl (d.ru.map RuM.row),.sl (d.st.map StM.row),.int 0,.int 0,.int 0,.str e0,.int 0,.int t.k,.int t.n,.str t.s,.sl (S.map Tm.row),.sl (R.map rdRow),.sl [],.sl (t.as.map Tm.row)]=some (0,[.int (runF d n t).o,.int (runF d n t).t.k,.int (runF d n t).t.n,.str (runF d n t).t.s,.int ((R.length+(runF d n t).rd.length:Nat):Int),.sl ((S++(runF d n t).st).map Tm.row),.sl ((R++(runF d n t).rd).map rdRow),.sl ((runF d n t).t.as.map Tm.row)]):=by
 intro n;induction n with
 | zero =>
  intro t S R f ht hn hR hf hS;have h1:=r83 d hd t ht hn [] (by simp; omega)
  have h2:=r49 t (small_of t (by omega))
  simp only [D2] at h1;have e1:((R.length:Int)=(f:Int)):=by omega
  rw [e43_0_1];cases hx:nx d t with
  | none =>
   rw [hx] at h1;simp only [h1,nrR,nv0,nvS,dvI,dvB,dvS,dvL,B5,K2,H1,show decide ((1:Int)=0)=false from rfl,h2,B6,runF_none hx,J1,C9,K7]
  | some x =>
   rw [hx] at h1;simp only [h1,nrR,nv0,nvS,dvI,dvB,dvS,dvL,B5,D8,K2,H1,H2,show decide ((2:Int)=0)=false from rfl,h2,B6,e1,H3,runF_zero hx,J1,C9,K7]
 | succ n ih =>
  intro t S R f ht hn hR hf hS;have h1:=r83 d hd t ht hn [] (by simp; omega)
  have h2:=r49 t (small_of t (by omega))
  simp only [D2] at h1;have e1:¬((R.length:Int)=(f:Int)):=by omega
  rw [e43_0_1];cases hx:nx d t with
  | none =>
   rw [hx] at h1;simp only [h1,nrR,nv0,nvS,dvI,dvB,dvS,dvL,B5,K2,H1,show decide ((1:Int)=0)=false from rfl,h2,B6,runF_none hx,J1,C9,K7]
  | some x =>
   rw [hx] at h1;have h3:=r54 d hd t ht hn x.1 x.2 hx;obtain ⟨_,_,_,_,_,_,_,_,_,_,_,hg,hgn,_⟩:=step_good hd ht hn hx;cases hv:(stepT d t x.1 x.2).valid with
   | false =>
    rw [hv] at h3;simp only [h1,nrR,E8,h3,nv0,nvS,dvI,dvB,dvS,dvL,B5,D8,K2,H1,H2,show decide ((3:Int)=0)=false from rfl,h2,B6,e1,H4,runF_bad hx hv,J1,C9,K7]
   | true =>
    rw [hv] at h3;have h4:=r49 (stepT d t x.1 x.2) (small_of _ (by omega))
    have h5:=ih (stepT d t x.1 x.2) (S++[stepT d t x.1 x.2]) (R++[x]) f hg (valid_nodes hv) (by simp; omega) hf (by simp; omega)
    simp only [D6,C2,D2,Tm.row_eq,rdRow,E2,C5,C9,D7] at h5;have ea:R.length+1+(runF d n (stepT d t x.1 x.2)).rd.length=R.length+((runF d n (stepT d t x.1 x.2)).rd.length+1):=by omega
    have b1:F9 (S.length+1) M63=true:=nb (by omega)
    have b2:F9 (R.length+1) M63=true:=nb (by omega)
    simp only [h1,nrR,E8,h3,nv0,nvS,dvI,dvB,dvS,dvL,B5,D8,K2,H1,H2,H3,h4,B6,e1,H4,C5,C9,D7,b1,b2,h5,runF_ok hx hv,E2];simp only [D6,C2,D2,Tm.row_eq,rdRow,E1,J2,E8,C5,ea]
theorem r43 (d:DfM) (hb:DfB d) (t:Tm) (hw:Wt t) (hn:t.nodes<=2097152) (f:Int):rn ⟨43,0,0⟩ [.sl (d.so.map sRow),.sl (d.op.map OpM.row),.sl (d.ru.map RuM.row),.sl (d.st.map StM.row),.int t.k,.int t.n,.str t.s,.sl (t.as.map Tm.row),.int f]=some (0,runD (runT d t f) t):=by
 have h1:=r48 d hb t hw hn;rw [e43_0_0];unfold runT;by_cases f1:0<=f
 · by_cases f2:f<=200
   · have q1:¬ f<0:=by omega
     have q2:¬ 200<f:=by omega
     simp only [q1,q2,H4,H2,h1,nv0,nvS,dvI,dvB,dvS,dvL,B5];cases hc:cfg d t with
     | false=>simp [runD]
     | true =>
      obtain ⟨hd,ht,hn60⟩:=cfg_of hb hw hc;have h2:=r49 t (small_of t (by omega))
      have h3:=runIL d hd f.toNat t [t] [] f.toNat ht hn60 (by simp) (by omega) (by simp)
      have ef:((f.toNat:Nat):Int)=f:=by omega
      simp only [ef,C2,D2,Tm.row_eq,C9,D7,E8] at h3;rw [H5 ⟨f1,f2,rfl⟩];simp only [D8,H2,h2,nv0,nvS,dvI,dvB,dvS,dvL,B5,h3,E6,H1,H2,runD,J2,E8,C2,Tm.row_eq]
   · have q1:¬ f<0:=by omega
     have q2:200<f:=by omega
     rw [H6 (by omega)]
     simp only [q1,q2,H3,H4,H1,H2,runD]
 · have q1:f<0:=by omega
   rw [H6 (by omega)]
   simp only [q1,H3,H1,runD]
theorem runSL (d:DfM) (hd:DfG d):∀ (n:Nat) (t:Tm) (S:List Tm) (R:List (Nat × List Int)) (f:Nat),Gt d.op t->t.nodes<=60->R.length+n=f->f<=200->S.length<=R.length->rn ⟨46,0,1⟩ [.int (f:Int),.sl (d.so.map sRow),.sl (d.op.map OpM.row),.sl (d.ru.map RuM.row),.sl (d.st.map StM.row),.int 1,.int t.k,.int t.n,.str t.s,.int (R.length:Int),.sl (t.as.map Tm.row),.sl (R.map rdRow),.sl (S.map Tm.row)]=some (0,[.int (runF d n t).o,.int (runF d n t).t.k,.int (runF d n t).t.n,.str (runF d n t).t.s,.int ((R.length+(runF d n t).rd.length:Nat):Int),.sl ((runF d n t).t.as.map Tm.row),.sl ((R++(runF d n t).rd).map rdRow),.sl ((S++t::(runF d n t).st).map Tm.row)]):=by
 intro n;induction n with
 | zero =>
  intro t S R f ht hn hR hf hS;have h1:=r85 d hd t ht hn;have e1:((R.length:Int)=(f:Int)):=by omega
  have b1:F9 (S.length+1) M63=true:=nb (by omega)
  have hi:inb (S.length:Int) (S.length+1)=true:=by simp [inb]; omega
  have ho:=over_last' (S.map Tm.row) t.k t.n 0 0 t.s ⟨#[]⟩ (t.as.map Tm.row) [];rw [B6] at ho;rw [e46_0_1];cases hx:nx d t with
  | none =>
   rw [hx] at h1;simp only [h1,nrS,nv0,nvS,dvI,dvB,dvS,dvL,B5,K2,H1,B6,E2,C5,C9,D7,b1,hi,B9,ho,runF_none hx,J1,K7,D6,C2,D2,Tm.row_eq]
  | some x =>
   rw [hx] at h1;simp only [h1,nrS,nv0,nvS,dvI,dvB,dvS,dvL,B5,D8,H1,H2,B6,E2,C5,C9,D7,b1,hi,B9,ho,e1,H3,runF_zero hx,J1,K7,D6,C2,D2,Tm.row_eq]
 | succ n ih =>
  intro t S R f ht hn hR hf hS;have h1:=r85 d hd t ht hn;have e1:¬((R.length:Int)=(f:Int)):=by omega
  have b1:F9 (S.length+1) M63=true:=nb (by omega)
  have b2:F9 (R.length+1) M63=true:=nb (by omega)
  have hi:inb (S.length:Int) (S.length+1)=true:=by simp [inb]; omega
  have ho:=over_last' (S.map Tm.row) t.k t.n 0 0 t.s ⟨#[]⟩ (t.as.map Tm.row) [];have hw:IntKind.i64.wrap ((R.length:Int)+1)=((R.length+1:Nat):Int):=IntWalk.i64_in _ (by omega)
  rw [B6] at ho;rw [e46_0_1];cases hx:nx d t with
  | none =>
   rw [hx] at h1;simp only [h1,nrS,nv0,nvS,dvI,dvB,dvS,dvL,B5,K2,H1,B6,E2,C5,C9,D7,b1,hi,B9,ho,runF_none hx,J1,K7,D6,C2,D2,Tm.row_eq]
  | some x =>
   rw [hx] at h1;have h3:=r63 d hd t ht hn x.1 x.2 hx;obtain ⟨_,_,_,_,_,_,_,_,_,_,_,hg,hgn,_⟩:=step_good hd ht hn hx;cases hv:(stepT d t x.1 x.2).valid with
   | false =>
    rw [hv] at h3;simp only [h1,nrS,h3,nv0,nvS,dvI,dvB,dvS,dvL,B5,D8,K2,H1,H2,B6,E2,C5,C9,D7,b1,hi,B9,ho,e1,H4,runF_bad hx hv,J1,K7,D6,C2,D2,Tm.row_eq]
   | true =>
    rw [hv] at h3;have h5:=ih (stepT d t x.1 x.2) (S++[t]) (R++[x]) f hg (valid_nodes hv) (by simp; omega) hf (by simp; omega)
    simp only [D6,C2,D2,Tm.row_eq,rdRow,E2,C5,C9,D7] at h5;have ea:R.length+1+(runF d n (stepT d t x.1 x.2)).rd.length=R.length+((runF d n (stepT d t x.1 x.2)).rd.length+1):=by omega
    simp only [h1,nrS,h3,nv0,nvS,dvI,dvB,dvS,dvL,B5,D8,H1,H2,B6,E2,C5,C9,D7,b1,b2,hi,hw,B9,ho,e1,H4,h5,runF_ok hx hv];simp only [D6,C2,D2,Tm.row_eq,rdRow,E1,J2,E8,C5,ea]
theorem r46 (d:DfM) (hb:DfB d) (t:Tm) (hw:Wt t) (f:Int) (f1:0<=f) (f2:f<=200) (hc:cfg d t=true):rn ⟨46,0,0⟩ [.sl (d.so.map sRow),.sl (d.op.map OpM.row),.sl (d.ru.map RuM.row),.sl (d.st.map StM.row),.int t.k,.int t.n,.str t.s,.sl (t.as.map Tm.row),.int f]=some (0,allD (runF d f.toNat t) t):=by
 obtain ⟨hd,ht,hn60⟩:=cfg_of hb hw hc;have h2:=r60 t (small_of t (by omega))
 have h3:=runSL d hd f.toNat t [] [] f.toNat ht hn60 (by simp) (by omega) (by simp)
 have ef:((f.toNat:Nat):Int)=f:=by omega
 simp only [ef,D2,C9,D7,E8,C7] at h3;rw [e46_0_0];simp only [h2,nv0,nvS,dvI,dvB,dvS,dvL,B5,h3,E6,H1,H2,allD]
end Go.Q.S
end
section
namespace Go.Q.S
open Go Go.Q Go.Proofs
theorem r16 (d:DfM) (hb:DfB d) (t:Tm) (hw:Wt t) (hn:t.nodes<=2097152) (f:Int):rn ⟨16,0,0⟩ [.sl (d.so.map sRow),.sl (d.op.map OpM.row),.sl (d.ru.map RuM.row),.sl (d.st.map StM.row),.int t.k,.int t.n,.str t.s,.sl (t.as.map Tm.row),.int f]=some (0,rtD (runT d t f)):=by
 have h1:=r43 d hb t hw hn f;rw [e16_0_0,h1];cases runT d t f <;> rfl
theorem r19 (d:DfM) (hb:DfB d) (t:Tm) (hw:Wt t) (hn:t.nodes<=2097152) (f:Int):rn ⟨19,0,0⟩ [.sl (d.so.map sRow),.sl (d.op.map OpM.row),.sl (d.ru.map RuM.row),.sl (d.st.map StM.row),.int t.k,.int t.n,.str t.s,.sl (t.as.map Tm.row),.int f]=some (0,rtD (runT d t f)):=by
 have h1:=r45 d hb t hw hn f;rw [e19_0_0,h1,runT_if];cases hc:(cfg d t&&(decide (0<=f)&&decide (f<=200))) with
 | false=>rfl
 | true =>
  simp only [B7,decide_eq_true_eq] at hc;have h2:=r46 d hb t hw f hc.2.1 hc.2.2 hc.1;simp only [nv0,nvS,dvI,dvB,dvS,dvL,B5,D8,H2,H1,h2,allD,rtD]
theorem r44 (l:List (Nat × List Int)) (hl:l.length<=1048576) (hp:∀ x∈l,x.2.length<=1048576):rn ⟨44,0,0⟩ [.sl (l.map rdRow)]=some (0,[.sl (l.map rdRow)]):=by
 have hf:=map_loop (F:=fun i acc=>rn ⟨44,0,1⟩ [.sl (l.map rdRow),.int (l.length:Int),.int (i:Int),.sl acc]) (xs:=l) rdRow (K:=fun acc=>some (0,[.sl acc])) (fun i hi acc ha=>by
  have h1:=rCloneI (l[i].2.map iRow) (by rw [B6]; have:=hp _ (C4 hi); omega)
  have hb2:F9 (acc.length+1) M63=true:=nb (by omega)
  rw [e44_0_1];simp only [B6,C0,hi,H3,H1,inbN,B9,rowAt_map hi,wrap_succ hi (maxB (by omega)),rdRow,nv0,nvS,dvI,dvB,dvS,dvL,B5,h1,C5,C9,D7,hb2]) (fun acc=>by
  rw [e44_0_1];simp)
 simp only [C7] at hf;rw [e44_0_0];simp only [B6,hf,nv0,nvS,dvI,dvB,dvS,dvL,B5,E6,H1,H2]
theorem r17 (d:DfM) (hb:DfB d) (t:Tm) (hw:Wt t) (hn:t.nodes<=2097152) (f:Int):rn ⟨17,0,0⟩ [.sl (d.so.map sRow),.sl (d.op.map OpM.row),.sl (d.ru.map RuM.row),.sl (d.st.map StM.row),.int t.k,.int t.n,.str t.s,.sl (t.as.map Tm.row),.int f]=some (0,[.sl (trD (runT d t f))]):=by
 have h1:=r43 d hb t hw hn f;rw [e17_0_0,h1];cases hr:runT d t f with
 | none =>
  have h2:=r44 [] (by simp) (by simp)
  simp only [D2] at h2;simp only [runD,nv0,nvS,dvI,dvB,dvS,dvL,B5,h2,trD]
 | some r =>
  obtain ⟨g,_⟩:=runT_good hb hw hr;have h2:=r44 r.rd (by have:=g.rl; omega) (fun x hx=>by have:=(g.rg x hx).2.1; omega)
  simp only [runD,nv0,nvS,dvI,dvB,dvS,dvL,B5,h2,trD]
theorem r21 (d:DfM) (hb:DfB d) (t:Tm) (hw:Wt t) (hn:t.nodes<=2097152) (f:Int):rn ⟨21,0,0⟩ [.sl (d.so.map sRow),.sl (d.op.map OpM.row),.sl (d.ru.map RuM.row),.sl (d.st.map StM.row),.int t.k,.int t.n,.str t.s,.sl (t.as.map Tm.row),.int f]=some (0,[.sl (trD (runT d t f))]):=by
 have h1:=r45 d hb t hw hn f;rw [e21_0_0,h1,runT_if];cases hc:(cfg d t&&(decide (0<=f)&&decide (f<=200))) with
 | false=>rfl
 | true =>
  simp only [B7,decide_eq_true_eq] at hc;have h2:=r46 d hb t hw f hc.2.1 hc.2.2 hc.1;simp only [nv0,nvS,dvI,dvB,dvS,dvL,B5,D8,H2,H1,h2,allD,trD]
theorem r23 (d:DfM) (hb:DfB d) (t:Tm) (hw:Wt t) (hn:t.nodes<=2097152) (g:Tm) (f:Int):rn ⟨23,0,0⟩ [.sl (d.so.map sRow),.sl (d.op.map OpM.row),.sl (d.ru.map RuM.row),.sl (d.st.map StM.row),.int t.k,.int t.n,.str t.s,.sl (t.as.map Tm.row),.int g.k,.int g.n,.str g.s,.sl (g.as.map Tm.row),.int f]=some (0,[.bool (reachR (runT d t f) t g)]):=by
 have h1:=r43 d hb t hw hn f;have key:∀ l:List Tm,l.length<=1048576->(∀ x∈l,Small x)->rn ⟨40,0,0⟩ [.sl (l.map Tm.row),.int g.k,.int g.n,.str g.s,.sl (g.as.map Tm.row)]=some (0,[.bool (l.any fun x=>eqb x.row g.row),.int g.k,.int g.n,.str g.s,.sl (g.as.map Tm.row)]):=by
  intro l hl hs;have hlp:∀ n i,i+n=l.length->(((l.drop i).any fun x=>eqb x.row g.row)=false/\rn ⟨82,0,1⟩ [.sl (l.map Tm.row),.int (l.length:Int),.int (i:Int),.int g.k,.int g.n,.str g.s,.sl (g.as.map Tm.row)]=some (0,[.int g.k,.int g.n,.str g.s,.sl (g.as.map Tm.row)]))\/(((l.drop i).any fun x=>eqb x.row g.row)=true/\∃ j:Nat,rn ⟨82,0,1⟩ [.sl (l.map Tm.row),.int (l.length:Int),.int (i:Int),.int g.k,.int g.n,.str g.s,.sl (g.as.map Tm.row)]=some (1,[.int (j:Int),.int g.k,.int g.n,.str g.s,.sl (g.as.map Tm.row)])):=by
   intro n;induction n with
   | zero =>
    intro i hi;obtain rfl:i=l.length:=by omega
    rw [e82_0_1];simp only [B6,C0,D4,H4,H2,C8];exact .inl ⟨rfl,trivial⟩
   | succ n ih =>
    intro i hi;have hlt:i<l.length:=by omega
    have he:=r56 l[i] g (hs _ (C4 hlt));rw [e82_0_1,B8 hlt];simp only [List.any_cons];generalize eqb l[i].row g.row=b at he ⊢;have:=ih (i+1) (by omega)
    generalize ((l.drop (i+1)).any fun x=>eqb x.row g.row)=A at this ⊢
    simp only [B6,C0,hlt,H3,H1,inbN,B9,rowAt_map hlt,wrap_succ hlt (maxB (by omega)),Tm.row_eq,nv0,nvS,dvI,dvB,dvS,dvL,B5,e55_0_0,he]
    cases b with
    | true=>exact .inr ⟨rfl,i,by simp⟩
    | false=>simpa using this
  have h:=hlp l.length 0 (by omega)
  simp only [D3,C7] at h;rw [e40_0_0,e82_0_0];simp only [B6];rcases h with ⟨q1,q2⟩|⟨q1,j,q2⟩
  · rw [q2,q1]; rfl
  · rw [q2,q1]
    have:(0:Int)<=(j:Int):=by omega
    simp only [nv0,nvS,dvI,dvB,dvS,dvL,B5,E6,H1,H2,show E3 1 0=false from rfl,this,H3]
 rw [e23_0_0,h1];cases hr:runT d t f with
 | none =>
  have h2:=key [] (by simp) (by simp)
  simp only [D2] at h2;simp only [runD,nv0,nvS,dvI,dvB,dvS,dvL,B5,h2,reachR,List.any_nil]
 | some r =>
  obtain ⟨gd,hn60⟩:=runT_good hb hw hr;have h2:=key (t::r.st) (by have:=gd.sl; simp; omega) (fun x hx=>by
   rcases D5.1 hx with e | hx
   · subst e; exact small_of _ (by omega)
   · exact small_of _ (by have:=(gd.s x hx).2; omega))
  simp only [runD,nv0,nvS,dvI,dvB,dvS,dvL,B5,h2,reachR]
end Go.Q.S
end
section
namespace Go.Q.S
open Go Go.Q Go.Proofs
theorem byte_ok {code:Rows} (hl:code.length<=1048576) (i:Nat) (h:Int):Good (rn ⟨96,0,0⟩ [.sl code,.int (i:Int),.int h]) fun x=>∃ b:Int,∃ i':Nat,∃ h':Int,0<=b/\b<=255/\x=(0,[.int b,.sl code,.int ((i':Nat):Int),.int h']):=by
 rw [e96_0_0];rw [H7 (by decide:(0:Int)<=33),H7 (by decide:(0:Int)<=45)]
 simp only [H1];by_cases hi:i<code.length
 · rw [H7 (by omega:(i:Int)<(code.length:Int))]
   simp only [H1,inbN,hi,H3,wrap_succ hi (by unfold maxLen; omega)]
   obtain ⟨h1,h2⟩:=and255 (IntKind.i64.wrap ((andI .i64 (xorI .i64 (shrI .i64 (IntKind.i64.wrap ((IntKind.i64.wrap (h*6364136223846793005))+1442695040888963407)) 33) (shrI .i64 (IntKind.i64.wrap ((IntKind.i64.wrap (h*6364136223846793005))+1442695040888963407)) 45)) 255)+(IntKind.i64.wrap ((nth (rowAt code (N9 (i:Int))) 0).I))));exact Good.ret ⟨_,i+1,_,h1,h2,rfl⟩
 · rw [H8 (by omega:¬(i:Int)<(code.length:Int))]
   simp only [H2];obtain ⟨h1,h2⟩:=and255 (xorI .i64 (shrI .i64 (IntKind.i64.wrap ((IntKind.i64.wrap (h*6364136223846793005))+1442695040888963407)) 33) (shrI .i64 (IntKind.i64.wrap ((IntKind.i64.wrap (h*6364136223846793005))+1442695040888963407)) 45));exact Good.ret ⟨_,i,_,h1,h2,rfl⟩
theorem below_ok {code:Rows} (hl:code.length<=1048576) (i:Nat) (h:Int) {n:Int} (h0:0<n) (h1:n<=256):Good (rn ⟨58,0,0⟩ [.int n,.sl code,.int (i:Int),.int h]) fun x=>∃ b:Int,∃ i':Nat,∃ h':Int,0<=b/\b<n/\x=(0,[.int b,.sl code,.int ((i':Nat):Int),.int h']):=by
 rw [e58_0_0];rw [H8 (by omega:¬ n<=0),H7 h1]
 simp only [H1,H2];refine Good.bind (byte_ok hl i h) ?_
 rintro _ ⟨b,i',h',b0,b1,rfl⟩
 simp only [nv0,nvS,dvI,dvB,dvS,dvL,B5];rw [H8 (by omega:¬ n=0)]
 exact Good.ret ⟨_,i',h',Int.tmod_nonneg _ b0,Int.tmod_lt_of_pos _ h0,rfl⟩
theorem once_ok {code:Rows} (hl:code.length<=1048576) (i:Nat) (h:Int) {n:Int} (h0:0<n) (h1:n<=256):Good (rn ⟨57,0,0⟩ [.int n,.sl code,.int (i:Int),.int h]) fun x=>∃ b:Bool,∃ i':Nat,∃ h':Int,x=(0,[.bool b,.sl code,.int ((i':Nat):Int),.int h']):=by
 rw [e57_0_0];refine Good.bind (below_ok hl i h h0 h1) ?_
 rintro _ ⟨b,i',h',b0,b1,rfl⟩
 exact Good.ret ⟨_,i',h',rfl⟩
theorem pick_ok {code:Rows} (hl:code.length<=1048576) (i:Nat) (h:Int) {l:Rows} (h0:0<l.length) (h1:l.length<=256) (m:Nat) (hs:∀ k,k<l.length->((nth (rowAt l k) 0).S).size<=m):Good (rn ⟨35,0,0⟩ [.sl l,.sl code,.int (i:Int),.int h]) fun x=>∃ s:ByteArray,∃ i':Nat,∃ h':Int,s.size<=m/\x=(0,[.str s,.sl code,.int ((i':Nat):Int),.int h']):=by
 rw [e35_0_0];refine Good.bind (below_ok hl i h (by omega:(0:Int)<(l.length:Int)) (by omega)) ?_
 rintro _ ⟨b,i',h',b0,b1,rfl⟩
 simp only [nv0,nvS,dvI,dvB,dvS,dvL,B5];rw [show inb b l.length=true from by simp [inb,b0,b1]]
 exact Good.ret ⟨_,i',h',hs b.toNat (by omega),rfl⟩
theorem pickI_ok {code:Rows} (hl:code.length<=1048576) (i:Nat) (h:Int) {l:Rows} (h0:0<l.length) (h1:l.length<=256) (hs:∀ k,k<l.length->-1000<=(nth (rowAt l k) 0).I/\(nth (rowAt l k) 0).I<=1000):Good (rn ⟨80,0,0⟩ [.sl l,.sl code,.int (i:Int),.int h]) fun x=>∃ n:Int,∃ i':Nat,∃ h':Int,-1000<=n/\n<=1000/\x=(0,[.int n,.sl code,.int ((i':Nat):Int),.int h']):=by
 rw [e80_0_0];refine Good.bind (below_ok hl i h (by omega:(0:Int)<(l.length:Int)) (by omega)) ?_
 rintro _ ⟨b,i',h',b0,b1,rfl⟩
 simp only [nv0,nvS,dvI,dvB,dvS,dvL,B5];rw [show inb b l.length=true from by simp [inb,b0,b1]]
 exact Good.ret ⟨_,i',h',(hs b.toNat (by omega)).1,(hs b.toNat (by omega)).2,rfl⟩
theorem pickT_ok {code:Rows} (hl:code.length<=1048576) (i:Nat) (h:Int) (ts:List Tm) (h0:0<ts.length) (h1:ts.length<=256):Good (rn ⟨184,0,0⟩ [.sl (ts.map Tm.row),.sl code,.int (i:Int),.int h]) fun x=>∃ t:Tm,∃ i':Nat,∃ h':Int,t∈ts/\x=(0,[.int t.k,.int t.n,.str t.s,.sl (t.as.map Tm.row),.sl code,.int ((i':Nat):Int),.int h']):=by
 rw [e184_0_0,B6];refine Good.bind (below_ok hl i h (by omega:(0:Int)<(ts.length:Int)) (by omega)) ?_
 rintro _ ⟨b,i',h',b0,b1,rfl⟩
 obtain ⟨n,rfl⟩:=Int.eq_ofNat_of_zero_le b0;have hn:n<ts.length:=by omega
 simp only [nv0,nvS,dvI,dvB,dvS,dvL,B5,inbN,hn,H3,H1,B9,rowAt_map hn,Tm.row_eq];exact Good.ret ⟨ts[n],i',h',C4 hn,rfl⟩
theorem new_ok {code:Rows} (hl:code.length<=1048576):Good (rn ⟨36,0,0⟩ [.sl code]) fun x=>∃ i':Nat,∃ h':Int,x=(0,[.sl code,.int ((i':Nat):Int),.int h']):=by
 have key:∀ (n i:Nat) (h:Int),i+n=code.length->∃ h':Int,rn ⟨36,0,1⟩ [.sl code,.int h,.int (i:Int)]=some (0,[.sl code,.int h']):=by
  intro n;induction n with
  | zero =>
   intro i h hi;rw [e36_0_1,H8 (by omega:¬(i:Int)<(code.length:Int))]
   exact ⟨_,rfl⟩
  | succ n ih =>
   intro i h hi;have hlt:i<code.length:=by omega
   rw [e36_0_1,H7 (by omega:(i:Int)<(code.length:Int))]
   simp only [H1,inbN,hlt,H3,wrap_succ hlt (by unfold maxLen; omega)]
   cases decide ((i:Int)<4000) with
   | true=>exact ih (i+1) _ (by omega)
   | false=>exact ⟨_,rfl⟩
 rw [e36_0_0];obtain ⟨h',e⟩:=key code.length 0 (IntKind.i64.wrap (26583+(code.length:Int))) (D7 _);simp only [C7] at e;rw [e];exact Good.ret ⟨0,h',rfl⟩
theorem r133 (s:ByteArray):rn ⟨133,0,0⟩ [.str s]=some (0,[.int 1,.int 0,.str s,.sl []]):=by rw [e133_0_0]
theorem r78 (s:ByteArray) (l:Rows):rn ⟨78,0,0⟩ [.str s,.sl l]=some (0,[.int 2,.int 0,.str s,.sl l]):=by rw [e78_0_0]
theorem r78b (s:ByteArray) (l:Rows):rn ⟨78,1,0⟩ [.str s,.sl l]=some (0,[.int 2,.int 0,.str s,.sl l]):=by rw [e78_1_0]
theorem r38 (s:ByteArray) (t:Tm):rn ⟨38,0,0⟩ [.str s,.int t.k,.int t.n,.str t.s,.sl (t.as.map Tm.row)]=some (0,[.int 2,.int 0,.str s,.sl [t.row]]):=by
 rw [e38_0_0];simp only [r78,r78b,nv0,nvS,dvI,dvB,dvS,dvL,B5,Tm.row_eq t]
theorem r134 (s:ByteArray) (t u:Tm):rn ⟨134,0,0⟩ [.str s,.int t.k,.int t.n,.str t.s,.sl (t.as.map Tm.row),.int u.k,.int u.n,.str u.s,.sl (u.as.map Tm.row)]=some (0,[.int 2,.int 0,.str s,.sl [t.row,u.row]]):=by
 rw [e134_0_0];simp only [r78,r78b,nv0,nvS,dvI,dvB,dvS,dvL,B5,Tm.row_eq t,Tm.row_eq u]
def DTk (code:Rows) (k m:Nat) (x:Nat × List D):Prop:=∃ t:Tm,∃ i':Nat,∃ h':Int,Dt k t/\t.nodes<=m/\x=(0,[.int t.k,.int t.n,.str t.s,.sl code,.int (i':Int),.int h',.sl (t.as.map Tm.row)])
theorem lfV {code:Rows} {k m:Nat} {s:ByteArray} {i:Nat} {h:Int} (hs:s.size<=k) (hm:1<=m):Good (some (0,[.int 1,.int 0,.str s,.sl code,.int (i:Int),.int h,.sl []])) (DTk code k m) :=
 Good.ret ⟨.mk 1 0 s [],i,h,.var hs,by simp [Tm.nodes,Tm.nodesL]; exact hm,rfl⟩
theorem lfC {code:Rows} {k m:Nat} {s:ByteArray} {i:Nat} {h:Int} (hs:s.size<=k) (hm:1<=m):Good (some (0,[.int 2,.int 0,.str s,.sl code,.int (i:Int),.int h,.sl []])) (DTk code k m) :=
 Good.ret ⟨.mk 2 0 s [],i,h,.app hs (by simp) (by simp),by simp [Tm.nodes,Tm.nodesL]; exact hm,rfl⟩
theorem lfW {code:Rows} {k m:Nat} {n:Int} {i:Nat} {h:Int} (h0:0<=n) (h1:n<=255) (hm:1<=m):Good (some (0,[.int 3,.int n,.str ⟨#[]⟩,.sl code,.int (i:Int),.int h,.sl []])) (DTk code k m) :=
 Good.ret ⟨.mk 3 n ⟨#[]⟩ [],i,h,.word h0 h1,by simp [Tm.nodes,Tm.nodesL]; exact hm,rfl⟩
theorem lf1 {code:Rows} {k m:Nat} {s:ByteArray} {t:Tm} {i:Nat} {h:Int} (hs:s.size<=k) (ht:Dt k t) (hm:t.nodes+1<=m):Good (some (0,[.int 2,.int 0,.str s,.sl code,.int (i:Int),.int h,.sl [t.row]])) (DTk code k m) :=
 Good.ret ⟨.mk 2 0 s [t],i,h,.app hs (by simp) (by simpa using ht),by simp [Tm.nodes,Tm.nodesL]; omega,rfl⟩
theorem lf2 {code:Rows} {k m:Nat} {s:ByteArray} {t u:Tm} {i:Nat} {h:Int} (hs:s.size<=k) (ht:Dt k t) (hu:Dt k u) (hm:t.nodes+u.nodes+1<=m):Good (some (0,[.int 2,.int 0,.str s,.sl code,.int (i:Int),.int h,.sl [t.row,u.row]])) (DTk code k m) :=
 Good.ret ⟨.mk 2 0 s [t,u],i,h,.app hs (by simp) (by simp [ht,hu]),by simp [Tm.nodes,Tm.nodesL]; omega,rfl⟩
theorem draw_ok {code:Rows} (hl:code.length<=1048576):∀ (d:Nat) (g:Bool) (i:Nat) (h:Int),d<=64->Good (rn ⟨79,0,0⟩ [.int (d:Int),.bool g,.sl code,.int (i:Int),.int h]) (DTk code 1 (2 ^ (d+1)-1)):=by
 intro d;induction d with
 | zero =>
  intro g i h hd;rw [e79_0_0,H7 (by decide:((0:Nat):Int)<2)]
  simp only [H1];repeat' (first
   | refine Good.ite (fun _=>?_) (fun _=>?_)
   | (refine Good.bind (once_ok hl _ _ (by decide) (by decide)) ?_; rintro _ ⟨b,i,h,rfl⟩; simp only [nv0,nvS,dvI,dvB,dvS,dvL,B5])
   | (refine Good.bind (below_ok hl _ _ (by decide) (by decide)) ?_; rintro _ ⟨b,i,h,_,_,rfl⟩; simp only [nv0,nvS,dvI,dvB,dvS,dvL,B5])
   | (refine Good.bind (pick_ok hl _ _ (by decide) (by decide) 1 (by decide)) ?_; rintro _ ⟨b,i,h,_,rfl⟩; simp only [nv0,nvS,dvI,dvB,dvS,dvL,B5])
   | (simp only [r133,r81,r78,r78b,nv0,nvS,dvI,dvB,dvS,dvL,B5]))
  all_goals (first | exact lfV (by assumption) (by decide) | exact lfC (by assumption) (by decide) | exact lfW (by assumption) (by omega) (by decide))
 | succ d ih =>
  intro g i h hd;have hp:2 ^ (d+1+1)=2*2 ^ (d+1):=by omega
  have h1:1<=2 ^ (d+1):=Nat.one_le_pow _ _ (by decide)
  rw [e79_0_0];simp only [H2,wrap_dec (show d<=64 by omega)]
  repeat' (first
   | refine Good.ite (fun _=>?_) (fun _=>?_)
   | (refine Good.bind (ih _ _ _ (by omega)) ?_; rintro _ ⟨t,i,h,_,_,rfl⟩; simp only [nv0,nvS,dvI,dvB,dvS,dvL,B5])
   | (refine Good.bind (once_ok hl _ _ (by decide) (by decide)) ?_; rintro _ ⟨b,i,h,rfl⟩; simp only [nv0,nvS,dvI,dvB,dvS,dvL,B5])
   | (refine Good.bind (below_ok hl _ _ (by decide) (by decide)) ?_; rintro _ ⟨b,i,h,_,_,rfl⟩; simp only [nv0,nvS,dvI,dvB,dvS,dvL,B5])
   | (refine Good.bind (pick_ok hl _ _ (by decide) (by decide) 1 (by decide)) ?_; rintro _ ⟨b,i,h,_,rfl⟩; simp only [nv0,nvS,dvI,dvB,dvS,dvL,B5])
   | (simp only [r133,r81,r78,r78b,r38,r134,nv0,nvS,dvI,dvB,dvS,dvL,B5]))
  all_goals (first | exact lfV (by assumption) (by omega) | exact lfC (by assumption) (by omega) | exact lfW (by assumption) (by omega) (by omega) | exact lf1 (by first | assumption | decide) (by assumption) (by omega) | exact lf2 (by first | assumption | decide) (by assumption) (by assumption) (by omega))
end Go.Q.S
end
section
namespace Go.Q.S
open Go Go.Q Go.Proofs
theorem word_ok {code:Rows} (hl:code.length<=1048576):∀ (d:Nat) (g:Bool) (i:Nat) (h:Int),d<=64->Good (rn ⟨108,0,0⟩ [.str (⟨#[119,111,114,100]⟩:ByteArray),.int (d:Int),.bool g,.sl code,.int (i:Int),.int h]) (DTk code 8 (4 ^ d)):=by
 intro d;induction d with
 | zero =>
  intro g i h hd;rw [e108_0_0];rw [H7 (rfl:(⟨#[119,111,114,100]⟩:ByteArray)=(⟨#[119,111,114,100]⟩:ByteArray)),H8 (by decide:¬(1:Int)<((0:Nat):Int))]
  simp only [H1,H2];repeat' (first
   | refine Good.ite (fun _=>?_) (fun _=>?_)
   | (refine Good.bind (once_ok hl _ _ (by decide) (by decide)) ?_; rintro _ ⟨b,i,h,rfl⟩; simp only [nv0,nvS,dvI,dvB,dvS,dvL,B5])
   | (refine Good.bind (below_ok hl _ _ (by decide) (by decide)) ?_; rintro _ ⟨b,i,h,_,_,rfl⟩; simp only [nv0,nvS,dvI,dvB,dvS,dvL,B5])
   | (refine Good.bind (pick_ok hl _ _ (by decide) (by decide) 8 (by decide)) ?_; rintro _ ⟨b,i,h,_,rfl⟩; simp only [nv0,nvS,dvI,dvB,dvS,dvL,B5])
   | (simp only [r133,r81,r78,r78b,nv0,nvS,dvI,dvB,dvS,dvL,B5]))
  all_goals (first | exact lfV (by assumption) (by decide) | exact lfW (by assumption) (by omega) (by decide))
 | succ d ih =>
  intro g i h hd;have hp:4 ^ (d+1)=4*4 ^ d:=by omega
  have h1:1<=4 ^ d:=Nat.one_le_pow _ _ (by decide)
  rw [e108_0_0];rw [H7 (rfl:(⟨#[119,111,114,100]⟩:ByteArray)=(⟨#[119,111,114,100]⟩:ByteArray))];simp only [H1,wrap_dec (show d<=64 by omega)]
  repeat' (first
   | (refine Good.bind (ih _ _ _ (by omega)) ?_; rintro _ ⟨t,i,h,_,_,rfl⟩; simp only [nv0,nvS,dvI,dvB,dvS,dvL,B5])
   | refine Good.ite (fun _=>?_) (fun _=>?_)
   | (refine Good.bind (once_ok hl _ _ (by decide) (by decide)) ?_; rintro _ ⟨b,i,h,rfl⟩; simp only [nv0,nvS,dvI,dvB,dvS,dvL,B5])
   | (refine Good.bind (below_ok hl _ _ (by decide) (by decide)) ?_; rintro _ ⟨b,i,h,_,_,rfl⟩; simp only [nv0,nvS,dvI,dvB,dvS,dvL,B5])
   | (refine Good.bind (pick_ok hl _ _ (by decide) (by decide) 8 (by decide)) ?_; rintro _ ⟨b,i,h,_,rfl⟩; simp only [nv0,nvS,dvI,dvB,dvS,dvL,B5])
   | (simp only [r133,r81,r78,r78b,r38,r134,nv0,nvS,dvI,dvB,dvS,dvL,B5]))
  all_goals (first | exact lfV (by assumption) (by omega) | exact lfW (by assumption) (by omega) (by omega) | exact lf2 (by assumption) (by assumption) (by assumption) (by omega))
theorem term_ok {code:Rows} (hl:code.length<=1048576) {s:ByteArray} (hs:s≠(⟨#[119,111,114,100]⟩:ByteArray)):∀ (d:Nat) (g:Bool) (i:Nat) (h:Int),d<=64->Good (rn ⟨108,0,0⟩ [.str s,.int (d:Int),.bool g,.sl code,.int (i:Int),.int h]) (DTk code 8 (8*4 ^ d)):=by
 have hE:(⟨#[101]⟩:ByteArray)≠(⟨#[119,111,114,100]⟩:ByteArray):=by decide
 have hW1:∀ g i h,Good (rn ⟨108,0,0⟩ [.str (⟨#[119,111,114,100]⟩:ByteArray),.int 1,.bool g,.sl code,.int ((i:Nat):Int),.int h]) (DTk code 8 4):=fun g i h=>word_ok hl 1 g i h (by decide)
 intro d;induction d generalizing s with
 | zero =>
  intro g i h hd;rw [e108_0_0];rw [H8 hs,H7 (by decide:((0:Nat):Int)<2)]
  simp only [H1,H2];repeat' (first
   | (refine Good.bind (hW1 _ _ _) ?_; rintro _ ⟨t,i,h,_,_,rfl⟩; simp only [nv0,nvS,dvI,dvB,dvS,dvL,B5])
   | refine Good.ite (fun _=>?_) (fun _=>?_)
   | (refine Good.bind (once_ok hl _ _ (by decide) (by decide)) ?_; rintro _ ⟨b,i,h,rfl⟩; simp only [nv0,nvS,dvI,dvB,dvS,dvL,B5])
   | (refine Good.bind (below_ok hl _ _ (by decide) (by decide)) ?_; rintro _ ⟨b,i,h,_,_,rfl⟩; simp only [nv0,nvS,dvI,dvB,dvS,dvL,B5])
   | (refine Good.bind (pick_ok hl _ _ (by decide) (by decide) 8 (by decide)) ?_; rintro _ ⟨b,i,h,_,rfl⟩; simp only [nv0,nvS,dvI,dvB,dvS,dvL,B5])
   | (simp only [r133,r81,r78,r78b,r38,r134,nv0,nvS,dvI,dvB,dvS,dvL,B5]))
  all_goals (first | exact lfV (by assumption) (by decide) | exact lfC (by assumption) (by decide) | exact lf1 (by first | assumption | decide) (by assumption) (by omega))
 | succ d ih =>
  intro g i h hd;have hp:4 ^ (d+1)=4*4 ^ d:=by omega
  have h1:1<=4 ^ d:=Nat.one_le_pow _ _ (by decide)
  rw [e108_0_0];rw [H8 hs];simp only [H2,wrap_dec (show d<=64 by omega)]
  repeat' (first
   | (refine Good.bind (hW1 _ _ _) ?_; rintro _ ⟨t,i,h,_,_,rfl⟩; simp only [nv0,nvS,dvI,dvB,dvS,dvL,B5])
   | (refine Good.bind (ih hE _ _ _ (by omega)) ?_; rintro _ ⟨t,i,h,_,_,rfl⟩; simp only [nv0,nvS,dvI,dvB,dvS,dvL,B5])
   | (refine Good.bind (word_ok hl d _ _ _ (by omega)) ?_; rintro _ ⟨t,i,h,_,_,rfl⟩; simp only [nv0,nvS,dvI,dvB,dvS,dvL,B5])
   | refine Good.ite (fun _=>?_) (fun _=>?_)
   | (refine Good.bind (once_ok hl _ _ (by decide) (by decide)) ?_; rintro _ ⟨b,i,h,rfl⟩; simp only [nv0,nvS,dvI,dvB,dvS,dvL,B5])
   | (refine Good.bind (below_ok hl _ _ (by decide) (by decide)) ?_; rintro _ ⟨b,i,h,_,_,rfl⟩; simp only [nv0,nvS,dvI,dvB,dvS,dvL,B5])
   | (refine Good.bind (pick_ok hl _ _ (by decide) (by decide) 8 (by decide)) ?_; rintro _ ⟨b,i,h,_,rfl⟩; simp only [nv0,nvS,dvI,dvB,dvS,dvL,B5])
   | (simp only [r133,r81,r78,r78b,r38,r134,nv0,nvS,dvI,dvB,dvS,dvL,B5]))
  all_goals (first | exact lfV (by assumption) (by omega) | exact lfC (by assumption) (by omega) | exact lf1 (by first | assumption | decide) (by assumption) (by omega) | exact lf2 (by first | assumption | decide) (by assumption) (by assumption) (by omega))
theorem DTk.mono {code:Rows} {k m m':Nat} {x:Nat × List D} (h:DTk code k m x) (hm:m<=m'):DTk code k m' x:=by
 obtain ⟨t,i,h',h1,h2,e⟩:=h;exact ⟨t,i,h',h1,G6 h2 hm,e⟩
theorem wordN {code:Rows} (hl:code.length<=1048576) (d:Nat) (k:Int) (e:(d:Int)=k) (m:Nat) (hm:4 ^ d<=m) (hd:d<=64) (g:Bool) (i:Nat) (h:Int):Good (rn ⟨108,0,0⟩ [.str (⟨#[119,111,114,100]⟩:ByteArray),.int k,.bool g,.sl code,.int (i:Int),.int h]) (DTk code 8 m):=by
 subst e;exact Good.mono (word_ok hl d g i h hd) fun x hx=>hx.mono hm
theorem termN {code:Rows} (hl:code.length<=1048576) (d:Nat) (k:Int) (e:(d:Int)=k) (m:Nat) (hm:8*4 ^ d<=m) (hd:d<=64) (g:Bool) (i:Nat) (h:Int):Good (rn ⟨108,0,0⟩ [.str (⟨#[101]⟩:ByteArray),.int k,.bool g,.sl code,.int (i:Int),.int h]) (DTk code 8 m):=by
 subst e;exact Good.mono (term_ok hl (by decide) d g i h hd) fun x hx=>hx.mono hm
def DW (code:Rows) (m:Nat) (x:Nat × List D):Prop:=∃ t:Tm,∃ i':Nat,∃ h':Int,Wn m t/\x=(0,[.int t.k,.int t.n,.str t.s,.sl code,.int (i':Int),.int h',.sl (t.as.map Tm.row)])
theorem bent_ok {code:Rows} (hl:code.length<=1048576) (i:Nat) (h:Int):Good (rn ⟨39,0,0⟩ [.sl code,.int (i:Int),.int h]) (DW code 60):=by
 have key:∀ (n j:Nat) (t:Tm) (i:Nat) (h:Int) (m:Nat),j+n=16->Wn m t->∃ u:Tm,Wn (m+n) u/\rn ⟨39,0,2⟩ [.int (j:Int),.sl code,.int (i:Int),.int h,.int 0,.int 0,.str ⟨#[]⟩,.int t.k,.int t.n,.str t.s,.sl [],.sl (t.as.map Tm.row)]=some (0,[.sl code,.int (i:Int),.int h,.int 0,.int 0,.str ⟨#[]⟩,.int u.k,.int u.n,.str u.s,.sl [],.sl (u.as.map Tm.row)]):=by
  intro n;induction n with
  | zero =>
   intro j t i h m hj ht;rw [e39_0_2,H8 (by omega:¬(j:Int)<16)]
   exact ⟨t,ht,rfl⟩
  | succ n ih =>
   intro j t i h m hj ht;rw [e39_0_2,H7 (by omega:(j:Int)<16)]
   have ew:IntKind.i64.wrap ((j:Int)+1)=((j+1:Nat):Int):=by rw [IntWalk.i64_in _ (by omega)]; omega
   simp only [H1,r38,nv0,nvS,dvI,dvB,dvS,dvL,B5,ew];obtain ⟨u,hu,e⟩:=ih (j+1) (tO (⟨#[103]⟩:ByteArray) t) i h (m+1) (by omega) (wn_O (by decide) ht)
   exact ⟨u,hu.mono (by omega),e⟩
 rw [e39_0_0];refine Good.bind (below_ok hl _ _ (by decide) (by decide)) ?_
 rintro _ ⟨b1,i,h,hb0,hb1,rfl⟩
 simp only [nv0,nvS,dvI,dvB,dvS,dvL,B5];refine Good.bind (once_ok hl _ _ (by decide) (by decide)) ?_
 rintro _ ⟨g,i,h,rfl⟩
 simp only [nv0,nvS,dvI,dvB,dvS,dvL,B5];have e:∃ d:Nat,IntKind.i64.wrap (1+b1)=(d:Int)/\d<=4:=⟨(1+b1).toNat,by rw [IntWalk.i64_in _ (by omega)]; omega,by omega⟩
 obtain ⟨d,e,hd2⟩:=e;rw [e];refine Good.bind (draw_ok hl d g _ _ (by omega)) ?_
 rintro _ ⟨t,i,h,ht,htn,rfl⟩
 have hq:2 ^ (d+1)<=2 ^ 5:=Nat.pow_le_pow_right (by decide) (by omega)
 have hq8:(2:Nat) ^ 5=32:=rfl;have hw:Wn 31 t:=ht.wn (by decide) (by omega)
 have hal:t.as.length<=2:=by
  cases ht with
  | var _=>simp [Tm.as]
  | word _ _=>simp [Tm.as]
  | app _ h _=>exact h
 have hk:-1000<=t.k/\t.k<=1000/\-1000<=t.n/\t.n<=1000/\t.s.size<=1000:=by
  cases ht with
  | var h=>refine ⟨?_,?_,?_,?_,?_⟩ <;> simp [Tm.k,Tm.n,Tm.s]; omega
  | word h0 h1=>exact ⟨by show (-1000:Int)<=3; decide,by show (3:Int)<=1000; decide,by simp only [Tm.n]; omega,by simp only [Tm.n]; omega,by show (⟨#[]⟩:ByteArray).size<=1000; decide⟩
  | app h _ _=>refine ⟨?_,?_,?_,?_,?_⟩ <;> simp [Tm.k,Tm.n,Tm.s]; omega
 obtain ⟨k1,k2,k3,k4,k5⟩:=hk;have hsub:∀ a∈t.as,Wt a:=fun a ha=>hw.w.sub ha
 have hnod:∀ (k n:Int) (s:ByteArray),(Tm.mk k n s t.as).nodes<=31:=fun k n s=>by have:=hw.n; rw [Tm.nodes_eq] at this ⊢; exact this
 simp only [nv0,nvS,dvI,dvB,dvS,dvL,B5];refine Good.bind (below_ok hl _ _ (by decide) (by decide)) ?_
 rintro _ ⟨c,i,h,hc0,hc1,rfl⟩
 simp only [nv0,nvS,dvI,dvB,dvS,dvL,B5];refine Good.ite (fun _=>?_) (fun _=>?_)
 · refine Good.bind (below_ok hl _ _ (by decide) (by decide)) ?_
   rintro _ ⟨b,i,h,b0,b1,rfl⟩
   exact Good.ret ⟨.mk b t.n t.s t.as,i,h,⟨wt_of (by omega) (by omega) k3 k4 k5 (by omega) hsub,G6 (hnod _ _ _) (by decide)⟩,rfl⟩
 refine Good.ite (fun _=>?_) (fun _=>?_)
 · refine Good.bind (pickI_ok hl _ _ (by decide) (by decide) (by decide)) ?_
   rintro _ ⟨b,i,h,b0,b1,rfl⟩
   exact Good.ret ⟨.mk t.k b t.s t.as,i,h,⟨wt_of k1 k2 b0 b1 k5 (by omega) hsub,G6 (hnod _ _ _) (by decide)⟩,rfl⟩
 refine Good.ite (fun _=>?_) (fun _=>?_)
 · refine Good.bind (pick_ok hl _ _ (by decide) (by decide) 8 (by decide)) ?_
   rintro _ ⟨s,i,h,hs,rfl⟩
   exact Good.ret ⟨.mk t.k t.n s t.as,i,h,⟨wt_of k1 k2 k3 k4 (by omega) (by omega) hsub,G6 (hnod _ _ _) (by decide)⟩,rfl⟩
 refine Good.ite (fun _=>?_) (fun _=>?_)
 · have hb63:F9 (t.as.length+1) M63=true:=nb (by omega)
   simp only [r81,nv0,nvS,dvI,dvB,dvS,dvL,B5,B6,C5,C9,D7,hb63,H1];refine Good.ret ⟨.mk t.k t.n t.s (t.as++[tW 1]),i,h,⟨wt_of k1 k2 k3 k4 k5 (by simp; omega) (fun a ha=>?_),?_⟩,?_⟩
   · rcases D0.1 ha with ha | ha
     · exact hsub a ha
     · rw [F6.1 ha]; exact (wn_W (by decide) (by decide)).w
   · have:=hw.n
     rw [Tm.nodes_eq] at this ⊢;have h1:(tW 1).nodes=1:=by simp [tW,Tm.nodes,Tm.nodesL]
     simp only [Tm.as_mk,D6,C2,D2,List.sum_append,J4,List.sum_nil,h1];omega
   · simp only [Tm.k_mk,Tm.s_mk,Tm.as_mk,D6,C2,D2,tW,Tm.row,Tm.rows]; rfl
 refine Good.ite (fun _=>?_) (fun _=>?_)
 · obtain ⟨u,hu,e⟩:=key 16 0 t i h 31 rfl hw
   simp only [C7] at e;simp only [e,nv0,nvS,dvI,dvB,dvS,dvL,B5,E6,H1,H2];exact Good.ret ⟨u,i,h,hu.mono (by decide),rfl⟩
 · exact Good.ret ⟨t,i,h,hw.mono (by decide),rfl⟩
def DGu (code:Rows) (x:Nat × List D):Prop:=∃ g:Gu,∃ i':Nat,∃ h':Int,GuW g/\x=(0,[.int g.k,.int g.l.k,.int g.l.n,.str g.l.s,.int g.r.k,.int g.r.n,.str g.r.s,.sl code,.int (i':Int),.int h',.sl (g.l.as.map Tm.row),.sl (g.r.as.map Tm.row)])
theorem guard_ok {code:Rows} (hl:code.length<=1048576) (i:Nat) (h:Int):Good (rn ⟨185,0,0⟩ [.sl code,.int (i:Int),.int h]) (DGu code):=by
 rw [e185_0_0];refine Good.bind (once_ok hl _ _ (by decide) (by decide)) ?_
 rintro _ ⟨g,i,h,rfl⟩
 simp only [nv0,nvS,dvI,dvB,dvS,dvL,B5];refine Good.bind (below_ok hl _ _ (by decide) (by decide)) ?_
 rintro _ ⟨b,i,h,b0,b1,rfl⟩
 simp only [nv0,nvS,dvI,dvB,dvS,dvL,B5];have ew:IntKind.i64.wrap (1+b)=1+b:=IntWalk.i64_in _ (by omega)
 rw [ew];refine Good.bind (wordN hl 3 _ rfl 64 (by decide) (by decide) _ _ _) ?_
 rintro _ ⟨t,i,h,ht,htn,rfl⟩
 simp only [nv0,nvS,dvI,dvB,dvS,dvL,B5];refine Good.bind (wordN hl 2 _ rfl 64 (by decide) (by decide) _ _ _) ?_
 rintro _ ⟨u,i,h,hu,hun,rfl⟩
 simp only [nv0,nvS,dvI,dvB,dvS,dvL,B5];refine Good.bind (once_ok hl _ _ (by decide) (by decide)) ?_
 rintro _ ⟨q,i,h,rfl⟩
 simp only [nv0,nvS,dvI,dvB,dvS,dvL,B5];refine Good.ite (fun _=>?_) (fun _=>?_)
 · refine Good.bind (termN hl 2 _ rfl 128 (by decide) (by decide) _ _ _) ?_
   rintro _ ⟨t',i,h,ht',htn',rfl⟩
   simp only [nv0,nvS,dvI,dvB,dvS,dvL,B5];refine Good.bind (termN hl 2 _ rfl 128 (by decide) (by decide) _ _ _) ?_
   rintro _ ⟨u',i,h,hu',hun',rfl⟩
   exact Good.ret ⟨⟨1+b,t',u'⟩,i,h,⟨⟨by show 0<=1+b; omega,by show 1+b<=5; omega⟩,ht'.wn (by decide) (by show t'.nodes<=_; omega),hu'.wn (by decide) (by show u'.nodes<=_; omega)⟩,rfl⟩
 · exact Good.ret ⟨⟨1+b,t,u⟩,i,h,⟨⟨by show 0<=1+b; omega,by show 1+b<=5; omega⟩,ht.wn (by decide) (by show t.nodes<=_; omega),hu.wn (by decide) (by show u.nodes<=_; omega)⟩,rfl⟩
theorem vV (s:ByteArray):rn ⟨133,0,0⟩ [.str s]=some (0,[.int (tV s).k,.int (tV s).n,.str (tV s).s,.sl ((tV s).as.map Tm.row)]):=r133 s
theorem vC (s:ByteArray):rn ⟨78,1,0⟩ [.str s,.sl []]=some (0,[.int (tC s).k,.int (tC s).n,.str (tC s).s,.sl ((tC s).as.map Tm.row)]):=r78b s []
theorem vW (n:Int):rn ⟨81,0,0⟩ [.int n]=some (0,[.int (tW n).k,.int (tW n).n,.str (tW n).s,.sl ((tW n).as.map Tm.row)]):=r81 n
theorem vO (s:ByteArray) (t:Tm):rn ⟨38,0,0⟩ [.str s,.int t.k,.int t.n,.str t.s,.sl (t.as.map Tm.row)]=some (0,[.int (tO s t).k,.int (tO s t).n,.str (tO s t).s,.sl ((tO s t).as.map Tm.row)]):=r38 s t
theorem vP (s:ByteArray) (t u:Tm):rn ⟨134,0,0⟩ [.str s,.int t.k,.int t.n,.str t.s,.sl (t.as.map Tm.row),.int u.k,.int u.n,.str u.s,.sl (u.as.map Tm.row)]=some (0,[.int (tP s t u).k,.int (tP s t u).n,.str (tP s t u).s,.sl ((tP s t u).as.map Tm.row)]):=r134 s t u
def DRu (code:Rows) (s:ByteArray) (x:Nat × List D):Prop:=∃ r:RuM,∃ i':Nat,∃ h':Int,r.n=s/\RuW r/\x=(0,[.str r.n,.int r.l.k,.int r.l.n,.str r.l.s,.int (r.r).k,.int (r.r).n,.str (r.r).s,.sl ((r.r).as.map Tm.row),.sl code,.int (i':Int),.int h',.sl (r.l.as.map Tm.row),.sl (r.g.map Gu.row)])
theorem rule_ok {code:Rows} (hl:code.length<=1048576) (s:ByteArray) (hs:s.size<=1000) (i:Nat) (h:Int):Good (rn ⟨129,0,0⟩ [.str s,.sl code,.int (i:Int),.int h]) (DRu code s):=by
 have W:∀ {m:Nat} {t:Tm},Wn m t->m<=3000->Wn 3000 t:=fun h hm=>h.mono hm
 have x1:Wn 1 (tV (⟨#[88]⟩:ByteArray)):=wn_V (by decide)
 have n1:Wn 1 (tV (⟨#[78]⟩:ByteArray)):=wn_V (by decide)
 have y1:Wn 1 (tV (⟨#[89]⟩:ByteArray)):=wn_V (by decide)
 have m1:Wn 1 (tV (⟨#[77]⟩:ByteArray)):=wn_V (by decide)
 have a1:Wn 1 (tC (⟨#[97]⟩:ByteArray)):=wn_C (by decide)
 have b1:Wn 1 (tC (⟨#[98]⟩:ByteArray)):=wn_C (by decide)
 rw [e129_0_0];simp only [vV,nv0,nvS,dvI,dvB,dvS,dvL,B5];refine Good.bind (below_ok hl _ _ (by decide) (by decide)) ?_
 rintro _ ⟨b,i,h,b0,b1',rfl⟩
 simp only [vV,vO,vP,vW,vC,nv0,nvS,dvI,dvB,dvS,dvL,B5];refine Good.ite (fun _=>?_) (fun _=>?_)
 · skip
   refine Good.bind (once_ok hl _ _ (by decide) (by decide)) ?_
   rintro _ ⟨q,i,h,rfl⟩
   simp only [nv0,nvS,dvI,dvB,dvS,dvL,B5];refine Good.ite (fun _=>?_) (fun _=>?_)
   · refine Good.bind (guard_ok hl _ _) ?_
     rintro _ ⟨g,i,h,hg,rfl⟩
     have hb63:F9 1 M63=true:=by decide
     simp only [nv0,nvS,dvI,dvB,dvS,dvL,B5,C5,C9,D7,hb63,H1];exact Good.ret ⟨⟨s,tO (⟨#[103]⟩:ByteArray) (tV (⟨#[88]⟩:ByteArray)),tV (⟨#[88]⟩:ByteArray),[g]⟩,i,h,rfl,⟨hs,W (wn_O (by decide) x1) (by decide),W x1 (by decide),by simp,by simp [hg]⟩,rfl⟩
   · exact Good.ret ⟨⟨s,tO (⟨#[103]⟩:ByteArray) (tV (⟨#[88]⟩:ByteArray)),tV (⟨#[88]⟩:ByteArray),[]⟩,i,h,rfl,⟨hs,W (wn_O (by decide) x1) (by decide),W x1 (by decide),by simp,by simp⟩,rfl⟩
 refine Good.ite (fun _=>?_) (fun _=>?_)
 · skip
   have hp:=pickT_ok hl i h [tV (⟨#[88]⟩:ByteArray),tV (⟨#[89]⟩:ByteArray),tC (⟨#[97]⟩:ByteArray)] (by decide) (by decide)
   simp only [C2,D2,Tm.row_eq] at hp;refine Good.bind hp ?_
   rintro _ ⟨t,i,h,ht,rfl⟩
   have hw:Wn 3000 t:=by
    simp only [D5,R0,or_false] at ht;rcases ht with rfl | rfl | rfl
    · exact W x1 (by decide)
    · exact W y1 (by decide)
    · exact W a1 (by decide)
   simp only [nv0,nvS,dvI,dvB,dvS,dvL,B5];refine Good.bind (once_ok hl _ _ (by decide) (by decide)) ?_
   rintro _ ⟨q,i,h,rfl⟩
   simp only [nv0,nvS,dvI,dvB,dvS,dvL,B5];refine Good.ite (fun _=>?_) (fun _=>?_)
   · refine Good.bind (guard_ok hl _ _) ?_
     rintro _ ⟨g,i,h,hg,rfl⟩
     have hb63:F9 1 M63=true:=by decide
     simp only [nv0,nvS,dvI,dvB,dvS,dvL,B5,C5,C9,D7,hb63,H1];exact Good.ret ⟨⟨s,tP (⟨#[102]⟩:ByteArray) (tV (⟨#[88]⟩:ByteArray)) (tV (⟨#[89]⟩:ByteArray)),t,[g]⟩,i,h,rfl,⟨hs,W (wn_P (by decide) x1 y1) (by decide),hw,by simp,by simp [hg]⟩,rfl⟩
   · exact Good.ret ⟨⟨s,tP (⟨#[102]⟩:ByteArray) (tV (⟨#[88]⟩:ByteArray)) (tV (⟨#[89]⟩:ByteArray)),t,[]⟩,i,h,rfl,⟨hs,W (wn_P (by decide) x1 y1) (by decide),hw,by simp,by simp⟩,rfl⟩
 refine Good.ite (fun _=>?_) (fun _=>?_)
 · skip
   have hg0:GuW ⟨3,tW 0,tV (⟨#[78]⟩:ByteArray)⟩:=⟨by show (0:Int)<=3/\(3:Int)<=5; decide,W (wn_W (by decide) (by decide)) (by decide),W n1 (by decide)⟩
   refine Good.bind (once_ok hl _ _ (by decide) (by decide)) ?_
   rintro _ ⟨q,i,h,rfl⟩
   simp only [nv0,nvS,dvI,dvB,dvS,dvL,B5];refine Good.ite (fun _=>?_) (fun _=>?_)
   · refine Good.bind (guard_ok hl _ _) ?_
     rintro _ ⟨g,i,h,hg,rfl⟩
     have hb63:F9 (1+1) M63=true:=by decide
     simp only [nv0,nvS,dvI,dvB,dvS,dvL,B5,C5,C9,D7,hb63,H1];exact Good.ret ⟨⟨s,tP (⟨#[104]⟩:ByteArray) (tV (⟨#[88]⟩:ByteArray)) (tV (⟨#[78]⟩:ByteArray)),tP (⟨#[104]⟩:ByteArray) (tV (⟨#[88]⟩:ByteArray)) (tP (⟨#[109,105,110,117,115]⟩:ByteArray) (tV (⟨#[78]⟩:ByteArray)) (tW 1)),[⟨3,tW 0,tV (⟨#[78]⟩:ByteArray)⟩,g]⟩,i,h,rfl,⟨hs,W (wn_P (by decide) x1 n1) (by decide),W (wn_P (by decide) x1 (wn_P (by decide) n1 (wn_W (by decide) (by decide)))) (by decide),by simp,by simp [hg,hg0]⟩,rfl⟩
   · exact Good.ret ⟨⟨s,tP (⟨#[104]⟩:ByteArray) (tV (⟨#[88]⟩:ByteArray)) (tV (⟨#[78]⟩:ByteArray)),tP (⟨#[104]⟩:ByteArray) (tV (⟨#[88]⟩:ByteArray)) (tP (⟨#[109,105,110,117,115]⟩:ByteArray) (tV (⟨#[78]⟩:ByteArray)) (tW 1)),[⟨3,tW 0,tV (⟨#[78]⟩:ByteArray)⟩]⟩,i,h,rfl,⟨hs,W (wn_P (by decide) x1 n1) (by decide),W (wn_P (by decide) x1 (wn_P (by decide) n1 (wn_W (by decide) (by decide)))) (by decide),by simp,by simp [hg0]⟩,rfl⟩
 refine Good.ite (fun _=>?_) (fun _=>?_)
 · skip
   refine Good.bind (once_ok hl _ _ (by decide) (by decide)) ?_
   rintro _ ⟨q,i,h,rfl⟩
   simp only [nv0,nvS,dvI,dvB,dvS,dvL,B5];refine Good.ite (fun _=>?_) (fun _=>?_)
   · refine Good.bind (guard_ok hl _ _) ?_
     rintro _ ⟨g,i,h,hg,rfl⟩
     have hb63:F9 1 M63=true:=by decide
     simp only [nv0,nvS,dvI,dvB,dvS,dvL,B5,C5,C9,D7,hb63,H1];exact Good.ret ⟨⟨s,tP (⟨#[104]⟩:ByteArray) (tV (⟨#[88]⟩:ByteArray)) (tW 0),tV (⟨#[88]⟩:ByteArray),[g]⟩,i,h,rfl,⟨hs,W (wn_P (by decide) x1 (wn_W (by decide) (by decide))) (by decide),W x1 (by decide),by simp,by simp [hg]⟩,rfl⟩
   · exact Good.ret ⟨⟨s,tP (⟨#[104]⟩:ByteArray) (tV (⟨#[88]⟩:ByteArray)) (tW 0),tV (⟨#[88]⟩:ByteArray),[]⟩,i,h,rfl,⟨hs,W (wn_P (by decide) x1 (wn_W (by decide) (by decide))) (by decide),W x1 (by decide),by simp,by simp⟩,rfl⟩
 refine Good.ite (fun _=>?_) (fun _=>?_)
 · skip
   refine Good.bind (pick_ok hl _ _ (by decide) (by decide) 8 (by decide)) ?_
   rintro _ ⟨z,i,h,hz,rfl⟩
   simp only [vV,vO,vP,vW,vC,nv0,nvS,dvI,dvB,dvS,dvL,B5];refine Good.bind (once_ok hl _ _ (by decide) (by decide)) ?_
   rintro _ ⟨q,i,h,rfl⟩
   simp only [nv0,nvS,dvI,dvB,dvS,dvL,B5];refine Good.ite (fun _=>?_) (fun _=>?_)
   · refine Good.bind (guard_ok hl _ _) ?_
     rintro _ ⟨g,i,h,hg,rfl⟩
     have hb63:F9 1 M63=true:=by decide
     simp only [nv0,nvS,dvI,dvB,dvS,dvL,B5,C5,C9,D7,hb63,H1];exact Good.ret ⟨⟨s,tP (⟨#[102]⟩:ByteArray) (tO (⟨#[110,117,109]⟩:ByteArray) (tV (⟨#[78]⟩:ByteArray))) (tO (⟨#[110,117,109]⟩:ByteArray) (tV (⟨#[77]⟩:ByteArray))),tO (⟨#[110,117,109]⟩:ByteArray) (tP z (tV (⟨#[78]⟩:ByteArray)) (tV (⟨#[77]⟩:ByteArray))),[g]⟩,i,h,rfl,⟨hs,W (wn_P (by decide) (wn_O (by decide) n1) (wn_O (by decide) m1)) (by decide),W (wn_O (by decide) (wn_P (by omega) n1 m1)) (by decide),by simp,by simp [hg]⟩,rfl⟩
   · exact Good.ret ⟨⟨s,tP (⟨#[102]⟩:ByteArray) (tO (⟨#[110,117,109]⟩:ByteArray) (tV (⟨#[78]⟩:ByteArray))) (tO (⟨#[110,117,109]⟩:ByteArray) (tV (⟨#[77]⟩:ByteArray))),tO (⟨#[110,117,109]⟩:ByteArray) (tP z (tV (⟨#[78]⟩:ByteArray)) (tV (⟨#[77]⟩:ByteArray))),[]⟩,i,h,rfl,⟨hs,W (wn_P (by decide) (wn_O (by decide) n1) (wn_O (by decide) m1)) (by decide),W (wn_O (by decide) (wn_P (by omega) n1 m1)) (by decide),by simp,by simp⟩,rfl⟩
 refine Good.ite (fun _=>?_) (fun _=>?_)
 · skip
   refine Good.bind (once_ok hl _ _ (by decide) (by decide)) ?_
   rintro _ ⟨q,i,h,rfl⟩
   simp only [nv0,nvS,dvI,dvB,dvS,dvL,B5];refine Good.ite (fun _=>?_) (fun _=>?_)
   · refine Good.bind (guard_ok hl _ _) ?_
     rintro _ ⟨g,i,h,hg,rfl⟩
     have hb63:F9 1 M63=true:=by decide
     simp only [nv0,nvS,dvI,dvB,dvS,dvL,B5,C5,C9,D7,hb63,H1];exact Good.ret ⟨⟨s,tO (⟨#[103]⟩:ByteArray) (tO (⟨#[110,117,109]⟩:ByteArray) (tV (⟨#[78]⟩:ByteArray))),tP (⟨#[104]⟩:ByteArray) (tC (⟨#[98]⟩:ByteArray)) (tV (⟨#[78]⟩:ByteArray)),[g]⟩,i,h,rfl,⟨hs,W (wn_O (by decide) (wn_O (by decide) n1)) (by decide),W (wn_P (by decide) b1 n1) (by decide),by simp,by simp [hg]⟩,rfl⟩
   · exact Good.ret ⟨⟨s,tO (⟨#[103]⟩:ByteArray) (tO (⟨#[110,117,109]⟩:ByteArray) (tV (⟨#[78]⟩:ByteArray))),tP (⟨#[104]⟩:ByteArray) (tC (⟨#[98]⟩:ByteArray)) (tV (⟨#[78]⟩:ByteArray)),[]⟩,i,h,rfl,⟨hs,W (wn_O (by decide) (wn_O (by decide) n1)) (by decide),W (wn_P (by decide) b1 n1) (by decide),by simp,by simp⟩,rfl⟩
 refine Good.ite (fun _=>?_) (fun _=>?_)
 · skip
   have hp:=pickT_ok hl i h [tC (⟨#[98]⟩:ByteArray),tO (⟨#[110,117,109]⟩:ByteArray) (tW 2)] (by decide) (by decide)
   simp only [C2,D2,Tm.row_eq] at hp;refine Good.bind hp ?_
   rintro _ ⟨t,i,h,ht,rfl⟩
   have hw:Wn 3000 t:=by
    simp only [D5,R0,or_false] at ht;rcases ht with rfl | rfl
    · exact W b1 (by decide)
    · exact W (wn_O (by decide) (wn_W (by decide) (by decide))) (by decide)
   simp only [nv0,nvS,dvI,dvB,dvS,dvL,B5];refine Good.bind (once_ok hl _ _ (by decide) (by decide)) ?_
   rintro _ ⟨q,i,h,rfl⟩
   simp only [nv0,nvS,dvI,dvB,dvS,dvL,B5];refine Good.ite (fun _=>?_) (fun _=>?_)
   · refine Good.bind (guard_ok hl _ _) ?_
     rintro _ ⟨g,i,h,hg,rfl⟩
     have hb63:F9 1 M63=true:=by decide
     simp only [nv0,nvS,dvI,dvB,dvS,dvL,B5,C5,C9,D7,hb63,H1];exact Good.ret ⟨⟨s,tC (⟨#[97]⟩:ByteArray),t,[g]⟩,i,h,rfl,⟨hs,W a1 (by decide),hw,by simp,by simp [hg]⟩,rfl⟩
   · exact Good.ret ⟨⟨s,tC (⟨#[97]⟩:ByteArray),t,[]⟩,i,h,rfl,⟨hs,W a1 (by decide),hw,by simp,by simp⟩,rfl⟩
 refine Good.ite (fun _=>?_) (fun _=>?_)
 · skip
   refine Good.bind (once_ok hl _ _ (by decide) (by decide)) ?_
   rintro _ ⟨q,i,h,rfl⟩
   simp only [nv0,nvS,dvI,dvB,dvS,dvL,B5];refine Good.ite (fun _=>?_) (fun _=>?_)
   · refine Good.bind (guard_ok hl _ _) ?_
     rintro _ ⟨g,i,h,hg,rfl⟩
     have hb63:F9 1 M63=true:=by decide
     simp only [nv0,nvS,dvI,dvB,dvS,dvL,B5,C5,C9,D7,hb63,H1];exact Good.ret ⟨⟨s,tP (⟨#[102]⟩:ByteArray) (tV (⟨#[88]⟩:ByteArray)) (tV (⟨#[88]⟩:ByteArray)),tO (⟨#[103]⟩:ByteArray) (tV (⟨#[88]⟩:ByteArray)),[g]⟩,i,h,rfl,⟨hs,W (wn_P (by decide) x1 x1) (by decide),W (wn_O (by decide) x1) (by decide),by simp,by simp [hg]⟩,rfl⟩
   · exact Good.ret ⟨⟨s,tP (⟨#[102]⟩:ByteArray) (tV (⟨#[88]⟩:ByteArray)) (tV (⟨#[88]⟩:ByteArray)),tO (⟨#[103]⟩:ByteArray) (tV (⟨#[88]⟩:ByteArray)),[]⟩,i,h,rfl,⟨hs,W (wn_P (by decide) x1 x1) (by decide),W (wn_O (by decide) x1) (by decide),by simp,by simp⟩,rfl⟩
 refine Good.bind (termN hl 3 _ rfl 512 (by decide) (by decide) _ _ _) ?_
 rintro _ ⟨t,i,h,ht,htn,rfl⟩
 simp only [nv0,nvS,dvI,dvB,dvS,dvL,B5];refine Good.bind (termN hl 2 _ rfl 128 (by decide) (by decide) _ _ _) ?_
 rintro _ ⟨u,i,h,hu,hun,rfl⟩
 simp only [nv0,nvS,dvI,dvB,dvS,dvL,B5];refine Good.bind (once_ok hl _ _ (by decide) (by decide)) ?_
 rintro _ ⟨q,i,h,rfl⟩
 simp only [nv0,nvS,dvI,dvB,dvS,dvL,B5];refine Good.ite (fun _=>?_) (fun _=>?_)
 · refine Good.bind (guard_ok hl _ _) ?_
   rintro _ ⟨g,i,h,hg,rfl⟩
   have hb63:F9 1 M63=true:=by decide
   simp only [nv0,nvS,dvI,dvB,dvS,dvL,B5,C5,C9,D7,hb63,H1];exact Good.ret ⟨⟨s,t,u,[g]⟩,i,h,rfl,⟨hs,ht.wn (by decide) (by show t.nodes<=_; omega),hu.wn (by decide) (by show u.nodes<=_; omega),by simp,by simp [hg]⟩,rfl⟩
 · exact Good.ret ⟨⟨s,t,u,[]⟩,i,h,rfl,⟨hs,ht.wn (by decide) (by show t.nodes<=_; omega),hu.wn (by decide) (by show u.nodes<=_; omega),by simp,by simp⟩,rfl⟩
theorem fmt_ok (n:Nat) (hn:n<10):∃ s:ByteArray,s.size<=2/\rn ⟨130,0,0⟩ [.int (n:Int)]=some (0,[.str s]):=by
 rw [e130_0_0];by_cases h0:n=0
 · subst h0; exact ⟨_,by decide,rfl⟩
 have e0:¬(n:Int)=0:=by omega
 rw [H8 e0,H8 (by omega:¬(n:Int)<0)]
 simp only [H2];have hm:Int.tmod (n:Int) 10=(n:Int):=Int.tmod_eq_of_lt (by omega) (by omega)
 have hd:Int.tdiv (n:Int) 10=0:=Int.tdiv_eq_zero_of_lt (by omega) (by omega)
 have hl:∀ s:ByteArray,rn ⟨130,0,1⟩ [.int 0,.bool false,.str s]=some (0,[.bool false,.str s]):=fun s=>by
  rw [e130_0_1]; rfl
 have h1:∃ s:ByteArray,s.size<=2/\rn ⟨130,0,1⟩ [.int (n:Int),.bool false,.str ⟨#[]⟩]=some (0,[.bool false,.str s]):=by
  rw [e130_0_1];rw [H8 e0,hm,hd,H8 (by omega:¬(n:Int)<0)]
  have hw:IntKind.i64.wrap 0=0:=rfl;simp only [K2,H1,H2,show decide ((10:Int)=0)=false from rfl,hw,hl]
  refine ⟨_,?_,by rw [H7 (by show _<=i64max; unfold i64max; simp [bytesOf,ByteArray.size])]; rfl⟩
  rw [ByteArray.size_append]; simp [bytesOf,ByteArray.size]
 obtain ⟨s,h2,e⟩:=h1;exact ⟨s,h2,by rw [e]; rfl⟩
def DDf (code:Rows) (x:Nat × List D):Prop:=∃ d:DfM,∃ i':Nat,∃ h':Int,DfW d/\x=(0,[.sl code,.int (i':Int),.int h',.sl (d.so.map sRow),.sl (d.op.map OpM.row),.sl (d.ru.map RuM.row),.sl (d.st.map StM.row)])
theorem ddef_ok {code:Rows} (hl:code.length<=1048576) (i:Nat) (h:Int):Good (rn ⟨76,0,0⟩ [.sl code,.int (i:Int),.int h]) (DDf code):=by
 have hso:baseSo.length<=10:=by decide
 have hop:baseOp.length<=10:=by decide
 have hsig:SigB baseOp:=⟨by decide,fun o ho=>by have:=(baseOp_ok o ho).2.1; show o.a.length<=_; omega⟩
 have k1:∀ (m j:Nat) (b:Int),b<=5->(j:Int)+m=b->∀ (i:Nat) (h:Int) (R:List RuM),R.length<=j->(∀ r∈R,RuW r)->∃ R':List RuM,∃ i':Nat,∃ h':Int,R'.length<=5/\(∀ r∈R',RuW r) ∧
  rn ⟨76,0,1⟩ [.int b,.int (j:Int),.sl code,.int (i:Int),.int h,.sl [],.sl [],.sl [],.sl [],.sl (baseSo.map sRow),.sl (baseOp.map OpM.row),.sl (R.map RuM.row),.sl []]=some (0,[.sl code,.int (i':Int),.int h',.sl [],.sl [],.sl [],.sl [],.sl (baseSo.map sRow),.sl (baseOp.map OpM.row),.sl (R'.map RuM.row),.sl []]):=by
  intro m;induction m with
  | zero =>
   intro j b hb hj i h R hR hRa;rw [e76_0_1,H8 (by omega:¬(j:Int)<b)]
   exact ⟨R,i,h,by omega,hRa,rfl⟩
  | succ m ih =>
   intro j b hb hj i h R hR hRa;rw [e76_0_1,H7 (by omega:(j:Int)<b)]
   obtain ⟨s,hs,e1⟩:=fmt_ok j (by omega)
   have hsz:((⟨#[114]⟩:ByteArray)++s).size<=1000:=by rw [ByteArray.size_append]; show 1+s.size<=1000; omega
   have hi:decide ((⟨#[114]⟩:ByteArray).size+s.size<=i64max)=true:=H7 (by show 1+s.size<=i64max; unfold i64max; omega)
   obtain ⟨_,e2,r,i',h',hn,hr,rfl⟩:=rule_ok hl ((⟨#[114]⟩:ByteArray)++s) hsz i h;have e3:=r131 (baseSo.map sRow) baseOp hsig r hr.b;have hb63:F9 (R.length+1) M63=true:=nb (by omega)
   have ew:IntKind.i64.wrap ((j:Int)+1)=((j+1:Nat):Int):=by rw [IntWalk.i64_in _ (by omega)]; omega
   simp only [H1,e1,nv0,nvS,dvI,dvB,dvS,dvL,B5,hi,e2,e3,B6,C5,C9,D7,hb63,ew];cases rulOK baseOp r with
   | true =>
    obtain ⟨R',i2,h2,q1,q2,q3⟩:=ih (j+1) b hb (by omega) i' h' (R++[r]) (by simp; omega) (fun x hx=>by
     rcases D0.1 hx with hx | hx
     · exact hRa x hx
     · rw [F6.1 hx]; exact hr)
    simp only [D6,C2,D2,RuM.row] at q3;exact ⟨R',i2,h2,q1,q2,q3⟩
   | false =>
    exact ih (j+1) b hb (by omega) i' h' R (by omega) hRa
 have k2:∀ (R:List RuM),R.length<=5->(∀ r∈R,RuW r)->∀ (m j:Nat) (b:Int),b<=5->(j:Int)+m=b->∀ (i:Nat) (h:Int) (S:List StM),S.length<=j->∃ S':List StM,∃ i':Nat,∃ h':Int,S'.length<=5 ∧
  rn ⟨76,0,3⟩ [.int b,.int (j:Int),.sl code,.int (i:Int),.int h,.sl [],.sl [],.sl [],.sl [],.sl (baseSo.map sRow),.sl (baseOp.map OpM.row),.sl (R.map RuM.row),.sl (S.map StM.row)]=some (0,[.sl code,.int (i':Int),.int h',.sl [],.sl [],.sl [],.sl [],.sl (baseSo.map sRow),.sl (baseOp.map OpM.row),.sl (R.map RuM.row),.sl (S'.map StM.row)]):=by
  intro R hR hRa m;induction m with
  | zero =>
   intro j b hb hj i h S hS;rw [e76_0_3,H8 (by omega:¬(j:Int)<b)]
   exact ⟨S,i,h,by omega,rfl⟩
  | succ m ih =>
   intro j b hb hj i h S hS;rw [e76_0_3,H7 (by omega:(j:Int)<b)]
   simp only [H1];obtain ⟨_,e1,s,i1,h1,hs,rfl⟩:=pick_ok hl i h (l:=[[.str ⟨#[102]⟩],[.str ⟨#[102]⟩],[.str ⟨#[103]⟩],[.str ⟨#[104]⟩],[.str ⟨#[116,111,112]⟩]]) (by decide) (by decide) 8 (by decide)
   obtain ⟨_,e2,n,i2,h2,n0,n1,rfl⟩:=below_ok hl i1 h1 (n:=2) (by decide) (by decide)
   have hdf:DfW ⟨baseSo,baseOp,R,S++[⟨s,n⟩]⟩:=⟨hso,baseSo_ok,hop,baseOp_ok,by show R.length<=10; omega,hRa,by show (S++[_]).length<=10; simp; omega⟩
   have e3:=r97 _ hdf.b;have hb63:F9 (S.length+1) M63=true:=nb (by omega)
   have ew:IntKind.i64.wrap ((j:Int)+1)=((j+1:Nat):Int):=by rw [IntWalk.i64_in _ (by omega)]; omega
   simp only [D6,C2,D2,StM.row] at e3;simp only [e1,e2,nv0,nvS,dvI,dvB,dvS,dvL,B5,e3,B6,E2,C5,C9,D7,hb63,ew,H1];cases DfM.valid ⟨baseSo,baseOp,R,S++[⟨s,n⟩]⟩ with
   | true =>
    obtain ⟨S',i3,h3,q1,q2⟩:=ih (j+1) b hb (by omega) i2 h2 (S++[⟨s,n⟩]) (by simp; omega)
    simp only [D6,C2,D2,StM.row] at q2;exact ⟨S',i3,h3,q1,q2⟩
   | false =>
    have ew2:IntKind.i64.wrap (((S.length+1:Nat):Int)-1)=(S.length:Int):=by rw [IntWalk.i64_in _ (by omega)]; omega
    have ed:(decide ((0:Int)<=(S.length:Int))&&decide ((S.length:Int)<=((S.length+1:Nat):Int)))=true:=by simp; omega
    have etk:(S.map StM.row++[[D.str s,.int n]]).take (N9 (S.length:Int))=S.map StM.row:=by
     have e:S.length=(S.map StM.row).length:=(B6 ..).symm;rw [B9,e,List.take_left]
    simp only [K2,H1,ew2,ed,etk];exact ih (j+1) b hb (by omega) i2 h2 S (by omega)
 have hbase:rn ⟨128,0,0⟩ []=some (0,[.sl (baseSo.map sRow),.sl (baseOp.map OpM.row)]):=by rw [e128_0_0]; rfl
 rw [e76_0_0];simp only [hbase,nv0,nvS,dvI,dvB,dvS,dvL,B5];refine Good.bind (below_ok hl _ _ (by decide) (by decide)) ?_
 rintro _ ⟨b,i,h,b0,b1,rfl⟩
 simp only [nv0,nvS,dvI,dvB,dvS,dvL,B5];have ew:IntKind.i64.wrap (1+b)=1+b:=IntWalk.i64_in _ (by omega)
 obtain ⟨R,i1,h1,q1,q2,q3⟩:=k1 (1+b).toNat 0 (1+b) (by omega) (by omega) i h [] (F8 _) (by simp)
 simp only [C7,D2] at q3;simp only [ew,q3,nv0,nvS,dvI,dvB,dvS,dvL,B5,E6,H1,H2];refine Good.bind (below_ok hl _ _ (by decide) (by decide)) ?_
 rintro _ ⟨c,i,h,c0,c1,rfl⟩
 simp only [nv0,nvS,dvI,dvB,dvS,dvL,B5];obtain ⟨S,i2,h2,p1,p2⟩:=k2 R q1 q2 c.toNat 0 c (by omega) (by omega) i h [] (F8 _)
 simp only [C7,D2] at p2;simp only [p2,nv0,nvS,dvI,dvB,dvS,dvL,B5,E6,H1,H2];exact Good.ret ⟨⟨baseSo,baseOp,R,S⟩,i2,h2,⟨hso,baseSo_ok,hop,baseOp_ok,by show R.length<=10; omega,q2,by show S.length<=10; omega⟩,rfl⟩
theorem take_strs (k:Nat) (l:List ByteArray):(((l.map sRow).take k).drop (N9 0))=(l.take k).map sRow:=by
 show ((l.map sRow).take k).drop 0=_
 rw [D3,List.map_take]
def eL:List ByteArray:=[⟨#[101]⟩,⟨#[101]⟩,⟨#[101]⟩,⟨#[101]⟩]
theorem eL_rows:([[.str (⟨#[101]⟩:ByteArray)],[.str (⟨#[101]⟩:ByteArray)],[.str (⟨#[101]⟩:ByteArray)],[.str (⟨#[101]⟩:ByteArray)]]:Rows)=eL.map sRow:=rfl
theorem sbent_ok {code:Rows} (hl:code.length<=1048576) (i:Nat) (h:Int):Good (rn ⟨132,0,0⟩ [.sl code,.int (i:Int),.int h]) fun x=>∃ so:List ByteArray,∃ op:List OpM,∃ i':Nat,∃ h':Int,so.length<=10/\(∀ x∈so,x.size<=1000)/\op.length<=10/\(∀ o∈op,o.n.size<=1000/\o.a.length<=10/\(∀ x∈o.a,x.size<=1000)/\o.r.size<=1000)/\x=(0,[.sl code,.int (i':Int),.int h',.sl (so.map sRow),.sl (op.map OpM.row)]):=by
 have hso:baseSo.length<=10:=by decide
 have hop:baseOp.length<=10:=by decide
 have hbase:rn ⟨128,0,0⟩ []=some (0,[.sl (baseSo.map sRow),.sl (baseOp.map OpM.row)]):=by rw [e128_0_0]; rfl
 rw [e132_0_0];simp only [hbase,nv0,nvS,dvI,dvB,dvS,dvL,B5];refine Good.bind (below_ok hl _ _ (by decide) (by decide)) ?_
 rintro _ ⟨b,i,h,b0,b1,rfl⟩
 simp only [nv0,nvS,dvI,dvB,dvS,dvL,B5];refine Good.ite (fun _=>?_) (fun _=>?_)
 · refine Good.bind (pick_ok hl _ _ (by decide) (by decide) 8 (by decide)) ?_
   rintro _ ⟨s,i,h,hs,rfl⟩
   have hb63:F9 (baseSo.length+1) M63=true:=nb (by omega)
   simp only [nv0,nvS,dvI,dvB,dvS,dvL,B5,B6,C5,C9,D7,hb63,H1];refine Good.ret ⟨baseSo++[s],baseOp,i,h,by simp [baseSo],fun x hx=>?_,hop,baseOp_ok,by rw [D6]; rfl⟩
   rcases D0.1 hx with hx | hx
   · exact baseSo_ok x hx
   · rw [F6.1 hx]; omega
 refine Good.ite (fun _=>?_) (fun _=>?_)
 · refine Good.bind (pick_ok hl _ _ (by decide) (by decide) 8 (by decide)) ?_
   rintro _ ⟨s,i,h,hs,rfl⟩
   simp only [nv0,nvS,dvI,dvB,dvS,dvL,B5];refine Good.bind (below_ok hl _ _ (by decide) (by decide)) ?_
   rintro _ ⟨c,i,h,c0,c1,rfl⟩
   simp only [nv0,nvS,dvI,dvB,dvS,dvL,B5];obtain ⟨k,rfl⟩:=Int.eq_ofNat_of_zero_le c0;have hk:k<=4:=by omega
   have ed:(decide ((0:Int)<=0)&&(decide ((0:Int)<=(k:Int))&&decide ((k:Int)<=(([[.str (⟨#[101]⟩:ByteArray)],[.str (⟨#[101]⟩:ByteArray)],[.str (⟨#[101]⟩:ByteArray)],[.str (⟨#[101]⟩:ByteArray)]]:Rows).length:Int))))=true:=by
    simp; omega
   rw [ed];simp only [H1];refine Good.bind (pick_ok hl _ _ (by decide) (by decide) 8 (by decide)) ?_
   rintro _ ⟨z,i,h,hz,rfl⟩
   have hb63:F9 (baseOp.length+1) M63=true:=nb (by omega)
   simp only [nv0,nvS,dvI,dvB,dvS,dvL,B5,B6,C5,C9,D7,hb63,H1,eL_rows,B9,take_strs];refine Good.ret ⟨baseSo,baseOp++[⟨s,eL.take k,z⟩],i,h,hso,baseSo_ok,by simp [baseOp],fun o ho=>?_,by rw [D6]; rfl⟩
   rcases D0.1 ho with ho | ho
   · exact baseOp_ok o ho
   · rw [F6.1 ho]
     refine ⟨by show s.size<=1000; omega,by show (eL.take k).length<=10; rw [List.length_take]; omega,fun x hx=>?_,by show z.size<=1000; omega⟩
     have hx':x∈eL:=List.mem_of_mem_take hx;have:=E0.1 (show eL.all (fun x=>decide (x.size<=1000))=true from by decide) x hx'
     simpa using this
 refine Good.ite (fun _=>?_) (fun _=>?_)
 · have e:over (N9 0) [over 1 [D.sl [[D.str ⟨#[122,122]⟩]]] (rowAt (baseOp.map OpM.row) (N9 0))] (baseOp.map OpM.row)=((⟨⟨#[97]⟩,[⟨#[122,122]⟩],⟨#[101]⟩⟩:OpM)::baseOp.drop 1).map OpM.row:=rfl
   have ei:inb 0 (baseOp.map OpM.row).length=true:=rfl;rw [e,ei];simp only [H1];refine Good.ret ⟨baseSo,_,i,h,hso,baseSo_ok,by decide,fun o ho=>?_,rfl⟩
   rcases D5.1 ho with rfl | ho
   · exact opW_ok (by decide)
   · exact baseOp_ok o (List.mem_of_mem_drop ho)
 · exact Good.ret ⟨baseSo,baseOp,i,h,hso,baseSo_ok,hop,baseOp_ok,rfl⟩
theorem dbent_ok {code:Rows} (hl:code.length<=1048576) (i:Nat) (h:Int):Good (rn ⟨77,0,0⟩ [.sl code,.int (i:Int),.int h]) fun x=>∃ d:DfM,∃ i':Nat,∃ h':Int,DfB d/\x=(0,[.sl code,.int (i':Int),.int h',.sl (d.so.map sRow),.sl (d.op.map OpM.row),.sl (d.ru.map RuM.row),.sl (d.st.map StM.row)]):=by
 rw [e77_0_0];refine Good.bind (ddef_ok hl _ _) ?_
 rintro _ ⟨d,i,h,hd,rfl⟩
 simp only [nv0,nvS,dvI,dvB,dvS,dvL,B5];refine Good.bind (below_ok hl _ _ (by decide) (by decide)) ?_
 rintro _ ⟨b,i,h,b0,b1,rfl⟩
 simp only [nv0,nvS,dvI,dvB,dvS,dvL,B5];refine Good.ite (fun _=>?_) (fun _=>?_)
 · refine Good.bind (sbent_ok hl _ _) ?_
   rintro _ ⟨so,op,i,h,s1,s2,s3,s4,rfl⟩
   have hd2:DfW ⟨so,op,d.ru,d.st⟩:=⟨s1,s2,s3,s4,hd.ru,hd.rua,hd.st⟩;exact Good.ret ⟨_,i,h,hd2.b,rfl⟩
 refine Good.ite (fun _=>?_) (fun _=>?_)
 · refine Good.bind (pick_ok hl _ _ (by decide) (by decide) 8 (by decide)) ?_
   rintro _ ⟨s,i,h,hs,rfl⟩
   simp only [nv0,nvS,dvI,dvB,dvS,dvL,B5];refine Good.bind (bent_ok hl _ _) ?_
   rintro _ ⟨t,i,h,ht,rfl⟩
   simp only [nv0,nvS,dvI,dvB,dvS,dvL,B5];refine Good.bind (bent_ok hl _ _) ?_
   rintro _ ⟨u,i,h,hu,rfl⟩
   have hru:=hd.ru;have hb63:F9 (d.ru.length+1) M63=true:=nb (by omega)
   simp only [nv0,nvS,dvI,dvB,dvS,dvL,B5,B6,C5,C9,D7,hb63,H1];have hb:=hd.b;have hn:RuB ⟨s,t,u,[]⟩:=⟨by show s.size<=maxLen; unfold maxLen; omega,ht.w,hu.w,by have:=ht.n; show t.nodes<=_; omega,by have:=hu.n; show u.nodes<=_; omega,K3 _,by simp⟩
   refine Good.ret ⟨⟨d.so,d.op,d.ru++[⟨s,t,u,[]⟩],d.st⟩,i,h,⟨hb.so,hb.sos,hb.op,hb.opn,by show (d.ru++[_]).length<=_; simp; omega,fun r hr=>?_,hb.st⟩,by simp only [D6,C2,D2,RuM.row]⟩
   rcases D0.1 hr with hr | hr
   · exact hb.rua r hr
   · rw [F6.1 hr]; exact hn
 refine Good.ite (fun _=>?_) (fun _=>?_)
 · refine Good.bind (pick_ok hl _ _ (by decide) (by decide) 8 (by decide)) ?_
   rintro _ ⟨s,i,h,hs,rfl⟩
   simp only [nv0,nvS,dvI,dvB,dvS,dvL,B5];refine Good.bind (below_ok hl _ _ (by decide) (by decide)) ?_
   rintro _ ⟨c,i,h,c0,c1,rfl⟩
   have hst:=hd.st;have hb63:F9 (d.st.length+1) M63=true:=nb (by omega)
   simp only [nv0,nvS,dvI,dvB,dvS,dvL,B5,B6,C5,C9,D7,hb63,H1];have hb:=hd.b;exact Good.ret ⟨⟨d.so,d.op,d.ru,d.st++[⟨s,c⟩]⟩,i,h,⟨hb.so,hb.sos,hb.op,hb.opn,hb.ru,hb.rua,by show (d.st++[_]).length<=_; simp; omega⟩,by simp only [D6,C2,D2,StM.row]⟩
 · exact Good.ret ⟨d,i,h,hd.b,rfl⟩
theorem dconf_ok {code:Rows} (hl:code.length<=1048576) (i:Nat) (h:Int):Good (rn ⟨64,0,0⟩ [.sl code,.int (i:Int),.int h]) (DW code 3000):=by
 rw [e64_0_0];refine Good.bind (below_ok hl _ _ (by decide) (by decide)) ?_
 rintro _ ⟨b,i,h,b0,b1,rfl⟩
 simp only [nv0,nvS,dvI,dvB,dvS,dvL,B5];have e:∃ d:Nat,IntKind.i64.wrap (2+b)=(d:Int)/\d<=4:=⟨(2+b).toNat,by rw [IntWalk.i64_in _ (by omega)]; omega,by omega⟩
 obtain ⟨d,e,hd⟩:=e;rw [e];have hp:4 ^ d<=4 ^ 4:=Nat.pow_le_pow_right (by decide) hd
 have hp4:4 ^ 4=256:=rfl;refine Good.bind (termN hl d _ rfl 2048 (by omega) (by omega) _ _ _) ?_
 rintro _ ⟨t,i,h,ht,htn,rfl⟩
 have hw:Wn 2048 t:=ht.wn (by decide) htn
 have h1:=r106 t (hw.small (by decide))
 have hr:=wn_rW hw;simp only [nv0,nvS,dvI,dvB,dvS,dvL,B5,h1];refine Good.bind (once_ok hl _ _ (by decide) (by decide)) ?_
 rintro _ ⟨q,i,h,rfl⟩
 simp only [nv0,nvS,dvI,dvB,dvS,dvL,B5];refine Good.ite (fun _=>?_) (fun _=>?_)
 · simp only [vO,nv0,nvS,dvI,dvB,dvS,dvL,B5]
   exact Good.ret ⟨tO (⟨#[116,111,112]⟩:ByteArray) (rW t),i,h,(wn_O (by decide) hr).mono (by decide),rfl⟩
 · refine Good.bind (once_ok hl _ _ (by decide) (by decide)) ?_
   rintro _ ⟨q,i,h,rfl⟩
   simp only [nv0,nvS,dvI,dvB,dvS,dvL,B5];refine Good.ite (fun _=>?_) (fun _=>?_)
   · refine Good.bind (bent_ok hl _ _) ?_
     rintro _ ⟨u,i,h,hu,rfl⟩
     exact Good.ret ⟨u,i,h,hu.mono (by decide),rfl⟩
   · exact Good.ret ⟨rW t,i,h,hr.mono (by decide),rfl⟩
theorem args12_ok {code:Rows} (hl:code.length<=1048576):Good (rn ⟨34,0,0⟩ [.sl code]) fun x=>∃ d:DfM,∃ t:Tm,DfB d/\Wn 3000 t/\x=(0,[.int t.k,.int t.n,.str t.s,.sl (d.so.map sRow),.sl (d.op.map OpM.row),.sl (d.ru.map RuM.row),.sl (d.st.map StM.row),.sl (t.as.map Tm.row)]):=by
 rw [e34_0_0];refine Good.bind (new_ok hl) ?_
 rintro _ ⟨i,h,rfl⟩
 simp only [nv0,nvS,dvI,dvB,dvS,dvL,B5];refine Good.bind (ddef_ok hl _ _) ?_
 rintro _ ⟨d,i,h,hd,rfl⟩
 simp only [nv0,nvS,dvI,dvB,dvS,dvL,B5];refine Good.bind (dconf_ok hl _ _) ?_
 rintro _ ⟨t,i,h,ht,rfl⟩
 simp only [nv0,nvS,dvI,dvB,dvS,dvL,B5];refine Good.bind (once_ok hl _ _ (by decide) (by decide)) ?_
 rintro _ ⟨q,i,h,rfl⟩
 simp only [nv0,nvS,dvI,dvB,dvS,dvL,B5];refine Good.ite (fun _=>?_) (fun _=>?_)
 · refine Good.bind (dbent_ok hl _ _) ?_
   rintro _ ⟨e,i,h,he,rfl⟩
   exact Good.ret ⟨e,t,he,ht,rfl⟩
 · exact Good.ret ⟨d,t,hd.b,ht,rfl⟩
end Go.Q.S
end
section
namespace Go.Q.S
open Go Go.Q Go.Proofs
theorem performRx (d:DfM) (hd:DfG d) (t:Tm) (ht:Gt d.op t) (hn:t.nodes<=60) (i:Nat) (p:List Int) (hx:Rx d t i p):rn ⟨54,0,0⟩ [.sl (d.so.map sRow),.sl (d.op.map OpM.row),.sl (d.ru.map RuM.row),.sl (d.st.map StM.row),.int t.k,.int t.n,.str t.s,.sl (t.as.map Tm.row),.int (i:Int),.sl (p.map iRow)]=some (0,[.int (stepT d t i p).k,.int (stepT d t i p).n,.str (stepT d t i p).s,.sl ((stepT d t i p).as.map Tm.row),.bool (stepT d t i p).valid]):=by
 obtain ⟨u,r,w,h1,h2,h3,e,hu,hun,hw,hwn,hg,hgn,hp,hr⟩:=rx_good hd ht hn hx;obtain ⟨hi,hri⟩:=D1.1 h2;have a1:=r92 t u p (by omega) h1
 have a2:=r89 d hd i hi u hun;rw [hri,h3] at a2;have a3:=r93 w p t u (by omega) (by omega) h1
 have a4:=r94 (stepT d t i p) (by omega) hg.w
 rw [<- e] at a3;rw [e54_0_0];simp only [a1,a2,frR,nv0,nvS,dvI,dvB,dvS,dvL,B5,a3,a4]
theorem allI (d:DfM) (hd:DfG d):∀ t:Tm,Gt d.op t->t.nodes<=60->∀ acc:List Int,acc.length+t.nodes<=1000->rn ⟨51,0,0⟩ [.sl (d.so.map sRow),.sl (d.op.map OpM.row),.sl (d.ru.map RuM.row),.sl (d.st.map StM.row),.int t.k,.int t.n,.str t.s,.sl (t.as.map Tm.row),.sl (acc.map iRow)]=some (0,[.sl ((rdA d t).map (preR acc))]):=Tm.ind fun t ih ht hn acc hac=>by
 have hnd:=Tm.nodes_eq t;have hls:=len_sum (xs:=t.as);have hst:=hd.b.st;have hrul:=hd.b.ru;have hfew:=rdA_few hd hn;have hql:=stL_len d.st t;have hcl:=rCloneI (acc.map iRow) (by rw [B6]; omega)
 have h1:=filter_loop (F:=fun i out=>rn ⟨51,0,1⟩ [.sl (acc.map iRow),.int (d.ru.length:Int),.int (i:Int),.sl (d.so.map sRow),.sl (d.op.map OpM.row),.sl (d.ru.map RuM.row),.sl (d.st.map StM.row),.int t.k,.int t.n,.str t.s,.sl (t.as.map Tm.row),.sl out]) (N:=d.ru.length) (p:=fun i=>match d.ru[i]? with | some r=>(fireR r t).isSome | none=>false) (g:=fun i=>preR acc (i,[])) (K:=fun out=>some (0,[.sl (acc.map iRow),.sl (d.so.map sRow),.sl (d.op.map OpM.row),.sl (d.ru.map RuM.row),.sl (d.st.map StM.row),.int t.k,.int t.n,.str t.s,.sl (t.as.map Tm.row),.sl out])) (fun i out hi ho=>?_) (fun out=>?_)
 · have e1:((List.range d.ru.length).filter fun i=>match d.ru[i]? with | some r=>(fireR r t).isSome | none=>false)=rtL d.ru t:=rfl
   rw [e1] at h1;simp only [C7] at h1;have hq:∀ j∈stL d.st t,0<=j/\j.toNat<t.as.length:=fun j hj=>stL_lt hd ht hj
   have e2:(rdA d t).length=(rtL d.ru t).length+((stL d.st t).flatMap fun a=>arg0 d t (rdA d) a).length:=by
    rw [rdA_eq,E2,B6]
   have h2:∀ n i (out:Rows),i+n=(stL d.st t).length->out.length+(((stL d.st t).drop i).flatMap fun a=>arg0 d t (rdA d) a).length<=1000->rn ⟨51,0,3⟩ [.sl (acc.map iRow),.int ((stL d.st t).length:Int),.int (i:Int),.sl (d.so.map sRow),.sl (d.op.map OpM.row),.sl (d.ru.map RuM.row),.sl (d.st.map StM.row),.int t.k,.int t.n,.str t.s,.sl (t.as.map Tm.row),.sl out,.sl ((stL d.st t).map iRow)]=some (0,[.sl (out++(((stL d.st t).drop i).flatMap fun a=>arg0 d t (rdA d) a).map (preR acc))]):=by
    clear e2;generalize stL d.st t=q at hql hq ⊢;intro n;induction n with
    | zero =>
     intro i out hi ho;obtain rfl:i=q.length:=by omega
     rw [e51_0_3];simp only [B6,C0,D4,H4,H2,C8,List.flatMap_nil,D2,J1]
    | succ n ih2 =>
     intro i out hi ho;have hlt:i<q.length:=by omega
     obtain ⟨h0,hm⟩:=hq _ (C4 hlt);rw [B8 hlt] at ho ⊢;rw [e51_0_3];rw [N0,E2] at ho;rw [N0,D6];generalize hj:q[i]=j at h0 hm ho ⊢;obtain ⟨m,rfl⟩:∃ m:Nat,j=(m:Int):=⟨j.toNat,by omega⟩
     rw [B9] at hm;have hmm:=C4 hm;have hms:=mem_sum (f:=Tm.nodes) hmm;have g1:=ih _ hmm (ht.sub hmm) (by omega) (acc++[(m:Int)]) (by simp; omega)
     have hb2:F9 (acc.length+1) M63=true:=nb (by omega)
     rw [arg0_pre hm];rw [arg0_nat hm,B6] at ho;have hb3:F9 (out.length+(rdA d t.as[m]).length) M63=true:=nb (by omega)
     have g2:=ih2 (i+1) (out++(rdA d t.as[m]).map (preR (acc++[(m:Int)]))) (by omega) (by rw [E2,B6]; omega)
     simp only [D6,C2,D2,iRow] at g1;simp only [B6,C0,hlt,H3,H1,inbN,B9,rowAt_map hlt,wrap_succ hlt (maxB (by omega)),hj,hm,rowAt_map hm,Tm.row_eq,iRow,nv0,nvS,dvI,dvB,dvS,dvL,B5,C5,C9,D7,hb2]
     simp only [hcl,nv0,nvS,dvI,dvB,dvS,dvL,B5,B6,hb2,H1,g1,hb3,g2,E1]
   have h3:=h2 (stL d.st t).length 0 ((rtL d.ru t).map fun i=>preR acc (i,[])) (D7 _) (by rw [B6,D3]; omega)
   simp only [C7,D3] at h3;have h4:=r90 d hd.b t;rw [e51_0_0];simp only [B6,h1,nv0,nvS,dvI,dvB,dvS,dvL,B5,E6,H1,H2,h4,h3];rw [rdA_eq,D6,List.map_map];rfl
 · have hf:=r89 d hd i hi t hn
   have hb2:F9 (out.length+1) M63=true:=nb (by omega)
   rw [e51_0_1];simp only [C0,hi,H3,H1,hf,F1 hi,wrap_succ hi (maxB (by omega))]
   cases fireR d.ru[i] t with
   | none=>simp only [frR,nv0,nvS,dvI,dvB,dvS,dvL,B5,H2,Option.isSome_none,Q2,if_false]
   | some w=>simp only [frR,nv0,nvS,dvI,dvB,dvS,dvL,B5,H1,hcl,C5,C9,D7,hb2,S3,if_true,preR,rdRow,J1]
 · rw [e51_0_1]
   simp only [C0,D4,H4,H2]
theorem eqIs (a b:List Int) (ha:a.length<=1048576):rn ⟨91,0,0⟩ [.sl (a.map iRow),.sl (b.map iRow)]=some (0,[.bool (decide (a=b))]):=by
 rw [e91_0_0];simp only [B6];by_cases hl:a.length=b.length
 case neg=>rw [H8 (by omega:¬(a.length:Int)=(b.length:Int)),H8 (fun e=>hl (by rw [e]))]; rfl
 rw [H7 (by omega:(a.length:Int)=(b.length:Int))]
 have key:∀ n i,i+n=a.length->(a.drop i=b.drop i/\rn ⟨91,0,1⟩ [.sl (a.map iRow),.sl (b.map iRow),.int (a.length:Int),.int (i:Int)]=some (0,[]))\/(a.drop i≠b.drop i/\rn ⟨91,0,1⟩ [.sl (a.map iRow),.sl (b.map iRow),.int (a.length:Int),.int (i:Int)]=some (1,[])):=by
  intro n;induction n with
  | zero =>
   intro i hi;obtain rfl:i=a.length:=by omega
   rw [e91_0_1];exact .inl ⟨by rw [C8,hl,C8],by simp only [B6,C0,D4,H4,H2,C8]⟩
  | succ n ih =>
   intro i hi;have h1:i<a.length:=by omega
   have h2:i<b.length:=by omega
   rw [e91_0_1,B8 h1,B8 h2];simp only [B6,C0,h1,H3,H1,inbN,B9,rowAt_map h1,wrap_succ h1 (maxB (by omega)),h2,rowAt_map h2,iRow,nv0,nvS,dvI,dvB,dvS,dvL,B5]
   by_cases e:a[i]=b[i]
   · simp only [H7 e,D8,H2]
     rcases ih (i+1) (by omega) with ⟨q1,q2⟩|⟨q1,q2⟩
     · exact .inl ⟨by rw [e,q1],q2⟩
     · exact .inr ⟨fun h=>q1 (by simp only [P4.injEq] at h; exact h.2),q2⟩
   · simp only [H8 e,K2,H1]
     exact .inr ⟨fun h=>e (by simp only [P4.injEq] at h; exact h.1),trivial⟩
 have h:=key a.length 0 (D7 _);simp only [D3,C7] at h;rcases h with ⟨q1,q2⟩|⟨q1,q2⟩
 · simp only [D8,H2,q2,nv0,nvS,dvI,dvB,dvS,dvL,B5,E6,H1,H2]; rw [H7 q1]
 · simp only [D8,H2,q2,nv0,nvS,dvI,dvB,dvS,dvL,B5,E6,H1,H2]; rw [H8 q1]; rfl
theorem contR (l:List (Nat × List Int)) (hl:l.length<=1048576) (k:Nat) (p:List Int) (hp:p.length<=1048576):rn ⟨50,0,0⟩ [.sl (l.map rdRow),.int (k:Int),.sl (p.map iRow)]=some (0,[.bool (hasR l k p),.int (k:Int),.sl (p.map iRow)]):=by
 have hc:∀ x:Nat × List Int,rn ⟨52,0,0⟩ [.int (x.1:Int),.sl (x.2.map iRow),.int (k:Int),.sl (p.map iRow)]=some (0,[.bool (decide ((x.1:Int)=(k:Int))&&decide (x.2=p)),.int (k:Int),.sl (p.map iRow)]):=by
  intro x;have h1:=eqIs p x.2 hp;have h2:rn ⟨53,0,0⟩ [.int (k:Int),.sl (p.map iRow),.int (x.1:Int),.sl (x.2.map iRow)]=some (0,[.bool (decide ((x.1:Int)=(k:Int))&&decide (x.2=p))]):=by
   rw [e53_0_0];simp only [h1,nv0,nvS,dvI,dvB,dvS,dvL,B5];by_cases e:(x.1:Int)=(k:Int)
   · rw [H7 e,H7 e.symm]
     have:decide (p=x.2)=decide (x.2=p):=decide_eq_decide.2 ⟨Eq.symm,Eq.symm⟩;rw [this]; rfl
   · rw [H8 e,H8 (fun h=>e h.symm)]; rfl
  rw [e52_0_0];simp only [h2,nv0,nvS,dvI,dvB,dvS,dvL,B5]
 have hlp:∀ n i,i+n=l.length->(hasR (l.drop i) k p=false/\rn ⟨88,0,1⟩ [.sl (l.map rdRow),.int (l.length:Int),.int (i:Int),.int (k:Int),.sl (p.map iRow)]=some (0,[.int (k:Int),.sl (p.map iRow)]))\/(hasR (l.drop i) k p=true/\∃ j:Nat,rn ⟨88,0,1⟩ [.sl (l.map rdRow),.int (l.length:Int),.int (i:Int),.int (k:Int),.sl (p.map iRow)]=some (1,[.int (j:Int),.int (k:Int),.sl (p.map iRow)])):=by
  intro n;induction n with
  | zero =>
   intro i hi;obtain rfl:i=l.length:=by omega
   rw [e88_0_1];exact .inl ⟨by rw [C8]; rfl,by simp only [B6,C0,D4,H4,H2,C8]⟩
  | succ n ih =>
   intro i hi;have hlt:i<l.length:=by omega
   rw [e88_0_1,B8 hlt];simp only [B6,C0,hlt,H3,H1,inbN,B9,rowAt_map hlt,wrap_succ hlt (maxB (by omega)),rdRow,nv0,nvS,dvI,dvB,dvS,dvL,B5,hc l[i]]
   have e:hasR (l[i]::l.drop (i+1)) k p=((decide ((l[i].1:Int)=(k:Int))&&decide (l[i].2=p))||hasR (l.drop (i+1)) k p):=rfl
   rw [e];cases decide ((l[i].1:Int)=(k:Int))&&decide (l[i].2=p) with
   | true=>exact .inr ⟨rfl,i,rfl⟩
   | false=>simpa using ih (i+1) (by omega)
 have h:=hlp l.length 0 (D7 _);simp only [D3,C7] at h;rw [e50_0_0,e88_0_0];simp only [B6];rcases h with ⟨h1,h2⟩|⟨h1,j,h2⟩
 · rw [h2,h1]; rfl
 · rw [h2,h1]
   simp only [nv0,nvS,dvI,dvB,dvS,dvL,B5,E6,H1,H2,show E3 1 0=false from rfl]
   have:(0:Int)<=(j:Int):=by omega
   simp [this]
def rpD:Option Tm->List D
 | some u=>[.int u.k,.int u.n,.str u.s,.bool true,.sl (u.as.map Tm.row)]
 | none=>[.int 0,.int 0,.str ⟨#[]⟩,.bool false,.sl []]
theorem replayI (d:DfM) (hb:DfB d) (t:Tm) (hw:Wt t) (hn:t.nodes<=2097152) (l:List (Nat × List Int)) (hl:l.length<=1048576) (hp:∀ x∈l,x.2.length<=1048576):rn ⟨22,0,0⟩ [.sl (d.so.map sRow),.sl (d.op.map OpM.row),.sl (d.ru.map RuM.row),.sl (d.st.map StM.row),.int t.k,.int t.n,.str t.s,.sl (t.as.map Tm.row),.sl (l.map rdRow)]=some (0,rpD (if cfg d t=true then rpF d t l else none)):=by
 have h1:=r48 d hb t hw hn;rw [e22_0_0];simp only [h1,nv0,nvS,dvI,dvB,dvS,dvL,B5];by_cases hc:cfg d t=true
 case neg=>rw [H6 hc]; rw [Bool.not_eq_true] at hc; rw [hc]; rfl
 rw [H5 hc,hc];obtain ⟨hd,ht,hn60⟩:=cfg_of hb hw hc;have key:∀ n i (t:Tm),i+n=l.length->Gt d.op t->t.nodes<=60->rn ⟨22,0,1⟩ [.sl (l.map rdRow),.int (l.length:Int),.int (i:Int),.sl (d.so.map sRow),.sl (d.op.map OpM.row),.sl (d.ru.map RuM.row),.sl (d.st.map StM.row),.int 0,.int 0,.str ⟨#[]⟩,.int t.k,.int t.n,.str t.s,.sl [],.sl (t.as.map Tm.row)]=match rpF d t (l.drop i) with
  | some u=>some (0,[.int 0,.int 0,.str ⟨#[]⟩,.int u.k,.int u.n,.str u.s,.sl [],.sl (u.as.map Tm.row)])
  | none=>some (1,[.int 0,.int 0,.str ⟨#[]⟩,.sl []]):=by
  intro n;induction n with
  | zero =>
   intro i t hi ht hn;obtain rfl:i=l.length:=by omega
   rw [e22_0_1];simp only [B6,C0,D4,H4,H2,C8,rpF]
  | succ n ih =>
   intro i t hi ht hn;have hlt:i<l.length:=by omega
   have hpl:=hp _ (C4 hlt);have a1:=allI d hd t ht hn [] (by simp; omega)
   rw [preR_nil] at a1;have hfew:=rdA_few hd hn;have a2:=contR (rdA d t) (by omega) l[i].1 l[i].2 hpl
   rw [B8 hlt,e22_0_1];simp only [rpF];try simp only [D2] at a1
   simp only [B6,C0,hlt,H3,H1,inbN,B9,rowAt_map hlt,wrap_succ hlt (maxB (by omega)),a1,rdRow,nv0,nvS,dvI,dvB,dvS,dvL,B5]
   rw [a2];simp only [nv0,nvS,dvI,dvB,dvS,dvL,B5];by_cases hm:l[i]∈rdA d t
   · have hh:hasR (rdA d t) l[i].1 l[i].2=true:=hasR_iff.2 hm
     rw [H5 hm,hh];have hx:=rdA_rx d t _ hm;have a3:=performRx d hd t ht hn l[i].1 l[i].2 hx;obtain ⟨_,_,_,_,_,_,_,_,_,_,_,hg,_⟩:=rx_good hd ht hn hx;simp only [D8,H2,a3,nv0,nvS,dvI,dvB,dvS,dvL,B5];cases hv:(stepT d t l[i].1 l[i].2).valid with
     | false=>rw [H6 (by simp)]; rfl
     | true =>
      have hsn:=valid_nodes hv;have a4:=r49 (stepT d t l[i].1 l[i].2) (small_of _ (by omega))
      have a5:=ih (i+1) (stepT d t l[i].1 l[i].2) (by omega) hg hsn
      rw [H5 rfl];simp only [D8,H2,a4,nv0,nvS,dvI,dvB,dvS,dvL,B5,a5]
   · rw [H6 hm,show hasR (rdA d t) l[i].1 l[i].2=false from Bool.eq_false_iff.2 fun h=>hm (hasR_iff.1 h)]
     rfl
 have h2:=r49 t (small_of _ (by omega))
 have h3:=key l.length 0 t (D7 _) ht hn60;simp only [C7,D3] at h3;simp only [D8,H2,h2,nv0,nvS,dvI,dvB,dvS,dvL,B5,B6,h3];cases rpF d t l <;> rfl
end Go.Q.S
end
