/- The functions of this seat, as that machine runs them, part 1. -/
import Derived.Test.YtlgjdfldlafgfaaGreatQC
import Derived.Test.YtlgjdfldlafgfaaGreatftX2
import Derived.Test.YtlgjdfldlafgfaaGreatMA
set_option linter.unusedVariables false
set_option linter.unusedSimpArgs false
open Bool renaming and_eq_true->B7,not_true->D8,true_and->F4,not_false->K0,and_true->N0,false_eq_true->R0,and_self->T0
open Int renaming toNat_natCast->B8,ofNat_lt->C0,natCast_zero->C3,toNat->O5,tdiv_eq_ediv_of_nonneg->R3
open List renaming length_map->B6,drop_eq_getElem_cons->B9,length_cons->C1,getElem_mem->C2,map_cons->C6,length_nil->C7,drop_length->C8,drop_zero->D1,map_nil->D4,map_append->D6,append_assoc->D7,getD_cons_zero->D9,length_append->E0,getD_cons_succ->E2,nil_append->E5,getElem?_eq_getElem->F5,length_eq_zero_iff->F6,cons_append->G8,append_nil->G9,all_cons->J6,sum_cons->J7,map_map->K1,all_nil->N1,drop_eq_nil_of_le->N8,getElem_map->N9,getD->O2,filter_cons->P0,drop_succ_cons->P2,cons->P3,find?_cons->P6,length_take->Q0,getElem_cons_zero->R9,range'->S4,find?_nil->S5,pairwise_iff_getElem->S8,take_zero->T6,findIdx?_nil->U2
open Nat renaming zero_add->D2,lt_irrefl->D5,beq_refl->E1,ble_eq_true_of_le->E7,ble->E9,beq->F1,le_refl->F9,le_trans->G6,zero_le->J9,blt->K6,add_zero->O1,mul_le_mul->T9
open Option renaming bind_some->B5,some->C9,map_some->K7,getD_some->O3,isSome_some->P9
section
namespace Go.Q.S
open Go Go.Q Go.Proofs
end Go.Q.S
end
section
namespace Go.Q.S
open Go Go.Q Go.Proofs
theorem rCloneS (xs:Rows) (h:xs.length<=274877906944):rn ⟨85,0,0⟩ [.sl xs]=some (0,[.sl xs]):=by
 rw [e85_0_0];have hb:E9 (([]:Rows).length+xs.length) M63=true:=E7 (by unfold M63; simpa using h)
 rw [hb];cases xs with
 | nil=>simp [both]
 | cons x xs=>rfl
theorem rCloneI (xs:Rows) (h:xs.length<=274877906944):rn ⟨87,0,0⟩ [.sl xs]=some (0,[.sl xs]):=by
 rw [e87_0_0];have hb:E9 (([]:Rows).length+xs.length) M63=true:=E7 (by unfold M63; simpa using h)
 rw [hb];cases xs with
 | nil=>simp [both]
 | cons x xs=>rfl
theorem rSort (ls:List D):rn ⟨135,0,0⟩ ls=sortG 0 ls:=by rw [rn_eq]; rfl
theorem rComp (ls:List D):rn ⟨136,0,0⟩ ls=compG 0 ls:=by rw [rn_eq]; rfl
theorem r71 (l:List ByteArray) (h:l.length<=274877906944):rn ⟨71,0,0⟩ [.sl (l.map sRow)]=some (0,[.sl ((srtN l).map sRow)]):=by
 rw [e71_0_0,rCloneS _ (by simpa using h)]
 simp only [nth0,nth1,nth2,nth3,nth4,nth5,nth6,nth7,nth8,nth9,nth10,nth11,nth12,nth13,nth14,nth15,nth16,nth17,nth18,nth19,nth20,nth21,nth22,nth23,nth24,nth25,dI,dB,dS,dL,B5];rw [rSort,sortG_eq 0 l (by omega)]
 simp only [nth0,nth1,nth2,nth3,nth4,nth5,nth6,nth7,nth8,nth9,nth10,nth11,nth12,nth13,nth14,nth15,nth16,nth17,nth18,nth19,nth20,nth21,nth22,nth23,nth24,nth25,dI,dB,dS,dL,B5];rw [rComp,compG_eq 0 _ (by simp; omega),compact_sort]
 simp only [nth0,nth1,nth2,nth3,nth4,nth5,nth6,nth7,nth8,nth9,nth10,nth11,nth12,nth13,nth14,nth15,nth16,nth17,nth18,nth19,nth20,nth21,nth22,nth23,nth24,nth25,dI,dB,dS,dL,B5];rw [rowS_map]; rfl
theorem r97 (l:List ByteArray) (h:l.length<=1073741824):rn ⟨97,0,0⟩ [.sl (l.map sRow)]=some (0,[.sl ((srtN l).map sRow)]):=by
 rw [e97_0_0,sRow_map];unfold srtN;generalize hks:l.map toK=ks;have hk:ks.length<=1073741824:=by rw [<- hks]; simpa using h
 have hin:∀ (i:Nat) (hi:i<ks.length) (acc:List Ky),acc.length<=1073741824->∀ n a,a+n=acc.length->rn ⟨97,0,3⟩ [.sl (ks.map rowS),.int (i:Int),.int (a:Int),.sl (acc.map rowS)] =
  some (0,[.sl (ks.map rowS),.int (i:Int),.int ((a+ldK ks[i] (acc.drop a):Nat):Int),.sl (acc.map rowS)]):=by
  intro i hi acc hacc n;induction n with
  | zero =>
   intro a ha;have:a=acc.length:=by omega
   subst this;rw [e97_0_3];simp [ldK]
  | succ n ih =>
   intro a ha;have hlt:a<acc.length:=by omega
   rw [e97_0_3,ldK_drop _ _ _ hlt];simp only [B8,rowAt_map hi,rowAt_map hlt,B6,inbN,hi,hlt,C0,H3,H1,nth0,nth1,nth2,nth3,nth4,nth5,nth6,nth7,nth8,nth9,nth10,nth11,nth12,nth13,nth14,nth15,nth16,nth17,nth18,nth19,nth20,nth21,nth22,nth23,nth24,nth25,dI,dB,dS,dL,B5,rowS_sRow,sRow,ltB_ofK,wrap_succ hlt (by unfold maxLen; omega)]
   by_cases hx:acc[a]<ks[i]
   · rw [H5 hx,H7 hx,H1,ih (a+1) (by omega)]
     have e:a+1+ldK ks[i] (acc.drop (a+1))=a+(ldK ks[i] (acc.drop (a+1))+1):=by omega
     rw [e]
   · rw [H6 hx,H8 hx,H2]; rfl
 have hout:∀ n (i:Nat) (acc:List Ky),i+n=ks.length->acc.length<=i->rn ⟨97,0,1⟩ [.sl (ks.map rowS),.int (i:Int),.sl (acc.map rowS)]=some (0,[.sl ((srtK (ks.drop i) acc).map rowS)]):=by
  intro n;induction n with
  | zero =>
   intro i acc hi ha;have:i=ks.length:=by omega
   subst this;rw [e97_0_1];simp [srtK]
  | succ n ih =>
   intro i acc hi ha;have hlt:i<ks.length:=by omega
   have hI:=hin i hlt acc (by omega) acc.length 0 (by omega)
   rw [D1,D2] at hI;rw [e97_0_1];have hc:ldK ks[i] acc<=acc.length:=ldK_le _ _;have hz:((0:Nat):Int)=0:=rfl;rw [hz] at hI;rw [hI,B9 hlt];have hins:=insK_ld ks[i] acc;have hil:(insK ks[i] acc).length<=i+1:=by
    rw [hins]; split
    · omega
    · simp; omega
   have ih':=ih (i+1) (insK ks[i] acc) (by omega) hil
   simp only [B6,C0,hlt,H3,H1,nth0,nth1,nth2,nth3,nth4,nth5,nth6,nth7,nth8,nth9,nth10,nth11,nth12,nth13,nth14,nth15,nth16,nth17,nth18,nth19,nth20,nth21,nth22,nth23,nth24,nth25,dI,dB,dS,dL,B5,E1,B8,wrap_succ hlt (by unfold maxLen; omega),srtK] at ih' ⊢
   rw [<- ih'];generalize hcc:ldK ks[i] acc=c at hc hins ⊢;have h0:(0:Int)<=(c:Int):=by omega
   have h3:(c:Int)<=(acc.length:Int):=by omega
   have hb2:E9 (([]:Rows).length+(List.drop (O5 0) (List.take c (acc.map rowS))).length) M63=true:=E7 (by unfold M63; simp; omega)
   have hb3:∀ z:Rows,z.length=1->E9 (([]++List.drop (O5 0) (List.take c (acc.map rowS)):Rows).length+z.length) M63=true:=fun z hz=>E7 (by unfold M63; simp [hz]; omega)
   have hb4:∀ z:Rows,z.length=1->E9 ((([]++List.drop (O5 0) (List.take c (acc.map rowS)):Rows)++z).length+(List.drop c (List.take acc.length (acc.map rowS))).length) M63=true:=fun z hz=>E7 (by unfold M63; simp [hz]; omega)
   have hfin:([]++List.drop (O5 0) (List.take c (acc.map rowS)):Rows)++[rowS ks[i]]++List.drop c (List.take acc.length (acc.map rowS))=(List.take c acc++[ks[i]]++List.drop c acc).map rowS:=by
    simp [List.map_take,List.map_drop,List.take_of_length_le]
   simp only [rowAt_map hlt,inbN,hlt,H3,H1];by_cases h1:c<acc.length
   · simp only [H7 h1,H1,rowAt_map h1,nth0,nth1,nth2,nth3,nth4,nth5,nth6,nth7,nth8,nth9,nth10,nth11,nth12,nth13,nth14,nth15,nth16,nth17,nth18,nth19,nth20,nth21,nth22,nth23,nth24,nth25,dI,dB,dS,dL,B5,rowS_sRow,sRow,ofK_inj]
     rw [F5 h1] at hins;by_cases h2:acc[c]=ks[i]
     · rw [H7 h2,H1,hins,H5 (by rw [h2])]
     · rw [H8 h2,H2,hins,H6 (by simpa using h2)]
       simp only [h0,h3,Int.le_refl,H3,T0,H1];rw [hb2,hb3 _ rfl,hb4 _ rfl];simp only [H1];rw [<- hfin]; rfl
   · simp only [H8 h1,H2]
     rw [List.getElem?_eq_none (by omega)] at hins
     rw [hins,H6 (by simp)]
     simp only [h0,h3,Int.le_refl,H3,T0,H1];rw [hb2];simp only [H1,rowAt_map hlt,nth0,nth1,nth2,nth3,nth4,nth5,nth6,nth7,nth8,nth9,nth10,nth11,nth12,nth13,nth14,nth15,nth16,nth17,nth18,nth19,nth20,nth21,nth22,nth23,nth24,nth25,dI,dB,dS,dL,B5,rowS_sRow,sRow];rw [hb3 _ rfl,hb4 _ rfl];simp only [H1];rw [<- hfin]; rfl
 have:=hout ks.length 0 [] (by omega) (J9 _)
 simp only [C3,D4,D1] at this;rw [this];simp only [nth0,nth1,nth2,nth3,nth4,nth5,nth6,nth7,nth8,nth9,nth10,nth11,nth12,nth13,nth14,nth15,nth16,nth17,nth18,nth19,nth20,nth21,nth22,nth23,nth24,nth25,dI,dB,dS,dL,B5,E1,H1];rw [rowS_map]
end Go.Q.S
end
section
namespace Go.Q.S
open Go Go.Q Go.Proofs
theorem r86:∀ t:Tm,Small t->rn ⟨86,0,0⟩ [.int t.k,.int t.n,.str t.s,.sl (t.as.map Tm.row)]=some (0,[.int t.k,.int t.n,.str t.s,.sl (t.as.map Tm.row)]):=Tm.ind fun t ih h=>by
 have hl:=h.len;show rn _ _=_
 rw [e86_0_0];have hf:=map_loop (F:=fun i acc=>rn ⟨86,0,1⟩ [.sl (t.as.map Tm.row),.int ((t.as.map Tm.row)).length,.int (i:Int),.int 0,.int 0,.str (⟨#[]⟩:ByteArray),.int t.k,.int t.n,.str t.s,.sl [],.sl acc]) (xs:=t.as) Tm.row (K:=fun acc=>some (0,[.int (0),.int (0),.str ((⟨#[]⟩:ByteArray)),.int (t.k),.int (t.n),.str (t.s),.sl ([]),.sl (acc)])) (fun i hi acc ha=>?_) (fun acc=>?_)
 · simp only [C3] at hf; rw [hf]; rfl
 · have hc:=ih _ (C2 hi) (h.sub (C2 hi))
   rw [e86_0_1];simp only [B8,rowAt_map hi,Tm.row_eq,B6,inbN,hi,C0,H3,H1,nth,D9,E2,D.I,D.S,D.L,D.B,wrap_succ hi (by unfold maxLen; omega),hc,B5,C1,C7]
   rw [show E9 (acc.length+(0+1)) M63=true from E7 (by unfold M63; omega)]
   rfl
 · skip
   rw [e86_0_1];simp
theorem r50:∀ t:Tm,Small t->rn ⟨50,0,0⟩ [.int t.k,.int t.n,.str t.s,.sl (t.as.map Tm.row)]=some (0,[.int t.k,.int t.n,.str t.s,.sl (t.as.map Tm.row)]):=Tm.ind fun t ih h=>by
 have hl:=h.len;show rn _ _=_
 rw [e50_0_0];have hf:=map_loop (F:=fun i acc=>rn ⟨50,0,1⟩ [.int (i:Int),.int t.k,.int t.n,.str t.s,.sl (t.as.map Tm.row),.int 0,.int 0,.str (⟨#[]⟩:ByteArray),.sl acc,.sl []]) (xs:=t.as) Tm.row (K:=fun acc=>some (0,[.int (t.k),.int (t.n),.str (t.s),.sl ((t.as.map Tm.row)),.int (0),.int (0),.str ((⟨#[]⟩:ByteArray)),.sl (acc),.sl ([])])) (fun i hi acc ha=>?_) (fun acc=>?_)
 · simp only [C3] at hf; rw [hf]; rfl
 · have hc:=ih _ (C2 hi) (h.sub (C2 hi))
   rw [e50_0_1];simp only [B8,rowAt_map hi,Tm.row_eq,B6,inbN,hi,C0,H3,H1,nth,D9,E2,D.I,D.S,D.L,D.B,wrap_succ hi (by unfold maxLen; omega),hc,B5,C1,C7]
   rw [show E9 (acc.length+(0+1)) M63=true from E7 (by unfold M63; omega)]
   rfl
 · skip
   rw [e50_0_1];simp
theorem r137 (t:Tm):rn ⟨137,0,0⟩ [.int t.k,.int t.n,.str t.s,.sl (t.as.map Tm.row)]=some (0,[.bool (isW t)]):=by
 show rn _ _=_
 rw [e137_0_0];simp only [B6];unfold isW;have e:decide ((t.as.length:Int)=0)=decide (t.as.length=0):=by simp
 rw [e];cases decide (t.k=3) <;> cases decide (0<=t.n) <;> cases decide (t.n<4) <;> cases decide (t.s=⟨#[]⟩) <;> cases decide (t.as.length=0) <;> rfl
theorem r19 (a b c:Int):rn ⟨19,0,0⟩ [.int a,.int b,.int c]=some (0,[.bool (decide (b<=a)&&decide (a<=c))]):=by
 show rn _ _=_
 rw [e19_0_0];cases decide (b<=a) <;> rfl
theorem r104 (t:Tm):rn ⟨104,0,0⟩ [.int t.k,.int t.n,.str t.s,.sl (t.as.map Tm.row)]=some (0,[.bool (isW t)]):=by
 show rn _ _=_
 rw [e104_0_0];have hc:=r19 t.n 0 3;simp only [hc,B5,nth,D9,E2,D.I,D.S,D.L,D.B,B6];unfold isW;have e:decide ((t.as.length:Int)=0)=decide (t.as.length=0):=by simp
 have e2:decide (t.n<=3)=decide (t.n<4):=decide_eq_decide.2 (by omega)
 rw [e,e2];cases decide (t.k=3) <;> cases decide (0<=t.n) <;> cases decide (t.n<4) <;> cases decide (t.s=⟨#[]⟩) <;> cases decide (t.as.length=0) <;> rfl
theorem r69 (s:ByteArray):rn ⟨69,0,0⟩ [.str s]=some (0,[.bool (isB s)]):=by
 show rn _ _=_
 rw [e69_0_0];unfold isB plusS minusS timesS;cases decide (s=(⟨#[112,108,117,115]⟩:ByteArray)) <;> cases decide (s=(⟨#[109,105,110,117,115]⟩:ByteArray)) <;> cases decide (s=(⟨#[116,105,109,101,115]⟩:ByteArray)) <;> rfl
theorem r103 (s:ByteArray):rn ⟨103,0,0⟩ [.str s]=some (0,[.bool (isB s)]):=by
 show rn _ _=_
 rw [e103_0_0];unfold isB plusS minusS timesS;cases decide (s=(⟨#[112,108,117,115]⟩:ByteArray)) <;> cases decide (s=(⟨#[109,105,110,117,115]⟩:ByteArray)) <;> cases decide (s=(⟨#[116,105,109,101,115]⟩:ByteArray)) <;> rfl
theorem r170 (s:ByteArray) {a b:Int} (ha:0<=a) (ha':a<4) (hb:0<=b) (hb':b<4):rn ⟨170,0,0⟩ [.str s,.int a,.int b]=some (0,[.int (cmp s a b)]):=by
 show rn _ _=_
 rw [e170_0_0];unfold cmp plusS minusS;have h4:(!decide ((4:Int)=0))=true:=rfl;simp only [h4,H1];obtain rfl | rfl | rfl | rfl:a=0\/a=1\/a=2\/a=3:=by omega
 all_goals
  obtain rfl | rfl | rfl | rfl:b=0\/b=1\/b=2\/b=3:=by omega
  all_goals
   by_cases h1:s=(⟨#[112,108,117,115]⟩:ByteArray)
   · simp only [h1,H3,H1,if_true]; rfl
   · by_cases h2:s=(⟨#[109,105,110,117,115]⟩:ByteArray)
     · simp only [h1,h2,H3,H4,H1,H2,if_true,if_false]; rfl
     · simp only [h1,h2,H4,H2,if_false]; rfl
theorem r106 (s:ByteArray) {a b:Int} (ha:0<=a) (ha':a<4) (hb:0<=b) (hb':b<4):rn ⟨106,0,0⟩ [.str s,.int a,.int b]=some (0,[.int (cmp s a b)]):=by
 show rn _ _=_
 rw [e106_0_0];unfold cmp plusS minusS;have h4:(!decide ((4:Int)=0))=true:=rfl;simp only [h4,H1];obtain rfl | rfl | rfl | rfl:a=0\/a=1\/a=2\/a=3:=by omega
 all_goals
  obtain rfl | rfl | rfl | rfl:b=0\/b=1\/b=2\/b=3:=by omega
  all_goals
   by_cases h1:s=(⟨#[112,108,117,115]⟩:ByteArray)
   · simp only [h1,H3,H1,if_true]; rfl
   · by_cases h2:s=(⟨#[109,105,110,117,115]⟩:ByteArray)
     · simp only [h1,h2,H3,H4,H1,H2,if_true,if_false]; rfl
     · simp only [h1,h2,H4,H2,if_false]; rfl
theorem r171 (l:List Bnd) (hl:l.length<=1048576) (s:ByteArray):rn ⟨171,0,0⟩ [.sl (l.map Bnd.row),.str s]=match bnd l s with
 | some t=>some (0,[.int t.k,.int t.n,.str t.s,.sl (t.as.map Tm.row),.bool true])
 | none=>some (0,[.int 0,.int 0,.str ⟨#[]⟩,.sl [],.bool false]):=by
 show rn _ _=_
 rw [e171_0_0];have hf:=find_loop (F:=fun i=>rn ⟨171,0,1⟩ [.str s,.sl (l.map Bnd.row),.int ((l.map Bnd.row)).length,.int (i:Int),.int 0,.int 0,.str (⟨#[]⟩:ByteArray),.sl []]) (xs:=l) (p:=fun b=>decide (b.1=s)) (A:=some (0,[.int (0),.int (0),.str ((⟨#[]⟩:ByteArray)),.sl ([])])) (B:=fun i b=>some (1,[.int b.2.k,.int b.2.n,.str b.2.s,.sl (b.2.as.map Tm.row)])) (fun i hi=>?_) ?_
 · simp only [C3] at hf
   rw [bnd_find];rcases hf with ⟨h1,h2⟩|⟨i,hi,h1,h2⟩
   · rw [h1,h2]; rfl
   · rw [h1,h2]; rfl
 · skip
   rw [e171_0_1];simp only [B8,rowAt_map hi,bd_row,B6,inbN,hi,C0,H3,H1,nth,D9,E2,D.I,D.S,D.L,D.B,wrap_succ hi (by unfold maxLen; omega)]
 · skip
   rw [e171_0_1];simp
theorem r155 (l:List Bnd) (hl:l.length<=1048576) (s:ByteArray):(bnd l s=none/\rn ⟨155,0,0⟩ [.sl (l.map Bnd.row),.str s]=some (0,[.int (-1)]))\/∃ i,∃ hi:i<l.length,bnd l s=some l[i].2/\rn ⟨155,0,0⟩ [.sl (l.map Bnd.row),.str s]=some (0,[.int (i:Int)]):=by
 have hf:=find_loop (F:=fun i=>rn ⟨155,0,1⟩ [.sl (l.map Bnd.row),.str s,.int (i:Int)]) (xs:=l) (p:=fun b=>decide (b.1=s)) (A:=some (0,[])) (B:=fun i b=>some (1,[.int (i:Int)])) (fun i hi=>?_) ?_
 · simp only [C3] at hf
   rw [bnd_find];rcases hf with ⟨h1,h2⟩|⟨i,hi,h1,h2⟩
   · left
     refine ⟨by rw [h1]; rfl,?_⟩
     show rn _ _=_
     rw [e155_0_0];rw [h2]; rfl
   · right
     refine ⟨i,hi,by rw [h1]; rfl,?_⟩
     show rn _ _=_
     rw [e155_0_0];rw [h2]; rfl
 · skip
   rw [e155_0_1];simp only [B8,rowAt_map hi,bd_row,B6,inbN,hi,C0,H3,H1,nth,D9,E2,D.I,D.S,D.L,D.B,wrap_succ hi (by unfold maxLen; omega)]
 · skip
   rw [e155_0_1];simp
theorem r107 (l:List Bnd) (hl:l.length<=1048576) (hs:∀ b∈l,Small b.2) (s:ByteArray):rn ⟨107,0,0⟩ [.sl (l.map Bnd.row),.str s]=match bnd l s with
 | some t=>some (0,[.int t.k,.int t.n,.str t.s,.bool true,.sl (t.as.map Tm.row)])
 | none=>some (0,[.int 0,.int 0,.str ⟨#[]⟩,.bool false,.sl []]):=by
 show rn _ _=_
 rw [e107_0_0];rcases r155 l hl s with ⟨h1,h2⟩|⟨i,hi,h1,h2⟩
 · skip
   rw [h1,h2]; rfl
 · skip
   have hc:=r50 l[i].2 (hs _ (C2 hi));rw [h1,h2];have hn:¬((i:Int)<0):=by omega
   simp only [B5,nth,D9,E2,D.I,D.S,D.L,D.B,B8,rowAt_map hi,bd_row,B6,inbN,hi,hn,H3,H4,H1,H2,hc]
theorem r139 (l:List Bnd) (hl:l.length<=1048576) (hs:∀ b∈l,Small b.2):∀ t:Tm,Small t->rn ⟨139,0,0⟩ [.sl (l.map Bnd.row),.int t.k,.int t.n,.str t.s,.sl (t.as.map Tm.row)]=some (0,[.int (aS l t).k,.int (aS l t).n,.str (aS l t).s,.sl ((aS l t).as.map Tm.row)]):=Tm.ind fun t ih h=>by
 have hlt:=h.len;show rn _ _=_
 rw [e139_0_0];have hf:=map_loop (F:=fun i acc=>rn ⟨139,0,1⟩ [.sl (l.map Bnd.row),.sl (t.as.map Tm.row),.int ((t.as.map Tm.row)).length,.int (i:Int),.int 0,.int 0,.str (⟨#[]⟩:ByteArray),.int t.k,.int t.n,.str t.s,.sl [],.sl acc]) (xs:=t.as) (fun x=>(aS l x).row) (K:=fun acc=>some (0,[.int (0),.int (0),.str ((⟨#[]⟩:ByteArray)),.int (t.k),.int (t.n),.str (t.s),.sl ([]),.sl (acc)])) (fun i hi acc ha=>?_) (fun acc=>?_)
 · simp only [C3] at hf
   have hb:=r171 l hl t.s;rw [aS_eq];by_cases hk:t.k=1
   · rw [H5 hk]
     cases hq:bnd l t.s with
     | none =>
      rw [hq] at hb;simp only at hb;simp only [H7 hk,H1,hb,B5,nth,D9,E2,D.I,D.S,D.L,D.B,H2,hf];simp [Tm.k,Tm.n,Tm.s,Tm.as,Function.comp_def]
     | some u =>
      rw [hq] at hb;simp only at hb;obtain ⟨b,hbm,rfl⟩:=bnd_mem hq;have hcp:=r86 b.2 (hs b hbm);simp only [H7 hk,H1,hb,B5,nth,D9,E2,D.I,D.S,D.L,D.B,hcp]
   · rw [H6 hk]
     simp only [H8 hk,H2,hf,B5,nth,D9,E2,D.I,D.S,D.L,D.B];simp [Tm.k,Tm.n,Tm.s,Tm.as,Function.comp_def]
 · have hc:=ih _ (C2 hi) (h.sub (C2 hi))
   rw [e139_0_1];simp only [B8,rowAt_map hi,Tm.row_eq,B6,inbN,hi,C0,H3,H1,nth,D9,E2,D.I,D.S,D.L,D.B,wrap_succ hi (by unfold maxLen; omega),hc,B5,C1,C7]
   rw [show E9 (acc.length+(0+1)) M63=true from E7 (by unfold M63; omega)]
   rfl
 · skip
   rw [e139_0_1];simp
theorem r55 (l:List Bnd) (hl:l.length<=1048576) (hs:∀ b∈l,Small b.2):∀ t:Tm,Small t->rn ⟨55,0,0⟩ [.sl (l.map Bnd.row),.int t.k,.int t.n,.str t.s,.sl (t.as.map Tm.row)]=some (0,[.int (aS l t).k,.int (aS l t).n,.str (aS l t).s,.sl ((aS l t).as.map Tm.row)]):=Tm.ind fun t ih h=>by
 have hlt:=h.len;show rn _ _=_
 rw [e55_0_0];have hf:=map_loop (F:=fun i acc=>rn ⟨55,0,1⟩ [.sl (l.map Bnd.row),.int (i:Int),.int t.k,.int t.n,.str t.s,.sl (t.as.map Tm.row),.int 0,.int 0,.str (⟨#[]⟩:ByteArray),.int t.k,.int t.n,.str t.s,.sl [],.sl acc]) (xs:=t.as) (fun x=>(aS l x).row) (K:=fun acc=>some (0,[.int (0),.int (0),.str ((⟨#[]⟩:ByteArray)),.int (t.k),.int (t.n),.str (t.s),.sl ([]),.sl (acc)])) (fun i hi acc ha=>?_) (fun acc=>?_)
 · simp only [C3] at hf
   have hb:=r107 l hl hs t.s;rw [aS_eq];by_cases hk:t.k=1
   · rw [H5 hk]
     cases hq:bnd l t.s with
     | none =>
      rw [hq] at hb;simp only at hb;simp only [H7 hk,H1,hb,B5,nth,D9,E2,D.I,D.S,D.L,D.B,H2,hf];simp [Tm.k,Tm.n,Tm.s,Tm.as,Function.comp_def]
     | some u =>
      rw [hq] at hb;simp only at hb;obtain ⟨b,hbm,rfl⟩:=bnd_mem hq;have hcp:=r86 b.2 (hs b hbm);simp only [H7 hk,H1,hb,B5,nth,D9,E2,D.I,D.S,D.L,D.B,hcp]
   · rw [H6 hk]
     simp only [H8 hk,H2,hf,B5,nth,D9,E2,D.I,D.S,D.L,D.B];simp [Tm.k,Tm.n,Tm.s,Tm.as,Function.comp_def]
 · have hc:=ih _ (C2 hi) (h.sub (C2 hi))
   rw [e55_0_1];simp only [B8,rowAt_map hi,Tm.row_eq,B6,inbN,hi,C0,H3,H1,nth,D9,E2,D.I,D.S,D.L,D.B,wrap_succ hi (by unfold maxLen; omega),hc,B5,C1,C7]
   rw [show E9 (acc.length+(0+1)) M63=true from E7 (by unfold M63; omega)]
   rfl
 · skip
   rw [e55_0_1];simp
theorem r138:∀ t:Tm,Small t->rn ⟨138,0,0⟩ [.int t.k,.int t.n,.str t.s,.sl (t.as.map Tm.row)]=some (0,[.int (rW t).k,.int (rW t).n,.str (rW t).s,.sl ((rW t).as.map Tm.row)]):=Tm.ind fun t ih h=>by
 have hlt:=h.len;show rn _ _=_
 rw [e138_0_0];have hf:=map_loop (F:=fun i acc=>rn ⟨138,0,1⟩ [.sl (t.as.map Tm.row),.int ((t.as.map Tm.row)).length,.int (i:Int),.int 0,.int 0,.str (⟨#[]⟩:ByteArray),.int t.k,.int t.n,.str t.s,.sl [],.sl acc]) (xs:=t.as) (fun x=>(rW x).row) (K:=fun acc=>some (0,[.int (0),.int (0),.str ((⟨#[]⟩:ByteArray)),.int (t.k),.int (t.n),.str (t.s),.sl ([]),.sl (acc)])) (fun i hi acc ha=>?_) (fun acc=>?_)
 · simp only [C3] at hf
   have e:t.as.map (fun x=>(rW x).row)=(t.as.map rW).map Tm.row:=by simp [Function.comp_def]
   rw [e] at hf;rw [rW_eq];generalize t.as.map rW=us at hf ⊢;have hB:=r69 t.s;rw [hf];simp only [B5,E1,H1,nth,D9,E2,D.I,D.S,D.L,D.B,hB,B6];by_cases h1:t.k=2
   case neg =>
    simp only [H8 h1,H2];unfold rW1;split
    · rw [H6 (fun h=>h1 h.1)]; rfl
    · rfl
   by_cases h2:t.n=0
   case neg =>
    simp only [H7 h1,H8 h2,H1,H2];unfold rW1;split
    · rw [H6 (fun h=>h2 h.2.1)]; rfl
    · rfl
   simp only [H7 h1,H7 h2,H1];cases h3:isB t.s with
   | false =>
    simp only [H2];unfold rW1;split
    · rw [H6 (fun h=>by rw [h3] at h; exact absurd h.2.2.1 (by decide))]; rfl
    · rfl
   | true =>
    simp only [H1]
    match us with
    | []=>rfl
    | [x]=>rfl
    | x::y::z::zs =>
     have:¬(((x::y::z::zs).length:Int)=2):=by simp only [C1]; omega
     simp only [H8 this,H2];rfl
    | [x,y] =>
     have hx:=r137 x;have hy:=r137 y;have l2:decide ((([x,y]:List Tm).length:Int)=2)=true:=rfl;have i0:inb 0 ([x,y]:List Tm).length=true:=rfl;have i1:inb 1 ([x,y]:List Tm).length=true:=rfl;have r0:rowAt (([x,y]:List Tm).map Tm.row) (O5 0)=x.row:=rfl;have r1:rowAt (([x,y]:List Tm).map Tm.row) (O5 1)=y.row:=rfl;simp only [l2,i0,i1,r0,r1,H1,Tm.row_eq,nth,D9,E2,D.I,D.S,D.L,D.B,hx,hy,B5];unfold rW1;simp only;cases h4:isW x with
     | false=>simp only [H2]; rw [H6 (fun h=>by simp at h)]; rfl
     | true =>
      cases h5:isW y with
      | false=>simp only [H1,H2]; rw [H6 (fun h=>by simp at h)]; rfl
      | true =>
       have b1:=h4;have b2:=h5;simp only [isW,B7,decide_eq_true_eq] at b1 b2;have hcm:=r170 t.s b1.2.1 b1.2.2.1 b2.2.1 b2.2.2.1;simp only [H1,hcm,B5,nth,D9,E2,D.I,D.S,D.L,D.B];rw [H5 ⟨h1,h2,h3,trivial,trivial⟩];rfl
 · have hc:=ih _ (C2 hi) (h.sub (C2 hi))
   rw [e138_0_1];simp only [B8,rowAt_map hi,Tm.row_eq,B6,inbN,hi,C0,H3,H1,nth,D9,E2,D.I,D.S,D.L,D.B,wrap_succ hi (by unfold maxLen; omega),hc,B5,C1,C7]
   rw [show E9 (acc.length+(0+1)) M63=true from E7 (by unfold M63; omega)]
   rfl
 · skip
   rw [e138_0_1];simp
theorem r105 (n:Int):rn ⟨105,0,0⟩ [.int n]=some (0,[.int 3,.int n,.str ⟨#[]⟩,.sl []]):=by
 show rn _ _=_
 rw [e105_0_0]
theorem r54:∀ t:Tm,Small t->rn ⟨54,0,0⟩ [.int t.k,.int t.n,.str t.s,.sl (t.as.map Tm.row)]=some (0,[.int (rW t).k,.int (rW t).n,.str (rW t).s,.sl ((rW t).as.map Tm.row)]):=Tm.ind fun t ih h=>by
 have hlt:=h.len;show rn _ _=_
 rw [e54_0_0];have hf:=map_loop (F:=fun i acc=>rn ⟨54,0,1⟩ [.int (i:Int),.int t.k,.int t.n,.str t.s,.sl (t.as.map Tm.row),.int 0,.int 0,.str (⟨#[]⟩:ByteArray),.int t.k,.int t.n,.str t.s,.sl [],.sl acc]) (xs:=t.as) (fun x=>(rW x).row) (K:=fun acc=>some (0,[.int (t.k),.int (t.n),.str (t.s),.sl ((t.as.map Tm.row)),.int (0),.int (0),.str ((⟨#[]⟩:ByteArray)),.int (t.k),.int (t.n),.str (t.s),.sl ([]),.sl (acc)])) (fun i hi acc ha=>?_) (fun acc=>?_)
 · simp only [C3] at hf
   have e:t.as.map (fun x=>(rW x).row)=(t.as.map rW).map Tm.row:=by simp [Function.comp_def]
   rw [e] at hf;rw [rW_eq];generalize t.as.map rW=us at hf ⊢;have hB:=r103 t.s;rw [hf];simp only [B5,E1,H1,nth,D9,E2,D.I,D.S,D.L,D.B,hB,B6];by_cases h1:t.k=2
   case neg =>
    simp only [H8 h1,H2];unfold rW1;split
    · rw [H6 (fun h=>h1 h.1)]; rfl
    · rfl
   by_cases h2:t.n=0
   case neg =>
    simp only [H7 h1,H8 h2,H1,H2];unfold rW1;split
    · rw [H6 (fun h=>h2 h.2.1)]; rfl
    · rfl
   simp only [H7 h1,H7 h2,H1];cases h3:isB t.s with
   | false =>
    simp only [H2];unfold rW1;split
    · rw [H6 (fun h=>by rw [h3] at h; exact absurd h.2.2.1 (by decide))]; rfl
    · rfl
   | true =>
    simp only [H1]
    match us with
    | []=>rfl
    | [x]=>rfl
    | x::y::z::zs =>
     have:¬(((x::y::z::zs).length:Int)=2):=by simp only [C1]; omega
     simp only [H8 this,H2];rfl
    | [x,y] =>
     have hx:=r104 x;have hy:=r104 y;have l2:decide ((([x,y]:List Tm).length:Int)=2)=true:=rfl;have i0:inb 0 ([x,y]:List Tm).length=true:=rfl;have i1:inb 1 ([x,y]:List Tm).length=true:=rfl;have r0:rowAt (([x,y]:List Tm).map Tm.row) (O5 0)=x.row:=rfl;have r1:rowAt (([x,y]:List Tm).map Tm.row) (O5 1)=y.row:=rfl;simp only [l2,i0,i1,r0,r1,H1,Tm.row_eq,nth,D9,E2,D.I,D.S,D.L,D.B,hx,hy,B5];unfold rW1;simp only;cases h4:isW x with
     | false=>simp only [H2]; rw [H6 (fun h=>by simp at h)]; rfl
     | true =>
      cases h5:isW y with
      | false=>simp only [H1,H2]; rw [H6 (fun h=>by simp at h)]; rfl
      | true =>
       have b1:=h4;have b2:=h5;simp only [isW,B7,decide_eq_true_eq] at b1 b2;have hcm:=r106 t.s b1.2.1 b1.2.2.1 b2.2.1 b2.2.2.1;have hwd:=r105 (cmp t.s x.n y.n);simp only [H1,hcm,B5,nth,D9,E2,D.I,D.S,D.L,D.B,hwd];rw [H5 ⟨h1,h2,h3,trivial,trivial⟩];rfl
 · have hc:=ih _ (C2 hi) (h.sub (C2 hi))
   rw [e54_0_1];simp only [B8,rowAt_map hi,Tm.row_eq,B6,inbN,hi,C0,H3,H1,nth,D9,E2,D.I,D.S,D.L,D.B,wrap_succ hi (by unfold maxLen; omega),hc,B5,C1,C7]
   rw [show E9 (acc.length+(0+1)) M63=true from E7 (by unfold M63; omega)]
   rfl
 · skip
   rw [e54_0_1];simp
theorem r78 (n:Nat):rn ⟨78,0,0⟩ [.int (n:Int)]=some (0,[.int (cnt4 n)]):=by
 show rn _ _=_
 rw [e78_0_0];have hn:¬((n:Int)<0):=by omega
 simp only [H8 hn,H2];have st:∀ x a:Int,0<x->rn ⟨78,0,1⟩ [.int x,.int a]=rn ⟨78,0,1⟩ [.int (IntKind.i64.wrap (x-1)),.int (IntKind.i64.wrap (a*4))]:=fun x a h=>by
  rw [e78_0_1];rw [H7 h]; rfl
 have fi:∀ a:Int,rn ⟨78,0,1⟩ [.int 0,.int a]=some (0,[.int a]):=fun a=>by
  rw [e78_0_1];rfl
 by_cases h3:3<n
 · rw [cnt4_big h3,H7 (by omega:(3:Int)<(n:Int))]; rfl
 · rw [H8 (by omega:¬(3:Int)<(n:Int))]
   simp only [H2];obtain rfl | rfl | rfl | rfl:n=0\/n=1\/n=2\/n=3:=by omega
   · show (rn ⟨78,0,1⟩ [.int 0,.int 1]).bind _=_
     rw [fi]; rfl
   · show (rn ⟨78,0,1⟩ [.int 1,.int 1]).bind _=_
     rw [st 1 1 (by decide)]
     show (rn ⟨78,0,1⟩ [.int 0,.int 4]).bind _=_
     rw [fi]; rfl
   · show (rn ⟨78,0,1⟩ [.int 2,.int 1]).bind _=_
     rw [st 2 1 (by decide)]
     show (rn ⟨78,0,1⟩ [.int 1,.int 4]).bind _=_
     rw [st 1 4 (by decide)]
     show (rn ⟨78,0,1⟩ [.int 0,.int 16]).bind _=_
     rw [fi]; rfl
   · show (rn ⟨78,0,1⟩ [.int 3,.int 1]).bind _=_
     rw [st 3 1 (by decide)]
     show (rn ⟨78,0,1⟩ [.int 2,.int 4]).bind _=_
     rw [st 2 4 (by decide)]
     show (rn ⟨78,0,1⟩ [.int 1,.int 16]).bind _=_
     rw [st 1 16 (by decide)]
     show (rn ⟨78,0,1⟩ [.int 0,.int 64]).bind _=_
     rw [fi]; rfl
theorem r22 (n:Nat):rn ⟨22,0,0⟩ [.int (n:Int)]=some (0,[.int (cnt4 n)]):=by
 show rn _ _=_
 rw [e22_0_0];have hi:=r19 (n:Int) 0 3;simp only [hi,B5,nth,D9,E2,D.I,D.S,D.L,D.B];rw [H7 (by omega:(0:Int)<=(n:Int)),F4]
 have st:∀ x a i:Int,i<x->rn ⟨22,0,1⟩ [.int x,.int a,.int i]=rn ⟨22,0,1⟩ [.int x,.int (IntKind.i64.wrap (a*4)),.int (IntKind.i64.wrap (i+1))]:=fun x a i h=>by
  rw [e22_0_1];rw [H7 h]; rfl
 have fi:∀ x a:Int,rn ⟨22,0,1⟩ [.int x,.int a,.int x]=some (0,[.int a]):=fun x a=>by
  rw [e22_0_1];rw [H8 (by omega)]; rfl
 by_cases h3:3<n
 · rw [cnt4_big h3,H8 (by omega:¬(n:Int)<=(3:Int))]; rfl
 · rw [H7 (by omega:(n:Int)<=(3:Int))]
   simp only [D8,H2];obtain rfl | rfl | rfl | rfl:n=0\/n=1\/n=2\/n=3:=by omega
   · show (rn ⟨22,0,1⟩ [.int 0,.int 1,.int 0]).bind _=_
     rw [fi]; rfl
   · show (rn ⟨22,0,1⟩ [.int 1,.int 1,.int 0]).bind _=_
     rw [st 1 1 0 (by decide)]
     show (rn ⟨22,0,1⟩ [.int 1,.int 4,.int 1]).bind _=_
     rw [fi]; rfl
   · show (rn ⟨22,0,1⟩ [.int 2,.int 1,.int 0]).bind _=_
     rw [st 2 1 0 (by decide)]
     show (rn ⟨22,0,1⟩ [.int 2,.int 4,.int 1]).bind _=_
     rw [st 2 4 1 (by decide)]
     show (rn ⟨22,0,1⟩ [.int 2,.int 16,.int 2]).bind _=_
     rw [fi]; rfl
   · show (rn ⟨22,0,1⟩ [.int 3,.int 1,.int 0]).bind _=_
     rw [st 3 1 0 (by decide)]
     show (rn ⟨22,0,1⟩ [.int 3,.int 4,.int 1]).bind _=_
     rw [st 3 4 1 (by decide)]
     show (rn ⟨22,0,1⟩ [.int 3,.int 16,.int 2]).bind _=_
     rw [st 3 16 2 (by decide)]
     show (rn ⟨22,0,1⟩ [.int 3,.int 64,.int 3]).bind _=_
     rw [fi]; rfl
theorem wcnt (n:Nat) (c:Int):(decide (0<=c)&&decide (c<=IntKind.i64.wrap (cnt4 n-1)))=isC n c:=by
 have h:=cnt4_le n;rw [IntWalk.i64_in _ (by omega)]
 unfold isC;have:decide (c<=cnt4 n-1)=decide (c<cnt4 n):=decide_eq_decide.2 (by omega)
 rw [this]
theorem r37 (n:Nat) (c:Int):rn ⟨37,0,0⟩ [.int (n:Int),.int c]=some (0,[.bool (isC n c)]):=by
 show rn _ _=_
 rw [e37_0_0];have hc:=r78 n;simp only [hc,B5,nth,D9,E2,D.I,D.S,D.L,D.B];unfold isC;cases decide (0<=c) <;> rfl
theorem rv0 (a b c:Int):rn ⟨196,1,0⟩ [.sl []]=some (0,[.sl []]):=by
 show rn _ _=_
 rw [e196_1_0];show (rn ⟨196,1,1⟩ [.int 0,.int (-1),.sl []]).bind _=_
 rw [e196_1_1];rfl
theorem rv1 (a b c:Int):rn ⟨196,1,0⟩ [.sl [[D.int a]]]=some (0,[.sl [[D.int a]]]):=by
 show rn _ _=_
 rw [e196_1_0];show (rn ⟨196,1,1⟩ [.int 0,.int (0),.sl [[D.int a]]]).bind _=_
 rw [e196_1_1];rfl
theorem rv2 (a b c:Int):rn ⟨196,1,0⟩ [.sl [[D.int a],[D.int b]]]=some (0,[.sl [[D.int b],[D.int a]]]):=by
 show rn _ _=_
 rw [e196_1_0];show (rn ⟨196,1,1⟩ [.int 0,.int (1),.sl [[D.int a],[D.int b]]]).bind _=_
 rw [e196_1_1];show (rn ⟨196,1,1⟩ [.int 1,.int 0,.sl [[D.int b],[D.int a]]]).bind _=_
 rw [e196_1_1];rfl
theorem rv3 (a b c:Int):rn ⟨196,1,0⟩ [.sl [[D.int a],[D.int b],[D.int c]]]=some (0,[.sl [[D.int c],[D.int b],[D.int a]]]):=by
 show rn _ _=_
 rw [e196_1_0];show (rn ⟨196,1,1⟩ [.int 0,.int (2),.sl [[D.int a],[D.int b],[D.int c]]]).bind _=_
 rw [e196_1_1];show (rn ⟨196,1,1⟩ [.int 1,.int 1,.sl [[D.int c],[D.int b],[D.int a]]]).bind _=_
 rw [e196_1_1];rfl
theorem r172 (n:Nat) (c:Int):rn ⟨172,0,0⟩ [.int (n:Int),.int c]=some (0,[.sl ((vals n c).map iRow)]):=by
 show rn _ _=_
 rw [e172_0_0];have hi:=r37 n c;simp only [hi,B5,nth,D9,E2,D.I,D.S,D.L,D.B];unfold vals;cases hq:isC n c with
 | false=>rfl
 | true =>
  obtain ⟨hn,h0,h64⟩:=isC_le hq;have e1:c.tdiv 4=c / 4:=R3 h0;have w1:IntKind.i64.wrap (c.tdiv 4)=c.tdiv 4:=by rw [e1]; exact IntWalk.i64_in _ (by omega)
  have h1:0<=c.tdiv 4:=by rw [e1]; omega
  have e2:(c.tdiv 4).tdiv 4=c / 4 / 4:=by rw [R3 h1,e1]
  have w2:IntKind.i64.wrap ((c.tdiv 4).tdiv 4)=(c.tdiv 4).tdiv 4:=by rw [e2]; exact IntWalk.i64_in _ (by omega)
  have st:∀ (x a:Int) (acc:Rows),0<x->acc.length<=10->rn ⟨172,0,1⟩ [.int x,.int a,.sl acc]=rn ⟨172,0,1⟩ [.int (IntKind.i64.wrap (x-1)),.int (IntKind.i64.wrap (a.tdiv 4)),.sl (acc++[[.int (a.tmod 4)]])]:=fun x a acc h hl=>by
   rw [e172_0_1];rw [H7 h];simp only [C1,C7];rw [show E9 (acc.length+(0+1)) M63=true from E7 (by unfold M63; omega)]
   rfl
  have fi:∀ (a:Int) (acc:Rows),rn ⟨172,0,1⟩ [.int 0,.int a,.sl acc]=some (0,[.sl acc]):=fun a acc=>by
   rw [e172_0_1];rfl
  simp only [D8,H2,if_true];obtain rfl | rfl | rfl | rfl:n=0\/n=1\/n=2\/n=3:=by omega
  · show (rn ⟨172,0,1⟩ [.int 0,.int c,.sl []]).bind _=_
    rw [fi];have hv:=rv0 0 0 0;show ((rn ⟨196,1,0⟩ [.sl []]).bind _:R)=_
    rw [hv]; rfl
  · show (rn ⟨172,0,1⟩ [.int 1,.int c,.sl []]).bind _=_
    rw [st 1 c [] (by decide) (by decide)]
    rw [w1];show (rn ⟨172,0,1⟩ [.int 0,.int (c.tdiv 4),.sl [[.int (c.tmod 4)]]]).bind _=_
    rw [fi];have hv:=rv1 (c.tmod 4) 0 0;show ((rn ⟨196,1,0⟩ [.sl [[.int (c.tmod 4)]]]).bind _:R)=_
    rw [hv]; rfl
  · show (rn ⟨172,0,1⟩ [.int 2,.int c,.sl []]).bind _=_
    rw [st 2 c [] (by decide) (by decide),w1]
    show (rn ⟨172,0,1⟩ [.int 1,.int (c.tdiv 4),.sl [[.int (c.tmod 4)]]]).bind _=_
    rw [st 1 _ _ (by decide) (by simp),w2]
    show (rn ⟨172,0,1⟩ [.int 0,.int ((c.tdiv 4).tdiv 4),.sl [[.int (c.tmod 4)],[.int ((c.tdiv 4).tmod 4)]]]).bind _=_
    rw [fi];have hv:=rv2 (c.tmod 4) ((c.tdiv 4).tmod 4) 0;show ((rn ⟨196,1,0⟩ [.sl [[.int (c.tmod 4)],[.int ((c.tdiv 4).tmod 4)]]]).bind _:R)=_
    rw [hv]; rfl
  · show (rn ⟨172,0,1⟩ [.int 3,.int c,.sl []]).bind _=_
    rw [st 3 c [] (by decide) (by decide),w1]
    show (rn ⟨172,0,1⟩ [.int 2,.int (c.tdiv 4),.sl [[.int (c.tmod 4)]]]).bind _=_
    rw [st 2 _ _ (by decide) (by simp),w2]
    show (rn ⟨172,0,1⟩ [.int 1,.int ((c.tdiv 4).tdiv 4),.sl [[.int (c.tmod 4)],[.int ((c.tdiv 4).tmod 4)]]]).bind _=_
    rw [st 1 _ _ (by decide) (by simp)]
    show (rn ⟨172,0,1⟩ [.int 0,.int _,.sl [[.int (c.tmod 4)],[.int ((c.tdiv 4).tmod 4)],[.int (((c.tdiv 4).tdiv 4).tmod 4)]]]).bind _=_
    rw [fi];have hv:=rv3 (c.tmod 4) ((c.tdiv 4).tmod 4) (((c.tdiv 4).tdiv 4).tmod 4);show ((rn ⟨196,1,0⟩ [.sl [[.int (c.tmod 4)],[.int ((c.tdiv 4).tmod 4)],[.int (((c.tdiv 4).tdiv 4).tmod 4)]]]).bind _:R)=_
    rw [hv]; rfl
theorem r108 (n:Nat) (c:Int):rn ⟨108,0,0⟩ [.int (n:Int),.int c]=some (0,[.sl ((vals n c).map iRow)]):=by
 show rn _ _=_
 rw [e108_0_0];have hi:=r22 n;have hj:=r19 c 0 (IntKind.i64.wrap (cnt4 n-1));rw [wcnt] at hj;simp only [hi,hj,B5,nth,D9,E2,D.I,D.S,D.L,D.B];unfold vals;cases hq:isC n c with
 | false=>rfl
 | true =>
  obtain ⟨hn,h0,h64⟩:=isC_le hq;have e1:c.tdiv 4=c / 4:=R3 h0;have w1:IntKind.i64.wrap (c.tdiv 4)=c.tdiv 4:=by rw [e1]; exact IntWalk.i64_in _ (by omega)
  have h1:0<=c.tdiv 4:=by rw [e1]; omega
  have e2:(c.tdiv 4).tdiv 4=c / 4 / 4:=by rw [R3 h1,e1]
  have w2:IntKind.i64.wrap ((c.tdiv 4).tdiv 4)=(c.tdiv 4).tdiv 4:=by rw [e2]; exact IntWalk.i64_in _ (by omega)
  have fi:∀ (a:Int) (acc:Rows),rn ⟨108,0,1⟩ [.int a,.int (-1),.sl acc]=some (0,[.sl acc]):=fun a acc=>by
   rw [e108_0_1];rfl
  simp only [D8,H2,if_true];obtain rfl | rfl | rfl | rfl:n=0\/n=1\/n=2\/n=3:=by omega
  · show (rn ⟨108,0,1⟩ [.int c,.int (-1),.sl []]).bind _=_
    rw [fi]; rfl
  · show (rn ⟨108,0,1⟩ [.int c,.int 0,.sl [[.int 0]]]).bind _=_
    rw [e108_0_1];show (rn ⟨108,0,1⟩ [.int (IntKind.i64.wrap (c.tdiv 4)),.int (-1),.sl [[.int (c.tmod 4)]]]).bind _=_
    rw [fi]; rfl
  · show (rn ⟨108,0,1⟩ [.int c,.int 1,.sl [[.int 0],[.int 0]]]).bind _=_
    rw [e108_0_1];show (rn ⟨108,0,1⟩ [.int (IntKind.i64.wrap (c.tdiv 4)),.int 0,.sl [[.int 0],[.int (c.tmod 4)]]]).bind _=_
    rw [w1];rw [e108_0_1];show (rn ⟨108,0,1⟩ [.int (IntKind.i64.wrap ((c.tdiv 4).tdiv 4)),.int (-1),.sl [[.int ((c.tdiv 4).tmod 4)],[.int (c.tmod 4)]]]).bind _=_
    rw [fi]; rfl
  · show (rn ⟨108,0,1⟩ [.int c,.int 2,.sl [[.int 0],[.int 0],[.int 0]]]).bind _=_
    rw [e108_0_1];show (rn ⟨108,0,1⟩ [.int (IntKind.i64.wrap (c.tdiv 4)),.int 1,.sl [[.int 0],[.int 0],[.int (c.tmod 4)]]]).bind _=_
    rw [w1];rw [e108_0_1];show (rn ⟨108,0,1⟩ [.int (IntKind.i64.wrap ((c.tdiv 4).tdiv 4)),.int 0,.sl [[.int 0],[.int ((c.tdiv 4).tmod 4)],[.int (c.tmod 4)]]]).bind _=_
    rw [w2];rw [e108_0_1];show (rn ⟨108,0,1⟩ [.int _,.int (-1),.sl [[.int (((c.tdiv 4).tdiv 4).tmod 4)],[.int ((c.tdiv 4).tmod 4)],[.int (c.tmod 4)]]]).bind _=_
    rw [fi]; rfl
theorem r140 (vars:List ByteArray) (c:Int):rn ⟨140,0,0⟩ [.sl (vars.map sRow),.int c]=some (0,[.sl ((caseS vars c).map Bnd.row)]):=by
 show rn _ _=_
 rw [e140_0_0];have hv:=r172 vars.length c;have hle:=vals_len vars.length c;have hle3:(vals vars.length c).length<=3:=by
  by_cases hC:isC vars.length c=true
  · have:=(isC_le hC).1; omega
  · unfold vals; rw [H6 hC]; simp
 have hz:(vars.zip (vals vars.length c)).length=(vals vars.length c).length:=by simp; omega
 have hf:=map_loop (F:=fun i acc=>rn ⟨140,0,1⟩ [.sl (vars.map sRow),.int (((vals vars.length c).map iRow).length),.int (i:Int),.sl acc,.sl ((vals vars.length c).map iRow)]) (xs:=vars.zip (vals vars.length c)) (fun p=>[.str p.1,.int 3,.int p.2,.str ⟨#[]⟩,.sl []]) (K:=fun acc=>some (0,[.sl (acc)])) (fun i hi acc ha=>?_) (fun acc=>?_)
 · simp only [C3] at hf
   simp only [B6];rw [hv];simp only [B5,nth,D9,E2,D.I,D.S,D.L,D.B];first
    | rw [hf]
    | (simp only [B6] at hf ⊢; rw [hf])
   simp only [B5,E1,H1,nth,D9,E2,D.I,D.S,D.L,D.B];unfold caseS;rw [K1];rfl
 · have hi1:i<vars.length:=by rw [List.length_zip] at hi; omega
   have hi2:i<(vals vars.length c).length:=by rw [List.length_zip] at hi; omega
   rw [e140_0_1];simp only [B8,rowAt_map hi1,rowAt_map hi2,sRow,iRow,B6,inbN,hi1,hi2,C0,H3,H1,nth,D9,E2,D.I,D.S,D.L,D.B,wrap_succ hi2 (by unfold maxLen; omega),C1,C7,B5]
   rw [show E9 (acc.length+(0+1)) M63=true from E7 (by unfold M63; omega)]
   rw [List.getElem_zip];rfl
 · skip
   rw [e140_0_1];simp [hz]
theorem r56 (vars:List ByteArray) (c:Int):rn ⟨56,0,0⟩ [.sl (vars.map sRow),.int c]=some (0,[.sl ((caseS vars c).map Bnd.row)]):=by
 show rn _ _=_
 rw [e56_0_0];have hv:=r108 vars.length c;have hle:=vals_len vars.length c;have hle3:(vals vars.length c).length<=3:=by
  by_cases hC:isC vars.length c=true
  · have:=(isC_le hC).1; omega
  · unfold vals; rw [H6 hC]; simp
 have hz:(vars.zip (vals vars.length c)).length=(vals vars.length c).length:=by simp; omega
 have hf:=map_loop (F:=fun i acc=>rn ⟨56,0,1⟩ [.sl (vars.map sRow),.int (i:Int),.sl acc,.sl ((vals vars.length c).map iRow)]) (xs:=vars.zip (vals vars.length c)) (fun p=>[.str p.1,.int 3,.int p.2,.str ⟨#[]⟩,.sl []]) (K:=fun acc=>some (0,[.sl (acc)])) (fun i hi acc ha=>?_) (fun acc=>?_)
 · simp only [C3] at hf
   simp only [B6];rw [hv];simp only [B5,nth,D9,E2,D.I,D.S,D.L,D.B];first
    | rw [hf]
    | (simp only [B6] at hf ⊢; rw [hf])
   simp only [B5,E1,H1,nth,D9,E2,D.I,D.S,D.L,D.B];unfold caseS;rw [K1];rfl
 · have hi1:i<vars.length:=by rw [List.length_zip] at hi; omega
   have hi2:i<(vals vars.length c).length:=by rw [List.length_zip] at hi; omega
   rw [e56_0_1];have hw:=r105 ((vals vars.length c)[i]);simp only [B8,rowAt_map hi1,rowAt_map hi2,sRow,iRow,B6,inbN,hi1,hi2,C0,H3,H1,nth,D9,E2,D.I,D.S,D.L,D.B,wrap_succ hi2 (by unfold maxLen; omega),C1,C7,B5,hw]
   rw [show E9 (acc.length+(0+1)) M63=true from E7 (by unfold M63; omega)]
   rw [List.getElem_zip];rfl
 · skip
   rw [e56_0_1];simp [hz]
theorem r23 (vars:List ByteArray) (t:Tm) (ht:Small t) (c:Int):rn ⟨23,0,0⟩ [.sl (vars.map sRow),.int t.k,.int t.n,.str t.s,.sl (t.as.map Tm.row),.int c]=some (0,[.int (inst vars t c).k,.int (inst vars t c).n,.str (inst vars t c).s,.sl ((inst vars t c).as.map Tm.row)]):=by
 show rn _ _=_
 rw [e23_0_0];have hl:(caseS vars c).length<=1048576:=by
  have:=vals_len vars.length c;by_cases hC:isC vars.length c=true
  · have:=(isC_le hC).1; unfold caseS; simp; omega
  · unfold caseS vals; rw [H6 hC]; simp
 have h1:=r56 vars c;have h2:=r55 (caseS vars c) hl (caseS_small vars c) t ht;have h3:=r54 (aS (caseS vars c) t) (aS_small (caseS_small vars c) t ht);simp only [h1,h2,h3,B5,nth,D9,E2,D.I,D.S,D.L,D.B];rfl
theorem caseS_len (vars:List ByteArray) (c:Int):(caseS vars c).length<=1048576:=by
 have:=vals_len vars.length c;by_cases hC:isC vars.length c=true
 · have:=(isC_le hC).1; unfold caseS; simp; omega
 · unfold caseS vals; rw [H6 hC]; simp
theorem r77:∀ t:Tm,t.nodes<=1048577->rn ⟨77,0,0⟩ [.int t.k,.int t.n,.str t.s,.sl (t.as.map Tm.row)]=some (0,[.sl (t.names.map sRow)]):=Tm.ind fun t ih h=>by
 have hnd:=Tm.nodes_eq t;have hsm:=names_sum t;have hlt:=len_sum (xs:=t.as);show rn _ _=_
 rw [e77_0_0];have hf:=fun a0:Rows=>fun ha0:a0.length<=1=>cat_loop (F:=fun i acc=>rn ⟨77,0,1⟩ [.sl (t.as.map Tm.row),.int (t.as.map Tm.row).length,.int (i:Int),.sl acc]) (xs:=t.as) (fun a=>a.names.map sRow) a0 (K:=fun acc=>some (0,[.sl acc])) (fun i hi acc ha=>by
  have hc:=ih _ (C2 hi) (by have:=mem_sum (f:=Tm.nodes) (C2 hi); omega)
  rw [e77_0_1];simp only [B8,rowAt_map hi,Tm.row_eq,B6,inbN,hi,C0,H3,H1,nth,D9,E2,D.I,D.S,D.L,D.B,wrap_succ hi (by unfold maxLen; omega),B5,hc]
  rw [E0,B6] at ha;rw [show E9 (acc.length+t.as[i].names.length) M63=true from E7 (by unfold M63; omega)]
  rfl) (fun acc=>by
  rw [e77_0_1];simp)
 simp only [C3] at hf;rw [names_rows];by_cases hk:t.k=1
 · rw [H5 hk,H7 hk]
   have h1:=hf [sRow t.s] (by simp)
   simp only [sRow] at h1;simp only [H1,sRow];rw [h1]; rfl
 · rw [H6 hk,H8 hk]
   have h1:=hf [] (by simp)
   simp only [H2];rw [h1]; rfl
theorem r213 (t:Tm) (h:t.nodes<=1048577):rn ⟨213,0,0⟩ [.int t.k,.int t.n,.str t.s,.sl (t.as.map Tm.row)]=some (0,[.bool (isG t)]):=by
 show rn _ _=_
 rw [e213_0_0];have hc:=r77 t h;simp only [hc,B5,nth,D9,E2,D.I,D.S,D.L,D.B,B6];rfl
theorem r98:∀ t:Tm,∀ a0:Rows,t.nodes<=1048577->a0.length+t.names.length<=1073741824->rn ⟨98,1,0⟩ [.int t.k,.int t.n,.str t.s,.sl (t.as.map Tm.row),.sl a0]=some (0,[.sl (a0++t.names.map sRow)]):=Tm.ind fun t ih a0 h h'=>by
 have hnd:=Tm.nodes_eq t;have hsm:=names_sum t;have hlt:=len_sum (xs:=t.as);show rn _ _=_
 rw [e98_1_0];have hf:=fun a1:Rows=>fun ha1:a1.length+(t.as.flatMap fun a=>a.names.map sRow).length<=1073741824=>cat_loop (F:=fun i acc=>rn ⟨98,1,1⟩ [.int (i:Int),.sl acc,.int t.k,.int t.n,.str t.s,.sl (t.as.map Tm.row)]) (xs:=t.as) (fun a=>a.names.map sRow) a1 (K:=fun acc=>some (0,[.sl acc])) (fun i hi acc ha=>by
  rw [E0] at ha;have hx:t.as[i].nodes<=(t.as.map Tm.nodes).sum:=mem_sum (f:=Tm.nodes) (C2 hi);have hc:=ih _ (C2 hi) acc (by omega) (by rw [B6] at ha; omega)
  rw [e98_1_1];simp only [B8,rowAt_map hi,Tm.row_eq,B6,inbN,hi,C0,H3,H1,nth,D9,E2,D.I,D.S,D.L,D.B,wrap_succ hi (by unfold maxLen; omega),B5,hc]) (fun acc=>by
  rw [e98_1_1];simp)
 simp only [C3] at hf;have hle:t.names.length=(if t.k=1 then [sRow t.s] else []).length+(t.as.flatMap fun a=>a.names.map sRow).length:=by
  rw [<- E0,<- names_rows,B6]
 rw [names_rows];by_cases hk:t.k=1
 · rw [H5 hk] at hle
   rw [H5 hk,H7 hk];have h1:=hf (a0++[sRow t.s]) (by rw [E0]; omega)
   simp only [sRow] at h1;simp only [H1,sRow,C1,C7];rw [show E9 (a0.length+(0+1)) M63=true from E7 (by unfold M63; omega)]
   simp only [H1];rw [h1,D7]; rfl
 · rw [H6 hk] at hle
   rw [H6 hk,H8 hk];have h1:=hf a0 (by rw [C7] at hle; omega)
   simp only [H2];rw [h1]; rfl
theorem r109 (t:Tm) (h:t.nodes<=1048577):rn ⟨109,0,0⟩ [.int t.k,.int t.n,.str t.s,.sl (t.as.map Tm.row)]=some (0,[.bool (isG t)]):=by
 show rn _ _=_
 rw [e109_0_0];have hc:=r98 t [] h (by have:=names_nodes t; simp; omega)
 simp only [hc,B5,nth,D9,E2,D.I,D.S,D.L,D.B,E5,B6];rfl
theorem r13:∀ t:Tm,∀ u:Tm,Small t->rn ⟨13,0,0⟩ [.int t.k,.int t.n,.str t.s,.sl (t.as.map Tm.row),.int u.k,.int u.n,.str u.s,.sl (u.as.map Tm.row)]=some (0,[.bool (eqb t.row u.row)]):=Tm.ind fun t ih u h=>by
 have hlt:=h.len;show rn _ _=_
 rw [e13_0_0];have hq:eqb t.row u.row=(decide (t.k=u.k)&&(decide (t.n=u.n)&&(decide (t.s=u.s)&&eqb (t.as.map Tm.row) (u.as.map Tm.row)))):=by
  rw [Tm.row_eq t,Tm.row_eq u];simp only [eqb_cons,eqb_nil,eqb_int,eqb_str,eqb_sl,N0]
 rw [hq];try simp only [B6]
 by_cases l0:u.as.length≠t.as.length
 · rw [H8 (by omega:¬(t.as.length:Int)=(u.as.length:Int)),eqb_len (fun h=>l0 (by simpa using h.symm))]
   cases decide (t.k=u.k) <;> cases decide (t.n=u.n) <;> cases decide (t.s=u.s) <;> rfl
 have l0:=Classical.not_not.1 l0;rw [H7 (by omega:(t.as.length:Int)=(u.as.length:Int))]
 have hf:=eq_loop (F:=fun i=>rn ⟨13,0,1⟩ [.int (i:Int),.int t.k,.int t.n,.str t.s,.sl (t.as.map Tm.row),.int u.k,.int u.n,.str u.s,.sl (u.as.map Tm.row)]) (xs:=t.as.map Tm.row) (ys:=u.as.map Tm.row) (A:=some (0,[])) (B:=some (1,[])) (by simpa using l0) (fun i hi=>?_) ?_
 · simp only [C3] at hf
   rw [hf];cases decide (t.k=u.k) <;> cases decide (t.n=u.n) <;> cases decide (t.s=u.s) <;> cases eqb (t.as.map Tm.row) (u.as.map Tm.row) <;> rfl
 · have hi:i<t.as.length:=by simpa using hi
   have hi2:i<u.as.length:=by omega
   have hc:=ih _ (C2 hi) u.as[i] (h.sub (C2 hi));rw [e13_0_1];rw [N9,N9];generalize eqb t.as[i].row u.as[i].row=z at hc ⊢;simp only [B8,rowAt_map hi,rowAt_map hi2,Tm.row_eq,B6,inbN,hi,hi2,C0,H3,H1,nth,D9,E2,D.I,D.S,D.L,D.B,wrap_succ hi (by unfold maxLen; omega),B5,hc]
   cases z <;> rfl
 · skip
   rw [e13_0_1];simp
theorem r207:∀ t:Tm,∀ u:Tm,Small t->rn ⟨207,0,0⟩ [.int t.k,.int t.n,.str t.s,.sl (t.as.map Tm.row),.int u.k,.int u.n,.str u.s,.sl (u.as.map Tm.row)]=some (0,[.bool (eqb t.row u.row)]):=Tm.ind fun t ih u h=>by
 have hlt:=h.len;show rn _ _=_
 rw [e207_0_0];have hq:eqb t.row u.row=(decide (t.k=u.k)&&(decide (t.n=u.n)&&(decide (t.s=u.s)&&eqb (t.as.map Tm.row) (u.as.map Tm.row)))):=by
  rw [Tm.row_eq t,Tm.row_eq u];simp only [eqb_cons,eqb_nil,eqb_int,eqb_str,eqb_sl,N0]
 rw [hq];try simp only [B6]
 have hl:rn ⟨212,0,0⟩ [.sl (t.as.map Tm.row),.sl (u.as.map Tm.row)]=some (0,[.bool (eqb (t.as.map Tm.row) (u.as.map Tm.row))]):=by
  rw [e212_0_0];simp only [B6];by_cases l0:u.as.length≠t.as.length
  · rw [H8 (by omega:¬(t.as.length:Int)=(u.as.length:Int)),eqb_len (fun h=>l0 (by simpa using h.symm))]; rfl
  have l0:=Classical.not_not.1 l0;rw [H7 (by omega:(t.as.length:Int)=(u.as.length:Int))]
  have hf:=eq_loop (F:=fun i=>rn ⟨212,0,1⟩ [.sl (u.as.map Tm.row),.sl (t.as.map Tm.row),.int ((t.as.map Tm.row)).length,.int (i:Int)]) (xs:=t.as.map Tm.row) (ys:=u.as.map Tm.row) (A:=some (0,[])) (B:=some (1,[])) (by simpa using l0) (fun i hi=>?_) ?_
  · simp only [C3,B6] at hf
    rw [hf];cases eqb (t.as.map Tm.row) (u.as.map Tm.row) <;> rfl
  · have hi:i<t.as.length:=by simpa using hi
    have hi2:i<u.as.length:=by omega
    have hc:=ih _ (C2 hi) u.as[i] (h.sub (C2 hi));rw [e212_0_1];rw [N9,N9];generalize eqb t.as[i].row u.as[i].row=z at hc ⊢;simp only [B8,rowAt_map hi,rowAt_map hi2,Tm.row_eq,B6,inbN,hi,hi2,C0,H3,H1,nth,D9,E2,D.I,D.S,D.L,D.B,wrap_succ hi (by unfold maxLen; omega),B5,hc]
    cases z <;> rfl
  · skip
    rw [e212_0_1];simp
 simp only [hl,B5,nth,D9,E2,D.I,D.S,D.L,D.B];cases decide (t.k=u.k) <;> cases decide (t.n=u.n) <;> cases decide (t.s=u.s) <;> rfl
theorem r208 (g:Gu) (h:g.ok):rn ⟨208,0,0⟩ [.int g.k,.int g.l.k,.int g.l.n,.str g.l.s,.sl (g.l.as.map Tm.row),.int g.r.k,.int g.r.n,.str g.r.s,.sl (g.r.as.map Tm.row)]=some (0,[.bool (holds g)]):=by
 show rn _ _=_
 rw [e208_0_0];obtain ⟨hl,hr⟩:=h;have sl:=small_of _ hl;have sr:=small_of _ hr;have hl':=G6 (rW_nodes g.l) hl;have hr':=G6 (rW_nodes g.r) hr;have a1:=r213 g.l hl;have a2:=r213 g.r hr;have b1:=r138 g.l sl;have b2:=r138 g.r sr;have c1:=r207 (rW g.l) (rW g.r) (rW_small _ sl);have d1:=r137 (rW g.l);have d2:=r137 (rW g.r);simp only [a1,a2,b1,b2,c1,d1,d2,B5,nth,D9,E2,D.I,D.S,D.L,D.B];unfold holds;cases isG g.l
 · rfl
 cases isG g.r
 · rfl
 simp only [D8,H2,F4];by_cases k1:g.k=1
 · rw [H5 k1,H7 k1]; rfl
 rw [H6 k1,H8 k1];by_cases k2:g.k=2
 · rw [H5 k2,H7 k2]; rfl
 rw [H6 k2,H8 k2];by_cases k3:g.k=3
 · rw [H5 k3,H7 k3]
   cases isW (rW g.l) <;> cases isW (rW g.r) <;> rfl
 · rw [H6 k3,H8 k3]; rfl
theorem r157 (g:Gu) (h:g.ok):rn ⟨157,0,0⟩ [.int g.k,.int g.l.k,.int g.l.n,.str g.l.s,.sl (g.l.as.map Tm.row),.int g.r.k,.int g.r.n,.str g.r.s,.sl (g.r.as.map Tm.row)]=some (0,[.bool (holds g)]):=by
 show rn _ _=_
 rw [e157_0_0];obtain ⟨hl,hr⟩:=h;have sl:=small_of _ hl;have sr:=small_of _ hr;have hl':=G6 (rW_nodes g.l) hl;have hr':=G6 (rW_nodes g.r) hr;have a1:=r109 (rW g.l) hl';have a2:=r109 (rW g.r) hr';have b1:=r54 g.l sl;have b2:=r54 g.r sr;have c1:=r13 (rW g.l) (rW g.r) (rW_small _ sl);have d1:=r104 (rW g.l);have d2:=r104 (rW g.r);simp only [a1,a2,b1,b2,c1,d1,d2,B5,nth,D9,E2,D.I,D.S,D.L,D.B];unfold holds;rw [isG_rW,isG_rW];cases isG g.l
 · rfl
 cases isG g.r
 · rfl
 simp only [D8,H2,F4];by_cases k1:g.k=1
 · rw [H5 k1,H7 k1]; rfl
 rw [H6 k1,H8 k1];by_cases k2:g.k=2
 · rw [H5 k2,H7 k2]; rfl
 rw [H6 k2,H8 k2];by_cases k3:g.k=3
 · rw [H5 k3,H7 k3]
   cases isW (rW g.l) <;> cases isW (rW g.r) <;> rfl
 · rw [H6 k3,H8 k3]; rfl
theorem r209 (l:List Bnd) (hl:l.length<=1048576) (hs:∀ b∈l,Small b.2) (g:Gu) (h:g.ok):rn ⟨209,0,0⟩ [.sl (l.map Bnd.row),.int g.k,.int g.l.k,.int g.l.n,.str g.l.s,.sl (g.l.as.map Tm.row),.int g.r.k,.int g.r.n,.str g.r.s,.sl (g.r.as.map Tm.row)]=some (0,[.int (appG l g).k,.int (appG l g).l.k,.int (appG l g).l.n,.str (appG l g).l.s,.int (appG l g).r.k,.int (appG l g).r.n,.str (appG l g).r.s,.sl ((appG l g).l.as.map Tm.row),.sl ((appG l g).r.as.map Tm.row)]):=by
 show rn _ _=_
 rw [e209_0_0];have a1:=r139 l hl hs g.l (small_of _ h.1);have a2:=r139 l hl hs g.r (small_of _ h.2);simp only [a1,a2,B5,nth,D9,E2,D.I,D.S,D.L,D.B];rfl
theorem r158 (l:List Bnd) (hl:l.length<=1048576) (hs:∀ b∈l,Small b.2) (g:Gu) (h:g.ok):rn ⟨158,0,0⟩ [.sl (l.map Bnd.row),.int g.k,.int g.l.k,.int g.l.n,.str g.l.s,.sl (g.l.as.map Tm.row),.int g.r.k,.int g.r.n,.str g.r.s,.sl (g.r.as.map Tm.row)]=some (0,[.int (appG l g).k,.int (appG l g).l.k,.int (appG l g).l.n,.str (appG l g).l.s,.int (appG l g).r.k,.int (appG l g).r.n,.str (appG l g).r.s,.sl ((appG l g).l.as.map Tm.row),.sl ((appG l g).r.as.map Tm.row)]):=by
 show rn _ _=_
 rw [e158_0_0];have a1:=r55 l hl hs g.l (small_of _ h.1);have a2:=r55 l hl hs g.r (small_of _ h.2);simp only [a1,a2,B5,nth,D9,E2,D.I,D.S,D.L,D.B];rfl
theorem gu_row (g:Gu):g.row=[.int g.k,.int g.l.k,.int g.l.n,.str g.l.s,.sl (g.l.as.map Tm.row),.int g.r.k,.int g.r.n,.str g.r.s,.sl (g.r.as.map Tm.row)]:=rfl
theorem cnt4_nat (n:Nat):((cnt4 n).toNat:Int)=cnt4 n/\(cnt4 n).toNat<=64:=by have:=cnt4_le n; omega
theorem r126 (vars:List ByteArray) (gs:List Gu) (hg:gs.length<=1048576) (h:∀ g∈gs,g.ok):rn ⟨126,0,0⟩ [.sl (vars.map sRow),.sl (gs.map Gu.row)]=some (0,[.sl ((allC vars gs).map nRow)]):=by
 have hN:=cnt4_nat vars.length;have a1:=r22 vars.length;have hin:∀ (c:Int) (acc:Rows),rn ⟨126,0,3⟩ [.sl (vars.map sRow),.sl (gs.map Gu.row),.int (cnt4 vars.length),.int c,.bool true,.int 0,.sl acc]=some (0,[.sl (vars.map sRow),.sl (gs.map Gu.row),.int (cnt4 vars.length),.int c,.bool (holdsIn vars gs c),.sl acc]):=fun c acc=>by
  have hf:=flag_loop (F:=fun i b=>rn ⟨126,0,3⟩ [.sl (vars.map sRow),.sl (gs.map Gu.row),.int (cnt4 vars.length),.int c,.bool b,.int (i:Int),.sl acc]) (xs:=gs) (p:=fun g=>holds (appG (caseS vars c) g)) (A:=fun b=>some (0,[.sl (vars.map sRow),.sl (gs.map Gu.row),.int (cnt4 vars.length),.int c,.bool b,.sl acc])) (fun i hi b=>?_) (fun b=>?_)
  · simp only [C3] at hf
    rw [hf]; rfl
  · have hss:∀ b∈caseS vars c,Small b.2:=caseS_small vars c
    have hgi:=h _ (C2 hi);have b1:=r56 vars c;have b2:=r158 (caseS vars c) (caseS_len ..) hss gs[i] hgi;have b3:=r157 (appG (caseS vars c) gs[i]) (appG_ok (caseS_nodes _ _) hgi);rw [e126_0_3];simp only [B8,rowAt_map hi,gu_row,B6,inbN,hi,C0,H3,H1,nth,D9,E2,D.I,D.S,D.L,D.B,wrap_succ hi (by unfold maxLen; omega),B5,b1,b2,b3]
    cases b <;> rfl
  · skip
    rw [e126_0_3];simp
 show rn _ _=_
 rw [e126_0_0];have hf:=filter_loop (F:=fun i acc=>rn ⟨126,0,1⟩ [.sl (vars.map sRow),.sl (gs.map Gu.row),.int (cnt4 vars.length),.int (i:Int),.sl acc]) (N:=(cnt4 vars.length).toNat) (p:=fun c=>holdsIn vars gs (c:Int)) (g:=nRow) (K:=fun acc=>some (0,[.sl acc])) (fun i acc hi ha=>?_) (fun acc=>?_)
 · simp only [C3] at hf a1
   simp only [B6,a1,B5,nth,D9,E2,D.I,D.S,D.L,D.B];rw [hf]; rfl
 · skip
   rw [e126_0_1];rw [H7 (by omega:(i:Int)<cnt4 vars.length),hin]
   simp only [H1,B5,E1,nth,D9,E2,D.I,D.S,D.L,D.B,C1,C7,wrap_succ hi (by unfold maxLen; omega)]
   rw [show E9 (acc.length+(0+1)) M63=true from E7 (by unfold M63; omega)]
   cases holdsIn vars gs (i:Int) <;> rfl
 · skip
   rw [e126_0_1];rw [H8 (by omega:¬((cnt4 vars.length).toNat:Int)<cnt4 vars.length)]; rfl
end Go.Q.S
end
section
namespace Go.Q.S
open Go Go.Q Go.Proofs
theorem r39 (vs cs0 cs:Rows) (t:Tm) (h:Small t) (h1:vs.length<=274877906944) (h2:cs.length<=274877906944):rn ⟨39,0,0⟩ [.sl vs,.int t.k,.int t.n,.str t.s,.sl (t.as.map Tm.row),.sl cs0,.sl cs]=some (0,[.int t.k,.int t.n,.str t.s,.sl vs,.sl (t.as.map Tm.row),.sl cs]):=by
 rw [e39_0_0];simp only [rCloneS vs h1,rCloneI cs h2,r86 t h,nth0,nth1,nth2,nth3,nth4,nth5,nth6,nth7,nth8,nth9,nth10,nth11,nth12,nth13,nth14,nth15,nth16,nth17,nth18,nth19,nth20,nth21,nth22,nth23,nth24,nth25,dI,dB,dS,dL,B5]
end Go.Q.S
end
section
namespace Go.Q.S
open Go Go.Q Go.Proofs
theorem qlt (a c:Nat):decide ((c:Int)<(a:Int))=!decide (a<=c):=by by_cases h:a<=c <;> simp [h] <;> omega
theorem qle (a c:Nat):decide ((c:Int)<=(a:Int))=decide (c<=a):=by by_cases h:c<=a <;> simp [h] <;> omega
theorem maxB {n:Nat} (h:n<=1099511627776):n<=maxLen:=by unfold maxLen; omega
theorem nb {n m:Nat} (h:n+m<=274877906944):E9 (n+m) M63=true:=E7 h
theorem r177 (c:Nat):rn ⟨177,0,0⟩ [.int (c:Int)]=some (0,[.bool (decide (97<=c)&&decide (c<=122))]):=by
 rw [e177_0_0,show decide ((97:Int)<=(c:Int))=decide (97<=c) from qle c 97,show decide ((c:Int)<=122)=decide (c<=122) from qle 122 c]
 cases decide (97<=c) <;> rfl
theorem r181 (c:Nat):rn ⟨181,0,0⟩ [.int (c:Int)]=some (0,[.bool (decide (48<=c)&&decide (c<=57))]):=by
 rw [e181_0_0,show decide ((48:Int)<=(c:Int))=decide (48<=c) from qle c 48,show decide ((c:Int)<=57)=decide (c<=57) from qle 57 c]
 cases decide (48<=c) <;> rfl
theorem rIn (a b c:Int):rn ⟨19,0,0⟩ [.int a,.int b,.int c]=some (0,[.bool (decide (b<=a)&&decide (a<=c))]):=r19 a b c
theorem r72 (s:ByteArray) (hs:s.size<=maxLen) (lo hi:Nat):rn ⟨72,0,0⟩ [.str s,.int (lo:Int),.int (hi:Int)]=some (0,[.bool (nameK lo hi s.data.toList)]):=by
 have hz:=size_list s;have hl:∀ n i,i+n=s.data.toList.length->rn ⟨72,0,1⟩ [.str s,.int (i:Int)]=bif (s.data.toList.drop i).all lowB then some (0,[]) else some (1,[]):=by
  intro n;induction n with
  | zero =>
   intro i hi;obtain rfl:i=s.data.toList.length:=by omega
   rw [e72_0_1];simp only [hz,B6,C0,D5,H4,H2,C8,N1,H1]
  | succ n ih =>
   intro i hi;have hlt:i<s.data.toList.length:=by omega
   rw [e72_0_1,B9 hlt];simp only [hz,C0,hlt,H3,H1,inbN,B8,wrap_succ hlt (by omega),get_list hlt,J6,ih (i+1) (by omega),lowB]
   generalize s.data.toList[i].toNat=c;rw [show decide ((c:Int)<97)=!decide (97<=c) from qlt 97 c,show decide ((c:Int)<48)=!decide (48<=c) from qlt 48 c,show decide ((57:Int)<(c:Int))=!decide (c<=57) from qlt c 57,show decide ((122:Int)<(c:Int))=!decide (c<=122) from qlt c 122]
   cases decide (97<=c) <;> cases decide (c<=122) <;> cases decide (48<=c) <;> cases decide (c<=57) <;> simp
 have h1:=hl (s.data.toList.length-1) 1;rw [e72_0_0];have hg:∀ h:0<s.data.toList.length,s.get! 0=s.data.toList[0]:=fun h=>get_list h
 rw [hz] at hs;rw [hz];generalize s.data.toList=l at hs hz hl h1 hg ⊢;cases l with
 | nil=>rfl
 | cons b r =>
  have e0:=hg (by simp)
  have e1:=h1 (by simp; omega)
  simp only [P2,D1] at e1;rw [show ((1:Nat):Int)=1 from rfl] at e1
  have hn:¬(((b::r).length:Nat):Int)<1:=by simp only [C1]; omega
  have hi0:inb 0 (b::r).length=true:=by simp [inb]
  rw [show decide ((8:Int)<(((b::r).length:Nat):Int))=!decide ((b::r).length<=8) from qlt _ 8]
  simp only [H8 hn,H2,hi0,H1,show O5 0=0 from rfl,e0,R9,e1,nameK]
  rw [qlt lo b.toNat,qlt b.toNat hi];cases decide ((b::r).length<=8) <;> cases decide (lo<=b.toNat) <;> cases decide (b.toNat<=hi) <;> cases r.all lowB <;> first | rfl | (simp; done) | (simp; rfl)
theorem r128 (s:ByteArray) (hs:s.size<=maxLen):rn ⟨128,0,0⟩ [.str s]=some (0,[.bool (isNm s)]):=by
 have h:=r72 s hs 97 122;rw [e128_0_0];simp only [show ((97:Nat):Int)=97 from rfl,show ((122:Nat):Int)=122 from rfl] at h
 simp only [h,nv0,nvS,dvI,dvB,dvS,dvL,B5]; rfl
theorem r32 (s:ByteArray) (hs:s.size<=maxLen):rn ⟨32,0,0⟩ [.str s]=some (0,[.bool (isVr s)]):=by
 have h:=r72 s hs 65 90;rw [e32_0_0];simp only [show ((65:Nat):Int)=65 from rfl,show ((90:Nat):Int)=90 from rfl] at h
 simp only [h,nv0,nvS,dvI,dvB,dvS,dvL,B5]; rfl
theorem r152 (s:ByteArray) (hs:s.size<=maxLen):rn ⟨152,0,0⟩ [.str s]=some (0,[.bool ((s.data.toList.drop 1).all lowB&&(decide (1<=s.data.toList.length)&&decide (s.data.toList.length<=8)))]):=by
 have hz:=size_list s;have hl:∀ n i,i+n=s.data.toList.length->rn ⟨152,0,1⟩ [.str s,.int (i:Int)]=bif (s.data.toList.drop i).all lowB then some (0,[.str s]) else some (1,[]):=by
  intro n;induction n with
  | zero =>
   intro i hi;obtain rfl:i=s.data.toList.length:=by omega
   rw [e152_0_1];simp only [hz,B6,C0,D5,H4,H2,C8,N1,H1]
  | succ n ih =>
   intro i hi;have hlt:i<s.data.toList.length:=by omega
   rw [e152_0_1,B9 hlt];simp only [hz,C0,hlt,H3,H1,inbN,B8,wrap_succ hlt (by omega),get_list hlt,J6,ih (i+1) (by omega),lowB,r177,r181,nv0,nvS,dvI,dvB,dvS,dvL,B5]
   generalize s.data.toList[i].toNat=c;cases decide (97<=c) <;> cases decide (c<=122) <;> cases decide (48<=c) <;> cases decide (c<=57) <;> simp
 rw [e152_0_0];have hlen:decide ((1:Int)<=(s.data.toList.length:Int))=decide (1<=s.data.toList.length):=qle s.data.toList.length 1;have hlen8:decide ((s.data.toList.length:Int)<=8)=decide (s.data.toList.length<=8):=qle 8 s.data.toList.length;by_cases h0:s.data.toList.length=0
 · have e:rn ⟨152,0,1⟩ [.str s,.int 1]=some (0,[.str s]):=by
    rw [e152_0_1];rw [H8 (show ¬(1:Int)<(s.size:Int) by rw [hz]; omega)]; rfl
   simp only [e,nv0,nvS,dvI,dvB,dvS,dvL,B5,E1,H1,H2,rIn,hz,hlen,hlen8];have:s.data.toList=[]:=F6.1 h0;rw [this]; rfl
 · have h1:=hl (s.data.toList.length-1) 1 (by omega)
   rw [show ((1:Nat):Int)=1 from rfl] at h1
   rw [h1];cases (s.data.toList.drop 1).all lowB with
   | true=>simp only [nv0,nvS,dvI,dvB,dvS,dvL,B5,E1,H1,H2,rIn,hz,hlen,hlen8,F4]
   | false=>rfl
theorem r147 (s:ByteArray) (hs:s.size<=maxLen):rn ⟨147,0,0⟩ [.str s]=some (0,[.bool (isNm s)]):=by
 have hr:=r152 s hs;have hz:=size_list s;rw [e147_0_0];have he:decide (s=(⟨#[]⟩:ByteArray))=decide (s.data.toList=[]):=decide_eq_decide.2 (nil_list s);have hg:∀ h:0<s.data.toList.length,s.get! 0=s.data.toList[0]:=fun h=>get_list h
 rw [he,hz];unfold isNm;generalize s.data.toList=l at hr hz hg ⊢;cases l with
 | nil=>rfl
 | cons b r =>
  have e0:=hg (by simp)
  have hi0:inb 0 (r.length+1)=true:=by simp [inb]
  simp only [show O5 0=0 from rfl,e0,R9,C1,hi0,H1,H8 (List.cons_ne_nil b r),K0,r177,nv0,nvS,dvI,dvB,dvS,dvL,B5,hr,nameK,P2,D1,C1]
  have:decide (1<=r.length+1)=true:=by simp
  rw [this];cases decide (97<=b.toNat) <;> cases decide (b.toNat<=122) <;> cases r.all lowB <;> cases decide (r.length+1<=8) <;> rfl
theorem r92 (s:ByteArray) (hs:s.size<=maxLen):rn ⟨92,0,0⟩ [.str s]=some (0,[.bool (isVr s)]):=by
 have hr:=r152 s hs;have hz:=size_list s;rw [e92_0_0];have he:decide (s=(⟨#[]⟩:ByteArray))=decide (s.data.toList=[]):=decide_eq_decide.2 (nil_list s);have hg:∀ h:0<s.data.toList.length,s.get! 0=s.data.toList[0]:=fun h=>get_list h
 rw [he,hz];unfold isVr;generalize s.data.toList=l at hr hz hg ⊢;cases l with
 | nil=>rfl
 | cons b r =>
  have e0:=hg (by simp)
  have hi0:inb 0 (r.length+1)=true:=by simp [inb]
  simp only [show O5 0=0 from rfl,e0,R9,C1,hi0,H1,H8 (List.cons_ne_nil b r),K0,nv0,nvS,dvI,dvB,dvS,dvL,B5,hr,nameK,P2,D1,C1]
  have:decide (1<=r.length+1)=true:=by simp
  rw [this,show decide ((65:Int)<=(b.toNat:Int))=decide (65<=b.toNat) from qle b.toNat 65,show decide ((b.toNat:Int)<=90)=decide (b.toNat<=90) from qle 90 b.toNat]
  cases decide (65<=b.toNat) <;> cases decide (b.toNat<=90) <;> cases r.all lowB <;> cases decide (r.length+1<=8) <;> rfl
theorem r73:∀ t:Tm,t.nodes<=2097152->rn ⟨73,0,0⟩ [.int t.k,.int t.n,.str t.s,.sl (t.as.map Tm.row)]=some (0,[.int (t.nodes:Int)]):=Tm.ind fun t ih h=>by
 have hnd:=Tm.nodes_eq t;have hls:=len_sum (xs:=t.as);have hl:∀ n i (c:Nat),i+n=t.as.length->c+((t.as.drop i).map Tm.nodes).sum<=2097152->rn ⟨73,0,1⟩ [.int (c:Int),.sl (t.as.map Tm.row),.int (t.as.length:Int),.int (i:Int)]=some (0,[.int ((c+((t.as.drop i).map Tm.nodes).sum:Nat):Int)]):=by
  intro n;induction n with
  | zero =>
   intro i c hi hc;obtain rfl:i=t.as.length:=by omega
   rw [e73_0_1];simp only [B6,C0,D5,H4,H2,C8,D4,List.sum_nil,O1]
  | succ n ih2 =>
   intro i c hi hc;have hlt:i<t.as.length:=by omega
   rw [B9 hlt] at hc ⊢;simp only [C6,J7] at hc ⊢;rw [e73_0_1];have h1:=ih _ (C2 hlt) (by omega)
   simp only [B6,C0,hlt,H3,H1,inbN,B8,rowAt_map hlt,wrap_succ hlt (maxB (by omega)),Tm.row_eq,nv0,nvS,dvI,dvB,dvS,dvL,B5,h1]
   rw [IntWalk.i64_in _ (by omega),show ((c:Int)+(t.as[i].nodes:Int))=((c+t.as[i].nodes:Nat):Int) by omega,ih2 (i+1) _ (by omega) (by omega),Nat.add_assoc]
 rw [e73_0_0];have:=hl t.as.length 0 1 (by omega) (by rw [D1]; omega)
 rw [D1,<- hnd] at this;simp only [B6,show ((1:Nat):Int)=1 from rfl,C3] at this ⊢
 simp only [this,nv0,nvS,dvI,dvB,dvS,dvL,B5,E1,H1,H2]
theorem dstep (a b:Nat):(bif decide (b<a) then (a:Int) else (b:Int))=((max b a:Nat):Int):=by
 by_cases h:b<a
 · rw [H7 h,H1]; omega
 · rw [H8 h,H2]; omega
theorem r74:∀ t:Tm,t.nodes<=2097152->rn ⟨74,0,0⟩ [.int t.k,.int t.n,.str t.s,.sl (t.as.map Tm.row)]=some (0,[.int (t.depth:Int)]):=Tm.ind fun t ih h=>by
 have hnd:=Tm.nodes_eq t;have hls:=len_sum (xs:=t.as);have hdn:=Tm.depth_nodes t;have hde:=Tm.depth_eq t;have hl:∀ n i (c:Nat),i+n=t.as.length->rn ⟨74,0,1⟩ [.int (c:Int),.sl (t.as.map Tm.row),.int (t.as.length:Int),.int (i:Int)]=some (0,[.int ((max c (Tm.depthL (t.as.drop i)):Nat):Int)]):=by
  intro n;induction n with
  | zero =>
   intro i c hi;obtain rfl:i=t.as.length:=by omega
   rw [e74_0_1];simp only [B6,C0,D5,H4,H2,C8,Tm.depthL,Nat.max_zero]
  | succ n ih2 =>
   intro i c hi;have hlt:i<t.as.length:=by omega
   rw [B9 hlt];have hm:=mem_sum (f:=Tm.nodes) (C2 hlt);have h1:=ih _ (C2 hlt) (by omega)
   rw [e74_0_1];simp only [B6,C0,hlt,H3,H1,inbN,B8,rowAt_map hlt,wrap_succ hlt (maxB (by omega)),Tm.row_eq,nv0,nvS,dvI,dvB,dvS,dvL,B5,h1]
   rw [dstep,ih2 (i+1) _ (by omega)]
   simp only [Tm.depthL,Nat.max_assoc]
 rw [e74_0_0];have:=hl t.as.length 0 0 (by omega)
 rw [D1,Nat.zero_max] at this;simp only [B6,C3] at this ⊢;simp only [this,nv0,nvS,dvI,dvB,dvS,dvL,B5,E1,H1,H2];rw [IntWalk.i64_in _ (by omega),hde]; rfl
theorem r112 (a b:Nat):rn ⟨112,0,0⟩ [.int (a:Int),.int (b:Int)]=some (0,[.int ((max a b:Nat):Int)]):=by
 rw [e112_0_0];by_cases h:(b:Int)<(a:Int)
 · rw [H7 h,H1,show max a b=a by omega]
 · rw [H8 h,H2,show max a b=b by omega]
theorem r94:∀ t:Tm,t.nodes<=2097152->rn ⟨94,0,0⟩ [.int t.k,.int t.n,.str t.s,.sl (t.as.map Tm.row)]=some (0,[.int (t.depth:Int)]):=Tm.ind fun t ih h=>by
 have hnd:=Tm.nodes_eq t;have hls:=len_sum (xs:=t.as);have hdn:=Tm.depth_nodes t;have hde:=Tm.depth_eq t;have hl:∀ n i (c:Nat),i+n=t.as.length->rn ⟨94,0,1⟩ [.int (c:Int),.int (i:Int),.int t.k,.int t.n,.str t.s,.sl (t.as.map Tm.row)]=some (0,[.int ((max c (Tm.depthL (t.as.drop i)):Nat):Int)]):=by
  intro n;induction n with
  | zero =>
   intro i c hi;obtain rfl:i=t.as.length:=by omega
   rw [e94_0_1];simp only [B6,C0,D5,H4,H2,C8,Tm.depthL,Nat.max_zero]
  | succ n ih2 =>
   intro i c hi;have hlt:i<t.as.length:=by omega
   rw [B9 hlt];have hm:=mem_sum (f:=Tm.nodes) (C2 hlt);have h1:=ih _ (C2 hlt) (by omega)
   rw [e94_0_1];simp only [B6,C0,hlt,H3,H1,inbN,B8,rowAt_map hlt,wrap_succ hlt (maxB (by omega)),Tm.row_eq,nv0,nvS,dvI,dvB,dvS,dvL,B5,h1,r112]
   have h2:=ih2 (i+1) (max c t.as[i].depth) (by omega)
   rw [h2];simp only [Tm.depthL,Nat.max_assoc]
 rw [e94_0_0];have:=hl t.as.length 0 0 (by omega)
 rw [D1,Nat.zero_max] at this;simp only [C3] at this ⊢;simp only [this,nv0,nvS,dvI,dvB,dvS,dvL,B5,E1,H1,H2];rw [IntWalk.i64_in _ (by omega),hde]; rfl
def leftI (n left:Nat):Int:=if n<=left then ((left-n:Nat):Int) else -1
theorem leftI_add {a b c:Nat} (h:a<=c):leftI b (c-a)=leftI (a+b) c:=by
 unfold leftI;by_cases hb:b<=c-a
 · rw [H5 hb,H5 (by omega),Nat.sub_sub]
 · rw [H6 hb,H6 (by omega)]
theorem r93:∀ t:Tm,∀ left:Nat,t.nodes<=2097152->left<=1048576->rn ⟨93,0,0⟩ [.int t.k,.int t.n,.str t.s,.sl (t.as.map Tm.row),.int (left:Int)]=some (0,[.int (leftI t.nodes left)]):=Tm.ind fun t ih left h hle=>by
 have hnd:=Tm.nodes_eq t;have hls:=len_sum (xs:=t.as);have hl:∀ n i (c:Nat),i+n=t.as.length->c<=1048576->rn ⟨93,0,1⟩ [.int (c:Int),.int (i:Int),.int t.k,.int t.n,.str t.s,.sl (t.as.map Tm.row)]=some (0,[.int (leftI ((t.as.drop i).map Tm.nodes).sum c)]):=by
  intro n;induction n with
  | zero =>
   intro i c hi hc;obtain rfl:i=t.as.length:=by omega
   rw [e93_0_1];simp only [B6,C0,D5,H4,H2,C8,D4,List.sum_nil,leftI,J9,if_true,Nat.sub_zero]
  | succ n ih2 =>
   intro i c hi hc;have hlt:i<t.as.length:=by omega
   rw [B9 hlt];rw [e93_0_1];have h1:=ih _ (C2 hlt) c (by have:=mem_sum (f:=Tm.nodes) (C2 hlt); omega) hc
   have hc0:(0:Int)<=(c:Int):=by omega
   simp only [B6,C0,hlt,H3,H1,inbN,B8,rowAt_map hlt,wrap_succ hlt (maxB (by omega)),Tm.row_eq,nv0,nvS,dvI,dvB,dvS,dvL,B5,h1,hc0]
   simp only [C6,J7];by_cases hq:t.as[i].nodes<=c
   · have e:leftI t.as[i].nodes c=((c-t.as[i].nodes:Nat):Int):=H5 hq
     rw [e,ih2 (i+1) _ (by omega) (by omega),leftI_add hq]
   · have e:leftI t.as[i].nodes c=-1:=H6 hq
     have e2:leftI (t.as[i].nodes+((t.as.drop (i+1)).map Tm.nodes).sum) c=-1:=H6 (by omega)
     rw [e,e2,e93_0_1];have hneg:¬(0:Int)<=-1:=by decide
     simp only [hneg,H4,H2];cases decide (((i+1:Nat):Int)<((t.as.map Tm.row).length:Int)) <;> rfl
 rw [e93_0_0,IntWalk.i64_in _ (by omega)]
 by_cases hz:left=0
 · subst hz
   have e:leftI t.nodes 0=-1:=H6 (by omega)
   have hneg:¬(0:Int)<=-1:=by decide
   have e2:rn ⟨93,0,1⟩ [.int (((0:Nat):Int)-1),.int 0,.int t.k,.int t.n,.str t.s,.sl (t.as.map Tm.row)]=some (0,[.int (-1)]):=by
    rw [e93_0_1];simp only [show (((0:Nat):Int)-1)=-1 from rfl,hneg,H4,H2]
    cases decide ((0:Int)<((t.as.map Tm.row).length:Int)) <;> rfl
   rw [e2,e]; rfl
 · have:=hl t.as.length 0 (left-1) (by omega) (by omega)
   rw [D1] at this;rw [show (left:Int)-1=((left-1:Nat):Int) by omega]
   simp only [C3] at this;simp only [this,nv0,nvS,dvI,dvB,dvS,dvL,B5,E1,H1,H2];rw [leftI_add (by omega),hnd]
end Go.Q.S
end
section
namespace Go.Q.S
open Go Go.Q Go.Proofs
theorem r75:∀ t:Tm,Wt t->rn ⟨75,0,0⟩ [.int t.k,.int t.n,.str t.s,.sl (t.as.map Tm.row)]=some (0,[.bool t.areN]):=Tm.ind fun t ih h=>by
 have hlm:=h.l;have hl:∀ n i,i+n=t.as.length->rn ⟨75,0,2⟩ [.sl (t.as.map Tm.row),.int (t.as.length:Int),.int (i:Int)]=bif Tm.areNL (t.as.drop i) then some (0,[]) else some (1,[]):=by
  intro n;induction n with
  | zero =>
   intro i hi;obtain rfl:i=t.as.length:=by omega
   rw [e75_0_2];simp only [B6,C0,D5,H4,H2,C8,Tm.areNL,H1]
  | succ n ih2 =>
   intro i hi;have hlt:i<t.as.length:=by omega
   rw [e75_0_2,B9 hlt];have h1:=ih _ (C2 hlt) (h.sub (C2 hlt));simp only [B6,C0,hlt,H3,H1,inbN,B8,rowAt_map hlt,wrap_succ hlt hlm,Tm.row_eq,nv0,nvS,dvI,dvB,dvS,dvL,B5,h1,ih2 (i+1) (by omega),Tm.areNL]
   cases t.as[i].areN <;> simp
 have h0:=hl t.as.length 0 (by omega)
 rw [D1] at h0;rw [e75_0_0,Tm.areN_eq];simp only [B6,C3] at h0 ⊢;simp only [h0,r32 t.s h.s,r137 t,r128 t.s h.s,nv0,nvS,dvI,dvB,dvS,dvL,B5];unfold Tm.nodeN;have hz:decide ((t.as.length:Int)=0)=decide (t.as.length=0):=by simp
 by_cases h1:t.k=1
 · rw [H7 h1,H5 h1,hz]
   by_cases h2:t.as.length=0
   · have:t.as=[]:=F6.1 h2
     rw [H7 h2,this];simp only [Tm.areNL,H1,N0,F4];cases decide (t.n=0) <;> cases isVr t.s <;> rfl
   · rw [H8 h2]
     cases decide (t.n=0) <;> rfl
 · rw [H8 h1,H6 h1]
   by_cases h3:t.k=3
   · rw [H7 h3,H5 h3]
     cases hw:isW t with
     | false=>rfl
     | true =>
      have:t.as=[]:=by simp only [isW,B7,decide_eq_true_eq] at hw; exact F6.1 hw.2.2.2.2
      rw [this]; rfl
   · rw [H8 h3,H6 h3]
     by_cases h2:t.k=2
     · rw [H7 h2,H5 h2]
       cases decide (t.n=0) <;> cases isNm t.s <;> cases Tm.areNL t.as <;> rfl
     · rw [H8 h2,H6 h2]; rfl
theorem r153 (t:Tm) (h:Wt t):rn ⟨153,0,0⟩ [.int t.k,.int t.n,.str t.s,.sl (t.as.map Tm.row)]=some (0,[.bool t.nodeN]):=by
 rw [e153_0_0];have hz:decide ((t.as.length:Int)=0)=decide (t.as.length=0):=by simp
 simp only [B6,r92 t.s h.s,r147 t.s h.s,nv0,nvS,dvI,dvB,dvS,dvL,B5,rIn,hz];unfold Tm.nodeN;by_cases h1:t.k=1
 · rw [H7 h1,H5 h1]
   cases decide (t.n=0) <;> cases isVr t.s <;> cases decide (t.as.length=0) <;> rfl
 · rw [H8 h1,H6 h1]
   by_cases h2:t.k=2
   · rw [H7 h2,H6 (by omega),H5 h2]
     cases decide (t.n=0) <;> cases isNm t.s <;> rfl
   · rw [H8 h2]
     by_cases h3:t.k=3
     · rw [H7 h3,H5 h3]
       unfold isW;have e2:decide (t.n<=3)=decide (t.n<4):=decide_eq_decide.2 (by omega)
       rw [H7 h3,e2];cases decide (t.s=(⟨#[]⟩:ByteArray)) <;> cases decide (0<=t.n) <;> cases decide (t.n<4) <;> cases decide (t.as.length=0) <;> rfl
     · rw [H8 h3,H6 h3,H6 h2]; rfl
theorem r95:∀ t:Tm,Wt t->rn ⟨95,0,0⟩ [.int t.k,.int t.n,.str t.s,.sl (t.as.map Tm.row)]=some (0,[.bool t.areN]):=Tm.ind fun t ih h=>by
 have hlm:=h.l;have hl:∀ n i,i+n=t.as.length->rn ⟨95,0,1⟩ [.int (i:Int),.int t.k,.int t.n,.str t.s,.sl (t.as.map Tm.row)]=bif Tm.areNL (t.as.drop i) then some (0,[.int t.k,.int t.n,.str t.s,.sl (t.as.map Tm.row)]) else some (1,[]):=by
  intro n;induction n with
  | zero =>
   intro i hi;obtain rfl:i=t.as.length:=by omega
   rw [e95_0_1];simp only [B6,C0,D5,H4,H2,C8,Tm.areNL,H1]
  | succ n ih2 =>
   intro i hi;have hlt:i<t.as.length:=by omega
   rw [e95_0_1,B9 hlt];have h1:=ih _ (C2 hlt) (h.sub (C2 hlt));simp only [B6,C0,hlt,H3,H1,inbN,B8,rowAt_map hlt,wrap_succ hlt hlm,Tm.row_eq,nv0,nvS,dvI,dvB,dvS,dvL,B5,h1,ih2 (i+1) (by omega),Tm.areNL]
   cases t.as[i].areN <;> simp
 have h0:=hl t.as.length 0 (by omega)
 rw [D1] at h0;rw [e95_0_0,Tm.areN_eq];simp only [C3] at h0 ⊢;rw [h0];cases Tm.areNL t.as with
 | true=>simp only [H1,nv0,nvS,dvI,dvB,dvS,dvL,B5,E1,H1,H2,r153 t h,N0]
 | false=>rw [Bool.and_false]; rfl
theorem r33 (t:Tm) (hn:t.nodes<=2097152) (h:Wt t):rn ⟨33,0,0⟩ [.int t.k,.int t.n,.str t.s,.sl (t.as.map Tm.row)]=some (0,[.bool t.valid]):=by
 rw [e33_0_0];simp only [r73 t hn,r74 t hn,r75 t h,nv0,nvS,dvI,dvB,dvS,dvL,B5];unfold Tm.valid;have i1:((t.nodes:Int)<=60)↔t.nodes<=60:=by omega
 have i2:((t.depth:Int)<=16)↔t.depth<=16:=by omega
 by_cases h1:t.nodes<=60 <;> by_cases h2:t.depth<=16 <;> simp [h1,h2,i1,i2]
theorem r44 (t:Tm) (hn:t.nodes<=2097152) (h:Wt t):rn ⟨44,0,0⟩ [.int t.k,.int t.n,.str t.s,.sl (t.as.map Tm.row)]=some (0,[.bool t.valid]):=by
 rw [e44_0_0];have h1:=r93 t 60 hn (by omega)
 rw [show ((60:Nat):Int)=60 from rfl] at h1
 simp only [h1,r94 t hn,r95 t h,nv0,nvS,dvI,dvB,dvS,dvL,B5];have i0:((0:Int)<=leftI t.nodes 60)↔t.nodes<=60:=by
  unfold leftI;split <;> omega
 unfold Tm.valid;have i2:((t.depth:Int)<=16)↔t.depth<=16:=by omega
 by_cases h1:t.nodes<=60 <;> by_cases h2:t.depth<=16 <;> simp [h1,h2,i0,i2]
theorem r31 (l:List ByteArray) (h:l.length<=1048576):rn ⟨31,0,0⟩ [.sl (l.map sRow)]=some (0,[.bool (dis l)]):=by
 rw [e31_0_0];simp only [r71 l (by omega),nv0,nvS,dvI,dvB,dvS,dvL,B5,B6]
 congr 4
 unfold dis;exact decide_eq_decide.2 (by rw [<- srtN_iff]; omega)
def ixS (s:ByteArray):List ByteArray->Nat->Int
 | [],_=>-1
 | x::r,i=>if x=s then (i:Int) else ixS s r (i+1)
theorem ixS_neg (s:ByteArray):∀ (l:List ByteArray) (i:Nat),ixS s l i<0↔s∉l
 | [],i=>by simp [ixS]
 | x::r,i=>by
  unfold ixS;by_cases h:x=s
  · rw [H5 h]; simp [h]
  · rw [H6 h,ixS_neg s r]; simp [Ne.symm h]
theorem r96 (l:List ByteArray) (hl:l.length<=maxLen) (s:ByteArray):rn ⟨96,0,0⟩ [.sl (l.map sRow),.str s]=some (0,[.int (ixS s l 0)]):=by
 have hlp:∀ n i,i+n=l.length->(ixS s (l.drop i) i=-1/\rn ⟨96,0,1⟩ [.sl (l.map sRow),.str s,.int (i:Int)]=some (0,[]))\/rn ⟨96,0,1⟩ [.sl (l.map sRow),.str s,.int (i:Int)]=some (1,[.int (ixS s (l.drop i) i)]):=by
  intro n;induction n with
  | zero =>
   intro i hi;obtain rfl:i=l.length:=by omega
   rw [e96_0_1];simp only [B6,C0,D5,H4,H2,C8,ixS];exact .inl ⟨trivial,trivial⟩
  | succ n ih =>
   intro i hi;have hlt:i<l.length:=by omega
   rw [e96_0_1,B9 hlt];simp only [B6,C0,hlt,H3,H1,inbN,B8,rowAt_map hlt,wrap_succ hlt hl,sRow,nv0,nvS,dvI,dvB,dvS,dvL,B5,ixS];by_cases h:l[i]=s
   · simp only [H7 h,H1,H5 h]; exact .inr trivial
   · simp only [H8 h,H2,H6 h]; exact ih (i+1) (by omega)
 have h:=hlp l.length 0 (by omega)
 rw [D1] at h;simp only [C3] at h;rw [e96_0_0];rcases h with ⟨h1,h2⟩ | h2
 · rw [h2,h1]; rfl
 · rw [h2]; rfl
theorem r90 (l:List ByteArray) (hl:l.length<=maxLen):rn ⟨90,0,0⟩ [.sl (l.map sRow)]=some (0,[.bool (dis l)]):=by
 have key:∀ n i,i+n=l.length->rn ⟨90,0,1⟩ [.sl (l.map sRow),.int (i:Int)]=bif (S4 i n).all (fun j=>decide (ixS (l.getD j e0) l 0=(j:Int))) then some (0,[]) else some (1,[]):=by
  intro n;induction n with
  | zero =>
   intro i hi;obtain rfl:i=l.length:=by omega
   rw [e90_0_1];simp only [B6,C0,D5,H4,H2,C8]; rfl
  | succ n ih =>
   intro i hi;have hlt:i<l.length:=by omega
   rw [e90_0_1,List.range'_succ];have hg:l.getD i e0=l[i]:=by simp [O2,hlt]
   simp only [B6,C0,hlt,H3,H1,inbN,B8,rowAt_map hlt,wrap_succ hlt hl,sRow,nv0,nvS,dvI,dvB,dvS,dvL,B5,r96 l hl,ih (i+1) (by omega),J6,hg]
   by_cases hq:ixS l[i] l 0=(i:Int)
   · simp [hq]
   · simp [hq]
 have h:=key l.length 0 (by omega)
 rw [e90_0_0];simp only [C3] at h;rw [h];have hfi:∀ (m:List ByteArray) (i k:Nat) (hk:k<m.length),ixS m[k] m i=((i+k:Nat):Int)↔∀ j (hj:j<k),m[j]≠m[k]:=by
  intro m;induction m with
  | nil=>intro i k hk; simp at hk
  | cons x m ih =>
   intro i k hk;cases k with
   | zero=>simp [ixS]
   | succ k =>
    have hk':k<m.length:=by simpa using hk
    simp only [List.getElem_cons_succ,ixS];by_cases hx:x=m[k]
    · rw [H5 hx]
      constructor
      · intro h; omega
      · intro h; exact absurd hx (h 0 (by omega))
    · rw [H6 hx]
      have:=ih (i+1) k hk';rw [show i+1+k=i+(k+1) by omega] at this
      rw [this];constructor
      · intro h j hj
        cases j with
        | zero=>exact hx
        | succ j=>exact h j (by omega)
      · intro h j hj; exact h (j+1) (by omega)
 have e:(S4 0 l.length).all (fun j=>decide (ixS (l.getD j e0) l 0=(j:Int)))=dis l:=by
  unfold dis;rw [Bool.eq_iff_iff,List.all_eq_true,decide_eq_true_eq];constructor
  · intro h
    refine S8.2 fun i j _ hj hij=>?_
    have h1:=h j (by simp [List.mem_range']; omega)
    simp only [decide_eq_true_eq] at h1;have hg:l.getD j e0=l[j]:=by simp [O2,hj]
    rw [hg] at h1;exact (hfi l 0 j hj).1 (by simpa using h1) i hij
  · intro h j hj
    have hj':j<l.length:=by simp [List.mem_range'] at hj; omega
    have hg:l.getD j e0=l[j]:=by simp [O2,hj']
    simp only [decide_eq_true_eq,hg];have:=(hfi l 0 j hj').2 fun i hi=>S8.1 h i j (by omega) hj' hi
    simpa using this
 rw [e];cases dis l <;> rfl
theorem rIndexS (l:List ByteArray) (hl:l.length<=maxLen) (s:ByteArray):rn ⟨165,0,0⟩ [.sl (l.map sRow),.str s]=some (0,[.int (ixS s l 0)]):=by
 have hlp:∀ n i,i+n=l.length->(ixS s (l.drop i) i=-1/\rn ⟨165,0,1⟩ [.sl (l.map sRow),.str s,.int (l.length:Int),.int (i:Int)]=some (0,[]))\/rn ⟨165,0,1⟩ [.sl (l.map sRow),.str s,.int (l.length:Int),.int (i:Int)]=some (1,[.int (ixS s (l.drop i) i)]):=by
  intro n;induction n with
  | zero =>
   intro i hi;obtain rfl:i=l.length:=by omega
   rw [e165_0_1];simp only [B6,C0,D5,H4,H2,C8,ixS];exact .inl ⟨trivial,trivial⟩
  | succ n ih =>
   intro i hi;have hlt:i<l.length:=by omega
   rw [e165_0_1,B9 hlt];simp only [B6,C0,hlt,H3,H1,inbN,B8,rowAt_map hlt,wrap_succ hlt hl,sRow,nv0,nvS,dvI,dvB,dvS,dvL,B5,ixS];by_cases h:l[i]=s
   · simp only [H7 h.symm,H1,H5 h]; exact .inr trivial
   · simp only [H8 (Ne.symm h),H2,H6 h]; exact ih (i+1) (by omega)
 have h:=hlp l.length 0 (by omega)
 rw [D1] at h;simp only [C3] at h;rw [e165_0_0];simp only [B6];rcases h with ⟨h1,h2⟩ | h2
 · rw [h2,h1]; rfl
 · rw [h2]; rfl
theorem ixS_has (l:List ByteArray) (s:ByteArray):decide ((0:Int)<=ixS s l 0)=hasS l s:=by
 rw [Bool.eq_iff_iff,decide_eq_true_eq,hasS_iff];have:=ixS_neg s l 0;constructor
 · intro h; exact Classical.byContradiction fun hn=>by have:=this.2 hn; omega
 · intro h; exact Classical.byContradiction fun hn=>absurd h (this.1 (by omega))
theorem ixS_no (l:List ByteArray) (s:ByteArray):decide (ixS s l 0<0)=!hasS l s:=by
 rw [<- ixS_has];by_cases h:ixS s l 0<0
 · rw [H7 h,H8 (by omega)]; rfl
 · rw [H8 h,H7 (by omega)]; rfl
theorem rContS (l:List ByteArray) (hl:l.length<=maxLen) (s:ByteArray):rn ⟨129,0,0⟩ [.sl (l.map sRow),.str s]=some (0,[.bool (hasS l s)]):=by
 rw [e129_0_0];simp only [rIndexS l hl,nv0,nvS,dvI,dvB,dvS,dvL,B5];rw [ixS_has]
theorem r76 (l r:List ByteArray) (hl:l.length<=2097152) (hr:r.length<=maxLen):rn ⟨76,0,0⟩ [.sl (l.map sRow),.sl (r.map sRow)]=some (0,[.sl ((wo l r).map sRow)]):=by
 have key:∀ n i (acc:List ByteArray),i+n=l.length->acc.length<=i->rn ⟨76,0,1⟩ [.sl (r.map sRow),.sl (l.map sRow),.int (l.length:Int),.int (i:Int),.sl (acc.map sRow)]=some (0,[.sl ((acc++wo (l.drop i) r).map sRow)]):=by
  intro n;induction n with
  | zero =>
   intro i acc hi ha;obtain rfl:i=l.length:=by omega
   rw [e76_0_1];simp only [B6,C0,D5,H4,H2,C8,wo,List.filter_nil,G9]
  | succ n ih =>
   intro i acc hi ha;have hlt:i<l.length:=by omega
   rw [e76_0_1,B9 hlt];simp only [B6,C0,hlt,H3,H1,inbN,B8,rowAt_map hlt,wrap_succ hlt (maxB (by omega)),sRow,nv0,nvS,dvI,dvB,dvS,dvL,B5,rContS r hr,C1,C7]
   unfold wo;rw [P0];cases hh:hasS r l[i] with
   | true=>simp only [D8,H2,R0,if_false]; exact ih (i+1) acc (by omega) (by omega)
   | false =>
    simp only [K0,H1,if_true];rw [nb (by omega)]
    have:=ih (i+1) (acc++[l[i]]) (by omega) (by simp; omega)
    rw [D6] at this;simp only [H1];simpa [wo,sRow] using this
 have h:=key l.length 0 [] (by omega) (J9 _)
 rw [e76_0_0];simp only [C3,D4,D1,E5,B6] at h ⊢;simp only [h,nv0,nvS,dvI,dvB,dvS,dvL,B5,E1,H1,H2]
theorem r45 (l r:List ByteArray) (hl:l.length<=2097152) (hr:r.length<=maxLen):rn ⟨45,0,0⟩ [.sl (l.map sRow),.sl (r.map sRow)]=some (0,[.sl ((wo l r).map sRow)]):=by
 have key:∀ n i (acc:List ByteArray),i+n=l.length->acc.length<=i->rn ⟨45,0,1⟩ [.sl (l.map sRow),.sl (r.map sRow),.int (i:Int),.sl (acc.map sRow)]=some (0,[.sl ((acc++wo (l.drop i) r).map sRow)]):=by
  intro n;induction n with
  | zero =>
   intro i acc hi ha;obtain rfl:i=l.length:=by omega
   rw [e45_0_1];simp only [B6,C0,D5,H4,H2,C8,wo,List.filter_nil,G9]
  | succ n ih =>
   intro i acc hi ha;have hlt:i<l.length:=by omega
   rw [e45_0_1,B9 hlt];simp only [B6,C0,hlt,H3,H1,inbN,B8,rowAt_map hlt,wrap_succ hlt (maxB (by omega)),sRow,nv0,nvS,dvI,dvB,dvS,dvL,B5,r96 r hr,C1,C7]
   rw [ixS_no];unfold wo;rw [P0];cases hh:hasS r l[i] with
   | true=>simp only [D8,H2,R0,if_false]; exact ih (i+1) acc (by omega) (by omega)
   | false =>
    simp only [K0,H1,if_true];rw [nb (by omega)]
    have:=ih (i+1) (acc++[l[i]]) (by omega) (by simp; omega)
    rw [D6] at this;simp only [H1];simpa [wo,sRow] using this
 have h:=key l.length 0 [] (by omega) (J9 _)
 rw [e45_0_0];simp only [C3,D4,D1,E5] at h ⊢;simp only [h,nv0,nvS,dvI,dvB,dvS,dvL,B5,E1,H1,H2]
end Go.Q.S
end
section
namespace Go.Q.S
open Go Go.Q Go.Proofs
theorem r133 (n:ByteArray) (a:List ByteArray) (r:ByteArray) (h:a.length<=1048576):rn ⟨133,0,0⟩ [.str n,.sl (a.map sRow),.str r]=some (0,[.str n,.str r,.sl (a.map sRow)]):=by
 rw [e133_0_0];have:=rCloneS (a.map sRow) (by rw [B6]; omega)
 simp only [this,nv0,nvS,dvI,dvB,dvS,dvL,B5]
theorem r68 (so:Rows) (ops:List OpM) (ho:SigB ops) (s:ByteArray):rn ⟨68,0,0⟩ [.sl so,.sl (ops.map OpM.row),.str s]=some (0,foRes (findO ops s)):=by
 have hm:=ho.l;have hl:∀ n i,i+n=ops.length->rn ⟨68,0,1⟩ [.str s,.sl (ops.map OpM.row),.int (ops.length:Int),.int (i:Int),.str e0,.str e0,.sl []]=match (ops.drop i).find? (fun o=>decide (o.n=s)) with | some o=>some (1,[.str o.n,.str o.r,.sl (o.a.map sRow)]) | none=>some (0,[.str e0,.str e0,.sl []]):=by
  intro n;induction n with
  | zero =>
   intro i hi;obtain rfl:i=ops.length:=by omega
   rw [e68_0_1];simp only [B6,C0,D5,H4,H2,C8,S5]
  | succ n ih =>
   intro i hi;have hlt:i<ops.length:=by omega
   rw [e68_0_1,B9 hlt];have h1:=r133 ops[i].n ops[i].a ops[i].r (ho.a _ (C2 hlt));simp only [B6,C0,hlt,H3,H1,inbN,B8,rowAt_map hlt,wrap_succ hlt (maxB (by omega)),OpM.row,nv0,nvS,dvI,dvB,dvS,dvL,B5,P6,ih (i+1) (by omega),h1]
   by_cases hq:ops[i].n=s <;> simp [hq]
 have h:=hl ops.length 0 (by omega)
 rw [D1] at h;simp only [C3] at h;rw [e68_0_0];simp only [B6,r69,nv0,nvS,dvI,dvB,dvS,dvL,B5,h];unfold findO;cases isB s with
 | true=>rfl
 | false =>
  cases ops.find? (fun o=>decide (o.n=s)) <;> rfl
theorem r100 (so:Rows) (ops:List OpM) (ho:SigB ops) (s:ByteArray):rn ⟨100,0,0⟩ [.sl so,.sl (ops.map OpM.row),.str s]=some (0,foRes (findO ops s)):=by
 have hm:=ho.l;have hl:∀ n i,i+n=ops.length->rn ⟨100,0,1⟩ [.str s,.int (i:Int),.sl so,.sl (ops.map OpM.row),.str e0,.str e0,.sl []]=match (ops.drop i).find? (fun o=>decide (o.n=s)) with | some o=>some (1,[.str o.n,.str o.r,.sl (o.a.map sRow)]) | none=>some (0,[.str e0,.str e0,.sl []]):=by
  intro n;induction n with
  | zero =>
   intro i hi;obtain rfl:i=ops.length:=by omega
   rw [e100_0_1];simp only [B6,C0,D5,H4,H2,C8,S5]
  | succ n ih =>
   intro i hi;have hlt:i<ops.length:=by omega
   rw [e100_0_1,B9 hlt];have h1:ops[i].a.length<=1048576:=ho.a _ (C2 hlt);have h2:E9 (0+ops[i].a.length) M63=true:=nb (by omega)
   simp only [B6,C0,hlt,H3,H1,inbN,B8,rowAt_map hlt,wrap_succ hlt (maxB (by omega)),OpM.row,nv0,nvS,dvI,dvB,dvS,dvL,B5,P6,ih (i+1) (by omega),C7,h2,E5]
   by_cases hq:ops[i].n=s <;> simp [hq]
 have h:=hl ops.length 0 (by omega)
 rw [D1] at h;simp only [C3] at h;rw [e100_0_0];simp only [B6,r103,nv0,nvS,dvI,dvB,dvS,dvL,B5,h];unfold findO;cases isB s with
 | true=>rfl
 | false =>
  cases ops.find? (fun o=>decide (o.n=s)) <;> rfl
theorem r35 (so:Rows) (ops:List OpM) (ho:SigB ops) (vs:List VS) (hv:vs.length<=1099511627776):∀ t:Tm,Wt t->rn ⟨35,0,0⟩ [.sl so,.sl (ops.map OpM.row),.int t.k,.int t.n,.str t.s,.sl (t.as.map Tm.row),.sl (vs.map VS.row)]=some (0,[.str (sortT ops vs t)]):=Tm.ind fun t ih h=>by
 have hlm:=h.l;have hvl:∀ n i,i+n=vs.length->rn ⟨35,0,2⟩ [.sl (vs.map VS.row),.int (vs.length:Int),.int (i:Int),.int t.k,.int t.n,.str t.s,.sl (t.as.map Tm.row)]=match (vs.drop i).find? (fun v=>decide (v.1=t.s)) with | some v=>some (1,[.str v.2]) | none=>some (0,[]):=by
  intro n;induction n with
  | zero =>
   intro i hi;obtain rfl:i=vs.length:=by omega
   rw [e35_0_2];simp only [B6,C0,D5,H4,H2,C8,S5]
  | succ n ih2 =>
   intro i hi;have hlt:i<vs.length:=by omega
   rw [e35_0_2,B9 hlt];simp only [B6,C0,hlt,H3,H1,inbN,B8,rowAt_map hlt,wrap_succ hlt (maxB hv),VS.row,nv0,nvS,dvI,dvB,dvS,dvL,B5,P6,ih2 (i+1) (by omega)]
   by_cases hq:vs[i].1=t.s <;> simp [hq]
 have hal:∀ o:OpM,o.a.length=t.as.length->∀ n i,i+n=t.as.length->rn ⟨35,0,4⟩ [.sl (vs.map VS.row),.sl (t.as.map Tm.row),.int (t.as.length:Int),.int (i:Int),.sl so,.sl (ops.map OpM.row),.str o.n,.str o.r,.sl (o.a.map sRow)]=bif sortsT ops vs (t.as.drop i) (o.a.drop i) then some (0,[.str o.n,.str o.r,.sl (o.a.map sRow)]) else some (1,[.str e0]):=by
  intro o hlen n;induction n with
  | zero =>
   intro i hi;obtain rfl:i=t.as.length:=by omega
   rw [e35_0_4];simp only [B6,C0,D5,H4,H2,C8,sortsT,H1]
  | succ n ih2 =>
   intro i hi;have hlt:i<t.as.length:=by omega
   have hlo:i<o.a.length:=by omega
   have h1:=ih _ (C2 hlt) (h.sub (C2 hlt));rw [e35_0_4,B9 hlt,B9 hlo];simp only [B6,C0,hlt,H3,H1,inbN,B8,rowAt_map hlt,wrap_succ hlt hlm,hlo,rowAt_map hlo,Tm.row_eq,sRow,nv0,nvS,dvI,dvB,dvS,dvL,B5,ih2 (i+1) (by omega),h1,sortsT]
   by_cases hq:sortT ops vs t.as[i]=e0
   · simp [hq]
   · by_cases hq2:sortT ops vs t.as[i]=o.a[i]
     · have hq3:=hq; rw [hq2] at hq3
       simp [hq2,hq3]
     · simp [hq,hq2]
 have hv0:=hvl vs.length 0 (by omega)
 have ha0:=fun o ho=>hal o ho t.as.length 0 (by omega)
 simp only [D1,C3] at hv0 ha0;rw [e35_0_0,sortT_eq];by_cases h3:t.k=3
 · simp [h3]
 · by_cases h1:t.k=1
   · rw [H6 h3,H5 h1]
     simp only [h1] at hv0;simp only [B6,hv0,h1,H3,H1];unfold lookV;cases vs.find? (fun v=>decide (v.1=t.s)) <;> rfl
   · rw [H6 h3,H6 h1]
     by_cases h2:t.k=2
     · rw [H5 h2]
       simp only [B6,h2,H3,H1,if_true,r68 so ops ho,nv0,nvS,dvI,dvB,dvS,dvL,B5];cases hf:findO ops t.s with
       | none=>rfl
       | some o =>
        by_cases hlen:o.a.length=t.as.length
        · simp only [foRes,nv0,nvS,dvI,dvB,dvS,dvL,B5,B6,hlen,H3,ha0 o hlen]
          cases sortsT ops vs t.as o.a <;> rfl
        · simp only [foRes,nv0,nvS,dvI,dvB,dvS,dvL,B5,B6]
          have:¬((o.a.length:Int)=(t.as.length:Int)):=by omega
          simp [this,hlen]
     · simp [h1,h2,h3]
theorem r99 (vs:List VS) (hv:vs.length<=1099511627776) (s:ByteArray):rn ⟨99,0,0⟩ [.sl (vs.map VS.row),.str s]=some (0,[.str (lookV vs s)]):=by
 have hvl:∀ n i,i+n=vs.length->rn ⟨99,0,1⟩ [.sl (vs.map VS.row),.str s,.int (i:Int)]=match (vs.drop i).find? (fun v=>decide (v.1=s)) with | some v=>some (1,[.str v.2]) | none=>some (0,[]):=by
  intro n;induction n with
  | zero =>
   intro i hi;obtain rfl:i=vs.length:=by omega
   rw [e99_0_1];simp only [B6,C0,D5,H4,H2,C8,S5]
  | succ n ih2 =>
   intro i hi;have hlt:i<vs.length:=by omega
   rw [e99_0_1,B9 hlt];simp only [B6,C0,hlt,H3,H1,inbN,B8,rowAt_map hlt,wrap_succ hlt (maxB hv),VS.row,nv0,nvS,dvI,dvB,dvS,dvL,B5,P6,ih2 (i+1) (by omega)]
   by_cases hq:vs[i].1=s <;> simp [hq]
 have hv0:=hvl vs.length 0 (by omega)
 simp only [D1,C3] at hv0;rw [e99_0_0];rw [hv0];unfold lookV;cases vs.find? (fun v=>decide (v.1=s)) <;> rfl
theorem r47 (so:Rows) (ops:List OpM) (ho:SigB ops) (vs:List VS) (hv:vs.length<=1099511627776):∀ t:Tm,Wt t->rn ⟨47,0,0⟩ [.sl so,.sl (ops.map OpM.row),.int t.k,.int t.n,.str t.s,.sl (t.as.map Tm.row),.sl (vs.map VS.row)]=some (0,[.str (sortT ops vs t)]):=Tm.ind fun t ih h=>by
 have hlm:=h.l;have hal:∀ o:OpM,o.a.length=t.as.length->∀ n i,i+n=t.as.length->rn ⟨47,0,2⟩ [.sl (vs.map VS.row),.int (i:Int),.sl so,.sl (ops.map OpM.row),.int t.k,.int t.n,.str t.s,.sl (t.as.map Tm.row),.str o.n,.str o.r,.sl (o.a.map sRow)]=bif sortsT ops vs (t.as.drop i) (o.a.drop i) then some (0,[.str o.n,.str o.r,.sl (o.a.map sRow)]) else some (1,[.str e0]):=by
  intro o hlen n;induction n with
  | zero =>
   intro i hi;obtain rfl:i=t.as.length:=by omega
   rw [e47_0_2];simp only [B6,C0,D5,H4,H2,C8,sortsT,H1]
  | succ n ih2 =>
   intro i hi;have hlt:i<t.as.length:=by omega
   have hlo:i<o.a.length:=by omega
   have h1:=ih _ (C2 hlt) (h.sub (C2 hlt));rw [e47_0_2,B9 hlt,B9 hlo];simp only [B6,C0,hlt,H3,H1,inbN,B8,rowAt_map hlt,wrap_succ hlt hlm,hlo,rowAt_map hlo,Tm.row_eq,sRow,nv0,nvS,dvI,dvB,dvS,dvL,B5,ih2 (i+1) (by omega),h1,sortsT]
   by_cases hq2:sortT ops vs t.as[i]=o.a[i]
   · by_cases hq:o.a[i]=e0
     · simp [hq2,hq]
     · simp [hq2,hq]
   · simp [hq2]
 have ha0:=fun o ho=>hal o ho t.as.length 0 (by omega)
 simp only [D1,C3] at ha0;rw [e47_0_0,sortT_eq];by_cases h3:t.k=3
 · simp [h3]
 · by_cases h1:t.k=1
   · rw [H6 h3,H5 h1]
     simp only [h1,H3,H1,r99 vs hv,nv0,nvS,dvI,dvB,dvS,dvL,B5];rfl
   · rw [H6 h3,H6 h1]
     by_cases h2:t.k=2
     · rw [H5 h2]
       simp only [h2,H3,H1,if_true,r100 so ops ho,nv0,nvS,dvI,dvB,dvS,dvL,B5];cases hf:findO ops t.s with
       | none=>rfl
       | some o =>
        by_cases hlen:o.a.length=t.as.length
        · have:=ha0 o hlen
          rw [h2] at this;simp only [foRes,nv0,nvS,dvI,dvB,dvS,dvL,B5,B6,hlen,H3,this];cases sortsT ops vs t.as o.a <;> rfl
        · simp only [foRes,nv0,nvS,dvI,dvB,dvS,dvL,B5,B6]
          have:¬((o.a.length:Int)=(t.as.length:Int)):=by omega
          simp [this,hlen]
     · simp [h1,h2,h3]
end Go.Q.S
end
section
namespace Go.Q.S
open Go Go.Q Go.Proofs
theorem inferI (so:Rows) (ops:List OpM) (ho:SigB ops):∀ t:Tm,∀ (x:ByteArray) (vs:List VS),Wt t->vs.length+t.nodes<=4194304->rn ⟨166,1,0⟩ [.sl so,.sl (ops.map OpM.row),.int t.k,.int t.n,.str t.s,.sl (t.as.map Tm.row),.str x,.sl (vs.map VS.row)]=some (0,infR ops t x vs):=Tm.ind fun t ih x vs h hb=>by
 have hlm:=h.l;have hnd:=Tm.nodes_eq t;have hvl:∀ n i,i+n=vs.length->rn ⟨166,1,1⟩ [.str x,.int (vs.length:Int),.int (i:Int),.sl (vs.map VS.row),.int t.k,.int t.n,.str t.s,.sl (t.as.map Tm.row)]=match (vs.drop i).find? (fun v=>decide (v.1=t.s)) with | some v=>some (1,[.bool (decide (v.2=x)),.sl (vs.map VS.row)]) | none=>some (0,[.str x,.sl (vs.map VS.row),.int t.k,.int t.n,.str t.s,.sl (t.as.map Tm.row)]):=by
  intro n;induction n with
  | zero =>
   intro i hi;obtain rfl:i=vs.length:=by omega
   rw [e166_1_1];simp only [B6,C0,D5,H4,H2,C8,S5]
  | succ n ih2 =>
   intro i hi;have hlt:i<vs.length:=by omega
   rw [e166_1_1,B9 hlt];simp only [B6,C0,hlt,H3,H1,inbN,B8,rowAt_map hlt,wrap_succ hlt (maxB (by omega)),VS.row,nv0,nvS,dvI,dvB,dvS,dvL,B5,P6,ih2 (i+1) (by omega)]
   by_cases hq:vs[i].1=t.s <;> simp [hq]
 have hal:∀ (n1 n2:ByteArray) (a:List ByteArray),a.length<=1048576->∀ n i (vs:List VS),i+n=t.as.length->vs.length+((t.as.drop i).map Tm.nodes).sum<=4194304->rn ⟨166,1,3⟩ [.sl (t.as.map Tm.row),.int (t.as.length:Int),.int (i:Int),.sl (vs.map VS.row),.sl so,.sl (ops.map OpM.row),.str n1,.str n2,.sl (a.map sRow)]=match infL ops (t.as.drop i) (a.drop i) vs with | some v=>some (0,[.sl (v.map VS.row)]) | none=>some (1,[.sl []]):=by
  intro n1 n2 a hal n;induction n with
  | zero =>
   intro i vs hi hb;obtain rfl:i=t.as.length:=by omega
   rw [e166_1_3];simp only [B6,C0,D5,H4,H2,C8,infL]
  | succ n ih2 =>
   intro i vs hi hb;have hlt:i<t.as.length:=by omega
   have hmem:=C2 hlt;rw [B9 hlt] at hb ⊢;simp only [C6,J7] at hb;rw [e166_1_3];by_cases hla:i<a.length
   · have h1:=ih _ hmem a[i] vs (h.sub hmem) (by omega)
     rw [B9 hla];simp only [B6,C0,hlt,H3,H1,inbN,B8,rowAt_map hlt,wrap_succ hlt hlm,hla,rowAt_map hla,Tm.row_eq,sRow,nv0,nvS,dvI,dvB,dvS,dvL,B5,h1,infL,infR];cases hq:infT ops t.as[i] a[i] vs with
     | none=>rfl
     | some v =>
      have hv:=infT_len ops _ _ _ _ hq;have h2:=ih2 (i+1) v (by omega) (by omega)
      simp only [nv0,nvS,dvI,dvB,dvS,dvL,B5,h2,D8,H2]
   · have h1:=ih _ hmem e0 vs (h.sub hmem) (by omega)
     rw [show a.drop i=[] from N8 (by omega)]
     simp only [B6,C0,hlt,H3,H1,inbN,B8,rowAt_map hlt,wrap_succ hlt hlm,hla,H4,H2,Tm.row_eq,sRow,nv0,nvS,dvI,dvB,dvS,dvL,B5,h1,infL,infR];cases hq:infT ops t.as[i] e0 vs with
     | none=>rfl
     | some v =>
      have hv:=infT_len ops _ _ _ _ hq;have h2:=ih2 (i+1) v (by omega) (by omega)
      rw [show a.drop (i+1)=[] from N8 (by omega)] at h2
      simp only [nv0,nvS,dvI,dvB,dvS,dvL,B5,h2,D8,H2]
 have hv0:=hvl vs.length 0 (by omega)
 have ha0:=fun n1 n2 a ha=>hal n1 n2 a ha t.as.length 0 vs (by omega) (by rw [D1]; omega)
 simp only [D1,C3] at hv0 ha0;rw [e166_1_0];unfold infR;rw [infT_eq];by_cases h1:t.k=1
 · rw [H5 h1,H5 h1]
   simp only [h1] at hv0;have hb2:E9 (vs.length+1) M63=true:=nb (by omega)
   simp only [B6,h1,H3,H1,hv0];cases hq:vs.find? (fun v=>decide (v.1=t.s)) with
   | none=>simp only [nv0,nvS,dvI,dvB,dvS,dvL,B5,E1,H1,H2,B6,C1,C7,D2,hb2,D6]; rfl
   | some v =>
    simp only [nv0,nvS,dvI,dvB,dvS,dvL,B5,E1,H1,H2,show F1 1 0=false from rfl]
    by_cases hq2:v.2=x <;> simp [hq2]
 · rw [H6 h1,H6 h1]
   by_cases h2:t.k=2
   · simp only [B6,h2,H3,H1,if_true,r68 so ops ho,nv0,nvS,dvI,dvB,dvS,dvL,B5]
     cases hf:findO ops t.s with
     | none =>
      simp only [foRes,nv0,nvS,dvI,dvB,dvS,dvL,B5];rw [show ([]:Rows)=([]:List ByteArray).map sRow from rfl,ha0 e0 e0 [] (by simp)]
      cases infL ops t.as [] vs <;> rfl
     | some o =>
      have hok:o.ok:=findO_ok ho.a hf;simp only [foRes,nv0,nvS,dvI,dvB,dvS,dvL,B5];rw [ha0 o.n o.r o.a hok];cases infL ops t.as o.a vs <;> rfl
   · simp only [B6,h1,h2,H4,H2,if_false]
     rw [show ([]:Rows)=([]:List ByteArray).map sRow from rfl,ha0 e0 e0 [] (by simp)]
     cases infL ops t.as [] vs <;> rfl
theorem inferS (so:Rows) (ops:List OpM) (ho:SigB ops):∀ t:Tm,∀ (x:ByteArray) (vs:List VS),Wt t->vs.length+t.nodes<=4194304->rn ⟨178,1,0⟩ [.sl so,.sl (ops.map OpM.row),.int t.k,.int t.n,.str t.s,.sl (t.as.map Tm.row),.str x,.sl (vs.map VS.row)]=some (0,infR ops t x vs):=Tm.ind fun t ih x vs h hb=>by
 have hlm:=h.l;have hnd:=Tm.nodes_eq t;have hvl:∀ n i,i+n=vs.length->rn ⟨178,1,1⟩ [.str x,.int (i:Int),.sl (vs.map VS.row),.int t.k,.int t.n,.str t.s,.sl (t.as.map Tm.row)]=match (vs.drop i).find? (fun v=>decide (v.1=t.s)) with | some v=>some (1,[.bool (decide (v.2=x)),.sl (vs.map VS.row)]) | none=>some (0,[.str x,.sl (vs.map VS.row),.int t.k,.int t.n,.str t.s,.sl (t.as.map Tm.row)]):=by
  intro n;induction n with
  | zero =>
   intro i hi;obtain rfl:i=vs.length:=by omega
   rw [e178_1_1];simp only [B6,C0,D5,H4,H2,C8,S5]
  | succ n ih2 =>
   intro i hi;have hlt:i<vs.length:=by omega
   rw [e178_1_1,B9 hlt];simp only [B6,C0,hlt,H3,H1,inbN,B8,rowAt_map hlt,wrap_succ hlt (maxB (by omega)),VS.row,nv0,nvS,dvI,dvB,dvS,dvL,B5,P6,ih2 (i+1) (by omega)]
   by_cases hq:vs[i].1=t.s <;> simp [hq]
 have hal:∀ (n1 n2:ByteArray) (a:List ByteArray),a.length<=1048576->∀ n i (vs:List VS),i+n=t.as.length->vs.length+((t.as.drop i).map Tm.nodes).sum<=4194304->rn ⟨178,1,3⟩ [.int (i:Int),.sl (vs.map VS.row),.sl so,.sl (ops.map OpM.row),.int t.k,.int t.n,.str t.s,.sl (t.as.map Tm.row),.str n1,.str n2,.sl (a.map sRow)]=match infL ops (t.as.drop i) (a.drop i) vs with | some v=>some (0,[.sl (v.map VS.row)]) | none=>some (1,[.sl []]):=by
  intro n1 n2 a hal n;induction n with
  | zero =>
   intro i vs hi hb;obtain rfl:i=t.as.length:=by omega
   rw [e178_1_3];simp only [B6,C0,D5,H4,H2,C8,infL]
  | succ n ih2 =>
   intro i vs hi hb;have hlt:i<t.as.length:=by omega
   have hmem:=C2 hlt;rw [B9 hlt] at hb ⊢;simp only [C6,J7] at hb;rw [e178_1_3];by_cases hla:i<a.length
   · have h1:=ih _ hmem a[i] vs (h.sub hmem) (by omega)
     rw [B9 hla];simp only [B6,C0,hlt,H3,H1,inbN,B8,rowAt_map hlt,wrap_succ hlt hlm,hla,rowAt_map hla,Tm.row_eq,sRow,nv0,nvS,dvI,dvB,dvS,dvL,B5,h1,infL,infR];cases hq:infT ops t.as[i] a[i] vs with
     | none=>rfl
     | some v =>
      have hv:=infT_len ops _ _ _ _ hq;have h2:=ih2 (i+1) v (by omega) (by omega)
      simp only [nv0,nvS,dvI,dvB,dvS,dvL,B5,h2,D8,H2]
   · have h1:=ih _ hmem e0 vs (h.sub hmem) (by omega)
     rw [show a.drop i=[] from N8 (by omega)]
     simp only [B6,C0,hlt,H3,H1,inbN,B8,rowAt_map hlt,wrap_succ hlt hlm,hla,H4,H2,Tm.row_eq,sRow,nv0,nvS,dvI,dvB,dvS,dvL,B5,h1,infL,infR];cases hq:infT ops t.as[i] e0 vs with
     | none=>rfl
     | some v =>
      have hv:=infT_len ops _ _ _ _ hq;have h2:=ih2 (i+1) v (by omega) (by omega)
      rw [show a.drop (i+1)=[] from N8 (by omega)] at h2
      simp only [nv0,nvS,dvI,dvB,dvS,dvL,B5,h2,D8,H2]
 have hv0:=hvl vs.length 0 (by omega)
 have ha0:=fun n1 n2 a ha=>hal n1 n2 a ha t.as.length 0 vs (by omega) (by rw [D1]; omega)
 simp only [D1,C3] at hv0 ha0;rw [e178_1_0];unfold infR;rw [infT_eq];by_cases h1:t.k=1
 · rw [H5 h1,H5 h1]
   simp only [h1] at hv0;have hb2:E9 (vs.length+1) M63=true:=nb (by omega)
   simp only [B6,h1,H3,H1,hv0];cases hq:vs.find? (fun v=>decide (v.1=t.s)) with
   | none=>simp only [nv0,nvS,dvI,dvB,dvS,dvL,B5,E1,H1,H2,B6,C1,C7,D2,hb2,D6]; rfl
   | some v =>
    simp only [nv0,nvS,dvI,dvB,dvS,dvL,B5,E1,H1,H2,show F1 1 0=false from rfl]
    by_cases hq2:v.2=x <;> simp [hq2]
 · rw [H6 h1,H6 h1]
   by_cases h2:t.k=2
   · simp only [h2] at ha0
     simp only [B6,h2,H3,H1,if_true,r100 so ops ho,nv0,nvS,dvI,dvB,dvS,dvL,B5];cases hf:findO ops t.s with
     | none =>
      simp only [foRes,nv0,nvS,dvI,dvB,dvS,dvL,B5];rw [show ([]:Rows)=([]:List ByteArray).map sRow from rfl,ha0 e0 e0 [] (by simp)]
      cases infL ops t.as [] vs <;> rfl
     | some o =>
      have hok:o.ok:=findO_ok ho.a hf;simp only [foRes,nv0,nvS,dvI,dvB,dvS,dvL,B5];rw [ha0 o.n o.r o.a hok];cases infL ops t.as o.a vs <;> rfl
   · simp only [B6,h1,h2,H4,H2,if_false]
     rw [show ([]:Rows)=([]:List ByteArray).map sRow from rfl,ha0 e0 e0 [] (by simp)]
     cases infL ops t.as [] vs <;> rfl
theorem r131 (so:Rows) (ops:List OpM) (ho:SigB ops) (t:Tm) (h:Wt t) (hn:t.nodes<=1048577) (x:ByteArray):rn ⟨131,0,0⟩ [.sl so,.sl (ops.map OpM.row),.int t.k,.int t.n,.str t.s,.sl (t.as.map Tm.row),.str x]=some (0,infVR (infV ops t x)):=by
 have h1:=inferI so ops ho t x [] h (by simp; omega)
 rw [D4] at h1;rw [e131_0_0,h1];unfold infR infV;cases hq:infT ops t x [] with
 | none=>rfl
 | some vs =>
  have hv:=infT_len ops _ _ _ _ hq;rw [C7] at hv;have h2:=r35 so ops ho vs (by omega) t h
  simp only [nv0,nvS,dvI,dvB,dvS,dvL,B5,h2];by_cases hx:x=e0
  · simp [hx,infVR]
  · by_cases hs:sortT ops vs t=x <;> simp [hx,hs,infVR]
theorem r149 (so:Rows) (ops:List OpM) (ho:SigB ops) (t:Tm) (h:Wt t) (hn:t.nodes<=1048577) (x:ByteArray):rn ⟨149,0,0⟩ [.sl so,.sl (ops.map OpM.row),.int t.k,.int t.n,.str t.s,.sl (t.as.map Tm.row),.str x]=some (0,infVR (infV ops t x)):=by
 have h1:=inferS so ops ho t x [] h (by simp; omega)
 rw [D4] at h1;rw [e149_0_0,h1];unfold infR infV;cases hq:infT ops t x [] with
 | none=>rfl
 | some vs =>
  have hv:=infT_len ops _ _ _ _ hq;rw [C7] at hv;have h2:=r47 so ops ho vs (by omega) t h
  simp only [nv0,nvS,dvI,dvB,dvS,dvL,B5,h2];by_cases hx:x=e0
  · simp [hx,infVR]
  · by_cases hs:sortT ops vs t=x <;> simp [hx,hs,infVR]
end Go.Q.S
end
section
namespace Go.Q.S
open Go Go.Q Go.Proofs
def opOK (so:List ByteArray) (o:OpM):Bool:=isNm o.n&&(!isB o.n&&(decide (o.a.length<=3)&&(o.a.all (fun x=>decide (x=wordS)||hasS so x)&&(decide (o.r=wordS)||hasS so o.r))))
theorem sigOK_eq (so:List ByteArray) (ops:List OpM):sigOK so ops=(decide (so.length<=4)&&(dis so&&(decide (ops.length<=16)&&((so.all fun x=>isNm x&&!decide (x=wordS))&&(ops.all (opOK so)&&dis (ops.map (·.n))))))):=rfl
theorem r66 (so:List ByteArray) (hso:so.length<=1048576) (hss:∀ x∈so,x.size<=maxLen) (ops:List OpM) (ho:SigB ops) (hon:∀ o∈ops,o.n.size<=maxLen):rn ⟨66,0,0⟩ [.sl (so.map sRow),.sl (ops.map OpM.row)]=some (0,[.bool (sigOK so ops)]):=by
 have hm:=ho.l;have hl1:∀ n i,i+n=so.length->rn ⟨66,0,1⟩ [.sl (so.map sRow),.int (so.length:Int),.int (i:Int),.sl (so.map sRow),.sl (ops.map OpM.row)]=bif (so.drop i).all (fun x=>isNm x&&!decide (x=wordS)) then some (0,[.sl (so.map sRow),.sl (ops.map OpM.row)]) else some (1,[]):=by
  intro n;induction n with
  | zero =>
   intro i hi;obtain rfl:i=so.length:=by omega
   rw [e66_0_1];simp only [B6,C0,D5,H4,H2,C8,N1,H1]
  | succ n ih =>
   intro i hi;have hlt:i<so.length:=by omega
   rw [e66_0_1,B9 hlt];have h1:=r128 so[i] (hss _ (C2 hlt));simp only [B6,C0,hlt,H3,H1,inbN,B8,rowAt_map hlt,wrap_succ hlt (maxB (by omega)),sRow,nv0,nvS,dvI,dvB,dvS,dvL,B5,h1,ih (i+1) (by omega),J6]
   cases isNm so[i]
   · rfl
   · by_cases hq:so[i]=wordS <;> simp [hq]
 have hl5:∀ (o:OpM),o.a.length<=1048576->∀ (x0:Rows) (x1 x2:Int) (x3:ByteArray) (x4:Bool) (x5:Rows) (x6:Int) (x7:Bool) (x11 x12:Rows) (x13:ByteArray) (x14:Rows) (x15:ByteArray),∀ n i,i+n=(o.a++[o.r]).length->rn ⟨66,0,5⟩ [.sl x0,.int x1,.int x2,.str x3,.bool x4,.sl x5,.int x6,.bool x7,.int ((o.a++[o.r]).length:Int),.int (i:Int),.sl (so.map sRow),.sl x11,.sl x12,.str x13,.sl x14,.str x15,.sl ((o.a++[o.r]).map sRow)]=bif ((o.a++[o.r]).drop i).all (fun x=>decide (x=wordS)||hasS so x) then some (0,[.sl x0,.int x1,.int x2,.str x3,.bool x4,.sl x5,.int x6,.bool x7,.sl (so.map sRow),.sl x11,.sl x12,.str x13,.sl x14,.str x15]) else some (1,[]):=by
  intro o hoa x0 x1 x2 x3 x4 x5 x6 x7 x11 x12 x13 x14 x15;have hL:(o.a++[o.r]).length<=1048577:=by simp; omega
  generalize o.a++[o.r]=l at hL ⊢;intro n;induction n with
  | zero =>
   intro i hi;obtain rfl:i=l.length:=by omega
   rw [e66_0_5];simp only [B6,C0,D5,H4,H2,C8,N1,H1]
  | succ n ih =>
   intro i hi;have hlt:i<l.length:=by omega
   rw [e66_0_5,B9 hlt];have h1:=rContS so (maxB (by omega)) l[i]
   simp only [B6,C0,hlt,H3,H1,inbN,B8,rowAt_map hlt,wrap_succ hlt (maxB (by omega)),sRow,nv0,nvS,dvI,dvB,dvS,dvL,B5,h1,ih (i+1) (by omega),J6]
   by_cases hq:l[i]=wordS
   · simp [hq]
   · cases hasS so l[i] <;> simp [hq]
 have hl3:∀ n i (acc:List ByteArray),i+n=ops.length->acc.length<=i->rn ⟨66,0,3⟩ [.sl (ops.map OpM.row),.int (ops.length:Int),.int (i:Int),.sl (so.map sRow),.sl (ops.map OpM.row),.sl (acc.map sRow)]=bif (ops.drop i).all (opOK so) then some (0,[.sl ((acc++(ops.drop i).map (·.n)).map sRow)]) else some (1,[]):=by
  intro n;induction n with
  | zero =>
   intro i acc hi ha;obtain rfl:i=ops.length:=by omega
   rw [e66_0_3];simp only [B6,C0,D5,H4,H2,C8,N1,H1,D4,G9]
  | succ n ih =>
   intro i acc hi ha;have hlt:i<ops.length:=by omega
   have hmem:=C2 hlt;rw [e66_0_3,B9 hlt];have h1:=r128 ops[i].n (hon _ hmem);have hoa:ops[i].a.length<=1048576:=ho.a _ hmem;have h2:=rCloneS (ops[i].a.map sRow) (by rw [B6]; omega)
   have hb:E9 (ops[i].a.length+1) M63=true:=nb (by omega)
   have hb2:E9 (acc.length+1) M63=true:=nb (by omega)
   have h5:=fun x0 x1 x2 x3 x4 x5 x6 x7 x11 x12 x13 x14 x15=>hl5 ops[i] hoa x0 x1 x2 x3 x4 x5 x6 x7 x11 x12 x13 x14 x15 (ops[i].a++[ops[i].r]).length 0 (by omega)
   simp only [D1,C3,E0,C1,C7,D2,D6,C6,D4,sRow] at h5;have h6:=ih (i+1) (acc++[ops[i].n]) (by omega) (by simp; omega)
   simp only [D6,C6,D4,sRow] at h6;simp only [B6,C0,hlt,H3,H1,inbN,B8,rowAt_map hlt,wrap_succ hlt (maxB (by omega)),OpM.row,nv0,nvS,dvI,dvB,dvS,dvL,B5,h1,r69,h2,C1,C7,D2,hb,E0,J6]
   rw [show opOK so ops[i]=(isNm ops[i].n&&(!isB ops[i].n&&(decide (ops[i].a.length<=3)&&(ops[i].a.all (fun x=>decide (x=wordS)||hasS so x)&&(decide (ops[i].r=wordS)||hasS so ops[i].r))))) from rfl]
   cases isNm ops[i].n
   · rfl
   · cases isB ops[i].n
     · by_cases h3:ops[i].a.length<=3
       · have h3':¬((3:Int)<(ops[i].a.length:Int)):=by omega
         simp only [h3,h3',H3,H4,H1,H2,D8,K0,F4];rw [h5,List.all_append];simp only [J6,N1,N0];cases (ops[i].a.all (fun x=>decide (x=wordS)||hasS so x)&&(decide (ops[i].r=wordS)||hasS so ops[i].r)) with
         | false=>rfl
         | true =>
          simp only [H1,nv0,nvS,dvI,dvB,dvS,dvL,B5,E1,H1,H2,B6,hb2,wrap_succ hlt (maxB (by omega)),h6,F4]
          simp only [D6,C6,D7,G8,E5,sRow]
       · have h3':((3:Int)<(ops[i].a.length:Int)):=by omega
         simp [h3,h3']
     · rfl
 have h1:=hl1 so.length 0 (by omega)
 have h3:=hl3 ops.length 0 [] (by omega) (J9 _)
 simp only [D1,C3,D4,E5] at h1 h3;have hd:=r31 so (by omega)
 have hd2:=r31 (ops.map (·.n)) (by rw [B6]; omega)
 rw [e66_0_0,sigOK_eq];simp only [B6,hd,nv0,nvS,dvI,dvB,dvS,dvL,B5];by_cases hs:so.length<=4
 · have hs':¬((4:Int)<(so.length:Int)):=by omega
   simp only [hs,hs',H3,H4,H2,F4];cases dis so
   · rfl
   · by_cases hs2:ops.length<=16
     · have hs2':¬((16:Int)<(ops.length:Int)):=by omega
       simp only [hs2,hs2',H3,H4,H2,F4,D8,h1];cases so.all (fun x=>isNm x&&!decide (x=wordS))
       · rfl
       · simp only [H1,nv0,nvS,dvI,dvB,dvS,dvL,B5,E1,H1,H2,B6,h3,F4]
         cases ops.all (opOK so)
         · rfl
         · simp only [H1,nv0,nvS,dvI,dvB,dvS,dvL,B5,E1,H1,H2,hd2,F4]
     · have hs2':((16:Int)<(ops.length:Int)):=by omega
       simp [hs2,hs2']
 · have hs':((4:Int)<(so.length:Int)):=by omega
   simp [hs,hs']
theorem r180 (so:List ByteArray) (hso:so.length<=1048576) (ops:Rows) (x:ByteArray):rn ⟨180,0,0⟩ [.sl (so.map sRow),.sl ops,.str x]=some (0,[.bool (decide (x=wordS)||hasS so x)]):=by
 have h1:=r96 so (maxB (by omega)) x
 rw [e180_0_0];simp only [h1,nv0,nvS,dvI,dvB,dvS,dvL,B5,ixS_has];by_cases hq:x=wordS <;> simp [hq]
theorem r151 (so:List ByteArray) (hso:so.length<=1048576) (ops:Rows) (o:OpM) (hoa:o.a.length<=1048576) (hon:o.n.size<=maxLen):rn ⟨151,0,0⟩ [.sl (so.map sRow),.sl ops,.str o.n,.sl (o.a.map sRow),.str o.r]=some (0,[.bool (opOK so o)]):=by
 have hl:∀ n i,i+n=o.a.length->rn ⟨151,0,1⟩ [.int (i:Int),.sl (so.map sRow),.sl ops,.str o.n,.sl (o.a.map sRow),.str o.r]=bif (o.a.drop i).all (fun x=>decide (x=wordS)||hasS so x) then some (0,[.sl (so.map sRow),.sl ops,.str o.n,.sl (o.a.map sRow),.str o.r]) else some (1,[]):=by
  intro n;induction n with
  | zero =>
   intro i hi;obtain rfl:i=o.a.length:=by omega
   rw [e151_0_1];simp only [B6,C0,D5,H4,H2,C8,N1,H1]
  | succ n ih =>
   intro i hi;have hlt:i<o.a.length:=by omega
   rw [e151_0_1,B9 hlt];have h1:=r180 so hso ops o.a[i];simp only [B6,C0,hlt,H3,H1,inbN,B8,rowAt_map hlt,wrap_succ hlt (maxB (by omega)),sRow,nv0,nvS,dvI,dvB,dvS,dvL,B5,h1,ih (i+1) (by omega),J6]
   cases (decide (o.a[i]=wordS)||hasS so o.a[i]) <;> rfl
 have h:=hl o.a.length 0 (by omega)
 simp only [D1,C3] at h;have hn:=r147 o.n hon;rw [e151_0_0,h];unfold opOK;cases (o.a.all fun x=>decide (x=wordS)||hasS so x) with
 | false=>cases isNm o.n <;> cases isB o.n <;> cases decide (o.a.length<=3) <;> rfl
 | true =>
  have i3:((o.a.length:Int)<=3)↔o.a.length<=3:=by omega
  simp only [H1,nv0,nvS,dvI,dvB,dvS,dvL,B5,E1,H1,H2,hn,r103,r180 so hso ops,B6,i3,F4];cases isNm o.n <;> cases isB o.n <;> cases decide (o.a.length<=3) <;> rfl
theorem r89 (so:List ByteArray) (hso:so.length<=1048576) (hss:∀ x∈so,x.size<=maxLen) (ops:List OpM) (ho:SigB ops) (hon:∀ o∈ops,o.n.size<=maxLen):rn ⟨89,0,0⟩ [.sl (so.map sRow),.sl (ops.map OpM.row)]=some (0,[.bool (sigOK so ops)]):=by
 have hm:=ho.l;have hl1:∀ n i,i+n=so.length->rn ⟨89,0,1⟩ [.int (i:Int),.sl (so.map sRow),.sl (ops.map OpM.row),.sl []]=bif (so.drop i).all (fun x=>isNm x&&!decide (x=wordS)) then some (0,[.sl (so.map sRow),.sl (ops.map OpM.row),.sl []]) else some (1,[]):=by
  intro n;induction n with
  | zero =>
   intro i hi;obtain rfl:i=so.length:=by omega
   rw [e89_0_1];simp only [B6,C0,D5,H4,H2,C8,N1,H1]
  | succ n ih =>
   intro i hi;have hlt:i<so.length:=by omega
   rw [e89_0_1,B9 hlt];have h1:=r147 so[i] (hss _ (C2 hlt));simp only [B6,C0,hlt,H3,H1,inbN,B8,rowAt_map hlt,wrap_succ hlt (maxB (by omega)),sRow,nv0,nvS,dvI,dvB,dvS,dvL,B5,h1,ih (i+1) (by omega),J6]
   cases isNm so[i]
   · rfl
   · by_cases hq:so[i]=wordS <;> simp [hq]
 have hl3:∀ n i (acc:List ByteArray),i+n=ops.length->acc.length<=i->rn ⟨89,0,3⟩ [.int (i:Int),.sl (so.map sRow),.sl (ops.map OpM.row),.sl (acc.map sRow)]=bif (ops.drop i).all (opOK so) then some (0,[.sl (so.map sRow),.sl (ops.map OpM.row),.sl ((acc++(ops.drop i).map (·.n)).map sRow)]) else some (1,[]):=by
  intro n;induction n with
  | zero =>
   intro i acc hi ha;obtain rfl:i=ops.length:=by omega
   rw [e89_0_3];simp only [B6,C0,D5,H4,H2,C8,N1,H1,D4,G9]
  | succ n ih =>
   intro i acc hi ha;have hlt:i<ops.length:=by omega
   have hmem:=C2 hlt;rw [e89_0_3,B9 hlt];have h1:=r151 so hso (ops.map OpM.row) ops[i] (ho.a _ hmem) (hon _ hmem);have hb2:E9 (acc.length+1) M63=true:=nb (by omega)
   have h6:=ih (i+1) (acc++[ops[i].n]) (by omega) (by simp; omega)
   simp only [D6,C6,D4,sRow] at h6;simp only [B6,C0,hlt,H3,H1,inbN,B8,rowAt_map hlt,wrap_succ hlt (maxB (by omega)),OpM.row,nv0,nvS,dvI,dvB,dvS,dvL,B5,h1,C1,C7,D2,hb2,h6,J6]
   cases opOK so ops[i] with
   | false=>rfl
   | true=>simp only [D6,C6,D7,G8,E5,sRow,D8,H2,H1,F4]
 have h1:=hl1 so.length 0 (by omega)
 have h3:=hl3 ops.length 0 [] (by omega) (J9 _)
 simp only [D1,C3,D4,E5] at h1 h3;have hd:=r90 so (maxB (by omega))
 have hd2:=r90 (ops.map (·.n)) (by rw [B6]; exact maxB (by omega))
 rw [e89_0_0,sigOK_eq,h1];have i1:((so.length:Int)<=4)↔so.length<=4:=by omega
 have i2:((ops.length:Int)<=16)↔ops.length<=16:=by omega
 cases so.all (fun x=>isNm x&&!decide (x=wordS)) with
 | false=>cases decide (so.length<=4) <;> cases dis so <;> cases decide (ops.length<=16) <;> rfl
 | true =>
  simp only [H1,nv0,nvS,dvI,dvB,dvS,dvL,B5,E1,H1,H2,h3,F4];cases ops.all (opOK so) with
  | false=>cases decide (so.length<=4) <;> cases dis so <;> cases decide (ops.length<=16) <;> rfl
  | true =>
   simp only [H1,nv0,nvS,dvI,dvB,dvS,dvL,B5,E1,H1,H2,B6,hd,hd2,i1,i2,F4];cases decide (so.length<=4) <;> cases dis so <;> cases decide (ops.length<=16) <;> rfl
end Go.Q.S
end
section
namespace Go.Q.S
open Go Go.Q Go.Proofs
theorem r130:∀ t:Tm,Wt t->rn ⟨130,0,0⟩ [.int t.k,.int t.n,.str t.s,.sl (t.as.map Tm.row)]=some (0,[.bool (lackB t)]):=Tm.ind fun t ih h=>by
 have hlm:=h.l;have hl:∀ n i,i+n=t.as.length->rn ⟨130,0,1⟩ [.sl (t.as.map Tm.row),.int (t.as.length:Int),.int (i:Int)]=bif lackBL (t.as.drop i) then some (0,[]) else some (1,[]):=by
  intro n;induction n with
  | zero =>
   intro i hi;obtain rfl:i=t.as.length:=by omega
   rw [e130_0_1];simp only [B6,C0,D5,H4,H2,C8,lackBL,H1]
  | succ n ih2 =>
   intro i hi;have hlt:i<t.as.length:=by omega
   rw [e130_0_1,B9 hlt];have h1:=ih _ (C2 hlt) (h.sub (C2 hlt));simp only [B6,C0,hlt,H3,H1,inbN,B8,rowAt_map hlt,wrap_succ hlt hlm,Tm.row_eq,nv0,nvS,dvI,dvB,dvS,dvL,B5,h1,ih2 (i+1) (by omega),lackBL]
   cases lackB t.as[i] <;> simp
 have h0:=hl t.as.length 0 (by omega)
 simp only [D1,C3] at h0;rw [e130_0_0,lackB_eq];simp only [B6,h0,r69,nv0,nvS,dvI,dvB,dvS,dvL,B5];by_cases h2:t.k=2 <;> cases isB t.s <;> cases lackBL t.as <;> simp [h2] <;> rfl
theorem r148:∀ t:Tm,Wt t->rn ⟨148,0,0⟩ [.int t.k,.int t.n,.str t.s,.sl (t.as.map Tm.row)]=some (0,[.bool (!lackB t)]):=Tm.ind fun t ih h=>by
 have hlm:=h.l;have hl:∀ n i,i+n=t.as.length->rn ⟨148,0,1⟩ [.int (i:Int),.int t.k,.int t.n,.str t.s,.sl (t.as.map Tm.row)]=bif lackBL (t.as.drop i) then some (0,[.int t.k,.int t.n,.str t.s,.sl (t.as.map Tm.row)]) else some (1,[]):=by
  intro n;induction n with
  | zero =>
   intro i hi;obtain rfl:i=t.as.length:=by omega
   rw [e148_0_1];simp only [B6,C0,D5,H4,H2,C8,lackBL,H1]
  | succ n ih2 =>
   intro i hi;have hlt:i<t.as.length:=by omega
   rw [e148_0_1,B9 hlt];have h1:=ih _ (C2 hlt) (h.sub (C2 hlt));simp only [B6,C0,hlt,H3,H1,inbN,B8,rowAt_map hlt,wrap_succ hlt hlm,Tm.row_eq,nv0,nvS,dvI,dvB,dvS,dvL,B5,h1,ih2 (i+1) (by omega),lackBL]
   cases lackB t.as[i] <;> simp
 have h0:=hl t.as.length 0 (by omega)
 simp only [D1,C3] at h0;rw [e148_0_0,lackB_eq,h0];cases lackBL t.as with
 | false=>cases (!(decide (t.k=2)&&isB t.s)) <;> rfl
 | true =>
  simp only [H1,nv0,nvS,dvI,dvB,dvS,dvL,B5,E1,H1,H2,r103];by_cases h2:t.k=2 <;> cases isB t.s <;> simp [h2]
theorem r34 (t:Tm) (h:t.nodes<=1048577) (ns:List ByteArray) (hn:ns.length<=maxLen):rn ⟨34,0,0⟩ [.int t.k,.int t.n,.str t.s,.sl (t.as.map Tm.row),.sl (ns.map sRow)]=some (0,[.bool (within t ns)]):=by
 have h1:=r77 t h;have h2:=r76 t.names ns (by have:=names_nodes t; omega) hn
 rw [e34_0_0];simp only [h1,nv0,nvS,dvI,dvB,dvS,dvL,B5,h2,B6];have h3:=wo_len t.names ns;have i1:(((wo t.names ns).length:Int)=0)↔(wo t.names ns).length=0:=by omega
 simp only [i1];rw [h3]; rfl
theorem r46 (t:Tm) (h:t.nodes<=1048577):rn ⟨46,0,0⟩ [.int t.k,.int t.n,.str t.s,.sl (t.as.map Tm.row)]=some (0,[.sl ((srtN t.names).map sRow)]):=by
 have hn:=names_nodes t;have h1:=r98 t [] h (by simp; omega)
 have h2:=r97 t.names (by omega)
 rw [e46_0_0];rw [E5] at h1;simp only [h1,nv0,nvS,dvI,dvB,dvS,dvL,B5,h2]
theorem r167 (k:Int):rn ⟨167,0,0⟩ [.int k]=some (0,[.bool (decide (1<=k)&&decide (k<=3))]):=by
 rw [e167_0_0];cases decide (1<=k) <;> rfl
theorem r132 (so:Rows) (ops:List OpM) (ho:SigB ops) (vs:List VS) (hv:vs.length<=1099511627776) (ns:List ByteArray) (hn:ns.length<=maxLen) (hvn:∀ v∈vs,v.1∈ns) (gs:List Gu) (hg:gs.length<=1048576) (hgb:∀ g∈gs,GuB g):rn ⟨132,0,0⟩ [.sl so,.sl (ops.map OpM.row),.sl (gs.map Gu.row),.sl (vs.map VS.row),.sl (ns.map sRow)]=some (0,[.bool (gusOK ops vs gs)]):=by
 have hl:∀ n i,i+n=gs.length->rn ⟨132,0,1⟩ [.sl (gs.map Gu.row),.sl (vs.map VS.row),.sl (ns.map sRow),.sl (gs.map Gu.row),.int (gs.length:Int),.int (i:Int),.sl so,.sl (ops.map OpM.row)]=bif (gs.drop i).all (guOK ops vs) then some (0,[.sl (gs.map Gu.row)]) else some (1,[]):=by
  intro n;induction n with
  | zero =>
   intro i hi;obtain rfl:i=gs.length:=by omega
   rw [e132_0_1];simp only [B6,C0,D5,H4,H2,C8,N1,H1]
  | succ n ih =>
   intro i hi;have hlt:i<gs.length:=by omega
   rw [e132_0_1,B9 hlt];have hb:=hgb _ (C2 hlt);have hw:guOK ops vs gs[i]=true->_:=fun h=>guOK_within hvn h
   have h1:=r33 gs[i].l (G6 hb.ln (by decide)) hb.wl
   have h2:=r33 gs[i].r (G6 hb.rn (by decide)) hb.wr
   have h3:=r34 gs[i].l hb.ln ns hn;have h4:=r34 gs[i].r hb.rn ns hn;have h5:=r35 so ops ho vs hv gs[i].l hb.wl;have h6:=r35 so ops ho vs hv gs[i].r hb.wr;simp only [B6,C0,hlt,H3,H1,inbN,B8,rowAt_map hlt,wrap_succ hlt (maxB (by omega)),Gu.row,nv0,nvS,dvI,dvB,dvS,dvL,B5,h1,h2,h3,h4,h5,h6,r167,ih (i+1) (by omega),J6]
   unfold guOK at hw ⊢;generalize (decide (1<=gs[i].k)&&decide (gs[i].k<=3))=bk at hw ⊢;generalize gs[i].l.valid=b1 at hw ⊢;generalize gs[i].r.valid=b2 at hw ⊢;generalize within gs[i].l ns=w1 at hw ⊢;generalize within gs[i].r ns=w2 at hw ⊢;generalize sortT ops vs gs[i].l=s1 at hw ⊢;generalize sortT ops vs gs[i].r=s2 at hw ⊢;cases bk
   · rfl
   · cases b1
     · rfl
     · cases b2
       · rfl
       · by_cases q1:s1=e0
         · cases w1 <;> cases w2 <;> simp [q1]
         · by_cases q2:s1=s2
           · by_cases q3:gs[i].k=3
             · by_cases q4:s1=wordS
               · have:=hw (by simp [q1,<- q2,q3,q4])
                 simp [this.1,this.2,q1,<- q2,q3,q4]
               · cases w1 <;> cases w2 <;> simp [q1,<- q2,q3,q4]
             · have:=hw (by simp [q1,<- q2,q3])
               simp [this.1,this.2,q1,<- q2,q3]
           · cases w1 <;> cases w2 <;> simp [q1,q2]
 have h0:=hl gs.length 0 (by omega)
 simp only [D1,C3] at h0;rw [e132_0_0];simp only [B6,h0,gusOK];cases gs.all (guOK ops vs) with
 | false=>rfl
 | true =>
  have i1:((gs.length:Int)<=2)↔gs.length<=2:=by omega
  simp only [H1,nv0,nvS,dvI,dvB,dvS,dvL,B5,E1,H1,H2,B6,i1,F4]
theorem r179 (k:Int):∃ s,rn ⟨179,0,0⟩ [.int k]=some (0,[.str s])/\decide (s=e0)=!(decide (1<=k)&&decide (k<=3)):=by
 rw [e179_0_0];simp only [rIn,nv0,nvS,dvI,dvB,dvS,dvL,B5];by_cases h1:1<=k
 · by_cases h2:k<=3
   · obtain h | h | h:k=1\/k=2\/k=3:=by omega
     all_goals subst h; exact ⟨_,rfl,by decide⟩
   · refine ⟨e0,by simp [h1,h2],by simp [h1,h2]⟩
 · refine ⟨e0,by simp [h1],by simp [h1]⟩
theorem r150 (so:Rows) (ops:List OpM) (ho:SigB ops) (vs:List VS) (hv:vs.length<=1099511627776) (g:Gu) (hb:GuB g):rn ⟨150,0,0⟩ [.sl so,.sl (ops.map OpM.row),.int g.k,.int (g.l).k,.int (g.l).n,.str (g.l).s,.sl ((g.l).as.map Tm.row),.int (g.r).k,.int (g.r).n,.str (g.r).s,.sl ((g.r).as.map Tm.row),.sl (vs.map VS.row)]=some (0,[.bool (guOK ops vs g)]):=by
 have h1:=r44 g.l (G6 hb.ln (by decide)) hb.wl
 have h2:=r44 g.r (G6 hb.rn (by decide)) hb.wr
 have h5:=r47 so ops ho vs hv g.l hb.wl;have h6:=r47 so ops ho vs hv g.r hb.wr;obtain ⟨s,h7,h8⟩:=r179 g.k;rw [e150_0_0];simp only [nv0,nvS,dvI,dvB,dvS,dvL,B5,h1,h2,h5,h6,h7,h8];unfold guOK;generalize sortT ops vs g.l=s1;generalize sortT ops vs g.r=s2;cases (decide (1<=g.k)&&decide (g.k<=3)) <;> cases g.l.valid <;> cases g.r.valid <;> try rfl
 by_cases q1:s1=e0
 · simp [q1]
 · by_cases q2:s2=s1
   · by_cases q3:g.k=3 <;> simp [q1,q2,q3]
   · have q2':¬ s1=s2:=fun e=>q2 e.symm
     simp [q1,q2,q2']
theorem r67 (so:Rows) (ops:List OpM) (ho:SigB ops) (r:RuM) (hb:RuB r):rn ⟨67,0,0⟩ [.sl so,.sl (ops.map OpM.row),.str r.n,.int (r.l).k,.int (r.l).n,.str (r.l).s,.sl ((r.l).as.map Tm.row),.int (r.r).k,.int (r.r).n,.str (r.r).s,.sl ((r.r).as.map Tm.row),.sl (r.g.map Gu.row)]=some (0,[.bool (rulOK ops r)]):=by
 have h1:=r128 r.n hb.n;have h2:=r33 r.l (G6 hb.ln (by decide)) hb.wl
 have h3:=r130 r.l hb.wl;have h4:=r33 r.r (G6 hb.rn (by decide)) hb.wr
 have h5:=r68 so ops ho r.l.s;have h7:=r77 r.l hb.ln;have hnl:=names_nodes r.l;have hln:=hb.ln;rw [e67_0_0];simp only [h1,h2,h3,h4,h5,nv0,nvS,dvI,dvB,dvS,dvL,B5];unfold rulOK;cases isNm r.n <;> try rfl
 cases r.l.valid <;> try rfl
 by_cases q:r.l.k=2
 · simp only [q,H3,D8,H2,F4]
   cases lackB r.l <;> try rfl
   cases r.r.valid <;> try rfl
   cases hf:findO ops r.l.s with
   | none=>rfl
   | some o =>
    have h6:=r131 so ops ho r.l hb.wl hb.ln o.r;simp only [q] at h6 h7;simp only [foRes,nv0,nvS,dvI,dvB,dvS,dvL,B5,h6,h7,D8,H2,F4];cases hi:infV ops r.l o.r with
    | none=>rfl
    | some vs =>
     have hvl:=infV_len hi;have h8:=r35 so ops ho vs (by omega) r.r hb.wr
     have h9:=r34 r.r hb.rn r.l.names (maxB (by omega))
     have h10:=r132 so ops ho vs (by omega) r.l.names (maxB (by omega)) (infV_names hi) r.g hb.g hb.ga
     simp only [infVR,nv0,nvS,dvI,dvB,dvS,dvL,B5,h8,h9,h10,D8,H2];by_cases q2:sortT ops vs r.r=o.r
     · cases within r.r r.l.names <;> simp [q2]
     · simp [q2]
 · simp [q]
theorem r88 (so:Rows) (ops:List OpM) (ho:SigB ops) (r:RuM) (hb:RuB r):rn ⟨88,0,0⟩ [.sl so,.sl (ops.map OpM.row),.str r.n,.int (r.l).k,.int (r.l).n,.str (r.l).s,.sl ((r.l).as.map Tm.row),.int (r.r).k,.int (r.r).n,.str (r.r).s,.sl ((r.r).as.map Tm.row),.sl (r.g.map Gu.row)]=some (0,[.bool (rulOK ops r)]):=by
 have h1:=r147 r.n hb.n;have h2:=r44 r.l (G6 hb.ln (by decide)) hb.wl
 have h3:=r148 r.l hb.wl;have h4:=r44 r.r (G6 hb.rn (by decide)) hb.wr
 have h5:=r100 so ops ho r.l.s;have h7:=r46 r.l hb.ln;have h9:=r46 r.r hb.rn;have hnl:=names_nodes r.l;have hnr:=names_nodes r.r;have hsl:=srtN_len r.l.names;have hsr:=srtN_len r.r.names;have hln:=hb.ln;have hrn:=hb.rn;have hgl:=hb.g;have h10:=r45 (srtN r.r.names) (srtN r.l.names) (by omega) (maxB (by omega))
 have hl:∀ vs:List VS,vs.length<=1099511627776->∀ n i,i+n=r.g.length->rn ⟨88,0,1⟩ [.int (i:Int),.sl so,.sl (ops.map OpM.row),.str r.n,.int (r.l).k,.int (r.l).n,.str (r.l).s,.sl ((r.l).as.map Tm.row),.int (r.r).k,.int (r.r).n,.str (r.r).s,.sl ((r.r).as.map Tm.row),.sl (r.g.map Gu.row),.sl (vs.map VS.row)]=bif (r.g.drop i).all (guOK ops vs) then some (0,[]) else some (1,[]):=by
  intro vs hv n;induction n with
  | zero =>
   intro i hi;obtain rfl:i=r.g.length:=by omega
   rw [e88_0_1];simp only [B6,C0,D5,H4,H2,C8,N1,H1]
  | succ n ih =>
   intro i hi;have hlt:i<r.g.length:=by omega
   rw [e88_0_1,B9 hlt];have h1:=r150 so ops ho vs hv r.g[i] (hb.ga _ (C2 hlt));simp only [B6,C0,hlt,H3,H1,inbN,B8,rowAt_map hlt,wrap_succ hlt (maxB (by omega)),Gu.row,nv0,nvS,dvI,dvB,dvS,dvL,B5,h1,ih (i+1) (by omega),J6]
   cases guOK ops vs r.g[i] <;> simp
 rw [e88_0_0];simp only [h1,h2,h3,h4,h5,nv0,nvS,dvI,dvB,dvS,dvL,B5,B6];unfold rulOK;cases isNm r.n <;> try rfl
 cases r.l.valid <;> try rfl
 by_cases q:r.l.k=2
 · simp only [q,H3,D8,H2,F4,Bool.not_not]
   cases r.r.valid
   · cases lackB r.l <;> rfl
   · cases lackB r.l <;> try rfl
     simp only [D8,H2,F4];by_cases q5:r.g.length<=2
     · have q5':¬((2:Int)<(r.g.length:Int)):=by omega
       cases hf:findO ops r.l.s with
       | none =>
        have h6:=r149 so ops ho r.l hb.wl hb.ln e0;have:infV ops r.l e0=none:=by unfold infV; cases infT ops r.l e0 [] <;> simp
        rw [this] at h6;simp only [q] at h6;simp only [foRes,nv0,nvS,dvI,dvB,dvS,dvL,B5,h6,q5',H4,H2,infVR,K0,H1]
       | some o =>
        have h6:=r149 so ops ho r.l hb.wl hb.ln o.r;simp only [q] at h6 h7 hl;simp only [foRes,nv0,nvS,dvI,dvB,dvS,dvL,B5,h6,q5',H4,H2];cases hi:infV ops r.l o.r with
        | none=>rfl
        | some vs =>
         have hvl:=infV_len hi;have h8:=r47 so ops ho vs (by omega) r.r hb.wr
         have h11:=hl vs (by omega) r.g.length 0 (by omega)
         simp only [D1,C3] at h11;simp only [infVR,nv0,nvS,dvI,dvB,dvS,dvL,B5,h8,h7,h9,h10,B6,h11,D8,H2];by_cases q2:sortT ops vs r.r=o.r
         · have hw:=wo_srt r.r r.l
           cases hw2:within r.r r.l.names with
           | true =>
            rw [hw2] at hw;have:(wo (srtN r.r.names) (srtN r.l.names)).length=0:=hw.2 rfl;simp only [q2,this,H3,D8,H2,C3,Int.lt_irrefl,H4,gusOK,q5,N0,F4];cases r.g.all (guOK ops vs) <;> rfl
           | false =>
            rw [hw2] at hw;have:¬(wo (srtN r.r.names) (srtN r.l.names)).length=0:=fun h=>by have:=hw.1 h; simp at this
            have:0<(wo (srtN r.r.names) (srtN r.l.names)).length:=by omega
            simp [q2,this]
         · simp [q2]
     · have q5':((2:Int)<(r.g.length:Int)):=by omega
       simp only [q5',H3,H1,gusOK,q5,H4,Bool.and_false];cases findO ops r.l.s with
       | none=>rfl
       | some o =>
        dsimp only;cases infV ops r.l o.r <;> rfl
 · cases r.r.valid <;> simp [q]
end Go.Q.S
end
section
namespace Go.Q.S
open Go Go.Q Go.Proofs
def inSt (l:List StM) (x:StM):Bool:=l.any fun y=>decide (y.o=x.o)&&decide (y.a=x.a)
theorem rContSt (l:List StM) (hl:l.length<=maxLen) (x:StM):rn ⟨70,0,0⟩ [.sl (l.map StM.row),.str x.o,.int x.a]=some (0,[.bool (inSt l x)]):=by
 have key:∀ n i,i+n=l.length->(inSt (l.drop i) x=false/\rn ⟨134,0,1⟩ [.sl (l.map StM.row),.int (l.length:Int),.int (i:Int),.str x.o,.int x.a]=some (0,[]))\/(inSt (l.drop i) x=true/\∃ j:Nat,rn ⟨134,0,1⟩ [.sl (l.map StM.row),.int (l.length:Int),.int (i:Int),.str x.o,.int x.a]=some (1,[.int (j:Int)])):=by
  intro n;induction n with
  | zero =>
   intro i hi;obtain rfl:i=l.length:=by omega
   rw [e134_0_1];simp only [B6,C0,D5,H4,H2,C8];exact .inl ⟨rfl,trivial⟩
  | succ n ih =>
   intro i hi;have hlt:i<l.length:=by omega
   rw [e134_0_1,B9 hlt];simp only [B6,C0,hlt,H3,H1,inbN,B8,rowAt_map hlt,wrap_succ hlt hl,StM.row,nv0,nvS,dvI,dvB,dvS,dvL,B5,inSt,List.any_cons];by_cases h1:l[i].o=x.o
   · by_cases h2:l[i].a=x.a
     · right
       refine ⟨by simp [h1,h2],i,by simp [h1,h2]⟩
     · have h2':¬ x.a=l[i].a:=fun e=>h2 e.symm
       have:=ih (i+1) (by omega)
       simpa [h1,h2,h2',inSt] using this
   · have h1':¬ x.o=l[i].o:=fun e=>h1 e.symm
     have:=ih (i+1) (by omega)
     simpa [h1,h1',inSt] using this
 have h:=key l.length 0 (by omega)
 simp only [D1,C3] at h;rw [e70_0_0,e134_0_0];simp only [B6];rcases h with ⟨h1,h2⟩|⟨h1,j,h2⟩
 · rw [h2,h1]; rfl
 · rw [h2,h1]
   simp only [nv0,nvS,dvI,dvB,dvS,dvL,B5,E1,H1,H2,show F1 1 0=false from rfl]
   have:(0:Int)<=(j:Int):=by omega
   simp [this]
theorem stOK_eq (ops:List OpM) (s:StM):stOK ops s=match findO ops s.o with
 | none=>false
 | some o=>!isB s.o&&(decide (0<=s.a)&&decide (s.a<o.a.length)):=rfl
theorem strOK_step (ops:List OpM) (l:List StM) {i:Nat} (h:i<l.length):strOK ops (l.take i) (l.drop i)=(stOK ops l[i]&&(!inSt (l.take i) l[i]&&strOK ops (l.take (i+1)) (l.drop (i+1)))):=by
 rw [B9 h];simp only [strOK,inSt];rw [List.take_add_one,F5 h]; rfl
theorem r30 (d:DfM) (hb:DfB d):rn ⟨30,0,0⟩ [.sl (d.so.map sRow),.sl (d.op.map OpM.row),.sl (d.ru.map RuM.row),.sl (d.st.map StM.row)]=some (0,[.bool d.valid]):=by
 have hrl:=hb.ru;have hsl:=hb.st;have hl1:∀ n i (acc:List ByteArray),i+n=d.ru.length->acc.length<=i->rn ⟨30,0,1⟩ [.sl (d.ru.map RuM.row),.int (d.ru.length:Int),.int (i:Int),.sl (d.so.map sRow),.sl (d.op.map OpM.row),.sl (d.ru.map RuM.row),.sl (d.st.map StM.row),.sl (acc.map sRow)]=bif (d.ru.drop i).all (rulOK d.op) then some (0,[.sl (d.so.map sRow),.sl (d.op.map OpM.row),.sl (d.ru.map RuM.row),.sl (d.st.map StM.row),.sl ((acc++(d.ru.drop i).map (·.n)).map sRow)]) else some (1,[]):=by
  intro n;induction n with
  | zero =>
   intro i acc hi ha;obtain rfl:i=d.ru.length:=by omega
   rw [e30_0_1];simp only [B6,C0,D5,H4,H2,C8,N1,H1,D4,G9]
  | succ n ih =>
   intro i acc hi ha;have hlt:i<d.ru.length:=by omega
   rw [e30_0_1,B9 hlt];have h1:=r67 (d.so.map sRow) d.op hb.op d.ru[i] (hb.rua _ (C2 hlt));have hb2:E9 (acc.length+1) M63=true:=nb (by omega)
   have h6:=ih (i+1) (acc++[d.ru[i].n]) (by omega) (by simp; omega)
   simp only [D6,C6,D4,sRow] at h6;simp only [B6,C0,hlt,H3,H1,inbN,B8,rowAt_map hlt,wrap_succ hlt (maxB (by omega)),RuM.row,nv0,nvS,dvI,dvB,dvS,dvL,B5,h1,C1,C7,D2,hb2,h6,J6]
   cases rulOK d.op d.ru[i] with
   | false=>rfl
   | true=>simp only [D6,C6,D7,G8,E5,sRow,D8,H2,H1,F4]
 have hl3:∀ (x5 x7:Rows) n i,i+n=d.st.length->rn ⟨30,0,3⟩ [.sl (d.st.map StM.row),.int (d.st.length:Int),.int (i:Int),.sl (d.so.map sRow),.sl (d.op.map OpM.row),.sl x5,.sl (d.st.map StM.row),.sl x7]=bif strOK d.op (d.st.take i) (d.st.drop i) then some (0,[.sl x7]) else some (1,[]):=by
  intro x5 x7 n;induction n with
  | zero =>
   intro i hi;obtain rfl:i=d.st.length:=by omega
   rw [e30_0_3];simp only [B6,C0,D5,H4,H2,C8,strOK,H1]
  | succ n ih =>
   intro i hi;have hlt:i<d.st.length:=by omega
   rw [e30_0_3,strOK_step d.op d.st hlt,stOK_eq];have h1:=r68 (d.so.map sRow) d.op hb.op d.st[i].o;have h3:=rContSt (d.st.take i) (maxB (by rw [Q0]; omega)) d.st[i]
   simp only [B6,C0,hlt,H3,H1,inbN,B8,rowAt_map hlt,wrap_succ hlt (maxB (by omega)),StM.row,nv0,nvS,dvI,dvB,dvS,dvL,B5,h1,r69,ih (i+1) (by omega)]
   cases hf:findO d.op d.st[i].o with
   | none=>rfl
   | some o =>
    simp only [foRes,nv0,nvS,dvI,dvB,dvS,dvL,B5,B6,D8,H2];cases isB d.st[i].o
    · by_cases q1:0<=d.st[i].a
      · have q1':¬ d.st[i].a<0:=by omega
        by_cases q2:d.st[i].a<o.a.length
        · have q2':¬(o.a.length:Int)<=d.st[i].a:=by omega
          have q3:(0:Int)<=(i:Int):=by omega
          have q4:(i:Int)<=(d.st.length:Int):=by omega
          simp only [q1,q1',q2,q2',q3,q4,Int.le_refl,H3,H4,H1,H2,N0,K0,F4,B8,show O5 0=0 from rfl,D1,<- List.map_take,h3,nv0,nvS,dvI,dvB,dvS,dvL,B5]
          cases inSt (d.st.take i) d.st[i] <;> simp
        · have q2':(o.a.length:Int)<=d.st[i].a:=by omega
          simp [q1,q1',q2,q2']
      · have q1':d.st[i].a<0:=by omega
        simp [q1,q1']
    · rfl
 have hd:=r31 (d.ru.map (·.n)) (by rw [B6]; omega)
 have hg:=r66 d.so hb.so hb.sos d.op hb.op hb.opn;have h1:=hl1 d.ru.length 0 [] (by omega) (J9 _)
 have h3:=fun x5 x7=>hl3 x5 x7 d.st.length 0 (by omega)
 simp only [D1,T6,C3,D4,E5] at h1 h3;rw [e30_0_0];simp only [B6,hg,nv0,nvS,dvI,dvB,dvS,dvL,B5];unfold DfM.valid;cases sigOK d.so d.op
 · rfl
 · by_cases q1:d.ru.length<=16
   · have q1':¬((16:Int)<(d.ru.length:Int)):=by omega
     by_cases q2:d.st.length<=8
     · have q2':¬((8:Int)<(d.st.length:Int)):=by omega
       simp only [q1,q1',q2,q2',H3,H4,H1,H2,F4,D8,h1];cases d.ru.all (rulOK d.op)
       · rfl
       · simp only [H1,nv0,nvS,dvI,dvB,dvS,dvL,B5,E1,H1,H2,B6,h3,F4]
         cases strOK d.op [] d.st
         · rfl
         · simp only [H1,nv0,nvS,dvI,dvB,dvS,dvL,B5,E1,H1,H2,hd,F4]
     · have q2':((8:Int)<(d.st.length:Int)):=by omega
       simp [q1,q1',q2,q2']
   · have q1':((16:Int)<(d.ru.length:Int)):=by omega
     simp [q1,q1']
theorem r91 (d:DfM) (hb:DfB d):rn ⟨91,0,0⟩ [.sl (d.so.map sRow),.sl (d.op.map OpM.row),.sl (d.ru.map RuM.row),.sl (d.st.map StM.row)]=some (0,[.bool (strOK d.op [] d.st&&decide (d.st.length<=8))]):=by
 have hsl:=hb.st;have hl3:∀ (x0:Nat),x0<=d.st.length->∀ (x:StM) (x2:ByteArray) (x3:Bool) (x4 x5 x6:Int) (x7 x8:Bool) (x15 x16:ByteArray) (x17:Rows),∀ n j,j+n=x0->rn ⟨91,0,3⟩ [.int (x0:Int),.int (j:Int),.str x2,.bool x3,.int x4,.int x5,.int x6,.bool x7,.bool x8,.sl (d.so.map sRow),.sl (d.op.map OpM.row),.sl (d.ru.map RuM.row),.sl (d.st.map StM.row),.str x.o,.int x.a,.str x15,.str x16,.sl x17]=bif inSt ((d.st.take x0).drop j) x then some (1,[]) else some (0,[.int (x0:Int),.str x2,.bool x3,.int x4,.int x5,.int x6,.bool x7,.bool x8,.sl (d.so.map sRow),.sl (d.op.map OpM.row),.sl (d.ru.map RuM.row),.sl (d.st.map StM.row),.str x.o,.int x.a,.str x15,.str x16,.sl x17]):=by
  intro x0 hx0 x x2 x3 x4 x5 x6 x7 x8 x15 x16 x17 n;induction n with
  | zero =>
   intro j hj;obtain rfl:j=x0:=by omega
   rw [e91_0_3];have:((d.st.take j).drop j)=[]:=N8 (by rw [Q0]; omega)
   simp only [this,Int.lt_irrefl,H4,H2,inSt,List.any_nil]
  | succ n ih =>
   intro j hj;have hlt0:j<(d.st.take x0).length:=by rw [Q0]; omega
   have hlt:j<d.st.length:=by omega
   have hltx:j<x0:=by omega
   rw [e91_0_3,B9 hlt0,List.getElem_take];simp only [B6,C0,hlt,H3,H1,inbN,B8,rowAt_map hlt,wrap_succ hlt (maxB (by omega)),hltx,StM.row,nv0,nvS,dvI,dvB,dvS,dvL,B5,ih (j+1) (by omega)]
   simp only [inSt,List.any_cons];by_cases h1:d.st[j].o=x.o
   · by_cases h2:d.st[j].a=x.a <;> simp [h1,h2]
   · simp [h1]
 have hl1:∀ n i,i+n=d.st.length->rn ⟨91,0,1⟩ [.int (i:Int),.sl (d.so.map sRow),.sl (d.op.map OpM.row),.sl (d.ru.map RuM.row),.sl (d.st.map StM.row)]=bif strOK d.op (d.st.take i) (d.st.drop i) then some (0,[.sl (d.so.map sRow),.sl (d.op.map OpM.row),.sl (d.ru.map RuM.row),.sl (d.st.map StM.row)]) else some (1,[]):=by
  intro n;induction n with
  | zero =>
   intro i hi;obtain rfl:i=d.st.length:=by omega
   rw [e91_0_1];simp only [B6,C0,D5,H4,H2,C8,strOK,H1]
  | succ n ih =>
   intro i hi;have hlt:i<d.st.length:=by omega
   rw [e91_0_1,strOK_step d.op d.st hlt,stOK_eq];have h1:=r100 (d.so.map sRow) d.op hb.op d.st[i].o;have h3:=fun x2 x3 x4 x5 x6 x7 x8 x15 x16 x17=>hl3 i (by omega) d.st[i] x2 x3 x4 x5 x6 x7 x8 x15 x16 x17 i 0 (by omega)
   simp only [D1,C3] at h3;simp only [B6,C0,hlt,H3,H1,inbN,B8,rowAt_map hlt,wrap_succ hlt (maxB (by omega)),StM.row,nv0,nvS,dvI,dvB,dvS,dvL,B5,h1,r103,rIn]
   cases hf:findO d.op d.st[i].o with
   | none=>rfl
   | some o =>
    have hoa:o.a.length<=1048576:=findO_ok hb.op.a hf;simp only [foRes,nv0,nvS,dvI,dvB,dvS,dvL,B5,B6,D8,H2];rw [IntWalk.i64_in _ (by omega)]
    cases isB d.st[i].o
    · by_cases q1:0<=d.st[i].a
      · by_cases q2:d.st[i].a<o.a.length
        · have q2':d.st[i].a<=(o.a.length:Int)-1:=by omega
          simp only [q1,q2,q2',H3,H1,H2,N0,K0,D8,F4,h3];cases inSt (d.st.take i) d.st[i] with
          | true=>rfl
          | false=>simp only [H2,nv0,nvS,dvI,dvB,dvS,dvL,B5,E1,H1,H2,wrap_succ hlt (maxB (by omega)),ih (i+1) (by omega),K0,F4]
        · have q2':¬ d.st[i].a<=(o.a.length:Int)-1:=by omega
          simp [q1,q2,q2']
      · simp [q1]
    · rfl
 have h1:=hl1 d.st.length 0 (by omega)
 simp only [D1,T6,C3] at h1;rw [e91_0_0,h1];have i1:((d.st.length:Int)<=8)↔d.st.length<=8:=by omega
 cases strOK d.op [] d.st with
 | false=>rfl
 | true=>simp only [H1,nv0,nvS,dvI,dvB,dvS,dvL,B5,E1,H1,H2,B6,i1,F4]
theorem r42 (d:DfM) (hb:DfB d):rn ⟨42,0,0⟩ [.sl (d.so.map sRow),.sl (d.op.map OpM.row),.sl (d.ru.map RuM.row),.sl (d.st.map StM.row)]=some (0,[.bool d.valid]):=by
 have hrl:=hb.ru;have hl1:∀ n i (acc:List ByteArray),i+n=d.ru.length->acc.length<=i->rn ⟨42,0,1⟩ [.int (i:Int),.sl (d.so.map sRow),.sl (d.op.map OpM.row),.sl (d.ru.map RuM.row),.sl (d.st.map StM.row),.sl (acc.map sRow)]=bif (d.ru.drop i).all (rulOK d.op) then some (0,[.sl (d.so.map sRow),.sl (d.op.map OpM.row),.sl (d.ru.map RuM.row),.sl (d.st.map StM.row),.sl ((acc++(d.ru.drop i).map (·.n)).map sRow)]) else some (1,[]):=by
  intro n;induction n with
  | zero =>
   intro i acc hi ha;obtain rfl:i=d.ru.length:=by omega
   rw [e42_0_1];simp only [B6,C0,D5,H4,H2,C8,N1,H1,D4,G9]
  | succ n ih =>
   intro i acc hi ha;have hlt:i<d.ru.length:=by omega
   rw [e42_0_1,B9 hlt];have h1:=r88 (d.so.map sRow) d.op hb.op d.ru[i] (hb.rua _ (C2 hlt));have hb2:E9 (acc.length+1) M63=true:=nb (by omega)
   have h6:=ih (i+1) (acc++[d.ru[i].n]) (by omega) (by simp; omega)
   simp only [D6,C6,D4,sRow] at h6;simp only [B6,C0,hlt,H3,H1,inbN,B8,rowAt_map hlt,wrap_succ hlt (maxB (by omega)),RuM.row,nv0,nvS,dvI,dvB,dvS,dvL,B5,h1,C1,C7,D2,hb2,h6,J6]
   cases rulOK d.op d.ru[i] with
   | false=>rfl
   | true=>simp only [D6,C6,D7,G8,E5,sRow,D8,H2,H1,F4]
 have hd:=r90 (d.ru.map (·.n)) (by rw [B6]; exact maxB (by omega))
 have hg:=r89 d.so hb.so hb.sos d.op hb.op hb.opn;have hs:=r91 d hb;have h1:=hl1 d.ru.length 0 [] (by omega) (J9 _)
 simp only [D1,C3,D4,E5] at h1;have i1:((d.ru.length:Int)<=16)↔d.ru.length<=16:=by omega
 rw [e42_0_0,h1];unfold DfM.valid;cases d.ru.all (rulOK d.op) with
 | false=>cases sigOK d.so d.op <;> cases decide (d.ru.length<=16) <;> cases decide (d.st.length<=8) <;> rfl
 | true =>
  simp only [H1,nv0,nvS,dvI,dvB,dvS,dvL,B5,E1,H1,H2,B6,hd,hg,hs,i1,F4];cases sigOK d.so d.op <;> cases decide (d.ru.length<=16) <;> cases decide (d.st.length<=8) <;> cases strOK d.op [] d.st <;> cases dis (d.ru.map (·.n)) <;> rfl
end Go.Q.S
end
section
namespace Go.Q.S
open Go Go.Q Go.Proofs
theorem r36 (vars:List ByteArray) (hv:vars.length<=1048576):rn ⟨36,0,0⟩ [.sl (vars.map sRow)]=some (0,[.sl ((wv vars).map VS.row)]):=by
 have hl:∀ n i (acc:List VS),i+n=vars.length->acc.length<=i->rn ⟨36,0,1⟩ [.sl (vars.map sRow),.int (vars.length:Int),.int (i:Int),.sl (acc.map VS.row)]=some (0,[.sl ((acc++wv (vars.drop i)).map VS.row)]):=by
  intro n;induction n with
  | zero =>
   intro i acc hi ha;obtain rfl:i=vars.length:=by omega
   rw [e36_0_1];simp only [B6,C0,D5,H4,H2,C8,wv,D4,G9]
  | succ n ih =>
   intro i acc hi ha;have hlt:i<vars.length:=by omega
   rw [e36_0_1,B9 hlt];have hb2:E9 (acc.length+1) M63=true:=nb (by omega)
   have h6:=ih (i+1) (acc++[(vars[i],wordS)]) (by omega) (by simp; omega)
   simp only [D6,C6,D4,VS.row] at h6;simp only [B6,C0,hlt,H3,H1,inbN,B8,rowAt_map hlt,wrap_succ hlt (maxB (by omega)),sRow,nv0,nvS,dvI,dvB,dvS,dvL,B5,C1,C7,D2,hb2,h6]
   simp only [wv,D6,C6,D7,G8,E5,VS.row]
 have h:=hl vars.length 0 [] (by omega) (J9 _)
 simp only [D1,C3,D4,E5] at h;rw [e36_0_0];simp only [B6,h,nv0,nvS,dvI,dvB,dvS,dvL,B5,E1,H1,H2]
theorem r48 (vars:List ByteArray) (hv:vars.length<=1048576):rn ⟨48,0,0⟩ [.sl (vars.map sRow)]=some (0,[.sl ((wv vars).map VS.row)]):=by
 have hl:∀ n i (acc:List VS),i+n=vars.length->acc.length<=i->rn ⟨48,0,1⟩ [.sl (vars.map sRow),.int (i:Int),.sl (acc.map VS.row)]=some (0,[.sl ((acc++wv (vars.drop i)).map VS.row)]):=by
  intro n;induction n with
  | zero =>
   intro i acc hi ha;obtain rfl:i=vars.length:=by omega
   rw [e48_0_1];simp only [B6,C0,D5,H4,H2,C8,wv,D4,G9]
  | succ n ih =>
   intro i acc hi ha;have hlt:i<vars.length:=by omega
   rw [e48_0_1,B9 hlt];have hb2:E9 (acc.length+1) M63=true:=nb (by omega)
   have h6:=ih (i+1) (acc++[(vars[i],wordS)]) (by omega) (by simp; omega)
   simp only [D6,C6,D4,VS.row] at h6;simp only [B6,C0,hlt,H3,H1,inbN,B8,rowAt_map hlt,wrap_succ hlt (maxB (by omega)),sRow,nv0,nvS,dvI,dvB,dvS,dvL,B5,C1,C7,D2,hb2,h6]
   simp only [wv,D6,C6,D7,G8,E5,VS.row]
 have h:=hl vars.length 0 [] (by omega) (J9 _)
 simp only [D1,C3,D4,E5] at h;rw [e48_0_0];simp only [h,nv0,nvS,dvI,dvB,dvS,dvL,B5,E1,H1,H2]
theorem r16 (d:DfM) (hb:DfB d) (vars:List ByteArray) (hv:vars.length<=1048576) (hvs:∀ x∈vars,x.size<=maxLen) (t:Tm) (hw:Wt t) (hn:t.nodes<=1048577):rn ⟨16,0,0⟩ [.sl (d.so.map sRow),.sl (d.op.map OpM.row),.sl (d.ru.map RuM.row),.sl (d.st.map StM.row),.sl (vars.map sRow),.int t.k,.int t.n,.str t.s,.sl (t.as.map Tm.row),.sl []]=some (0,[.bool (symV d vars t)]):=by
 have hl1:∀ n i,i+n=vars.length->rn ⟨16,0,1⟩ [.sl (vars.map sRow),.int (vars.length:Int),.int (i:Int),.sl (d.so.map sRow),.sl (d.op.map OpM.row),.sl (d.ru.map RuM.row),.sl (d.st.map StM.row),.sl (vars.map sRow),.int t.k,.int t.n,.str t.s,.sl (t.as.map Tm.row),.sl []]=bif (vars.drop i).all isVr then some (0,[.sl (d.so.map sRow),.sl (d.op.map OpM.row),.sl (d.ru.map RuM.row),.sl (d.st.map StM.row),.sl (vars.map sRow),.int t.k,.int t.n,.str t.s,.sl (t.as.map Tm.row),.sl []]) else some (1,[]):=by
  intro n;induction n with
  | zero =>
   intro i hi;obtain rfl:i=vars.length:=by omega
   rw [e16_0_1];simp only [B6,C0,D5,H4,H2,C8,N1,H1]
  | succ n ih =>
   intro i hi;have hlt:i<vars.length:=by omega
   rw [e16_0_1,B9 hlt];have h1:=r32 vars[i] (hvs _ (C2 hlt));simp only [B6,C0,hlt,H3,H1,inbN,B8,rowAt_map hlt,wrap_succ hlt (maxB (by omega)),sRow,nv0,nvS,dvI,dvB,dvS,dvL,B5,h1,ih (i+1) (by omega),J6]
   cases isVr vars[i] <;> rfl
 have h1:=hl1 vars.length 0 (by omega)
 simp only [D1,C3] at h1;have hl3:∀ a b c:Rows,∀ k n:Int,∀ s:ByteArray,rn ⟨16,0,3⟩ [.sl [],.int 0,.int 0,.sl a,.int k,.int n,.str s,.sl b,.sl c]=some (0,[]):=fun a b c k n s=>by
  rw [e16_0_3]; rfl
 have h2:=r30 d hb;have h3:=r31 vars hv;have h4:=r33 t (by omega) hw
 have h5:=r34 t hn vars (maxB (by omega))
 have h6:=r36 vars hv;have h7:=r35 (d.so.map sRow) d.op hb.op (wv vars) (by unfold wv; rw [B6]; omega) t hw
 rw [e16_0_0];simp only [B6,h2,h3,nv0,nvS,dvI,dvB,dvS,dvL,B5];unfold symV;cases d.valid
 · rfl
 · by_cases q1:vars.length<=3
   · have q1':¬((3:Int)<(vars.length:Int)):=by omega
     simp only [q1,q1',H3,H4,H2,F4,D8];cases dis vars
     · rfl
     · simp only [D8,H2,h1,F4]
       cases vars.all isVr
       · rfl
       · simp only [H1,nv0,nvS,dvI,dvB,dvS,dvL,B5,E1,H1,H2,h4,h5,h6,h7,F4]
         cases t.valid
         · rfl
         · cases within t vars
           · rfl
           · by_cases q2:sortT d.op (wv vars) t=e0
             · simp [q2]
             · simp only [q2,D8,K0,H2,H4,C7,C3,hl3,nv0,nvS,dvI,dvB,dvS,dvL,B5,E1,H1,H2,F4]
   · have q1':((3:Int)<(vars.length:Int)):=by omega
     simp [q1,q1']
theorem r43 (vars:List ByteArray) (hv:vars.length<=1048576) (hvs:∀ x∈vars,x.size<=maxLen):rn ⟨43,0,0⟩ [.sl (vars.map sRow)]=some (0,[.bool (decide (vars.length<=3)&&(dis vars&&vars.all isVr))]):=by
 have hl1:∀ n i,i+n=vars.length->rn ⟨43,0,1⟩ [.sl (vars.map sRow),.int (i:Int)]=bif (vars.drop i).all isVr then some (0,[.sl (vars.map sRow)]) else some (1,[]):=by
  intro n;induction n with
  | zero =>
   intro i hi;obtain rfl:i=vars.length:=by omega
   rw [e43_0_1];simp only [B6,C0,D5,H4,H2,C8,N1,H1]
  | succ n ih =>
   intro i hi;have hlt:i<vars.length:=by omega
   rw [e43_0_1,B9 hlt];have h1:=r92 vars[i] (hvs _ (C2 hlt));simp only [B6,C0,hlt,H3,H1,inbN,B8,rowAt_map hlt,wrap_succ hlt (maxB (by omega)),sRow,nv0,nvS,dvI,dvB,dvS,dvL,B5,h1,ih (i+1) (by omega),J6]
   cases isVr vars[i] <;> rfl
 have h1:=hl1 vars.length 0 (by omega)
 simp only [D1,C3] at h1;have h3:=r90 vars (maxB (by omega))
 have i1:((vars.length:Int)<=3)↔vars.length<=3:=by omega
 rw [e43_0_0,h1];cases vars.all isVr with
 | false=>cases decide (vars.length<=3) <;> cases dis vars <;> rfl
 | true =>
  simp only [H1,nv0,nvS,dvI,dvB,dvS,dvL,B5,E1,H1,H2,B6,i1,h3,N0];cases decide (vars.length<=3) <;> rfl
theorem r18 (d:DfM) (hb:DfB d) (vars:List ByteArray) (hv:vars.length<=1048576) (hvs:∀ x∈vars,x.size<=maxLen) (t:Tm) (hw:Wt t) (hn:t.nodes<=1048577):rn ⟨18,0,0⟩ [.sl (d.so.map sRow),.sl (d.op.map OpM.row),.sl (d.ru.map RuM.row),.sl (d.st.map StM.row),.sl (vars.map sRow),.int t.k,.int t.n,.str t.s,.sl (t.as.map Tm.row),.sl []]=some (0,[.bool (symV d vars t)]):=by
 have hl1:∀ a:List D,rn ⟨18,0,1⟩ [.int 0,.sl (d.so.map sRow),.sl (d.op.map OpM.row),.sl (d.ru.map RuM.row),.sl (d.st.map StM.row),.sl (vars.map sRow),.int t.k,.int t.n,.str t.s,.sl (t.as.map Tm.row),.sl []]=some (0,[.sl (d.so.map sRow),.sl (d.op.map OpM.row),.sl (d.ru.map RuM.row),.sl (d.st.map StM.row),.sl (vars.map sRow),.int t.k,.int t.n,.str t.s,.sl (t.as.map Tm.row),.sl []]):=fun _=>by
  rw [e18_0_1]; rfl
 have h1:=hl1 [];have h2:=r42 d hb;have h3:=r43 vars hv hvs;have h4:=r44 t (by omega) hw
 have hnt:=names_nodes t;have hsl:=srtN_len t.names;have h5:=r46 t hn;have h5':=r45 (srtN t.names) vars (by omega) (maxB (by omega))
 have h6:=r48 vars hv;have h7:=r47 (d.so.map sRow) d.op hb.op (wv vars) (by unfold wv; rw [B6]; omega) t hw
 rw [e18_0_0];simp only [B6,h1,h2,h3,h4,h5,h5',h6,h7,nv0,nvS,dvI,dvB,dvS,dvL,B5,E1,H1,H2];unfold symV;cases d.valid <;> try rfl
 cases decide (vars.length<=3) <;> try rfl
 cases dis vars <;> try rfl
 cases vars.all isVr <;> try rfl
 cases t.valid <;> try rfl
 have hw:=wo_srt' t vars;cases hw2:within t vars with
 | true =>
  rw [hw2] at hw;have:(wo (srtN t.names) vars).length=0:=hw.2 rfl;simp [this]
 | false =>
  rw [hw2] at hw;have:¬(wo (srtN t.names) vars).length=0:=fun h=>by have:=hw.1 h; simp at this
  have:0<(wo (srtN t.names) vars).length:=by omega
  simp [this]
end Go.Q.S
end
section
namespace Go.Q.S
open Go Go.Q Go.Proofs
theorem rCloneT (xs:Rows) (h:xs.length<=274877906944):rn ⟨199,0,0⟩ [.sl xs]=some (0,[.sl xs]):=by
 rw [e199_0_0];have hb:E9 (([]:Rows).length+xs.length) M63=true:=E7 (by unfold M63; simpa using h)
 rw [hb];cases xs with
 | nil=>simp [both]
 | cons x xs=>rfl
theorem r173 (a b c:Rows) (st:List StM) (hst:st.length<=1048576) (s:ByteArray):rn ⟨173,0,0⟩ [.sl a,.sl b,.sl c,.sl (st.map StM.row),.str s]=some (0,[.sl ((strA st s).map iRow)]):=by
 have key:∀ n i (acc:List Int),i+n=st.length->acc.length<=i->rn ⟨173,0,1⟩ [.str s,.sl (st.map StM.row),.int (st.length:Int),.int (i:Int),.sl (acc.map iRow)]=some (0,[.sl ((acc++strA (st.drop i) s).map iRow)]):=by
  intro n;induction n with
  | zero =>
   intro i acc hi ha;obtain rfl:i=st.length:=by omega
   rw [e173_0_1];simp only [B6,C0,D5,H4,H2,C8,strA,List.filter_nil,D4,G9]
  | succ n ih =>
   intro i acc hi ha;have hlt:i<st.length:=by omega
   rw [e173_0_1,B9 hlt,strA_cons];have hb2:E9 (acc.length+1) M63=true:=nb (by omega)
   have h1:=ih (i+1) (acc++[st[i].a]) (by omega) (by simp; omega)
   have h2:=ih (i+1) acc (by omega) (by omega)
   simp only [D6,C6,D4,iRow] at h1 h2;simp only [B6,C0,hlt,H3,H1,inbN,B8,rowAt_map hlt,wrap_succ hlt (maxB (by omega)),StM.row,nv0,nvS,dvI,dvB,dvS,dvL,B5,C1,C7,D2,hb2,iRow]
   by_cases hq:st[i].o=s
   · simp only [hq,H3,H1,if_true,h1,D6,C6,D7,G8,E5,iRow]
   · simp only [hq,H4,H2,if_false,h2,D6,iRow]
 have h:=key st.length 0 [] (by omega) (J9 _)
 rw [e173_0_0];simp only [C3,D4,D1,E5,B6] at h ⊢;simp only [h,nv0,nvS,dvI,dvB,dvS,dvL,B5,E1,H1,H2]
theorem r110 (a b c:Rows) (st:List StM) (hst:st.length<=1048576) (s:ByteArray):rn ⟨110,0,0⟩ [.sl a,.sl b,.sl c,.sl (st.map StM.row),.str s]=some (0,[.sl ((strA st s).map iRow)]):=by
 have key:∀ n i (acc:List Int),i+n=st.length->acc.length<=i->rn ⟨110,0,1⟩ [.str s,.int (i:Int),.sl a,.sl b,.sl c,.sl (st.map StM.row),.sl (acc.map iRow)]=some (0,[.sl ((acc++strA (st.drop i) s).map iRow)]):=by
  intro n;induction n with
  | zero =>
   intro i acc hi ha;obtain rfl:i=st.length:=by omega
   rw [e110_0_1];simp only [B6,C0,D5,H4,H2,C8,strA,List.filter_nil,D4,G9]
  | succ n ih =>
   intro i acc hi ha;have hlt:i<st.length:=by omega
   rw [e110_0_1,B9 hlt,strA_cons];have hb2:E9 (acc.length+1) M63=true:=nb (by omega)
   have h1:=ih (i+1) (acc++[st[i].a]) (by omega) (by simp; omega)
   have h2:=ih (i+1) acc (by omega) (by omega)
   simp only [D6,C6,D4,iRow] at h1 h2;simp only [B6,C0,hlt,H3,H1,inbN,B8,rowAt_map hlt,wrap_succ hlt (maxB (by omega)),StM.row,nv0,nvS,dvI,dvB,dvS,dvL,B5,C1,C7,D2,hb2,iRow]
   by_cases hq:st[i].o=s
   · simp only [hq,H3,H1,if_true,h1,D6,C6,D7,G8,E5,iRow]
   · simp only [hq,H4,H2,if_false,h2,D6,iRow]
 have h:=key st.length 0 [] (by omega) (J9 _)
 rw [e110_0_0];simp only [C3,D4,D1,E5] at h ⊢;simp only [h,nv0,nvS,dvI,dvB,dvS,dvL,B5,E1,H1,H2]
theorem r141 (d:DfM) (hb:DfB d) (t:Tm):rn ⟨141,0,0⟩ [.sl (d.so.map sRow),.sl (d.op.map OpM.row),.sl (d.ru.map RuM.row),.sl (d.st.map StM.row),.int t.k,.int t.n,.str t.s,.sl (t.as.map Tm.row)]=some (0,[.sl ((stL d.st t).map iRow)]):=by
 have h:=fun a b c=>r173 a b c d.st hb.st t.s
 rw [e141_0_0];unfold stL;by_cases hk:t.k=2
 · simp only [h,hk,nv0,nvS,dvI,dvB,dvS,dvL,B5,if_true,H3,D8,H2]
 · simp [hk]
theorem r113 (t u:Tm) (hn:t.nodes<=1048577) (p:List Int) (hp:p.length<=1048576) (h:atT t p=some u):rn ⟨113,0,0⟩ [.int t.k,.int t.n,.str t.s,.sl (t.as.map Tm.row),.sl (p.map iRow)]=some (0,[.int u.k,.int u.n,.str u.s,.bool true,.sl (u.as.map Tm.row)]):=by
 have key:∀ n i (t:Tm),i+n=p.length->t.nodes<=1048577->atT t (p.drop i)=some u->rn ⟨113,0,1⟩ [.sl (p.map iRow),.int (i:Int),.int t.k,.int t.n,.str t.s,.sl (t.as.map Tm.row),.int 0,.int 0,.str e0,.sl []]=some (0,[.int u.k,.int u.n,.str u.s,.sl (u.as.map Tm.row),.int 0,.int 0,.str e0,.sl []]):=by
  intro n;induction n with
  | zero =>
   intro i t hi _ h;obtain rfl:i=p.length:=by omega
   rw [C8] at h;simp only [atT,C9.injEq] at h;subst h;rw [e113_0_1];simp only [B6,C0,D5,H4,H2,C8]
  | succ n ih =>
   intro i t hi hn h;have hlt:i<p.length:=by omega
   rw [B9 hlt] at h;obtain ⟨hm,h0,h1⟩:=atT_cons h;have hls:=len_sum (xs:=t.as);have hnd:=Tm.nodes_eq t;have hmn:=mem_sum (f:=Tm.nodes) (C2 hm);have h2:=ih (i+1) _ (by omega) (by omega) h1
   rw [e113_0_1];generalize hj:p[i]=j at hm h0 h1 h2 hmn;obtain ⟨m,rfl⟩:∃ m:Nat,j=(m:Int):=⟨j.toNat,by omega⟩
   rw [B8] at hm;simp only [B8] at h2;have q2:(m:Int)<=(t.as.length:Int)-1:=by omega
   have hw:IntKind.i64.wrap ((t.as.length:Int)-1)=(t.as.length:Int)-1:=IntWalk.i64_in _ (by omega)
   simp only [B6,C0,hlt,H3,H1,inbN,B8,rowAt_map hlt,wrap_succ hlt (maxB (by omega)),hm,hj,hw,rIn,h0,q2,N0,D8,H2,rowAt_map hm,Tm.row_eq,iRow,nv0,nvS,dvI,dvB,dvS,dvL,B5]
   exact h2
 have h1:=key p.length 0 t (by omega) hn (by rw [D1]; exact h)
 have hun:=atT_nodes p t u h;have h3:=r50 u (small_of u (by omega))
 simp only [C3] at h1;rw [e113_0_0];simp only [h1,h3,nv0,nvS,dvI,dvB,dvS,dvL,B5,E1,H1,H2]
theorem r176 (t w:Tm) (hn:t.nodes<=1048577) (m:Nat) (hm:m<t.as.length):rn ⟨176,0,0⟩ [.int t.k,.int t.n,.str t.s,.sl (t.as.map Tm.row),.int (m:Int),.int w.k,.int w.n,.str w.s,.sl (w.as.map Tm.row)]=some (0,[.int t.k,.int t.n,.str t.s,.sl ((t.as.set m w).map Tm.row)]):=by
 have hls:=len_sum (xs:=t.as);have hnd:=Tm.nodes_eq t;have h1:=rCloneT (t.as.map Tm.row) (by rw [B6]; omega)
 rw [e176_0_0];simp only [h1,nv0,nvS,dvI,dvB,dvS,dvL,B5,B6,inbN,hm,H3,H1,B8,over_tm hm]
theorem r146 (w:Tm):∀ (p:List Int) (t u:Tm),t.nodes<=1048577->p.length<=1048576->atT t p=some u->rn ⟨146,0,0⟩ [.int t.k,.int t.n,.str t.s,.sl (t.as.map Tm.row),.sl (p.map iRow),.int w.k,.int w.n,.str w.s,.sl (w.as.map Tm.row)]=some (0,[.int (putT t p w).k,.int (putT t p w).n,.str (putT t p w).s,.sl ((putT t p w).as.map Tm.row)])
 | [],t,u,hn,hp,h=>by
  rw [e146_0_0];simp [putT]
 | j::p,t,u,hn,hp,h=>by
  obtain ⟨hm,h0,h1⟩:=atT_cons h;have hls:=len_sum (xs:=t.as);have hnd:=Tm.nodes_eq t;have hmn:=mem_sum (f:=Tm.nodes) (C2 hm);have h2:=r146 w p _ u (by omega) (by simp only [C1] at hp; omega) h1
  have ht:=tail_rows j p;rw [e146_0_0];simp only [putT,dif_pos hm];obtain ⟨m,rfl⟩:∃ m:Nat,j=(m:Int):=⟨j.toNat,by omega⟩
  simp only [B8] at hm h2 ⊢;have h3:=r176 t (putT t.as[m] p w) hn m hm;have q0:rowAt (((m:Int)::p).map iRow) 0=[.int (m:Int)]:=rfl;have q1:inb 0 (((m:Int)::p).map iRow).length=true:=by simp [inb]
  have q2:¬(((((m:Int)::p).map iRow).length:Nat):Int)=0:=by simp; omega
  have q3:(1:Int)<=((((m:Int)::p).map iRow).length:Nat):=by simp only [B6,C1]; omega
  have hm':m<(t.as.map Tm.row).length:=by rw [B6]; exact hm
  have q4:(0:Int)<=1:=by decide
  simp only [q0,q1,q2,q3,q4,ht,show O5 0=0 from rfl,Int.le_refl,nv0,nvS,dvI,dvB,dvS,dvL,B5,inbN,hm',rowAt_map hm,Tm.row_eq,H3,H4,H1,H2,N0,B8,h2,h3]
  rfl
theorem r115 (w:Tm) (hw:w.nodes<=1048577):∀ (p:List Int) (t u:Tm),t.nodes<=1048577->p.length<=1048576->atT t p=some u->rn ⟨115,0,0⟩ [.int t.k,.int t.n,.str t.s,.sl (t.as.map Tm.row),.sl (p.map iRow),.int w.k,.int w.n,.str w.s,.sl (w.as.map Tm.row)]=some (0,[.int (putT t p w).k,.int (putT t p w).n,.str (putT t p w).s,.sl ((putT t p w).as.map Tm.row)])
 | [],t,u,hn,hp,h=>by
  have h3:=r50 w (small_of w hw);rw [e115_0_0];simp only [D4,C7,C3,H3,H1,h3,nv0,nvS,dvI,dvB,dvS,dvL,B5,putT]
 | j::p,t,u,hn,hp,h=>by
  obtain ⟨hm,h0,h1⟩:=atT_cons h;have hls:=len_sum (xs:=t.as);have hnd:=Tm.nodes_eq t;have hmn:=mem_sum (f:=Tm.nodes) (C2 hm);have h2:=r115 w hw p _ u (by omega) (by simp only [C1] at hp; omega) h1
  have h3:=r50 t (small_of t hn);have ht:=tail_rows j p;rw [e115_0_0];simp only [putT,dif_pos hm];obtain ⟨m,rfl⟩:∃ m:Nat,j=(m:Int):=⟨j.toNat,by omega⟩
  simp only [B8] at hm h2 ⊢;have q0:rowAt (((m:Int)::p).map iRow) 0=[.int (m:Int)]:=rfl;have q1:inb 0 (((m:Int)::p).map iRow).length=true:=by simp [inb]
  have q2:¬(((((m:Int)::p).map iRow).length:Nat):Int)=0:=by simp; omega
  have q3:(1:Int)<=((((m:Int)::p).map iRow).length:Nat):=by simp only [B6,C1]; omega
  have hm':m<(t.as.map Tm.row).length:=by rw [B6]; exact hm
  have q4:(0:Int)<=1:=by decide
  have q5:=over_tm hm (putT t.as[m] p w);simp only [q0,q1,q2,q3,q4,ht,show O5 0=0 from rfl,Int.le_refl,nv0,nvS,dvI,dvB,dvS,dvL,B5,inbN,hm',H3,H4,H1,H2,N0,B8,h3]
  rw [rowAt_map hm] at q5 ⊢;simp only [Tm.row_eq,nv0,nvS,dvI,dvB,dvS,dvL,B5] at q5 ⊢;simp only [h2,nv0,nvS,dvI,dvB,dvS,dvL,B5,q5];rfl
end Go.Q.S
end
section
namespace Go.Q.S
open Go Go.Q Go.Proofs
theorem mI2:∀ t u:Tm,∀ l:List Bnd,Small u->(∀ b∈l,Small b.2)->l.length+t.nodes<=1048576->rn ⟨197,2,0⟩ [.int t.k,.int t.n,.str t.s,.sl (t.as.map Tm.row),.int u.k,.int u.n,.str u.s,.sl (u.as.map Tm.row),.sl (l.map Bnd.row)]=some (0,foI (mT t u l) (if t.k=1 then l.map Bnd.row else [])):=Tm.ind fun t ih u l hu hl hb=>by
 have hnd:=Tm.nodes_eq t;have hls:=len_sum (xs:=t.as);have hlp:t.as.length=u.as.length->∀ n i (l:List Bnd),i+n=t.as.length->(∀ b∈l,Small b.2)->l.length+((t.as.drop i).map Tm.nodes).sum<=1048576->rn ⟨197,2,1⟩ [.int (t.as.length:Int),.int (i:Int),.sl (l.map Bnd.row),.int t.k,.int t.n,.str t.s,.sl (t.as.map Tm.row),.int u.k,.int u.n,.str u.s,.sl (u.as.map Tm.row)]=match mTs (t.as.drop i) (u.as.drop i) l with
  | some l'=>some (0,[.sl (l'.map Bnd.row)])
  | none=>some (1,[.sl []]):=by
  intro hlen n;induction n with
  | zero =>
   intro i l hi hl hb;obtain rfl:i=t.as.length:=by omega
   rw [e197_2_1];simp only [B6,C0,D5,H4,H2,C8,mTs]
  | succ n ih2 =>
   intro i l hi hl hb;have hlt:i<t.as.length:=by omega
   have hlu:i<u.as.length:=by omega
   rw [B9 hlt] at hb ⊢;rw [B9 hlu];simp only [C6,J7] at hb;have hm:=C2 hlt;have hmu:=C2 hlu;have h1:=ih _ hm u.as[i] l (hu.sub hmu) hl (by omega)
   rw [e197_2_1];simp only [B6,C0,hlt,H3,H1,inbN,B8,rowAt_map hlt,wrap_succ hlt (maxB (by omega)),hlu,rowAt_map hlu,Tm.row_eq,nv0,nvS,dvI,dvB,dvS,dvL,B5,h1,mTs]
   cases hq:mT t.as[i] u.as[i] l with
   | none=>rfl
   | some l1 =>
    have hl1:=mT_all Small (fun t a h ha=>h.sub ha) _ _ l l1 (hu.sub hmu) hl hq
    have hn1:=mT_len _ _ _ _ hq;have h2:=ih2 (i+1) l1 (by omega) hl1 (by omega)
    simp only [foI,nv0,nvS,dvI,dvB,dvS,dvL,B5,D8,H2,h2]
 have h0:=fun h=>hlp h t.as.length 0 l (by omega) hl (by rw [D1]; omega)
 simp only [D1,C3] at h0;rw [e197_2_0,mT_eq];by_cases h1:t.k=1
 · have hbd:=r171 l (by omega) t.s
   have hb2:E9 (l.length+1) M63=true:=nb (by omega)
   simp only [h1,H3,H1,if_true,hbd];cases hq:bnd l t.s with
   | some v =>
    have he:=r207 v u (bnd_mem' hl hq);simp only [nv0,nvS,dvI,dvB,dvS,dvL,B5,H1,he];cases eqb v.row u.row <;> rfl
   | none =>
    simp only [nv0,nvS,dvI,dvB,dvS,dvL,B5,H2,B6,C1,C7,D2,hb2,H1,foI,D6,C6,D4,bd_row]
 · simp only [h1,H4,H2,if_false]
   by_cases e1:t.k=u.k
   · rw [H7 e1,H5 e1]
     by_cases e2:t.n=u.n
     · rw [H7 e2,H5 e2]
       by_cases e3:t.s=u.s
       · rw [H7 e3,H5 e3]
         by_cases e4:t.as.length=u.as.length
         · have e4':((t.as.map Tm.row).length:Int)=((u.as.map Tm.row).length:Int):=by simp [e4]
           rw [H7 e4',H5 e4];simp only [D8,H2,B6,h0 e4];cases mTs t.as u.as l <;> rfl
         · have e4':¬((t.as.map Tm.row).length:Int)=((u.as.map Tm.row).length:Int):=by simp; omega
           rw [H8 e4',H6 e4]; rfl
       · rw [H8 e3,H6 e3]; rfl
     · rw [H8 e2,H6 e2]; rfl
   · rw [H8 e1,H6 e1]; rfl
theorem mI1:∀ t u:Tm,∀ l:List Bnd,Small u->(∀ b∈l,Small b.2)->l.length+t.nodes<=1048576->rn ⟨197,1,0⟩ [.int t.k,.int t.n,.str t.s,.sl (t.as.map Tm.row),.int u.k,.int u.n,.str u.s,.sl (u.as.map Tm.row),.sl (l.map Bnd.row)]=some (0,foI (mT t u l) (if t.k=1 then l.map Bnd.row else [])):=fun t u l hu hl hb=>by
 have ih:=fun (a:Tm) (_:a∈t.as)=>mI2 a
 have hnd:=Tm.nodes_eq t;have hls:=len_sum (xs:=t.as);have hlp:t.as.length=u.as.length->∀ n i (l:List Bnd),i+n=t.as.length->(∀ b∈l,Small b.2)->l.length+((t.as.drop i).map Tm.nodes).sum<=1048576->rn ⟨197,1,1⟩ [.int (t.as.length:Int),.int (i:Int),.sl (l.map Bnd.row),.int t.k,.int t.n,.str t.s,.sl (t.as.map Tm.row),.int u.k,.int u.n,.str u.s,.sl (u.as.map Tm.row)]=match mTs (t.as.drop i) (u.as.drop i) l with
  | some l'=>some (0,[.sl (l'.map Bnd.row)])
  | none=>some (1,[.sl []]):=by
  intro hlen n;induction n with
  | zero =>
   intro i l hi hl hb;obtain rfl:i=t.as.length:=by omega
   rw [e197_1_1];simp only [B6,C0,D5,H4,H2,C8,mTs]
  | succ n ih2 =>
   intro i l hi hl hb;have hlt:i<t.as.length:=by omega
   have hlu:i<u.as.length:=by omega
   rw [B9 hlt] at hb ⊢;rw [B9 hlu];simp only [C6,J7] at hb;have hm:=C2 hlt;have hmu:=C2 hlu;have h1:=ih _ hm u.as[i] l (hu.sub hmu) hl (by omega)
   rw [e197_1_1];simp only [B6,C0,hlt,H3,H1,inbN,B8,rowAt_map hlt,wrap_succ hlt (maxB (by omega)),hlu,rowAt_map hlu,Tm.row_eq,nv0,nvS,dvI,dvB,dvS,dvL,B5,h1,mTs]
   cases hq:mT t.as[i] u.as[i] l with
   | none=>rfl
   | some l1 =>
    have hl1:=mT_all Small (fun t a h ha=>h.sub ha) _ _ l l1 (hu.sub hmu) hl hq
    have hn1:=mT_len _ _ _ _ hq;have h2:=ih2 (i+1) l1 (by omega) hl1 (by omega)
    simp only [foI,nv0,nvS,dvI,dvB,dvS,dvL,B5,D8,H2,h2]
 have h0:=fun h=>hlp h t.as.length 0 l (by omega) hl (by rw [D1]; omega)
 simp only [D1,C3] at h0;rw [e197_1_0,mT_eq];by_cases h1:t.k=1
 · have hbd:=r171 l (by omega) t.s
   have hb2:E9 (l.length+1) M63=true:=nb (by omega)
   simp only [h1,H3,H1,if_true,hbd];cases hq:bnd l t.s with
   | some v =>
    have he:=r207 v u (bnd_mem' hl hq);simp only [nv0,nvS,dvI,dvB,dvS,dvL,B5,H1,he];cases eqb v.row u.row <;> rfl
   | none =>
    simp only [nv0,nvS,dvI,dvB,dvS,dvL,B5,H2,B6,C1,C7,D2,hb2,H1,foI,D6,C6,D4,bd_row]
 · simp only [h1,H4,H2,if_false]
   by_cases e1:t.k=u.k
   · rw [H7 e1,H5 e1]
     by_cases e2:t.n=u.n
     · rw [H7 e2,H5 e2]
       by_cases e3:t.s=u.s
       · rw [H7 e3,H5 e3]
         by_cases e4:t.as.length=u.as.length
         · have e4':((t.as.map Tm.row).length:Int)=((u.as.map Tm.row).length:Int):=by simp [e4]
           rw [H7 e4',H5 e4];simp only [D8,H2,B6,h0 e4];cases mTs t.as u.as l <;> rfl
         · have e4':¬((t.as.map Tm.row).length:Int)=((u.as.map Tm.row).length:Int):=by simp; omega
           rw [H8 e4',H6 e4]; rfl
       · rw [H8 e3,H6 e3]; rfl
     · rw [H8 e2,H6 e2]; rfl
   · rw [H8 e1,H6 e1]; rfl
theorem mS:∀ t u:Tm,∀ l:List Bnd,Small u->(∀ b∈l,Small b.2)->l.length+t.nodes<=1048576->(∀ l',mT t u l=some l'->rn ⟨183,1,0⟩ [.int t.k,.int t.n,.str t.s,.sl (t.as.map Tm.row),.int u.k,.int u.n,.str u.s,.sl (u.as.map Tm.row),.sl (l.map Bnd.row)]=some (0,[.bool true,.sl (l'.map Bnd.row)]))/\(mT t u l=none->(∃ X,rn ⟨183,1,0⟩ [.int t.k,.int t.n,.str t.s,.sl (t.as.map Tm.row),.int u.k,.int u.n,.str u.s,.sl (u.as.map Tm.row),.sl (l.map Bnd.row)]=some (0,[.bool false,.sl X]))\/rn ⟨183,1,0⟩ [.int t.k,.int t.n,.str t.s,.sl (t.as.map Tm.row),.int u.k,.int u.n,.str u.s,.sl (u.as.map Tm.row),.sl (l.map Bnd.row)]=some (1,[])):=Tm.ind fun t ih u l hu hl hb=>by
 have hnd:=Tm.nodes_eq t;have hls:=len_sum (xs:=t.as);have hlp:t.as.length=u.as.length->∀ n i (l:List Bnd),i+n=t.as.length->(∀ b∈l,Small b.2)->l.length+((t.as.drop i).map Tm.nodes).sum<=1048576->rn ⟨183,1,1⟩ [.int (i:Int),.sl (l.map Bnd.row),.int t.k,.int t.n,.str t.s,.sl (t.as.map Tm.row),.int u.k,.int u.n,.str u.s,.sl (u.as.map Tm.row)]=match mTs (t.as.drop i) (u.as.drop i) l with
  | some l'=>some (0,[.sl (l'.map Bnd.row)])
  | none=>some (1,[]):=by
  intro hlen n;induction n with
  | zero =>
   intro i l hi hl hb;obtain rfl:i=t.as.length:=by omega
   rw [e183_1_1];simp only [B6,C0,D5,H4,H2,C8,mTs]
  | succ n ih2 =>
   intro i l hi hl hb;have hlt:i<t.as.length:=by omega
   have hlu:i<u.as.length:=by omega
   rw [B9 hlt] at hb ⊢;rw [B9 hlu];simp only [C6,J7] at hb;have hm:=C2 hlt;have hmu:=C2 hlu;obtain ⟨h1,h1'⟩:=ih _ hm u.as[i] l (hu.sub hmu) hl (by omega)
   rw [e183_1_1];simp only [B6,C0,hlt,H3,H1,inbN,B8,rowAt_map hlt,wrap_succ hlt (maxB (by omega)),hlu,rowAt_map hlu,Tm.row_eq,nv0,nvS,dvI,dvB,dvS,dvL,B5,mTs]
   cases hq:mT t.as[i] u.as[i] l with
   | none =>
    rcases h1' hq with ⟨X,e⟩ | e
    · rw [e]; rfl
    · rw [e]; rfl
   | some l1 =>
    have hl1:=mT_all Small (fun t a h ha=>h.sub ha) _ _ l l1 (hu.sub hmu) hl hq
    have hn1:=mT_len _ _ _ _ hq;have h2:=ih2 (i+1) l1 (by omega) hl1 (by omega)
    simp only [h1 l1 hq,nv0,nvS,dvI,dvB,dvS,dvL,B5,E1,H1,H2,D8,h2]
 have h0:=fun h=>hlp h t.as.length 0 l (by omega) hl (by rw [D1]; omega)
 simp only [D1,C3] at h0;rw [e183_1_0,mT_eq];by_cases h1:t.k=1
 · have hbd:=r107 l (by omega) hl t.s
   have hb2:E9 (l.length+1) M63=true:=nb (by omega)
   have hcp:=r50 u hu;simp only [h1,H3,H1,if_true,hbd];cases hq:bnd l t.s with
   | some v =>
    have he:=r13 v u (bnd_mem' hl hq);simp only [nv0,nvS,dvI,dvB,dvS,dvL,B5,H1,he];cases eqb v.row u.row with
    | true=>exact ⟨fun l' h=>by simp only [if_true,C9.injEq] at h; subst h; rfl,fun h=>by simp at h⟩
    | false=>exact ⟨fun l' h=>by simp at h,fun _=>.inl ⟨_,rfl⟩⟩
   | none =>
    refine ⟨fun l' h=>?_,fun h=>by simp at h⟩
    simp only [C9.injEq] at h;subst h;simp only [nv0,nvS,dvI,dvB,dvS,dvL,B5,H2,hcp,B6,C1,C7,D2,hb2,H1,D6,C6,D4,bd_row]
 · simp only [h1,H4,H2,if_false]
   by_cases e1:t.k=u.k
   · rw [H7 e1,H5 e1]
     by_cases e2:t.n=u.n
     · rw [H7 e2,H5 e2]
       by_cases e3:t.s=u.s
       · rw [H7 e3,H5 e3]
         by_cases e4:t.as.length=u.as.length
         · have e4':((t.as.map Tm.row).length:Int)=((u.as.map Tm.row).length:Int):=by simp [e4]
           rw [H7 e4',H5 e4];simp only [D8,H2,h0 e4];cases mTs t.as u.as l with
           | none=>exact ⟨fun l' h=>by simp at h,fun _=>.inr rfl⟩
           | some l2=>exact ⟨fun l' h=>by simp only [C9.injEq] at h; subst h; rfl,fun h=>by simp at h⟩
         · have e4':¬((t.as.map Tm.row).length:Int)=((u.as.map Tm.row).length:Int):=by simp; omega
           rw [H8 e4',H6 e4]; exact ⟨fun l' h=>by simp at h,fun _=>.inl ⟨_,rfl⟩⟩
       · rw [H8 e3,H6 e3]; exact ⟨fun l' h=>by simp at h,fun _=>.inl ⟨_,rfl⟩⟩
     · rw [H8 e2,H6 e2]; exact ⟨fun l' h=>by simp at h,fun _=>.inl ⟨_,rfl⟩⟩
   · rw [H8 e1,H6 e1]; exact ⟨fun l' h=>by simp at h,fun _=>.inl ⟨_,rfl⟩⟩
theorem r184 (l:List Bnd) (hl:l.length<=1048576) (hs:∀ b∈l,Small b.2) (ns:List ByteArray) (hn:ns.length<=1048577):rn ⟨184,0,0⟩ [.sl (l.map Bnd.row),.sl (ns.map sRow)]=some (0,[.sl ((rsB l (srtN ns)).map Bnd.row)]):=by
 have h1:=r97 ns (by omega)
 have hsl:=srtN_len ns;rw [e184_0_0,h1];generalize srtN ns=ms at hsl ⊢;have key:∀ n i (acc:List Bnd),i+n=ms.length->acc.length<=i->rn ⟨184,0,1⟩ [.sl (l.map Bnd.row),.int (i:Int),.sl (acc.map Bnd.row),.sl (ms.map sRow)]=some (0,[.sl ((acc++rsB l (ms.drop i)).map Bnd.row)]):=by
  intro n;induction n with
  | zero =>
   intro i acc hi ha;obtain rfl:i=ms.length:=by omega
   rw [e184_0_1];simp only [B6,C0,D5,H4,H2,C8,rsB,List.filterMap_nil,G9]
  | succ n ih =>
   intro i acc hi ha;have hlt:i<ms.length:=by omega
   rw [e184_0_1,B9 hlt,rsB_cons];have hbd:=r107 l hl hs ms[i];have hb2:E9 (acc.length+1) M63=true:=nb (by omega)
   simp only [B6,C0,hlt,H3,H1,inbN,B8,rowAt_map hlt,wrap_succ hlt (maxB (by omega)),sRow,nv0,nvS,dvI,dvB,dvS,dvL,B5,hbd]
   cases hq:bnd l ms[i] with
   | none =>
    have h2:=ih (i+1) acc (by omega) (by omega)
    simp only [nv0,nvS,dvI,dvB,dvS,dvL,B5,H2,h2]
   | some v =>
    have h2:=ih (i+1) (acc++[(ms[i],v)]) (by omega) (by simp; omega)
    simp only [D6,C6,D4,bd_row,sRow] at h2;simp only [nv0,nvS,dvI,dvB,dvS,dvL,B5,H1,C1,C7,D2,hb2,h2,D6,C6,D7,G8,E5,bd_row]
 have h:=key ms.length 0 [] (by omega) (J9 _)
 simp only [C3,D4,D1,E5] at h;simp only [h,nv0,nvS,dvI,dvB,dvS,dvL,B5,E1,H1,H2]
theorem r156 (t u:Tm) (ht:t.nodes<=1048576) (hu:Small u):rn ⟨156,0,0⟩ [.int t.k,.int t.n,.str t.s,.sl (t.as.map Tm.row),.int u.k,.int u.n,.str u.s,.sl (u.as.map Tm.row)]=some (0,foI ((mT t u []).map fun l=>rsB l (srtN (srtN t.names))) []):=by
 obtain ⟨h1,h2⟩:=mS t u [] hu (by simp) (by simpa using ht)
 have h3:=r46 t (by omega)
 have hnl:=names_nodes t;have hsl:=srtN_len t.names;rw [e156_0_0];simp only [D4] at h1 h2;cases hq:mT t u [] with
 | none =>
  rcases h2 hq with ⟨X,e⟩ | e
  · rw [e]; rfl
  · rw [e]; rfl
 | some l =>
  have hls:=mT_all Small (fun t a h ha=>h.sub ha) t u [] l hu (by simp) hq
  have hln:=mT_len _ _ _ _ hq;simp only [C7] at hln;have h4:=r184 l (by omega) hls (srtN t.names) (by omega)
  simp only [h1 l hq,nv0,nvS,dvI,dvB,dvS,dvL,B5,E1,H1,H2,D8,h3,h4,K7,foI]
theorem holdI (l:List Bnd) (hl:l.length<=1048576) (hs:∀ b∈l,b.2.nodes<=60) (gs:List Gu) (hg:gs.length<=1048576) (h:∀ g∈gs,g.l.nodes<=60/\g.r.nodes<=60):rn ⟨198,0,0⟩ [.sl (l.map Bnd.row),.sl (gs.map Gu.row)]=some (0,[.bool (gs.all fun g=>holds (appG l g))]):=by
 have hss:∀ b∈l,Small b.2:=fun b hb=>small_of _ (by have:=hs b hb; omega)
 rw [e198_0_0];have hf:=all_loop (F:=fun i=>rn ⟨198,0,1⟩ [.sl (l.map Bnd.row),.sl (gs.map Gu.row),.int (gs.map Gu.row).length,.int (i:Int)]) (xs:=gs) (p:=fun g=>holds (appG l g)) (A:=some (0,[])) (B:=some (1,[])) (fun i hi=>?_) ?_
 · simp only [C3] at hf
   rw [hf];cases gs.all fun g=>holds (appG l g) <;> rfl
 · have hgi:=h _ (C2 hi)
   have a1:=r209 l hl hss gs[i] ⟨by omega,by omega⟩
   have a2:=r208 (appG l gs[i]) (appG_ok60 hs hgi.1 hgi.2);rw [e198_0_1];simp only [B8,rowAt_map hi,gu_row,B6,inbN,hi,C0,H3,H1,nv0,nvS,dvI,dvB,dvS,dvL,B5,wrap_succ hi (by unfold maxLen; omega),a1,a2]
   cases holds (appG l gs[i]) <;> rfl
 · rw [e198_0_1]
   simp
theorem r174 (d:DfM) (hd:DfG d) (i:Nat) (hi:i<d.ru.length) (u:Tm) (hu:u.nodes<=60):rn ⟨174,0,0⟩ [.sl (d.so.map sRow),.sl (d.op.map OpM.row),.sl (d.ru.map RuM.row),.sl (d.st.map StM.row),.int (i:Int),.int u.k,.int u.n,.str u.s,.sl (u.as.map Tm.row)]=some (0,frR (fireR d.ru[i] u)):=by
 have hr:=hd.ru (C2 hi);have hln:=valid_nodes hr.lv;have hrn:=valid_nodes hr.rv;have h1:=mI1 d.ru[i].l u [] (small_of u (by omega)) (by simp) (by simp; omega)
 rw [e174_0_0];simp only [D4] at h1;simp only [B6,inbN,hi,H3,H1,B8,rowAt_map hi,RuM.row,nv0,nvS,dvI,dvB,dvS,dvL,B5,h1];unfold fireR;cases hq:mT d.ru[i].l u [] with
 | none=>rfl
 | some l =>
  have hls:=mT_all (fun t=>t.nodes<=60) (fun t a h ha=>nodes_sub t a h ha) _ u [] l hu (by simp) hq
  have hln2:=mT_len _ _ _ _ hq;simp only [C7] at hln2;have hss:∀ b∈l,Small b.2:=fun b hb=>small_of _ (by have:=hls b hb; omega)
  have h2:=holdI l (by omega) hls d.ru[i].g hr.b.g (fun g hg=>⟨valid_nodes (hr.gl g hg).1,valid_nodes (hr.gl g hg).2⟩)
  have h3:=r139 l (by omega) hss d.ru[i].r (small_of _ (by omega))
  have h4:=r138 (aS l d.ru[i].r) (aS_small hss _ (small_of _ (by omega)))
  simp only [foI,nv0,nvS,dvI,dvB,dvS,dvL,B5,D8,H2,h2,h3,h4];cases d.ru[i].g.all fun g=>holds (appG l g) <;> rfl
theorem r114 {ops:List OpM} (r:RuM) (hr:RuG ops r) (u:Tm) (hu:u.nodes<=60):rn ⟨114,0,0⟩ [.str r.n,.int (r.l).k,.int (r.l).n,.str (r.l).s,.sl ((r.l).as.map Tm.row),.int (r.r).k,.int (r.r).n,.str (r.r).s,.sl ((r.r).as.map Tm.row),.sl (r.g.map Gu.row),.int u.k,.int u.n,.str u.s,.sl (u.as.map Tm.row)]=some (0,[.bool (fireR r u).isSome,.sl ((fiL r u).map Bnd.row)]):=by
 have hln:=valid_nodes hr.lv;have hrn:=valid_nodes hr.rv;have hgl:=hr.b.g;have h1:=r156 r.l u (by omega) (small_of u (by omega))
 have hL:(∀ b∈fiL r u,b.2.nodes<=60)/\(fiL r u).length<=1048576:=by
  unfold fiL;cases hq:mT r.l u [] with
  | none=>exact ⟨by simp,by simp⟩
  | some l =>
   have hls:=mT_all (fun t=>t.nodes<=60) (fun t a h ha=>nodes_sub t a h ha) _ u [] l hu (by simp) hq
   have h1:=srtN_len r.l.names;have h2:=srtN_len (srtN r.l.names);have h3:=names_nodes r.l;have h4:=rsB_len l (srtN (srtN r.l.names));exact ⟨fun b hb=>rsB_mem (P:=fun t=>t.nodes<=60) hls _ b hb,by show (rsB l _).length<=_; omega⟩
 have hss:∀ b∈fiL r u,Small b.2:=fun b hb=>small_of _ (by have:=hL.1 b hb; omega)
 have e:rn ⟨156,0,0⟩ [.int (r.l).k,.int (r.l).n,.str (r.l).s,.sl ((r.l).as.map Tm.row),.int u.k,.int u.n,.str u.s,.sl (u.as.map Tm.row)]=some (0,[.bool (mT r.l u []).isSome,.sl ((fiL r u).map Bnd.row)]):=by
  rw [h1]; unfold fiL;cases mT r.l u [] <;> rfl
 have key:∀ n i (b:Bool),i+n=r.g.length->rn ⟨114,0,1⟩ [.bool b,.int (i:Int),.str r.n,.int (r.l).k,.int (r.l).n,.str (r.l).s,.sl ((r.l).as.map Tm.row),.int (r.r).k,.int (r.r).n,.str (r.r).s,.sl ((r.r).as.map Tm.row),.sl (r.g.map Gu.row),.sl ((fiL r u).map Bnd.row)]=some (0,[.bool (b&&(r.g.drop i).all fun g=>holds (appG (fiL r u) g)),.sl ((fiL r u).map Bnd.row)]):=by
  intro n;induction n with
  | zero =>
   intro i b hi;obtain rfl:i=r.g.length:=by omega
   rw [e114_0_1];simp only [B6,C0,D5,H4,H2,C8,N1,N0]
  | succ n ih =>
   intro i b hi;have hlt:i<r.g.length:=by omega
   have hgi:=hr.gl _ (C2 hlt);have g1:=valid_nodes hgi.1;have g2:=valid_nodes hgi.2;have a1:=r158 (fiL r u) hL.2 hss r.g[i] ⟨by omega,by omega⟩
   have a2:=r157 (appG (fiL r u) r.g[i]) (appG_ok60 hL.1 g1 g2);rw [e114_0_1,B9 hlt];cases b with
   | false=>simp [hlt]
   | true =>
    simp only [B6,C0,hlt,H3,H1,inbN,B8,rowAt_map hlt,wrap_succ hlt (maxB (by omega)),gu_row,nv0,nvS,dvI,dvB,dvS,dvL,B5,a1,a2,ih (i+1) _ (by omega),J6,F4]
 have h2:=fun b=>key r.g.length 0 b (by omega)
 simp only [D1,C3] at h2;rw [e114_0_0];simp only [e,nv0,nvS,dvI,dvB,dvS,dvL,B5,E1,H1,H2,h2];rw [fireR_eq];cases ((mT r.l u []).isSome&&r.g.all fun g=>holds (appG (fiL r u) g)) <;> rfl
theorem r142 (d:DfM) (hd:DfG d) (u:Tm) (hu:u.nodes<=60):rn ⟨142,0,0⟩ [.sl (d.so.map sRow),.sl (d.op.map OpM.row),.sl (d.ru.map RuM.row),.sl (d.st.map StM.row),.int u.k,.int u.n,.str u.s,.sl (u.as.map Tm.row)]=some (0,[.int (optZ (rootF d.ru u))]):=by
 have hrl:=hd.b.ru;have key:∀ n i,i+n=d.ru.length->rn ⟨142,0,1⟩ [.int (d.ru.length:Int),.int (i:Int),.sl (d.so.map sRow),.sl (d.op.map OpM.row),.sl (d.ru.map RuM.row),.sl (d.st.map StM.row),.int u.k,.int u.n,.str u.s,.sl (u.as.map Tm.row)]=match (d.ru.drop i).findIdx? (fun r=>(fireR r u).isSome) with
  | some j=>some (1,[.int ((i+j:Nat):Int)])
  | none=>some (0,[]):=by
  intro n;induction n with
  | zero =>
   intro i hi;obtain rfl:i=d.ru.length:=by omega
   rw [e142_0_1];simp only [B6,C0,D5,H4,H2,C8,U2]
  | succ n ih =>
   intro i hi;have hlt:i<d.ru.length:=by omega
   have h1:=r174 d hd i hlt u hu;have h2:=ih (i+1) (by omega)
   rw [e142_0_1,B9 hlt,List.findIdx?_cons];simp only [C0,hlt,H3,H1,h1,wrap_succ hlt (maxB (by omega)),h2]
   cases fireR d.ru[i] u with
   | some w=>rfl
   | none =>
    simp only [frR,nv0,nvS,dvI,dvB,dvS,dvL,B5,H2,Option.isSome_none,R0,if_false];cases (d.ru.drop (i+1)).findIdx? (fun r=>(fireR r u).isSome) with
    | none=>rfl
    | some j=>simp only [K7,show i+(j+1)=i+1+j by omega]
 have h:=key d.ru.length 0 (by omega)
 simp only [D1,C3,D2] at h;rw [e142_0_0];simp only [B6,h];unfold rootF;cases d.ru.findIdx? (fun r=>(fireR r u).isSome) <;> rfl
theorem r111 (d:DfM) (hd:DfG d) (u:Tm) (hu:u.nodes<=60):rn ⟨111,0,0⟩ [.sl (d.so.map sRow),.sl (d.op.map OpM.row),.sl (d.ru.map RuM.row),.sl (d.st.map StM.row),.int u.k,.int u.n,.str u.s,.sl (u.as.map Tm.row)]=some (0,[.int (optZ (rootF d.ru u))]):=by
 have hrl:=hd.b.ru;have key:∀ n i,i+n=d.ru.length->rn ⟨111,0,1⟩ [.int (i:Int),.sl (d.so.map sRow),.sl (d.op.map OpM.row),.sl (d.ru.map RuM.row),.sl (d.st.map StM.row),.int u.k,.int u.n,.str u.s,.sl (u.as.map Tm.row)]=match (d.ru.drop i).findIdx? (fun r=>(fireR r u).isSome) with
  | some j=>some (1,[.int ((i+j:Nat):Int)])
  | none=>some (0,[]):=by
  intro n;induction n with
  | zero =>
   intro i hi;obtain rfl:i=d.ru.length:=by omega
   rw [e111_0_1];simp only [B6,C0,D5,H4,H2,C8,U2]
  | succ n ih =>
   intro i hi;have hlt:i<d.ru.length:=by omega
   have h1:=r114 d.ru[i] (hd.ru (C2 hlt)) u hu;have h2:=ih (i+1) (by omega)
   rw [e111_0_1,B9 hlt,List.findIdx?_cons];simp only [B6,C0,hlt,H3,H1,inbN,B8,rowAt_map hlt,wrap_succ hlt (maxB (by omega)),RuM.row,nv0,nvS,dvI,dvB,dvS,dvL,B5,h1,h2]
   cases fireR d.ru[i] u with
   | some w=>rfl
   | none =>
    simp only [H2,Option.isSome_none,R0,if_false];cases (d.ru.drop (i+1)).findIdx? (fun r=>(fireR r u).isSome) with
    | none=>rfl
    | some j=>simp only [K7,show i+(j+1)=i+1+j by omega]
 have h:=key d.ru.length 0 (by omega)
 simp only [D1,C3,D2] at h;rw [e111_0_0];simp only [h];unfold rootF;cases d.ru.findIdx? (fun r=>(fireR r u).isSome) <;> rfl
end Go.Q.S
end
section
namespace Go.Q.S
open Go Go.Q Go.Proofs
theorem r80 (d:DfM) (hd:DfG d):∀ t:Tm,Gt d.op t->t.nodes<=60->∀ acc:List Int,acc.length+t.nodes<=1048576->rn ⟨80,0,0⟩ [.sl (d.so.map sRow),.sl (d.op.map OpM.row),.sl (d.ru.map RuM.row),.sl (d.st.map StM.row),.int t.k,.int t.n,.str t.s,.sl (t.as.map Tm.row),.sl (acc.map iRow)]=some (0,nrR (nx d t) acc):=Tm.ind fun t ih ht hn acc hac=>by
 have hnd:=Tm.nodes_eq t;have hls:=len_sum (xs:=t.as);have hst:=hd.b.st;have hql:=stL_len d.st t;have hlp:∀ n i,i+n=(stL d.st t).length->rn ⟨80,0,1⟩ [.int ((stL d.st t).length:Int),.int (i:Int),.sl (acc.map iRow),.sl (d.so.map sRow),.sl (d.op.map OpM.row),.sl (d.ru.map RuM.row),.sl (d.st.map StM.row),.int t.k,.int t.n,.str t.s,.sl (t.as.map Tm.row),.int 0,.sl ((stL d.st t).map iRow),.sl []]=match pickF ((stL d.st t).drop i) (t.as.map (nx d)) with
  | some x=>some (1,[.int (x.1:Int),.sl ((acc++x.2).map iRow)])
  | none=>some (0,[.sl (acc.map iRow),.sl (d.so.map sRow),.sl (d.op.map OpM.row),.sl (d.ru.map RuM.row),.sl (d.st.map StM.row),.int t.k,.int t.n,.str t.s,.sl (t.as.map Tm.row),.int 0,.sl []]):=by
  have hq:∀ j∈stL d.st t,0<=j/\j.toNat<t.as.length:=fun j hj=>stL_lt hd ht hj
  generalize stL d.st t=q at hql hq ⊢;intro n;induction n with
  | zero =>
   intro i hi;obtain rfl:i=q.length:=by omega
   rw [e80_0_1];simp only [B6,C0,D5,H4,H2,C8,pick_nil]
  | succ n ih2 =>
   intro i hi;have hlt:i<q.length:=by omega
   obtain ⟨h0,hm⟩:=hq _ (C2 hlt);rw [B9 hlt];rw [e80_0_1];generalize hj:q[i]=j at h0 hm ⊢;obtain ⟨m,rfl⟩:∃ m:Nat,j=(m:Int):=⟨j.toNat,by omega⟩
   rw [B8] at hm;have hmm:=C2 hm;have hms:=mem_sum (f:=Tm.nodes) hmm;have h1:=ih _ hmm (ht.sub hmm) (by omega) (acc++[(m:Int)]) (by simp; omega)
   have h2:=rCloneI (acc.map iRow) (by rw [B6]; omega)
   have hb2:E9 (acc.length+1) M63=true:=nb (by omega)
   simp only [D6,C6,D4,iRow] at h1;rw [pick_cons hm];simp only [B6,C0,hlt,H3,H1,inbN,B8,rowAt_map hlt,wrap_succ hlt (maxB (by omega)),hj,hm,rowAt_map hm,Tm.row_eq,iRow,nv0,nvS,dvI,dvB,dvS,dvL,B5,C1,C7,D2,hb2]
   simp only [h2,nv0,nvS,dvI,dvB,dvS,dvL,B5,B6,hb2,H1,h1];have h3:=ih2 (i+1) (by omega)
   cases nx d t.as[m] with
   | some x=>simp only [nrR,nv0,nvS,dvI,dvB,dvS,dvL,B5,H1,D7,G8,E5]
   | none=>simp only [nrR,nv0,nvS,dvI,dvB,dvS,dvL,B5,H2,h3]
 have h0:=hlp (stL d.st t).length 0 (by omega)
 simp only [D1,C3] at h0;have h1:=r141 d hd.b t;have h2:=r142 d hd t hn;rw [e80_0_0,nx_eq,h1];simp only [nv0,nvS,dvI,dvB,dvS,dvL,B5,B6,h0];cases pickF (stL d.st t) (t.as.map (nx d)) with
 | some x=>rfl
 | none =>
  simp only [nv0,nvS,dvI,dvB,dvS,dvL,B5,E1,H1,H2,h2];cases rootF d.ru t with
  | none=>rfl
  | some i =>
   have q:¬((i:Int)<0):=by omega
   simp only [optZ,q,H4,H2,K7,nrR,G9]
theorem r58 (d:DfM) (hd:DfG d):∀ t:Tm,Gt d.op t->t.nodes<=60->rn ⟨58,0,0⟩ [.sl (d.so.map sRow),.sl (d.op.map OpM.row),.sl (d.ru.map RuM.row),.sl (d.st.map StM.row),.int t.k,.int t.n,.str t.s,.sl (t.as.map Tm.row)]=some (0,nrS (nx d t)):=Tm.ind fun t ih ht hn=>by
 have hnd:=Tm.nodes_eq t;have hls:=len_sum (xs:=t.as);have hst:=hd.b.st;have hql:=strA_len d.st t.s;have hlp:∀ n i,i+n=(strA d.st t.s).length->rn ⟨58,0,1⟩ [.int (i:Int),.sl (d.so.map sRow),.sl (d.op.map OpM.row),.sl (d.ru.map RuM.row),.sl (d.st.map StM.row),.int t.k,.int t.n,.str t.s,.sl (t.as.map Tm.row),.int 0,.sl ((strA d.st t.s).map iRow),.sl []]=match pickF (if t.k=2 then (strA d.st t.s).drop i else []) (t.as.map (nx d)) with
  | some x=>some (1,[.int (x.1:Int),.sl (x.2.map iRow)])
  | none=>some (0,[.sl (d.so.map sRow),.sl (d.op.map OpM.row),.sl (d.ru.map RuM.row),.sl (d.st.map StM.row),.int t.k,.int t.n,.str t.s,.sl (t.as.map Tm.row),.int 0,.sl []]):=by
  by_cases hk:t.k=2
  · have hq:∀ j∈strA d.st t.s,0<=j/\j.toNat<t.as.length:=fun j hj=>stL_lt hd ht (by unfold stL; rw [H5 hk]; exact hj)
    generalize strA d.st t.s=q at hql hq ⊢;intro n;simp only [H5 hk];induction n with
    | zero =>
     intro i hi;obtain rfl:i=q.length:=by omega
     rw [e58_0_1];simp only [B6,C0,D5,H4,H2,C8,pick_nil]
    | succ n ih2 =>
     intro i hi;have hlt:i<q.length:=by omega
     obtain ⟨h0,hm⟩:=hq _ (C2 hlt);rw [B9 hlt];rw [e58_0_1];generalize hj:q[i]=j at h0 hm ⊢;obtain ⟨m,rfl⟩:∃ m:Nat,j=(m:Int):=⟨j.toNat,by omega⟩
     rw [B8] at hm;have hmm:=C2 hm;have hms:=mem_sum (f:=Tm.nodes) hmm;have h1:=ih _ hmm (ht.sub hmm) (by omega)
     have q2:(m:Int)<=(t.as.length:Int)-1:=by omega
     have hw:IntKind.i64.wrap ((t.as.length:Int)-1)=(t.as.length:Int)-1:=IntWalk.i64_in _ (by omega)
     have h3:=ih2 (i+1) (by omega)
     rw [pick_cons hm,H7 hk];simp only [B6,C0,hlt,H3,H1,inbN,B8,rowAt_map hlt,wrap_succ hlt (maxB (by omega)),hj,hm,hw,h0,q2,rIn,N0,D8,H2,rowAt_map hm,Tm.row_eq,iRow,nv0,nvS,dvI,dvB,dvS,dvL,B5,h1]
     cases hx:nx d t.as[m] with
     | some x =>
      obtain ⟨u,_,_,hu,_⟩:=nx_spec d _ x.1 x.2 hx;have hun:=atT_nodes x.2 _ u hu;have hb2:E9 (0+1+x.2.length) M63=true:=nb (by omega)
      simp only [nrS,nv0,nvS,dvI,dvB,dvS,dvL,B5,H1,C1,C7,B6,hb2,G8,E5,C6,iRow]
     | none=>simp only [nrS,nv0,nvS,dvI,dvB,dvS,dvL,B5,H2,h3]
  · intro n i hi
    rw [H6 hk,pick_nil,e58_0_1,H8 hk];cases decide ((i:Int)<(((strA d.st t.s).map iRow).length:Int)) <;> rfl
 have h0:=hlp (strA d.st t.s).length 0 (by omega)
 simp only [D1,C3] at h0;have h1:=fun a b c=>r110 a b c d.st hd.b.st t.s
 have h2:=r111 d hd t hn;have hmx:∀ x:Option Nat,rn ⟨112,0,0⟩ [.int (optZ x),.int 0]=some (0,[.int ((x.getD 0:Nat):Int)]):=fun x=>by
  rw [e112_0_0];cases x with
  | none=>rfl
  | some i =>
   by_cases hi:(0:Int)<optZ (some i)
   · rw [H7 hi]; rfl
   · rw [H8 hi]
     simp only [optZ] at hi;obtain rfl:i=0:=by omega
     rfl
 rw [e58_0_0,nx_eq,h1];simp only [nv0,nvS,dvI,dvB,dvS,dvL,B5,h0];have e:(if t.k=2 then strA d.st t.s else [])=stL d.st t:=rfl
 rw [e];cases pickF (stL d.st t) (t.as.map (nx d)) with
 | some x=>rfl
 | none =>
  simp only [nv0,nvS,dvI,dvB,dvS,dvL,B5,E1,H1,H2,h2,hmx];cases rootF d.ru t with
  | none=>rfl
  | some i =>
   have q:(0:Int)<=(i:Int):=by omega
   simp only [optZ,q,H3,K7,nrS,O3,D4]
theorem r59 (d:DfM) (hd:DfG d) (t:Tm) (ht:Gt d.op t) (hn:t.nodes<=60) (i:Nat) (p:List Int) (hx:nx d t=some (i,p)):rn ⟨59,0,0⟩ [.sl (d.so.map sRow),.sl (d.op.map OpM.row),.sl (d.ru.map RuM.row),.sl (d.st.map StM.row),.int t.k,.int t.n,.str t.s,.sl (t.as.map Tm.row),.int (i:Int),.sl (p.map iRow)]=some (0,[.int (stepT d t i p).k,.int (stepT d t i p).n,.str (stepT d t i p).s,.bool (stepT d t i p).valid,.sl ((stepT d t i p).as.map Tm.row)]):=by
 obtain ⟨u,r,w,h1,h2,h3,e,hu,hun,hw,hwn,hg,hgn,hp,hr⟩:=step_good hd ht hn hx;obtain ⟨hi,hri⟩:=List.getElem?_eq_some_iff.1 h2;have hrn:=valid_nodes hr.rv;have hln:=valid_nodes hr.lv;have a1:=r113 t u (by omega) p (by omega) h1
 have a2:=r114 r hr u hun;have e3:=fireR_eq r u;rw [h3] at e3;split at e3
 · simp only [C9.injEq] at e3
   have hL:(∀ b∈fiL r u,b.2.nodes<=60)/\(fiL r u).length<=1048576:=by
    unfold fiL;cases hq:mT r.l u [] with
    | none=>exact ⟨by simp,by simp⟩
    | some l =>
     have hls:=mT_all (fun t=>t.nodes<=60) (fun t a h ha=>nodes_sub t a h ha) _ u [] l hun (by simp) hq
     have h1:=srtN_len r.l.names;have h2:=srtN_len (srtN r.l.names);have h3:=names_nodes r.l;have h4:=rsB_len l (srtN (srtN r.l.names));exact ⟨fun b hb=>rsB_mem (P:=fun t=>t.nodes<=60) hls _ b hb,by show (rsB l _).length<=_; omega⟩
   have hss:∀ b∈fiL r u,Small b.2:=fun b hb=>small_of _ (by have:=hL.1 b hb; omega)
   have a3:=r55 (fiL r u) hL.2 hss r.r (small_of _ (by omega))
   have a4:=r54 (aS (fiL r u) r.r) (aS_small hss _ (small_of _ (by omega)))
   rw [<- e3] at a4;have a5:=r115 w (by omega) p t u (by omega) (by omega) h1
   have a6:=r44 (stepT d t i p) (by omega) hg.w
   rw [<- e] at a5;rw [e59_0_0];subst hri;rw [h3] at a2;simp only [a1,B6,inbN,hi,H3,H1,B8,rowAt_map hi,RuM.row,nv0,nvS,dvI,dvB,dvS,dvL,B5,a2,a3,a4,a5,a6,P9]
 · simp at e3
theorem r57 (d:DfM) (hb:DfB d) (t:Tm) (hw:Wt t) (hn:t.nodes<=2097152):rn ⟨57,0,0⟩ [.sl (d.so.map sRow),.sl (d.op.map OpM.row),.sl (d.ru.map RuM.row),.sl (d.st.map StM.row),.int t.k,.int t.n,.str t.s,.sl (t.as.map Tm.row)]=some (0,[.bool (cfg d t)]):=by
 have h1:=r42 d hb;have h2:=r44 t (by omega) hw
 have h4:=r47 (d.so.map sRow) d.op hb.op [] (by simp) t hw
 simp only [D4] at h4;rw [e57_0_0];simp only [h1,h2,nv0,nvS,dvI,dvB,dvS,dvL,B5];unfold cfg;cases d.valid <;> try rfl
 cases hv:t.valid with
 | false=>rfl
 | true =>
  have h3:=r109 t (by have:=valid_nodes hv; omega)
  simp only [h3,h4,nv0,nvS,dvI,dvB,dvS,dvL,B5,H1,F4];cases isG t <;> rfl
theorem r25 (d:DfM) (hb:DfB d) (t:Tm) (hw:Wt t) (hn:t.nodes<=2097152) (f:Int):rn ⟨25,0,0⟩ [.sl (d.so.map sRow),.sl (d.op.map OpM.row),.sl (d.ru.map RuM.row),.sl (d.st.map StM.row),.int t.k,.int t.n,.str t.s,.sl (t.as.map Tm.row),.int f]=some (0,[.bool (cfg d t&&(decide (0<=f)&&decide (f<=200)))]):=by
 have h1:=r57 d hb t hw hn;rw [e25_0_0];simp only [h1,rIn,nv0,nvS,dvI,dvB,dvS,dvL,B5];cases cfg d t <;> rfl
end Go.Q.S
end
section
namespace Go.Q.S
open Go Go.Q Go.Proofs
theorem runSL (d:DfM) (hd:DfG d):∀ (n:Nat) (t:Tm) (S:List Tm) (R:List (Nat × List Int)) (f:Nat),Gt d.op t->t.nodes<=60->R.length+n=f->f<=200->S.length<=R.length->rn ⟨26,0,1⟩ [.int (f:Int),.sl (d.so.map sRow),.sl (d.op.map OpM.row),.sl (d.ru.map RuM.row),.sl (d.st.map StM.row),.int 1,.int t.k,.int t.n,.str t.s,.int (R.length:Int),.sl (t.as.map Tm.row),.sl (R.map rdRow),.sl (S.map Tm.row)]=some (0,[.int (runF d n t).o,.int (runF d n t).t.k,.int (runF d n t).t.n,.str (runF d n t).t.s,.int ((R.length+(runF d n t).rd.length:Nat):Int),.sl ((runF d n t).t.as.map Tm.row),.sl ((R++(runF d n t).rd).map rdRow),.sl ((S++t::(runF d n t).st).map Tm.row)]):=by
 intro n;induction n with
 | zero =>
  intro t S R f ht hn hR hf hS;have h1:=r58 d hd t ht hn;have e1:((R.length:Int)=(f:Int)):=by omega
  have b1:E9 (S.length+1) M63=true:=nb (by omega)
  have hi:inb (S.length:Int) (S.length+1)=true:=by simp [inb]; omega
  have ho:=over_last' (S.map Tm.row) t.k t.n 0 0 t.s ⟨#[]⟩ (t.as.map Tm.row) [];rw [B6] at ho;rw [e26_0_1];cases hx:nx d t with
  | none =>
   rw [hx] at h1;simp only [h1,nrS,nv0,nvS,dvI,dvB,dvS,dvL,B5,K0,H1,B6,E0,C1,C7,D2,b1,hi,B8,ho,runF_none hx,G9,O1,D6,C6,D4,Tm.row_eq]
  | some x =>
   rw [hx] at h1;simp only [h1,nrS,nv0,nvS,dvI,dvB,dvS,dvL,B5,D8,H1,H2,B6,E0,C1,C7,D2,b1,hi,B8,ho,e1,H3,runF_zero hx,G9,O1,D6,C6,D4,Tm.row_eq]
 | succ n ih =>
  intro t S R f ht hn hR hf hS;have h1:=r58 d hd t ht hn;have e1:¬((R.length:Int)=(f:Int)):=by omega
  have b1:E9 (S.length+1) M63=true:=nb (by omega)
  have b2:E9 (R.length+1) M63=true:=nb (by omega)
  have hi:inb (S.length:Int) (S.length+1)=true:=by simp [inb]; omega
  have ho:=over_last' (S.map Tm.row) t.k t.n 0 0 t.s ⟨#[]⟩ (t.as.map Tm.row) [];have hw:IntKind.i64.wrap ((R.length:Int)+1)=((R.length+1:Nat):Int):=IntWalk.i64_in _ (by omega)
  rw [B6] at ho;rw [e26_0_1];cases hx:nx d t with
  | none =>
   rw [hx] at h1;simp only [h1,nrS,nv0,nvS,dvI,dvB,dvS,dvL,B5,K0,H1,B6,E0,C1,C7,D2,b1,hi,B8,ho,runF_none hx,G9,O1,D6,C6,D4,Tm.row_eq]
  | some x =>
   rw [hx] at h1;have h3:=r59 d hd t ht hn x.1 x.2 hx;obtain ⟨_,_,_,_,_,_,_,_,_,_,_,hg,hgn,_⟩:=step_good hd ht hn hx;cases hv:(stepT d t x.1 x.2).valid with
   | false =>
    rw [hv] at h3;simp only [h1,nrS,h3,nv0,nvS,dvI,dvB,dvS,dvL,B5,D8,K0,H1,H2,B6,E0,C1,C7,D2,b1,hi,B8,ho,e1,H4,runF_bad hx hv,G9,O1,D6,C6,D4,Tm.row_eq]
   | true =>
    rw [hv] at h3;have h5:=ih (stepT d t x.1 x.2) (S++[t]) (R++[x]) f hg (valid_nodes hv) (by simp; omega) hf (by simp; omega)
    simp only [D6,C6,D4,Tm.row_eq,rdRow,E0,C1,C7,D2] at h5;have ea:R.length+1+(runF d n (stepT d t x.1 x.2)).rd.length=R.length+((runF d n (stepT d t x.1 x.2)).rd.length+1):=by omega
    simp only [h1,nrS,h3,nv0,nvS,dvI,dvB,dvS,dvL,B5,D8,H1,H2,B6,E0,C1,C7,D2,b1,b2,hi,hw,B8,ho,e1,H4,h5,runF_ok hx hv];simp only [D6,C6,D4,Tm.row_eq,rdRow,D7,G8,E5,C1,ea]
theorem r26 (d:DfM) (hb:DfB d) (t:Tm) (hw:Wt t) (f:Int) (f1:0<=f) (f2:f<=200) (hc:cfg d t=true):rn ⟨26,0,0⟩ [.sl (d.so.map sRow),.sl (d.op.map OpM.row),.sl (d.ru.map RuM.row),.sl (d.st.map StM.row),.int t.k,.int t.n,.str t.s,.sl (t.as.map Tm.row),.int f]=some (0,allD (runF d f.toNat t) t):=by
 obtain ⟨hd,ht,hn60⟩:=cfg_of hb hw hc;have h2:=r50 t (small_of t (by omega))
 have h3:=runSL d hd f.toNat t [] [] f.toNat ht hn60 (by simp) (by omega) (by simp)
 have ef:((f.toNat:Nat):Int)=f:=by omega
 simp only [ef,D4,C7,D2,E5,C3] at h3;rw [e26_0_0];simp only [h2,nv0,nvS,dvI,dvB,dvS,dvL,B5,h3,E1,H1,H2,allD]
end Go.Q.S
end
section
namespace Go.Q.S
open Go Go.Q Go.Proofs
theorem r14 (d:DfM) (hb:DfB d) (t:Tm) (hw:Wt t) (hn:t.nodes<=2097152) (f:Int):rn ⟨14,0,0⟩ [.sl (d.so.map sRow),.sl (d.op.map OpM.row),.sl (d.ru.map RuM.row),.sl (d.st.map StM.row),.int t.k,.int t.n,.str t.s,.sl (t.as.map Tm.row),.int f]=some (0,rtD (runT d t f)):=by
 have h1:=r25 d hb t hw hn f;rw [e14_0_0,h1,runT_if];cases hc:(cfg d t&&(decide (0<=f)&&decide (f<=200))) with
 | false=>rfl
 | true =>
  simp only [B7,decide_eq_true_eq] at hc;have h2:=r26 d hb t hw f hc.2.1 hc.2.2 hc.1;simp only [nv0,nvS,dvI,dvB,dvS,dvL,B5,D8,H2,H1,h2,allD,rtD]
theorem r41 (l:List (Nat × List Int)) (hl:l.length<=1048576) (hp:∀ x∈l,x.2.length<=1048576):rn ⟨41,0,0⟩ [.sl (l.map rdRow)]=some (0,[.sl (l.map rdRow)]):=by
 have hf:=map_loop (F:=fun i acc=>rn ⟨41,0,1⟩ [.sl (l.map rdRow),.int (l.length:Int),.int (i:Int),.sl acc]) (xs:=l) rdRow (K:=fun acc=>some (0,[.sl acc])) (fun i hi acc ha=>by
  have h1:=rCloneI (l[i].2.map iRow) (by rw [B6]; have:=hp _ (C2 hi); omega)
  have hb2:E9 (acc.length+1) M63=true:=nb (by omega)
  rw [e41_0_1];simp only [B6,C0,hi,H3,H1,inbN,B8,rowAt_map hi,wrap_succ hi (maxB (by omega)),rdRow,nv0,nvS,dvI,dvB,dvS,dvL,B5,h1,C1,C7,D2,hb2]) (fun acc=>by
  rw [e41_0_1];simp)
 simp only [C3] at hf;rw [e41_0_0];simp only [B6,hf,nv0,nvS,dvI,dvB,dvS,dvL,B5,E1,H1,H2]
theorem r12 (d:DfM) (hb:DfB d) (t:Tm) (hw:Wt t) (hn:t.nodes<=2097152) (f:Int):rn ⟨12,0,0⟩ [.sl (d.so.map sRow),.sl (d.op.map OpM.row),.sl (d.ru.map RuM.row),.sl (d.st.map StM.row),.int t.k,.int t.n,.str t.s,.sl (t.as.map Tm.row),.int f]=some (0,[.sl (trD (runT d t f))]):=by
 have h1:=r25 d hb t hw hn f;rw [e12_0_0,h1,runT_if];cases hc:(cfg d t&&(decide (0<=f)&&decide (f<=200))) with
 | false=>rfl
 | true =>
  simp only [B7,decide_eq_true_eq] at hc;have h2:=r26 d hb t hw f hc.2.1 hc.2.2 hc.1;simp only [nv0,nvS,dvI,dvB,dvS,dvL,B5,D8,H2,H1,h2,allD,trD]
end Go.Q.S
end
section
namespace Go.Q.S
open Go Go.Q Go.Proofs
theorem r79 (vars:List ByteArray) (t:Tm) (h:Small t) (cs:Rows) (c:Int):rn ⟨79,0,0⟩ [.sl (vars.map sRow),.int t.k,.int t.n,.str t.s,.sl (t.as.map Tm.row),.sl cs,.int c]=some (0,[.int (S.instR vars t c).k,.int (S.instR vars t c).n,.str (S.instR vars t c).s,.bool (isC vars.length c),.sl ((S.instR vars t c).as.map Tm.row)]):=by
 have e1:=r37 vars.length c;have e2:=r140 vars c;have e3:=r139 (caseS vars c) (caseS_len vars c) (caseS_small vars c) t h;have e4:=r138 _ (aS_small (caseS_small vars c) t h);rw [e79_0_0];simp only [B6,e1,nv0,nvS,dvI,dvB,dvS,dvL,B5];unfold S.instR;cases hc:isC vars.length c with
 | false=>rfl
 | true=>simp only [D8,H2,e2,e3,e4,nv0,nvS,dvI,dvB,dvS,dvL,B5,if_true]; rfl
theorem r10 (vars:List ByteArray) (t:Tm) (h:Small t) (cs:Rows) (c:Int):rn ⟨10,0,0⟩ [.sl (vars.map sRow),.int t.k,.int t.n,.str t.s,.sl (t.as.map Tm.row),.sl cs,.int c]=some (0,[.int (S.instR vars t c).k,.int (S.instR vars t c).n,.str (S.instR vars t c).s,.bool (isC vars.length c),.sl ((S.instR vars t c).as.map Tm.row)]):=by
 have e1:=r22 vars.length;have e2:=r23 vars t h c;rw [e10_0_0];simp only [B6,e1,nv0,nvS,dvI,dvB,dvS,dvL,B5,rIn,wcnt];unfold S.instR;cases hc:isC vars.length c with
 | false=>rfl
 | true=>simp only [D8,H2,e2,nv0,nvS,dvI,dvB,dvS,dvL,B5,if_true]
end Go.Q.S
end
section
namespace Go.Q.S
open Go Go.Q Go.Proofs
theorem symI (d:DfM) (hb:DfB d) (vars:List ByteArray) (hv:vars.length<=1048576) (hvs:∀ x∈vars,x.size<=maxLen) (t:Tm) (hw:Wt t) (hn:t.nodes<=1048577) (cs:List Int) (hcs:cs.length<=1048576):rn ⟨16,0,0⟩ [.sl (d.so.map sRow),.sl (d.op.map OpM.row),.sl (d.ru.map RuM.row),.sl (d.st.map StM.row),.sl (vars.map sRow),.int t.k,.int t.n,.str t.s,.sl (t.as.map Tm.row),.sl (cs.map iRow)]=some (0,[.bool (symC d vars t cs)]):=by
 have hl1:∀ n i,i+n=vars.length->rn ⟨16,0,1⟩ [.sl (vars.map sRow),.int (vars.length:Int),.int (i:Int),.sl (d.so.map sRow),.sl (d.op.map OpM.row),.sl (d.ru.map RuM.row),.sl (d.st.map StM.row),.sl (vars.map sRow),.int t.k,.int t.n,.str t.s,.sl (t.as.map Tm.row),.sl (cs.map iRow)]=bif (vars.drop i).all isVr then some (0,[.sl (d.so.map sRow),.sl (d.op.map OpM.row),.sl (d.ru.map RuM.row),.sl (d.st.map StM.row),.sl (vars.map sRow),.int t.k,.int t.n,.str t.s,.sl (t.as.map Tm.row),.sl (cs.map iRow)]) else some (1,[]):=by
  intro n;induction n with
  | zero =>
   intro i hi;obtain rfl:i=vars.length:=by omega
   rw [e16_0_1];simp only [B6,C0,D5,H4,H2,C8,N1,H1]
  | succ n ih =>
   intro i hi;have hlt:i<vars.length:=by omega
   rw [e16_0_1,B9 hlt];have h1:=r32 vars[i] (hvs _ (C2 hlt));simp only [B6,C0,hlt,H3,H1,inbN,B8,rowAt_map hlt,wrap_succ hlt (maxB (by omega)),sRow,nv0,nvS,dvI,dvB,dvS,dvL,B5,h1,ih (i+1) (by omega),J6]
   cases isVr vars[i] <;> rfl
 have h1:=hl1 vars.length 0 (by omega)
 simp only [D1,C3] at h1;have hl3:∀ n i,i+n=cs.length->rn ⟨16,0,3⟩ [.sl (cs.map iRow),.int (cs.length:Int),.int (i:Int),.sl (vars.map sRow),.int t.k,.int t.n,.str t.s,.sl (t.as.map Tm.row),.sl (cs.map iRow)]=bif incC vars.length (prv cs i) (cs.drop i) then some (0,[]) else some (1,[]):=by
  intro n;induction n with
  | zero =>
   intro i hi;obtain rfl:i=cs.length:=by omega
   rw [e16_0_3];simp only [B6,C0,D5,H4,H2,C8,incC,H1]
  | succ n ih =>
   intro i hi;have hlt:i<cs.length:=by omega
   have h1:=r37 vars.length cs[i];have hp:prv cs (i+1)=some cs[i]:=by simp [prv,hlt]
   have h2:=ih (i+1) (by omega)
   rw [hp] at h2;rw [e16_0_3,B9 hlt];simp only [B6,C0,hlt,H3,H1,inbN,B8,rowAt_map hlt,wrap_succ hlt (maxB (by omega)),iRow,nv0,nvS,dvI,dvB,dvS,dvL,B5,h1,incC,h2]
   cases isC vars.length cs[i] with
   | false=>rfl
   | true =>
    rcases i with _ | j
    · simp [prv]
    · have hj:j<cs.length:=by omega
      have q1:(0:Int)<((j+1:Nat):Int):=by omega
      have hw:IntKind.i64.wrap (((j+1:Nat):Int)-1)=(j:Int):=by rw [IntWalk.i64_in _ (by omega)]; omega
      simp only [q1,hw,inbN,hj,H3,H1,H2,D8,F4,B8,rowAt_map hj,iRow,nv0,nvS,dvI,dvB,dvS,dvL,B5,prv,F5 hj];by_cases q:cs[j+1]<=cs[j] <;> simp [q]
 have h8:=hl3 cs.length 0 (by omega)
 simp only [D1,C3,prv] at h8;have h2:=r30 d hb;have h3:=r31 vars hv;have h4:=r33 t (by omega) hw
 have h5:=r34 t hn vars (maxB (by omega))
 have h6:=r36 vars hv;have h7:=r35 (d.so.map sRow) d.op hb.op (wv vars) (by unfold wv; rw [B6]; omega) t hw
 rw [e16_0_0];simp only [B6,h2,h3,nv0,nvS,dvI,dvB,dvS,dvL,B5];unfold symC symV;cases d.valid
 · rfl
 · by_cases q1:vars.length<=3
   · have q1':¬((3:Int)<(vars.length:Int)):=by omega
     simp only [q1,q1',H3,H4,H2,F4,D8];cases dis vars
     · rfl
     · simp only [D8,H2,h1,F4]
       cases vars.all isVr
       · rfl
       · simp only [H1,nv0,nvS,dvI,dvB,dvS,dvL,B5,E1,H1,H2,h4,h5,h6,h7,F4]
         cases t.valid
         · rfl
         · cases within t vars
           · rfl
           · by_cases q2:sortT d.op (wv vars) t=e0
             · simp [q2]
             · simp only [q2,D8,K0,H2,H4,B6,h8,F4]
               cases incC vars.length none cs <;> rfl
   · have q1':((3:Int)<(vars.length:Int)):=by omega
     simp [q1,q1']
theorem symS (d:DfM) (hb:DfB d) (vars:List ByteArray) (hv:vars.length<=1048576) (hvs:∀ x∈vars,x.size<=maxLen) (t:Tm) (hw:Wt t) (hn:t.nodes<=1048577) (cs:List Int) (hcs:cs.length<=1048576):rn ⟨18,0,0⟩ [.sl (d.so.map sRow),.sl (d.op.map OpM.row),.sl (d.ru.map RuM.row),.sl (d.st.map StM.row),.sl (vars.map sRow),.int t.k,.int t.n,.str t.s,.sl (t.as.map Tm.row),.sl (cs.map iRow)]=some (0,[.bool (symC d vars t cs)]):=by
 have hl1:∀ n i,i+n=cs.length->rn ⟨18,0,1⟩ [.int (i:Int),.sl (d.so.map sRow),.sl (d.op.map OpM.row),.sl (d.ru.map RuM.row),.sl (d.st.map StM.row),.sl (vars.map sRow),.int t.k,.int t.n,.str t.s,.sl (t.as.map Tm.row),.sl (cs.map iRow)]=bif incC vars.length (prv cs i) (cs.drop i) then some (0,[.sl (d.so.map sRow),.sl (d.op.map OpM.row),.sl (d.ru.map RuM.row),.sl (d.st.map StM.row),.sl (vars.map sRow),.int t.k,.int t.n,.str t.s,.sl (t.as.map Tm.row),.sl (cs.map iRow)]) else some (1,[]):=by
  intro n;induction n with
  | zero =>
   intro i hi;obtain rfl:i=cs.length:=by omega
   rw [e18_0_1];simp only [B6,C0,D5,H4,H2,C8,incC,H1]
  | succ n ih =>
   intro i hi;have hlt:i<cs.length:=by omega
   have h1:=r22 vars.length;have hp:prv cs (i+1)=some cs[i]:=by simp [prv,hlt]
   have h2:=ih (i+1) (by omega)
   rw [hp] at h2;rw [e18_0_1,B9 hlt];simp only [B6,C0,hlt,H3,H1,inbN,B8,rowAt_map hlt,wrap_succ hlt (maxB (by omega)),iRow,nv0,nvS,dvI,dvB,dvS,dvL,B5,h1,rIn,wcnt,incC,h2]
   cases isC vars.length cs[i] with
   | false=>rfl
   | true =>
    rcases i with _ | j
    · simp [prv]
    · have hj:j<cs.length:=by omega
      have q1:(0:Int)<((j+1:Nat):Int):=by omega
      have hw:IntKind.i64.wrap (((j+1:Nat):Int)-1)=(j:Int):=by rw [IntWalk.i64_in _ (by omega)]; omega
      simp only [q1,hw,inbN,hj,H3,H1,H2,D8,F4,B8,rowAt_map hj,iRow,nv0,nvS,dvI,dvB,dvS,dvL,B5,prv,F5 hj];by_cases q:cs[j+1]<=cs[j] <;> simp [q]
 have h1:=hl1 cs.length 0 (by omega)
 simp only [D1,C3,prv] at h1;have h2:=r42 d hb;have h3:=r43 vars hv hvs;have h4:=r44 t (by omega) hw
 have hnt:=names_nodes t;have hsl:=srtN_len t.names;have h5:=r46 t hn;have h5':=r45 (srtN t.names) vars (by omega) (maxB (by omega))
 have h6:=r48 vars hv;have h7:=r47 (d.so.map sRow) d.op hb.op (wv vars) (by unfold wv; rw [B6]; omega) t hw
 rw [e18_0_0];simp only [B6,h1,h2,h3,h4,h5,h5',h6,h7,nv0,nvS,dvI,dvB,dvS,dvL,B5,E1,H1,H2];unfold symC symV;cases d.valid <;> try rfl
 cases decide (vars.length<=3) <;> try rfl
 cases dis vars <;> try rfl
 cases vars.all isVr <;> try rfl
 cases t.valid <;> try rfl
 have hw:=wo_srt' t vars;cases hw2:within t vars with
 | true =>
  rw [hw2] at hw;have:(wo (srtN t.names) vars).length=0:=hw.2 rfl;cases incC vars.length none cs with
  | false=>simp [this]; rfl
  | true =>
   simp only [this,C3,Int.lt_irrefl,H4,H2,H1,D8,nv0,nvS,dvI,dvB,dvS,dvL,B5,E1,H1,H2,h6,h7];simp
 | false =>
  rw [hw2] at hw;have:¬(wo (srtN t.names) vars).length=0:=fun h=>by have:=hw.1 h; simp at this
  have:0<(wo (srtN t.names) vars).length:=by omega
  simp [this]
theorem eqLoop {F:Nat->R} {a b:List ByteArray} (hlen:a.length=b.length) {A B:R} (hs:∀ i (hi:i<a.length),F i=bif decide (a[i]=b[i]'(by omega)) then F (i+1) else B) (he:F a.length=A):F 0=bif decide (a=b) then A else B:=by
 have key:∀ n i,i+n=a.length->F i=bif decide (a.drop i=b.drop i) then A else B:=by
  intro n;induction n with
  | zero =>
   intro i hi;obtain rfl:i=a.length:=by omega
   rw [he,C8,N8 (by omega)]; rfl
  | succ n ih =>
   intro i hi;have hlt:i<a.length:=by omega
   rw [hs i hlt,ih (i+1) (by omega),B9 hlt,B9 (show i<b.length by omega)]
   by_cases h1:a[i]=b[i]'(by omega)
   · simp only [h1,P3.injEq,true_and,H3,H1]
   · simp only [h1,P3.injEq,false_and,H4,H2]
 simpa using key a.length 0 (by omega)
theorem r52 (a b:List ByteArray) (ha:a.length<=1048576):rn ⟨52,0,0⟩ [.sl (a.map sRow),.sl (b.map sRow)]=some (0,[.bool (eqLs a b)]):=by
 rw [e52_0_0];simp only [B6];by_cases hlen:a.length=b.length
 · have hf:=eqLoop (F:=fun i=>rn ⟨52,0,1⟩ [.sl (a.map sRow),.sl (b.map sRow),.int (i:Int)]) hlen (A:=some (0,[])) (B:=some (1,[])) (fun i hi=>by
    have hi':i<b.length:=by omega
    rw [e52_0_1];simp only [B6,C0,hi,H3,H1,inbN,B8,rowAt_map hi,wrap_succ hi (maxB (by omega)),hi',rowAt_map hi',sRow,nv0,nvS,dvI,dvB,dvS,dvL,B5]
    by_cases h1:a[i]=b[i] <;> simp [h1]) (by
    rw [e52_0_1];simp only [B6,C0,D5,H4,H2,C8])
   simp only [C3] at hf;have e:((a.length:Int)=(b.length:Int)):=by omega
   simp only [e,H3,D8,H2];rw [hf];unfold eqLs;cases decide (a=b) <;> rfl
 · have e:¬((a.length:Int)=(b.length:Int)):=by omega
   have:¬ a=b:=fun h=>hlen (by rw [h])
   simp [e,eqLs,this]
end Go.Q.S
end
section
namespace Go.Q.S
open Go Go.Q Go.Proofs
theorem atI (t:Tm) (p:List Int) (hp:p.length<=1048576):rn ⟨144,0,0⟩ [.int t.k,.int t.n,.str t.s,.sl (t.as.map Tm.row),.sl (p.map iRow)]=some (0,[.int (atO t p).k,.int (atO t p).n,.str (atO t p).s,.sl ((atO t p).as.map Tm.row),.bool (atT t p).isSome]):=by
 have key:∀ n i (t:Tm),i+n=p.length->rn ⟨144,0,1⟩ [.sl (p.map iRow),.int (p.length:Int),.int (i:Int),.int t.k,.int t.n,.str t.s,.sl (t.as.map Tm.row),.int 0,.int 0,.str e0,.sl []]=match atT t (p.drop i) with
  | some u=>some (0,[.int u.k,.int u.n,.str u.s,.sl (u.as.map Tm.row),.int 0,.int 0,.str e0,.sl []])
  | none=>some (1,[.int 0,.int 0,.str e0,.sl []]):=by
  intro n;induction n with
  | zero =>
   intro i t hi;obtain rfl:i=p.length:=by omega
   rw [e144_0_1];simp only [B6,C0,D5,H4,H2,C8,atT]
  | succ n ih =>
   intro i t hi;have hlt:i<p.length:=by omega
   rw [e144_0_1,B9 hlt];generalize hj:p[i]=j;by_cases h0:j<0
   · have e:atT t (j::p.drop (i+1))=none:=by
      simp only [atT];split
      · rw [H6 (by omega)]
      · rfl
     rw [e];simp only [B6,C0,hlt,H3,H1,inbN,B8,rowAt_map hlt,wrap_succ hlt (maxB (by omega)),hj,iRow,nv0,nvS,dvI,dvB,dvS,dvL,B5,h0]
   · obtain ⟨m,rfl⟩:∃ m:Nat,j=(m:Int):=⟨j.toNat,by omega⟩
     by_cases hm:m<t.as.length
     · have h2:=ih (i+1) t.as[m] (by omega)
       have e:atT t ((m:Int)::p.drop (i+1))=atT t.as[m] (p.drop (i+1)):=by
        simp only [atT,B8,dif_pos hm];rw [H5 (by omega)]
       have q2:¬((t.as.length:Int)<=(m:Int)):=by omega
       rw [e,<- h2];simp only [B6,C0,hlt,H3,H1,inbN,B8,rowAt_map hlt,wrap_succ hlt (maxB (by omega)),hm,hj,h0,q2,H4,H2,rowAt_map hm,Tm.row_eq,iRow,nv0,nvS,dvI,dvB,dvS,dvL,B5]
     · have e:atT t ((m:Int)::p.drop (i+1))=none:=by simp only [atT,B8,dif_neg hm]
       have q2:(t.as.length:Int)<=(m:Int):=by omega
       rw [e];simp only [B6,C0,hlt,H3,H1,inbN,B8,rowAt_map hlt,wrap_succ hlt (maxB (by omega)),hj,h0,q2,H4,H2,iRow,nv0,nvS,dvI,dvB,dvS,dvL,B5]
 have h1:=key p.length 0 t (by omega)
 simp only [C3,D1] at h1;rw [e144_0_0];simp only [B6,h1];unfold atO;cases atT t p <;> rfl
theorem atS (t:Tm) (hn:t.nodes<=1048577) (p:List Int) (hp:p.length<=1048576):rn ⟨113,0,0⟩ [.int t.k,.int t.n,.str t.s,.sl (t.as.map Tm.row),.sl (p.map iRow)]=some (0,[.int (atO t p).k,.int (atO t p).n,.str (atO t p).s,.bool (atT t p).isSome,.sl ((atO t p).as.map Tm.row)]):=by
 have key:∀ n i (t:Tm),i+n=p.length->t.nodes<=1048577->rn ⟨113,0,1⟩ [.sl (p.map iRow),.int (i:Int),.int t.k,.int t.n,.str t.s,.sl (t.as.map Tm.row),.int 0,.int 0,.str e0,.sl []]=match atT t (p.drop i) with
  | some u=>some (0,[.int u.k,.int u.n,.str u.s,.sl (u.as.map Tm.row),.int 0,.int 0,.str e0,.sl []])
  | none=>some (1,[.int 0,.int 0,.str e0,.sl []]):=by
  intro n;induction n with
  | zero =>
   intro i t hi _;obtain rfl:i=p.length:=by omega
   rw [e113_0_1];simp only [B6,C0,D5,H4,H2,C8,atT]
  | succ n ih =>
   intro i t hi hn;have hlt:i<p.length:=by omega
   have hls:=len_sum (xs:=t.as);have hnd:=Tm.nodes_eq t;have hw:IntKind.i64.wrap ((t.as.length:Int)-1)=(t.as.length:Int)-1:=IntWalk.i64_in _ (by omega)
   rw [e113_0_1,B9 hlt];generalize hj:p[i]=j;by_cases h0:0<=j
   · obtain ⟨m,rfl⟩:∃ m:Nat,j=(m:Int):=⟨j.toNat,by omega⟩
     by_cases hm:m<t.as.length
     · have hmn:=mem_sum (f:=Tm.nodes) (C2 hm)
       have h2:=ih (i+1) t.as[m] (by omega) (by omega)
       have e:atT t ((m:Int)::p.drop (i+1))=atT t.as[m] (p.drop (i+1)):=by
        simp only [atT,B8,dif_pos hm];rw [H5 (by omega)]
       have q2:(m:Int)<=(t.as.length:Int)-1:=by omega
       rw [e,<- h2];simp only [B6,C0,hlt,H3,H1,inbN,B8,rowAt_map hlt,wrap_succ hlt (maxB (by omega)),hm,hj,hw,rIn,h0,q2,N0,D8,H2,rowAt_map hm,Tm.row_eq,iRow,nv0,nvS,dvI,dvB,dvS,dvL,B5]
     · have e:atT t ((m:Int)::p.drop (i+1))=none:=by simp only [atT,B8,dif_neg hm]
       have q2:¬(m:Int)<=(t.as.length:Int)-1:=by omega
       rw [e];simp only [B6,C0,hlt,H3,H1,inbN,B8,rowAt_map hlt,wrap_succ hlt (maxB (by omega)),hj,hw,rIn,h0,q2,H4,Bool.and_false,K0,iRow,nv0,nvS,dvI,dvB,dvS,dvL,B5]
   · have e:atT t (j::p.drop (i+1))=none:=by
      simp only [atT];split <;> simp [h0]
     rw [e];simp only [B6,C0,hlt,H3,H1,inbN,B8,rowAt_map hlt,wrap_succ hlt (maxB (by omega)),hj,hw,rIn,h0,H4,Bool.false_and,K0,iRow,nv0,nvS,dvI,dvB,dvS,dvL,B5]
 have h1:=key p.length 0 t (by omega) hn
 simp only [C3,D1] at h1;rw [e113_0_0,h1];unfold atO;cases ha:atT t p with
 | none=>rfl
 | some u =>
  have hun:=atT_nodes p t u ha;have h3:=r50 u (small_of u (by omega))
  simp only [nv0,nvS,dvI,dvB,dvS,dvL,B5,E1,H1,H2,h3,O3,P9]
theorem posI:∀ t:Tm,∀ p:List Int,p.length+t.nodes<=1048576->rn ⟨175,0,0⟩ [.int t.k,.int t.n,.str t.s,.sl (t.as.map Tm.row),.sl (p.map iRow)]=some (0,[.sl ((posT t p).map pRow)]):=Tm.ind fun t ih p hp=>by
 have hnd:=Tm.nodes_eq t;have hls:=len_sum (xs:=t.as);have hlp:∀ n i (acc:List (List Int)),i+n=t.as.length->acc.length+((t.as.drop i).map Tm.nodes).sum<=1048576->rn ⟨175,0,1⟩ [.sl (p.map iRow),.sl (t.as.map Tm.row),.int (t.as.length:Int),.int (i:Int),.sl (acc.map pRow)]=some (0,[.sl ((acc++posL (t.as.drop i) p i).map pRow)]):=by
  intro n;induction n with
  | zero =>
   intro i acc hi _;obtain rfl:i=t.as.length:=by omega
   rw [e175_0_1];simp only [B6,C0,D5,H4,H2,C8,posL,G9]
  | succ n ih2 =>
   intro i acc hi hb;have hlt:i<t.as.length:=by omega
   have hm:=C2 hlt;have hmn:=mem_sum (f:=Tm.nodes) hm;have h1:=ih _ hm (p++[(i:Int)]) (by simp; omega)
   have h2:=rCloneI (p.map iRow) (by rw [B6]; omega)
   have hl:=posT_len t.as[i] (p++[(i:Int)]);rw [B9 hlt,C6,J7] at hb;have h3:=ih2 (i+1) (acc++posT t.as[i] (p++[(i:Int)])) (by omega) (by rw [E0,hl]; omega)
   have b1:E9 (p.length+1) M63=true:=nb (by omega)
   have b2:E9 (acc.length+t.as[i].nodes) M63=true:=nb (by omega)
   rw [posL_drop hlt,<- D7,<- h3];simp only [D6,C6,D4,iRow] at h1 h2 ⊢;rw [e175_0_1];simp only [B6,C0,hlt,H3,H1,inbN,B8,rowAt_map hlt,wrap_succ hlt (maxB (by omega)),Tm.row_eq,nv0,nvS,dvI,dvB,dvS,dvL,B5,h2,C1,C7,D2,b1,h1,hl,b2]
 have h1:=hlp t.as.length 0 [p] (by omega) (by simp only [D1,C1,C7]; omega)
 simp only [C3,D1,C6,D4,G8,E5] at h1;rw [e175_0_0,posT_eq];simp only [pRow] at h1 ⊢;simp only [B6,h1,nv0,nvS,dvI,dvB,dvS,dvL,B5,E1,H1,H2,C6];rfl
theorem r145 (t:Tm) (h:t.nodes<=1048576):rn ⟨145,0,0⟩ [.int t.k,.int t.n,.str t.s,.sl (t.as.map Tm.row)]=some (0,[.sl ((posT t []).map pRow)]):=by
 have h1:=posI t [] (by simpa using h)
 rw [D4] at h1;rw [e145_0_0];simp only [h1,nv0,nvS,dvI,dvB,dvS,dvL,B5]
theorem posS:∀ t:Tm,∀ (p:List Int) (acc:List (List Int)),p.length+t.nodes<=1048576->acc.length+t.nodes<=1048576->rn ⟨210,1,0⟩ [.int t.k,.int t.n,.str t.s,.sl (t.as.map Tm.row),.sl (p.map iRow),.sl (acc.map pRow)]=some (0,[.sl ((acc++posT t p).map pRow)]):=Tm.ind fun t ih p acc hp ha=>by
 have hnd:=Tm.nodes_eq t;have hls:=len_sum (xs:=t.as);have hlp:∀ n i (acc:List (List Int)),i+n=t.as.length->acc.length+((t.as.drop i).map Tm.nodes).sum<=1048576->rn ⟨210,1,1⟩ [.sl (p.map iRow),.int (i:Int),.sl (acc.map pRow),.int t.k,.int t.n,.str t.s,.sl (t.as.map Tm.row)]=some (0,[.sl ((acc++posL (t.as.drop i) p i).map pRow)]):=by
  intro n;induction n with
  | zero =>
   intro i acc hi _;obtain rfl:i=t.as.length:=by omega
   rw [e210_1_1];simp only [B6,C0,D5,H4,H2,C8,posL,G9]
  | succ n ih2 =>
   intro i acc hi hb;have hlt:i<t.as.length:=by omega
   have hm:=C2 hlt;have hmn:=mem_sum (f:=Tm.nodes) hm;have hl:=posT_len t.as[i] (p++[(i:Int)]);rw [B9 hlt,C6,J7] at hb;have h1:=ih _ hm (p++[(i:Int)]) acc (by simp; omega) (by omega)
   have h3:=ih2 (i+1) (acc++posT t.as[i] (p++[(i:Int)])) (by omega) (by rw [E0,hl]; omega)
   have b0:E9 (0+p.length) M63=true:=nb (by omega)
   have b1:E9 (p.length+1) M63=true:=nb (by omega)
   rw [posL_drop hlt,<- D7,<- h3];simp only [D6,C6,D4,iRow] at h1 ⊢;rw [e210_1_1];simp only [B6,C0,hlt,H3,H1,inbN,B8,rowAt_map hlt,wrap_succ hlt (maxB (by omega)),Tm.row_eq,nv0,nvS,dvI,dvB,dvS,dvL,B5,C1,C7,D2,b1,b0,E5,h1,show E9 p.length M63=true from by simpa using b0]
 have h1:=hlp t.as.length 0 (acc++[p]) (by omega) (by simp only [D1,E0,C1,C7]; omega)
 have b0:E9 p.length M63=true:=by simpa using nb (n:=p.length) (m:=0) (by omega)
 have b1:E9 (acc.length+1) M63=true:=nb (by omega)
 simp only [C3,D1,D6,C6,D4] at h1;rw [e210_1_0,posT_eq];simp only [pRow] at h1 ⊢;simp only [B6,C1,C7,D2,E5,b0,b1,H1,h1,nv0,nvS,dvI,dvB,dvS,dvL,B5,E1,H1,H2,D6,C6,D7,G8];rfl
theorem r200 (t:Tm) (h:t.nodes<=1048576):rn ⟨200,0,0⟩ [.int t.k,.int t.n,.str t.s,.sl (t.as.map Tm.row)]=some (0,[.sl ((posT t []).map pRow)]):=by
 have h1:=posS t [] [] (by simpa using h) (by simpa using h)
 rw [D4,D4] at h1;rw [e200_0_0];simp only [h1,nv0,nvS,dvI,dvB,dvS,dvL,B5,E5]
theorem eqLoopI {F:Nat->R} {a b:List Int} (hlen:a.length=b.length) {A B:R} (hs:∀ i (hi:i<a.length),F i=bif decide (a[i]=b[i]'(by omega)) then F (i+1) else B) (he:F a.length=A):F 0=bif decide (a=b) then A else B:=by
 have key:∀ n i,i+n=a.length->F i=bif decide (a.drop i=b.drop i) then A else B:=by
  intro n;induction n with
  | zero =>
   intro i hi;obtain rfl:i=a.length:=by omega
   rw [he,C8,N8 (by omega)]; rfl
  | succ n ih =>
   intro i hi;have hlt:i<a.length:=by omega
   rw [hs i hlt,ih (i+1) (by omega),B9 hlt,B9 (show i<b.length by omega)]
   by_cases h1:a[i]=b[i]'(by omega)
   · simp only [h1,P3.injEq,true_and,H3,H1]
   · simp only [h1,P3.injEq,false_and,H4,H2]
 simpa using key a.length 0 (by omega)
theorem rEqualI (a b:List Int) (ha:a.length<=1048576):rn ⟨143,0,0⟩ [.sl (a.map iRow),.sl (b.map iRow)]=some (0,[.bool (decide (a=b))]):=by
 rw [e143_0_0];simp only [B6];by_cases hlen:a.length=b.length
 · have hf:=eqLoopI (F:=fun i=>rn ⟨143,0,1⟩ [.sl (a.map iRow),.sl (b.map iRow),.int (a.length:Int),.int (i:Int)]) hlen (A:=some (0,[])) (B:=some (1,[])) (fun i hi=>by
    have hi':i<b.length:=by omega
    rw [e143_0_1];simp only [B6,C0,hi,H3,H1,inbN,B8,rowAt_map hi,wrap_succ hi (maxB (by omega)),hi',rowAt_map hi',iRow,nv0,nvS,dvI,dvB,dvS,dvL,B5]
    by_cases h1:a[i]=b[i] <;> simp [h1]) (by
    rw [e143_0_1];simp only [B6,C0,D5,H4,H2,C8])
   simp only [C3] at hf;have e:((a.length:Int)=(b.length:Int)):=by omega
   simp only [e,H3,D8,H2];rw [<- e,hf];cases decide (a=b) <;> rfl
 · have e:¬((a.length:Int)=(b.length:Int)):=by omega
   have:¬ a=b:=fun h=>hlen (by rw [h])
   simp [e,this]
theorem r83 (r r':Int) (a b:List Int) (ha:a.length<=1048576):rn ⟨83,0,0⟩ [.int r,.sl (a.map iRow),.int r',.sl (b.map iRow)]=some (0,[.bool (decide (r=r')&&decide (a=b))]):=by
 have h1:=rEqualI a b ha;rw [e83_0_0];by_cases e:r=r'
 · simp only [e,H3,H1,h1,nv0,nvS,dvI,dvB,dvS,dvL,B5,F4]
 · simp only [e,H4,H2,Bool.false_and]
theorem r53 (a b:List Int) (ha:a.length<=1048576):rn ⟨53,0,0⟩ [.sl (a.map iRow),.sl (b.map iRow)]=some (0,[.bool (decide (a=b))]):=by
 rw [e53_0_0];simp only [B6];by_cases hlen:a.length=b.length
 · have hf:=eqLoopI (F:=fun i=>rn ⟨53,0,1⟩ [.sl (a.map iRow),.sl (b.map iRow),.int (i:Int)]) hlen (A:=some (0,[])) (B:=some (1,[])) (fun i hi=>by
    have hi':i<b.length:=by omega
    rw [e53_0_1];simp only [B6,C0,hi,H3,H1,inbN,B8,rowAt_map hi,wrap_succ hi (maxB (by omega)),hi',rowAt_map hi',iRow,nv0,nvS,dvI,dvB,dvS,dvL,B5]
    by_cases h1:a[i]=b[i] <;> simp [h1]) (by
    rw [e53_0_1];simp only [B6,C0,D5,H4,H2,C8])
   simp only [C3] at hf;have e:((a.length:Int)=(b.length:Int)):=by omega
   simp only [e,H3,D8,H2];rw [hf];cases decide (a=b) <;> rfl
 · have e:¬((a.length:Int)=(b.length:Int)):=by omega
   have:¬ a=b:=fun h=>hlen (by rw [h])
   simp [e,this]
end Go.Q.S
end
section
namespace Go.Q.S
open Go Go.Q Go.Proofs
theorem b63 {n:Nat} (h:n<=4194304):E9 (n+1) M63=true:=nb (by omega)
theorem carLoopI (l u r t:Tm) (hl:l.nodes<=60) (xr:Int) (xat gs:Rows) (nm:ByteArray) (ps:List (List Int)) (hps:ps.length<=60) (hpl:∀ p∈ps,p.length<=1048576):∀ n i (acc:List Bnd),i+n=ps.length->acc.length<=i →
 rn ⟨84,0,1⟩ [.int (ps.length:Int),.int (i:Int),.int t.k,.int t.n,.str t.s,.sl (t.as.map Tm.row),.int xr,.sl xat,.int 0,.int 0,.str e0,.str nm,.int l.k,.int l.n,.str l.s,.sl (l.as.map Tm.row),.int r.k,.int r.n,.str r.s,.sl (r.as.map Tm.row),.sl gs,.int u.k,.int u.n,.str u.s,.sl (u.as.map Tm.row),.sl (acc.map Bnd.row),.sl (ps.map pRow),.sl []]=some (0,[.int t.k,.int t.n,.str t.s,.sl (t.as.map Tm.row),.int xr,.sl xat,.int 0,.int 0,.str e0,.str nm,.int l.k,.int l.n,.str l.s,.sl (l.as.map Tm.row),.int r.k,.int r.n,.str r.s,.sl (r.as.map Tm.row),.sl gs,.sl ((acc++(ps.drop i).filterMap (cB1 l u)).map Bnd.row),.sl []]):=by
 intro n;induction n with
 | zero =>
  intro i acc hi _;obtain rfl:i=ps.length:=by omega
  rw [e84_0_1];simp only [B6,C0,D5,H4,H2,C8,List.filterMap_nil,G9]
 | succ n ih =>
  intro i acc hi ha;have hlt:i<ps.length:=by omega
  have hp:=hpl _ (C2 hlt);have h1:=atI l ps[i] hp;have h2:=atI u ps[i] hp;have b1:E9 (acc.length+1) M63=true:=b63 (by omega)
  rw [B9 hlt,List.filterMap_cons,e84_0_1];simp only [B6,C0,hlt,H3,H1,inbN,B8,rowAt_map hlt,wrap_succ hlt (maxB (by omega)),pRow,nv0,nvS,dvI,dvB,dvS,dvL,B5,h1,h2,C1,C7,D2,b1]
  by_cases hk:(atO l ps[i]).k=1
  · have e:cB1 l u ps[i]=some ((atO l ps[i]).s,atO u ps[i]):=by rw [cB1,H5 hk]
    have h3:=ih (i+1) (acc++[((atO l ps[i]).s,atO u ps[i])]) (by omega) (by simp; omega)
    simp only [D6,C6,D4,bd_row,D7,G8,E5,pRow] at h3;simp only [hk,e,H3,H1,D7,D6,C6,G8,E5,bd_row];exact h3
  · have e:cB1 l u ps[i]=none:=by rw [cB1,H6 hk]
    have h3:=ih (i+1) acc (by omega) (by omega)
    simp only [hk,e,H4,H2];exact h3
theorem carI (d:DfM) (hd:DfG d) (t:Tm) (hw:Wt t) (hn:t.nodes<=60) (i:Nat) (hi:i<d.ru.length) (p:List Int) (hp:p.length<=60) (hat:∃ u,atT t p=some u):rn ⟨84,0,0⟩ [.sl (d.so.map sRow),.sl (d.op.map OpM.row),.sl (d.ru.map RuM.row),.sl (d.st.map StM.row),.int t.k,.int t.n,.str t.s,.sl (t.as.map Tm.row),.int (i:Int),.sl (p.map iRow)]=some (0,[.int (bT d t (some (i,p))).k,.int (bT d t (some (i,p))).n,.str (bT d t (some (i,p))).s,.bool (carT d t (i,p)).valid,.sl ((bT d t (some (i,p))).as.map Tm.row)]):=by
 have hr:=hd.ru (C2 hi);have hln:=valid_nodes hr.lv;have hrn:=valid_nodes hr.rv;obtain ⟨u,hu⟩:=hat;have hpl:=posT_len d.ru[i].l [];have hun:=atO_nodes t p (by decide) hn
 have hbn:∀ b∈carB d.ru[i].l (atO t p),b.2.nodes<=60:=carB_mem (P:=fun t=>t.nodes<=60) fun q=>atO_nodes (atO t p) q (by decide) hun
 have hbs:∀ b∈carB d.ru[i].l (atO t p),Small b.2:=fun b hb=>small_of _ (by have:=hbn b hb; omega)
 have hbl:(carB d.ru[i].l (atO t p)).length<=60:=G6 (List.length_filterMap_le ..) (by omega)
 have a1:=aS_nodesM (m:=60) (by decide) hbn d.ru[i].r
 have a2:=rW_nodes (aS (carB d.ru[i].l (atO t p)) d.ru[i].r);have a3:=put_nodes (rW (aS (carB d.ru[i].l (atO t p)) d.ru[i].r)) p t;have a5:t.nodes*(p.length+1)<=60*61:=T9 hn (by omega)
 have e2:carT d t (i,p)=rW (putT t p (aS (carB d.ru[i].l (atO t p)) d.ru[i].r)):=by
  simp only [carT,F5 hi]
 obtain ⟨c1,c2⟩:=carT_b hd hw hn (x:=(i,p)) hp;have h1:=atI t p (by omega)
 have h2:=r145 d.ru[i].l (by omega)
 have h3:=carLoopI d.ru[i].l (atO t p) d.ru[i].r t hln (i:Int) (p.map iRow) (d.ru[i].g.map Gu.row) d.ru[i].n (posT d.ru[i].l []) (by omega) (fun q hq=>by have:=posT_mem d.ru[i].l [] q hq; simp at this; omega) _ 0 [] (D2 _) (F9 _)
 rw [hpl] at h3;simp only [D1,E5,C3,D4] at h3;have h4:=r139 _ (by omega) hbs d.ru[i].r (small_of _ (by omega))
 have h5:=r138 (aS (carB d.ru[i].l (atO t p)) d.ru[i].r) (small_of _ (by omega))
 have h6:=r146 (rW (aS (carB d.ru[i].l (atO t p)) d.ru[i].r)) p t u (by omega) (by omega) hu
 have h7:=r138 (putT t p (rW (aS (carB d.ru[i].l (atO t p)) d.ru[i].r))) (small_of _ (by omega))
 rw [rW_put,<- e2] at h7;have h8:=r33 (carT d t (i,p)) (by omega) c1
 unfold carB at h4 h5 h6 h7;rw [e84_0_0];simp only [h1,h2,nv0,nvS,dvI,dvB,dvS,dvL,B5,inbN,B6,hi,H3,H1,B8,rowAt_map hi,RuM.row,hpl,h3,E1,H1,H2,h4,h5,h6,h7,h8];have hb:bT d t (some (i,p))=if (carT d t (i,p)).valid=true then carT d t (i,p) else tm0:=rfl
 rw [hb];cases (carT d t (i,p)).valid <;> rfl
theorem r182 (l u:Tm) (hl:l.nodes<=60) (hu:u.nodes<=60):rn ⟨182,0,0⟩ [.int l.k,.int l.n,.str l.s,.sl (l.as.map Tm.row),.int u.k,.int u.n,.str u.s,.sl (u.as.map Tm.row)]=some (0,[.sl ((carU l u (posT l []) []).map Bnd.row)]):=by
 have hpl:=posT_len l [];have hps:∀ p∈posT l [],p.length<=1048576:=fun q hq=>by have:=posT_mem l [] q hq; simp at this; omega
 have h2:=r200 l (by omega)
 have hlp:∀ n i (acc:List Bnd),i+n=(posT l []).length->acc.length<=i->(∀ b∈acc,Small b.2)->rn ⟨182,0,1⟩ [.int (i:Int),.int l.k,.int l.n,.str l.s,.sl (l.as.map Tm.row),.int u.k,.int u.n,.str u.s,.sl (u.as.map Tm.row),.sl (acc.map Bnd.row),.sl ((posT l []).map pRow)]=some (0,[.sl ((carU l u ((posT l []).drop i) acc).map Bnd.row)]):=by
  generalize posT l []=ps at hpl hps ⊢;intro n;induction n with
  | zero =>
   intro i acc hi _ _;obtain rfl:i=ps.length:=by omega
   rw [e182_0_1];simp only [B6,C0,D5,H4,H2,C8,carU]
  | succ n ih =>
   intro i acc hi ha hs;have hlt:i<ps.length:=by omega
   have hp:=hps _ (C2 hlt);have h1:=atS l (by omega) ps[i] hp
   have h2:=atS u (by omega) ps[i] hp
   have b1:E9 (acc.length+1) M63=true:=b63 (by omega)
   have hun:=atO_nodes u ps[i] (by decide) hu
   rw [B9 hlt,e182_0_1];simp only [carU,B6,C0,hlt,H3,H1,inbN,B8,rowAt_map hlt,wrap_succ hlt (maxB (by omega)),pRow,nv0,nvS,dvI,dvB,dvS,dvL,B5,h1,h2,C1,C7,D2,b1]
   have h4:=ih (i+1) acc (by omega) (by omega) hs
   by_cases hk:(atO l ps[i]).k=1
   · have h3:=ih (i+1) (acc++[((atO l ps[i]).s,atO u ps[i])]) (by omega) (by simp; omega) (fun b hb=>by
      rcases List.mem_append.1 hb with hb | hb
      · exact hs b hb
      · simp only [List.mem_singleton] at hb; subst hb; exact small_of _ (show (atO u ps[i]).nodes<=1048577 by omega))
     simp only [D6,C6,D4,bd_row,pRow] at h3 h4;simp only [hk,H3,H1,bd_row];rcases r155 acc (by omega) (atO l ps[i]).s with ⟨e,h5⟩|⟨j,hj,e,h5⟩
     · simp only [h5,nv0,nvS,dvI,dvB,dvS,dvL,B5,e,show decide ((-1:Int)<0)=true from rfl,H1,and_self,if_true]
       exact h3
     · have q:¬((j:Int)<0):=by omega
       simp only [h5,nv0,nvS,dvI,dvB,dvS,dvL,B5,e,q,H4,H2,reduceCtorEq,and_false,if_false];exact h4
   · simp only [hk,H4,H2,false_and,if_false]
     exact h4
 have h3:=hlp _ 0 [] (D2 _) (F9 _) (by simp)
 simp only [D1,C3,D4] at h3;rw [e182_0_0];simp only [h2,nv0,nvS,dvI,dvB,dvS,dvL,B5,h3,E1,H1,H2]
theorem r154 (d:DfM) (hd:DfG d) (v cs:Rows) (t:Tm) (hw:Wt t) (hn:t.nodes<=60) (i:Nat) (hi:i<d.ru.length) (p:List Int) (hp:p.length<=60) (hat:∃ u,atT t p=some u):rn ⟨154,0,0⟩ [.sl (d.so.map sRow),.sl (d.op.map OpM.row),.sl (d.ru.map RuM.row),.sl (d.st.map StM.row),.sl v,.int t.k,.int t.n,.str t.s,.sl (t.as.map Tm.row),.sl cs,.int (i:Int),.sl (p.map iRow)]=some (0,[.int (carT d t (i,p)).k,.int (carT d t (i,p)).n,.str (carT d t (i,p)).s,.sl ((carT d t (i,p)).as.map Tm.row)]):=by
 have hr:=hd.ru (C2 hi);have hln:=valid_nodes hr.lv;have hrn:=valid_nodes hr.rv;obtain ⟨u,hu⟩:=hat;have hpl:=posT_len d.ru[i].l [];have hun:=atO_nodes t p (by decide) hn
 have hbn:∀ b∈carU d.ru[i].l (atO t p) (posT d.ru[i].l []) [],b.2.nodes<=60:=carU_mem (P:=fun t=>t.nodes<=60) (fun q=>atO_nodes (atO t p) q (by decide) hun) _ [] (by simp)
 have hbs:∀ b∈carU d.ru[i].l (atO t p) (posT d.ru[i].l []) [],Small b.2:=fun b hb=>small_of _ (by have:=hbn b hb; omega)
 have hbl:=carU_len d.ru[i].l (atO t p) (posT d.ru[i].l []) [];have a1:=aS_nodesM (m:=60) (by decide) hbn d.ru[i].r
 have a3:=put_nodes (aS (carU d.ru[i].l (atO t p) (posT d.ru[i].l []) []) d.ru[i].r) p t;have a5:t.nodes*(p.length+1)<=60*61:=T9 hn (by omega)
 have e2:carT d t (i,p)=rW (putT t p (aS (carU d.ru[i].l (atO t p) (posT d.ru[i].l []) []) d.ru[i].r)):=by
  simp only [carT,F5 hi,carU_aS]
 have h1:=atS t (by omega) p (by omega)
 have h2:=r182 d.ru[i].l (atO t p) hln hun;have h4:=r55 _ (by simp at hbl; omega) hbs d.ru[i].r (small_of _ (by omega))
 have h6:=r115 (aS (carU d.ru[i].l (atO t p) (posT d.ru[i].l []) []) d.ru[i].r) (by omega) p t u (by omega) (by omega) hu
 have h7:=r54 (putT t p (aS (carU d.ru[i].l (atO t p) (posT d.ru[i].l []) []) d.ru[i].r)) (small_of _ (by omega))
 rw [<- e2] at h7;rw [e154_0_0];simp only [h1,nv0,nvS,dvI,dvB,dvS,dvL,B5,inbN,B6,hi,H3,H1,B8,rowAt_map hi,RuM.row,h2,h4,h6,h7]
theorem r102 (d:DfM) (hd:DfG d) (v:List ByteArray) (hv:v.length<=1048576) (cs:Rows) (t:Tm) (hw:Wt t) (hn:t.nodes<=60) (x:Bk) (hx:BkG d t x):rn ⟨102,0,0⟩ [.sl (d.so.map sRow),.sl (d.op.map OpM.row),.sl (d.ru.map RuM.row),.sl (d.st.map StM.row),.sl (v.map sRow),.int t.k,.int t.n,.str t.s,.sl (t.as.map Tm.row),.sl cs,.int (bR x),.bool x.isSome,.sl ((bP x).map iRow)]=some (0,[.int (bK d t x),.int (bR x),.int (bT d t x).k,.int (bT d t x).n,.str (bT d t x).s,.sl ((bP x).map iRow),.sl (v.map sRow),.sl ((bT d t x).as.map Tm.row),.sl []]):=by
 have b1:E9 v.length M63=true:=by simpa using nb (n:=v.length) (m:=0) (by omega)
 have h1:=r50 t (small_of t (by omega))
 rw [e102_0_0];simp only [C7,D2,B6,b1,H1,h1,nv0,nvS,dvI,dvB,dvS,dvL,B5,E5];cases x with
 | none=>rfl
 | some y =>
  obtain ⟨y1,y2,y3⟩:=hx.i y rfl;have h2:=r154 d hd (v.map sRow) cs t hw hn y.1 y1 y.2 y2 y3;obtain ⟨c1,c2⟩:=carT_b hd hw hn (x:=y) y2;have h3:=r44 (carT d t y) (by omega) c1
  simp only [bR,bP,P9,D8,H2,h2,nv0,nvS,dvI,dvB,dvS,dvL,B5,h3];have hb:bT d t (some y)=if (carT d t y).valid=true then carT d t y else tm0:=rfl
  have hk:bK d t (some y)=if (carT d t y).valid=true then 2 else 3:=rfl
  rw [hb,hk];cases (carT d t y).valid <;> rfl
theorem fndB_drop (out:List (Bk × List Int)) (x:Bk):fndI out x=match (out.drop 0).findIdx? (fun b=>decide (b.1=x)) with | some i=>((0+i:Nat):Int) | none=>-1:=by
 unfold fndI fndB;rw [D1];cases out.findIdx? fun b=>decide (b.1=x) with
 | none=>rfl
 | some i=>simp
theorem fndBI (d:DfM) (v:List ByteArray) (t:Tm) (out:List (Bk × List Int)) (ho:out.length<=1048576) (hp:∀ b∈out,(bP b.1).length<=1048576) (x:Bk):∃ w1 w2 w3,rn ⟨81,0,0⟩ [.sl (out.map (brRow d v t)),.bool x.isSome,.int (bR x),.sl ((bP x).map iRow)]=some (0,[.int (fndI out x),.bool w1,.int w2,.sl w3])/\w1=x.isSome/\w2=bR x/\w3=(bP x).map iRow:=by
 have hlp:∀ n i,i+n=out.length->rn ⟨81,0,1⟩ [.sl (out.map (brRow d v t)),.int (out.length:Int),.int (i:Int),.bool x.isSome,.int (bR x),.sl ((bP x).map iRow)]=match (out.drop i).findIdx? (fun b=>decide (b.1=x)) with
  | some j=>some (1,[.int ((i+j:Nat):Int),.bool x.isSome,.int (bR x),.sl ((bP x).map iRow)])
  | none=>some (0,[.bool x.isSome,.int (bR x),.sl ((bP x).map iRow)]):=by
  intro n;induction n with
  | zero =>
   intro i hi;obtain rfl:i=out.length:=by omega
   rw [e81_0_1];simp only [B6,C0,D5,H4,H2,C8,U2]
  | succ n ih =>
   intro i hi;have hlt:i<out.length:=by omega
   have h2:=r83 (bR out[i].1) (bR x) (bP out[i].1) (bP x) (hp _ (C2 hlt));have h1:rn ⟨82,0,0⟩ [.int (bK d t out[i].1),.int (bR out[i].1),.sl ((bP out[i].1).map iRow),.sl (v.map sRow),.int (bT d t out[i].1).k,.int (bT d t out[i].1).n,.str (bT d t out[i].1).s,.sl ((bT d t out[i].1).as.map Tm.row),.sl (out[i].2.map iRow),.bool x.isSome,.int (bR x),.sl ((bP x).map iRow)]=some (0,[.bool (decide (out[i].1=x)),.bool x.isSome,.int (bR x),.sl ((bP x).map iRow)]):=by
    rw [e82_0_0,<- bk_eq d t];simp only [h2,nv0,nvS,dvI,dvB,dvS,dvL,B5];cases (decide (bK d t out[i].1=1)==!x.isSome) <;> rfl
   rw [drop_find _ _ hlt,e81_0_1];simp only [B6,C0,hlt,H3,H1,inbN,B8,rowAt_map hlt,wrap_succ hlt (maxB (by omega)),brRow,nv0,nvS,dvI,dvB,dvS,dvL,B5,h1]
   have h3:=ih (i+1) (by omega)
   cases decide (out[i].1=x) with
   | true=>rfl
   | false =>
    simp only [H2,R0,if_false,h3];cases (out.drop (i+1)).findIdx? (fun b=>decide (b.1=x)) with
    | none=>rfl
    | some j=>simp only [K7,show i+1+j=i+(j+1) by omega]
 have h1:=hlp out.length 0 (D2 _);rw [C3] at h1;rw [e81_0_0,fndB_drop];simp only [B6,h1];cases (out.drop 0).findIdx? (fun b=>decide (b.1=x)) with
 | none=>exact ⟨_,_,_,rfl,rfl,rfl,rfl⟩
 | some j=>exact ⟨_,_,_,rfl,rfl,rfl,rfl⟩
theorem r101 (d:DfM) (v:List ByteArray) (t:Tm) (out:List (Bk × List Int)) (ho:out.length<=1048576) (hp:∀ b∈out,(bP b.1).length<=1048576) (x:Bk):rn ⟨101,0,0⟩ [.sl (out.map (brRow d v t)),.int (bR x),.sl ((bP x).map iRow),.bool x.isSome]=some (0,[.int (fndI out x)]):=by
 have hlp:∀ n i,i+n=out.length->rn ⟨101,0,1⟩ [.sl (out.map (brRow d v t)),.bool x.isSome,.int (i:Int),.int (bR x),.sl ((bP x).map iRow)]=match (out.drop i).findIdx? (fun b=>decide (b.1=x)) with
  | some j=>some (1,[.int ((i+j:Nat):Int)])
  | none=>some (0,[]):=by
  intro n;induction n with
  | zero =>
   intro i hi;obtain rfl:i=out.length:=by omega
   rw [e101_0_1];simp only [B6,C0,D5,H4,H2,C8,U2]
  | succ n ih =>
   intro i hi;have hlt:i<out.length:=by omega
   have h2:=r53 (bP out[i].1) (bP x) (hp _ (C2 hlt));have h3:=ih (i+1) (by omega)
   have hno:∀ y,x=some y->¬ bK d t (some y)=1:=fun y _=>by
    show ¬(if (carT d t y).valid=true then (2:Int) else 3)=1
    by_cases q:(carT d t y).valid=true <;> simp [q]
   have h4:(match (match (out.drop (i+1)).findIdx? (fun b=>decide (b.1=x)) with | some j=>some (j+1) | none=>none) with | some j=>some (1,[D.int ((i+j:Nat):Int)]) | none=>some (0,[]))=rn ⟨101,0,1⟩ [.sl (out.map (brRow d v t)),.bool x.isSome,.int ((i+1:Nat):Int),.int (bR x),.sl ((bP x).map iRow)]:=by
    rw [ih (i+1) (by omega)]
    cases (out.drop (i+1)).findIdx? (fun b=>decide (b.1=x)) with
    | none=>rfl
    | some j=>simp only [show i+1+j=i+(j+1) by omega]
   have h5:(bif !(x.isSome==decide (bK d t out[i].1=1)) then bif !x.isSome then some (1,[D.int (i:Int)]) else bif decide (bR out[i].1=bR x) then bif decide (bP out[i].1=bP x) then some (1,[.int (i:Int)]) else rn ⟨101,0,1⟩ [.sl (out.map (brRow d v t)),.bool x.isSome,.int ((i+1:Nat):Int),.int (bR x),.sl ((bP x).map iRow)] else rn ⟨101,0,1⟩ [.sl (out.map (brRow d v t)),.bool x.isSome,.int ((i+1:Nat):Int),.int (bR x),.sl ((bP x).map iRow)] else rn ⟨101,0,1⟩ [.sl (out.map (brRow d v t)),.bool x.isSome,.int ((i+1:Nat):Int),.int (bR x),.sl ((bP x).map iRow)])=match (if decide (out[i].1=x)=true then some 0 else ((out.drop (i+1)).findIdx? (fun b=>decide (b.1=x))).map (·+1)) with
    | some j=>some (1,[.int ((i+j:Nat):Int)])
    | none=>some (0,[]):=by
    rw [<- bk_eq d t out[i].1 x];rw [<- h4];generalize (out.drop (i+1)).findIdx? (fun b=>decide (b.1=x))=F
    generalize hg:out[i].1=y;cases x with
    | none =>
     cases y with
     | none=>simp [bK,bR,bP]
     | some z =>
      have:¬ bK d t (some z)=1:=by
       show ¬(if (carT d t z).valid=true then (2:Int) else 3)=1
       by_cases q:(carT d t z).valid=true <;> simp [q]
      simp only [this,H4,Option.isSome_none];cases F <;> rfl
    | some w =>
     cases y with
     | none=>cases F <;> simp [bK]
     | some z =>
      have:¬ bK d t (some z)=1:=by
       show ¬(if (carT d t z).valid=true then (2:Int) else 3)=1
       by_cases q:(carT d t z).valid=true <;> simp [q]
      simp only [this,H4,P9];cases decide (bR (some z)=bR (some w)) <;> cases decide (bP (some z)=bP (some w)) <;> cases F <;> rfl
   rw [drop_find _ _ hlt,<- h5,e101_0_1];simp only [B6,C0,hlt,H3,H1,inbN,B8,rowAt_map hlt,wrap_succ hlt (maxB (by omega)),brRow,nv0,nvS,dvI,dvB,dvS,dvL,B5,h2]
 have h1:=hlp out.length 0 (D2 _);rw [C3] at h1;rw [e101_0_0,fndB_drop];simp only [h1];cases (out.drop 0).findIdx? (fun b=>decide (b.1=x)) <;> rfl
end Go.Q.S
end
section
namespace Go.Q.S
open Go Go.Q Go.Proofs
theorem brLoopI (d:DfM) (hb:DfB d) (v:List ByteArray) (hv:v.length<=1048576) (t:Tm) (hw:Wt t) (cs:List Int) (hcl:cs.length<=1048576) (hs:symV d v t=true) (hcs:∀ c∈cs,isC v.length c=true):∀ n i (out:List (Bk × List Int)),i+n=cs.length->BrB i out->(∀ b∈out,BkG d t b.1) →
 rn ⟨38,0,1⟩ [.sl (cs.map iRow),.int (cs.length:Int),.int (i:Int),.sl (d.so.map sRow),.sl (d.op.map OpM.row),.sl (d.ru.map RuM.row),.sl (d.st.map StM.row),.sl (v.map sRow),.int t.k,.int t.n,.str t.s,.sl (t.as.map Tm.row),.sl (cs.map iRow),.sl (out.map (brRow d v t))]=some (0,[.sl ((brF d v t (cs.drop i) out).map (brRow d v t))]):=by
 intro n;induction n with
 | zero =>
  intro i out hi _ _;obtain rfl:i=cs.length:=by omega
  rw [e38_0_1];simp only [B6,C0,D5,H4,H2,C8,brF]
 | succ n ih =>
  intro i out hi ho hk;have hlt:i<cs.length:=by omega
  have hc:=hcs _ (C2 hlt);obtain ⟨hd,htn,hg,hgn,hx⟩:=nx_bkG hb hw hs hc;have hol:=ho.l;have hpl:∀ b∈out,(bP b.1).length<=1048576:=fun b hb'=>by
   have h1:=(hk b hb').i;cases hq:b.1 with
   | none=>exact J9 _
   | some y=>have:=(h1 y hq).2.1; show y.2.length<=_; omega
  have h1:=r79 v t (small_of t (by omega)) (cs.map iRow) cs[i]
  rw [instR_C hc] at h1;have h2:=r80 d hd (inst v t cs[i]) hg hgn [] (by simp; omega)
  rw [nrR_bk,D4] at h2;obtain ⟨w1,w2,w3,h3,rfl,rfl,rfl⟩:=fndBI d v t out (by omega) hpl (nx d (inst v t cs[i]))
  have h4:=r39 (v.map sRow) (cs.map iRow) [[.int cs[i]]] t (small_of t (by omega)) (by rw [B6]; omega) (by simp)
  have hob:=addB_b ho (nx d (inst v t cs[i])) cs[i];have hkb:∀ b∈addB out (nx d (inst v t cs[i])) cs[i],BkG d t b.1:=addB_k hk hx;rw [B9 hlt,e38_0_1];simp only [brF,B6,C0,hlt,H3,H1,inbN,B8,rowAt_map hlt,wrap_succ hlt (maxB (by omega)),iRow,nv0,nvS,dvI,dvB,dvS,dvL,B5,h1,h2,h3]
  have h5:=ih (i+1) _ (by omega) hob hkb
  generalize nx d (inst v t cs[i])=x at hx h3 h5 ⊢;generalize hc0:cs[i]=c at h4 h5 ⊢;cases hf:fndB out x with
  | some j =>
   obtain ⟨hj,hjx⟩:=fndB_lt hf;have e8:(nth (rowAt (out.map (brRow d v t)) j) 8).L=out[j].2.map iRow:=by rw [rowAt_map hj]; rfl
   have hset:=br_set (d:=d) (v:=v) (t:=t) hj (out[j].2.map iRow++[[.int c]]) (out[j].2++[c]) (by simp [iRow])
   have hlen:=br_len (d:=d) (v:=v) (t:=t) hj;have b1:E9 (out[j].2.length+1) M63=true:=b63 (by have:=ho.c _ (C2 hj); omega)
   have b2:K6 j out.length=true:=E7 hj;have b3:decide ((0:Int)<=(j:Int))=true:=by simp
   rw [addB_some hf hj] at h5 ⊢;simp only [fndI,hf,b3,H1,inbN,hlen,B6,hj,H3,B8,b2,e8,C1,C7,D2,b1,E1,T0,hset,h5]
  | none =>
   have b1:E9 (out.length+1) M63=true:=b63 (by omega)
   rw [addB_none hf] at h5 ⊢;simp only [D6,C6,D4] at h5 ⊢;simp only [fndI,hf,show decide ((0:Int)<=-1)=false from rfl,H2,h4,nv0,nvS,dvI,dvB,dvS,dvL,B5,C1,C7,D2,b1,B6]
   cases x with
   | none=>exact h5
   | some y =>
    obtain ⟨y1,y2,y3⟩:=hx.i y rfl;have h6:=carI d hd t hw htn y.1 y1 y.2 y2 y3;simp only [bR,bP,P9,H1,h6,nv0,nvS,dvI,dvB,dvS,dvL,B5];have hk1:bK d t (some y)=if (carT d t y).valid=true then 2 else 3:=rfl
    cases hvv:(carT d t (y.1,y.2)).valid with
    | true =>
     have hk2:bK d t (some y)=2:=by rw [hk1,H5 hvv]
     simp only [brRow,hk2] at h5;exact h5
    | false =>
     have hk2:bK d t (some y)=3:=by rw [hk1,H6 (by show ¬(carT d t (y.1,y.2)).valid=true; rw [hvv]; simp)]
     simp only [brRow,hk2] at h5;exact h5
theorem r38 (s:SyM) (hs:SyB s) (h:symC s.d s.v s.t s.c=true):rn ⟨38,0,0⟩ s.row=some (0,[.sl ((brL s).map (brRow s.d s.v s.t))]):=by
 have h':=h;simp only [symC,B7] at h';have h1:=brLoopI s.d hs.d s.v hs.v s.t hs.w s.c hs.c h'.1 (incC_isC s.c none h'.2) s.c.length 0 [] (D2 _) ⟨F9 _,by simp⟩ (by simp)
 simp only [C3,D4,D1] at h1;unfold SyM.row brL;rw [e38_0_0,H5 h];simp only [B6,h1,nv0,nvS,dvI,dvB,dvS,dvL,B5,E1,H1,H2]
theorem brLoopS (s:SyM) (hs:SyB s) (h:symC s.d s.v s.t s.c=true):∀ n i (out:List (Bk × List Int)),i+n=s.c.length->BrB i out->(∀ b∈out,BkG s.d s.t b.1) →
 rn ⟨49,0,1⟩ [.int (i:Int),.sl (s.d.so.map sRow),.sl (s.d.op.map OpM.row),.sl (s.d.ru.map RuM.row),.sl (s.d.st.map StM.row),.sl (s.v.map sRow),.int s.t.k,.int s.t.n,.str s.t.s,.sl (s.t.as.map Tm.row),.sl (s.c.map iRow),.sl (out.map (brRow s.d s.v s.t))]=some (0,[.sl ((brF s.d s.v s.t (s.c.drop i) out).map (brRow s.d s.v s.t))]):=by
 have h0:=symS s.d hs.d s.v hs.v hs.vs s.t hs.w hs.n s.c hs.c;have h':=h;simp only [symC,B7] at h';have hcs:=incC_isC s.c none h'.2;have hb:=hs.d;have hv:=hs.v;have hw:=hs.w;have hcl:=hs.c;have hsy:=h'.1;obtain ⟨d,v,t,cs⟩:=s;simp only at h h0 hcs hb hv hw hcl hsy ⊢;intro n;induction n with
 | zero =>
  intro i out hi _ _;obtain rfl:i=cs.length:=by omega
  rw [e49_0_1];simp only [B6,C0,D5,H4,H2,C8,brF]
 | succ n ih =>
  intro i out hi ho hk;have hlt:i<cs.length:=by omega
  have hc:=hcs _ (C2 hlt);obtain ⟨hd,htn,hg,hgn,hx⟩:=nx_bkG hb hw hsy hc;have hol:=ho.l;have hpl:∀ b∈out,(bP b.1).length<=1048576:=fun b hb'=>by
   have h1:=(hk b hb').i;cases hq:b.1 with
   | none=>exact J9 _
   | some y=>have:=(h1 y hq).2.1; show y.2.length<=_; omega
  have h1:=r23 v t (small_of t (by omega)) cs[i]
  have h2:=r58 d hd (inst v t cs[i]) hg hgn;rw [nrS_bk] at h2;have h3:=r101 d v t out (by omega) hpl (nx d (inst v t cs[i]))
  have h4:=r102 d hd v hv (cs.map iRow) t hw htn (nx d (inst v t cs[i])) hx;have hob:=addB_b ho (nx d (inst v t cs[i])) cs[i];have hkb:∀ b∈addB out (nx d (inst v t cs[i])) cs[i],BkG d t b.1:=addB_k hk hx;have h5:=ih (i+1) _ (by omega) hob hkb
  rw [B9 hlt,e49_0_1];simp only [brF,B6,C0,hlt,H3,H1,inbN,B8,rowAt_map hlt,wrap_succ hlt (maxB (by omega)),h0,h,iRow,nv0,nvS,dvI,dvB,dvS,dvL,B5,h1,h2,h3,h4]
  generalize nx d (inst v t cs[i])=x at hx h5 ⊢;generalize hc0:cs[i]=c at h5 ⊢;cases hf:fndB out x with
  | some j =>
   obtain ⟨hj,hjx⟩:=fndB_lt hf;have e8:(nth (rowAt (out.map (brRow d v t)) j) 8).L=out[j].2.map iRow:=by rw [rowAt_map hj]; rfl
   have hset:=br_set (d:=d) (v:=v) (t:=t) hj (out[j].2.map iRow++[[.int c]]) (out[j].2++[c]) (by simp [iRow])
   have hlen:=br_len (d:=d) (v:=v) (t:=t) hj;have b1:E9 (out[j].2.length+1) M63=true:=b63 (by have:=ho.c _ (C2 hj); omega)
   have b2:K6 j out.length=true:=E7 hj;have b3:¬((j:Int)<0):=by omega
   rw [addB_some hf hj] at h5 ⊢;simp only [fndI,hf,b3,H4,H2,H1,inbN,hlen,B6,hj,H3,B8,b2,e8,C1,C7,D2,b1,E1,T0,hset,h5]
  | none =>
   have b1:E9 (out.length+1) M63=true:=b63 (by omega)
   have hj:out.length<(out++[(x,([]:List Int))]).length:=by simp
   have hr:out.map (brRow d v t)++[[.int (bK d t x),.int (bR x),.sl ((bP x).map iRow),.sl (v.map sRow),.int (bT d t x).k,.int (bT d t x).n,.str (bT d t x).s,.sl ((bT d t x).as.map Tm.row),.sl []]]=(out++[(x,([]:List Int))]).map (brRow d v t):=by rw [D6]; rfl
   have e0:(out++[(x,([]:List Int))])[out.length]=(x,[]):=by simp
   have e8:(nth (rowAt ((out++[(x,([]:List Int))]).map (brRow d v t)) out.length) 8).L=[]:=by rw [rowAt_map hj,e0]; rfl
   have hset:=br_set (d:=d) (v:=v) (t:=t) hj [[.int c]] [c] rfl;rw [e0,set_last] at hset;have hlen:=br_len (d:=d) (v:=v) (t:=t) hj;have b2:K6 out.length (out.length+1)=true:=E7 (F9 _);have b4:out.length<out.length+1:=Nat.lt_succ_self _;have b5:E9 1 M63=true:=rfl;rw [addB_none hf] at h5 ⊢;simp only [fndI,hf,show decide ((-1:Int)<0)=true from rfl,H1,hr,inbN,hlen,B6,E0,C1,C7,D2,B8,b1,b2,b4,b5,H3,e8,E5,E1,T0,hset,h5]
theorem r49 (s:SyM) (hs:SyB s):rn ⟨49,0,0⟩ s.row=some (0,[.sl ((brL s).map (brRow s.d s.v s.t))]):=by
 cases h:symC s.d s.v s.t s.c with
 | true =>
  have h1:=brLoopS s hs h s.c.length 0 [] (D2 _) ⟨F9 _,by simp⟩ (by simp)
  simp only [C3,D4,D1] at h1;unfold SyM.row brL;rw [e49_0_0,H5 h];simp only [h1,nv0,nvS,dvI,dvB,dvS,dvL,B5,E1,H1,H2]
 | false =>
  have h0:=symS s.d hs.d s.v hs.v hs.vs s.t hs.w hs.n s.c hs.c;have h1:rn ⟨49,0,1⟩ [.int 0,.sl (s.d.so.map sRow),.sl (s.d.op.map OpM.row),.sl (s.d.ru.map RuM.row),.sl (s.d.st.map StM.row),.sl (s.v.map sRow),.int (s.t).k,.int (s.t).n,.str (s.t).s,.sl ((s.t).as.map Tm.row),.sl (s.c.map iRow),.sl []]=some (0,[.sl []]):=by
   rw [e49_0_1];simp only [h0,h,nv0,nvS,dvI,dvB,dvS,dvL,B5,H2];cases decide ((0:Int)<((s.c.map iRow).length:Nat)) <;> rfl
  unfold SyM.row brL;rw [e49_0_0,h];simp only [h1,nv0,nvS,dvI,dvB,dvS,dvL,B5,E1,H1,H2];rfl
end Go.Q.S
end
