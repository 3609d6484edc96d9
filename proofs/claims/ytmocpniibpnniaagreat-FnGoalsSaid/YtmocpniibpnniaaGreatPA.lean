/- The functions of this seat, as that machine runs them, part 1. -/
import Derived.Test.YtmocpniibpnniaaGreatQC
import Derived.Test.YtmocpniibpnniaaGreatfgX2
import Derived.Test.YtmocpniibpnniaaGreatMA
set_option linter.unusedVariables false
set_option linter.unusedSimpArgs false
open Bool renaming and_eq_true->B5,not_true->F4,true_and->J8,not_false->N5,and_true->O1
open Int renaming toNat->B7,toNat_natCast->C1,ofNat_lt->D0,natCast_zero->D1,tdiv_eq_ediv_of_nonneg->P6
open List renaming length_map->B8,map_cons->C2,drop_eq_getElem_cons->C3,length_cons->C5,getElem_mem->C7,getD_cons_zero->C8,getD_cons_succ->C9,length_nil->D4,drop_length->D6,append_assoc->D9,map_nil->E5,length_append->E6,map_append->E8,drop_zero->F5,getElem?_eq_getElem->F6,nil_append->G6,cons_append->J3,sum_cons->J9,map_map->K0,append_nil->K1,all_cons->K2,getD->N3,drop_eq_nil_of_le->O3,cons->O5,drop_succ_cons->P1,getElem_map->P4,all_nil->Q2,find?_cons->Q4,range'->Q8,getElem_cons_zero->R8
open Nat renaming ble->E1,zero_add->E7,lt_irrefl->E9,ble_eq_true_of_le->F1,beq_refl->F7,le_trans->F8,zero_le->K3,add_zero->N6
open Option renaming bind_some->B4,some->C4,map_some->N7
section
namespace Go.Q.S
open Go Go.Q Go.Proofs
end Go.Q.S
end
section
namespace Go.Q.S
open Go Go.Q Go.Proofs
theorem rCloneS (xs:Rows) (h:xs.length<=274877906944):rn ⟨56,0,0⟩ [.sl xs]=some (0,[.sl xs]):=by
 rw [e56_0_0];have hb:E1 (([]:Rows).length+xs.length) M63=true:=F1 (by unfold M63; simpa using h)
 rw [hb];cases xs with
 | nil=>simp [both]
 | cons x xs=>rfl
theorem rCloneI (xs:Rows) (h:xs.length<=274877906944):rn ⟨58,0,0⟩ [.sl xs]=some (0,[.sl xs]):=by
 rw [e58_0_0];have hb:E1 (([]:Rows).length+xs.length) M63=true:=F1 (by unfold M63; simpa using h)
 rw [hb];cases xs with
 | nil=>simp [both]
 | cons x xs=>rfl
theorem r140 (l:List ByteArray) (h:l.length<=1073741824):rn ⟨140,0,0⟩ [.sl (l.map sRow)]=some (0,[.sl ((srtN l).map sRow)]):=by
 rw [e140_0_0,sRow_map];unfold srtN;generalize hks:l.map toK=ks;have hk:ks.length<=1073741824:=by rw [<- hks]; simpa using h
 have hin:∀ (i:Nat) (hi:i<ks.length) (acc:List Ky),acc.length<=1073741824->∀ n a,a+n=acc.length->rn ⟨140,0,3⟩ [.sl (ks.map rowS),.int (i:Int),.int (a:Int),.sl (acc.map rowS)] =
  some (0,[.sl (ks.map rowS),.int (i:Int),.int ((a+ldK ks[i] (acc.drop a):Nat):Int),.sl (acc.map rowS)]):=by
  intro i hi acc hacc n;induction n with
  | zero =>
   intro a ha;have:a=acc.length:=by omega
   subst this;rw [e140_0_3];simp [ldK]
  | succ n ih =>
   intro a ha;have hlt:a<acc.length:=by omega
   rw [e140_0_3,ldK_drop _ _ _ hlt];simp only [C1,rowAt_map hi,rowAt_map hlt,B8,inbN,hi,hlt,D0,H3,H1,nth0,nth1,nth2,nth3,nth4,nth5,nth6,nth7,nth8,nth9,nth10,nth11,nth12,nth13,nth14,nth15,nth16,nth17,nth18,nth19,nth20,nth21,nth22,nth23,nth24,nth25,dI,dB,dS,dL,B4,rowS_sRow,sRow,ltB_ofK,wrap_succ hlt (by unfold maxLen; omega)]
   by_cases hx:acc[a]<ks[i]
   · rw [H5 hx,H7 hx,H1,ih (a+1) (by omega)]
     have e:a+1+ldK ks[i] (acc.drop (a+1))=a+(ldK ks[i] (acc.drop (a+1))+1):=by omega
     rw [e]
   · rw [H6 hx,H8 hx,H2]; rfl
 have hout:∀ n (i:Nat) (acc:List Ky),i+n=ks.length->acc.length<=i->rn ⟨140,0,1⟩ [.sl (ks.map rowS),.int (i:Int),.sl (acc.map rowS)]=some (0,[.sl ((srtK (ks.drop i) acc).map rowS)]):=by
  intro n;induction n with
  | zero =>
   intro i acc hi ha;have:i=ks.length:=by omega
   subst this;rw [e140_0_1];simp [srtK]
  | succ n ih =>
   intro i acc hi ha;have hlt:i<ks.length:=by omega
   have hI:=hin i hlt acc (by omega) acc.length 0 (by omega)
   rw [F5,E7] at hI;rw [e140_0_1];have hc:ldK ks[i] acc<=acc.length:=ldK_le _ _;have hz:((0:Nat):Int)=0:=rfl;rw [hz] at hI;rw [hI,C3 hlt];have hins:=insK_ld ks[i] acc;have hil:(insK ks[i] acc).length<=i+1:=by
    rw [hins]; split
    · omega
    · simp; omega
   have ih':=ih (i+1) (insK ks[i] acc) (by omega) hil
   simp only [B8,D0,hlt,H3,H1,nth0,nth1,nth2,nth3,nth4,nth5,nth6,nth7,nth8,nth9,nth10,nth11,nth12,nth13,nth14,nth15,nth16,nth17,nth18,nth19,nth20,nth21,nth22,nth23,nth24,nth25,dI,dB,dS,dL,B4,F7,C1,wrap_succ hlt (by unfold maxLen; omega),srtK] at ih' ⊢
   rw [<- ih'];generalize hcc:ldK ks[i] acc=c at hc hins ⊢;have h0:(0:Int)<=(c:Int):=by omega
   have h3:(c:Int)<=(acc.length:Int):=by omega
   have hb2:E1 (([]:Rows).length+(List.drop (B7 0) (List.take c (acc.map rowS))).length) M63=true:=F1 (by unfold M63; simp; omega)
   have hb3:∀ z:Rows,z.length=1->E1 (([]++List.drop (B7 0) (List.take c (acc.map rowS)):Rows).length+z.length) M63=true:=fun z hz=>F1 (by unfold M63; simp [hz]; omega)
   have hb4:∀ z:Rows,z.length=1->E1 ((([]++List.drop (B7 0) (List.take c (acc.map rowS)):Rows)++z).length+(List.drop c (List.take acc.length (acc.map rowS))).length) M63=true:=fun z hz=>F1 (by unfold M63; simp [hz]; omega)
   have hfin:([]++List.drop (B7 0) (List.take c (acc.map rowS)):Rows)++[rowS ks[i]]++List.drop c (List.take acc.length (acc.map rowS))=(List.take c acc++[ks[i]]++List.drop c acc).map rowS:=by
    simp [List.map_take,List.map_drop,List.take_of_length_le]
   simp only [rowAt_map hlt,inbN,hlt,H3,H1];by_cases h1:c<acc.length
   · simp only [H7 h1,H1,rowAt_map h1,nth0,nth1,nth2,nth3,nth4,nth5,nth6,nth7,nth8,nth9,nth10,nth11,nth12,nth13,nth14,nth15,nth16,nth17,nth18,nth19,nth20,nth21,nth22,nth23,nth24,nth25,dI,dB,dS,dL,B4,rowS_sRow,sRow,ofK_inj]
     rw [F6 h1] at hins;by_cases h2:acc[c]=ks[i]
     · rw [H7 h2,H1,hins,H5 (by rw [h2])]
     · rw [H8 h2,H2,hins,H6 (by simpa using h2)]
       simp only [h0,h3,Int.le_refl,H3,Bool.and_self,H1];rw [hb2,hb3 _ rfl,hb4 _ rfl];simp only [H1];rw [<- hfin]; rfl
   · simp only [H8 h1,H2]
     rw [List.getElem?_eq_none (by omega)] at hins
     rw [hins,H6 (by simp)]
     simp only [h0,h3,Int.le_refl,H3,Bool.and_self,H1];rw [hb2];simp only [H1,rowAt_map hlt,nth0,nth1,nth2,nth3,nth4,nth5,nth6,nth7,nth8,nth9,nth10,nth11,nth12,nth13,nth14,nth15,nth16,nth17,nth18,nth19,nth20,nth21,nth22,nth23,nth24,nth25,dI,dB,dS,dL,B4,rowS_sRow,sRow];rw [hb3 _ rfl,hb4 _ rfl];simp only [H1];rw [<- hfin]; rfl
 have:=hout ks.length 0 [] (by omega) (K3 _)
 simp only [D1,E5,F5] at this;rw [this];simp only [nth0,nth1,nth2,nth3,nth4,nth5,nth6,nth7,nth8,nth9,nth10,nth11,nth12,nth13,nth14,nth15,nth16,nth17,nth18,nth19,nth20,nth21,nth22,nth23,nth24,nth25,dI,dB,dS,dL,B4,F7,H1];rw [rowS_map]
end Go.Q.S
end
section
namespace Go.Q.S
open Go Go.Q Go.Proofs
theorem r57:∀ t:Tm,Small t->rn ⟨57,0,0⟩ [.int t.k,.int t.n,.str t.s,.sl (t.as.map Tm.row)]=some (0,[.int t.k,.int t.n,.str t.s,.sl (t.as.map Tm.row)]):=Tm.ind fun t ih h=>by
 have hl:=h.len;show rn _ _=_
 rw [e57_0_0];have hf:=map_loop (F:=fun i acc=>rn ⟨57,0,1⟩ [.sl (t.as.map Tm.row),.int ((t.as.map Tm.row)).length,.int (i:Int),.int 0,.int 0,.str (⟨#[]⟩:ByteArray),.int t.k,.int t.n,.str t.s,.sl [],.sl acc]) (xs:=t.as) Tm.row (K:=fun acc=>some (0,[.int (0),.int (0),.str ((⟨#[]⟩:ByteArray)),.int (t.k),.int (t.n),.str (t.s),.sl ([]),.sl (acc)])) (fun i hi acc ha=>?_) (fun acc=>?_)
 · simp only [D1] at hf; rw [hf]; rfl
 · have hc:=ih _ (C7 hi) (h.sub (C7 hi))
   rw [e57_0_1];simp only [C1,rowAt_map hi,Tm.row_eq,B8,inbN,hi,D0,H3,H1,nth,C8,C9,D.I,D.S,D.L,D.B,wrap_succ hi (by unfold maxLen; omega),hc,B4,C5,D4]
   rw [show E1 (acc.length+(0+1)) M63=true from F1 (by unfold M63; omega)]
   rfl
 · skip
   rw [e57_0_1];simp
theorem r32:∀ t:Tm,Small t->rn ⟨32,0,0⟩ [.int t.k,.int t.n,.str t.s,.sl (t.as.map Tm.row)]=some (0,[.int t.k,.int t.n,.str t.s,.sl (t.as.map Tm.row)]):=Tm.ind fun t ih h=>by
 have hl:=h.len;show rn _ _=_
 rw [e32_0_0];have hf:=map_loop (F:=fun i acc=>rn ⟨32,0,1⟩ [.int (i:Int),.int t.k,.int t.n,.str t.s,.sl (t.as.map Tm.row),.int 0,.int 0,.str (⟨#[]⟩:ByteArray),.sl acc,.sl []]) (xs:=t.as) Tm.row (K:=fun acc=>some (0,[.int (t.k),.int (t.n),.str (t.s),.sl ((t.as.map Tm.row)),.int (0),.int (0),.str ((⟨#[]⟩:ByteArray)),.sl (acc),.sl ([])])) (fun i hi acc ha=>?_) (fun acc=>?_)
 · simp only [D1] at hf; rw [hf]; rfl
 · have hc:=ih _ (C7 hi) (h.sub (C7 hi))
   rw [e32_0_1];simp only [C1,rowAt_map hi,Tm.row_eq,B8,inbN,hi,D0,H3,H1,nth,C8,C9,D.I,D.S,D.L,D.B,wrap_succ hi (by unfold maxLen; omega),hc,B4,C5,D4]
   rw [show E1 (acc.length+(0+1)) M63=true from F1 (by unfold M63; omega)]
   rfl
 · skip
   rw [e32_0_1];simp
theorem r50 (t:Tm):rn ⟨50,0,0⟩ [.int t.k,.int t.n,.str t.s,.sl (t.as.map Tm.row)]=some (0,[.bool (isW t)]):=by
 show rn _ _=_
 rw [e50_0_0];simp only [B8];unfold isW;have e:decide ((t.as.length:Int)=0)=decide (t.as.length=0):=by simp
 rw [e];cases decide (t.k=3) <;> cases decide (0<=t.n) <;> cases decide (t.n<4) <;> cases decide (t.s=⟨#[]⟩) <;> cases decide (t.as.length=0) <;> rfl
theorem r41 (a b c:Int):rn ⟨41,0,0⟩ [.int a,.int b,.int c]=some (0,[.bool (decide (b<=a)&&decide (a<=c))]):=by
 show rn _ _=_
 rw [e41_0_0];cases decide (b<=a) <;> rfl
theorem r52 (t:Tm):rn ⟨52,0,0⟩ [.int t.k,.int t.n,.str t.s,.sl (t.as.map Tm.row)]=some (0,[.bool (isW t)]):=by
 show rn _ _=_
 rw [e52_0_0];have hc:=r41 t.n 0 3;simp only [hc,B4,nth,C8,C9,D.I,D.S,D.L,D.B,B8];unfold isW;have e:decide ((t.as.length:Int)=0)=decide (t.as.length=0):=by simp
 have e2:decide (t.n<=3)=decide (t.n<4):=decide_eq_decide.2 (by omega)
 rw [e,e2];cases decide (t.k=3) <;> cases decide (0<=t.n) <;> cases decide (t.n<4) <;> cases decide (t.s=⟨#[]⟩) <;> cases decide (t.as.length=0) <;> rfl
theorem r79 (s:ByteArray):rn ⟨79,0,0⟩ [.str s]=some (0,[.bool (isB s)]):=by
 show rn _ _=_
 rw [e79_0_0];unfold isB plusS minusS timesS;cases decide (s=(⟨#[112,108,117,115]⟩:ByteArray)) <;> cases decide (s=(⟨#[109,105,110,117,115]⟩:ByteArray)) <;> cases decide (s=(⟨#[116,105,109,101,115]⟩:ByteArray)) <;> rfl
theorem r87 (s:ByteArray):rn ⟨87,0,0⟩ [.str s]=some (0,[.bool (isB s)]):=by
 show rn _ _=_
 rw [e87_0_0];unfold isB plusS minusS timesS;cases decide (s=(⟨#[112,108,117,115]⟩:ByteArray)) <;> cases decide (s=(⟨#[109,105,110,117,115]⟩:ByteArray)) <;> cases decide (s=(⟨#[116,105,109,101,115]⟩:ByteArray)) <;> rfl
theorem r80 (s:ByteArray) {a b:Int} (ha:0<=a) (ha':a<4) (hb:0<=b) (hb':b<4):rn ⟨80,0,0⟩ [.str s,.int a,.int b]=some (0,[.int (cmp s a b)]):=by
 show rn _ _=_
 rw [e80_0_0];unfold cmp plusS minusS;have h4:(!decide ((4:Int)=0))=true:=rfl;simp only [h4,H1];obtain rfl | rfl | rfl | rfl:a=0\/a=1\/a=2\/a=3:=by omega
 all_goals
  obtain rfl | rfl | rfl | rfl:b=0\/b=1\/b=2\/b=3:=by omega
  all_goals
   by_cases h1:s=(⟨#[112,108,117,115]⟩:ByteArray)
   · simp only [h1,H3,H1,if_true]; rfl
   · by_cases h2:s=(⟨#[109,105,110,117,115]⟩:ByteArray)
     · simp only [h1,h2,H3,H4,H1,H2,if_true,if_false]; rfl
     · simp only [h1,h2,H4,H2,if_false]; rfl
theorem r88 (s:ByteArray) {a b:Int} (ha:0<=a) (ha':a<4) (hb:0<=b) (hb':b<4):rn ⟨88,0,0⟩ [.str s,.int a,.int b]=some (0,[.int (cmp s a b)]):=by
 show rn _ _=_
 rw [e88_0_0];unfold cmp plusS minusS;have h4:(!decide ((4:Int)=0))=true:=rfl;simp only [h4,H1];obtain rfl | rfl | rfl | rfl:a=0\/a=1\/a=2\/a=3:=by omega
 all_goals
  obtain rfl | rfl | rfl | rfl:b=0\/b=1\/b=2\/b=3:=by omega
  all_goals
   by_cases h1:s=(⟨#[112,108,117,115]⟩:ByteArray)
   · simp only [h1,H3,H1,if_true]; rfl
   · by_cases h2:s=(⟨#[109,105,110,117,115]⟩:ByteArray)
     · simp only [h1,h2,H3,H4,H1,H2,if_true,if_false]; rfl
     · simp only [h1,h2,H4,H2,if_false]; rfl
theorem r46 (l:List Bnd) (hl:l.length<=1048576) (s:ByteArray):rn ⟨46,0,0⟩ [.sl (l.map Bnd.row),.str s]=match bnd l s with
 | some t=>some (0,[.int t.k,.int t.n,.str t.s,.sl (t.as.map Tm.row),.bool true])
 | none=>some (0,[.int 0,.int 0,.str ⟨#[]⟩,.sl [],.bool false]):=by
 show rn _ _=_
 rw [e46_0_0];have hf:=find_loop (F:=fun i=>rn ⟨46,0,1⟩ [.str s,.sl (l.map Bnd.row),.int ((l.map Bnd.row)).length,.int (i:Int),.int 0,.int 0,.str (⟨#[]⟩:ByteArray),.sl []]) (xs:=l) (p:=fun b=>decide (b.1=s)) (A:=some (0,[.int (0),.int (0),.str ((⟨#[]⟩:ByteArray)),.sl ([])])) (B:=fun i b=>some (1,[.int b.2.k,.int b.2.n,.str b.2.s,.sl (b.2.as.map Tm.row)])) (fun i hi=>?_) ?_
 · simp only [D1] at hf
   rw [bnd_find];rcases hf with ⟨h1,h2⟩|⟨i,hi,h1,h2⟩
   · rw [h1,h2]; rfl
   · rw [h1,h2]; rfl
 · skip
   rw [e46_0_1];simp only [C1,rowAt_map hi,bd_row,B8,inbN,hi,D0,H3,H1,nth,C8,C9,D.I,D.S,D.L,D.B,wrap_succ hi (by unfold maxLen; omega)]
 · skip
   rw [e46_0_1];simp
theorem r82 (l:List Bnd) (hl:l.length<=1048576) (s:ByteArray):(bnd l s=none/\rn ⟨82,0,0⟩ [.sl (l.map Bnd.row),.str s]=some (0,[.int (-1)]))\/∃ i,∃ hi:i<l.length,bnd l s=some l[i].2/\rn ⟨82,0,0⟩ [.sl (l.map Bnd.row),.str s]=some (0,[.int (i:Int)]):=by
 have hf:=find_loop (F:=fun i=>rn ⟨82,0,1⟩ [.sl (l.map Bnd.row),.str s,.int (i:Int)]) (xs:=l) (p:=fun b=>decide (b.1=s)) (A:=some (0,[])) (B:=fun i b=>some (1,[.int (i:Int)])) (fun i hi=>?_) ?_
 · simp only [D1] at hf
   rw [bnd_find];rcases hf with ⟨h1,h2⟩|⟨i,hi,h1,h2⟩
   · left
     refine ⟨by rw [h1]; rfl,?_⟩
     show rn _ _=_
     rw [e82_0_0];rw [h2]; rfl
   · right
     refine ⟨i,hi,by rw [h1]; rfl,?_⟩
     show rn _ _=_
     rw [e82_0_0];rw [h2]; rfl
 · skip
   rw [e82_0_1];simp only [C1,rowAt_map hi,bd_row,B8,inbN,hi,D0,H3,H1,nth,C8,C9,D.I,D.S,D.L,D.B,wrap_succ hi (by unfold maxLen; omega)]
 · skip
   rw [e82_0_1];simp
theorem r51 (l:List Bnd) (hl:l.length<=1048576) (hs:∀ b∈l,Small b.2) (s:ByteArray):rn ⟨51,0,0⟩ [.sl (l.map Bnd.row),.str s]=match bnd l s with
 | some t=>some (0,[.int t.k,.int t.n,.str t.s,.bool true,.sl (t.as.map Tm.row)])
 | none=>some (0,[.int 0,.int 0,.str ⟨#[]⟩,.bool false,.sl []]):=by
 show rn _ _=_
 rw [e51_0_0];rcases r82 l hl s with ⟨h1,h2⟩|⟨i,hi,h1,h2⟩
 · skip
   rw [h1,h2]; rfl
 · skip
   have hc:=r32 l[i].2 (hs _ (C7 hi));rw [h1,h2];have hn:¬((i:Int)<0):=by omega
   simp only [B4,nth,C8,C9,D.I,D.S,D.L,D.B,C1,rowAt_map hi,bd_row,B8,inbN,hi,hn,H3,H4,H1,H2,hc]
theorem r48 (l:List Bnd) (hl:l.length<=1048576) (hs:∀ b∈l,Small b.2):∀ t:Tm,Small t->rn ⟨48,0,0⟩ [.sl (l.map Bnd.row),.int t.k,.int t.n,.str t.s,.sl (t.as.map Tm.row)]=some (0,[.int (aS l t).k,.int (aS l t).n,.str (aS l t).s,.sl ((aS l t).as.map Tm.row)]):=Tm.ind fun t ih h=>by
 have hlt:=h.len;show rn _ _=_
 rw [e48_0_0];have hf:=map_loop (F:=fun i acc=>rn ⟨48,0,1⟩ [.sl (l.map Bnd.row),.sl (t.as.map Tm.row),.int ((t.as.map Tm.row)).length,.int (i:Int),.int 0,.int 0,.str (⟨#[]⟩:ByteArray),.int t.k,.int t.n,.str t.s,.sl [],.sl acc]) (xs:=t.as) (fun x=>(aS l x).row) (K:=fun acc=>some (0,[.int (0),.int (0),.str ((⟨#[]⟩:ByteArray)),.int (t.k),.int (t.n),.str (t.s),.sl ([]),.sl (acc)])) (fun i hi acc ha=>?_) (fun acc=>?_)
 · simp only [D1] at hf
   have hb:=r46 l hl t.s;rw [aS_eq];by_cases hk:t.k=1
   · rw [H5 hk]
     cases hq:bnd l t.s with
     | none =>
      rw [hq] at hb;simp only at hb;simp only [H7 hk,H1,hb,B4,nth,C8,C9,D.I,D.S,D.L,D.B,H2,hf];simp [Tm.k,Tm.n,Tm.s,Tm.as,Function.comp_def]
     | some u =>
      rw [hq] at hb;simp only at hb;obtain ⟨b,hbm,rfl⟩:=bnd_mem hq;have hcp:=r57 b.2 (hs b hbm);simp only [H7 hk,H1,hb,B4,nth,C8,C9,D.I,D.S,D.L,D.B,hcp]
   · rw [H6 hk]
     simp only [H8 hk,H2,hf,B4,nth,C8,C9,D.I,D.S,D.L,D.B];simp [Tm.k,Tm.n,Tm.s,Tm.as,Function.comp_def]
 · have hc:=ih _ (C7 hi) (h.sub (C7 hi))
   rw [e48_0_1];simp only [C1,rowAt_map hi,Tm.row_eq,B8,inbN,hi,D0,H3,H1,nth,C8,C9,D.I,D.S,D.L,D.B,wrap_succ hi (by unfold maxLen; omega),hc,B4,C5,D4]
   rw [show E1 (acc.length+(0+1)) M63=true from F1 (by unfold M63; omega)]
   rfl
 · skip
   rw [e48_0_1];simp
theorem r64 (l:List Bnd) (hl:l.length<=1048576) (hs:∀ b∈l,Small b.2):∀ t:Tm,Small t->rn ⟨64,0,0⟩ [.sl (l.map Bnd.row),.int t.k,.int t.n,.str t.s,.sl (t.as.map Tm.row)]=some (0,[.int (aS l t).k,.int (aS l t).n,.str (aS l t).s,.sl ((aS l t).as.map Tm.row)]):=Tm.ind fun t ih h=>by
 have hlt:=h.len;show rn _ _=_
 rw [e64_0_0];have hf:=map_loop (F:=fun i acc=>rn ⟨64,0,1⟩ [.sl (l.map Bnd.row),.int (i:Int),.int t.k,.int t.n,.str t.s,.sl (t.as.map Tm.row),.int 0,.int 0,.str (⟨#[]⟩:ByteArray),.int t.k,.int t.n,.str t.s,.sl [],.sl acc]) (xs:=t.as) (fun x=>(aS l x).row) (K:=fun acc=>some (0,[.int (0),.int (0),.str ((⟨#[]⟩:ByteArray)),.int (t.k),.int (t.n),.str (t.s),.sl ([]),.sl (acc)])) (fun i hi acc ha=>?_) (fun acc=>?_)
 · simp only [D1] at hf
   have hb:=r51 l hl hs t.s;rw [aS_eq];by_cases hk:t.k=1
   · rw [H5 hk]
     cases hq:bnd l t.s with
     | none =>
      rw [hq] at hb;simp only at hb;simp only [H7 hk,H1,hb,B4,nth,C8,C9,D.I,D.S,D.L,D.B,H2,hf];simp [Tm.k,Tm.n,Tm.s,Tm.as,Function.comp_def]
     | some u =>
      rw [hq] at hb;simp only at hb;obtain ⟨b,hbm,rfl⟩:=bnd_mem hq;have hcp:=r57 b.2 (hs b hbm);simp only [H7 hk,H1,hb,B4,nth,C8,C9,D.I,D.S,D.L,D.B,hcp]
   · rw [H6 hk]
     simp only [H8 hk,H2,hf,B4,nth,C8,C9,D.I,D.S,D.L,D.B];simp [Tm.k,Tm.n,Tm.s,Tm.as,Function.comp_def]
 · have hc:=ih _ (C7 hi) (h.sub (C7 hi))
   rw [e64_0_1];simp only [C1,rowAt_map hi,Tm.row_eq,B8,inbN,hi,D0,H3,H1,nth,C8,C9,D.I,D.S,D.L,D.B,wrap_succ hi (by unfold maxLen; omega),hc,B4,C5,D4]
   rw [show E1 (acc.length+(0+1)) M63=true from F1 (by unfold M63; omega)]
   rfl
 · skip
   rw [e64_0_1];simp
theorem r47:∀ t:Tm,Small t->rn ⟨47,0,0⟩ [.int t.k,.int t.n,.str t.s,.sl (t.as.map Tm.row)]=some (0,[.int (rW t).k,.int (rW t).n,.str (rW t).s,.sl ((rW t).as.map Tm.row)]):=Tm.ind fun t ih h=>by
 have hlt:=h.len;show rn _ _=_
 rw [e47_0_0];have hf:=map_loop (F:=fun i acc=>rn ⟨47,0,1⟩ [.sl (t.as.map Tm.row),.int ((t.as.map Tm.row)).length,.int (i:Int),.int 0,.int 0,.str (⟨#[]⟩:ByteArray),.int t.k,.int t.n,.str t.s,.sl [],.sl acc]) (xs:=t.as) (fun x=>(rW x).row) (K:=fun acc=>some (0,[.int (0),.int (0),.str ((⟨#[]⟩:ByteArray)),.int (t.k),.int (t.n),.str (t.s),.sl ([]),.sl (acc)])) (fun i hi acc ha=>?_) (fun acc=>?_)
 · simp only [D1] at hf
   have e:t.as.map (fun x=>(rW x).row)=(t.as.map rW).map Tm.row:=by simp [Function.comp_def]
   rw [e] at hf;rw [rW_eq];generalize t.as.map rW=us at hf ⊢;have hB:=r79 t.s;rw [hf];simp only [B4,F7,H1,nth,C8,C9,D.I,D.S,D.L,D.B,hB,B8];by_cases h1:t.k=2
   case neg =>
    simp only [H8 h1,H2];unfold rW1;split
    · rw [H6 (fun h=>h1 h.1)]; rfl
    · rfl
   by_cases h2:t.n=0
   case neg =>
    simp only [H7 h1,H8 h2,H1,H2];unfold rW1;split
    · rw [H6 (fun h=>h2 h.2.1)]; rfl
    · rfl
   simp only [H7 h1,H7 h2,H1];cases h3:isB t.s with
   | false =>
    simp only [H2];unfold rW1;split
    · rw [H6 (fun h=>by rw [h3] at h; exact absurd h.2.2.1 (by decide))]; rfl
    · rfl
   | true =>
    simp only [H1]
    match us with
    | []=>rfl
    | [x]=>rfl
    | x::y::z::zs =>
     have:¬(((x::y::z::zs).length:Int)=2):=by simp only [C5]; omega
     simp only [H8 this,H2];rfl
    | [x,y] =>
     have hx:=r50 x;have hy:=r50 y;have l2:decide ((([x,y]:List Tm).length:Int)=2)=true:=rfl;have i0:inb 0 ([x,y]:List Tm).length=true:=rfl;have i1:inb 1 ([x,y]:List Tm).length=true:=rfl;have r0:rowAt (([x,y]:List Tm).map Tm.row) (B7 0)=x.row:=rfl;have r1:rowAt (([x,y]:List Tm).map Tm.row) (B7 1)=y.row:=rfl;simp only [l2,i0,i1,r0,r1,H1,Tm.row_eq,nth,C8,C9,D.I,D.S,D.L,D.B,hx,hy,B4];unfold rW1;simp only;cases h4:isW x with
     | false=>simp only [H2]; rw [H6 (fun h=>by simp at h)]; rfl
     | true =>
      cases h5:isW y with
      | false=>simp only [H1,H2]; rw [H6 (fun h=>by simp at h)]; rfl
      | true =>
       have b1:=h4;have b2:=h5;simp only [isW,B5,decide_eq_true_eq] at b1 b2;have hcm:=r80 t.s b1.2.1 b1.2.2.1 b2.2.1 b2.2.2.1;simp only [H1,hcm,B4,nth,C8,C9,D.I,D.S,D.L,D.B];rw [H5 ⟨h1,h2,h3,trivial,trivial⟩];rfl
 · have hc:=ih _ (C7 hi) (h.sub (C7 hi))
   rw [e47_0_1];simp only [C1,rowAt_map hi,Tm.row_eq,B8,inbN,hi,D0,H3,H1,nth,C8,C9,D.I,D.S,D.L,D.B,wrap_succ hi (by unfold maxLen; omega),hc,B4,C5,D4]
   rw [show E1 (acc.length+(0+1)) M63=true from F1 (by unfold M63; omega)]
   rfl
 · skip
   rw [e47_0_1];simp
theorem r66 (n:Int):rn ⟨66,0,0⟩ [.int n]=some (0,[.int 3,.int n,.str ⟨#[]⟩,.sl []]):=by
 show rn _ _=_
 rw [e66_0_0]
theorem r62:∀ t:Tm,Small t->rn ⟨62,0,0⟩ [.int t.k,.int t.n,.str t.s,.sl (t.as.map Tm.row)]=some (0,[.int (rW t).k,.int (rW t).n,.str (rW t).s,.sl ((rW t).as.map Tm.row)]):=Tm.ind fun t ih h=>by
 have hlt:=h.len;show rn _ _=_
 rw [e62_0_0];have hf:=map_loop (F:=fun i acc=>rn ⟨62,0,1⟩ [.int (i:Int),.int t.k,.int t.n,.str t.s,.sl (t.as.map Tm.row),.int 0,.int 0,.str (⟨#[]⟩:ByteArray),.int t.k,.int t.n,.str t.s,.sl [],.sl acc]) (xs:=t.as) (fun x=>(rW x).row) (K:=fun acc=>some (0,[.int (t.k),.int (t.n),.str (t.s),.sl ((t.as.map Tm.row)),.int (0),.int (0),.str ((⟨#[]⟩:ByteArray)),.int (t.k),.int (t.n),.str (t.s),.sl ([]),.sl (acc)])) (fun i hi acc ha=>?_) (fun acc=>?_)
 · simp only [D1] at hf
   have e:t.as.map (fun x=>(rW x).row)=(t.as.map rW).map Tm.row:=by simp [Function.comp_def]
   rw [e] at hf;rw [rW_eq];generalize t.as.map rW=us at hf ⊢;have hB:=r87 t.s;rw [hf];simp only [B4,F7,H1,nth,C8,C9,D.I,D.S,D.L,D.B,hB,B8];by_cases h1:t.k=2
   case neg =>
    simp only [H8 h1,H2];unfold rW1;split
    · rw [H6 (fun h=>h1 h.1)]; rfl
    · rfl
   by_cases h2:t.n=0
   case neg =>
    simp only [H7 h1,H8 h2,H1,H2];unfold rW1;split
    · rw [H6 (fun h=>h2 h.2.1)]; rfl
    · rfl
   simp only [H7 h1,H7 h2,H1];cases h3:isB t.s with
   | false =>
    simp only [H2];unfold rW1;split
    · rw [H6 (fun h=>by rw [h3] at h; exact absurd h.2.2.1 (by decide))]; rfl
    · rfl
   | true =>
    simp only [H1]
    match us with
    | []=>rfl
    | [x]=>rfl
    | x::y::z::zs =>
     have:¬(((x::y::z::zs).length:Int)=2):=by simp only [C5]; omega
     simp only [H8 this,H2];rfl
    | [x,y] =>
     have hx:=r52 x;have hy:=r52 y;have l2:decide ((([x,y]:List Tm).length:Int)=2)=true:=rfl;have i0:inb 0 ([x,y]:List Tm).length=true:=rfl;have i1:inb 1 ([x,y]:List Tm).length=true:=rfl;have r0:rowAt (([x,y]:List Tm).map Tm.row) (B7 0)=x.row:=rfl;have r1:rowAt (([x,y]:List Tm).map Tm.row) (B7 1)=y.row:=rfl;simp only [l2,i0,i1,r0,r1,H1,Tm.row_eq,nth,C8,C9,D.I,D.S,D.L,D.B,hx,hy,B4];unfold rW1;simp only;cases h4:isW x with
     | false=>simp only [H2]; rw [H6 (fun h=>by simp at h)]; rfl
     | true =>
      cases h5:isW y with
      | false=>simp only [H1,H2]; rw [H6 (fun h=>by simp at h)]; rfl
      | true =>
       have b1:=h4;have b2:=h5;simp only [isW,B5,decide_eq_true_eq] at b1 b2;have hcm:=r88 t.s b1.2.1 b1.2.2.1 b2.2.1 b2.2.2.1;have hwd:=r66 (cmp t.s x.n y.n);simp only [H1,hcm,B4,nth,C8,C9,D.I,D.S,D.L,D.B,hwd];rw [H5 ⟨h1,h2,h3,trivial,trivial⟩];rfl
 · have hc:=ih _ (C7 hi) (h.sub (C7 hi))
   rw [e62_0_1];simp only [C1,rowAt_map hi,Tm.row_eq,B8,inbN,hi,D0,H3,H1,nth,C8,C9,D.I,D.S,D.L,D.B,wrap_succ hi (by unfold maxLen; omega),hc,B4,C5,D4]
   rw [show E1 (acc.length+(0+1)) M63=true from F1 (by unfold M63; omega)]
   rfl
 · skip
   rw [e62_0_1];simp
theorem r59 (n:Nat):rn ⟨59,0,0⟩ [.int (n:Int)]=some (0,[.int (cnt4 n)]):=by
 show rn _ _=_
 rw [e59_0_0];have hn:¬((n:Int)<0):=by omega
 simp only [H8 hn,H2];have st:∀ x a:Int,0<x->rn ⟨59,0,1⟩ [.int x,.int a]=rn ⟨59,0,1⟩ [.int (IntKind.i64.wrap (x-1)),.int (IntKind.i64.wrap (a*4))]:=fun x a h=>by
  rw [e59_0_1];rw [H7 h]; rfl
 have fi:∀ a:Int,rn ⟨59,0,1⟩ [.int 0,.int a]=some (0,[.int a]):=fun a=>by
  rw [e59_0_1];rfl
 by_cases h3:3<n
 · rw [cnt4_big h3,H7 (by omega:(3:Int)<(n:Int))]; rfl
 · rw [H8 (by omega:¬(3:Int)<(n:Int))]
   simp only [H2];obtain rfl | rfl | rfl | rfl:n=0\/n=1\/n=2\/n=3:=by omega
   · show (rn ⟨59,0,1⟩ [.int 0,.int 1]).bind _=_
     rw [fi]; rfl
   · show (rn ⟨59,0,1⟩ [.int 1,.int 1]).bind _=_
     rw [st 1 1 (by decide)]
     show (rn ⟨59,0,1⟩ [.int 0,.int 4]).bind _=_
     rw [fi]; rfl
   · show (rn ⟨59,0,1⟩ [.int 2,.int 1]).bind _=_
     rw [st 2 1 (by decide)]
     show (rn ⟨59,0,1⟩ [.int 1,.int 4]).bind _=_
     rw [st 1 4 (by decide)]
     show (rn ⟨59,0,1⟩ [.int 0,.int 16]).bind _=_
     rw [fi]; rfl
   · show (rn ⟨59,0,1⟩ [.int 3,.int 1]).bind _=_
     rw [st 3 1 (by decide)]
     show (rn ⟨59,0,1⟩ [.int 2,.int 4]).bind _=_
     rw [st 2 4 (by decide)]
     show (rn ⟨59,0,1⟩ [.int 1,.int 16]).bind _=_
     rw [st 1 16 (by decide)]
     show (rn ⟨59,0,1⟩ [.int 0,.int 64]).bind _=_
     rw [fi]; rfl
theorem r24 (n:Nat):rn ⟨24,0,0⟩ [.int (n:Int)]=some (0,[.int (cnt4 n)]):=by
 show rn _ _=_
 rw [e24_0_0];have hi:=r41 (n:Int) 0 3;simp only [hi,B4,nth,C8,C9,D.I,D.S,D.L,D.B];rw [H7 (by omega:(0:Int)<=(n:Int)),J8]
 have st:∀ x a i:Int,i<x->rn ⟨24,0,1⟩ [.int x,.int a,.int i]=rn ⟨24,0,1⟩ [.int x,.int (IntKind.i64.wrap (a*4)),.int (IntKind.i64.wrap (i+1))]:=fun x a i h=>by
  rw [e24_0_1];rw [H7 h]; rfl
 have fi:∀ x a:Int,rn ⟨24,0,1⟩ [.int x,.int a,.int x]=some (0,[.int a]):=fun x a=>by
  rw [e24_0_1];rw [H8 (by omega)]; rfl
 by_cases h3:3<n
 · rw [cnt4_big h3,H8 (by omega:¬(n:Int)<=(3:Int))]; rfl
 · rw [H7 (by omega:(n:Int)<=(3:Int))]
   simp only [F4,H2];obtain rfl | rfl | rfl | rfl:n=0\/n=1\/n=2\/n=3:=by omega
   · show (rn ⟨24,0,1⟩ [.int 0,.int 1,.int 0]).bind _=_
     rw [fi]; rfl
   · show (rn ⟨24,0,1⟩ [.int 1,.int 1,.int 0]).bind _=_
     rw [st 1 1 0 (by decide)]
     show (rn ⟨24,0,1⟩ [.int 1,.int 4,.int 1]).bind _=_
     rw [fi]; rfl
   · show (rn ⟨24,0,1⟩ [.int 2,.int 1,.int 0]).bind _=_
     rw [st 2 1 0 (by decide)]
     show (rn ⟨24,0,1⟩ [.int 2,.int 4,.int 1]).bind _=_
     rw [st 2 4 1 (by decide)]
     show (rn ⟨24,0,1⟩ [.int 2,.int 16,.int 2]).bind _=_
     rw [fi]; rfl
   · show (rn ⟨24,0,1⟩ [.int 3,.int 1,.int 0]).bind _=_
     rw [st 3 1 0 (by decide)]
     show (rn ⟨24,0,1⟩ [.int 3,.int 4,.int 1]).bind _=_
     rw [st 3 4 1 (by decide)]
     show (rn ⟨24,0,1⟩ [.int 3,.int 16,.int 2]).bind _=_
     rw [st 3 16 2 (by decide)]
     show (rn ⟨24,0,1⟩ [.int 3,.int 64,.int 3]).bind _=_
     rw [fi]; rfl
theorem wcnt (n:Nat) (c:Int):(decide (0<=c)&&decide (c<=IntKind.i64.wrap (cnt4 n-1)))=isC n c:=by
 have h:=cnt4_le n;rw [IntWalk.i64_in _ (by omega)]
 unfold isC;have:decide (c<=cnt4 n-1)=decide (c<cnt4 n):=decide_eq_decide.2 (by omega)
 rw [this]
theorem r45 (n:Nat) (c:Int):rn ⟨45,0,0⟩ [.int (n:Int),.int c]=some (0,[.bool (isC n c)]):=by
 show rn _ _=_
 rw [e45_0_0];have hc:=r59 n;simp only [hc,B4,nth,C8,C9,D.I,D.S,D.L,D.B];unfold isC;cases decide (0<=c) <;> rfl
theorem rv0 (a b c:Int):rn ⟨104,1,0⟩ [.sl []]=some (0,[.sl []]):=by
 show rn _ _=_
 rw [e104_1_0];show (rn ⟨104,1,1⟩ [.int 0,.int (-1),.sl []]).bind _=_
 rw [e104_1_1];rfl
theorem rv1 (a b c:Int):rn ⟨104,1,0⟩ [.sl [[D.int a]]]=some (0,[.sl [[D.int a]]]):=by
 show rn _ _=_
 rw [e104_1_0];show (rn ⟨104,1,1⟩ [.int 0,.int (0),.sl [[D.int a]]]).bind _=_
 rw [e104_1_1];rfl
theorem rv2 (a b c:Int):rn ⟨104,1,0⟩ [.sl [[D.int a],[D.int b]]]=some (0,[.sl [[D.int b],[D.int a]]]):=by
 show rn _ _=_
 rw [e104_1_0];show (rn ⟨104,1,1⟩ [.int 0,.int (1),.sl [[D.int a],[D.int b]]]).bind _=_
 rw [e104_1_1];show (rn ⟨104,1,1⟩ [.int 1,.int 0,.sl [[D.int b],[D.int a]]]).bind _=_
 rw [e104_1_1];rfl
theorem rv3 (a b c:Int):rn ⟨104,1,0⟩ [.sl [[D.int a],[D.int b],[D.int c]]]=some (0,[.sl [[D.int c],[D.int b],[D.int a]]]):=by
 show rn _ _=_
 rw [e104_1_0];show (rn ⟨104,1,1⟩ [.int 0,.int (2),.sl [[D.int a],[D.int b],[D.int c]]]).bind _=_
 rw [e104_1_1];show (rn ⟨104,1,1⟩ [.int 1,.int 1,.sl [[D.int c],[D.int b],[D.int a]]]).bind _=_
 rw [e104_1_1];rfl
theorem r81 (n:Nat) (c:Int):rn ⟨81,0,0⟩ [.int (n:Int),.int c]=some (0,[.sl ((vals n c).map iRow)]):=by
 show rn _ _=_
 rw [e81_0_0];have hi:=r45 n c;simp only [hi,B4,nth,C8,C9,D.I,D.S,D.L,D.B];unfold vals;cases hq:isC n c with
 | false=>rfl
 | true =>
  obtain ⟨hn,h0,h64⟩:=isC_le hq;have e1:c.tdiv 4=c / 4:=P6 h0;have w1:IntKind.i64.wrap (c.tdiv 4)=c.tdiv 4:=by rw [e1]; exact IntWalk.i64_in _ (by omega)
  have h1:0<=c.tdiv 4:=by rw [e1]; omega
  have e2:(c.tdiv 4).tdiv 4=c / 4 / 4:=by rw [P6 h1,e1]
  have w2:IntKind.i64.wrap ((c.tdiv 4).tdiv 4)=(c.tdiv 4).tdiv 4:=by rw [e2]; exact IntWalk.i64_in _ (by omega)
  have st:∀ (x a:Int) (acc:Rows),0<x->acc.length<=10->rn ⟨81,0,1⟩ [.int x,.int a,.sl acc]=rn ⟨81,0,1⟩ [.int (IntKind.i64.wrap (x-1)),.int (IntKind.i64.wrap (a.tdiv 4)),.sl (acc++[[.int (a.tmod 4)]])]:=fun x a acc h hl=>by
   rw [e81_0_1];rw [H7 h];simp only [C5,D4];rw [show E1 (acc.length+(0+1)) M63=true from F1 (by unfold M63; omega)]
   rfl
  have fi:∀ (a:Int) (acc:Rows),rn ⟨81,0,1⟩ [.int 0,.int a,.sl acc]=some (0,[.sl acc]):=fun a acc=>by
   rw [e81_0_1];rfl
  simp only [F4,H2,if_true];obtain rfl | rfl | rfl | rfl:n=0\/n=1\/n=2\/n=3:=by omega
  · show (rn ⟨81,0,1⟩ [.int 0,.int c,.sl []]).bind _=_
    rw [fi];have hv:=rv0 0 0 0;show ((rn ⟨104,1,0⟩ [.sl []]).bind _:R)=_
    rw [hv]; rfl
  · show (rn ⟨81,0,1⟩ [.int 1,.int c,.sl []]).bind _=_
    rw [st 1 c [] (by decide) (by decide)]
    rw [w1];show (rn ⟨81,0,1⟩ [.int 0,.int (c.tdiv 4),.sl [[.int (c.tmod 4)]]]).bind _=_
    rw [fi];have hv:=rv1 (c.tmod 4) 0 0;show ((rn ⟨104,1,0⟩ [.sl [[.int (c.tmod 4)]]]).bind _:R)=_
    rw [hv]; rfl
  · show (rn ⟨81,0,1⟩ [.int 2,.int c,.sl []]).bind _=_
    rw [st 2 c [] (by decide) (by decide),w1]
    show (rn ⟨81,0,1⟩ [.int 1,.int (c.tdiv 4),.sl [[.int (c.tmod 4)]]]).bind _=_
    rw [st 1 _ _ (by decide) (by simp),w2]
    show (rn ⟨81,0,1⟩ [.int 0,.int ((c.tdiv 4).tdiv 4),.sl [[.int (c.tmod 4)],[.int ((c.tdiv 4).tmod 4)]]]).bind _=_
    rw [fi];have hv:=rv2 (c.tmod 4) ((c.tdiv 4).tmod 4) 0;show ((rn ⟨104,1,0⟩ [.sl [[.int (c.tmod 4)],[.int ((c.tdiv 4).tmod 4)]]]).bind _:R)=_
    rw [hv]; rfl
  · show (rn ⟨81,0,1⟩ [.int 3,.int c,.sl []]).bind _=_
    rw [st 3 c [] (by decide) (by decide),w1]
    show (rn ⟨81,0,1⟩ [.int 2,.int (c.tdiv 4),.sl [[.int (c.tmod 4)]]]).bind _=_
    rw [st 2 _ _ (by decide) (by simp),w2]
    show (rn ⟨81,0,1⟩ [.int 1,.int ((c.tdiv 4).tdiv 4),.sl [[.int (c.tmod 4)],[.int ((c.tdiv 4).tmod 4)]]]).bind _=_
    rw [st 1 _ _ (by decide) (by simp)]
    show (rn ⟨81,0,1⟩ [.int 0,.int _,.sl [[.int (c.tmod 4)],[.int ((c.tdiv 4).tmod 4)],[.int (((c.tdiv 4).tdiv 4).tmod 4)]]]).bind _=_
    rw [fi];have hv:=rv3 (c.tmod 4) ((c.tdiv 4).tmod 4) (((c.tdiv 4).tdiv 4).tmod 4);show ((rn ⟨104,1,0⟩ [.sl [[.int (c.tmod 4)],[.int ((c.tdiv 4).tmod 4)],[.int (((c.tdiv 4).tdiv 4).tmod 4)]]]).bind _:R)=_
    rw [hv]; rfl
theorem r65 (n:Nat) (c:Int):rn ⟨65,0,0⟩ [.int (n:Int),.int c]=some (0,[.sl ((vals n c).map iRow)]):=by
 show rn _ _=_
 rw [e65_0_0];have hi:=r24 n;have hj:=r41 c 0 (IntKind.i64.wrap (cnt4 n-1));rw [wcnt] at hj;simp only [hi,hj,B4,nth,C8,C9,D.I,D.S,D.L,D.B];unfold vals;cases hq:isC n c with
 | false=>rfl
 | true =>
  obtain ⟨hn,h0,h64⟩:=isC_le hq;have e1:c.tdiv 4=c / 4:=P6 h0;have w1:IntKind.i64.wrap (c.tdiv 4)=c.tdiv 4:=by rw [e1]; exact IntWalk.i64_in _ (by omega)
  have h1:0<=c.tdiv 4:=by rw [e1]; omega
  have e2:(c.tdiv 4).tdiv 4=c / 4 / 4:=by rw [P6 h1,e1]
  have w2:IntKind.i64.wrap ((c.tdiv 4).tdiv 4)=(c.tdiv 4).tdiv 4:=by rw [e2]; exact IntWalk.i64_in _ (by omega)
  have fi:∀ (a:Int) (acc:Rows),rn ⟨65,0,1⟩ [.int a,.int (-1),.sl acc]=some (0,[.sl acc]):=fun a acc=>by
   rw [e65_0_1];rfl
  simp only [F4,H2,if_true];obtain rfl | rfl | rfl | rfl:n=0\/n=1\/n=2\/n=3:=by omega
  · show (rn ⟨65,0,1⟩ [.int c,.int (-1),.sl []]).bind _=_
    rw [fi]; rfl
  · show (rn ⟨65,0,1⟩ [.int c,.int 0,.sl [[.int 0]]]).bind _=_
    rw [e65_0_1];show (rn ⟨65,0,1⟩ [.int (IntKind.i64.wrap (c.tdiv 4)),.int (-1),.sl [[.int (c.tmod 4)]]]).bind _=_
    rw [fi]; rfl
  · show (rn ⟨65,0,1⟩ [.int c,.int 1,.sl [[.int 0],[.int 0]]]).bind _=_
    rw [e65_0_1];show (rn ⟨65,0,1⟩ [.int (IntKind.i64.wrap (c.tdiv 4)),.int 0,.sl [[.int 0],[.int (c.tmod 4)]]]).bind _=_
    rw [w1];rw [e65_0_1];show (rn ⟨65,0,1⟩ [.int (IntKind.i64.wrap ((c.tdiv 4).tdiv 4)),.int (-1),.sl [[.int ((c.tdiv 4).tmod 4)],[.int (c.tmod 4)]]]).bind _=_
    rw [fi]; rfl
  · show (rn ⟨65,0,1⟩ [.int c,.int 2,.sl [[.int 0],[.int 0],[.int 0]]]).bind _=_
    rw [e65_0_1];show (rn ⟨65,0,1⟩ [.int (IntKind.i64.wrap (c.tdiv 4)),.int 1,.sl [[.int 0],[.int 0],[.int (c.tmod 4)]]]).bind _=_
    rw [w1];rw [e65_0_1];show (rn ⟨65,0,1⟩ [.int (IntKind.i64.wrap ((c.tdiv 4).tdiv 4)),.int 0,.sl [[.int 0],[.int ((c.tdiv 4).tmod 4)],[.int (c.tmod 4)]]]).bind _=_
    rw [w2];rw [e65_0_1];show (rn ⟨65,0,1⟩ [.int _,.int (-1),.sl [[.int (((c.tdiv 4).tdiv 4).tmod 4)],[.int ((c.tdiv 4).tmod 4)],[.int (c.tmod 4)]]]).bind _=_
    rw [fi]; rfl
theorem r49 (vars:List ByteArray) (c:Int):rn ⟨49,0,0⟩ [.sl (vars.map sRow),.int c]=some (0,[.sl ((caseS vars c).map Bnd.row)]):=by
 show rn _ _=_
 rw [e49_0_0];have hv:=r81 vars.length c;have hle:=vals_len vars.length c;have hle3:(vals vars.length c).length<=3:=by
  by_cases hC:isC vars.length c=true
  · have:=(isC_le hC).1; omega
  · unfold vals; rw [H6 hC]; simp
 have hz:(vars.zip (vals vars.length c)).length=(vals vars.length c).length:=by simp; omega
 have hf:=map_loop (F:=fun i acc=>rn ⟨49,0,1⟩ [.sl (vars.map sRow),.int (((vals vars.length c).map iRow).length),.int (i:Int),.sl acc,.sl ((vals vars.length c).map iRow)]) (xs:=vars.zip (vals vars.length c)) (fun p=>[.str p.1,.int 3,.int p.2,.str ⟨#[]⟩,.sl []]) (K:=fun acc=>some (0,[.sl (acc)])) (fun i hi acc ha=>?_) (fun acc=>?_)
 · simp only [D1] at hf
   simp only [B8];rw [hv];simp only [B4,nth,C8,C9,D.I,D.S,D.L,D.B];first
    | rw [hf]
    | (simp only [B8] at hf ⊢; rw [hf])
   simp only [B4,F7,H1,nth,C8,C9,D.I,D.S,D.L,D.B];unfold caseS;rw [K0];rfl
 · have hi1:i<vars.length:=by rw [List.length_zip] at hi; omega
   have hi2:i<(vals vars.length c).length:=by rw [List.length_zip] at hi; omega
   rw [e49_0_1];simp only [C1,rowAt_map hi1,rowAt_map hi2,sRow,iRow,B8,inbN,hi1,hi2,D0,H3,H1,nth,C8,C9,D.I,D.S,D.L,D.B,wrap_succ hi2 (by unfold maxLen; omega),C5,D4,B4]
   rw [show E1 (acc.length+(0+1)) M63=true from F1 (by unfold M63; omega)]
   rw [List.getElem_zip];rfl
 · skip
   rw [e49_0_1];simp [hz]
theorem r35 (vars:List ByteArray) (c:Int):rn ⟨35,0,0⟩ [.sl (vars.map sRow),.int c]=some (0,[.sl ((caseS vars c).map Bnd.row)]):=by
 show rn _ _=_
 rw [e35_0_0];have hv:=r65 vars.length c;have hle:=vals_len vars.length c;have hle3:(vals vars.length c).length<=3:=by
  by_cases hC:isC vars.length c=true
  · have:=(isC_le hC).1; omega
  · unfold vals; rw [H6 hC]; simp
 have hz:(vars.zip (vals vars.length c)).length=(vals vars.length c).length:=by simp; omega
 have hf:=map_loop (F:=fun i acc=>rn ⟨35,0,1⟩ [.sl (vars.map sRow),.int (i:Int),.sl acc,.sl ((vals vars.length c).map iRow)]) (xs:=vars.zip (vals vars.length c)) (fun p=>[.str p.1,.int 3,.int p.2,.str ⟨#[]⟩,.sl []]) (K:=fun acc=>some (0,[.sl (acc)])) (fun i hi acc ha=>?_) (fun acc=>?_)
 · simp only [D1] at hf
   simp only [B8];rw [hv];simp only [B4,nth,C8,C9,D.I,D.S,D.L,D.B];first
    | rw [hf]
    | (simp only [B8] at hf ⊢; rw [hf])
   simp only [B4,F7,H1,nth,C8,C9,D.I,D.S,D.L,D.B];unfold caseS;rw [K0];rfl
 · have hi1:i<vars.length:=by rw [List.length_zip] at hi; omega
   have hi2:i<(vals vars.length c).length:=by rw [List.length_zip] at hi; omega
   rw [e35_0_1];have hw:=r66 ((vals vars.length c)[i]);simp only [C1,rowAt_map hi1,rowAt_map hi2,sRow,iRow,B8,inbN,hi1,hi2,D0,H3,H1,nth,C8,C9,D.I,D.S,D.L,D.B,wrap_succ hi2 (by unfold maxLen; omega),C5,D4,B4,hw]
   rw [show E1 (acc.length+(0+1)) M63=true from F1 (by unfold M63; omega)]
   rw [List.getElem_zip];rfl
 · skip
   rw [e35_0_1];simp [hz]
theorem r42 (vars:List ByteArray) (t:Tm) (ht:Small t) (c:Int):rn ⟨42,0,0⟩ [.sl (vars.map sRow),.int t.k,.int t.n,.str t.s,.sl (t.as.map Tm.row),.int c]=some (0,[.int (inst vars t c).k,.int (inst vars t c).n,.str (inst vars t c).s,.sl ((inst vars t c).as.map Tm.row)]):=by
 show rn _ _=_
 rw [e42_0_0];have hl:(caseS vars c).length<=1048576:=by
  have:=vals_len vars.length c;by_cases hC:isC vars.length c=true
  · have:=(isC_le hC).1; unfold caseS; simp; omega
  · unfold caseS vals; rw [H6 hC]; simp
 have h1:=r35 vars c;have h2:=r64 (caseS vars c) hl (caseS_small vars c) t ht;have h3:=r62 (aS (caseS vars c) t) (aS_small (caseS_small vars c) t ht);simp only [h1,h2,h3,B4,nth,C8,C9,D.I,D.S,D.L,D.B];rfl
theorem caseS_len (vars:List ByteArray) (c:Int):(caseS vars c).length<=1048576:=by
 have:=vals_len vars.length c;by_cases hC:isC vars.length c=true
 · have:=(isC_le hC).1; unfold caseS; simp; omega
 · unfold caseS vals; rw [H6 hC]; simp
theorem r131:∀ t:Tm,t.nodes<=1048577->rn ⟨131,0,0⟩ [.int t.k,.int t.n,.str t.s,.sl (t.as.map Tm.row)]=some (0,[.sl (t.names.map sRow)]):=Tm.ind fun t ih h=>by
 have hnd:=Tm.nodes_eq t;have hsm:=names_sum t;have hlt:=len_sum (xs:=t.as);show rn _ _=_
 rw [e131_0_0];have hf:=fun a0:Rows=>fun ha0:a0.length<=1=>cat_loop (F:=fun i acc=>rn ⟨131,0,1⟩ [.sl (t.as.map Tm.row),.int (t.as.map Tm.row).length,.int (i:Int),.sl acc]) (xs:=t.as) (fun a=>a.names.map sRow) a0 (K:=fun acc=>some (0,[.sl acc])) (fun i hi acc ha=>by
  have hc:=ih _ (C7 hi) (by have:=mem_sum (f:=Tm.nodes) (C7 hi); omega)
  rw [e131_0_1];simp only [C1,rowAt_map hi,Tm.row_eq,B8,inbN,hi,D0,H3,H1,nth,C8,C9,D.I,D.S,D.L,D.B,wrap_succ hi (by unfold maxLen; omega),B4,hc]
  rw [E6,B8] at ha;rw [show E1 (acc.length+t.as[i].names.length) M63=true from F1 (by unfold M63; omega)]
  rfl) (fun acc=>by
  rw [e131_0_1];simp)
 simp only [D1] at hf;rw [names_rows];by_cases hk:t.k=1
 · rw [H5 hk,H7 hk]
   have h1:=hf [sRow t.s] (by simp)
   simp only [sRow] at h1;simp only [H1,sRow];rw [h1]; rfl
 · rw [H6 hk,H8 hk]
   have h1:=hf [] (by simp)
   simp only [H2];rw [h1]; rfl
theorem r105 (t:Tm) (h:t.nodes<=1048577):rn ⟨105,0,0⟩ [.int t.k,.int t.n,.str t.s,.sl (t.as.map Tm.row)]=some (0,[.bool (isG t)]):=by
 show rn _ _=_
 rw [e105_0_0];have hc:=r131 t h;simp only [hc,B4,nth,C8,C9,D.I,D.S,D.L,D.B,B8];rfl
theorem r89:∀ t:Tm,∀ a0:Rows,t.nodes<=1048577->a0.length+t.names.length<=1073741824->rn ⟨89,1,0⟩ [.int t.k,.int t.n,.str t.s,.sl (t.as.map Tm.row),.sl a0]=some (0,[.sl (a0++t.names.map sRow)]):=Tm.ind fun t ih a0 h h'=>by
 have hnd:=Tm.nodes_eq t;have hsm:=names_sum t;have hlt:=len_sum (xs:=t.as);show rn _ _=_
 rw [e89_1_0];have hf:=fun a1:Rows=>fun ha1:a1.length+(t.as.flatMap fun a=>a.names.map sRow).length<=1073741824=>cat_loop (F:=fun i acc=>rn ⟨89,1,1⟩ [.int (i:Int),.sl acc,.int t.k,.int t.n,.str t.s,.sl (t.as.map Tm.row)]) (xs:=t.as) (fun a=>a.names.map sRow) a1 (K:=fun acc=>some (0,[.sl acc])) (fun i hi acc ha=>by
  rw [E6] at ha;have hx:t.as[i].nodes<=(t.as.map Tm.nodes).sum:=mem_sum (f:=Tm.nodes) (C7 hi);have hc:=ih _ (C7 hi) acc (by omega) (by rw [B8] at ha; omega)
  rw [e89_1_1];simp only [C1,rowAt_map hi,Tm.row_eq,B8,inbN,hi,D0,H3,H1,nth,C8,C9,D.I,D.S,D.L,D.B,wrap_succ hi (by unfold maxLen; omega),B4,hc]) (fun acc=>by
  rw [e89_1_1];simp)
 simp only [D1] at hf;have hle:t.names.length=(if t.k=1 then [sRow t.s] else []).length+(t.as.flatMap fun a=>a.names.map sRow).length:=by
  rw [<- E6,<- names_rows,B8]
 rw [names_rows];by_cases hk:t.k=1
 · rw [H5 hk] at hle
   rw [H5 hk,H7 hk];have h1:=hf (a0++[sRow t.s]) (by rw [E6]; omega)
   simp only [sRow] at h1;simp only [H1,sRow,C5,D4];rw [show E1 (a0.length+(0+1)) M63=true from F1 (by unfold M63; omega)]
   simp only [H1];rw [h1,D9]; rfl
 · rw [H6 hk] at hle
   rw [H6 hk,H8 hk];have h1:=hf a0 (by rw [D4] at hle; omega)
   simp only [H2];rw [h1]; rfl
theorem r63 (t:Tm) (h:t.nodes<=1048577):rn ⟨63,0,0⟩ [.int t.k,.int t.n,.str t.s,.sl (t.as.map Tm.row)]=some (0,[.bool (isG t)]):=by
 show rn _ _=_
 rw [e63_0_0];have hc:=r89 t [] h (by have:=names_nodes t; simp; omega)
 simp only [hc,B4,nth,C8,C9,D.I,D.S,D.L,D.B,G6,B8];rfl
theorem r13:∀ t:Tm,∀ u:Tm,Small t->rn ⟨13,0,0⟩ [.int t.k,.int t.n,.str t.s,.sl (t.as.map Tm.row),.int u.k,.int u.n,.str u.s,.sl (u.as.map Tm.row)]=some (0,[.bool (eqb t.row u.row)]):=Tm.ind fun t ih u h=>by
 have hlt:=h.len;show rn _ _=_
 rw [e13_0_0];have hq:eqb t.row u.row=(decide (t.k=u.k)&&(decide (t.n=u.n)&&(decide (t.s=u.s)&&eqb (t.as.map Tm.row) (u.as.map Tm.row)))):=by
  rw [Tm.row_eq t,Tm.row_eq u];simp only [eqb_cons,eqb_nil,eqb_int,eqb_str,eqb_sl,O1]
 rw [hq];try simp only [B8]
 by_cases l0:u.as.length≠t.as.length
 · rw [H8 (by omega:¬(t.as.length:Int)=(u.as.length:Int)),eqb_len (fun h=>l0 (by simpa using h.symm))]
   cases decide (t.k=u.k) <;> cases decide (t.n=u.n) <;> cases decide (t.s=u.s) <;> rfl
 have l0:=Classical.not_not.1 l0;rw [H7 (by omega:(t.as.length:Int)=(u.as.length:Int))]
 have hf:=eq_loop (F:=fun i=>rn ⟨13,0,1⟩ [.int (i:Int),.int t.k,.int t.n,.str t.s,.sl (t.as.map Tm.row),.int u.k,.int u.n,.str u.s,.sl (u.as.map Tm.row)]) (xs:=t.as.map Tm.row) (ys:=u.as.map Tm.row) (A:=some (0,[])) (B:=some (1,[])) (by simpa using l0) (fun i hi=>?_) ?_
 · simp only [D1] at hf
   rw [hf];cases decide (t.k=u.k) <;> cases decide (t.n=u.n) <;> cases decide (t.s=u.s) <;> cases eqb (t.as.map Tm.row) (u.as.map Tm.row) <;> rfl
 · have hi:i<t.as.length:=by simpa using hi
   have hi2:i<u.as.length:=by omega
   have hc:=ih _ (C7 hi) u.as[i] (h.sub (C7 hi));rw [e13_0_1];rw [P4,P4];generalize eqb t.as[i].row u.as[i].row=z at hc ⊢;simp only [C1,rowAt_map hi,rowAt_map hi2,Tm.row_eq,B8,inbN,hi,hi2,D0,H3,H1,nth,C8,C9,D.I,D.S,D.L,D.B,wrap_succ hi (by unfold maxLen; omega),B4,hc]
   cases z <;> rfl
 · skip
   rw [e13_0_1];simp
theorem r40:∀ t:Tm,∀ u:Tm,Small t->rn ⟨40,0,0⟩ [.int t.k,.int t.n,.str t.s,.sl (t.as.map Tm.row),.int u.k,.int u.n,.str u.s,.sl (u.as.map Tm.row)]=some (0,[.bool (eqb t.row u.row)]):=Tm.ind fun t ih u h=>by
 have hlt:=h.len;show rn _ _=_
 rw [e40_0_0];have hq:eqb t.row u.row=(decide (t.k=u.k)&&(decide (t.n=u.n)&&(decide (t.s=u.s)&&eqb (t.as.map Tm.row) (u.as.map Tm.row)))):=by
  rw [Tm.row_eq t,Tm.row_eq u];simp only [eqb_cons,eqb_nil,eqb_int,eqb_str,eqb_sl,O1]
 rw [hq];try simp only [B8]
 have hl:rn ⟨77,0,0⟩ [.sl (t.as.map Tm.row),.sl (u.as.map Tm.row)]=some (0,[.bool (eqb (t.as.map Tm.row) (u.as.map Tm.row))]):=by
  rw [e77_0_0];simp only [B8];by_cases l0:u.as.length≠t.as.length
  · rw [H8 (by omega:¬(t.as.length:Int)=(u.as.length:Int)),eqb_len (fun h=>l0 (by simpa using h.symm))]; rfl
  have l0:=Classical.not_not.1 l0;rw [H7 (by omega:(t.as.length:Int)=(u.as.length:Int))]
  have hf:=eq_loop (F:=fun i=>rn ⟨77,0,1⟩ [.sl (u.as.map Tm.row),.sl (t.as.map Tm.row),.int ((t.as.map Tm.row)).length,.int (i:Int)]) (xs:=t.as.map Tm.row) (ys:=u.as.map Tm.row) (A:=some (0,[])) (B:=some (1,[])) (by simpa using l0) (fun i hi=>?_) ?_
  · simp only [D1,B8] at hf
    rw [hf];cases eqb (t.as.map Tm.row) (u.as.map Tm.row) <;> rfl
  · have hi:i<t.as.length:=by simpa using hi
    have hi2:i<u.as.length:=by omega
    have hc:=ih _ (C7 hi) u.as[i] (h.sub (C7 hi));rw [e77_0_1];rw [P4,P4];generalize eqb t.as[i].row u.as[i].row=z at hc ⊢;simp only [C1,rowAt_map hi,rowAt_map hi2,Tm.row_eq,B8,inbN,hi,hi2,D0,H3,H1,nth,C8,C9,D.I,D.S,D.L,D.B,wrap_succ hi (by unfold maxLen; omega),B4,hc]
    cases z <;> rfl
  · skip
    rw [e77_0_1];simp
 simp only [hl,B4,nth,C8,C9,D.I,D.S,D.L,D.B];cases decide (t.k=u.k) <;> cases decide (t.n=u.n) <;> cases decide (t.s=u.s) <;> rfl
theorem r85 (g:Gu) (h:g.ok):rn ⟨85,0,0⟩ [.int g.k,.int g.l.k,.int g.l.n,.str g.l.s,.sl (g.l.as.map Tm.row),.int g.r.k,.int g.r.n,.str g.r.s,.sl (g.r.as.map Tm.row)]=some (0,[.bool (holds g)]):=by
 show rn _ _=_
 rw [e85_0_0];obtain ⟨hl,hr⟩:=h;have sl:=small_of _ hl;have sr:=small_of _ hr;have hl':=F8 (rW_nodes g.l) hl;have hr':=F8 (rW_nodes g.r) hr;have a1:=r105 g.l hl;have a2:=r105 g.r hr;have b1:=r47 g.l sl;have b2:=r47 g.r sr;have c1:=r40 (rW g.l) (rW g.r) (rW_small _ sl);have d1:=r50 (rW g.l);have d2:=r50 (rW g.r);simp only [a1,a2,b1,b2,c1,d1,d2,B4,nth,C8,C9,D.I,D.S,D.L,D.B];unfold holds;cases isG g.l
 · rfl
 cases isG g.r
 · rfl
 simp only [F4,H2,J8];by_cases k1:g.k=1
 · rw [H5 k1,H7 k1]; rfl
 rw [H6 k1,H8 k1];by_cases k2:g.k=2
 · rw [H5 k2,H7 k2]; rfl
 rw [H6 k2,H8 k2];by_cases k3:g.k=3
 · rw [H5 k3,H7 k3]
   cases isW (rW g.l) <;> cases isW (rW g.r) <;> rfl
 · rw [H6 k3,H8 k3]; rfl
theorem r33 (g:Gu) (h:g.ok):rn ⟨33,0,0⟩ [.int g.k,.int g.l.k,.int g.l.n,.str g.l.s,.sl (g.l.as.map Tm.row),.int g.r.k,.int g.r.n,.str g.r.s,.sl (g.r.as.map Tm.row)]=some (0,[.bool (holds g)]):=by
 show rn _ _=_
 rw [e33_0_0];obtain ⟨hl,hr⟩:=h;have sl:=small_of _ hl;have sr:=small_of _ hr;have hl':=F8 (rW_nodes g.l) hl;have hr':=F8 (rW_nodes g.r) hr;have a1:=r63 (rW g.l) hl';have a2:=r63 (rW g.r) hr';have b1:=r62 g.l sl;have b2:=r62 g.r sr;have c1:=r13 (rW g.l) (rW g.r) (rW_small _ sl);have d1:=r52 (rW g.l);have d2:=r52 (rW g.r);simp only [a1,a2,b1,b2,c1,d1,d2,B4,nth,C8,C9,D.I,D.S,D.L,D.B];unfold holds;rw [isG_rW,isG_rW];cases isG g.l
 · rfl
 cases isG g.r
 · rfl
 simp only [F4,H2,J8];by_cases k1:g.k=1
 · rw [H5 k1,H7 k1]; rfl
 rw [H6 k1,H8 k1];by_cases k2:g.k=2
 · rw [H5 k2,H7 k2]; rfl
 rw [H6 k2,H8 k2];by_cases k3:g.k=3
 · rw [H5 k3,H7 k3]
   cases isW (rW g.l) <;> cases isW (rW g.r) <;> rfl
 · rw [H6 k3,H8 k3]; rfl
theorem r86 (l:List Bnd) (hl:l.length<=1048576) (hs:∀ b∈l,Small b.2) (g:Gu) (h:g.ok):rn ⟨86,0,0⟩ [.sl (l.map Bnd.row),.int g.k,.int g.l.k,.int g.l.n,.str g.l.s,.sl (g.l.as.map Tm.row),.int g.r.k,.int g.r.n,.str g.r.s,.sl (g.r.as.map Tm.row)]=some (0,[.int (appG l g).k,.int (appG l g).l.k,.int (appG l g).l.n,.str (appG l g).l.s,.int (appG l g).r.k,.int (appG l g).r.n,.str (appG l g).r.s,.sl ((appG l g).l.as.map Tm.row),.sl ((appG l g).r.as.map Tm.row)]):=by
 show rn _ _=_
 rw [e86_0_0];have a1:=r48 l hl hs g.l (small_of _ h.1);have a2:=r48 l hl hs g.r (small_of _ h.2);simp only [a1,a2,B4,nth,C8,C9,D.I,D.S,D.L,D.B];rfl
theorem r34 (l:List Bnd) (hl:l.length<=1048576) (hs:∀ b∈l,Small b.2) (g:Gu) (h:g.ok):rn ⟨34,0,0⟩ [.sl (l.map Bnd.row),.int g.k,.int g.l.k,.int g.l.n,.str g.l.s,.sl (g.l.as.map Tm.row),.int g.r.k,.int g.r.n,.str g.r.s,.sl (g.r.as.map Tm.row)]=some (0,[.int (appG l g).k,.int (appG l g).l.k,.int (appG l g).l.n,.str (appG l g).l.s,.int (appG l g).r.k,.int (appG l g).r.n,.str (appG l g).r.s,.sl ((appG l g).l.as.map Tm.row),.sl ((appG l g).r.as.map Tm.row)]):=by
 show rn _ _=_
 rw [e34_0_0];have a1:=r64 l hl hs g.l (small_of _ h.1);have a2:=r64 l hl hs g.r (small_of _ h.2);simp only [a1,a2,B4,nth,C8,C9,D.I,D.S,D.L,D.B];rfl
theorem gu_row (g:Gu):g.row=[.int g.k,.int g.l.k,.int g.l.n,.str g.l.s,.sl (g.l.as.map Tm.row),.int g.r.k,.int g.r.n,.str g.r.s,.sl (g.r.as.map Tm.row)]:=rfl
theorem r60 (l:List Bnd) (hl:l.length<=1048576) (hs:∀ b∈l,b.2.nodes=1) (gs:List Gu) (hg:gs.length<=1048576) (h:∀ g∈gs,g.ok):rn ⟨60,0,0⟩ [.sl (l.map Bnd.row),.sl (gs.map Gu.row)]=some (0,[.bool (gs.all fun g=>holds (appG l g))]):=by
 have hss:∀ b∈l,Small b.2:=fun b hb=>small_of _ (by rw [hs b hb]; decide)
 show rn _ _=_
 rw [e60_0_0];have hf:=all_loop (F:=fun i=>rn ⟨60,0,1⟩ [.sl (l.map Bnd.row),.sl (gs.map Gu.row),.int (gs.map Gu.row).length,.int (i:Int)]) (xs:=gs) (p:=fun g=>holds (appG l g)) (A:=some (0,[])) (B:=some (1,[])) (fun i hi=>?_) ?_
 · simp only [D1] at hf
   rw [hf];cases gs.all fun g=>holds (appG l g) <;> rfl
 · have hgi:=h _ (C7 hi)
   have a1:=r86 l hl hss gs[i] hgi;have a2:=r85 (appG l gs[i]) (appG_ok hs hgi);rw [e60_0_1];simp only [C1,rowAt_map hi,gu_row,B8,inbN,hi,D0,H3,H1,nth,C8,C9,D.I,D.S,D.L,D.B,wrap_succ hi (by unfold maxLen; omega),B4,a1,a2]
   cases holds (appG l gs[i]) <;> rfl
 · skip
   rw [e60_0_1];simp
theorem cnt4_nat (n:Nat):((cnt4 n).toNat:Int)=cnt4 n/\(cnt4 n).toNat<=64:=by have:=cnt4_le n; omega
theorem r27 (vars:List ByteArray) (gs:List Gu) (hg:gs.length<=1048576) (h:∀ g∈gs,g.ok):rn ⟨27,0,0⟩ [.sl (vars.map sRow),.sl (gs.map Gu.row)]=some (0,[.sl ((allC vars gs).map nRow)]):=by
 have hN:=cnt4_nat vars.length;show rn _ _=_
 rw [e27_0_0];have hf:=filter_loop (F:=fun i acc=>rn ⟨27,0,1⟩ [.sl (vars.map sRow),.sl (gs.map Gu.row),.int (i:Int),.sl acc]) (N:=(cnt4 vars.length).toNat) (p:=fun c=>holdsIn vars gs (c:Int)) (g:=nRow) (K:=fun acc=>some (0,[.sl acc])) (fun i acc hi ha=>?_) (fun acc=>?_)
 · simp only [D1] at hf
   rw [hf]; rfl
 · have a1:=r59 vars.length
   have a2:=r49 vars (i:Int);have a3:=r60 (caseS vars (i:Int)) (caseS_len ..) (caseS_nodes _ _) gs hg h;rw [e27_0_1];simp only [B8,a1,a2,a3,B4,nth,C8,C9,D.I,D.S,D.L,D.B];rw [H7 (by omega:(i:Int)<cnt4 vars.length)]
   simp only [H1,C5,D4,wrap_succ hi (by unfold maxLen; omega)]
   rw [show E1 (acc.length+(0+1)) M63=true from F1 (by unfold M63; omega)]
   unfold holdsIn;cases gs.all fun g=>holds (appG (caseS vars (i:Int)) g) <;> rfl
 · have a1:=r59 vars.length
   rw [e27_0_1];simp only [B8,a1,B4,nth,C8,C9,D.I,D.S,D.L,D.B];rw [H8 (by omega:¬((cnt4 vars.length).toNat:Int)<cnt4 vars.length)]; rfl
theorem r12 (vars:List ByteArray) (gs:List Gu) (hg:gs.length<=1048576) (h:∀ g∈gs,g.ok):rn ⟨12,0,0⟩ [.sl (vars.map sRow),.sl (gs.map Gu.row)]=some (0,[.sl ((allC vars gs).map nRow)]):=by
 have hN:=cnt4_nat vars.length;have a1:=r24 vars.length;have hin:∀ (c:Int) (acc:Rows),rn ⟨12,0,3⟩ [.sl (vars.map sRow),.sl (gs.map Gu.row),.int (cnt4 vars.length),.int c,.bool true,.int 0,.sl acc]=some (0,[.sl (vars.map sRow),.sl (gs.map Gu.row),.int (cnt4 vars.length),.int c,.bool (holdsIn vars gs c),.sl acc]):=fun c acc=>by
  have hf:=flag_loop (F:=fun i b=>rn ⟨12,0,3⟩ [.sl (vars.map sRow),.sl (gs.map Gu.row),.int (cnt4 vars.length),.int c,.bool b,.int (i:Int),.sl acc]) (xs:=gs) (p:=fun g=>holds (appG (caseS vars c) g)) (A:=fun b=>some (0,[.sl (vars.map sRow),.sl (gs.map Gu.row),.int (cnt4 vars.length),.int c,.bool b,.sl acc])) (fun i hi b=>?_) (fun b=>?_)
  · simp only [D1] at hf
    rw [hf]; rfl
  · have hss:∀ b∈caseS vars c,Small b.2:=caseS_small vars c
    have hgi:=h _ (C7 hi);have b1:=r35 vars c;have b2:=r34 (caseS vars c) (caseS_len ..) hss gs[i] hgi;have b3:=r33 (appG (caseS vars c) gs[i]) (appG_ok (caseS_nodes _ _) hgi);rw [e12_0_3];simp only [C1,rowAt_map hi,gu_row,B8,inbN,hi,D0,H3,H1,nth,C8,C9,D.I,D.S,D.L,D.B,wrap_succ hi (by unfold maxLen; omega),B4,b1,b2,b3]
    cases b <;> rfl
  · skip
    rw [e12_0_3];simp
 show rn _ _=_
 rw [e12_0_0];have hf:=filter_loop (F:=fun i acc=>rn ⟨12,0,1⟩ [.sl (vars.map sRow),.sl (gs.map Gu.row),.int (cnt4 vars.length),.int (i:Int),.sl acc]) (N:=(cnt4 vars.length).toNat) (p:=fun c=>holdsIn vars gs (c:Int)) (g:=nRow) (K:=fun acc=>some (0,[.sl acc])) (fun i acc hi ha=>?_) (fun acc=>?_)
 · simp only [D1] at hf a1
   simp only [B8,a1,B4,nth,C8,C9,D.I,D.S,D.L,D.B];rw [hf]; rfl
 · skip
   rw [e12_0_1];rw [H7 (by omega:(i:Int)<cnt4 vars.length),hin]
   simp only [H1,B4,F7,nth,C8,C9,D.I,D.S,D.L,D.B,C5,D4,wrap_succ hi (by unfold maxLen; omega)]
   rw [show E1 (acc.length+(0+1)) M63=true from F1 (by unfold M63; omega)]
   cases holdsIn vars gs (i:Int) <;> rfl
 · skip
   rw [e12_0_1];rw [H8 (by omega:¬((cnt4 vars.length).toNat:Int)<cnt4 vars.length)]; rfl
end Go.Q.S
end
section
namespace Go.Q.S
open Go Go.Q Go.Proofs
theorem r26 (vs cs0 cs:Rows) (t:Tm) (h:Small t) (h1:vs.length<=274877906944) (h2:cs.length<=274877906944):rn ⟨26,0,0⟩ [.sl vs,.int t.k,.int t.n,.str t.s,.sl (t.as.map Tm.row),.sl cs0,.sl cs]=some (0,[.int t.k,.int t.n,.str t.s,.sl vs,.sl (t.as.map Tm.row),.sl cs]):=by
 rw [e26_0_0];simp only [rCloneS vs h1,rCloneI cs h2,r57 t h,nth0,nth1,nth2,nth3,nth4,nth5,nth6,nth7,nth8,nth9,nth10,nth11,nth12,nth13,nth14,nth15,nth16,nth17,nth18,nth19,nth20,nth21,nth22,nth23,nth24,nth25,dI,dB,dS,dL,B4]
theorem r7 (vars:List ByteArray) (hv:vars.length<=1048576) (l r:Tm) (h:Small l) (gs:List Gu) (hg:gs.length<=1048576) (hk:∀ g∈gs,g.ok):rn ⟨7,0,0⟩ [.sl (vars.map sRow),.int l.k,.int l.n,.str l.s,.sl (l.as.map Tm.row),.int r.k,.int r.n,.str r.s,.sl (r.as.map Tm.row),.sl (gs.map Gu.row)] =
 some (0,[.int l.k,.int l.n,.str l.s,.sl (vars.map sRow),.sl (l.as.map Tm.row),.sl ((allC vars gs).map nRow)]):=by
 have hc:(allC vars gs).length<=274877906944:=by
  unfold allC;refine F8 (List.length_filter_le _ _) ?_;have:=(cnt4_le vars.length).2;simp; omega
 rw [e7_0_0];simp only [r27 vars gs hg hk,nth0,nth1,nth2,nth3,nth4,nth5,nth6,nth7,nth8,nth9,nth10,nth11,nth12,nth13,nth14,nth15,nth16,nth17,nth18,nth19,nth20,nth21,nth22,nth23,nth24,nth25,dI,dB,dS,dL,B4];rw [r26 _ _ _ l h (by simp; omega) (by simpa using hc)]
 simp only [nth0,nth1,nth2,nth3,nth4,nth5,nth6,nth7,nth8,nth9,nth10,nth11,nth12,nth13,nth14,nth15,nth16,nth17,nth18,nth19,nth20,nth21,nth22,nth23,nth24,nth25,dI,dB,dS,dL,B4]
theorem r10 (vars:List ByteArray) (hv:vars.length<=1048576) (l r:Tm) (h:Small l) (gs:List Gu) (hg:gs.length<=1048576) (hk:∀ g∈gs,g.ok):rn ⟨10,0,0⟩ [.sl (vars.map sRow),.int l.k,.int l.n,.str l.s,.sl (l.as.map Tm.row),.int r.k,.int r.n,.str r.s,.sl (r.as.map Tm.row),.sl (gs.map Gu.row)] =
 some (0,[.int l.k,.int l.n,.str l.s,.sl (vars.map sRow),.sl (l.as.map Tm.row),.sl ((allC vars gs).map nRow)]):=by
 rw [e10_0_0];rw [show E1 (([]:Rows).length+(vars.map sRow).length) M63=true from F1 (by unfold M63; simp; omega)]
 simp only [r32 l h,r12 vars gs hg hk,H1,nth0,nth1,nth2,nth3,nth4,nth5,nth6,nth7,nth8,nth9,nth10,nth11,nth12,nth13,nth14,nth15,nth16,nth17,nth18,nth19,nth20,nth21,nth22,nth23,nth24,nth25,dI,dB,dS,dL,B4,G6]
end Go.Q.S
end
section
namespace Go.Q.S
open Go Go.Q Go.Proofs
theorem qle (a c:Nat):decide ((c:Int)<=(a:Int))=decide (c<=a):=by by_cases h:c<=a <;> simp [h] <;> omega
theorem maxB {n:Nat} (h:n<=1099511627776):n<=maxLen:=by unfold maxLen; omega
theorem nb {n m:Nat} (h:n+m<=274877906944):E1 (n+m) M63=true:=F1 h
theorem r132 (c:Nat):rn ⟨132,0,0⟩ [.int (c:Int)]=some (0,[.bool (decide (97<=c)&&decide (c<=122))]):=by
 rw [e132_0_0,show decide ((97:Int)<=(c:Int))=decide (97<=c) from qle c 97,show decide ((c:Int)<=122)=decide (c<=122) from qle 122 c]
 cases decide (97<=c) <;> rfl
theorem r154 (c:Nat):rn ⟨154,0,0⟩ [.int (c:Int)]=some (0,[.bool (decide (48<=c)&&decide (c<=57))]):=by
 rw [e154_0_0,show decide ((48:Int)<=(c:Int))=decide (48<=c) from qle c 48,show decide ((c:Int)<=57)=decide (c<=57) from qle 57 c]
 cases decide (48<=c) <;> rfl
theorem rIn (a b c:Int):rn ⟨41,0,0⟩ [.int a,.int b,.int c]=some (0,[.bool (decide (b<=a)&&decide (a<=c))]):=r41 a b c
theorem r133 (s:ByteArray) (hs:s.size<=maxLen):rn ⟨133,0,0⟩ [.str s]=some (0,[.bool ((s.data.toList.drop 1).all lowB&&(decide (1<=s.data.toList.length)&&decide (s.data.toList.length<=8)))]):=by
 have hz:=size_list s;have hl:∀ n i,i+n=s.data.toList.length->rn ⟨133,0,1⟩ [.str s,.int (i:Int)]=bif (s.data.toList.drop i).all lowB then some (0,[.str s]) else some (1,[]):=by
  intro n;induction n with
  | zero =>
   intro i hi;obtain rfl:i=s.data.toList.length:=by omega
   rw [e133_0_1];simp only [hz,B8,D0,E9,H4,H2,D6,Q2,H1]
  | succ n ih =>
   intro i hi;have hlt:i<s.data.toList.length:=by omega
   rw [e133_0_1,C3 hlt];simp only [hz,D0,hlt,H3,H1,inbN,C1,wrap_succ hlt (by omega),get_list hlt,K2,ih (i+1) (by omega),lowB,r132,r154,nv0,nvS,dvI,dvB,dvS,dvL,B4]
   generalize s.data.toList[i].toNat=c;cases decide (97<=c) <;> cases decide (c<=122) <;> cases decide (48<=c) <;> cases decide (c<=57) <;> simp
 rw [e133_0_0];have hlen:decide ((1:Int)<=(s.data.toList.length:Int))=decide (1<=s.data.toList.length):=qle s.data.toList.length 1;have hlen8:decide ((s.data.toList.length:Int)<=8)=decide (s.data.toList.length<=8):=qle 8 s.data.toList.length;by_cases h0:s.data.toList.length=0
 · have e:rn ⟨133,0,1⟩ [.str s,.int 1]=some (0,[.str s]):=by
    rw [e133_0_1];rw [H8 (show ¬(1:Int)<(s.size:Int) by rw [hz]; omega)]; rfl
   simp only [e,nv0,nvS,dvI,dvB,dvS,dvL,B4,F7,H1,H2,rIn,hz,hlen,hlen8];have:s.data.toList=[]:=List.length_eq_zero_iff.1 h0;rw [this]; rfl
 · have h1:=hl (s.data.toList.length-1) 1 (by omega)
   rw [show ((1:Nat):Int)=1 from rfl] at h1
   rw [h1];cases (s.data.toList.drop 1).all lowB with
   | true=>simp only [nv0,nvS,dvI,dvB,dvS,dvL,B4,F7,H1,H2,rIn,hz,hlen,hlen8,J8]
   | false=>rfl
theorem r106 (s:ByteArray) (hs:s.size<=maxLen):rn ⟨106,0,0⟩ [.str s]=some (0,[.bool (isNm s)]):=by
 have hr:=r133 s hs;have hz:=size_list s;rw [e106_0_0];have he:decide (s=(⟨#[]⟩:ByteArray))=decide (s.data.toList=[]):=decide_eq_decide.2 (nil_list s);have hg:∀ h:0<s.data.toList.length,s.get! 0=s.data.toList[0]:=fun h=>get_list h
 rw [he,hz];unfold isNm;generalize s.data.toList=l at hr hz hg ⊢;cases l with
 | nil=>rfl
 | cons b r =>
  have e0:=hg (by simp)
  have hi0:inb 0 (r.length+1)=true:=by simp [inb]
  simp only [show B7 0=0 from rfl,e0,R8,C5,hi0,H1,H8 (List.cons_ne_nil b r),N5,r132,nv0,nvS,dvI,dvB,dvS,dvL,B4,hr,nameK,P1,F5,C5]
  have:decide (1<=r.length+1)=true:=by simp
  rw [this];cases decide (97<=b.toNat) <;> cases decide (b.toNat<=122) <;> cases r.all lowB <;> cases decide (r.length+1<=8) <;> rfl
theorem r149 (s:ByteArray) (hs:s.size<=maxLen):rn ⟨149,0,0⟩ [.str s]=some (0,[.bool (isVr s)]):=by
 have hr:=r133 s hs;have hz:=size_list s;rw [e149_0_0];have he:decide (s=(⟨#[]⟩:ByteArray))=decide (s.data.toList=[]):=decide_eq_decide.2 (nil_list s);have hg:∀ h:0<s.data.toList.length,s.get! 0=s.data.toList[0]:=fun h=>get_list h
 rw [he,hz];unfold isVr;generalize s.data.toList=l at hr hz hg ⊢;cases l with
 | nil=>rfl
 | cons b r =>
  have e0:=hg (by simp)
  have hi0:inb 0 (r.length+1)=true:=by simp [inb]
  simp only [show B7 0=0 from rfl,e0,R8,C5,hi0,H1,H8 (List.cons_ne_nil b r),N5,nv0,nvS,dvI,dvB,dvS,dvL,B4,hr,nameK,P1,F5,C5]
  have:decide (1<=r.length+1)=true:=by simp
  rw [this,show decide ((65:Int)<=(b.toNat:Int))=decide (65<=b.toNat) from qle b.toNat 65,show decide ((b.toNat:Int)<=90)=decide (b.toNat<=90) from qle 90 b.toNat]
  cases decide (65<=b.toNat) <;> cases decide (b.toNat<=90) <;> cases r.all lowB <;> cases decide (r.length+1<=8) <;> rfl
theorem r129 (a b:Nat):rn ⟨129,0,0⟩ [.int (a:Int),.int (b:Int)]=some (0,[.int ((max a b:Nat):Int)]):=by
 rw [e129_0_0];by_cases h:(b:Int)<(a:Int)
 · rw [H7 h,H1,show max a b=a by omega]
 · rw [H8 h,H2,show max a b=b by omega]
theorem r135:∀ t:Tm,t.nodes<=2097152->rn ⟨135,0,0⟩ [.int t.k,.int t.n,.str t.s,.sl (t.as.map Tm.row)]=some (0,[.int (t.depth:Int)]):=Tm.ind fun t ih h=>by
 have hnd:=Tm.nodes_eq t;have hls:=len_sum (xs:=t.as);have hdn:=Tm.depth_nodes t;have hde:=Tm.depth_eq t;have hl:∀ n i (c:Nat),i+n=t.as.length->rn ⟨135,0,1⟩ [.int (c:Int),.int (i:Int),.int t.k,.int t.n,.str t.s,.sl (t.as.map Tm.row)]=some (0,[.int ((max c (Tm.depthL (t.as.drop i)):Nat):Int)]):=by
  intro n;induction n with
  | zero =>
   intro i c hi;obtain rfl:i=t.as.length:=by omega
   rw [e135_0_1];simp only [B8,D0,E9,H4,H2,D6,Tm.depthL,Nat.max_zero]
  | succ n ih2 =>
   intro i c hi;have hlt:i<t.as.length:=by omega
   rw [C3 hlt];have hm:=mem_sum (f:=Tm.nodes) (C7 hlt);have h1:=ih _ (C7 hlt) (by omega)
   rw [e135_0_1];simp only [B8,D0,hlt,H3,H1,inbN,C1,rowAt_map hlt,wrap_succ hlt (maxB (by omega)),Tm.row_eq,nv0,nvS,dvI,dvB,dvS,dvL,B4,h1,r129]
   have h2:=ih2 (i+1) (max c t.as[i].depth) (by omega)
   rw [h2];simp only [Tm.depthL,Nat.max_assoc]
 rw [e135_0_0];have:=hl t.as.length 0 0 (by omega)
 rw [F5,Nat.zero_max] at this;simp only [D1] at this ⊢;simp only [this,nv0,nvS,dvI,dvB,dvS,dvL,B4,F7,H1,H2];rw [IntWalk.i64_in _ (by omega),hde]; rfl
def leftI (n left:Nat):Int:=if n<=left then ((left-n:Nat):Int) else -1
theorem leftI_add {a b c:Nat} (h:a<=c):leftI b (c-a)=leftI (a+b) c:=by
 unfold leftI;by_cases hb:b<=c-a
 · rw [H5 hb,H5 (by omega),Nat.sub_sub]
 · rw [H6 hb,H6 (by omega)]
theorem r134:∀ t:Tm,∀ left:Nat,t.nodes<=2097152->left<=1048576->rn ⟨134,0,0⟩ [.int t.k,.int t.n,.str t.s,.sl (t.as.map Tm.row),.int (left:Int)]=some (0,[.int (leftI t.nodes left)]):=Tm.ind fun t ih left h hle=>by
 have hnd:=Tm.nodes_eq t;have hls:=len_sum (xs:=t.as);have hl:∀ n i (c:Nat),i+n=t.as.length->c<=1048576->rn ⟨134,0,1⟩ [.int (c:Int),.int (i:Int),.int t.k,.int t.n,.str t.s,.sl (t.as.map Tm.row)]=some (0,[.int (leftI ((t.as.drop i).map Tm.nodes).sum c)]):=by
  intro n;induction n with
  | zero =>
   intro i c hi hc;obtain rfl:i=t.as.length:=by omega
   rw [e134_0_1];simp only [B8,D0,E9,H4,H2,D6,E5,List.sum_nil,leftI,K3,if_true,Nat.sub_zero]
  | succ n ih2 =>
   intro i c hi hc;have hlt:i<t.as.length:=by omega
   rw [C3 hlt];rw [e134_0_1];have h1:=ih _ (C7 hlt) c (by have:=mem_sum (f:=Tm.nodes) (C7 hlt); omega) hc
   have hc0:(0:Int)<=(c:Int):=by omega
   simp only [B8,D0,hlt,H3,H1,inbN,C1,rowAt_map hlt,wrap_succ hlt (maxB (by omega)),Tm.row_eq,nv0,nvS,dvI,dvB,dvS,dvL,B4,h1,hc0]
   simp only [C2,J9];by_cases hq:t.as[i].nodes<=c
   · have e:leftI t.as[i].nodes c=((c-t.as[i].nodes:Nat):Int):=H5 hq
     rw [e,ih2 (i+1) _ (by omega) (by omega),leftI_add hq]
   · have e:leftI t.as[i].nodes c=-1:=H6 hq
     have e2:leftI (t.as[i].nodes+((t.as.drop (i+1)).map Tm.nodes).sum) c=-1:=H6 (by omega)
     rw [e,e2,e134_0_1];have hneg:¬(0:Int)<=-1:=by decide
     simp only [hneg,H4,H2];cases decide (((i+1:Nat):Int)<((t.as.map Tm.row).length:Int)) <;> rfl
 rw [e134_0_0,IntWalk.i64_in _ (by omega)]
 by_cases hz:left=0
 · subst hz
   have e:leftI t.nodes 0=-1:=H6 (by omega)
   have hneg:¬(0:Int)<=-1:=by decide
   have e2:rn ⟨134,0,1⟩ [.int (((0:Nat):Int)-1),.int 0,.int t.k,.int t.n,.str t.s,.sl (t.as.map Tm.row)]=some (0,[.int (-1)]):=by
    rw [e134_0_1];simp only [show (((0:Nat):Int)-1)=-1 from rfl,hneg,H4,H2]
    cases decide ((0:Int)<((t.as.map Tm.row).length:Int)) <;> rfl
   rw [e2,e]; rfl
 · have:=hl t.as.length 0 (left-1) (by omega) (by omega)
   rw [F5] at this;rw [show (left:Int)-1=((left-1:Nat):Int) by omega]
   simp only [D1] at this;simp only [this,nv0,nvS,dvI,dvB,dvS,dvL,B4,F7,H1,H2];rw [leftI_add (by omega),hnd]
end Go.Q.S
end
section
namespace Go.Q.S
open Go Go.Q Go.Proofs
theorem r155 (t:Tm) (h:Wt t):rn ⟨155,0,0⟩ [.int t.k,.int t.n,.str t.s,.sl (t.as.map Tm.row)]=some (0,[.bool t.nodeN]):=by
 rw [e155_0_0];have hz:decide ((t.as.length:Int)=0)=decide (t.as.length=0):=by simp
 simp only [B8,r149 t.s h.s,r106 t.s h.s,nv0,nvS,dvI,dvB,dvS,dvL,B4,rIn,hz];unfold Tm.nodeN;by_cases h1:t.k=1
 · rw [H7 h1,H5 h1]
   cases decide (t.n=0) <;> cases isVr t.s <;> cases decide (t.as.length=0) <;> rfl
 · rw [H8 h1,H6 h1]
   by_cases h2:t.k=2
   · rw [H7 h2,H6 (by omega),H5 h2]
     cases decide (t.n=0) <;> cases isNm t.s <;> rfl
   · rw [H8 h2]
     by_cases h3:t.k=3
     · rw [H7 h3,H5 h3]
       unfold isW;have e2:decide (t.n<=3)=decide (t.n<4):=decide_eq_decide.2 (by omega)
       rw [H7 h3,e2];cases decide (t.s=(⟨#[]⟩:ByteArray)) <;> cases decide (0<=t.n) <;> cases decide (t.n<4) <;> cases decide (t.as.length=0) <;> rfl
     · rw [H8 h3,H6 h3,H6 h2]; rfl
theorem r136:∀ t:Tm,Wt t->rn ⟨136,0,0⟩ [.int t.k,.int t.n,.str t.s,.sl (t.as.map Tm.row)]=some (0,[.bool t.areN]):=Tm.ind fun t ih h=>by
 have hlm:=h.l;have hl:∀ n i,i+n=t.as.length->rn ⟨136,0,1⟩ [.int (i:Int),.int t.k,.int t.n,.str t.s,.sl (t.as.map Tm.row)]=bif Tm.areNL (t.as.drop i) then some (0,[.int t.k,.int t.n,.str t.s,.sl (t.as.map Tm.row)]) else some (1,[]):=by
  intro n;induction n with
  | zero =>
   intro i hi;obtain rfl:i=t.as.length:=by omega
   rw [e136_0_1];simp only [B8,D0,E9,H4,H2,D6,Tm.areNL,H1]
  | succ n ih2 =>
   intro i hi;have hlt:i<t.as.length:=by omega
   rw [e136_0_1,C3 hlt];have h1:=ih _ (C7 hlt) (h.sub (C7 hlt));simp only [B8,D0,hlt,H3,H1,inbN,C1,rowAt_map hlt,wrap_succ hlt hlm,Tm.row_eq,nv0,nvS,dvI,dvB,dvS,dvL,B4,h1,ih2 (i+1) (by omega),Tm.areNL]
   cases t.as[i].areN <;> simp
 have h0:=hl t.as.length 0 (by omega)
 rw [F5] at h0;rw [e136_0_0,Tm.areN_eq];simp only [D1] at h0 ⊢;rw [h0];cases Tm.areNL t.as with
 | true=>simp only [H1,nv0,nvS,dvI,dvB,dvS,dvL,B4,F7,H1,H2,r155 t h,O1]
 | false=>rw [Bool.and_false]; rfl
theorem r107 (t:Tm) (hn:t.nodes<=2097152) (h:Wt t):rn ⟨107,0,0⟩ [.int t.k,.int t.n,.str t.s,.sl (t.as.map Tm.row)]=some (0,[.bool t.valid]):=by
 rw [e107_0_0];have h1:=r134 t 60 hn (by omega)
 rw [show ((60:Nat):Int)=60 from rfl] at h1
 simp only [h1,r135 t hn,r136 t h,nv0,nvS,dvI,dvB,dvS,dvL,B4];have i0:((0:Int)<=leftI t.nodes 60)↔t.nodes<=60:=by
  unfold leftI;split <;> omega
 unfold Tm.valid;have i2:((t.depth:Int)<=16)↔t.depth<=16:=by omega
 by_cases h1:t.nodes<=60 <;> by_cases h2:t.depth<=16 <;> simp [h1,h2,i0,i2]
def ixS (s:ByteArray):List ByteArray->Nat->Int
 | [],_=>-1
 | x::r,i=>if x=s then (i:Int) else ixS s r (i+1)
theorem ixS_neg (s:ByteArray):∀ (l:List ByteArray) (i:Nat),ixS s l i<0↔s∉l
 | [],i=>by simp [ixS]
 | x::r,i=>by
  unfold ixS;by_cases h:x=s
  · rw [H5 h]; simp [h]
  · rw [H6 h,ixS_neg s r]; simp [Ne.symm h]
theorem r139 (l:List ByteArray) (hl:l.length<=maxLen) (s:ByteArray):rn ⟨139,0,0⟩ [.sl (l.map sRow),.str s]=some (0,[.int (ixS s l 0)]):=by
 have hlp:∀ n i,i+n=l.length->(ixS s (l.drop i) i=-1/\rn ⟨139,0,1⟩ [.sl (l.map sRow),.str s,.int (i:Int)]=some (0,[]))\/rn ⟨139,0,1⟩ [.sl (l.map sRow),.str s,.int (i:Int)]=some (1,[.int (ixS s (l.drop i) i)]):=by
  intro n;induction n with
  | zero =>
   intro i hi;obtain rfl:i=l.length:=by omega
   rw [e139_0_1];simp only [B8,D0,E9,H4,H2,D6,ixS];exact .inl ⟨trivial,trivial⟩
  | succ n ih =>
   intro i hi;have hlt:i<l.length:=by omega
   rw [e139_0_1,C3 hlt];simp only [B8,D0,hlt,H3,H1,inbN,C1,rowAt_map hlt,wrap_succ hlt hl,sRow,nv0,nvS,dvI,dvB,dvS,dvL,B4,ixS];by_cases h:l[i]=s
   · simp only [H7 h,H1,H5 h]; exact .inr trivial
   · simp only [H8 h,H2,H6 h]; exact ih (i+1) (by omega)
 have h:=hlp l.length 0 (by omega)
 rw [F5] at h;simp only [D1] at h;rw [e139_0_0];rcases h with ⟨h1,h2⟩ | h2
 · rw [h2,h1]; rfl
 · rw [h2]; rfl
theorem r116 (l:List ByteArray) (hl:l.length<=maxLen):rn ⟨116,0,0⟩ [.sl (l.map sRow)]=some (0,[.bool (dis l)]):=by
 have key:∀ n i,i+n=l.length->rn ⟨116,0,1⟩ [.sl (l.map sRow),.int (i:Int)]=bif (Q8 i n).all (fun j=>decide (ixS (l.getD j e0) l 0=(j:Int))) then some (0,[]) else some (1,[]):=by
  intro n;induction n with
  | zero =>
   intro i hi;obtain rfl:i=l.length:=by omega
   rw [e116_0_1];simp only [B8,D0,E9,H4,H2,D6]; rfl
  | succ n ih =>
   intro i hi;have hlt:i<l.length:=by omega
   rw [e116_0_1,List.range'_succ];have hg:l.getD i e0=l[i]:=by simp [N3,hlt]
   simp only [B8,D0,hlt,H3,H1,inbN,C1,rowAt_map hlt,wrap_succ hlt hl,sRow,nv0,nvS,dvI,dvB,dvS,dvL,B4,r139 l hl,ih (i+1) (by omega),K2,hg]
   by_cases hq:ixS l[i] l 0=(i:Int)
   · simp [hq]
   · simp [hq]
 have h:=key l.length 0 (by omega)
 rw [e116_0_0];simp only [D1] at h;rw [h];have hfi:∀ (m:List ByteArray) (i k:Nat) (hk:k<m.length),ixS m[k] m i=((i+k:Nat):Int)↔∀ j (hj:j<k),m[j]≠m[k]:=by
  intro m;induction m with
  | nil=>intro i k hk; simp at hk
  | cons x m ih =>
   intro i k hk;cases k with
   | zero=>simp [ixS]
   | succ k =>
    have hk':k<m.length:=by simpa using hk
    simp only [List.getElem_cons_succ,ixS];by_cases hx:x=m[k]
    · rw [H5 hx]
      constructor
      · intro h; omega
      · intro h; exact absurd hx (h 0 (by omega))
    · rw [H6 hx]
      have:=ih (i+1) k hk';rw [show i+1+k=i+(k+1) by omega] at this
      rw [this];constructor
      · intro h j hj
        cases j with
        | zero=>exact hx
        | succ j=>exact h j (by omega)
      · intro h j hj; exact h (j+1) (by omega)
 have e:(Q8 0 l.length).all (fun j=>decide (ixS (l.getD j e0) l 0=(j:Int)))=dis l:=by
  unfold dis;rw [Bool.eq_iff_iff,List.all_eq_true,decide_eq_true_eq];constructor
  · intro h
    refine List.pairwise_iff_getElem.2 fun i j _ hj hij=>?_
    have h1:=h j (by simp [List.mem_range']; omega)
    simp only [decide_eq_true_eq] at h1;have hg:l.getD j e0=l[j]:=by simp [N3,hj]
    rw [hg] at h1;exact (hfi l 0 j hj).1 (by simpa using h1) i hij
  · intro h j hj
    have hj':j<l.length:=by simp [List.mem_range'] at hj; omega
    have hg:l.getD j e0=l[j]:=by simp [N3,hj']
    simp only [decide_eq_true_eq,hg];have:=(hfi l 0 j hj').2 fun i hi=>List.pairwise_iff_getElem.1 h i j (by omega) hj' hi
    simpa using this
 rw [e];cases dis l <;> rfl
theorem ixS_has (l:List ByteArray) (s:ByteArray):decide ((0:Int)<=ixS s l 0)=hasS l s:=by
 rw [Bool.eq_iff_iff,decide_eq_true_eq,hasS_iff];have:=ixS_neg s l 0;constructor
 · intro h; exact Classical.byContradiction fun hn=>by have:=this.2 hn; omega
 · intro h; exact Classical.byContradiction fun hn=>absurd h (this.1 (by omega))
theorem ixS_no (l:List ByteArray) (s:ByteArray):decide (ixS s l 0<0)=!hasS l s:=by
 rw [<- ixS_has];by_cases h:ixS s l 0<0
 · rw [H7 h,H8 (by omega)]; rfl
 · rw [H8 h,H7 (by omega)]; rfl
theorem r112 (l r:List ByteArray) (hl:l.length<=2097152) (hr:r.length<=maxLen):rn ⟨112,0,0⟩ [.sl (l.map sRow),.sl (r.map sRow)]=some (0,[.sl ((wo l r).map sRow)]):=by
 have key:∀ n i (acc:List ByteArray),i+n=l.length->acc.length<=i->rn ⟨112,0,1⟩ [.sl (l.map sRow),.sl (r.map sRow),.int (i:Int),.sl (acc.map sRow)]=some (0,[.sl ((acc++wo (l.drop i) r).map sRow)]):=by
  intro n;induction n with
  | zero =>
   intro i acc hi ha;obtain rfl:i=l.length:=by omega
   rw [e112_0_1];simp only [B8,D0,E9,H4,H2,D6,wo,List.filter_nil,K1]
  | succ n ih =>
   intro i acc hi ha;have hlt:i<l.length:=by omega
   rw [e112_0_1,C3 hlt];simp only [B8,D0,hlt,H3,H1,inbN,C1,rowAt_map hlt,wrap_succ hlt (maxB (by omega)),sRow,nv0,nvS,dvI,dvB,dvS,dvL,B4,r139 r hr,C5,D4]
   rw [ixS_no];unfold wo;rw [List.filter_cons];cases hh:hasS r l[i] with
   | true=>simp only [F4,H2,Bool.false_eq_true,if_false]; exact ih (i+1) acc (by omega) (by omega)
   | false =>
    simp only [N5,H1,if_true];rw [nb (by omega)]
    have:=ih (i+1) (acc++[l[i]]) (by omega) (by simp; omega)
    rw [E8] at this;simp only [H1];simpa [wo,sRow] using this
 have h:=key l.length 0 [] (by omega) (K3 _)
 rw [e112_0_0];simp only [D1,E5,F5,G6] at h ⊢;simp only [h,nv0,nvS,dvI,dvB,dvS,dvL,B4,F7,H1,H2]
end Go.Q.S
end
section
namespace Go.Q.S
open Go Go.Q Go.Proofs
theorem r109 (so:Rows) (ops:List OpM) (ho:SigB ops) (s:ByteArray):rn ⟨109,0,0⟩ [.sl so,.sl (ops.map OpM.row),.str s]=some (0,foRes (findO ops s)):=by
 have hm:=ho.l;have hl:∀ n i,i+n=ops.length->rn ⟨109,0,1⟩ [.str s,.int (i:Int),.sl so,.sl (ops.map OpM.row),.str e0,.str e0,.sl []]=match (ops.drop i).find? (fun o=>decide (o.n=s)) with | some o=>some (1,[.str o.n,.str o.r,.sl (o.a.map sRow)]) | none=>some (0,[.str e0,.str e0,.sl []]):=by
  intro n;induction n with
  | zero =>
   intro i hi;obtain rfl:i=ops.length:=by omega
   rw [e109_0_1];simp only [B8,D0,E9,H4,H2,D6,List.find?_nil]
  | succ n ih =>
   intro i hi;have hlt:i<ops.length:=by omega
   rw [e109_0_1,C3 hlt];have h1:ops[i].a.length<=1048576:=ho.a _ (C7 hlt);have h2:E1 (0+ops[i].a.length) M63=true:=nb (by omega)
   simp only [B8,D0,hlt,H3,H1,inbN,C1,rowAt_map hlt,wrap_succ hlt (maxB (by omega)),OpM.row,nv0,nvS,dvI,dvB,dvS,dvL,B4,Q4,ih (i+1) (by omega),D4,h2,G6]
   by_cases hq:ops[i].n=s <;> simp [hq]
 have h:=hl ops.length 0 (by omega)
 rw [F5] at h;simp only [D1] at h;rw [e109_0_0];simp only [B8,r87,nv0,nvS,dvI,dvB,dvS,dvL,B4,h];unfold findO;cases isB s with
 | true=>rfl
 | false =>
  cases ops.find? (fun o=>decide (o.n=s)) <;> rfl
theorem r138 (vs:List VS) (hv:vs.length<=1099511627776) (s:ByteArray):rn ⟨138,0,0⟩ [.sl (vs.map VS.row),.str s]=some (0,[.str (lookV vs s)]):=by
 have hvl:∀ n i,i+n=vs.length->rn ⟨138,0,1⟩ [.sl (vs.map VS.row),.str s,.int (i:Int)]=match (vs.drop i).find? (fun v=>decide (v.1=s)) with | some v=>some (1,[.str v.2]) | none=>some (0,[]):=by
  intro n;induction n with
  | zero =>
   intro i hi;obtain rfl:i=vs.length:=by omega
   rw [e138_0_1];simp only [B8,D0,E9,H4,H2,D6,List.find?_nil]
  | succ n ih2 =>
   intro i hi;have hlt:i<vs.length:=by omega
   rw [e138_0_1,C3 hlt];simp only [B8,D0,hlt,H3,H1,inbN,C1,rowAt_map hlt,wrap_succ hlt (maxB hv),VS.row,nv0,nvS,dvI,dvB,dvS,dvL,B4,Q4,ih2 (i+1) (by omega)]
   by_cases hq:vs[i].1=s <;> simp [hq]
 have hv0:=hvl vs.length 0 (by omega)
 simp only [F5,D1] at hv0;rw [e138_0_0];rw [hv0];unfold lookV;cases vs.find? (fun v=>decide (v.1=s)) <;> rfl
theorem r111 (so:Rows) (ops:List OpM) (ho:SigB ops) (vs:List VS) (hv:vs.length<=1099511627776):∀ t:Tm,Wt t->rn ⟨111,0,0⟩ [.sl so,.sl (ops.map OpM.row),.int t.k,.int t.n,.str t.s,.sl (t.as.map Tm.row),.sl (vs.map VS.row)]=some (0,[.str (sortT ops vs t)]):=Tm.ind fun t ih h=>by
 have hlm:=h.l;have hal:∀ o:OpM,o.a.length=t.as.length->∀ n i,i+n=t.as.length->rn ⟨111,0,2⟩ [.sl (vs.map VS.row),.int (i:Int),.sl so,.sl (ops.map OpM.row),.int t.k,.int t.n,.str t.s,.sl (t.as.map Tm.row),.str o.n,.str o.r,.sl (o.a.map sRow)]=bif sortsT ops vs (t.as.drop i) (o.a.drop i) then some (0,[.str o.n,.str o.r,.sl (o.a.map sRow)]) else some (1,[.str e0]):=by
  intro o hlen n;induction n with
  | zero =>
   intro i hi;obtain rfl:i=t.as.length:=by omega
   rw [e111_0_2];simp only [B8,D0,E9,H4,H2,D6,sortsT,H1]
  | succ n ih2 =>
   intro i hi;have hlt:i<t.as.length:=by omega
   have hlo:i<o.a.length:=by omega
   have h1:=ih _ (C7 hlt) (h.sub (C7 hlt));rw [e111_0_2,C3 hlt,C3 hlo];simp only [B8,D0,hlt,H3,H1,inbN,C1,rowAt_map hlt,wrap_succ hlt hlm,hlo,rowAt_map hlo,Tm.row_eq,sRow,nv0,nvS,dvI,dvB,dvS,dvL,B4,ih2 (i+1) (by omega),h1,sortsT]
   by_cases hq2:sortT ops vs t.as[i]=o.a[i]
   · by_cases hq:o.a[i]=e0
     · simp [hq2,hq]
     · simp [hq2,hq]
   · simp [hq2]
 have ha0:=fun o ho=>hal o ho t.as.length 0 (by omega)
 simp only [F5,D1] at ha0;rw [e111_0_0,sortT_eq];by_cases h3:t.k=3
 · simp [h3]
 · by_cases h1:t.k=1
   · rw [H6 h3,H5 h1]
     simp only [h1,H3,H1,r138 vs hv,nv0,nvS,dvI,dvB,dvS,dvL,B4];rfl
   · rw [H6 h3,H6 h1]
     by_cases h2:t.k=2
     · rw [H5 h2]
       simp only [h2,H3,H1,if_true,r109 so ops ho,nv0,nvS,dvI,dvB,dvS,dvL,B4];cases hf:findO ops t.s with
       | none=>rfl
       | some o =>
        by_cases hlen:o.a.length=t.as.length
        · have:=ha0 o hlen
          rw [h2] at this;simp only [foRes,nv0,nvS,dvI,dvB,dvS,dvL,B4,B8,hlen,H3,this];cases sortsT ops vs t.as o.a <;> rfl
        · simp only [foRes,nv0,nvS,dvI,dvB,dvS,dvL,B4,B8]
          have:¬((o.a.length:Int)=(t.as.length:Int)):=by omega
          simp [this,hlen]
     · simp [h1,h2,h3]
end Go.Q.S
end
section
namespace Go.Q.S
open Go Go.Q Go.Proofs
theorem inferS (so:Rows) (ops:List OpM) (ho:SigB ops):∀ t:Tm,∀ (x:ByteArray) (vs:List VS),Wt t->vs.length+t.nodes<=4194304->rn ⟨137,1,0⟩ [.sl so,.sl (ops.map OpM.row),.int t.k,.int t.n,.str t.s,.sl (t.as.map Tm.row),.str x,.sl (vs.map VS.row)]=some (0,infR ops t x vs):=Tm.ind fun t ih x vs h hb=>by
 have hlm:=h.l;have hnd:=Tm.nodes_eq t;have hvl:∀ n i,i+n=vs.length->rn ⟨137,1,1⟩ [.str x,.int (i:Int),.sl (vs.map VS.row),.int t.k,.int t.n,.str t.s,.sl (t.as.map Tm.row)]=match (vs.drop i).find? (fun v=>decide (v.1=t.s)) with | some v=>some (1,[.bool (decide (v.2=x)),.sl (vs.map VS.row)]) | none=>some (0,[.str x,.sl (vs.map VS.row),.int t.k,.int t.n,.str t.s,.sl (t.as.map Tm.row)]):=by
  intro n;induction n with
  | zero =>
   intro i hi;obtain rfl:i=vs.length:=by omega
   rw [e137_1_1];simp only [B8,D0,E9,H4,H2,D6,List.find?_nil]
  | succ n ih2 =>
   intro i hi;have hlt:i<vs.length:=by omega
   rw [e137_1_1,C3 hlt];simp only [B8,D0,hlt,H3,H1,inbN,C1,rowAt_map hlt,wrap_succ hlt (maxB (by omega)),VS.row,nv0,nvS,dvI,dvB,dvS,dvL,B4,Q4,ih2 (i+1) (by omega)]
   by_cases hq:vs[i].1=t.s <;> simp [hq]
 have hal:∀ (n1 n2:ByteArray) (a:List ByteArray),a.length<=1048576->∀ n i (vs:List VS),i+n=t.as.length->vs.length+((t.as.drop i).map Tm.nodes).sum<=4194304->rn ⟨137,1,3⟩ [.int (i:Int),.sl (vs.map VS.row),.sl so,.sl (ops.map OpM.row),.int t.k,.int t.n,.str t.s,.sl (t.as.map Tm.row),.str n1,.str n2,.sl (a.map sRow)]=match infL ops (t.as.drop i) (a.drop i) vs with | some v=>some (0,[.sl (v.map VS.row)]) | none=>some (1,[.sl []]):=by
  intro n1 n2 a hal n;induction n with
  | zero =>
   intro i vs hi hb;obtain rfl:i=t.as.length:=by omega
   rw [e137_1_3];simp only [B8,D0,E9,H4,H2,D6,infL]
  | succ n ih2 =>
   intro i vs hi hb;have hlt:i<t.as.length:=by omega
   have hmem:=C7 hlt;rw [C3 hlt] at hb ⊢;simp only [C2,J9] at hb;rw [e137_1_3];by_cases hla:i<a.length
   · have h1:=ih _ hmem a[i] vs (h.sub hmem) (by omega)
     rw [C3 hla];simp only [B8,D0,hlt,H3,H1,inbN,C1,rowAt_map hlt,wrap_succ hlt hlm,hla,rowAt_map hla,Tm.row_eq,sRow,nv0,nvS,dvI,dvB,dvS,dvL,B4,h1,infL,infR];cases hq:infT ops t.as[i] a[i] vs with
     | none=>rfl
     | some v =>
      have hv:=infT_len ops _ _ _ _ hq;have h2:=ih2 (i+1) v (by omega) (by omega)
      simp only [nv0,nvS,dvI,dvB,dvS,dvL,B4,h2,F4,H2]
   · have h1:=ih _ hmem e0 vs (h.sub hmem) (by omega)
     rw [show a.drop i=[] from O3 (by omega)]
     simp only [B8,D0,hlt,H3,H1,inbN,C1,rowAt_map hlt,wrap_succ hlt hlm,hla,H4,H2,Tm.row_eq,sRow,nv0,nvS,dvI,dvB,dvS,dvL,B4,h1,infL,infR];cases hq:infT ops t.as[i] e0 vs with
     | none=>rfl
     | some v =>
      have hv:=infT_len ops _ _ _ _ hq;have h2:=ih2 (i+1) v (by omega) (by omega)
      rw [show a.drop (i+1)=[] from O3 (by omega)] at h2
      simp only [nv0,nvS,dvI,dvB,dvS,dvL,B4,h2,F4,H2]
 have hv0:=hvl vs.length 0 (by omega)
 have ha0:=fun n1 n2 a ha=>hal n1 n2 a ha t.as.length 0 vs (by omega) (by rw [F5]; omega)
 simp only [F5,D1] at hv0 ha0;rw [e137_1_0];unfold infR;rw [infT_eq];by_cases h1:t.k=1
 · rw [H5 h1,H5 h1]
   simp only [h1] at hv0;have hb2:E1 (vs.length+1) M63=true:=nb (by omega)
   simp only [B8,h1,H3,H1,hv0];cases hq:vs.find? (fun v=>decide (v.1=t.s)) with
   | none=>simp only [nv0,nvS,dvI,dvB,dvS,dvL,B4,F7,H1,H2,B8,C5,D4,E7,hb2,E8]; rfl
   | some v =>
    simp only [nv0,nvS,dvI,dvB,dvS,dvL,B4,F7,H1,H2,show Nat.beq 1 0=false from rfl]
    by_cases hq2:v.2=x <;> simp [hq2]
 · rw [H6 h1,H6 h1]
   by_cases h2:t.k=2
   · simp only [h2] at ha0
     simp only [B8,h2,H3,H1,if_true,r109 so ops ho,nv0,nvS,dvI,dvB,dvS,dvL,B4];cases hf:findO ops t.s with
     | none =>
      simp only [foRes,nv0,nvS,dvI,dvB,dvS,dvL,B4];rw [show ([]:Rows)=([]:List ByteArray).map sRow from rfl,ha0 e0 e0 [] (by simp)]
      cases infL ops t.as [] vs <;> rfl
     | some o =>
      have hok:o.ok:=findO_ok ho.a hf;simp only [foRes,nv0,nvS,dvI,dvB,dvS,dvL,B4];rw [ha0 o.n o.r o.a hok];cases infL ops t.as o.a vs <;> rfl
   · simp only [B8,h1,h2,H4,H2,if_false]
     rw [show ([]:Rows)=([]:List ByteArray).map sRow from rfl,ha0 e0 e0 [] (by simp)]
     cases infL ops t.as [] vs <;> rfl
theorem r110 (so:Rows) (ops:List OpM) (ho:SigB ops) (t:Tm) (h:Wt t) (hn:t.nodes<=1048577) (x:ByteArray):rn ⟨110,0,0⟩ [.sl so,.sl (ops.map OpM.row),.int t.k,.int t.n,.str t.s,.sl (t.as.map Tm.row),.str x]=some (0,infVR (infV ops t x)):=by
 have h1:=inferS so ops ho t x [] h (by simp; omega)
 rw [E5] at h1;rw [e110_0_0,h1];unfold infR infV;cases hq:infT ops t x [] with
 | none=>rfl
 | some vs =>
  have hv:=infT_len ops _ _ _ _ hq;rw [D4] at hv;have h2:=r111 so ops ho vs (by omega) t h
  simp only [nv0,nvS,dvI,dvB,dvS,dvL,B4,h2];by_cases hx:x=e0
  · simp [hx,infVR]
  · by_cases hs:sortT ops vs t=x <;> simp [hx,hs,infVR]
end Go.Q.S
end
section
namespace Go.Q.S
open Go Go.Q Go.Proofs
def opOK (so:List ByteArray) (o:OpM):Bool:=isNm o.n&&(!isB o.n&&(decide (o.a.length<=3)&&(o.a.all (fun x=>decide (x=wordS)||hasS so x)&&(decide (o.r=wordS)||hasS so o.r))))
theorem sigOK_eq (so:List ByteArray) (ops:List OpM):sigOK so ops=(decide (so.length<=4)&&(dis so&&(decide (ops.length<=16)&&((so.all fun x=>isNm x&&!decide (x=wordS))&&(ops.all (opOK so)&&dis (ops.map (·.n))))))):=rfl
theorem r156 (so:List ByteArray) (hso:so.length<=1048576) (ops:Rows) (x:ByteArray):rn ⟨156,0,0⟩ [.sl (so.map sRow),.sl ops,.str x]=some (0,[.bool (decide (x=wordS)||hasS so x)]):=by
 have h1:=r139 so (maxB (by omega)) x
 rw [e156_0_0];simp only [h1,nv0,nvS,dvI,dvB,dvS,dvL,B4,ixS_has];by_cases hq:x=wordS <;> simp [hq]
theorem r142 (so:List ByteArray) (hso:so.length<=1048576) (ops:Rows) (o:OpM) (hoa:o.a.length<=1048576) (hon:o.n.size<=maxLen):rn ⟨142,0,0⟩ [.sl (so.map sRow),.sl ops,.str o.n,.sl (o.a.map sRow),.str o.r]=some (0,[.bool (opOK so o)]):=by
 have hl:∀ n i,i+n=o.a.length->rn ⟨142,0,1⟩ [.int (i:Int),.sl (so.map sRow),.sl ops,.str o.n,.sl (o.a.map sRow),.str o.r]=bif (o.a.drop i).all (fun x=>decide (x=wordS)||hasS so x) then some (0,[.sl (so.map sRow),.sl ops,.str o.n,.sl (o.a.map sRow),.str o.r]) else some (1,[]):=by
  intro n;induction n with
  | zero =>
   intro i hi;obtain rfl:i=o.a.length:=by omega
   rw [e142_0_1];simp only [B8,D0,E9,H4,H2,D6,Q2,H1]
  | succ n ih =>
   intro i hi;have hlt:i<o.a.length:=by omega
   rw [e142_0_1,C3 hlt];have h1:=r156 so hso ops o.a[i];simp only [B8,D0,hlt,H3,H1,inbN,C1,rowAt_map hlt,wrap_succ hlt (maxB (by omega)),sRow,nv0,nvS,dvI,dvB,dvS,dvL,B4,h1,ih (i+1) (by omega),K2]
   cases (decide (o.a[i]=wordS)||hasS so o.a[i]) <;> rfl
 have h:=hl o.a.length 0 (by omega)
 simp only [F5,D1] at h;have hn:=r106 o.n hon;rw [e142_0_0,h];unfold opOK;cases (o.a.all fun x=>decide (x=wordS)||hasS so x) with
 | false=>cases isNm o.n <;> cases isB o.n <;> cases decide (o.a.length<=3) <;> rfl
 | true =>
  have i3:((o.a.length:Int)<=3)↔o.a.length<=3:=by omega
  simp only [H1,nv0,nvS,dvI,dvB,dvS,dvL,B4,F7,H1,H2,hn,r87,r156 so hso ops,B8,i3,J8];cases isNm o.n <;> cases isB o.n <;> cases decide (o.a.length<=3) <;> rfl
theorem r115 (so:List ByteArray) (hso:so.length<=1048576) (hss:∀ x∈so,x.size<=maxLen) (ops:List OpM) (ho:SigB ops) (hon:∀ o∈ops,o.n.size<=maxLen):rn ⟨115,0,0⟩ [.sl (so.map sRow),.sl (ops.map OpM.row)]=some (0,[.bool (sigOK so ops)]):=by
 have hm:=ho.l;have hl1:∀ n i,i+n=so.length->rn ⟨115,0,1⟩ [.int (i:Int),.sl (so.map sRow),.sl (ops.map OpM.row),.sl []]=bif (so.drop i).all (fun x=>isNm x&&!decide (x=wordS)) then some (0,[.sl (so.map sRow),.sl (ops.map OpM.row),.sl []]) else some (1,[]):=by
  intro n;induction n with
  | zero =>
   intro i hi;obtain rfl:i=so.length:=by omega
   rw [e115_0_1];simp only [B8,D0,E9,H4,H2,D6,Q2,H1]
  | succ n ih =>
   intro i hi;have hlt:i<so.length:=by omega
   rw [e115_0_1,C3 hlt];have h1:=r106 so[i] (hss _ (C7 hlt));simp only [B8,D0,hlt,H3,H1,inbN,C1,rowAt_map hlt,wrap_succ hlt (maxB (by omega)),sRow,nv0,nvS,dvI,dvB,dvS,dvL,B4,h1,ih (i+1) (by omega),K2]
   cases isNm so[i]
   · rfl
   · by_cases hq:so[i]=wordS <;> simp [hq]
 have hl3:∀ n i (acc:List ByteArray),i+n=ops.length->acc.length<=i->rn ⟨115,0,3⟩ [.int (i:Int),.sl (so.map sRow),.sl (ops.map OpM.row),.sl (acc.map sRow)]=bif (ops.drop i).all (opOK so) then some (0,[.sl (so.map sRow),.sl (ops.map OpM.row),.sl ((acc++(ops.drop i).map (·.n)).map sRow)]) else some (1,[]):=by
  intro n;induction n with
  | zero =>
   intro i acc hi ha;obtain rfl:i=ops.length:=by omega
   rw [e115_0_3];simp only [B8,D0,E9,H4,H2,D6,Q2,H1,E5,K1]
  | succ n ih =>
   intro i acc hi ha;have hlt:i<ops.length:=by omega
   have hmem:=C7 hlt;rw [e115_0_3,C3 hlt];have h1:=r142 so hso (ops.map OpM.row) ops[i] (ho.a _ hmem) (hon _ hmem);have hb2:E1 (acc.length+1) M63=true:=nb (by omega)
   have h6:=ih (i+1) (acc++[ops[i].n]) (by omega) (by simp; omega)
   simp only [E8,C2,E5,sRow] at h6;simp only [B8,D0,hlt,H3,H1,inbN,C1,rowAt_map hlt,wrap_succ hlt (maxB (by omega)),OpM.row,nv0,nvS,dvI,dvB,dvS,dvL,B4,h1,C5,D4,E7,hb2,h6,K2]
   cases opOK so ops[i] with
   | false=>rfl
   | true=>simp only [E8,C2,D9,J3,G6,sRow,F4,H2,H1,J8]
 have h1:=hl1 so.length 0 (by omega)
 have h3:=hl3 ops.length 0 [] (by omega) (K3 _)
 simp only [F5,D1,E5,G6] at h1 h3;have hd:=r116 so (maxB (by omega))
 have hd2:=r116 (ops.map (·.n)) (by rw [B8]; exact maxB (by omega))
 rw [e115_0_0,sigOK_eq,h1];have i1:((so.length:Int)<=4)↔so.length<=4:=by omega
 have i2:((ops.length:Int)<=16)↔ops.length<=16:=by omega
 cases so.all (fun x=>isNm x&&!decide (x=wordS)) with
 | false=>cases decide (so.length<=4) <;> cases dis so <;> cases decide (ops.length<=16) <;> rfl
 | true =>
  simp only [H1,nv0,nvS,dvI,dvB,dvS,dvL,B4,F7,H1,H2,h3,J8];cases ops.all (opOK so) with
  | false=>cases decide (so.length<=4) <;> cases dis so <;> cases decide (ops.length<=16) <;> rfl
  | true =>
   simp only [H1,nv0,nvS,dvI,dvB,dvS,dvL,B4,F7,H1,H2,B8,hd,hd2,i1,i2,J8];cases decide (so.length<=4) <;> cases dis so <;> cases decide (ops.length<=16) <;> rfl
end Go.Q.S
end
section
namespace Go.Q.S
open Go Go.Q Go.Proofs
theorem r108:∀ t:Tm,Wt t->rn ⟨108,0,0⟩ [.int t.k,.int t.n,.str t.s,.sl (t.as.map Tm.row)]=some (0,[.bool (!lackB t)]):=Tm.ind fun t ih h=>by
 have hlm:=h.l;have hl:∀ n i,i+n=t.as.length->rn ⟨108,0,1⟩ [.int (i:Int),.int t.k,.int t.n,.str t.s,.sl (t.as.map Tm.row)]=bif lackBL (t.as.drop i) then some (0,[.int t.k,.int t.n,.str t.s,.sl (t.as.map Tm.row)]) else some (1,[]):=by
  intro n;induction n with
  | zero =>
   intro i hi;obtain rfl:i=t.as.length:=by omega
   rw [e108_0_1];simp only [B8,D0,E9,H4,H2,D6,lackBL,H1]
  | succ n ih2 =>
   intro i hi;have hlt:i<t.as.length:=by omega
   rw [e108_0_1,C3 hlt];have h1:=ih _ (C7 hlt) (h.sub (C7 hlt));simp only [B8,D0,hlt,H3,H1,inbN,C1,rowAt_map hlt,wrap_succ hlt hlm,Tm.row_eq,nv0,nvS,dvI,dvB,dvS,dvL,B4,h1,ih2 (i+1) (by omega),lackBL]
   cases lackB t.as[i] <;> simp
 have h0:=hl t.as.length 0 (by omega)
 simp only [F5,D1] at h0;rw [e108_0_0,lackB_eq,h0];cases lackBL t.as with
 | false=>cases (!(decide (t.k=2)&&isB t.s)) <;> rfl
 | true =>
  simp only [H1,nv0,nvS,dvI,dvB,dvS,dvL,B4,F7,H1,H2,r87];by_cases h2:t.k=2 <;> cases isB t.s <;> simp [h2]
theorem r113 (t:Tm) (h:t.nodes<=1048577):rn ⟨113,0,0⟩ [.int t.k,.int t.n,.str t.s,.sl (t.as.map Tm.row)]=some (0,[.sl ((srtN t.names).map sRow)]):=by
 have hn:=names_nodes t;have h1:=r89 t [] h (by simp; omega)
 have h2:=r140 t.names (by omega)
 rw [e113_0_0];rw [G6] at h1;simp only [h1,nv0,nvS,dvI,dvB,dvS,dvL,B4,h2]
theorem r141 (k:Int):∃ s,rn ⟨141,0,0⟩ [.int k]=some (0,[.str s])/\decide (s=e0)=!(decide (1<=k)&&decide (k<=3)):=by
 rw [e141_0_0];simp only [rIn,nv0,nvS,dvI,dvB,dvS,dvL,B4];by_cases h1:1<=k
 · by_cases h2:k<=3
   · obtain h | h | h:k=1\/k=2\/k=3:=by omega
     all_goals subst h; exact ⟨_,rfl,by decide⟩
   · refine ⟨e0,by simp [h1,h2],by simp [h1,h2]⟩
 · refine ⟨e0,by simp [h1],by simp [h1]⟩
theorem r114 (so:Rows) (ops:List OpM) (ho:SigB ops) (vs:List VS) (hv:vs.length<=1099511627776) (g:Gu) (hb:GuB g):rn ⟨114,0,0⟩ [.sl so,.sl (ops.map OpM.row),.int g.k,.int (g.l).k,.int (g.l).n,.str (g.l).s,.sl ((g.l).as.map Tm.row),.int (g.r).k,.int (g.r).n,.str (g.r).s,.sl ((g.r).as.map Tm.row),.sl (vs.map VS.row)]=some (0,[.bool (guOK ops vs g)]):=by
 have h1:=r107 g.l (F8 hb.ln (by decide)) hb.wl
 have h2:=r107 g.r (F8 hb.rn (by decide)) hb.wr
 have h5:=r111 so ops ho vs hv g.l hb.wl;have h6:=r111 so ops ho vs hv g.r hb.wr;obtain ⟨s,h7,h8⟩:=r141 g.k;rw [e114_0_0];simp only [nv0,nvS,dvI,dvB,dvS,dvL,B4,h1,h2,h5,h6,h7,h8];unfold guOK;generalize sortT ops vs g.l=s1;generalize sortT ops vs g.r=s2;cases (decide (1<=g.k)&&decide (g.k<=3)) <;> cases g.l.valid <;> cases g.r.valid <;> try rfl
 by_cases q1:s1=e0
 · simp [q1]
 · by_cases q2:s2=s1
   · by_cases q3:g.k=3 <;> simp [q1,q2,q3]
   · have q2':¬ s1=s2:=fun e=>q2 e.symm
     simp [q1,q2,q2']
theorem r93 (so:Rows) (ops:List OpM) (ho:SigB ops) (r:RuM) (hb:RuB r):rn ⟨93,0,0⟩ [.sl so,.sl (ops.map OpM.row),.str r.n,.int (r.l).k,.int (r.l).n,.str (r.l).s,.sl ((r.l).as.map Tm.row),.int (r.r).k,.int (r.r).n,.str (r.r).s,.sl ((r.r).as.map Tm.row),.sl (r.g.map Gu.row)]=some (0,[.bool (rulOK ops r)]):=by
 have h1:=r106 r.n hb.n;have h2:=r107 r.l (F8 hb.ln (by decide)) hb.wl
 have h3:=r108 r.l hb.wl;have h4:=r107 r.r (F8 hb.rn (by decide)) hb.wr
 have h5:=r109 so ops ho r.l.s;have h7:=r113 r.l hb.ln;have h9:=r113 r.r hb.rn;have hnl:=names_nodes r.l;have hnr:=names_nodes r.r;have hsl:=srtN_len r.l.names;have hsr:=srtN_len r.r.names;have hln:=hb.ln;have hrn:=hb.rn;have hgl:=hb.g;have h10:=r112 (srtN r.r.names) (srtN r.l.names) (by omega) (maxB (by omega))
 have hl:∀ vs:List VS,vs.length<=1099511627776->∀ n i,i+n=r.g.length->rn ⟨93,0,1⟩ [.int (i:Int),.sl so,.sl (ops.map OpM.row),.str r.n,.int (r.l).k,.int (r.l).n,.str (r.l).s,.sl ((r.l).as.map Tm.row),.int (r.r).k,.int (r.r).n,.str (r.r).s,.sl ((r.r).as.map Tm.row),.sl (r.g.map Gu.row),.sl (vs.map VS.row)]=bif (r.g.drop i).all (guOK ops vs) then some (0,[]) else some (1,[]):=by
  intro vs hv n;induction n with
  | zero =>
   intro i hi;obtain rfl:i=r.g.length:=by omega
   rw [e93_0_1];simp only [B8,D0,E9,H4,H2,D6,Q2,H1]
  | succ n ih =>
   intro i hi;have hlt:i<r.g.length:=by omega
   rw [e93_0_1,C3 hlt];have h1:=r114 so ops ho vs hv r.g[i] (hb.ga _ (C7 hlt));simp only [B8,D0,hlt,H3,H1,inbN,C1,rowAt_map hlt,wrap_succ hlt (maxB (by omega)),Gu.row,nv0,nvS,dvI,dvB,dvS,dvL,B4,h1,ih (i+1) (by omega),K2]
   cases guOK ops vs r.g[i] <;> simp
 rw [e93_0_0];simp only [h1,h2,h3,h4,h5,nv0,nvS,dvI,dvB,dvS,dvL,B4,B8];unfold rulOK;cases isNm r.n <;> try rfl
 cases r.l.valid <;> try rfl
 by_cases q:r.l.k=2
 · simp only [q,H3,F4,H2,J8,Bool.not_not]
   cases r.r.valid
   · cases lackB r.l <;> rfl
   · cases lackB r.l <;> try rfl
     simp only [F4,H2,J8];by_cases q5:r.g.length<=2
     · have q5':¬((2:Int)<(r.g.length:Int)):=by omega
       cases hf:findO ops r.l.s with
       | none =>
        have h6:=r110 so ops ho r.l hb.wl hb.ln e0;have:infV ops r.l e0=none:=by unfold infV; cases infT ops r.l e0 [] <;> simp
        rw [this] at h6;simp only [q] at h6;simp only [foRes,nv0,nvS,dvI,dvB,dvS,dvL,B4,h6,q5',H4,H2,infVR,N5,H1]
       | some o =>
        have h6:=r110 so ops ho r.l hb.wl hb.ln o.r;simp only [q] at h6 h7 hl;simp only [foRes,nv0,nvS,dvI,dvB,dvS,dvL,B4,h6,q5',H4,H2];cases hi:infV ops r.l o.r with
        | none=>rfl
        | some vs =>
         have hvl:=infV_len hi;have h8:=r111 so ops ho vs (by omega) r.r hb.wr
         have h11:=hl vs (by omega) r.g.length 0 (by omega)
         simp only [F5,D1] at h11;simp only [infVR,nv0,nvS,dvI,dvB,dvS,dvL,B4,h8,h7,h9,h10,B8,h11,F4,H2];by_cases q2:sortT ops vs r.r=o.r
         · have hw:=wo_srt r.r r.l
           cases hw2:within r.r r.l.names with
           | true =>
            rw [hw2] at hw;have:(wo (srtN r.r.names) (srtN r.l.names)).length=0:=hw.2 rfl;simp only [q2,this,H3,F4,H2,D1,Int.lt_irrefl,H4,gusOK,q5,O1,J8];cases r.g.all (guOK ops vs) <;> rfl
           | false =>
            rw [hw2] at hw;have:¬(wo (srtN r.r.names) (srtN r.l.names)).length=0:=fun h=>by have:=hw.1 h; simp at this
            have:0<(wo (srtN r.r.names) (srtN r.l.names)).length:=by omega
            simp [q2,this]
         · simp [q2]
     · have q5':((2:Int)<(r.g.length:Int)):=by omega
       simp only [q5',H3,H1,gusOK,q5,H4,Bool.and_false];cases findO ops r.l.s with
       | none=>rfl
       | some o =>
        dsimp only;cases infV ops r.l o.r <;> rfl
 · cases r.r.valid <;> simp [q]
end Go.Q.S
end
section
namespace Go.Q.S
open Go Go.Q Go.Proofs
def inSt (l:List StM) (x:StM):Bool:=l.any fun y=>decide (y.o=x.o)&&decide (y.a=x.a)
theorem stOK_eq (ops:List OpM) (s:StM):stOK ops s=match findO ops s.o with
 | none=>false
 | some o=>!isB s.o&&(decide (0<=s.a)&&decide (s.a<o.a.length)):=rfl
theorem strOK_step (ops:List OpM) (l:List StM) {i:Nat} (h:i<l.length):strOK ops (l.take i) (l.drop i)=(stOK ops l[i]&&(!inSt (l.take i) l[i]&&strOK ops (l.take (i+1)) (l.drop (i+1)))):=by
 rw [C3 h];simp only [strOK,inSt];rw [List.take_add_one,F6 h]; rfl
theorem r117 (d:DfM) (hb:DfB d):rn ⟨117,0,0⟩ [.sl (d.so.map sRow),.sl (d.op.map OpM.row),.sl (d.ru.map RuM.row),.sl (d.st.map StM.row)]=some (0,[.bool (strOK d.op [] d.st&&decide (d.st.length<=8))]):=by
 have hsl:=hb.st;have hl3:∀ (x0:Nat),x0<=d.st.length->∀ (x:StM) (x2:ByteArray) (x3:Bool) (x4 x5 x6:Int) (x7 x8:Bool) (x15 x16:ByteArray) (x17:Rows),∀ n j,j+n=x0->rn ⟨117,0,3⟩ [.int (x0:Int),.int (j:Int),.str x2,.bool x3,.int x4,.int x5,.int x6,.bool x7,.bool x8,.sl (d.so.map sRow),.sl (d.op.map OpM.row),.sl (d.ru.map RuM.row),.sl (d.st.map StM.row),.str x.o,.int x.a,.str x15,.str x16,.sl x17]=bif inSt ((d.st.take x0).drop j) x then some (1,[]) else some (0,[.int (x0:Int),.str x2,.bool x3,.int x4,.int x5,.int x6,.bool x7,.bool x8,.sl (d.so.map sRow),.sl (d.op.map OpM.row),.sl (d.ru.map RuM.row),.sl (d.st.map StM.row),.str x.o,.int x.a,.str x15,.str x16,.sl x17]):=by
  intro x0 hx0 x x2 x3 x4 x5 x6 x7 x8 x15 x16 x17 n;induction n with
  | zero =>
   intro j hj;obtain rfl:j=x0:=by omega
   rw [e117_0_3];have:((d.st.take j).drop j)=[]:=O3 (by rw [List.length_take]; omega)
   simp only [this,Int.lt_irrefl,H4,H2,inSt,List.any_nil]
  | succ n ih =>
   intro j hj;have hlt0:j<(d.st.take x0).length:=by rw [List.length_take]; omega
   have hlt:j<d.st.length:=by omega
   have hltx:j<x0:=by omega
   rw [e117_0_3,C3 hlt0,List.getElem_take];simp only [B8,D0,hlt,H3,H1,inbN,C1,rowAt_map hlt,wrap_succ hlt (maxB (by omega)),hltx,StM.row,nv0,nvS,dvI,dvB,dvS,dvL,B4,ih (j+1) (by omega)]
   simp only [inSt,List.any_cons];by_cases h1:d.st[j].o=x.o
   · by_cases h2:d.st[j].a=x.a <;> simp [h1,h2]
   · simp [h1]
 have hl1:∀ n i,i+n=d.st.length->rn ⟨117,0,1⟩ [.int (i:Int),.sl (d.so.map sRow),.sl (d.op.map OpM.row),.sl (d.ru.map RuM.row),.sl (d.st.map StM.row)]=bif strOK d.op (d.st.take i) (d.st.drop i) then some (0,[.sl (d.so.map sRow),.sl (d.op.map OpM.row),.sl (d.ru.map RuM.row),.sl (d.st.map StM.row)]) else some (1,[]):=by
  intro n;induction n with
  | zero =>
   intro i hi;obtain rfl:i=d.st.length:=by omega
   rw [e117_0_1];simp only [B8,D0,E9,H4,H2,D6,strOK,H1]
  | succ n ih =>
   intro i hi;have hlt:i<d.st.length:=by omega
   rw [e117_0_1,strOK_step d.op d.st hlt,stOK_eq];have h1:=r109 (d.so.map sRow) d.op hb.op d.st[i].o;have h3:=fun x2 x3 x4 x5 x6 x7 x8 x15 x16 x17=>hl3 i (by omega) d.st[i] x2 x3 x4 x5 x6 x7 x8 x15 x16 x17 i 0 (by omega)
   simp only [F5,D1] at h3;simp only [B8,D0,hlt,H3,H1,inbN,C1,rowAt_map hlt,wrap_succ hlt (maxB (by omega)),StM.row,nv0,nvS,dvI,dvB,dvS,dvL,B4,h1,r87,rIn]
   cases hf:findO d.op d.st[i].o with
   | none=>rfl
   | some o =>
    have hoa:o.a.length<=1048576:=findO_ok hb.op.a hf;simp only [foRes,nv0,nvS,dvI,dvB,dvS,dvL,B4,B8,F4,H2];rw [IntWalk.i64_in _ (by omega)]
    cases isB d.st[i].o
    · by_cases q1:0<=d.st[i].a
      · by_cases q2:d.st[i].a<o.a.length
        · have q2':d.st[i].a<=(o.a.length:Int)-1:=by omega
          simp only [q1,q2,q2',H3,H1,H2,O1,N5,F4,J8,h3];cases inSt (d.st.take i) d.st[i] with
          | true=>rfl
          | false=>simp only [H2,nv0,nvS,dvI,dvB,dvS,dvL,B4,F7,H1,H2,wrap_succ hlt (maxB (by omega)),ih (i+1) (by omega),N5,J8]
        · have q2':¬ d.st[i].a<=(o.a.length:Int)-1:=by omega
          simp [q1,q2,q2']
      · simp [q1]
    · rfl
 have h1:=hl1 d.st.length 0 (by omega)
 simp only [F5,List.take_zero,D1] at h1;rw [e117_0_0,h1];have i1:((d.st.length:Int)<=8)↔d.st.length<=8:=by omega
 cases strOK d.op [] d.st with
 | false=>rfl
 | true=>simp only [H1,nv0,nvS,dvI,dvB,dvS,dvL,B4,F7,H1,H2,B8,i1,J8]
theorem r94 (d:DfM) (hb:DfB d):rn ⟨94,0,0⟩ [.sl (d.so.map sRow),.sl (d.op.map OpM.row),.sl (d.ru.map RuM.row),.sl (d.st.map StM.row)]=some (0,[.bool d.valid]):=by
 have hrl:=hb.ru;have hl1:∀ n i (acc:List ByteArray),i+n=d.ru.length->acc.length<=i->rn ⟨94,0,1⟩ [.int (i:Int),.sl (d.so.map sRow),.sl (d.op.map OpM.row),.sl (d.ru.map RuM.row),.sl (d.st.map StM.row),.sl (acc.map sRow)]=bif (d.ru.drop i).all (rulOK d.op) then some (0,[.sl (d.so.map sRow),.sl (d.op.map OpM.row),.sl (d.ru.map RuM.row),.sl (d.st.map StM.row),.sl ((acc++(d.ru.drop i).map (·.n)).map sRow)]) else some (1,[]):=by
  intro n;induction n with
  | zero =>
   intro i acc hi ha;obtain rfl:i=d.ru.length:=by omega
   rw [e94_0_1];simp only [B8,D0,E9,H4,H2,D6,Q2,H1,E5,K1]
  | succ n ih =>
   intro i acc hi ha;have hlt:i<d.ru.length:=by omega
   rw [e94_0_1,C3 hlt];have h1:=r93 (d.so.map sRow) d.op hb.op d.ru[i] (hb.rua _ (C7 hlt));have hb2:E1 (acc.length+1) M63=true:=nb (by omega)
   have h6:=ih (i+1) (acc++[d.ru[i].n]) (by omega) (by simp; omega)
   simp only [E8,C2,E5,sRow] at h6;simp only [B8,D0,hlt,H3,H1,inbN,C1,rowAt_map hlt,wrap_succ hlt (maxB (by omega)),RuM.row,nv0,nvS,dvI,dvB,dvS,dvL,B4,h1,C5,D4,E7,hb2,h6,K2]
   cases rulOK d.op d.ru[i] with
   | false=>rfl
   | true=>simp only [E8,C2,D9,J3,G6,sRow,F4,H2,H1,J8]
 have hd:=r116 (d.ru.map (·.n)) (by rw [B8]; exact maxB (by omega))
 have hg:=r115 d.so hb.so hb.sos d.op hb.op hb.opn;have hs:=r117 d hb;have h1:=hl1 d.ru.length 0 [] (by omega) (K3 _)
 simp only [F5,D1,E5,G6] at h1;have i1:((d.ru.length:Int)<=16)↔d.ru.length<=16:=by omega
 rw [e94_0_0,h1];unfold DfM.valid;cases d.ru.all (rulOK d.op) with
 | false=>cases sigOK d.so d.op <;> cases decide (d.ru.length<=16) <;> cases decide (d.st.length<=8) <;> rfl
 | true =>
  simp only [H1,nv0,nvS,dvI,dvB,dvS,dvL,B4,F7,H1,H2,B8,hd,hg,hs,i1,J8];cases sigOK d.so d.op <;> cases decide (d.ru.length<=16) <;> cases decide (d.st.length<=8) <;> cases strOK d.op [] d.st <;> cases dis (d.ru.map (·.n)) <;> rfl
end Go.Q.S
end
section
namespace Go.Q.S
open Go Go.Q Go.Proofs
theorem r127 (a b c:Rows) (st:List StM) (hst:st.length<=1048576) (s:ByteArray):rn ⟨127,0,0⟩ [.sl a,.sl b,.sl c,.sl (st.map StM.row),.str s]=some (0,[.sl ((strA st s).map iRow)]):=by
 have key:∀ n i (acc:List Int),i+n=st.length->acc.length<=i->rn ⟨127,0,1⟩ [.str s,.int (i:Int),.sl a,.sl b,.sl c,.sl (st.map StM.row),.sl (acc.map iRow)]=some (0,[.sl ((acc++strA (st.drop i) s).map iRow)]):=by
  intro n;induction n with
  | zero =>
   intro i acc hi ha;obtain rfl:i=st.length:=by omega
   rw [e127_0_1];simp only [B8,D0,E9,H4,H2,D6,strA,List.filter_nil,E5,K1]
  | succ n ih =>
   intro i acc hi ha;have hlt:i<st.length:=by omega
   rw [e127_0_1,C3 hlt,strA_cons];have hb2:E1 (acc.length+1) M63=true:=nb (by omega)
   have h1:=ih (i+1) (acc++[st[i].a]) (by omega) (by simp; omega)
   have h2:=ih (i+1) acc (by omega) (by omega)
   simp only [E8,C2,E5,iRow] at h1 h2;simp only [B8,D0,hlt,H3,H1,inbN,C1,rowAt_map hlt,wrap_succ hlt (maxB (by omega)),StM.row,nv0,nvS,dvI,dvB,dvS,dvL,B4,C5,D4,E7,hb2,iRow]
   by_cases hq:st[i].o=s
   · simp only [hq,H3,H1,if_true,h1,E8,C2,D9,J3,G6,iRow]
   · simp only [hq,H4,H2,if_false,h2,E8,iRow]
 have h:=key st.length 0 [] (by omega) (K3 _)
 rw [e127_0_0];simp only [D1,E5,F5,G6] at h ⊢;simp only [h,nv0,nvS,dvI,dvB,dvS,dvL,B4,F7,H1,H2]
theorem r151 (t u:Tm) (hn:t.nodes<=1048577) (p:List Int) (hp:p.length<=1048576) (h:atT t p=some u):rn ⟨151,0,0⟩ [.int t.k,.int t.n,.str t.s,.sl (t.as.map Tm.row),.sl (p.map iRow)]=some (0,[.int u.k,.int u.n,.str u.s,.bool true,.sl (u.as.map Tm.row)]):=by
 have key:∀ n i (t:Tm),i+n=p.length->t.nodes<=1048577->atT t (p.drop i)=some u->rn ⟨151,0,1⟩ [.sl (p.map iRow),.int (i:Int),.int t.k,.int t.n,.str t.s,.sl (t.as.map Tm.row),.int 0,.int 0,.str e0,.sl []]=some (0,[.int u.k,.int u.n,.str u.s,.sl (u.as.map Tm.row),.int 0,.int 0,.str e0,.sl []]):=by
  intro n;induction n with
  | zero =>
   intro i t hi _ h;obtain rfl:i=p.length:=by omega
   rw [D6] at h;simp only [atT,C4.injEq] at h;subst h;rw [e151_0_1];simp only [B8,D0,E9,H4,H2,D6]
  | succ n ih =>
   intro i t hi hn h;have hlt:i<p.length:=by omega
   rw [C3 hlt] at h;obtain ⟨hm,h0,h1⟩:=atT_cons h;have hls:=len_sum (xs:=t.as);have hnd:=Tm.nodes_eq t;have hmn:=mem_sum (f:=Tm.nodes) (C7 hm);have h2:=ih (i+1) _ (by omega) (by omega) h1
   rw [e151_0_1];generalize hj:p[i]=j at hm h0 h1 h2 hmn;obtain ⟨m,rfl⟩:∃ m:Nat,j=(m:Int):=⟨j.toNat,by omega⟩
   rw [C1] at hm;simp only [C1] at h2;have q2:(m:Int)<=(t.as.length:Int)-1:=by omega
   have hw:IntKind.i64.wrap ((t.as.length:Int)-1)=(t.as.length:Int)-1:=IntWalk.i64_in _ (by omega)
   simp only [B8,D0,hlt,H3,H1,inbN,C1,rowAt_map hlt,wrap_succ hlt (maxB (by omega)),hm,hj,hw,rIn,h0,q2,O1,F4,H2,rowAt_map hm,Tm.row_eq,iRow,nv0,nvS,dvI,dvB,dvS,dvL,B4]
   exact h2
 have h1:=key p.length 0 t (by omega) hn (by rw [F5]; exact h)
 have hun:=atT_nodes p t u h;have h3:=r32 u (small_of u (by omega))
 simp only [D1] at h1;rw [e151_0_0];simp only [h1,h3,nv0,nvS,dvI,dvB,dvS,dvL,B4,F7,H1,H2]
theorem r152 (w:Tm) (hw:w.nodes<=1048577):∀ (p:List Int) (t u:Tm),t.nodes<=1048577->p.length<=1048576->atT t p=some u->rn ⟨152,0,0⟩ [.int t.k,.int t.n,.str t.s,.sl (t.as.map Tm.row),.sl (p.map iRow),.int w.k,.int w.n,.str w.s,.sl (w.as.map Tm.row)]=some (0,[.int (putT t p w).k,.int (putT t p w).n,.str (putT t p w).s,.sl ((putT t p w).as.map Tm.row)])
 | [],t,u,hn,hp,h=>by
  have h3:=r32 w (small_of w hw);rw [e152_0_0];simp only [E5,D4,D1,H3,H1,h3,nv0,nvS,dvI,dvB,dvS,dvL,B4,putT]
 | j::p,t,u,hn,hp,h=>by
  obtain ⟨hm,h0,h1⟩:=atT_cons h;have hls:=len_sum (xs:=t.as);have hnd:=Tm.nodes_eq t;have hmn:=mem_sum (f:=Tm.nodes) (C7 hm);have h2:=r152 w hw p _ u (by omega) (by simp only [C5] at hp; omega) h1
  have h3:=r32 t (small_of t hn);have ht:=tail_rows j p;rw [e152_0_0];simp only [putT,dif_pos hm];obtain ⟨m,rfl⟩:∃ m:Nat,j=(m:Int):=⟨j.toNat,by omega⟩
  simp only [C1] at hm h2 ⊢;have q0:rowAt (((m:Int)::p).map iRow) 0=[.int (m:Int)]:=rfl;have q1:inb 0 (((m:Int)::p).map iRow).length=true:=by simp [inb]
  have q2:¬(((((m:Int)::p).map iRow).length:Nat):Int)=0:=by simp; omega
  have q3:(1:Int)<=((((m:Int)::p).map iRow).length:Nat):=by simp only [B8,C5]; omega
  have hm':m<(t.as.map Tm.row).length:=by rw [B8]; exact hm
  have q4:(0:Int)<=1:=by decide
  have q5:=over_tm hm (putT t.as[m] p w);simp only [q0,q1,q2,q3,q4,ht,show B7 0=0 from rfl,Int.le_refl,nv0,nvS,dvI,dvB,dvS,dvL,B4,inbN,hm',H3,H4,H1,H2,O1,C1,h3]
  rw [rowAt_map hm] at q5 ⊢;simp only [Tm.row_eq,nv0,nvS,dvI,dvB,dvS,dvL,B4] at q5 ⊢;simp only [h2,nv0,nvS,dvI,dvB,dvS,dvL,B4,q5];rfl
end Go.Q.S
end
section
namespace Go.Q.S
open Go Go.Q Go.Proofs
theorem mS:∀ t u:Tm,∀ l:List Bnd,Small u->(∀ b∈l,Small b.2)->l.length+t.nodes<=1048576->(∀ l',mT t u l=some l'->rn ⟨168,1,0⟩ [.int t.k,.int t.n,.str t.s,.sl (t.as.map Tm.row),.int u.k,.int u.n,.str u.s,.sl (u.as.map Tm.row),.sl (l.map Bnd.row)]=some (0,[.bool true,.sl (l'.map Bnd.row)]))/\(mT t u l=none->(∃ X,rn ⟨168,1,0⟩ [.int t.k,.int t.n,.str t.s,.sl (t.as.map Tm.row),.int u.k,.int u.n,.str u.s,.sl (u.as.map Tm.row),.sl (l.map Bnd.row)]=some (0,[.bool false,.sl X]))\/rn ⟨168,1,0⟩ [.int t.k,.int t.n,.str t.s,.sl (t.as.map Tm.row),.int u.k,.int u.n,.str u.s,.sl (u.as.map Tm.row),.sl (l.map Bnd.row)]=some (1,[])):=Tm.ind fun t ih u l hu hl hb=>by
 have hnd:=Tm.nodes_eq t;have hls:=len_sum (xs:=t.as);have hlp:t.as.length=u.as.length->∀ n i (l:List Bnd),i+n=t.as.length->(∀ b∈l,Small b.2)->l.length+((t.as.drop i).map Tm.nodes).sum<=1048576->rn ⟨168,1,1⟩ [.int (i:Int),.sl (l.map Bnd.row),.int t.k,.int t.n,.str t.s,.sl (t.as.map Tm.row),.int u.k,.int u.n,.str u.s,.sl (u.as.map Tm.row)]=match mTs (t.as.drop i) (u.as.drop i) l with
  | some l'=>some (0,[.sl (l'.map Bnd.row)])
  | none=>some (1,[]):=by
  intro hlen n;induction n with
  | zero =>
   intro i l hi hl hb;obtain rfl:i=t.as.length:=by omega
   rw [e168_1_1];simp only [B8,D0,E9,H4,H2,D6,mTs]
  | succ n ih2 =>
   intro i l hi hl hb;have hlt:i<t.as.length:=by omega
   have hlu:i<u.as.length:=by omega
   rw [C3 hlt] at hb ⊢;rw [C3 hlu];simp only [C2,J9] at hb;have hm:=C7 hlt;have hmu:=C7 hlu;obtain ⟨h1,h1'⟩:=ih _ hm u.as[i] l (hu.sub hmu) hl (by omega)
   rw [e168_1_1];simp only [B8,D0,hlt,H3,H1,inbN,C1,rowAt_map hlt,wrap_succ hlt (maxB (by omega)),hlu,rowAt_map hlu,Tm.row_eq,nv0,nvS,dvI,dvB,dvS,dvL,B4,mTs]
   cases hq:mT t.as[i] u.as[i] l with
   | none =>
    rcases h1' hq with ⟨X,e⟩ | e
    · rw [e]; rfl
    · rw [e]; rfl
   | some l1 =>
    have hl1:=mT_all Small (fun t a h ha=>h.sub ha) _ _ l l1 (hu.sub hmu) hl hq
    have hn1:=mT_len _ _ _ _ hq;have h2:=ih2 (i+1) l1 (by omega) hl1 (by omega)
    simp only [h1 l1 hq,nv0,nvS,dvI,dvB,dvS,dvL,B4,F7,H1,H2,F4,h2]
 have h0:=fun h=>hlp h t.as.length 0 l (by omega) hl (by rw [F5]; omega)
 simp only [F5,D1] at h0;rw [e168_1_0,mT_eq];by_cases h1:t.k=1
 · have hbd:=r51 l (by omega) hl t.s
   have hb2:E1 (l.length+1) M63=true:=nb (by omega)
   have hcp:=r32 u hu;simp only [h1,H3,H1,if_true,hbd];cases hq:bnd l t.s with
   | some v =>
    have he:=r13 v u (bnd_mem' hl hq);simp only [nv0,nvS,dvI,dvB,dvS,dvL,B4,H1,he];cases eqb v.row u.row with
    | true=>exact ⟨fun l' h=>by simp only [if_true,C4.injEq] at h; subst h; rfl,fun h=>by simp at h⟩
    | false=>exact ⟨fun l' h=>by simp at h,fun _=>.inl ⟨_,rfl⟩⟩
   | none =>
    refine ⟨fun l' h=>?_,fun h=>by simp at h⟩
    simp only [C4.injEq] at h;subst h;simp only [nv0,nvS,dvI,dvB,dvS,dvL,B4,H2,hcp,B8,C5,D4,E7,hb2,H1,E8,C2,E5,bd_row]
 · simp only [h1,H4,H2,if_false]
   by_cases e1:t.k=u.k
   · rw [H7 e1,H5 e1]
     by_cases e2:t.n=u.n
     · rw [H7 e2,H5 e2]
       by_cases e3:t.s=u.s
       · rw [H7 e3,H5 e3]
         by_cases e4:t.as.length=u.as.length
         · have e4':((t.as.map Tm.row).length:Int)=((u.as.map Tm.row).length:Int):=by simp [e4]
           rw [H7 e4',H5 e4];simp only [F4,H2,h0 e4];cases mTs t.as u.as l with
           | none=>exact ⟨fun l' h=>by simp at h,fun _=>.inr rfl⟩
           | some l2=>exact ⟨fun l' h=>by simp only [C4.injEq] at h; subst h; rfl,fun h=>by simp at h⟩
         · have e4':¬((t.as.map Tm.row).length:Int)=((u.as.map Tm.row).length:Int):=by simp; omega
           rw [H8 e4',H6 e4]; exact ⟨fun l' h=>by simp at h,fun _=>.inl ⟨_,rfl⟩⟩
       · rw [H8 e3,H6 e3]; exact ⟨fun l' h=>by simp at h,fun _=>.inl ⟨_,rfl⟩⟩
     · rw [H8 e2,H6 e2]; exact ⟨fun l' h=>by simp at h,fun _=>.inl ⟨_,rfl⟩⟩
   · rw [H8 e1,H6 e1]; exact ⟨fun l' h=>by simp at h,fun _=>.inl ⟨_,rfl⟩⟩
theorem r169 (l:List Bnd) (hl:l.length<=1048576) (hs:∀ b∈l,Small b.2) (ns:List ByteArray) (hn:ns.length<=1048577):rn ⟨169,0,0⟩ [.sl (l.map Bnd.row),.sl (ns.map sRow)]=some (0,[.sl ((rsB l (srtN ns)).map Bnd.row)]):=by
 have h1:=r140 ns (by omega)
 have hsl:=srtN_len ns;rw [e169_0_0,h1];generalize srtN ns=ms at hsl ⊢;have key:∀ n i (acc:List Bnd),i+n=ms.length->acc.length<=i->rn ⟨169,0,1⟩ [.sl (l.map Bnd.row),.int (i:Int),.sl (acc.map Bnd.row),.sl (ms.map sRow)]=some (0,[.sl ((acc++rsB l (ms.drop i)).map Bnd.row)]):=by
  intro n;induction n with
  | zero =>
   intro i acc hi ha;obtain rfl:i=ms.length:=by omega
   rw [e169_0_1];simp only [B8,D0,E9,H4,H2,D6,rsB,List.filterMap_nil,K1]
  | succ n ih =>
   intro i acc hi ha;have hlt:i<ms.length:=by omega
   rw [e169_0_1,C3 hlt,rsB_cons];have hbd:=r51 l hl hs ms[i];have hb2:E1 (acc.length+1) M63=true:=nb (by omega)
   simp only [B8,D0,hlt,H3,H1,inbN,C1,rowAt_map hlt,wrap_succ hlt (maxB (by omega)),sRow,nv0,nvS,dvI,dvB,dvS,dvL,B4,hbd]
   cases hq:bnd l ms[i] with
   | none =>
    have h2:=ih (i+1) acc (by omega) (by omega)
    simp only [nv0,nvS,dvI,dvB,dvS,dvL,B4,H2,h2]
   | some v =>
    have h2:=ih (i+1) (acc++[(ms[i],v)]) (by omega) (by simp; omega)
    simp only [E8,C2,E5,bd_row,sRow] at h2;simp only [nv0,nvS,dvI,dvB,dvS,dvL,B4,H1,C5,D4,E7,hb2,h2,E8,C2,D9,J3,G6,bd_row]
 have h:=key ms.length 0 [] (by omega) (K3 _)
 simp only [D1,E5,F5,G6] at h;simp only [h,nv0,nvS,dvI,dvB,dvS,dvL,B4,F7,H1,H2]
theorem r164 (t u:Tm) (ht:t.nodes<=1048576) (hu:Small u):rn ⟨164,0,0⟩ [.int t.k,.int t.n,.str t.s,.sl (t.as.map Tm.row),.int u.k,.int u.n,.str u.s,.sl (u.as.map Tm.row)]=some (0,foI ((mT t u []).map fun l=>rsB l (srtN (srtN t.names))) []):=by
 obtain ⟨h1,h2⟩:=mS t u [] hu (by simp) (by simpa using ht)
 have h3:=r113 t (by omega)
 have hnl:=names_nodes t;have hsl:=srtN_len t.names;rw [e164_0_0];simp only [E5] at h1 h2;cases hq:mT t u [] with
 | none =>
  rcases h2 hq with ⟨X,e⟩ | e
  · rw [e]; rfl
  · rw [e]; rfl
 | some l =>
  have hls:=mT_all Small (fun t a h ha=>h.sub ha) t u [] l hu (by simp) hq
  have hln:=mT_len _ _ _ _ hq;simp only [D4] at hln;have h4:=r169 l (by omega) hls (srtN t.names) (by omega)
  simp only [h1 l hq,nv0,nvS,dvI,dvB,dvS,dvL,B4,F7,H1,H2,F4,h3,h4,N7,foI]
theorem r150 {ops:List OpM} (r:RuM) (hr:RuG ops r) (u:Tm) (hu:u.nodes<=60):rn ⟨150,0,0⟩ [.str r.n,.int (r.l).k,.int (r.l).n,.str (r.l).s,.sl ((r.l).as.map Tm.row),.int (r.r).k,.int (r.r).n,.str (r.r).s,.sl ((r.r).as.map Tm.row),.sl (r.g.map Gu.row),.int u.k,.int u.n,.str u.s,.sl (u.as.map Tm.row)]=some (0,[.bool (fireR r u).isSome,.sl ((fiL r u).map Bnd.row)]):=by
 have hln:=valid_nodes hr.lv;have hrn:=valid_nodes hr.rv;have hgl:=hr.b.g;have h1:=r164 r.l u (by omega) (small_of u (by omega))
 have hL:(∀ b∈fiL r u,b.2.nodes<=60)/\(fiL r u).length<=1048576:=by
  unfold fiL;cases hq:mT r.l u [] with
  | none=>exact ⟨by simp,by simp⟩
  | some l =>
   have hls:=mT_all (fun t=>t.nodes<=60) (fun t a h ha=>nodes_sub t a h ha) _ u [] l hu (by simp) hq
   have h1:=srtN_len r.l.names;have h2:=srtN_len (srtN r.l.names);have h3:=names_nodes r.l;have h4:=rsB_len l (srtN (srtN r.l.names));exact ⟨fun b hb=>rsB_mem (P:=fun t=>t.nodes<=60) hls _ b hb,by show (rsB l _).length<=_; omega⟩
 have hss:∀ b∈fiL r u,Small b.2:=fun b hb=>small_of _ (by have:=hL.1 b hb; omega)
 have e:rn ⟨164,0,0⟩ [.int (r.l).k,.int (r.l).n,.str (r.l).s,.sl ((r.l).as.map Tm.row),.int u.k,.int u.n,.str u.s,.sl (u.as.map Tm.row)]=some (0,[.bool (mT r.l u []).isSome,.sl ((fiL r u).map Bnd.row)]):=by
  rw [h1]; unfold fiL;cases mT r.l u [] <;> rfl
 have key:∀ n i (b:Bool),i+n=r.g.length->rn ⟨150,0,1⟩ [.bool b,.int (i:Int),.str r.n,.int (r.l).k,.int (r.l).n,.str (r.l).s,.sl ((r.l).as.map Tm.row),.int (r.r).k,.int (r.r).n,.str (r.r).s,.sl ((r.r).as.map Tm.row),.sl (r.g.map Gu.row),.sl ((fiL r u).map Bnd.row)]=some (0,[.bool (b&&(r.g.drop i).all fun g=>holds (appG (fiL r u) g)),.sl ((fiL r u).map Bnd.row)]):=by
  intro n;induction n with
  | zero =>
   intro i b hi;obtain rfl:i=r.g.length:=by omega
   rw [e150_0_1];simp only [B8,D0,E9,H4,H2,D6,Q2,O1]
  | succ n ih =>
   intro i b hi;have hlt:i<r.g.length:=by omega
   have hgi:=hr.gl _ (C7 hlt);have g1:=valid_nodes hgi.1;have g2:=valid_nodes hgi.2;have a1:=r34 (fiL r u) hL.2 hss r.g[i] ⟨by omega,by omega⟩
   have a2:=r33 (appG (fiL r u) r.g[i]) (appG_ok60 hL.1 g1 g2);rw [e150_0_1,C3 hlt];cases b with
   | false=>simp [hlt]
   | true =>
    simp only [B8,D0,hlt,H3,H1,inbN,C1,rowAt_map hlt,wrap_succ hlt (maxB (by omega)),gu_row,nv0,nvS,dvI,dvB,dvS,dvL,B4,a1,a2,ih (i+1) _ (by omega),K2,J8]
 have h2:=fun b=>key r.g.length 0 b (by omega)
 simp only [F5,D1] at h2;rw [e150_0_0];simp only [e,nv0,nvS,dvI,dvB,dvS,dvL,B4,F7,H1,H2,h2];rw [fireR_eq];cases ((mT r.l u []).isSome&&r.g.all fun g=>holds (appG (fiL r u) g)) <;> rfl
theorem r128 (d:DfM) (hd:DfG d) (u:Tm) (hu:u.nodes<=60):rn ⟨128,0,0⟩ [.sl (d.so.map sRow),.sl (d.op.map OpM.row),.sl (d.ru.map RuM.row),.sl (d.st.map StM.row),.int u.k,.int u.n,.str u.s,.sl (u.as.map Tm.row)]=some (0,[.int (optZ (rootF d.ru u))]):=by
 have hrl:=hd.b.ru;have key:∀ n i,i+n=d.ru.length->rn ⟨128,0,1⟩ [.int (i:Int),.sl (d.so.map sRow),.sl (d.op.map OpM.row),.sl (d.ru.map RuM.row),.sl (d.st.map StM.row),.int u.k,.int u.n,.str u.s,.sl (u.as.map Tm.row)]=match (d.ru.drop i).findIdx? (fun r=>(fireR r u).isSome) with
  | some j=>some (1,[.int ((i+j:Nat):Int)])
  | none=>some (0,[]):=by
  intro n;induction n with
  | zero =>
   intro i hi;obtain rfl:i=d.ru.length:=by omega
   rw [e128_0_1];simp only [B8,D0,E9,H4,H2,D6,List.findIdx?_nil]
  | succ n ih =>
   intro i hi;have hlt:i<d.ru.length:=by omega
   have h1:=r150 d.ru[i] (hd.ru (C7 hlt)) u hu;have h2:=ih (i+1) (by omega)
   rw [e128_0_1,C3 hlt,List.findIdx?_cons];simp only [B8,D0,hlt,H3,H1,inbN,C1,rowAt_map hlt,wrap_succ hlt (maxB (by omega)),RuM.row,nv0,nvS,dvI,dvB,dvS,dvL,B4,h1,h2]
   cases fireR d.ru[i] u with
   | some w=>rfl
   | none =>
    simp only [H2,Option.isSome_none,Bool.false_eq_true,if_false];cases (d.ru.drop (i+1)).findIdx? (fun r=>(fireR r u).isSome) with
    | none=>rfl
    | some j=>simp only [N7,show i+(j+1)=i+1+j by omega]
 have h:=key d.ru.length 0 (by omega)
 simp only [F5,D1,E7] at h;rw [e128_0_0];simp only [h];unfold rootF;cases d.ru.findIdx? (fun r=>(fireR r u).isSome) <;> rfl
end Go.Q.S
end
section
namespace Go.Q.S
open Go Go.Q Go.Proofs
theorem r101 (d:DfM) (hd:DfG d):∀ t:Tm,Gt d.op t->t.nodes<=60->rn ⟨101,0,0⟩ [.sl (d.so.map sRow),.sl (d.op.map OpM.row),.sl (d.ru.map RuM.row),.sl (d.st.map StM.row),.int t.k,.int t.n,.str t.s,.sl (t.as.map Tm.row)]=some (0,nrS (nx d t)):=Tm.ind fun t ih ht hn=>by
 have hnd:=Tm.nodes_eq t;have hls:=len_sum (xs:=t.as);have hst:=hd.b.st;have hql:=strA_len d.st t.s;have hlp:∀ n i,i+n=(strA d.st t.s).length->rn ⟨101,0,1⟩ [.int (i:Int),.sl (d.so.map sRow),.sl (d.op.map OpM.row),.sl (d.ru.map RuM.row),.sl (d.st.map StM.row),.int t.k,.int t.n,.str t.s,.sl (t.as.map Tm.row),.int 0,.sl ((strA d.st t.s).map iRow),.sl []]=match pickF (if t.k=2 then (strA d.st t.s).drop i else []) (t.as.map (nx d)) with
  | some x=>some (1,[.int (x.1:Int),.sl (x.2.map iRow)])
  | none=>some (0,[.sl (d.so.map sRow),.sl (d.op.map OpM.row),.sl (d.ru.map RuM.row),.sl (d.st.map StM.row),.int t.k,.int t.n,.str t.s,.sl (t.as.map Tm.row),.int 0,.sl []]):=by
  by_cases hk:t.k=2
  · have hq:∀ j∈strA d.st t.s,0<=j/\j.toNat<t.as.length:=fun j hj=>stL_lt hd ht (by unfold stL; rw [H5 hk]; exact hj)
    generalize strA d.st t.s=q at hql hq ⊢;intro n;simp only [H5 hk];induction n with
    | zero =>
     intro i hi;obtain rfl:i=q.length:=by omega
     rw [e101_0_1];simp only [B8,D0,E9,H4,H2,D6,pick_nil]
    | succ n ih2 =>
     intro i hi;have hlt:i<q.length:=by omega
     obtain ⟨h0,hm⟩:=hq _ (C7 hlt);rw [C3 hlt];rw [e101_0_1];generalize hj:q[i]=j at h0 hm ⊢;obtain ⟨m,rfl⟩:∃ m:Nat,j=(m:Int):=⟨j.toNat,by omega⟩
     rw [C1] at hm;have hmm:=C7 hm;have hms:=mem_sum (f:=Tm.nodes) hmm;have h1:=ih _ hmm (ht.sub hmm) (by omega)
     have q2:(m:Int)<=(t.as.length:Int)-1:=by omega
     have hw:IntKind.i64.wrap ((t.as.length:Int)-1)=(t.as.length:Int)-1:=IntWalk.i64_in _ (by omega)
     have h3:=ih2 (i+1) (by omega)
     rw [pick_cons hm,H7 hk];simp only [B8,D0,hlt,H3,H1,inbN,C1,rowAt_map hlt,wrap_succ hlt (maxB (by omega)),hj,hm,hw,h0,q2,rIn,O1,F4,H2,rowAt_map hm,Tm.row_eq,iRow,nv0,nvS,dvI,dvB,dvS,dvL,B4,h1]
     cases hx:nx d t.as[m] with
     | some x =>
      obtain ⟨u,_,_,hu,_⟩:=nx_spec d _ x.1 x.2 hx;have hun:=atT_nodes x.2 _ u hu;have hb2:E1 (0+1+x.2.length) M63=true:=nb (by omega)
      simp only [nrS,nv0,nvS,dvI,dvB,dvS,dvL,B4,H1,C5,D4,B8,hb2,J3,G6,C2,iRow]
     | none=>simp only [nrS,nv0,nvS,dvI,dvB,dvS,dvL,B4,H2,h3]
  · intro n i hi
    rw [H6 hk,pick_nil,e101_0_1,H8 hk];cases decide ((i:Int)<(((strA d.st t.s).map iRow).length:Int)) <;> rfl
 have h0:=hlp (strA d.st t.s).length 0 (by omega)
 simp only [F5,D1] at h0;have h1:=fun a b c=>r127 a b c d.st hd.b.st t.s
 have h2:=r128 d hd t hn;have hmx:∀ x:Option Nat,rn ⟨129,0,0⟩ [.int (optZ x),.int 0]=some (0,[.int ((x.getD 0:Nat):Int)]):=fun x=>by
  rw [e129_0_0];cases x with
  | none=>rfl
  | some i =>
   by_cases hi:(0:Int)<optZ (some i)
   · rw [H7 hi]; rfl
   · rw [H8 hi]
     simp only [optZ] at hi;obtain rfl:i=0:=by omega
     rfl
 rw [e101_0_0,nx_eq,h1];simp only [nv0,nvS,dvI,dvB,dvS,dvL,B4,h0];have e:(if t.k=2 then strA d.st t.s else [])=stL d.st t:=rfl
 rw [e];cases pickF (stL d.st t) (t.as.map (nx d)) with
 | some x=>rfl
 | none =>
  simp only [nv0,nvS,dvI,dvB,dvS,dvL,B4,F7,H1,H2,h2,hmx];cases rootF d.ru t with
  | none=>rfl
  | some i =>
   have q:(0:Int)<=(i:Int):=by omega
   simp only [optZ,q,H3,N7,nrS,Option.getD_some,E5]
theorem r143 (d:DfM) (hd:DfG d) (t:Tm) (ht:Gt d.op t) (hn:t.nodes<=60) (i:Nat) (p:List Int) (hx:nx d t=some (i,p)):rn ⟨143,0,0⟩ [.sl (d.so.map sRow),.sl (d.op.map OpM.row),.sl (d.ru.map RuM.row),.sl (d.st.map StM.row),.int t.k,.int t.n,.str t.s,.sl (t.as.map Tm.row),.int (i:Int),.sl (p.map iRow)]=some (0,[.int (stepT d t i p).k,.int (stepT d t i p).n,.str (stepT d t i p).s,.bool (stepT d t i p).valid,.sl ((stepT d t i p).as.map Tm.row)]):=by
 obtain ⟨u,r,w,h1,h2,h3,e,hu,hun,hw,hwn,hg,hgn,hp,hr⟩:=step_good hd ht hn hx;obtain ⟨hi,hri⟩:=List.getElem?_eq_some_iff.1 h2;have hrn:=valid_nodes hr.rv;have hln:=valid_nodes hr.lv;have a1:=r151 t u (by omega) p (by omega) h1
 have a2:=r150 r hr u hun;have e3:=fireR_eq r u;rw [h3] at e3;split at e3
 · simp only [C4.injEq] at e3
   have hL:(∀ b∈fiL r u,b.2.nodes<=60)/\(fiL r u).length<=1048576:=by
    unfold fiL;cases hq:mT r.l u [] with
    | none=>exact ⟨by simp,by simp⟩
    | some l =>
     have hls:=mT_all (fun t=>t.nodes<=60) (fun t a h ha=>nodes_sub t a h ha) _ u [] l hun (by simp) hq
     have h1:=srtN_len r.l.names;have h2:=srtN_len (srtN r.l.names);have h3:=names_nodes r.l;have h4:=rsB_len l (srtN (srtN r.l.names));exact ⟨fun b hb=>rsB_mem (P:=fun t=>t.nodes<=60) hls _ b hb,by show (rsB l _).length<=_; omega⟩
   have hss:∀ b∈fiL r u,Small b.2:=fun b hb=>small_of _ (by have:=hL.1 b hb; omega)
   have a3:=r64 (fiL r u) hL.2 hss r.r (small_of _ (by omega))
   have a4:=r62 (aS (fiL r u) r.r) (aS_small hss _ (small_of _ (by omega)))
   rw [<- e3] at a4;have a5:=r152 w (by omega) p t u (by omega) (by omega) h1
   have a6:=r107 (stepT d t i p) (by omega) hg.w
   rw [<- e] at a5;rw [e143_0_0];subst hri;rw [h3] at a2;simp only [a1,B8,inbN,hi,H3,H1,C1,rowAt_map hi,RuM.row,nv0,nvS,dvI,dvB,dvS,dvL,B4,a2,a3,a4,a5,a6,Option.isSome_some]
 · simp at e3
theorem r96 (d:DfM) (hb:DfB d) (t:Tm) (hw:Wt t) (hn:t.nodes<=2097152):rn ⟨96,0,0⟩ [.sl (d.so.map sRow),.sl (d.op.map OpM.row),.sl (d.ru.map RuM.row),.sl (d.st.map StM.row),.int t.k,.int t.n,.str t.s,.sl (t.as.map Tm.row)]=some (0,[.bool (cfg d t)]):=by
 have h1:=r94 d hb;have h2:=r107 t (by omega) hw
 have h4:=r111 (d.so.map sRow) d.op hb.op [] (by simp) t hw
 simp only [E5] at h4;rw [e96_0_0];simp only [h1,h2,nv0,nvS,dvI,dvB,dvS,dvL,B4];unfold cfg;cases d.valid <;> try rfl
 cases hv:t.valid with
 | false=>rfl
 | true =>
  have h3:=r63 t (by have:=valid_nodes hv; omega)
  simp only [h3,h4,nv0,nvS,dvI,dvB,dvS,dvL,B4,H1,J8];cases isG t <;> rfl
theorem r118 (d:DfM) (hb:DfB d) (t:Tm) (hw:Wt t) (hn:t.nodes<=2097152) (f:Int):rn ⟨118,0,0⟩ [.sl (d.so.map sRow),.sl (d.op.map OpM.row),.sl (d.ru.map RuM.row),.sl (d.st.map StM.row),.int t.k,.int t.n,.str t.s,.sl (t.as.map Tm.row),.int f]=some (0,[.bool (cfg d t&&(decide (0<=f)&&decide (f<=200)))]):=by
 have h1:=r96 d hb t hw hn;rw [e118_0_0];simp only [h1,rIn,nv0,nvS,dvI,dvB,dvS,dvL,B4];cases cfg d t <;> rfl
end Go.Q.S
end
section
namespace Go.Q.S
open Go Go.Q Go.Proofs
theorem runSL (d:DfM) (hd:DfG d):∀ (n:Nat) (t:Tm) (S:List Tm) (R:List (Nat × List Int)) (f:Nat),Gt d.op t->t.nodes<=60->R.length+n=f->f<=200->S.length<=R.length->rn ⟨119,0,1⟩ [.int (f:Int),.sl (d.so.map sRow),.sl (d.op.map OpM.row),.sl (d.ru.map RuM.row),.sl (d.st.map StM.row),.int 1,.int t.k,.int t.n,.str t.s,.int (R.length:Int),.sl (t.as.map Tm.row),.sl (R.map rdRow),.sl (S.map Tm.row)]=some (0,[.int (runF d n t).o,.int (runF d n t).t.k,.int (runF d n t).t.n,.str (runF d n t).t.s,.int ((R.length+(runF d n t).rd.length:Nat):Int),.sl ((runF d n t).t.as.map Tm.row),.sl ((R++(runF d n t).rd).map rdRow),.sl ((S++t::(runF d n t).st).map Tm.row)]):=by
 intro n;induction n with
 | zero =>
  intro t S R f ht hn hR hf hS;have h1:=r101 d hd t ht hn;have e1:((R.length:Int)=(f:Int)):=by omega
  have b1:E1 (S.length+1) M63=true:=nb (by omega)
  have hi:inb (S.length:Int) (S.length+1)=true:=by simp [inb]; omega
  have ho:=over_last' (S.map Tm.row) t.k t.n 0 0 t.s ⟨#[]⟩ (t.as.map Tm.row) [];rw [B8] at ho;rw [e119_0_1];cases hx:nx d t with
  | none =>
   rw [hx] at h1;simp only [h1,nrS,nv0,nvS,dvI,dvB,dvS,dvL,B4,N5,H1,B8,E6,C5,D4,E7,b1,hi,C1,ho,runF_none hx,K1,N6,E8,C2,E5,Tm.row_eq]
  | some x =>
   rw [hx] at h1;simp only [h1,nrS,nv0,nvS,dvI,dvB,dvS,dvL,B4,F4,H1,H2,B8,E6,C5,D4,E7,b1,hi,C1,ho,e1,H3,runF_zero hx,K1,N6,E8,C2,E5,Tm.row_eq]
 | succ n ih =>
  intro t S R f ht hn hR hf hS;have h1:=r101 d hd t ht hn;have e1:¬((R.length:Int)=(f:Int)):=by omega
  have b1:E1 (S.length+1) M63=true:=nb (by omega)
  have b2:E1 (R.length+1) M63=true:=nb (by omega)
  have hi:inb (S.length:Int) (S.length+1)=true:=by simp [inb]; omega
  have ho:=over_last' (S.map Tm.row) t.k t.n 0 0 t.s ⟨#[]⟩ (t.as.map Tm.row) [];have hw:IntKind.i64.wrap ((R.length:Int)+1)=((R.length+1:Nat):Int):=IntWalk.i64_in _ (by omega)
  rw [B8] at ho;rw [e119_0_1];cases hx:nx d t with
  | none =>
   rw [hx] at h1;simp only [h1,nrS,nv0,nvS,dvI,dvB,dvS,dvL,B4,N5,H1,B8,E6,C5,D4,E7,b1,hi,C1,ho,runF_none hx,K1,N6,E8,C2,E5,Tm.row_eq]
  | some x =>
   rw [hx] at h1;have h3:=r143 d hd t ht hn x.1 x.2 hx;obtain ⟨_,_,_,_,_,_,_,_,_,_,_,hg,hgn,_⟩:=step_good hd ht hn hx;cases hv:(stepT d t x.1 x.2).valid with
   | false =>
    rw [hv] at h3;simp only [h1,nrS,h3,nv0,nvS,dvI,dvB,dvS,dvL,B4,F4,N5,H1,H2,B8,E6,C5,D4,E7,b1,hi,C1,ho,e1,H4,runF_bad hx hv,K1,N6,E8,C2,E5,Tm.row_eq]
   | true =>
    rw [hv] at h3;have h5:=ih (stepT d t x.1 x.2) (S++[t]) (R++[x]) f hg (valid_nodes hv) (by simp; omega) hf (by simp; omega)
    simp only [E8,C2,E5,Tm.row_eq,rdRow,E6,C5,D4,E7] at h5;have ea:R.length+1+(runF d n (stepT d t x.1 x.2)).rd.length=R.length+((runF d n (stepT d t x.1 x.2)).rd.length+1):=by omega
    simp only [h1,nrS,h3,nv0,nvS,dvI,dvB,dvS,dvL,B4,F4,H1,H2,B8,E6,C5,D4,E7,b1,b2,hi,hw,C1,ho,e1,H4,h5,runF_ok hx hv];simp only [E8,C2,E5,Tm.row_eq,rdRow,D9,J3,G6,C5,ea]
theorem r119 (d:DfM) (hb:DfB d) (t:Tm) (hw:Wt t) (f:Int) (f1:0<=f) (f2:f<=200) (hc:cfg d t=true):rn ⟨119,0,0⟩ [.sl (d.so.map sRow),.sl (d.op.map OpM.row),.sl (d.ru.map RuM.row),.sl (d.st.map StM.row),.int t.k,.int t.n,.str t.s,.sl (t.as.map Tm.row),.int f]=some (0,allD (runF d f.toNat t) t):=by
 obtain ⟨hd,ht,hn60⟩:=cfg_of hb hw hc;have h2:=r32 t (small_of t (by omega))
 have h3:=runSL d hd f.toNat t [] [] f.toNat ht hn60 (by simp) (by omega) (by simp)
 have ef:((f.toNat:Nat):Int)=f:=by omega
 simp only [ef,E5,D4,E7,G6,D1] at h3;rw [e119_0_0];simp only [h2,nv0,nvS,dvI,dvB,dvS,dvL,B4,h3,F7,H1,H2,allD]
end Go.Q.S
end
section
namespace Go.Q.S
open Go Go.Q Go.Proofs
theorem r97 (d:DfM) (hb:DfB d) (t:Tm) (hw:Wt t) (hn:t.nodes<=2097152) (f:Int):rn ⟨97,0,0⟩ [.sl (d.so.map sRow),.sl (d.op.map OpM.row),.sl (d.ru.map RuM.row),.sl (d.st.map StM.row),.int t.k,.int t.n,.str t.s,.sl (t.as.map Tm.row),.int f]=some (0,rtD (runT d t f)):=by
 have h1:=r118 d hb t hw hn f;rw [e97_0_0,h1,runT_if];cases hc:(cfg d t&&(decide (0<=f)&&decide (f<=200))) with
 | false=>rfl
 | true =>
  simp only [B5,decide_eq_true_eq] at hc;have h2:=r119 d hb t hw f hc.2.1 hc.2.2 hc.1;simp only [nv0,nvS,dvI,dvB,dvS,dvL,B4,F4,H2,H1,h2,allD,rtD]
end Go.Q.S
end
section
namespace Go.Q.S
open Go Go.Q Go.Proofs
theorem r36 (vars:List ByteArray) (t:Tm) (h:Small t) (cs:Rows) (c:Int):rn ⟨36,0,0⟩ [.sl (vars.map sRow),.int t.k,.int t.n,.str t.s,.sl (t.as.map Tm.row),.sl cs,.int c]=some (0,[.int (S.instR vars t c).k,.int (S.instR vars t c).n,.str (S.instR vars t c).s,.bool (isC vars.length c),.sl ((S.instR vars t c).as.map Tm.row)]):=by
 have e1:=r45 vars.length c;have e2:=r49 vars c;have e3:=r48 (caseS vars c) (caseS_len vars c) (caseS_small vars c) t h;have e4:=r47 _ (aS_small (caseS_small vars c) t h);rw [e36_0_0];simp only [B8,e1,nv0,nvS,dvI,dvB,dvS,dvL,B4];unfold S.instR;cases hc:isC vars.length c with
 | false=>rfl
 | true=>simp only [F4,H2,e2,e3,e4,nv0,nvS,dvI,dvB,dvS,dvL,B4,if_true]; rfl
theorem r19 (vars:List ByteArray) (t:Tm) (h:Small t) (cs:Rows) (c:Int):rn ⟨19,0,0⟩ [.sl (vars.map sRow),.int t.k,.int t.n,.str t.s,.sl (t.as.map Tm.row),.sl cs,.int c]=some (0,[.int (S.instR vars t c).k,.int (S.instR vars t c).n,.str (S.instR vars t c).s,.bool (isC vars.length c),.sl ((S.instR vars t c).as.map Tm.row)]):=by
 have e1:=r24 vars.length;have e2:=r42 vars t h c;rw [e19_0_0];simp only [B8,e1,nv0,nvS,dvI,dvB,dvS,dvL,B4,rIn,wcnt];unfold S.instR;cases hc:isC vars.length c with
 | false=>rfl
 | true=>simp only [F4,H2,e2,nv0,nvS,dvI,dvB,dvS,dvL,B4,if_true]
theorem r14 (vars:List ByteArray) (l t:Tm) (h:Small t) (gs:Rows) (c:Int):rn ⟨14,0,0⟩ [.sl (vars.map sRow),.int l.k,.int l.n,.str l.s,.sl (l.as.map Tm.row),.int t.k,.int t.n,.str t.s,.sl (t.as.map Tm.row),.sl gs,.int c]=some (0,[.int (S.instR vars t c).k,.int (S.instR vars t c).n,.str (S.instR vars t c).s,.sl ((S.instR vars t c).as.map Tm.row)]):=by
 have e1:=r36 vars t h [] c;rw [e14_0_0];simp only [e1,nv0,nvS,dvI,dvB,dvS,dvL,B4]
theorem r15 (vars:List ByteArray) (l t:Tm) (h:Small t) (gs:Rows) (c:Int):rn ⟨15,0,0⟩ [.sl (vars.map sRow),.int l.k,.int l.n,.str l.s,.sl (l.as.map Tm.row),.int t.k,.int t.n,.str t.s,.sl (t.as.map Tm.row),.sl gs,.int c]=some (0,[.int (S.instR vars t c).k,.int (S.instR vars t c).n,.str (S.instR vars t c).s,.sl ((S.instR vars t c).as.map Tm.row)]):=by
 have e1:=r19 vars t h [] c;rw [e15_0_0];simp only [e1,nv0,nvS,dvI,dvB,dvS,dvL,B4]
end Go.Q.S
end
section
namespace Go.Q.S
open Go Go.Q Go.Proofs
theorem eqLoop {F:Nat->R} {a b:List ByteArray} (hlen:a.length=b.length) {A B:R} (hs:∀ i (hi:i<a.length),F i=bif decide (a[i]=b[i]'(by omega)) then F (i+1) else B) (he:F a.length=A):F 0=bif decide (a=b) then A else B:=by
 have key:∀ n i,i+n=a.length->F i=bif decide (a.drop i=b.drop i) then A else B:=by
  intro n;induction n with
  | zero =>
   intro i hi;obtain rfl:i=a.length:=by omega
   rw [he,D6,O3 (by omega)]; rfl
  | succ n ih =>
   intro i hi;have hlt:i<a.length:=by omega
   rw [hs i hlt,ih (i+1) (by omega),C3 hlt,C3 (show i<b.length by omega)]
   by_cases h1:a[i]=b[i]'(by omega)
   · simp only [h1,O5.injEq,true_and,H3,H1]
   · simp only [h1,O5.injEq,false_and,H4,H2]
 simpa using key a.length 0 (by omega)
theorem r30 (a b:List ByteArray) (ha:a.length<=1048576):rn ⟨30,0,0⟩ [.sl (a.map sRow),.sl (b.map sRow)]=some (0,[.bool (eqLs a b)]):=by
 rw [e30_0_0];simp only [B8];by_cases hlen:a.length=b.length
 · have hf:=eqLoop (F:=fun i=>rn ⟨30,0,1⟩ [.sl (a.map sRow),.sl (b.map sRow),.int (i:Int)]) hlen (A:=some (0,[])) (B:=some (1,[])) (fun i hi=>by
    have hi':i<b.length:=by omega
    rw [e30_0_1];simp only [B8,D0,hi,H3,H1,inbN,C1,rowAt_map hi,wrap_succ hi (maxB (by omega)),hi',rowAt_map hi',sRow,nv0,nvS,dvI,dvB,dvS,dvL,B4]
    by_cases h1:a[i]=b[i] <;> simp [h1]) (by
    rw [e30_0_1];simp only [B8,D0,E9,H4,H2,D6])
   simp only [D1] at hf;have e:((a.length:Int)=(b.length:Int)):=by omega
   simp only [e,H3,F4,H2];rw [hf];unfold eqLs;cases decide (a=b) <;> rfl
 · have e:¬((a.length:Int)=(b.length:Int)):=by omega
   have:¬ a=b:=fun h=>hlen (by rw [h])
   simp [e,eqLs,this]
end Go.Q.S
end
section
namespace Go.Q.S
open Go Go.Q Go.Proofs
theorem eqLoopI {F:Nat->R} {a b:List Int} (hlen:a.length=b.length) {A B:R} (hs:∀ i (hi:i<a.length),F i=bif decide (a[i]=b[i]'(by omega)) then F (i+1) else B) (he:F a.length=A):F 0=bif decide (a=b) then A else B:=by
 have key:∀ n i,i+n=a.length->F i=bif decide (a.drop i=b.drop i) then A else B:=by
  intro n;induction n with
  | zero =>
   intro i hi;obtain rfl:i=a.length:=by omega
   rw [he,D6,O3 (by omega)]; rfl
  | succ n ih =>
   intro i hi;have hlt:i<a.length:=by omega
   rw [hs i hlt,ih (i+1) (by omega),C3 hlt,C3 (show i<b.length by omega)]
   by_cases h1:a[i]=b[i]'(by omega)
   · simp only [h1,O5.injEq,true_and,H3,H1]
   · simp only [h1,O5.injEq,false_and,H4,H2]
 simpa using key a.length 0 (by omega)
theorem r31 (a b:List Int) (ha:a.length<=1048576):rn ⟨31,0,0⟩ [.sl (a.map iRow),.sl (b.map iRow)]=some (0,[.bool (decide (a=b))]):=by
 rw [e31_0_0];simp only [B8];by_cases hlen:a.length=b.length
 · have hf:=eqLoopI (F:=fun i=>rn ⟨31,0,1⟩ [.sl (a.map iRow),.sl (b.map iRow),.int (i:Int)]) hlen (A:=some (0,[])) (B:=some (1,[])) (fun i hi=>by
    have hi':i<b.length:=by omega
    rw [e31_0_1];simp only [B8,D0,hi,H3,H1,inbN,C1,rowAt_map hi,wrap_succ hi (maxB (by omega)),hi',rowAt_map hi',iRow,nv0,nvS,dvI,dvB,dvS,dvL,B4]
    by_cases h1:a[i]=b[i] <;> simp [h1]) (by
    rw [e31_0_1];simp only [B8,D0,E9,H4,H2,D6])
   simp only [D1] at hf;have e:((a.length:Int)=(b.length:Int)):=by omega
   simp only [e,H3,F4,H2];rw [hf];cases decide (a=b) <;> rfl
 · have e:¬((a.length:Int)=(b.length:Int)):=by omega
   have:¬ a=b:=fun h=>hlen (by rw [h])
   simp [e,this]
end Go.Q.S
end
section
namespace Go.Q.S
open Go Go.Q Go.Proofs
end Go.Q.S
end
section
namespace Go.Q.S
open Go Go.Q Go.Proofs
end Go.Q.S
end
section
namespace Go.Q.S
open Go Go.Q Go.Proofs
end Go.Q.S
end
section
namespace Go.Q.S
open Go Go.Q Go.Proofs
theorem byte_ok {code:Rows} (hl:code.length<=1048576) (i:Nat) (h:Int):Good (rn ⟨61,0,0⟩ [.sl code,.int (i:Int),.int h]) fun x=>∃ b:Int,∃ i':Nat,∃ h':Int,0<=b/\b<=255/\x=(0,[.int b,.sl code,.int ((i':Nat):Int),.int h']):=by
 rw [e61_0_0];rw [H7 (by decide:(0:Int)<=33),H7 (by decide:(0:Int)<=45)]
 simp only [H1];by_cases hi:i<code.length
 · rw [H7 (by omega:(i:Int)<(code.length:Int))]
   simp only [H1,inbN,hi,H3,wrap_succ hi (by unfold maxLen; omega)]
   obtain ⟨h1,h2⟩:=and255 (IntKind.i64.wrap ((andI .i64 (xorI .i64 (shrI .i64 (IntKind.i64.wrap ((IntKind.i64.wrap (h*6364136223846793005))+1442695040888963407)) 33) (shrI .i64 (IntKind.i64.wrap ((IntKind.i64.wrap (h*6364136223846793005))+1442695040888963407)) 45)) 255)+(IntKind.i64.wrap ((nth (rowAt code (B7 (i:Int))) 0).I))));exact Good.ret ⟨_,i+1,_,h1,h2,rfl⟩
 · rw [H8 (by omega:¬(i:Int)<(code.length:Int))]
   simp only [H2];obtain ⟨h1,h2⟩:=and255 (xorI .i64 (shrI .i64 (IntKind.i64.wrap ((IntKind.i64.wrap (h*6364136223846793005))+1442695040888963407)) 33) (shrI .i64 (IntKind.i64.wrap ((IntKind.i64.wrap (h*6364136223846793005))+1442695040888963407)) 45));exact Good.ret ⟨_,i,_,h1,h2,rfl⟩
theorem below_ok {code:Rows} (hl:code.length<=1048576) (i:Nat) (h:Int) {n:Int} (h0:0<n) (h1:n<=256):Good (rn ⟨28,0,0⟩ [.int n,.sl code,.int (i:Int),.int h]) fun x=>∃ b:Int,∃ i':Nat,∃ h':Int,0<=b/\b<n/\x=(0,[.int b,.sl code,.int ((i':Nat):Int),.int h']):=by
 rw [e28_0_0];rw [H8 (by omega:¬ n<=0),H7 h1]
 simp only [H1,H2];refine Good.bind (byte_ok hl i h) ?_
 rintro _ ⟨b,i',h',b0,b1,rfl⟩
 simp only [nv0,nvS,dvI,dvB,dvS,dvL,B4];rw [H8 (by omega:¬ n=0)]
 exact Good.ret ⟨_,i',h',Int.tmod_nonneg _ b0,Int.tmod_lt_of_pos _ h0,rfl⟩
theorem once_ok {code:Rows} (hl:code.length<=1048576) (i:Nat) (h:Int) {n:Int} (h0:0<n) (h1:n<=256):Good (rn ⟨39,0,0⟩ [.int n,.sl code,.int (i:Int),.int h]) fun x=>∃ b:Bool,∃ i':Nat,∃ h':Int,x=(0,[.bool b,.sl code,.int ((i':Nat):Int),.int h']):=by
 rw [e39_0_0];refine Good.bind (below_ok hl i h h0 h1) ?_
 rintro _ ⟨b,i',h',b0,b1,rfl⟩
 exact Good.ret ⟨_,i',h',rfl⟩
theorem pick_ok {code:Rows} (hl:code.length<=1048576) (i:Nat) (h:Int) {l:Rows} (h0:0<l.length) (h1:l.length<=256) (m:Nat) (hs:∀ k,k<l.length->((nth (rowAt l k) 0).S).size<=m):Good (rn ⟨53,0,0⟩ [.sl l,.sl code,.int (i:Int),.int h]) fun x=>∃ s:ByteArray,∃ i':Nat,∃ h':Int,s.size<=m/\x=(0,[.str s,.sl code,.int ((i':Nat):Int),.int h']):=by
 rw [e53_0_0];refine Good.bind (below_ok hl i h (by omega:(0:Int)<(l.length:Int)) (by omega)) ?_
 rintro _ ⟨b,i',h',b0,b1,rfl⟩
 simp only [nv0,nvS,dvI,dvB,dvS,dvL,B4];rw [show inb b l.length=true from by simp [inb,b0,b1]]
 exact Good.ret ⟨_,i',h',hs b.toNat (by omega),rfl⟩
theorem pickI_ok {code:Rows} (hl:code.length<=1048576) (i:Nat) (h:Int) {l:Rows} (h0:0<l.length) (h1:l.length<=256) (hs:∀ k,k<l.length->-1000<=(nth (rowAt l k) 0).I/\(nth (rowAt l k) 0).I<=1000):Good (rn ⟨44,0,0⟩ [.sl l,.sl code,.int (i:Int),.int h]) fun x=>∃ n:Int,∃ i':Nat,∃ h':Int,-1000<=n/\n<=1000/\x=(0,[.int n,.sl code,.int ((i':Nat):Int),.int h']):=by
 rw [e44_0_0];refine Good.bind (below_ok hl i h (by omega:(0:Int)<(l.length:Int)) (by omega)) ?_
 rintro _ ⟨b,i',h',b0,b1,rfl⟩
 simp only [nv0,nvS,dvI,dvB,dvS,dvL,B4];rw [show inb b l.length=true from by simp [inb,b0,b1]]
 exact Good.ret ⟨_,i',h',(hs b.toNat (by omega)).1,(hs b.toNat (by omega)).2,rfl⟩
theorem pickT_ok {code:Rows} (hl:code.length<=1048576) (i:Nat) (h:Int) (ts:List Tm) (h0:0<ts.length) (h1:ts.length<=256):Good (rn ⟨71,0,0⟩ [.sl (ts.map Tm.row),.sl code,.int (i:Int),.int h]) fun x=>∃ t:Tm,∃ i':Nat,∃ h':Int,t∈ts/\x=(0,[.int t.k,.int t.n,.str t.s,.sl (t.as.map Tm.row),.sl code,.int ((i':Nat):Int),.int h']):=by
 rw [e71_0_0,B8];refine Good.bind (below_ok hl i h (by omega:(0:Int)<(ts.length:Int)) (by omega)) ?_
 rintro _ ⟨b,i',h',b0,b1,rfl⟩
 obtain ⟨n,rfl⟩:=Int.eq_ofNat_of_zero_le b0;have hn:n<ts.length:=by omega
 simp only [nv0,nvS,dvI,dvB,dvS,dvL,B4,inbN,hn,H3,H1,C1,rowAt_map hn,Tm.row_eq];exact Good.ret ⟨ts[n],i',h',C7 hn,rfl⟩
theorem new_ok {code:Rows} (hl:code.length<=1048576):Good (rn ⟨29,0,0⟩ [.sl code]) fun x=>∃ i':Nat,∃ h':Int,x=(0,[.sl code,.int ((i':Nat):Int),.int h']):=by
 have key:∀ (n i:Nat) (h:Int),i+n=code.length->∃ h':Int,rn ⟨29,0,1⟩ [.sl code,.int h,.int (i:Int)]=some (0,[.sl code,.int h']):=by
  intro n;induction n with
  | zero =>
   intro i h hi;rw [e29_0_1,H8 (by omega:¬(i:Int)<(code.length:Int))]
   exact ⟨_,rfl⟩
  | succ n ih =>
   intro i h hi;have hlt:i<code.length:=by omega
   rw [e29_0_1,H7 (by omega:(i:Int)<(code.length:Int))]
   simp only [H1,inbN,hlt,H3,wrap_succ hlt (by unfold maxLen; omega)]
   cases decide ((i:Int)<4000) with
   | true=>exact ih (i+1) _ (by omega)
   | false=>exact ⟨_,rfl⟩
 rw [e29_0_0];obtain ⟨h',e⟩:=key code.length 0 (IntKind.i64.wrap (26583+(code.length:Int))) (E7 _);simp only [D1] at e;rw [e];exact Good.ret ⟨0,h',rfl⟩
theorem r67 (s:ByteArray):rn ⟨67,0,0⟩ [.str s]=some (0,[.int 1,.int 0,.str s,.sl []]):=by rw [e67_0_0]
theorem r78 (s:ByteArray) (l:Rows):rn ⟨78,0,0⟩ [.str s,.sl l]=some (0,[.int 2,.int 0,.str s,.sl l]):=by rw [e78_0_0]
theorem r78b (s:ByteArray) (l:Rows):rn ⟨78,1,0⟩ [.str s,.sl l]=some (0,[.int 2,.int 0,.str s,.sl l]):=by rw [e78_1_0]
theorem r69 (s:ByteArray) (t:Tm):rn ⟨69,0,0⟩ [.str s,.int t.k,.int t.n,.str t.s,.sl (t.as.map Tm.row)]=some (0,[.int 2,.int 0,.str s,.sl [t.row]]):=by
 rw [e69_0_0];simp only [r78,r78b,nv0,nvS,dvI,dvB,dvS,dvL,B4,Tm.row_eq t]
theorem r70 (s:ByteArray) (t u:Tm):rn ⟨70,0,0⟩ [.str s,.int t.k,.int t.n,.str t.s,.sl (t.as.map Tm.row),.int u.k,.int u.n,.str u.s,.sl (u.as.map Tm.row)]=some (0,[.int 2,.int 0,.str s,.sl [t.row,u.row]]):=by
 rw [e70_0_0];simp only [r78,r78b,nv0,nvS,dvI,dvB,dvS,dvL,B4,Tm.row_eq t,Tm.row_eq u]
def DTk (code:Rows) (k m:Nat) (x:Nat × List D):Prop:=∃ t:Tm,∃ i':Nat,∃ h':Int,Dt k t/\t.nodes<=m/\x=(0,[.int t.k,.int t.n,.str t.s,.sl code,.int (i':Int),.int h',.sl (t.as.map Tm.row)])
theorem lfV {code:Rows} {k m:Nat} {s:ByteArray} {i:Nat} {h:Int} (hs:s.size<=k) (hm:1<=m):Good (some (0,[.int 1,.int 0,.str s,.sl code,.int (i:Int),.int h,.sl []])) (DTk code k m) :=
 Good.ret ⟨.mk 1 0 s [],i,h,.var hs,by simp [Tm.nodes,Tm.nodesL]; exact hm,rfl⟩
theorem lfC {code:Rows} {k m:Nat} {s:ByteArray} {i:Nat} {h:Int} (hs:s.size<=k) (hm:1<=m):Good (some (0,[.int 2,.int 0,.str s,.sl code,.int (i:Int),.int h,.sl []])) (DTk code k m) :=
 Good.ret ⟨.mk 2 0 s [],i,h,.app hs (by simp) (by simp),by simp [Tm.nodes,Tm.nodesL]; exact hm,rfl⟩
theorem lfW {code:Rows} {k m:Nat} {n:Int} {i:Nat} {h:Int} (h0:0<=n) (h1:n<=255) (hm:1<=m):Good (some (0,[.int 3,.int n,.str ⟨#[]⟩,.sl code,.int (i:Int),.int h,.sl []])) (DTk code k m) :=
 Good.ret ⟨.mk 3 n ⟨#[]⟩ [],i,h,.word h0 h1,by simp [Tm.nodes,Tm.nodesL]; exact hm,rfl⟩
theorem lf1 {code:Rows} {k m:Nat} {s:ByteArray} {t:Tm} {i:Nat} {h:Int} (hs:s.size<=k) (ht:Dt k t) (hm:t.nodes+1<=m):Good (some (0,[.int 2,.int 0,.str s,.sl code,.int (i:Int),.int h,.sl [t.row]])) (DTk code k m) :=
 Good.ret ⟨.mk 2 0 s [t],i,h,.app hs (by simp) (by simpa using ht),by simp [Tm.nodes,Tm.nodesL]; omega,rfl⟩
theorem lf2 {code:Rows} {k m:Nat} {s:ByteArray} {t u:Tm} {i:Nat} {h:Int} (hs:s.size<=k) (ht:Dt k t) (hu:Dt k u) (hm:t.nodes+u.nodes+1<=m):Good (some (0,[.int 2,.int 0,.str s,.sl code,.int (i:Int),.int h,.sl [t.row,u.row]])) (DTk code k m) :=
 Good.ret ⟨.mk 2 0 s [t,u],i,h,.app hs (by simp) (by simp [ht,hu]),by simp [Tm.nodes,Tm.nodesL]; omega,rfl⟩
theorem draw_ok {code:Rows} (hl:code.length<=1048576):∀ (d:Nat) (g:Bool) (i:Nat) (h:Int),d<=64->Good (rn ⟨83,0,0⟩ [.int (d:Int),.bool g,.sl code,.int (i:Int),.int h]) (DTk code 1 (2 ^ (d+1)-1)):=by
 intro d;induction d with
 | zero =>
  intro g i h hd;rw [e83_0_0,H7 (by decide:((0:Nat):Int)<2)]
  simp only [H1];repeat' (first
   | refine Good.ite (fun _=>?_) (fun _=>?_)
   | (refine Good.bind (once_ok hl _ _ (by decide) (by decide)) ?_; rintro _ ⟨b,i,h,rfl⟩; simp only [nv0,nvS,dvI,dvB,dvS,dvL,B4])
   | (refine Good.bind (below_ok hl _ _ (by decide) (by decide)) ?_; rintro _ ⟨b,i,h,_,_,rfl⟩; simp only [nv0,nvS,dvI,dvB,dvS,dvL,B4])
   | (refine Good.bind (pick_ok hl _ _ (by decide) (by decide) 1 (by decide)) ?_; rintro _ ⟨b,i,h,_,rfl⟩; simp only [nv0,nvS,dvI,dvB,dvS,dvL,B4])
   | (simp only [r67,r66,r78,r78b,nv0,nvS,dvI,dvB,dvS,dvL,B4]))
  all_goals (first | exact lfV (by assumption) (by decide) | exact lfC (by assumption) (by decide) | exact lfW (by assumption) (by omega) (by decide))
 | succ d ih =>
  intro g i h hd;have hp:2 ^ (d+1+1)=2*2 ^ (d+1):=by omega
  have h1:1<=2 ^ (d+1):=Nat.one_le_pow _ _ (by decide)
  rw [e83_0_0];simp only [H2,wrap_dec (show d<=64 by omega)]
  repeat' (first
   | refine Good.ite (fun _=>?_) (fun _=>?_)
   | (refine Good.bind (ih _ _ _ (by omega)) ?_; rintro _ ⟨t,i,h,_,_,rfl⟩; simp only [nv0,nvS,dvI,dvB,dvS,dvL,B4])
   | (refine Good.bind (once_ok hl _ _ (by decide) (by decide)) ?_; rintro _ ⟨b,i,h,rfl⟩; simp only [nv0,nvS,dvI,dvB,dvS,dvL,B4])
   | (refine Good.bind (below_ok hl _ _ (by decide) (by decide)) ?_; rintro _ ⟨b,i,h,_,_,rfl⟩; simp only [nv0,nvS,dvI,dvB,dvS,dvL,B4])
   | (refine Good.bind (pick_ok hl _ _ (by decide) (by decide) 1 (by decide)) ?_; rintro _ ⟨b,i,h,_,rfl⟩; simp only [nv0,nvS,dvI,dvB,dvS,dvL,B4])
   | (simp only [r67,r66,r78,r78b,r69,r70,nv0,nvS,dvI,dvB,dvS,dvL,B4]))
  all_goals (first | exact lfV (by assumption) (by omega) | exact lfC (by assumption) (by omega) | exact lfW (by assumption) (by omega) (by omega) | exact lf1 (by first | assumption | decide) (by assumption) (by omega) | exact lf2 (by first | assumption | decide) (by assumption) (by assumption) (by omega))
end Go.Q.S
end
