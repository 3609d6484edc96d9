/- The functions of this seat, as that machine runs them. -/
import Derived.Test.YtnjedojmdcpcaaaGreatfF
import Derived.Test.YtnjedojmdcpcaaaGreatMA
set_option linter.unusedVariables false
set_option linter.unusedSimpArgs false
namespace Go.Q.S
open Go Go.Q Go.Proofs
theorem rCloneS (xs:Rows) (h:xs.length<=274877906944):rn ⟨258,0,0⟩ [.sl xs]=some (0,[.sl xs]):=by
 rw [e258_0_0];have hb:Nat.ble (([]:Rows).length+xs.length) M63=true:=Nat.ble_eq_true_of_le (by unfold M63; simpa using h)
 rw [hb];cases xs with
 | nil=>simp [both]
 | cons x xs=>rfl
theorem rCloneI (xs:Rows) (h:xs.length<=274877906944):rn ⟨255,0,0⟩ [.sl xs]=some (0,[.sl xs]):=by
 rw [e255_0_0];have hb:Nat.ble (([]:Rows).length+xs.length) M63=true:=Nat.ble_eq_true_of_le (by unfold M63; simpa using h)
 rw [hb];cases xs with
 | nil=>simp [both]
 | cons x xs=>rfl
theorem rSort (ls:List D):rn ⟨312,0,0⟩ ls=sortG 0 ls:=by rw [rn_eq]; rfl
theorem rComp (ls:List D):rn ⟨313,0,0⟩ ls=compG 0 ls:=by rw [rn_eq]; rfl
theorem r246 (l:List ByteArray) (h:l.length<=274877906944):rn ⟨246,0,0⟩ [.sl (l.map sRow)]=some (0,[.sl ((srtN l).map sRow)]):=by
 rw [e246_0_0,rCloneS _ (by simpa using h)]
 simp only [nth0,nth1,nth2,nth3,nth4,nth5,nth6,nth7,nth8,nth9,nth10,nth11,nth12,nth13,nth14,nth15,nth16,nth17,nth18,nth19,nth20,nth21,nth22,nth23,nth24,nth25,dI,dB,dS,dL,Option.bind_some];rw [rSort,sortG_eq 0 l (by omega)]
 simp only [nth0,nth1,nth2,nth3,nth4,nth5,nth6,nth7,nth8,nth9,nth10,nth11,nth12,nth13,nth14,nth15,nth16,nth17,nth18,nth19,nth20,nth21,nth22,nth23,nth24,nth25,dI,dB,dS,dL,Option.bind_some];rw [rComp,compG_eq 0 _ (by simp; omega),compact_sort]
 simp only [nth0,nth1,nth2,nth3,nth4,nth5,nth6,nth7,nth8,nth9,nth10,nth11,nth12,nth13,nth14,nth15,nth16,nth17,nth18,nth19,nth20,nth21,nth22,nth23,nth24,nth25,dI,dB,dS,dL,Option.bind_some];rw [rowS_map]; rfl
theorem r236 (l:List ByteArray) (h:l.length<=1073741824):rn ⟨236,0,0⟩ [.sl (l.map sRow)]=some (0,[.sl ((srtN l).map sRow)]):=by
 rw [e236_0_0,sRow_map];unfold srtN;generalize hks:l.map toK=ks;have hk:ks.length<=1073741824:=by rw [<- hks]; simpa using h
 have hin:∀ (i:Nat) (hi:i<ks.length) (acc:List Ky),acc.length<=1073741824->∀ n a,a+n=acc.length->rn ⟨236,0,3⟩ [.sl (ks.map rowS),.int (i:Int),.int (a:Int),.sl (acc.map rowS)] =
  some (0,[.sl (ks.map rowS),.int (i:Int),.int ((a+ldK ks[i] (acc.drop a):Nat):Int),.sl (acc.map rowS)]):=by
  intro i hi acc hacc n;induction n with
  | zero =>
   intro a ha;have:a=acc.length:=by omega
   subst this;rw [e236_0_3];simp [ldK]
  | succ n ih =>
   intro a ha;have hlt:a<acc.length:=by omega
   rw [e236_0_3,ldK_drop _ _ _ hlt];simp only [Int.toNat_natCast,rowAt_map hi,rowAt_map hlt,List.length_map,inbN,hi,hlt,Int.ofNat_lt,decide_true,cond_true,nth0,nth1,nth2,nth3,nth4,nth5,nth6,nth7,nth8,nth9,nth10,nth11,nth12,nth13,nth14,nth15,nth16,nth17,nth18,nth19,nth20,nth21,nth22,nth23,nth24,nth25,dI,dB,dS,dL,Option.bind_some,rowS_sRow,sRow,ltB_ofK,wrap_succ hlt (by unfold maxLen; omega)]
   by_cases hx:acc[a]<ks[i]
   · rw [if_pos hx,decide_eq_true hx,cond_true,ih (a+1) (by omega)]
     have e:a+1+ldK ks[i] (acc.drop (a+1))=a+(ldK ks[i] (acc.drop (a+1))+1):=by omega
     rw [e]
   · rw [if_neg hx,decide_eq_false hx,cond_false]; rfl
 have hout:∀ n (i:Nat) (acc:List Ky),i+n=ks.length->acc.length<=i->rn ⟨236,0,1⟩ [.sl (ks.map rowS),.int (i:Int),.sl (acc.map rowS)]=some (0,[.sl ((srtK (ks.drop i) acc).map rowS)]):=by
  intro n;induction n with
  | zero =>
   intro i acc hi ha;have:i=ks.length:=by omega
   subst this;rw [e236_0_1];simp [srtK]
  | succ n ih =>
   intro i acc hi ha;have hlt:i<ks.length:=by omega
   have hI:=hin i hlt acc (by omega) acc.length 0 (by omega)
   rw [List.drop_zero,Nat.zero_add] at hI;rw [e236_0_1];have hc:ldK ks[i] acc<=acc.length:=ldK_le _ _;have hz:((0:Nat):Int)=0:=rfl;rw [hz] at hI;rw [hI,List.drop_eq_getElem_cons hlt];have hins:=insK_ld ks[i] acc;have hil:(insK ks[i] acc).length<=i+1:=by
    rw [hins]; split
    · omega
    · simp; omega
   have ih':=ih (i+1) (insK ks[i] acc) (by omega) hil
   simp only [List.length_map,Int.ofNat_lt,hlt,decide_true,cond_true,nth0,nth1,nth2,nth3,nth4,nth5,nth6,nth7,nth8,nth9,nth10,nth11,nth12,nth13,nth14,nth15,nth16,nth17,nth18,nth19,nth20,nth21,nth22,nth23,nth24,nth25,dI,dB,dS,dL,Option.bind_some,Nat.beq_refl,Int.toNat_natCast,wrap_succ hlt (by unfold maxLen; omega),srtK] at ih' ⊢
   rw [<- ih'];generalize hcc:ldK ks[i] acc=c at hc hins ⊢;have h0:(0:Int)<=(c:Int):=by omega
   have h3:(c:Int)<=(acc.length:Int):=by omega
   have hb2:Nat.ble (([]:Rows).length+(List.drop (Int.toNat 0) (List.take c (acc.map rowS))).length) M63=true:=Nat.ble_eq_true_of_le (by unfold M63; simp; omega)
   have hb3:∀ z:Rows,z.length=1->Nat.ble (([]++List.drop (Int.toNat 0) (List.take c (acc.map rowS)):Rows).length+z.length) M63=true:=fun z hz=>Nat.ble_eq_true_of_le (by unfold M63; simp [hz]; omega)
   have hb4:∀ z:Rows,z.length=1->Nat.ble ((([]++List.drop (Int.toNat 0) (List.take c (acc.map rowS)):Rows)++z).length+(List.drop c (List.take acc.length (acc.map rowS))).length) M63=true:=fun z hz=>Nat.ble_eq_true_of_le (by unfold M63; simp [hz]; omega)
   have hfin:([]++List.drop (Int.toNat 0) (List.take c (acc.map rowS)):Rows)++[rowS ks[i]]++List.drop c (List.take acc.length (acc.map rowS))=(List.take c acc++[ks[i]]++List.drop c acc).map rowS:=by
    simp [List.map_take,List.map_drop,List.take_of_length_le]
   simp only [rowAt_map hlt,inbN,hlt,decide_true,cond_true];by_cases h1:c<acc.length
   · simp only [decide_eq_true h1,cond_true,rowAt_map h1,nth0,nth1,nth2,nth3,nth4,nth5,nth6,nth7,nth8,nth9,nth10,nth11,nth12,nth13,nth14,nth15,nth16,nth17,nth18,nth19,nth20,nth21,nth22,nth23,nth24,nth25,dI,dB,dS,dL,Option.bind_some,rowS_sRow,sRow,ofK_inj]
     rw [List.getElem?_eq_getElem h1] at hins;by_cases h2:acc[c]=ks[i]
     · rw [decide_eq_true h2,cond_true,hins,if_pos (by rw [h2])]
     · rw [decide_eq_false h2,cond_false,hins,if_neg (by simpa using h2)]
       simp only [h0,h3,Int.le_refl,decide_true,Bool.and_self,cond_true];rw [hb2,hb3 _ rfl,hb4 _ rfl];simp only [cond_true];rw [<- hfin]; rfl
   · simp only [decide_eq_false h1,cond_false]
     rw [List.getElem?_eq_none (by omega)] at hins
     rw [hins,if_neg (by simp)]
     simp only [h0,h3,Int.le_refl,decide_true,Bool.and_self,cond_true];rw [hb2];simp only [cond_true,rowAt_map hlt,nth0,nth1,nth2,nth3,nth4,nth5,nth6,nth7,nth8,nth9,nth10,nth11,nth12,nth13,nth14,nth15,nth16,nth17,nth18,nth19,nth20,nth21,nth22,nth23,nth24,nth25,dI,dB,dS,dL,Option.bind_some,rowS_sRow,sRow];rw [hb3 _ rfl,hb4 _ rfl];simp only [cond_true];rw [<- hfin]; rfl
 have:=hout ks.length 0 [] (by omega) (Nat.zero_le _)
 simp only [Int.natCast_zero,List.map_nil,List.drop_zero] at this;rw [this];simp only [nth0,nth1,nth2,nth3,nth4,nth5,nth6,nth7,nth8,nth9,nth10,nth11,nth12,nth13,nth14,nth15,nth16,nth17,nth18,nth19,nth20,nth21,nth22,nth23,nth24,nth25,dI,dB,dS,dL,Option.bind_some,Nat.beq_refl,cond_true];rw [rowS_map]
end Go.Q.S
