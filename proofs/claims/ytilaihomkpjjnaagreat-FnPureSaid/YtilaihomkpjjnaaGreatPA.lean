/- The functions of this seat, as that machine runs them, part 1. -/
import Derived.Test.YtilaihomkpjjnaaGreatQC
import Derived.Test.YtilaihomkpjjnaaGreatfpX2
import Derived.Test.YtilaihomkpjjnaaGreatMA
set_option linter.unusedVariables false
set_option linter.unusedSimpArgs false
open Bool renaming and_eq_true->B7,not_true->E1,true_and->F4,not_false->J8,and_true->N0,false_eq_true->Q4
open Int renaming toNat_natCast->B8,ofNat_lt->C0,natCast_zero->C6,toNat->O2,tdiv_eq_ediv_of_nonneg->Q5
open List renaming length_map->B6,drop_eq_getElem_cons->B9,length_cons->C1,map_cons->C2,getElem_mem->C3,length_nil->C7,drop_length->C8,map_nil->D1,drop_zero->D2,map_append->D5,getD_cons_zero->D6,getElem?_eq_some_iff->D7,getD_cons_succ->D8,nil_append->D9,append_assoc->E3,length_append->E5,getElem?_eq_getElem->F2,cons_append->F5,length_eq_zero_iff->F8,append_nil->G9,all_cons->J6,sum_cons->J7,map_map->K6,all_nil->N4,drop_eq_nil_of_le->N7,getD->O1,filter_cons->O8,drop_succ_cons->P1,cons->P2,find?_cons->P4,getElem_map->Q2,getElem_cons_zero->R5,take_zero->R7,range'->R9,find?_nil->S0,pairwise_iff_getElem->S3,findIdx?_nil->T3
open Nat renaming lt_irrefl->D3,zero_add->D4,beq_refl->E2,beq->E6,ble->F6,le_refl->F7,ble_eq_true_of_le->F9,le_trans->G8,zero_le->K0,blt->K2,add_zero->N2,mul_le_mul->T1
open Option renaming bind_some->B5,some->C9,map_some->K7,getD_some->O6,isSome_some->P6
section
namespace Go.Q.S
open Go Go.Q Go.Proofs
end Go.Q.S
end
section
namespace Go.Q.S
open Go Go.Q Go.Proofs
theorem xe (xs:aa) (h:xs.length<=274877906944):rn ⟨115,0,0⟩ [.sl xs]=some (0,[.sl xs]):=by
 rw [e115_0_0];have hb:F6 (([]:aa).length+xs.length) M63=true:=F9 (by unfold M63; simpa using h)
 rw [hb];cases xs with
 | nil=>simp [px]
 | cons x xs=>rfl
theorem Ee (xs:aa) (h:xs.length<=274877906944):rn ⟨81,0,0⟩ [.sl xs]=some (0,[.sl xs]):=by
 rw [e81_0_0];have hb:F6 (([]:aa).length+xs.length) M63=true:=F9 (by unfold M63; simpa using h)
 rw [hb];cases xs with
 | nil=>simp [px]
 | cons x xs=>rfl
theorem Wg (ls:List D):rn ⟨162,0,0⟩ ls=Au 0 ls:=by rw [rn_eq]; rfl
theorem Wh (ls:List D):rn ⟨163,0,0⟩ ls=Av 0 ls:=by rw [rn_eq]; rfl
theorem r103 (l:List ByteArray) (h:l.length<=274877906944):rn ⟨103,0,0⟩ [.sl (l.map ai)]=some (0,[.sl ((cm l).map ai)]):=by
 rw [e103_0_0,xe _ (by simpa using h)]
 simp only [zy,Dg,Dh,Di,Dj,Dk,Dl,Dm,Dn,Do,rr,rx,ry,rz,sa,sc,sd,se,sf,si,sj,sk,sm,sn,sq,su,dI,dB,dS,dL,B5];rw [Wg,Pm 0 l (by omega)]
 simp only [zy,Dg,Dh,Di,Dj,Dk,Dl,Dm,Dn,Do,rr,rx,ry,rz,sa,sc,sd,se,sf,si,sj,sk,sm,sn,sq,su,dI,dB,dS,dL,B5];rw [Wh,Pn 0 _ (by simp; omega),Dq]
 simp only [zy,Dg,Dh,Di,Dj,Dk,Dl,Dm,Dn,Do,rr,rx,ry,rz,sa,sc,sd,se,sf,si,sj,sk,sm,sn,sq,su,dI,dB,dS,dL,B5];rw [Gm]; rfl
theorem r125 (l:List ByteArray) (h:l.length<=1073741824):rn ⟨125,0,0⟩ [.sl (l.map ai)]=some (0,[.sl ((cm l).map ai)]):=by
 rw [e125_0_0,Gn];unfold cm;generalize hks:l.map toK=ks;have hk:ks.length<=1073741824:=by rw [<- hks]; simpa using h
 have hin:∀ (i:Nat) (hi:i<ks.length) (acc:List Ky),acc.length<=1073741824->∀ n a,a+n=acc.length->rn ⟨125,0,3⟩ [.sl (ks.map fm),.int (i:Int),.int (a:Int),.sl (acc.map fm)] =
  some (0,[.sl (ks.map fm),.int (i:Int),.int ((a+ldK ks[i] (acc.drop a):Nat):Int),.sl (acc.map fm)]):=by
  intro i hi acc hacc n;induction n with
  | zero =>
   intro a ha;have:a=acc.length:=by omega
   subst this;rw [e125_0_3];simp [ldK]
  | succ n ih =>
   intro a ha;have hlt:a<acc.length:=by omega
   rw [e125_0_3,Pp _ _ _ hlt];simp only [B8,ab hi,ab hlt,B6,ax,hi,hlt,C0,H3,H1,zy,Dg,Dh,Di,Dj,Dk,Dl,Dm,Dn,Do,rr,rx,ry,rz,sa,sc,sd,se,sf,si,sj,sk,sm,sn,sq,su,dI,dB,dS,dL,B5,pd,ai,Sa,af hlt (by unfold maxLen; omega)]
   by_cases hx:acc[a]<ks[i]
   · rw [H5 hx,H7 hx,H1,ih (a+1) (by omega)]
     have e:a+1+ldK ks[i] (acc.drop (a+1))=a+(ldK ks[i] (acc.drop (a+1))+1):=by omega
     rw [e]
   · rw [H6 hx,H8 hx,H2]; rfl
 have hout:∀ n (i:Nat) (acc:List Ky),i+n=ks.length->acc.length<=i->rn ⟨125,0,1⟩ [.sl (ks.map fm),.int (i:Int),.sl (acc.map fm)]=some (0,[.sl ((pm (ks.drop i) acc).map fm)]):=by
  intro n;induction n with
  | zero =>
   intro i acc hi ha;have:i=ks.length:=by omega
   subst this;rw [e125_0_1];simp [pm]
  | succ n ih =>
   intro i acc hi ha;have hlt:i<ks.length:=by omega
   have hI:=hin i hlt acc (by omega) acc.length 0 (by omega)
   rw [D2,D4] at hI;rw [e125_0_1];have hc:ldK ks[i] acc<=acc.length:=Po _ _;have hz:((0:Nat):Int)=0:=rfl;rw [hz] at hI;rw [hI,B9 hlt];have hins:=Ki ks[i] acc;have hil:(jz ks[i] acc).length<=i+1:=by
    rw [hins]; split
    · omega
    · simp; omega
   have ih':=ih (i+1) (jz ks[i] acc) (by omega) hil
   simp only [B6,C0,hlt,H3,H1,zy,Dg,Dh,Di,Dj,Dk,Dl,Dm,Dn,Do,rr,rx,ry,rz,sa,sc,sd,se,sf,si,sj,sk,sm,sn,sq,su,dI,dB,dS,dL,B5,E2,B8,af hlt (by unfold maxLen; omega),pm] at ih' ⊢
   rw [<- ih'];generalize hcc:ldK ks[i] acc=c at hc hins ⊢;have h0:(0:Int)<=(c:Int):=by omega
   have h3:(c:Int)<=(acc.length:Int):=by omega
   have hb2:F6 (([]:aa).length+(List.drop (O2 0) (List.take c (acc.map fm))).length) M63=true:=F9 (by unfold M63; simp; omega)
   have hb3:∀ z:aa,z.length=1->F6 (([]++List.drop (O2 0) (List.take c (acc.map fm)):aa).length+z.length) M63=true:=fun z hz=>F9 (by unfold M63; simp [hz]; omega)
   have hb4:∀ z:aa,z.length=1->F6 ((([]++List.drop (O2 0) (List.take c (acc.map fm)):aa)++z).length+(List.drop c (List.take acc.length (acc.map fm))).length) M63=true:=fun z hz=>F9 (by unfold M63; simp [hz]; omega)
   have hfin:([]++List.drop (O2 0) (List.take c (acc.map fm)):aa)++[fm ks[i]]++List.drop c (List.take acc.length (acc.map fm))=(List.take c acc++[ks[i]]++List.drop c acc).map fm:=by
    simp [List.map_take,List.map_drop,List.take_of_length_le]
   simp only [ab hlt,ax,hlt,H3,H1];by_cases h1:c<acc.length
   · simp only [H7 h1,H1,ab h1,zy,Dg,Dh,Di,Dj,Dk,Dl,Dm,Dn,Do,rr,rx,ry,rz,sa,sc,sd,se,sf,si,sj,sk,sm,sn,sq,su,dI,dB,dS,dL,B5,pd,ai,Rz]
     rw [F2 h1] at hins;by_cases h2:acc[c]=ks[i]
     · rw [H7 h2,H1,hins,H5 (by rw [h2])]
     · rw [H8 h2,H2,hins,H6 (by simpa using h2)]
       simp only [h0,h3,Int.le_refl,H3,Bool.and_self,H1];rw [hb2,hb3 _ rfl,hb4 _ rfl];simp only [H1];rw [<- hfin]; rfl
   · simp only [H8 h1,H2]
     rw [List.getElem?_eq_none (by omega)] at hins
     rw [hins,H6 (by simp)]
     simp only [h0,h3,Int.le_refl,H3,Bool.and_self,H1];rw [hb2];simp only [H1,ab hlt,zy,Dg,Dh,Di,Dj,Dk,Dl,Dm,Dn,Do,rr,rx,ry,rz,sa,sc,sd,se,sf,si,sj,sk,sm,sn,sq,su,dI,dB,dS,dL,B5,pd,ai];rw [hb3 _ rfl,hb4 _ rfl];simp only [H1];rw [<- hfin]; rfl
 have:=hout ks.length 0 [] (by omega) (K0 _)
 simp only [C6,D1,D2] at this;rw [this];simp only [zy,Dg,Dh,Di,Dj,Dk,Dl,Dm,Dn,Do,rr,rx,ry,rz,sa,sc,sd,se,sf,si,sj,sk,sm,sn,sq,su,dI,dB,dS,dL,B5,E2,H1];rw [Gm]
end Go.Q.S
end
section
namespace Go.Q.S
open Go Go.Q Go.Proofs
theorem r36:∀ t:Tm,bb t->rn ⟨36,0,0⟩ [.int t.k,.int t.n,.str t.s,.sl (t.as.map Tm.row)]=some (0,[.int t.k,.int t.n,.str t.s,.sl (t.as.map Tm.row)]):=Tm.ind fun t ih h=>by
 have hl:=h.len;show rn _ _=_
 rw [e36_0_0];have hf:=jc (F:=fun i acc=>rn ⟨36,0,1⟩ [.sl (t.as.map Tm.row),.int ((t.as.map Tm.row)).length,.int (i:Int),.int 0,.int 0,.str (⟨#[]⟩:ByteArray),.int t.k,.int t.n,.str t.s,.sl [],.sl acc]) (xs:=t.as) Tm.row (K:=fun acc=>some (0,[.int (0),.int (0),.str ((⟨#[]⟩:ByteArray)),.int (t.k),.int (t.n),.str (t.s),.sl ([]),.sl (acc)])) (fun i hi acc ha=>?_) (fun acc=>?_)
 · simp only [C6] at hf; rw [hf]; rfl
 · have hc:=ih _ (C3 hi) (h.sub (C3 hi))
   rw [e36_0_1];simp only [B8,ab hi,Tm.row_eq,B6,ax,hi,C0,H3,H1,nth,D6,D8,D.I,D.S,D.L,D.B,af hi (by unfold maxLen; omega),hc,B5,C1,C7]
   rw [show F6 (acc.length+(0+1)) M63=true from F9 (by unfold M63; omega)]
   rfl
 · skip
   rw [e36_0_1];simp
theorem r33:∀ t:Tm,bb t->rn ⟨33,0,0⟩ [.int t.k,.int t.n,.str t.s,.sl (t.as.map Tm.row)]=some (0,[.int t.k,.int t.n,.str t.s,.sl (t.as.map Tm.row)]):=Tm.ind fun t ih h=>by
 have hl:=h.len;show rn _ _=_
 rw [e33_0_0];have hf:=jc (F:=fun i acc=>rn ⟨33,0,1⟩ [.int (i:Int),.int t.k,.int t.n,.str t.s,.sl (t.as.map Tm.row),.int 0,.int 0,.str (⟨#[]⟩:ByteArray),.sl acc,.sl []]) (xs:=t.as) Tm.row (K:=fun acc=>some (0,[.int (t.k),.int (t.n),.str (t.s),.sl ((t.as.map Tm.row)),.int (0),.int (0),.str ((⟨#[]⟩:ByteArray)),.sl (acc),.sl ([])])) (fun i hi acc ha=>?_) (fun acc=>?_)
 · simp only [C6] at hf; rw [hf]; rfl
 · have hc:=ih _ (C3 hi) (h.sub (C3 hi))
   rw [e33_0_1];simp only [B8,ab hi,Tm.row_eq,B6,ax,hi,C0,H3,H1,nth,D6,D8,D.I,D.S,D.L,D.B,af hi (by unfold maxLen; omega),hc,B5,C1,C7]
   rw [show F6 (acc.length+(0+1)) M63=true from F9 (by unfold M63; omega)]
   rfl
 · skip
   rw [e33_0_1];simp
theorem r164 (t:Tm):rn ⟨164,0,0⟩ [.int t.k,.int t.n,.str t.s,.sl (t.as.map Tm.row)]=some (0,[.bool (isW t)]):=by
 show rn _ _=_
 rw [e164_0_0];simp only [B6];unfold isW;have e:decide ((t.as.length:Int)=0)=decide (t.as.length=0):=by simp
 rw [e];cases decide (t.k=3) <;> cases decide (0<=t.n) <;> cases decide (t.n<4) <;> cases decide (t.s=⟨#[]⟩) <;> cases decide (t.as.length=0) <;> rfl
theorem r32 (a b c:Int):rn ⟨32,0,0⟩ [.int a,.int b,.int c]=some (0,[.bool (decide (b<=a)&&decide (a<=c))]):=by
 show rn _ _=_
 rw [e32_0_0];cases decide (b<=a) <;> rfl
theorem r130 (t:Tm):rn ⟨130,0,0⟩ [.int t.k,.int t.n,.str t.s,.sl (t.as.map Tm.row)]=some (0,[.bool (isW t)]):=by
 show rn _ _=_
 rw [e130_0_0];have hc:=r32 t.n 0 3;simp only [hc,B5,nth,D6,D8,D.I,D.S,D.L,D.B,B6];unfold isW;have e:decide ((t.as.length:Int)=0)=decide (t.as.length=0):=by simp
 have e2:decide (t.n<=3)=decide (t.n<4):=decide_eq_decide.2 (by omega)
 rw [e,e2];cases decide (t.k=3) <;> cases decide (0<=t.n) <;> cases decide (t.n<4) <;> cases decide (t.s=⟨#[]⟩) <;> cases decide (t.as.length=0) <;> rfl
theorem r101 (s:ByteArray):rn ⟨101,0,0⟩ [.str s]=some (0,[.bool (isB s)]):=by
 show rn _ _=_
 rw [e101_0_0];unfold isB Be un Ix;cases decide (s=(⟨#[112,108,117,115]⟩:ByteArray)) <;> cases decide (s=(⟨#[109,105,110,117,115]⟩:ByteArray)) <;> cases decide (s=(⟨#[116,105,109,101,115]⟩:ByteArray)) <;> rfl
theorem r129 (s:ByteArray):rn ⟨129,0,0⟩ [.str s]=some (0,[.bool (isB s)]):=by
 show rn _ _=_
 rw [e129_0_0];unfold isB Be un Ix;cases decide (s=(⟨#[112,108,117,115]⟩:ByteArray)) <;> cases decide (s=(⟨#[109,105,110,117,115]⟩:ByteArray)) <;> cases decide (s=(⟨#[116,105,109,101,115]⟩:ByteArray)) <;> rfl
theorem r165 (s:ByteArray) {a b:Int} (ha:0<=a) (ha':a<4) (hb:0<=b) (hb':b<4):rn ⟨165,0,0⟩ [.str s,.int a,.int b]=some (0,[.int (cmp s a b)]):=by
 show rn _ _=_
 rw [e165_0_0];unfold cmp Be un;have h4:(!decide ((4:Int)=0))=true:=rfl;simp only [h4,H1];obtain rfl | rfl | rfl | rfl:a=0\/a=1\/a=2\/a=3:=by omega
 all_goals
  obtain rfl | rfl | rfl | rfl:b=0\/b=1\/b=2\/b=3:=by omega
  all_goals
   by_cases h1:s=(⟨#[112,108,117,115]⟩:ByteArray)
   · simp only [h1,H3,H1,if_true]; rfl
   · by_cases h2:s=(⟨#[109,105,110,117,115]⟩:ByteArray)
     · simp only [h1,h2,H3,H4,H1,H2,if_true,if_false]; rfl
     · simp only [h1,h2,H4,H2,if_false]; rfl
theorem r132 (s:ByteArray) {a b:Int} (ha:0<=a) (ha':a<4) (hb:0<=b) (hb':b<4):rn ⟨132,0,0⟩ [.str s,.int a,.int b]=some (0,[.int (cmp s a b)]):=by
 show rn _ _=_
 rw [e132_0_0];unfold cmp Be un;have h4:(!decide ((4:Int)=0))=true:=rfl;simp only [h4,H1];obtain rfl | rfl | rfl | rfl:a=0\/a=1\/a=2\/a=3:=by omega
 all_goals
  obtain rfl | rfl | rfl | rfl:b=0\/b=1\/b=2\/b=3:=by omega
  all_goals
   by_cases h1:s=(⟨#[112,108,117,115]⟩:ByteArray)
   · simp only [h1,H3,H1,if_true]; rfl
   · by_cases h2:s=(⟨#[109,105,110,117,115]⟩:ByteArray)
     · simp only [h1,h2,H3,H4,H1,H2,if_true,if_false]; rfl
     · simp only [h1,h2,H4,H2,if_false]; rfl
theorem r166 (l:List Bnd) (hl:l.length<=1048576) (s:ByteArray):rn ⟨166,0,0⟩ [.sl (l.map Bnd.row),.str s]=match bnd l s with
 | some t=>some (0,[.int t.k,.int t.n,.str t.s,.sl (t.as.map Tm.row),.bool true])
 | none=>some (0,[.int 0,.int 0,.str ⟨#[]⟩,.sl [],.bool false]):=by
 show rn _ _=_
 rw [e166_0_0];have hf:=Bf (F:=fun i=>rn ⟨166,0,1⟩ [.str s,.sl (l.map Bnd.row),.int ((l.map Bnd.row)).length,.int (i:Int),.int 0,.int 0,.str (⟨#[]⟩:ByteArray),.sl []]) (xs:=l) (p:=fun b=>decide (b.1=s)) (A:=some (0,[.int (0),.int (0),.str ((⟨#[]⟩:ByteArray)),.sl ([])])) (B:=fun i b=>some (1,[.int b.2.k,.int b.2.n,.str b.2.s,.sl (b.2.as.map Tm.row)])) (fun i hi=>?_) ?_
 · simp only [C6] at hf
   rw [Gf];rcases hf with ⟨h1,h2⟩|⟨i,hi,h1,h2⟩
   · rw [h1,h2]; rfl
   · rw [h1,h2]; rfl
 · skip
   rw [e166_0_1];simp only [B8,ab hi,ii,B6,ax,hi,C0,H3,H1,nth,D6,D8,D.I,D.S,D.L,D.B,af hi (by unfold maxLen; omega)]
 · skip
   rw [e166_0_1];simp
theorem r172 (l:List Bnd) (hl:l.length<=1048576) (s:ByteArray):(bnd l s=none/\rn ⟨172,0,0⟩ [.sl (l.map Bnd.row),.str s]=some (0,[.int (-1)]))\/∃ i,∃ hi:i<l.length,bnd l s=some l[i].2/\rn ⟨172,0,0⟩ [.sl (l.map Bnd.row),.str s]=some (0,[.int (i:Int)]):=by
 have hf:=Bf (F:=fun i=>rn ⟨172,0,1⟩ [.sl (l.map Bnd.row),.str s,.int (i:Int)]) (xs:=l) (p:=fun b=>decide (b.1=s)) (A:=some (0,[])) (B:=fun i b=>some (1,[.int (i:Int)])) (fun i hi=>?_) ?_
 · simp only [C6] at hf
   rw [Gf];rcases hf with ⟨h1,h2⟩|⟨i,hi,h1,h2⟩
   · left
     refine ⟨by rw [h1]; rfl,?_⟩
     show rn _ _=_
     rw [e172_0_0];rw [h2]; rfl
   · right
     refine ⟨i,hi,by rw [h1]; rfl,?_⟩
     show rn _ _=_
     rw [e172_0_0];rw [h2]; rfl
 · skip
   rw [e172_0_1];simp only [B8,ab hi,ii,B6,ax,hi,C0,H3,H1,nth,D6,D8,D.I,D.S,D.L,D.B,af hi (by unfold maxLen; omega)]
 · skip
   rw [e172_0_1];simp
theorem r133 (l:List Bnd) (hl:l.length<=1048576) (hs:∀ b∈l,bb b.2) (s:ByteArray):rn ⟨133,0,0⟩ [.sl (l.map Bnd.row),.str s]=match bnd l s with
 | some t=>some (0,[.int t.k,.int t.n,.str t.s,.bool true,.sl (t.as.map Tm.row)])
 | none=>some (0,[.int 0,.int 0,.str ⟨#[]⟩,.bool false,.sl []]):=by
 show rn _ _=_
 rw [e133_0_0];rcases r172 l hl s with ⟨h1,h2⟩|⟨i,hi,h1,h2⟩
 · skip
   rw [h1,h2]; rfl
 · skip
   have hc:=r33 l[i].2 (hs _ (C3 hi));rw [h1,h2];have hn:¬((i:Int)<0):=by omega
   simp only [B5,nth,D6,D8,D.I,D.S,D.L,D.B,B8,ab hi,ii,B6,ax,hi,hn,H3,H4,H1,H2,hc]
theorem r112 (l:List Bnd) (hl:l.length<=1048576) (hs:∀ b∈l,bb b.2):∀ t:Tm,bb t->rn ⟨112,0,0⟩ [.sl (l.map Bnd.row),.int t.k,.int t.n,.str t.s,.sl (t.as.map Tm.row)]=some (0,[.int (aS l t).k,.int (aS l t).n,.str (aS l t).s,.sl ((aS l t).as.map Tm.row)]):=Tm.ind fun t ih h=>by
 have hlt:=h.len;show rn _ _=_
 rw [e112_0_0];have hf:=jc (F:=fun i acc=>rn ⟨112,0,1⟩ [.sl (l.map Bnd.row),.sl (t.as.map Tm.row),.int ((t.as.map Tm.row)).length,.int (i:Int),.int 0,.int 0,.str (⟨#[]⟩:ByteArray),.int t.k,.int t.n,.str t.s,.sl [],.sl acc]) (xs:=t.as) (fun x=>(aS l x).row) (K:=fun acc=>some (0,[.int (0),.int (0),.str ((⟨#[]⟩:ByteArray)),.int (t.k),.int (t.n),.str (t.s),.sl ([]),.sl (acc)])) (fun i hi acc ha=>?_) (fun acc=>?_)
 · simp only [C6] at hf
   have hb:=r166 l hl t.s;rw [ej];by_cases hk:t.k=1
   · rw [H5 hk]
     cases hq:bnd l t.s with
     | none =>
      rw [hq] at hb;simp only at hb;simp only [H7 hk,H1,hb,B5,nth,D6,D8,D.I,D.S,D.L,D.B,H2,hf];simp [Tm.k,Tm.n,Tm.s,Tm.as,Function.comp_def]
     | some u =>
      rw [hq] at hb;simp only at hb;obtain ⟨b,hbm,rfl⟩:=et hq;have hcp:=r36 b.2 (hs b hbm);simp only [H7 hk,H1,hb,B5,nth,D6,D8,D.I,D.S,D.L,D.B,hcp]
   · rw [H6 hk]
     simp only [H8 hk,H2,hf,B5,nth,D6,D8,D.I,D.S,D.L,D.B];simp [Tm.k,Tm.n,Tm.s,Tm.as,Function.comp_def]
 · have hc:=ih _ (C3 hi) (h.sub (C3 hi))
   rw [e112_0_1];simp only [B8,ab hi,Tm.row_eq,B6,ax,hi,C0,H3,H1,nth,D6,D8,D.I,D.S,D.L,D.B,af hi (by unfold maxLen; omega),hc,B5,C1,C7]
   rw [show F6 (acc.length+(0+1)) M63=true from F9 (by unfold M63; omega)]
   rfl
 · skip
   rw [e112_0_1];simp
theorem r70 (l:List Bnd) (hl:l.length<=1048576) (hs:∀ b∈l,bb b.2):∀ t:Tm,bb t->rn ⟨70,0,0⟩ [.sl (l.map Bnd.row),.int t.k,.int t.n,.str t.s,.sl (t.as.map Tm.row)]=some (0,[.int (aS l t).k,.int (aS l t).n,.str (aS l t).s,.sl ((aS l t).as.map Tm.row)]):=Tm.ind fun t ih h=>by
 have hlt:=h.len;show rn _ _=_
 rw [e70_0_0];have hf:=jc (F:=fun i acc=>rn ⟨70,0,1⟩ [.sl (l.map Bnd.row),.int (i:Int),.int t.k,.int t.n,.str t.s,.sl (t.as.map Tm.row),.int 0,.int 0,.str (⟨#[]⟩:ByteArray),.int t.k,.int t.n,.str t.s,.sl [],.sl acc]) (xs:=t.as) (fun x=>(aS l x).row) (K:=fun acc=>some (0,[.int (0),.int (0),.str ((⟨#[]⟩:ByteArray)),.int (t.k),.int (t.n),.str (t.s),.sl ([]),.sl (acc)])) (fun i hi acc ha=>?_) (fun acc=>?_)
 · simp only [C6] at hf
   have hb:=r133 l hl hs t.s;rw [ej];by_cases hk:t.k=1
   · rw [H5 hk]
     cases hq:bnd l t.s with
     | none =>
      rw [hq] at hb;simp only at hb;simp only [H7 hk,H1,hb,B5,nth,D6,D8,D.I,D.S,D.L,D.B,H2,hf];simp [Tm.k,Tm.n,Tm.s,Tm.as,Function.comp_def]
     | some u =>
      rw [hq] at hb;simp only at hb;obtain ⟨b,hbm,rfl⟩:=et hq;have hcp:=r36 b.2 (hs b hbm);simp only [H7 hk,H1,hb,B5,nth,D6,D8,D.I,D.S,D.L,D.B,hcp]
   · rw [H6 hk]
     simp only [H8 hk,H2,hf,B5,nth,D6,D8,D.I,D.S,D.L,D.B];simp [Tm.k,Tm.n,Tm.s,Tm.as,Function.comp_def]
 · have hc:=ih _ (C3 hi) (h.sub (C3 hi))
   rw [e70_0_1];simp only [B8,ab hi,Tm.row_eq,B6,ax,hi,C0,H3,H1,nth,D6,D8,D.I,D.S,D.L,D.B,af hi (by unfold maxLen; omega),hc,B5,C1,C7]
   rw [show F6 (acc.length+(0+1)) M63=true from F9 (by unfold M63; omega)]
   rfl
 · skip
   rw [e70_0_1];simp
theorem r111:∀ t:Tm,bb t->rn ⟨111,0,0⟩ [.int t.k,.int t.n,.str t.s,.sl (t.as.map Tm.row)]=some (0,[.int (rW t).k,.int (rW t).n,.str (rW t).s,.sl ((rW t).as.map Tm.row)]):=Tm.ind fun t ih h=>by
 have hlt:=h.len;show rn _ _=_
 rw [e111_0_0];have hf:=jc (F:=fun i acc=>rn ⟨111,0,1⟩ [.sl (t.as.map Tm.row),.int ((t.as.map Tm.row)).length,.int (i:Int),.int 0,.int 0,.str (⟨#[]⟩:ByteArray),.int t.k,.int t.n,.str t.s,.sl [],.sl acc]) (xs:=t.as) (fun x=>(rW x).row) (K:=fun acc=>some (0,[.int (0),.int (0),.str ((⟨#[]⟩:ByteArray)),.int (t.k),.int (t.n),.str (t.s),.sl ([]),.sl (acc)])) (fun i hi acc ha=>?_) (fun acc=>?_)
 · simp only [C6] at hf
   have e:t.as.map (fun x=>(rW x).row)=(t.as.map rW).map Tm.row:=by simp [Function.comp_def]
   rw [e] at hf;rw [ja];generalize t.as.map rW=us at hf ⊢;have hB:=r101 t.s;rw [hf];simp only [B5,E2,H1,nth,D6,D8,D.I,D.S,D.L,D.B,hB,B6];by_cases h1:t.k=2
   case neg =>
    simp only [H8 h1,H2];unfold rW1;split
    · rw [H6 (fun h=>h1 h.1)]; rfl
    · rfl
   by_cases h2:t.n=0
   case neg =>
    simp only [H7 h1,H8 h2,H1,H2];unfold rW1;split
    · rw [H6 (fun h=>h2 h.2.1)]; rfl
    · rfl
   simp only [H7 h1,H7 h2,H1];cases h3:isB t.s with
   | false =>
    simp only [H2];unfold rW1;split
    · rw [H6 (fun h=>by rw [h3] at h; exact absurd h.2.2.1 (by decide))]; rfl
    · rfl
   | true =>
    simp only [H1]
    match us with
    | []=>rfl
    | [x]=>rfl
    | x::y::z::zs =>
     have:¬(((x::y::z::zs).length:Int)=2):=by simp only [C1]; omega
     simp only [H8 this,H2];rfl
    | [x,y] =>
     have hx:=r164 x;have hy:=r164 y;have l2:decide ((([x,y]:List Tm).length:Int)=2)=true:=rfl;have i0:inb 0 ([x,y]:List Tm).length=true:=rfl;have i1:inb 1 ([x,y]:List Tm).length=true:=rfl;have r0:rowAt (([x,y]:List Tm).map Tm.row) (O2 0)=x.row:=rfl;have r1:rowAt (([x,y]:List Tm).map Tm.row) (O2 1)=y.row:=rfl;simp only [l2,i0,i1,r0,r1,H1,Tm.row_eq,nth,D6,D8,D.I,D.S,D.L,D.B,hx,hy,B5];unfold rW1;simp only;cases h4:isW x with
     | false=>simp only [H2]; rw [H6 (fun h=>by simp at h)]; rfl
     | true =>
      cases h5:isW y with
      | false=>simp only [H1,H2]; rw [H6 (fun h=>by simp at h)]; rfl
      | true =>
       have b1:=h4;have b2:=h5;simp only [isW,B7,decide_eq_true_eq] at b1 b2;have hcm:=r165 t.s b1.2.1 b1.2.2.1 b2.2.1 b2.2.2.1;simp only [H1,hcm,B5,nth,D6,D8,D.I,D.S,D.L,D.B];rw [H5 ⟨h1,h2,h3,trivial,trivial⟩];rfl
 · have hc:=ih _ (C3 hi) (h.sub (C3 hi))
   rw [e111_0_1];simp only [B8,ab hi,Tm.row_eq,B6,ax,hi,C0,H3,H1,nth,D6,D8,D.I,D.S,D.L,D.B,af hi (by unfold maxLen; omega),hc,B5,C1,C7]
   rw [show F6 (acc.length+(0+1)) M63=true from F9 (by unfold M63; omega)]
   rfl
 · skip
   rw [e111_0_1];simp
theorem r131 (n:Int):rn ⟨131,0,0⟩ [.int n]=some (0,[.int 3,.int n,.str ⟨#[]⟩,.sl []]):=by
 show rn _ _=_
 rw [e131_0_0]
theorem r69:∀ t:Tm,bb t->rn ⟨69,0,0⟩ [.int t.k,.int t.n,.str t.s,.sl (t.as.map Tm.row)]=some (0,[.int (rW t).k,.int (rW t).n,.str (rW t).s,.sl ((rW t).as.map Tm.row)]):=Tm.ind fun t ih h=>by
 have hlt:=h.len;show rn _ _=_
 rw [e69_0_0];have hf:=jc (F:=fun i acc=>rn ⟨69,0,1⟩ [.int (i:Int),.int t.k,.int t.n,.str t.s,.sl (t.as.map Tm.row),.int 0,.int 0,.str (⟨#[]⟩:ByteArray),.int t.k,.int t.n,.str t.s,.sl [],.sl acc]) (xs:=t.as) (fun x=>(rW x).row) (K:=fun acc=>some (0,[.int (t.k),.int (t.n),.str (t.s),.sl ((t.as.map Tm.row)),.int (0),.int (0),.str ((⟨#[]⟩:ByteArray)),.int (t.k),.int (t.n),.str (t.s),.sl ([]),.sl (acc)])) (fun i hi acc ha=>?_) (fun acc=>?_)
 · simp only [C6] at hf
   have e:t.as.map (fun x=>(rW x).row)=(t.as.map rW).map Tm.row:=by simp [Function.comp_def]
   rw [e] at hf;rw [ja];generalize t.as.map rW=us at hf ⊢;have hB:=r129 t.s;rw [hf];simp only [B5,E2,H1,nth,D6,D8,D.I,D.S,D.L,D.B,hB,B6];by_cases h1:t.k=2
   case neg =>
    simp only [H8 h1,H2];unfold rW1;split
    · rw [H6 (fun h=>h1 h.1)]; rfl
    · rfl
   by_cases h2:t.n=0
   case neg =>
    simp only [H7 h1,H8 h2,H1,H2];unfold rW1;split
    · rw [H6 (fun h=>h2 h.2.1)]; rfl
    · rfl
   simp only [H7 h1,H7 h2,H1];cases h3:isB t.s with
   | false =>
    simp only [H2];unfold rW1;split
    · rw [H6 (fun h=>by rw [h3] at h; exact absurd h.2.2.1 (by decide))]; rfl
    · rfl
   | true =>
    simp only [H1]
    match us with
    | []=>rfl
    | [x]=>rfl
    | x::y::z::zs =>
     have:¬(((x::y::z::zs).length:Int)=2):=by simp only [C1]; omega
     simp only [H8 this,H2];rfl
    | [x,y] =>
     have hx:=r130 x;have hy:=r130 y;have l2:decide ((([x,y]:List Tm).length:Int)=2)=true:=rfl;have i0:inb 0 ([x,y]:List Tm).length=true:=rfl;have i1:inb 1 ([x,y]:List Tm).length=true:=rfl;have r0:rowAt (([x,y]:List Tm).map Tm.row) (O2 0)=x.row:=rfl;have r1:rowAt (([x,y]:List Tm).map Tm.row) (O2 1)=y.row:=rfl;simp only [l2,i0,i1,r0,r1,H1,Tm.row_eq,nth,D6,D8,D.I,D.S,D.L,D.B,hx,hy,B5];unfold rW1;simp only;cases h4:isW x with
     | false=>simp only [H2]; rw [H6 (fun h=>by simp at h)]; rfl
     | true =>
      cases h5:isW y with
      | false=>simp only [H1,H2]; rw [H6 (fun h=>by simp at h)]; rfl
      | true =>
       have b1:=h4;have b2:=h5;simp only [isW,B7,decide_eq_true_eq] at b1 b2;have hcm:=r132 t.s b1.2.1 b1.2.2.1 b2.2.1 b2.2.2.1;have hwd:=r131 (cmp t.s x.n y.n);simp only [H1,hcm,B5,nth,D6,D8,D.I,D.S,D.L,D.B,hwd];rw [H5 ⟨h1,h2,h3,trivial,trivial⟩];rfl
 · have hc:=ih _ (C3 hi) (h.sub (C3 hi))
   rw [e69_0_1];simp only [B8,ab hi,Tm.row_eq,B6,ax,hi,C0,H3,H1,nth,D6,D8,D.I,D.S,D.L,D.B,af hi (by unfold maxLen; omega),hc,B5,C1,C7]
   rw [show F6 (acc.length+(0+1)) M63=true from F9 (by unfold M63; omega)]
   rfl
 · skip
   rw [e69_0_1];simp
theorem r110 (n:Nat):rn ⟨110,0,0⟩ [.int (n:Int)]=some (0,[.int (jg n)]):=by
 show rn _ _=_
 rw [e110_0_0];have hn:¬((n:Int)<0):=by omega
 simp only [H8 hn,H2];have st:∀ x a:Int,0<x->rn ⟨110,0,1⟩ [.int x,.int a]=rn ⟨110,0,1⟩ [.int (IntKind.i64.wrap (x-1)),.int (IntKind.i64.wrap (a*4))]:=fun x a h=>by
  rw [e110_0_1];rw [H7 h]; rfl
 have fi:∀ a:Int,rn ⟨110,0,1⟩ [.int 0,.int a]=some (0,[.int a]):=fun a=>by
  rw [e110_0_1];rfl
 by_cases h3:3<n
 · rw [rp h3,H7 (by omega:(3:Int)<(n:Int))]; rfl
 · rw [H8 (by omega:¬(3:Int)<(n:Int))]
   simp only [H2];obtain rfl | rfl | rfl | rfl:n=0\/n=1\/n=2\/n=3:=by omega
   · show (rn ⟨110,0,1⟩ [.int 0,.int 1]).bind _=_
     rw [fi]; rfl
   · show (rn ⟨110,0,1⟩ [.int 1,.int 1]).bind _=_
     rw [st 1 1 (by decide)]
     show (rn ⟨110,0,1⟩ [.int 0,.int 4]).bind _=_
     rw [fi]; rfl
   · show (rn ⟨110,0,1⟩ [.int 2,.int 1]).bind _=_
     rw [st 2 1 (by decide)]
     show (rn ⟨110,0,1⟩ [.int 1,.int 4]).bind _=_
     rw [st 1 4 (by decide)]
     show (rn ⟨110,0,1⟩ [.int 0,.int 16]).bind _=_
     rw [fi]; rfl
   · show (rn ⟨110,0,1⟩ [.int 3,.int 1]).bind _=_
     rw [st 3 1 (by decide)]
     show (rn ⟨110,0,1⟩ [.int 2,.int 4]).bind _=_
     rw [st 2 4 (by decide)]
     show (rn ⟨110,0,1⟩ [.int 1,.int 16]).bind _=_
     rw [st 1 16 (by decide)]
     show (rn ⟨110,0,1⟩ [.int 0,.int 64]).bind _=_
     rw [fi]; rfl
theorem r63 (n:Nat):rn ⟨63,0,0⟩ [.int (n:Int)]=some (0,[.int (jg n)]):=by
 show rn _ _=_
 rw [e63_0_0];have hi:=r32 (n:Int) 0 3;simp only [hi,B5,nth,D6,D8,D.I,D.S,D.L,D.B];rw [H7 (by omega:(0:Int)<=(n:Int)),F4]
 have st:∀ x a i:Int,i<x->rn ⟨63,0,1⟩ [.int x,.int a,.int i]=rn ⟨63,0,1⟩ [.int x,.int (IntKind.i64.wrap (a*4)),.int (IntKind.i64.wrap (i+1))]:=fun x a i h=>by
  rw [e63_0_1];rw [H7 h]; rfl
 have fi:∀ x a:Int,rn ⟨63,0,1⟩ [.int x,.int a,.int x]=some (0,[.int a]):=fun x a=>by
  rw [e63_0_1];rw [H8 (by omega)]; rfl
 by_cases h3:3<n
 · rw [rp h3,H8 (by omega:¬(n:Int)<=(3:Int))]; rfl
 · rw [H7 (by omega:(n:Int)<=(3:Int))]
   simp only [E1,H2];obtain rfl | rfl | rfl | rfl:n=0\/n=1\/n=2\/n=3:=by omega
   · show (rn ⟨63,0,1⟩ [.int 0,.int 1,.int 0]).bind _=_
     rw [fi]; rfl
   · show (rn ⟨63,0,1⟩ [.int 1,.int 1,.int 0]).bind _=_
     rw [st 1 1 0 (by decide)]
     show (rn ⟨63,0,1⟩ [.int 1,.int 4,.int 1]).bind _=_
     rw [fi]; rfl
   · show (rn ⟨63,0,1⟩ [.int 2,.int 1,.int 0]).bind _=_
     rw [st 2 1 0 (by decide)]
     show (rn ⟨63,0,1⟩ [.int 2,.int 4,.int 1]).bind _=_
     rw [st 2 4 1 (by decide)]
     show (rn ⟨63,0,1⟩ [.int 2,.int 16,.int 2]).bind _=_
     rw [fi]; rfl
   · show (rn ⟨63,0,1⟩ [.int 3,.int 1,.int 0]).bind _=_
     rw [st 3 1 0 (by decide)]
     show (rn ⟨63,0,1⟩ [.int 3,.int 4,.int 1]).bind _=_
     rw [st 3 4 1 (by decide)]
     show (rn ⟨63,0,1⟩ [.int 3,.int 16,.int 2]).bind _=_
     rw [st 3 16 2 (by decide)]
     show (rn ⟨63,0,1⟩ [.int 3,.int 64,.int 3]).bind _=_
     rw [fi]; rfl
theorem Wi (n:Nat) (c:Int):(decide (0<=c)&&decide (c<=IntKind.i64.wrap (jg n-1)))=isC n c:=by
 have h:=rq n;rw [IntWalk.i64_in _ (by omega)]
 unfold isC;have:decide (c<=jg n-1)=decide (c<jg n):=decide_eq_decide.2 (by omega)
 rw [this]
theorem r51 (n:Nat) (c:Int):rn ⟨51,0,0⟩ [.int (n:Int),.int c]=some (0,[.bool (isC n c)]):=by
 show rn _ _=_
 rw [e51_0_0];have hc:=r110 n;simp only [hc,B5,nth,D6,D8,D.I,D.S,D.L,D.B];unfold isC;cases decide (0<=c) <;> rfl
theorem rv0 (a b c:Int):rn ⟨188,1,0⟩ [.sl []]=some (0,[.sl []]):=by
 show rn _ _=_
 rw [e188_1_0];show (rn ⟨188,1,1⟩ [.int 0,.int (-1),.sl []]).bind _=_
 rw [e188_1_1];rfl
theorem rv1 (a b c:Int):rn ⟨188,1,0⟩ [.sl [[D.int a]]]=some (0,[.sl [[D.int a]]]):=by
 show rn _ _=_
 rw [e188_1_0];show (rn ⟨188,1,1⟩ [.int 0,.int (0),.sl [[D.int a]]]).bind _=_
 rw [e188_1_1];rfl
theorem rv2 (a b c:Int):rn ⟨188,1,0⟩ [.sl [[D.int a],[D.int b]]]=some (0,[.sl [[D.int b],[D.int a]]]):=by
 show rn _ _=_
 rw [e188_1_0];show (rn ⟨188,1,1⟩ [.int 0,.int (1),.sl [[D.int a],[D.int b]]]).bind _=_
 rw [e188_1_1];show (rn ⟨188,1,1⟩ [.int 1,.int 0,.sl [[D.int b],[D.int a]]]).bind _=_
 rw [e188_1_1];rfl
theorem rv3 (a b c:Int):rn ⟨188,1,0⟩ [.sl [[D.int a],[D.int b],[D.int c]]]=some (0,[.sl [[D.int c],[D.int b],[D.int a]]]):=by
 show rn _ _=_
 rw [e188_1_0];show (rn ⟨188,1,1⟩ [.int 0,.int (2),.sl [[D.int a],[D.int b],[D.int c]]]).bind _=_
 rw [e188_1_1];show (rn ⟨188,1,1⟩ [.int 1,.int 1,.sl [[D.int c],[D.int b],[D.int a]]]).bind _=_
 rw [e188_1_1];rfl
theorem r167 (n:Nat) (c:Int):rn ⟨167,0,0⟩ [.int (n:Int),.int c]=some (0,[.sl ((vals n c).map am)]):=by
 show rn _ _=_
 rw [e167_0_0];have hi:=r51 n c;simp only [hi,B5,nth,D6,D8,D.I,D.S,D.L,D.B];unfold vals;cases hq:isC n c with
 | false=>rfl
 | true =>
  obtain ⟨hn,h0,h64⟩:=mg hq;have e1:c.tdiv 4=c / 4:=Q5 h0;have w1:IntKind.i64.wrap (c.tdiv 4)=c.tdiv 4:=by rw [e1]; exact IntWalk.i64_in _ (by omega)
  have h1:0<=c.tdiv 4:=by rw [e1]; omega
  have e2:(c.tdiv 4).tdiv 4=c / 4 / 4:=by rw [Q5 h1,e1]
  have w2:IntKind.i64.wrap ((c.tdiv 4).tdiv 4)=(c.tdiv 4).tdiv 4:=by rw [e2]; exact IntWalk.i64_in _ (by omega)
  have st:∀ (x a:Int) (acc:aa),0<x->acc.length<=10->rn ⟨167,0,1⟩ [.int x,.int a,.sl acc]=rn ⟨167,0,1⟩ [.int (IntKind.i64.wrap (x-1)),.int (IntKind.i64.wrap (a.tdiv 4)),.sl (acc++[[.int (a.tmod 4)]])]:=fun x a acc h hl=>by
   rw [e167_0_1];rw [H7 h];simp only [C1,C7];rw [show F6 (acc.length+(0+1)) M63=true from F9 (by unfold M63; omega)]
   rfl
  have fi:∀ (a:Int) (acc:aa),rn ⟨167,0,1⟩ [.int 0,.int a,.sl acc]=some (0,[.sl acc]):=fun a acc=>by
   rw [e167_0_1];rfl
  simp only [E1,H2,if_true];obtain rfl | rfl | rfl | rfl:n=0\/n=1\/n=2\/n=3:=by omega
  · show (rn ⟨167,0,1⟩ [.int 0,.int c,.sl []]).bind _=_
    rw [fi];have hv:=rv0 0 0 0;show ((rn ⟨188,1,0⟩ [.sl []]).bind _:R)=_
    rw [hv]; rfl
  · show (rn ⟨167,0,1⟩ [.int 1,.int c,.sl []]).bind _=_
    rw [st 1 c [] (by decide) (by decide)]
    rw [w1];show (rn ⟨167,0,1⟩ [.int 0,.int (c.tdiv 4),.sl [[.int (c.tmod 4)]]]).bind _=_
    rw [fi];have hv:=rv1 (c.tmod 4) 0 0;show ((rn ⟨188,1,0⟩ [.sl [[.int (c.tmod 4)]]]).bind _:R)=_
    rw [hv]; rfl
  · show (rn ⟨167,0,1⟩ [.int 2,.int c,.sl []]).bind _=_
    rw [st 2 c [] (by decide) (by decide),w1]
    show (rn ⟨167,0,1⟩ [.int 1,.int (c.tdiv 4),.sl [[.int (c.tmod 4)]]]).bind _=_
    rw [st 1 _ _ (by decide) (by simp),w2]
    show (rn ⟨167,0,1⟩ [.int 0,.int ((c.tdiv 4).tdiv 4),.sl [[.int (c.tmod 4)],[.int ((c.tdiv 4).tmod 4)]]]).bind _=_
    rw [fi];have hv:=rv2 (c.tmod 4) ((c.tdiv 4).tmod 4) 0;show ((rn ⟨188,1,0⟩ [.sl [[.int (c.tmod 4)],[.int ((c.tdiv 4).tmod 4)]]]).bind _:R)=_
    rw [hv]; rfl
  · show (rn ⟨167,0,1⟩ [.int 3,.int c,.sl []]).bind _=_
    rw [st 3 c [] (by decide) (by decide),w1]
    show (rn ⟨167,0,1⟩ [.int 2,.int (c.tdiv 4),.sl [[.int (c.tmod 4)]]]).bind _=_
    rw [st 2 _ _ (by decide) (by simp),w2]
    show (rn ⟨167,0,1⟩ [.int 1,.int ((c.tdiv 4).tdiv 4),.sl [[.int (c.tmod 4)],[.int ((c.tdiv 4).tmod 4)]]]).bind _=_
    rw [st 1 _ _ (by decide) (by simp)]
    show (rn ⟨167,0,1⟩ [.int 0,.int _,.sl [[.int (c.tmod 4)],[.int ((c.tdiv 4).tmod 4)],[.int (((c.tdiv 4).tdiv 4).tmod 4)]]]).bind _=_
    rw [fi];have hv:=rv3 (c.tmod 4) ((c.tdiv 4).tmod 4) (((c.tdiv 4).tdiv 4).tmod 4);show ((rn ⟨188,1,0⟩ [.sl [[.int (c.tmod 4)],[.int ((c.tdiv 4).tmod 4)],[.int (((c.tdiv 4).tdiv 4).tmod 4)]]]).bind _:R)=_
    rw [hv]; rfl
theorem r134 (n:Nat) (c:Int):rn ⟨134,0,0⟩ [.int (n:Int),.int c]=some (0,[.sl ((vals n c).map am)]):=by
 show rn _ _=_
 rw [e134_0_0];have hi:=r63 n;have hj:=r32 c 0 (IntKind.i64.wrap (jg n-1));rw [Wi] at hj;simp only [hi,hj,B5,nth,D6,D8,D.I,D.S,D.L,D.B];unfold vals;cases hq:isC n c with
 | false=>rfl
 | true =>
  obtain ⟨hn,h0,h64⟩:=mg hq;have e1:c.tdiv 4=c / 4:=Q5 h0;have w1:IntKind.i64.wrap (c.tdiv 4)=c.tdiv 4:=by rw [e1]; exact IntWalk.i64_in _ (by omega)
  have h1:0<=c.tdiv 4:=by rw [e1]; omega
  have e2:(c.tdiv 4).tdiv 4=c / 4 / 4:=by rw [Q5 h1,e1]
  have w2:IntKind.i64.wrap ((c.tdiv 4).tdiv 4)=(c.tdiv 4).tdiv 4:=by rw [e2]; exact IntWalk.i64_in _ (by omega)
  have fi:∀ (a:Int) (acc:aa),rn ⟨134,0,1⟩ [.int a,.int (-1),.sl acc]=some (0,[.sl acc]):=fun a acc=>by
   rw [e134_0_1];rfl
  simp only [E1,H2,if_true];obtain rfl | rfl | rfl | rfl:n=0\/n=1\/n=2\/n=3:=by omega
  · show (rn ⟨134,0,1⟩ [.int c,.int (-1),.sl []]).bind _=_
    rw [fi]; rfl
  · show (rn ⟨134,0,1⟩ [.int c,.int 0,.sl [[.int 0]]]).bind _=_
    rw [e134_0_1];show (rn ⟨134,0,1⟩ [.int (IntKind.i64.wrap (c.tdiv 4)),.int (-1),.sl [[.int (c.tmod 4)]]]).bind _=_
    rw [fi]; rfl
  · show (rn ⟨134,0,1⟩ [.int c,.int 1,.sl [[.int 0],[.int 0]]]).bind _=_
    rw [e134_0_1];show (rn ⟨134,0,1⟩ [.int (IntKind.i64.wrap (c.tdiv 4)),.int 0,.sl [[.int 0],[.int (c.tmod 4)]]]).bind _=_
    rw [w1];rw [e134_0_1];show (rn ⟨134,0,1⟩ [.int (IntKind.i64.wrap ((c.tdiv 4).tdiv 4)),.int (-1),.sl [[.int ((c.tdiv 4).tmod 4)],[.int (c.tmod 4)]]]).bind _=_
    rw [fi]; rfl
  · show (rn ⟨134,0,1⟩ [.int c,.int 2,.sl [[.int 0],[.int 0],[.int 0]]]).bind _=_
    rw [e134_0_1];show (rn ⟨134,0,1⟩ [.int (IntKind.i64.wrap (c.tdiv 4)),.int 1,.sl [[.int 0],[.int 0],[.int (c.tmod 4)]]]).bind _=_
    rw [w1];rw [e134_0_1];show (rn ⟨134,0,1⟩ [.int (IntKind.i64.wrap ((c.tdiv 4).tdiv 4)),.int 0,.sl [[.int 0],[.int ((c.tdiv 4).tmod 4)],[.int (c.tmod 4)]]]).bind _=_
    rw [w2];rw [e134_0_1];show (rn ⟨134,0,1⟩ [.int _,.int (-1),.sl [[.int (((c.tdiv 4).tdiv 4).tmod 4)],[.int ((c.tdiv 4).tmod 4)],[.int (c.tmod 4)]]]).bind _=_
    rw [fi]; rfl
theorem r113 (vars:List ByteArray) (c:Int):rn ⟨113,0,0⟩ [.sl (vars.map ai),.int c]=some (0,[.sl ((cf vars c).map Bnd.row)]):=by
 show rn _ _=_
 rw [e113_0_0];have hv:=r167 vars.length c;have hle:=ro vars.length c;have hle3:(vals vars.length c).length<=3:=by
  by_cases hC:isC vars.length c=true
  · have:=(mg hC).1; omega
  · unfold vals; rw [H6 hC]; simp
 have hz:(vars.zip (vals vars.length c)).length=(vals vars.length c).length:=by simp; omega
 have hf:=jc (F:=fun i acc=>rn ⟨113,0,1⟩ [.sl (vars.map ai),.int (((vals vars.length c).map am).length),.int (i:Int),.sl acc,.sl ((vals vars.length c).map am)]) (xs:=vars.zip (vals vars.length c)) (fun p=>[.str p.1,.int 3,.int p.2,.str ⟨#[]⟩,.sl []]) (K:=fun acc=>some (0,[.sl (acc)])) (fun i hi acc ha=>?_) (fun acc=>?_)
 · simp only [C6] at hf
   simp only [B6];rw [hv];simp only [B5,nth,D6,D8,D.I,D.S,D.L,D.B];first
    | rw [hf]
    | (simp only [B6] at hf ⊢; rw [hf])
   simp only [B5,E2,H1,nth,D6,D8,D.I,D.S,D.L,D.B];unfold cf;rw [K6];rfl
 · have hi1:i<vars.length:=by rw [List.length_zip] at hi; omega
   have hi2:i<(vals vars.length c).length:=by rw [List.length_zip] at hi; omega
   rw [e113_0_1];simp only [B8,ab hi1,ab hi2,ai,am,B6,ax,hi1,hi2,C0,H3,H1,nth,D6,D8,D.I,D.S,D.L,D.B,af hi2 (by unfold maxLen; omega),C1,C7,B5]
   rw [show F6 (acc.length+(0+1)) M63=true from F9 (by unfold M63; omega)]
   rw [List.getElem_zip];rfl
 · skip
   rw [e113_0_1];simp [hz]
theorem r71 (vars:List ByteArray) (c:Int):rn ⟨71,0,0⟩ [.sl (vars.map ai),.int c]=some (0,[.sl ((cf vars c).map Bnd.row)]):=by
 show rn _ _=_
 rw [e71_0_0];have hv:=r134 vars.length c;have hle:=ro vars.length c;have hle3:(vals vars.length c).length<=3:=by
  by_cases hC:isC vars.length c=true
  · have:=(mg hC).1; omega
  · unfold vals; rw [H6 hC]; simp
 have hz:(vars.zip (vals vars.length c)).length=(vals vars.length c).length:=by simp; omega
 have hf:=jc (F:=fun i acc=>rn ⟨71,0,1⟩ [.sl (vars.map ai),.int (i:Int),.sl acc,.sl ((vals vars.length c).map am)]) (xs:=vars.zip (vals vars.length c)) (fun p=>[.str p.1,.int 3,.int p.2,.str ⟨#[]⟩,.sl []]) (K:=fun acc=>some (0,[.sl (acc)])) (fun i hi acc ha=>?_) (fun acc=>?_)
 · simp only [C6] at hf
   simp only [B6];rw [hv];simp only [B5,nth,D6,D8,D.I,D.S,D.L,D.B];first
    | rw [hf]
    | (simp only [B6] at hf ⊢; rw [hf])
   simp only [B5,E2,H1,nth,D6,D8,D.I,D.S,D.L,D.B];unfold cf;rw [K6];rfl
 · have hi1:i<vars.length:=by rw [List.length_zip] at hi; omega
   have hi2:i<(vals vars.length c).length:=by rw [List.length_zip] at hi; omega
   rw [e71_0_1];have hw:=r131 ((vals vars.length c)[i]);simp only [B8,ab hi1,ab hi2,ai,am,B6,ax,hi1,hi2,C0,H3,H1,nth,D6,D8,D.I,D.S,D.L,D.B,af hi2 (by unfold maxLen; omega),C1,C7,B5,hw]
   rw [show F6 (acc.length+(0+1)) M63=true from F9 (by unfold M63; omega)]
   rw [List.getElem_zip];rfl
 · skip
   rw [e71_0_1];simp [hz]
theorem r23 (vars:List ByteArray) (t:Tm) (ht:bb t) (c:Int):rn ⟨23,0,0⟩ [.sl (vars.map ai),.int t.k,.int t.n,.str t.s,.sl (t.as.map Tm.row),.int c]=some (0,[.int (fo vars t c).k,.int (fo vars t c).n,.str (fo vars t c).s,.sl ((fo vars t c).as.map Tm.row)]):=by
 show rn _ _=_
 rw [e23_0_0];have hl:(cf vars c).length<=1048576:=by
  have:=ro vars.length c;by_cases hC:isC vars.length c=true
  · have:=(mg hC).1; unfold cf; simp; omega
  · unfold cf vals; rw [H6 hC]; simp
 have h1:=r71 vars c;have h2:=r70 (cf vars c) hl (jb vars c) t ht;have h3:=r69 (aS (cf vars c) t) (rm (jb vars c) t ht);simp only [h1,h2,h3,B5,nth,D6,D8,D.I,D.S,D.L,D.B];rfl
theorem Cc (vars:List ByteArray) (c:Int):(cf vars c).length<=1048576:=by
 have:=ro vars.length c;by_cases hC:isC vars.length c=true
 · have:=(mg hC).1; unfold cf; simp; omega
 · unfold cf vals; rw [H6 hC]; simp
theorem r109:∀ t:Tm,t.nodes<=1048577->rn ⟨109,0,0⟩ [.int t.k,.int t.n,.str t.s,.sl (t.as.map Tm.row)]=some (0,[.sl (t.names.map ai)]):=Tm.ind fun t ih h=>by
 have hnd:=Tm.nodes_eq t;have hsm:=Bj t;have hlt:=cw (xs:=t.as);show rn _ _=_
 rw [e109_0_0];have hf:=fun a0:aa=>fun ha0:a0.length<=1=>Gk (F:=fun i acc=>rn ⟨109,0,1⟩ [.sl (t.as.map Tm.row),.int (t.as.map Tm.row).length,.int (i:Int),.sl acc]) (xs:=t.as) (fun a=>a.names.map ai) a0 (K:=fun acc=>some (0,[.sl acc])) (fun i hi acc ha=>by
  have hc:=ih _ (C3 hi) (by have:=dh (f:=Tm.nodes) (C3 hi); omega)
  rw [e109_0_1];simp only [B8,ab hi,Tm.row_eq,B6,ax,hi,C0,H3,H1,nth,D6,D8,D.I,D.S,D.L,D.B,af hi (by unfold maxLen; omega),B5,hc]
  rw [E5,B6] at ha;rw [show F6 (acc.length+t.as[i].names.length) M63=true from F9 (by unfold M63; omega)]
  rfl) (fun acc=>by
  rw [e109_0_1];simp)
 simp only [C6] at hf;rw [qk];by_cases hk:t.k=1
 · rw [H5 hk,H7 hk]
   have h1:=hf [ai t.s] (by simp)
   simp only [ai] at h1;simp only [H1,ai];rw [h1]; rfl
 · rw [H6 hk,H8 hk]
   have h1:=hf [] (by simp)
   simp only [H2];rw [h1]; rfl
theorem r141 (t:Tm) (h:t.nodes<=1048577):rn ⟨141,0,0⟩ [.int t.k,.int t.n,.str t.s,.sl (t.as.map Tm.row)]=some (0,[.bool (isG t)]):=by
 show rn _ _=_
 rw [e141_0_0];have hc:=r109 t h;simp only [hc,B5,nth,D6,D8,D.I,D.S,D.L,D.B,B6];rfl
theorem r126:∀ t:Tm,∀ a0:aa,t.nodes<=1048577->a0.length+t.names.length<=1073741824->rn ⟨126,1,0⟩ [.int t.k,.int t.n,.str t.s,.sl (t.as.map Tm.row),.sl a0]=some (0,[.sl (a0++t.names.map ai)]):=Tm.ind fun t ih a0 h h'=>by
 have hnd:=Tm.nodes_eq t;have hsm:=Bj t;have hlt:=cw (xs:=t.as);show rn _ _=_
 rw [e126_1_0];have hf:=fun a1:aa=>fun ha1:a1.length+(t.as.flatMap fun a=>a.names.map ai).length<=1073741824=>Gk (F:=fun i acc=>rn ⟨126,1,1⟩ [.int (i:Int),.sl acc,.int t.k,.int t.n,.str t.s,.sl (t.as.map Tm.row)]) (xs:=t.as) (fun a=>a.names.map ai) a1 (K:=fun acc=>some (0,[.sl acc])) (fun i hi acc ha=>by
  rw [E5] at ha;have hx:t.as[i].nodes<=(t.as.map Tm.nodes).sum:=dh (f:=Tm.nodes) (C3 hi);have hc:=ih _ (C3 hi) acc (by omega) (by rw [B6] at ha; omega)
  rw [e126_1_1];simp only [B8,ab hi,Tm.row_eq,B6,ax,hi,C0,H3,H1,nth,D6,D8,D.I,D.S,D.L,D.B,af hi (by unfold maxLen; omega),B5,hc]) (fun acc=>by
  rw [e126_1_1];simp)
 simp only [C6] at hf;have hle:t.names.length=(if t.k=1 then [ai t.s] else []).length+(t.as.flatMap fun a=>a.names.map ai).length:=by
  rw [<- E5,<- qk,B6]
 rw [qk];by_cases hk:t.k=1
 · rw [H5 hk] at hle
   rw [H5 hk,H7 hk];have h1:=hf (a0++[ai t.s]) (by rw [E5]; omega)
   simp only [ai] at h1;simp only [H1,ai,C1,C7];rw [show F6 (a0.length+(0+1)) M63=true from F9 (by unfold M63; omega)]
   simp only [H1];rw [h1,E3]; rfl
 · rw [H6 hk] at hle
   rw [H6 hk,H8 hk];have h1:=hf a0 (by rw [C7] at hle; omega)
   simp only [H2];rw [h1]; rfl
theorem r75 (t:Tm) (h:t.nodes<=1048577):rn ⟨75,0,0⟩ [.int t.k,.int t.n,.str t.s,.sl (t.as.map Tm.row)]=some (0,[.bool (isG t)]):=by
 show rn _ _=_
 rw [e75_0_0];have hc:=r126 t [] h (by have:=cg t; simp; omega)
 simp only [hc,B5,nth,D6,D8,D.I,D.S,D.L,D.B,D9,B6];rfl
theorem r17:∀ t:Tm,∀ u:Tm,bb t->rn ⟨17,0,0⟩ [.int t.k,.int t.n,.str t.s,.sl (t.as.map Tm.row),.int u.k,.int u.n,.str u.s,.sl (u.as.map Tm.row)]=some (0,[.bool (eqb t.row u.row)]):=Tm.ind fun t ih u h=>by
 have hlt:=h.len;show rn _ _=_
 rw [e17_0_0];have hq:eqb t.row u.row=(decide (t.k=u.k)&&(decide (t.n=u.n)&&(decide (t.s=u.s)&&eqb (t.as.map Tm.row) (u.as.map Tm.row)))):=by
  rw [Tm.row_eq t,Tm.row_eq u];simp only [ym,Dd,Ka,Kb,Pc,N0]
 rw [hq];try simp only [B6]
 by_cases l0:u.as.length≠t.as.length
 · rw [H8 (by omega:¬(t.as.length:Int)=(u.as.length:Int)),Kd (fun h=>l0 (by simpa using h.symm))]
   cases decide (t.k=u.k) <;> cases decide (t.n=u.n) <;> cases decide (t.s=u.s) <;> rfl
 have l0:=Classical.not_not.1 l0;rw [H7 (by omega:(t.as.length:Int)=(u.as.length:Int))]
 have hf:=Kc (F:=fun i=>rn ⟨17,0,1⟩ [.int (i:Int),.int t.k,.int t.n,.str t.s,.sl (t.as.map Tm.row),.int u.k,.int u.n,.str u.s,.sl (u.as.map Tm.row)]) (xs:=t.as.map Tm.row) (ys:=u.as.map Tm.row) (A:=some (0,[])) (B:=some (1,[])) (by simpa using l0) (fun i hi=>?_) ?_
 · simp only [C6] at hf
   rw [hf];cases decide (t.k=u.k) <;> cases decide (t.n=u.n) <;> cases decide (t.s=u.s) <;> cases eqb (t.as.map Tm.row) (u.as.map Tm.row) <;> rfl
 · have hi:i<t.as.length:=by simpa using hi
   have hi2:i<u.as.length:=by omega
   have hc:=ih _ (C3 hi) u.as[i] (h.sub (C3 hi));rw [e17_0_1];rw [Q2,Q2];generalize eqb t.as[i].row u.as[i].row=z at hc ⊢;simp only [B8,ab hi,ab hi2,Tm.row_eq,B6,ax,hi,hi2,C0,H3,H1,nth,D6,D8,D.I,D.S,D.L,D.B,af hi (by unfold maxLen; omega),B5,hc]
   cases z <;> rfl
 · skip
   rw [e17_0_1];simp
theorem r176:∀ t:Tm,∀ u:Tm,bb t->rn ⟨176,0,0⟩ [.int t.k,.int t.n,.str t.s,.sl (t.as.map Tm.row),.int u.k,.int u.n,.str u.s,.sl (u.as.map Tm.row)]=some (0,[.bool (eqb t.row u.row)]):=Tm.ind fun t ih u h=>by
 have hlt:=h.len;show rn _ _=_
 rw [e176_0_0];have hq:eqb t.row u.row=(decide (t.k=u.k)&&(decide (t.n=u.n)&&(decide (t.s=u.s)&&eqb (t.as.map Tm.row) (u.as.map Tm.row)))):=by
  rw [Tm.row_eq t,Tm.row_eq u];simp only [ym,Dd,Ka,Kb,Pc,N0]
 rw [hq];try simp only [B6]
 have hl:rn ⟨192,0,0⟩ [.sl (t.as.map Tm.row),.sl (u.as.map Tm.row)]=some (0,[.bool (eqb (t.as.map Tm.row) (u.as.map Tm.row))]):=by
  rw [e192_0_0];simp only [B6];by_cases l0:u.as.length≠t.as.length
  · rw [H8 (by omega:¬(t.as.length:Int)=(u.as.length:Int)),Kd (fun h=>l0 (by simpa using h.symm))]; rfl
  have l0:=Classical.not_not.1 l0;rw [H7 (by omega:(t.as.length:Int)=(u.as.length:Int))]
  have hf:=Kc (F:=fun i=>rn ⟨192,0,1⟩ [.sl (u.as.map Tm.row),.sl (t.as.map Tm.row),.int ((t.as.map Tm.row)).length,.int (i:Int)]) (xs:=t.as.map Tm.row) (ys:=u.as.map Tm.row) (A:=some (0,[])) (B:=some (1,[])) (by simpa using l0) (fun i hi=>?_) ?_
  · simp only [C6,B6] at hf
    rw [hf];cases eqb (t.as.map Tm.row) (u.as.map Tm.row) <;> rfl
  · have hi:i<t.as.length:=by simpa using hi
    have hi2:i<u.as.length:=by omega
    have hc:=ih _ (C3 hi) u.as[i] (h.sub (C3 hi));rw [e192_0_1];rw [Q2,Q2];generalize eqb t.as[i].row u.as[i].row=z at hc ⊢;simp only [B8,ab hi,ab hi2,Tm.row_eq,B6,ax,hi,hi2,C0,H3,H1,nth,D6,D8,D.I,D.S,D.L,D.B,af hi (by unfold maxLen; omega),B5,hc]
    cases z <;> rfl
  · skip
    rw [e192_0_1];simp
 simp only [hl,B5,nth,D6,D8,D.I,D.S,D.L,D.B];cases decide (t.k=u.k) <;> cases decide (t.n=u.n) <;> cases decide (t.s=u.s) <;> rfl
theorem r177 (g:Gu) (h:g.ok):rn ⟨177,0,0⟩ [.int g.k,.int g.l.k,.int g.l.n,.str g.l.s,.sl (g.l.as.map Tm.row),.int g.r.k,.int g.r.n,.str g.r.s,.sl (g.r.as.map Tm.row)]=some (0,[.bool (holds g)]):=by
 show rn _ _=_
 rw [e177_0_0];obtain ⟨hl,hr⟩:=h;have sl:=aq _ hl;have sr:=aq _ hr;have hl':=G8 (ia g.l) hl;have hr':=G8 (ia g.r) hr;have a1:=r141 g.l hl;have a2:=r141 g.r hr;have b1:=r111 g.l sl;have b2:=r111 g.r sr;have c1:=r176 (rW g.l) (rW g.r) (Ge _ sl);have d1:=r164 (rW g.l);have d2:=r164 (rW g.r);simp only [a1,a2,b1,b2,c1,d1,d2,B5,nth,D6,D8,D.I,D.S,D.L,D.B];unfold holds;cases isG g.l
 · rfl
 cases isG g.r
 · rfl
 simp only [E1,H2,F4];by_cases k1:g.k=1
 · rw [H5 k1,H7 k1]; rfl
 rw [H6 k1,H8 k1];by_cases k2:g.k=2
 · rw [H5 k2,H7 k2]; rfl
 rw [H6 k2,H8 k2];by_cases k3:g.k=3
 · rw [H5 k3,H7 k3]
   cases isW (rW g.l) <;> cases isW (rW g.r) <;> rfl
 · rw [H6 k3,H8 k3]; rfl
theorem r139 (g:Gu) (h:g.ok):rn ⟨139,0,0⟩ [.int g.k,.int g.l.k,.int g.l.n,.str g.l.s,.sl (g.l.as.map Tm.row),.int g.r.k,.int g.r.n,.str g.r.s,.sl (g.r.as.map Tm.row)]=some (0,[.bool (holds g)]):=by
 show rn _ _=_
 rw [e139_0_0];obtain ⟨hl,hr⟩:=h;have sl:=aq _ hl;have sr:=aq _ hr;have hl':=G8 (ia g.l) hl;have hr':=G8 (ia g.r) hr;have a1:=r75 (rW g.l) hl';have a2:=r75 (rW g.r) hr';have b1:=r69 g.l sl;have b2:=r69 g.r sr;have c1:=r17 (rW g.l) (rW g.r) (Ge _ sl);have d1:=r130 (rW g.l);have d2:=r130 (rW g.r);simp only [a1,a2,b1,b2,c1,d1,d2,B5,nth,D6,D8,D.I,D.S,D.L,D.B];unfold holds;rw [Pi,Pi];cases isG g.l
 · rfl
 cases isG g.r
 · rfl
 simp only [E1,H2,F4];by_cases k1:g.k=1
 · rw [H5 k1,H7 k1]; rfl
 rw [H6 k1,H8 k1];by_cases k2:g.k=2
 · rw [H5 k2,H7 k2]; rfl
 rw [H6 k2,H8 k2];by_cases k3:g.k=3
 · rw [H5 k3,H7 k3]
   cases isW (rW g.l) <;> cases isW (rW g.r) <;> rfl
 · rw [H6 k3,H8 k3]; rfl
theorem r178 (l:List Bnd) (hl:l.length<=1048576) (hs:∀ b∈l,bb b.2) (g:Gu) (h:g.ok):rn ⟨178,0,0⟩ [.sl (l.map Bnd.row),.int g.k,.int g.l.k,.int g.l.n,.str g.l.s,.sl (g.l.as.map Tm.row),.int g.r.k,.int g.r.n,.str g.r.s,.sl (g.r.as.map Tm.row)]=some (0,[.int (ex l g).k,.int (ex l g).l.k,.int (ex l g).l.n,.str (ex l g).l.s,.int (ex l g).r.k,.int (ex l g).r.n,.str (ex l g).r.s,.sl ((ex l g).l.as.map Tm.row),.sl ((ex l g).r.as.map Tm.row)]):=by
 show rn _ _=_
 rw [e178_0_0];have a1:=r112 l hl hs g.l (aq _ h.1);have a2:=r112 l hl hs g.r (aq _ h.2);simp only [a1,a2,B5,nth,D6,D8,D.I,D.S,D.L,D.B];rfl
theorem r140 (l:List Bnd) (hl:l.length<=1048576) (hs:∀ b∈l,bb b.2) (g:Gu) (h:g.ok):rn ⟨140,0,0⟩ [.sl (l.map Bnd.row),.int g.k,.int g.l.k,.int g.l.n,.str g.l.s,.sl (g.l.as.map Tm.row),.int g.r.k,.int g.r.n,.str g.r.s,.sl (g.r.as.map Tm.row)]=some (0,[.int (ex l g).k,.int (ex l g).l.k,.int (ex l g).l.n,.str (ex l g).l.s,.int (ex l g).r.k,.int (ex l g).r.n,.str (ex l g).r.s,.sl ((ex l g).l.as.map Tm.row),.sl ((ex l g).r.as.map Tm.row)]):=by
 show rn _ _=_
 rw [e140_0_0];have a1:=r70 l hl hs g.l (aq _ h.1);have a2:=r70 l hl hs g.r (aq _ h.2);simp only [a1,a2,B5,nth,D6,D8,D.I,D.S,D.L,D.B];rfl
theorem Jl (g:Gu):g.row=[.int g.k,.int g.l.k,.int g.l.n,.str g.l.s,.sl (g.l.as.map Tm.row),.int g.r.k,.int g.r.n,.str g.r.s,.sl (g.r.as.map Tm.row)]:=rfl
theorem Qv (n:Nat):((jg n).toNat:Int)=jg n/\(jg n).toNat<=64:=by have:=rq n; omega
theorem r97 (vars:List ByteArray) (gs:List Gu) (hg:gs.length<=1048576) (h:∀ g∈gs,g.ok):rn ⟨97,0,0⟩ [.sl (vars.map ai),.sl (gs.map Gu.row)]=some (0,[.sl ((Mk vars gs).map Vy)]):=by
 have hN:=Qv vars.length;have a1:=r63 vars.length;have hin:∀ (c:Int) (acc:aa),rn ⟨97,0,3⟩ [.sl (vars.map ai),.sl (gs.map Gu.row),.int (jg vars.length),.int c,.bool true,.int 0,.sl acc]=some (0,[.sl (vars.map ai),.sl (gs.map Gu.row),.int (jg vars.length),.int c,.bool (xa vars gs c),.sl acc]):=fun c acc=>by
  have hf:=Ml (F:=fun i b=>rn ⟨97,0,3⟩ [.sl (vars.map ai),.sl (gs.map Gu.row),.int (jg vars.length),.int c,.bool b,.int (i:Int),.sl acc]) (xs:=gs) (p:=fun g=>holds (ex (cf vars c) g)) (A:=fun b=>some (0,[.sl (vars.map ai),.sl (gs.map Gu.row),.int (jg vars.length),.int c,.bool b,.sl acc])) (fun i hi b=>?_) (fun b=>?_)
  · simp only [C6] at hf
    rw [hf]; rfl
  · have hss:∀ b∈cf vars c,bb b.2:=jb vars c
    have hgi:=h _ (C3 hi);have b1:=r71 vars c;have b2:=r140 (cf vars c) (Cc ..) hss gs[i] hgi;have b3:=r139 (ex (cf vars c) gs[i]) (Rx (Gi _ _) hgi);rw [e97_0_3];simp only [B8,ab hi,Jl,B6,ax,hi,C0,H3,H1,nth,D6,D8,D.I,D.S,D.L,D.B,af hi (by unfold maxLen; omega),B5,b1,b2,b3]
    cases b <;> rfl
  · skip
    rw [e97_0_3];simp
 show rn _ _=_
 rw [e97_0_0];have hf:=Gj (F:=fun i acc=>rn ⟨97,0,1⟩ [.sl (vars.map ai),.sl (gs.map Gu.row),.int (jg vars.length),.int (i:Int),.sl acc]) (N:=(jg vars.length).toNat) (p:=fun c=>xa vars gs (c:Int)) (g:=Vy) (K:=fun acc=>some (0,[.sl acc])) (fun i acc hi ha=>?_) (fun acc=>?_)
 · simp only [C6] at hf a1
   simp only [B6,a1,B5,nth,D6,D8,D.I,D.S,D.L,D.B];rw [hf]; rfl
 · skip
   rw [e97_0_1];rw [H7 (by omega:(i:Int)<jg vars.length),hin]
   simp only [H1,B5,E2,nth,D6,D8,D.I,D.S,D.L,D.B,C1,C7,af hi (by unfold maxLen; omega)]
   rw [show F6 (acc.length+(0+1)) M63=true from F9 (by unfold M63; omega)]
   cases xa vars gs (i:Int) <;> rfl
 · skip
   rw [e97_0_1];rw [H8 (by omega:¬((jg vars.length).toNat:Int)<jg vars.length)]; rfl
end Go.Q.S
end
section
namespace Go.Q.S
open Go Go.Q Go.Proofs
theorem r56 (vs cs0 cs:aa) (t:Tm) (h:bb t) (h1:vs.length<=274877906944) (h2:cs.length<=274877906944):rn ⟨56,0,0⟩ [.sl vs,.int t.k,.int t.n,.str t.s,.sl (t.as.map Tm.row),.sl cs0,.sl cs]=some (0,[.int t.k,.int t.n,.str t.s,.sl vs,.sl (t.as.map Tm.row),.sl cs]):=by
 rw [e56_0_0];simp only [xe vs h1,Ee cs h2,r36 t h,zy,Dg,Dh,Di,Dj,Dk,Dl,Dm,Dn,Do,rr,rx,ry,rz,sa,sc,sd,se,sf,si,sj,sk,sm,sn,sq,su,dI,dB,dS,dL,B5]
end Go.Q.S
end
section
namespace Go.Q.S
open Go Go.Q Go.Proofs
theorem qlt (a c:Nat):decide ((c:Int)<(a:Int))=!decide (a<=c):=by by_cases h:a<=c <;> simp [h] <;> omega
theorem qle (a c:Nat):decide ((c:Int)<=(a:Int))=decide (c<=a):=by by_cases h:c<=a <;> simp [h] <;> omega
theorem bg {n:Nat} (h:n<=1099511627776):n<=maxLen:=by unfold maxLen; omega
theorem nb {n m:Nat} (h:n+m<=274877906944):F6 (n+m) M63=true:=F9 h
theorem r180 (c:Nat):rn ⟨180,0,0⟩ [.int (c:Int)]=some (0,[.bool (decide (97<=c)&&decide (c<=122))]):=by
 rw [e180_0_0,show decide ((97:Int)<=(c:Int))=decide (97<=c) from qle c 97,show decide ((c:Int)<=122)=decide (c<=122) from qle 122 c]
 cases decide (97<=c) <;> rfl
theorem r190 (c:Nat):rn ⟨190,0,0⟩ [.int (c:Int)]=some (0,[.bool (decide (48<=c)&&decide (c<=57))]):=by
 rw [e190_0_0,show decide ((48:Int)<=(c:Int))=decide (48<=c) from qle c 48,show decide ((c:Int)<=57)=decide (c<=57) from qle 57 c]
 cases decide (48<=c) <;> rfl
theorem rIn (a b c:Int):rn ⟨32,0,0⟩ [.int a,.int b,.int c]=some (0,[.bool (decide (b<=a)&&decide (a<=c))]):=r32 a b c
theorem r104 (s:ByteArray) (hs:s.size<=maxLen) (lo hi:Nat):rn ⟨104,0,0⟩ [.str s,.int (lo:Int),.int (hi:Int)]=some (0,[.bool (Bl lo hi s.data.toList)]):=by
 have hz:=pf s;have hl:∀ n i,i+n=s.data.toList.length->rn ⟨104,0,1⟩ [.str s,.int (i:Int)]=bif (s.data.toList.drop i).all zz then some (0,[]) else some (1,[]):=by
  intro n;induction n with
  | zero =>
   intro i hi;obtain rfl:i=s.data.toList.length:=by omega
   rw [e104_0_1];simp only [hz,B6,C0,D3,H4,H2,C8,N4,H1]
  | succ n ih =>
   intro i hi;have hlt:i<s.data.toList.length:=by omega
   rw [e104_0_1,B9 hlt];simp only [hz,C0,hlt,H3,H1,ax,B8,af hlt (by omega),nu hlt,J6,ih (i+1) (by omega),zz]
   generalize s.data.toList[i].toNat=c;rw [show decide ((c:Int)<97)=!decide (97<=c) from qlt 97 c,show decide ((c:Int)<48)=!decide (48<=c) from qlt 48 c,show decide ((57:Int)<(c:Int))=!decide (c<=57) from qlt c 57,show decide ((122:Int)<(c:Int))=!decide (c<=122) from qlt c 122]
   cases decide (97<=c) <;> cases decide (c<=122) <;> cases decide (48<=c) <;> cases decide (c<=57) <;> simp
 have h1:=hl (s.data.toList.length-1) 1;rw [e104_0_0];have hg:∀ h:0<s.data.toList.length,s.get! 0=s.data.toList[0]:=fun h=>nu h
 rw [hz] at hs;rw [hz];generalize s.data.toList=l at hs hz hl h1 hg ⊢;cases l with
 | nil=>rfl
 | cons b r =>
  have e0:=hg (by simp)
  have e1:=h1 (by simp; omega)
  simp only [P1,D2] at e1;rw [show ((1:Nat):Int)=1 from rfl] at e1
  have hn:¬(((b::r).length:Nat):Int)<1:=by simp only [C1]; omega
  have hi0:inb 0 (b::r).length=true:=by simp [inb]
  rw [show decide ((8:Int)<(((b::r).length:Nat):Int))=!decide ((b::r).length<=8) from qlt _ 8]
  simp only [H8 hn,H2,hi0,H1,show O2 0=0 from rfl,e0,R5,e1,Bl]
  rw [qlt lo b.toNat,qlt b.toNat hi];cases decide ((b::r).length<=8) <;> cases decide (lo<=b.toNat) <;> cases decide (b.toNat<=hi) <;> cases r.all zz <;> first | rfl | (simp; done) | (simp; rfl)
theorem r155 (s:ByteArray) (hs:s.size<=maxLen):rn ⟨155,0,0⟩ [.str s]=some (0,[.bool (kd s)]):=by
 have h:=r104 s hs 97 122;rw [e155_0_0];simp only [show ((97:Nat):Int)=97 from rfl,show ((122:Nat):Int)=122 from rfl] at h
 simp only [h,nv0,nvS,dvI,dvB,dvS,dvL,B5]; rfl
theorem r46 (s:ByteArray) (hs:s.size<=maxLen):rn ⟨46,0,0⟩ [.str s]=some (0,[.bool (mh s)]):=by
 have h:=r104 s hs 65 90;rw [e46_0_0];simp only [show ((65:Nat):Int)=65 from rfl,show ((90:Nat):Int)=90 from rfl] at h
 simp only [h,nv0,nvS,dvI,dvB,dvS,dvL,B5]; rfl
theorem r170 (s:ByteArray) (hs:s.size<=maxLen):rn ⟨170,0,0⟩ [.str s]=some (0,[.bool ((s.data.toList.drop 1).all zz&&(decide (1<=s.data.toList.length)&&decide (s.data.toList.length<=8)))]):=by
 have hz:=pf s;have hl:∀ n i,i+n=s.data.toList.length->rn ⟨170,0,1⟩ [.str s,.int (i:Int)]=bif (s.data.toList.drop i).all zz then some (0,[.str s]) else some (1,[]):=by
  intro n;induction n with
  | zero =>
   intro i hi;obtain rfl:i=s.data.toList.length:=by omega
   rw [e170_0_1];simp only [hz,B6,C0,D3,H4,H2,C8,N4,H1]
  | succ n ih =>
   intro i hi;have hlt:i<s.data.toList.length:=by omega
   rw [e170_0_1,B9 hlt];simp only [hz,C0,hlt,H3,H1,ax,B8,af hlt (by omega),nu hlt,J6,ih (i+1) (by omega),zz,r180,r190,nv0,nvS,dvI,dvB,dvS,dvL,B5]
   generalize s.data.toList[i].toNat=c;cases decide (97<=c) <;> cases decide (c<=122) <;> cases decide (48<=c) <;> cases decide (c<=57) <;> simp
 rw [e170_0_0];have hlen:decide ((1:Int)<=(s.data.toList.length:Int))=decide (1<=s.data.toList.length):=qle s.data.toList.length 1;have hlen8:decide ((s.data.toList.length:Int)<=8)=decide (s.data.toList.length<=8):=qle 8 s.data.toList.length;by_cases h0:s.data.toList.length=0
 · have e:rn ⟨170,0,1⟩ [.str s,.int 1]=some (0,[.str s]):=by
    rw [e170_0_1];rw [H8 (show ¬(1:Int)<(s.size:Int) by rw [hz]; omega)]; rfl
   simp only [e,nv0,nvS,dvI,dvB,dvS,dvL,B5,E2,H1,H2,rIn,hz,hlen,hlen8];have:s.data.toList=[]:=F8.1 h0;rw [this]; rfl
 · have h1:=hl (s.data.toList.length-1) 1 (by omega)
   rw [show ((1:Nat):Int)=1 from rfl] at h1
   rw [h1];cases (s.data.toList.drop 1).all zz with
   | true=>simp only [nv0,nvS,dvI,dvB,dvS,dvL,B5,E2,H1,H2,rIn,hz,hlen,hlen8,F4]
   | false=>rfl
theorem r150 (s:ByteArray) (hs:s.size<=maxLen):rn ⟨150,0,0⟩ [.str s]=some (0,[.bool (kd s)]):=by
 have hr:=r170 s hs;have hz:=pf s;rw [e150_0_0];have he:decide (s=(⟨#[]⟩:ByteArray))=decide (s.data.toList=[]):=decide_eq_decide.2 (Gp s);have hg:∀ h:0<s.data.toList.length,s.get! 0=s.data.toList[0]:=fun h=>nu h
 rw [he,hz];unfold kd;generalize s.data.toList=l at hr hz hg ⊢;cases l with
 | nil=>rfl
 | cons b r =>
  have e0:=hg (by simp)
  have hi0:inb 0 (r.length+1)=true:=by simp [inb]
  simp only [show O2 0=0 from rfl,e0,R5,C1,hi0,H1,H8 (List.cons_ne_nil b r),J8,r180,nv0,nvS,dvI,dvB,dvS,dvL,B5,hr,Bl,P1,D2,C1]
  have:decide (1<=r.length+1)=true:=by simp
  rw [this];cases decide (97<=b.toNat) <;> cases decide (b.toNat<=122) <;> cases r.all zz <;> cases decide (r.length+1<=8) <;> rfl
theorem r120 (s:ByteArray) (hs:s.size<=maxLen):rn ⟨120,0,0⟩ [.str s]=some (0,[.bool (mh s)]):=by
 have hr:=r170 s hs;have hz:=pf s;rw [e120_0_0];have he:decide (s=(⟨#[]⟩:ByteArray))=decide (s.data.toList=[]):=decide_eq_decide.2 (Gp s);have hg:∀ h:0<s.data.toList.length,s.get! 0=s.data.toList[0]:=fun h=>nu h
 rw [he,hz];unfold mh;generalize s.data.toList=l at hr hz hg ⊢;cases l with
 | nil=>rfl
 | cons b r =>
  have e0:=hg (by simp)
  have hi0:inb 0 (r.length+1)=true:=by simp [inb]
  simp only [show O2 0=0 from rfl,e0,R5,C1,hi0,H1,H8 (List.cons_ne_nil b r),J8,nv0,nvS,dvI,dvB,dvS,dvL,B5,hr,Bl,P1,D2,C1]
  have:decide (1<=r.length+1)=true:=by simp
  rw [this,show decide ((65:Int)<=(b.toNat:Int))=decide (65<=b.toNat) from qle b.toNat 65,show decide ((b.toNat:Int)<=90)=decide (b.toNat<=90) from qle 90 b.toNat]
  cases decide (65<=b.toNat) <;> cases decide (b.toNat<=90) <;> cases r.all zz <;> cases decide (r.length+1<=8) <;> rfl
theorem r105:∀ t:Tm,t.nodes<=2097152->rn ⟨105,0,0⟩ [.int t.k,.int t.n,.str t.s,.sl (t.as.map Tm.row)]=some (0,[.int (t.nodes:Int)]):=Tm.ind fun t ih h=>by
 have hnd:=Tm.nodes_eq t;have hls:=cw (xs:=t.as);have hl:∀ n i (c:Nat),i+n=t.as.length->c+((t.as.drop i).map Tm.nodes).sum<=2097152->rn ⟨105,0,1⟩ [.int (c:Int),.sl (t.as.map Tm.row),.int (t.as.length:Int),.int (i:Int)]=some (0,[.int ((c+((t.as.drop i).map Tm.nodes).sum:Nat):Int)]):=by
  intro n;induction n with
  | zero =>
   intro i c hi hc;obtain rfl:i=t.as.length:=by omega
   rw [e105_0_1];simp only [B6,C0,D3,H4,H2,C8,D1,List.sum_nil,N2]
  | succ n ih2 =>
   intro i c hi hc;have hlt:i<t.as.length:=by omega
   rw [B9 hlt] at hc ⊢;simp only [C2,J7] at hc ⊢;rw [e105_0_1];have h1:=ih _ (C3 hlt) (by omega)
   simp only [B6,C0,hlt,H3,H1,ax,B8,ab hlt,af hlt (bg (by omega)),Tm.row_eq,nv0,nvS,dvI,dvB,dvS,dvL,B5,h1]
   rw [IntWalk.i64_in _ (by omega),show ((c:Int)+(t.as[i].nodes:Int))=((c+t.as[i].nodes:Nat):Int) by omega,ih2 (i+1) _ (by omega) (by omega),Nat.add_assoc]
 rw [e105_0_0];have:=hl t.as.length 0 1 (by omega) (by rw [D2]; omega)
 rw [D2,<- hnd] at this;simp only [B6,show ((1:Nat):Int)=1 from rfl,C6] at this ⊢
 simp only [this,nv0,nvS,dvI,dvB,dvS,dvL,B5,E2,H1,H2]
theorem Wj (a b:Nat):(bif decide (b<a) then (a:Int) else (b:Int))=((max b a:Nat):Int):=by
 by_cases h:b<a
 · rw [H7 h,H1]; omega
 · rw [H8 h,H2]; omega
theorem r106:∀ t:Tm,t.nodes<=2097152->rn ⟨106,0,0⟩ [.int t.k,.int t.n,.str t.s,.sl (t.as.map Tm.row)]=some (0,[.int (t.depth:Int)]):=Tm.ind fun t ih h=>by
 have hnd:=Tm.nodes_eq t;have hls:=cw (xs:=t.as);have hdn:=Tm.depth_nodes t;have hde:=Tm.depth_eq t;have hl:∀ n i (c:Nat),i+n=t.as.length->rn ⟨106,0,1⟩ [.int (c:Int),.sl (t.as.map Tm.row),.int (t.as.length:Int),.int (i:Int)]=some (0,[.int ((max c (Tm.depthL (t.as.drop i)):Nat):Int)]):=by
  intro n;induction n with
  | zero =>
   intro i c hi;obtain rfl:i=t.as.length:=by omega
   rw [e106_0_1];simp only [B6,C0,D3,H4,H2,C8,Tm.depthL,Nat.max_zero]
  | succ n ih2 =>
   intro i c hi;have hlt:i<t.as.length:=by omega
   rw [B9 hlt];have hm:=dh (f:=Tm.nodes) (C3 hlt);have h1:=ih _ (C3 hlt) (by omega)
   rw [e106_0_1];simp only [B6,C0,hlt,H3,H1,ax,B8,ab hlt,af hlt (bg (by omega)),Tm.row_eq,nv0,nvS,dvI,dvB,dvS,dvL,B5,h1]
   rw [Wj,ih2 (i+1) _ (by omega)]
   simp only [Tm.depthL,Nat.max_assoc]
 rw [e106_0_0];have:=hl t.as.length 0 0 (by omega)
 rw [D2,Nat.zero_max] at this;simp only [B6,C6] at this ⊢;simp only [this,nv0,nvS,dvI,dvB,dvS,dvL,B5,E2,H1,H2];rw [IntWalk.i64_in _ (by omega),hde]; rfl
theorem r68 (a b:Nat):rn ⟨68,0,0⟩ [.int (a:Int),.int (b:Int)]=some (0,[.int ((max a b:Nat):Int)]):=by
 rw [e68_0_0];by_cases h:(b:Int)<(a:Int)
 · rw [H7 h,H1,show max a b=a by omega]
 · rw [H8 h,H2,show max a b=b by omega]
theorem r122:∀ t:Tm,t.nodes<=2097152->rn ⟨122,0,0⟩ [.int t.k,.int t.n,.str t.s,.sl (t.as.map Tm.row)]=some (0,[.int (t.depth:Int)]):=Tm.ind fun t ih h=>by
 have hnd:=Tm.nodes_eq t;have hls:=cw (xs:=t.as);have hdn:=Tm.depth_nodes t;have hde:=Tm.depth_eq t;have hl:∀ n i (c:Nat),i+n=t.as.length->rn ⟨122,0,1⟩ [.int (c:Int),.int (i:Int),.int t.k,.int t.n,.str t.s,.sl (t.as.map Tm.row)]=some (0,[.int ((max c (Tm.depthL (t.as.drop i)):Nat):Int)]):=by
  intro n;induction n with
  | zero =>
   intro i c hi;obtain rfl:i=t.as.length:=by omega
   rw [e122_0_1];simp only [B6,C0,D3,H4,H2,C8,Tm.depthL,Nat.max_zero]
  | succ n ih2 =>
   intro i c hi;have hlt:i<t.as.length:=by omega
   rw [B9 hlt];have hm:=dh (f:=Tm.nodes) (C3 hlt);have h1:=ih _ (C3 hlt) (by omega)
   rw [e122_0_1];simp only [B6,C0,hlt,H3,H1,ax,B8,ab hlt,af hlt (bg (by omega)),Tm.row_eq,nv0,nvS,dvI,dvB,dvS,dvL,B5,h1,r68]
   have h2:=ih2 (i+1) (max c t.as[i].depth) (by omega)
   rw [h2];simp only [Tm.depthL,Nat.max_assoc]
 rw [e122_0_0];have:=hl t.as.length 0 0 (by omega)
 rw [D2,Nat.zero_max] at this;simp only [C6] at this ⊢;simp only [this,nv0,nvS,dvI,dvB,dvS,dvL,B5,E2,H1,H2];rw [IntWalk.i64_in _ (by omega),hde]; rfl
def mr (n left:Nat):Int:=if n<=left then ((left-n:Nat):Int) else -1
theorem Cd {a b c:Nat} (h:a<=c):mr b (c-a)=mr (a+b) c:=by
 unfold mr;by_cases hb:b<=c-a
 · rw [H5 hb,H5 (by omega),Nat.sub_sub]
 · rw [H6 hb,H6 (by omega)]
theorem r121:∀ t:Tm,∀ left:Nat,t.nodes<=2097152->left<=1048576->rn ⟨121,0,0⟩ [.int t.k,.int t.n,.str t.s,.sl (t.as.map Tm.row),.int (left:Int)]=some (0,[.int (mr t.nodes left)]):=Tm.ind fun t ih left h hle=>by
 have hnd:=Tm.nodes_eq t;have hls:=cw (xs:=t.as);have hl:∀ n i (c:Nat),i+n=t.as.length->c<=1048576->rn ⟨121,0,1⟩ [.int (c:Int),.int (i:Int),.int t.k,.int t.n,.str t.s,.sl (t.as.map Tm.row)]=some (0,[.int (mr ((t.as.drop i).map Tm.nodes).sum c)]):=by
  intro n;induction n with
  | zero =>
   intro i c hi hc;obtain rfl:i=t.as.length:=by omega
   rw [e121_0_1];simp only [B6,C0,D3,H4,H2,C8,D1,List.sum_nil,mr,K0,if_true,Nat.sub_zero]
  | succ n ih2 =>
   intro i c hi hc;have hlt:i<t.as.length:=by omega
   rw [B9 hlt];rw [e121_0_1];have h1:=ih _ (C3 hlt) c (by have:=dh (f:=Tm.nodes) (C3 hlt); omega) hc
   have hc0:(0:Int)<=(c:Int):=by omega
   simp only [B6,C0,hlt,H3,H1,ax,B8,ab hlt,af hlt (bg (by omega)),Tm.row_eq,nv0,nvS,dvI,dvB,dvS,dvL,B5,h1,hc0]
   simp only [C2,J7];by_cases hq:t.as[i].nodes<=c
   · have e:mr t.as[i].nodes c=((c-t.as[i].nodes:Nat):Int):=H5 hq
     rw [e,ih2 (i+1) _ (by omega) (by omega),Cd hq]
   · have e:mr t.as[i].nodes c=-1:=H6 hq
     have e2:mr (t.as[i].nodes+((t.as.drop (i+1)).map Tm.nodes).sum) c=-1:=H6 (by omega)
     rw [e,e2,e121_0_1];have hneg:¬(0:Int)<=-1:=by decide
     simp only [hneg,H4,H2];cases decide (((i+1:Nat):Int)<((t.as.map Tm.row).length:Int)) <;> rfl
 rw [e121_0_0,IntWalk.i64_in _ (by omega)]
 by_cases hz:left=0
 · subst hz
   have e:mr t.nodes 0=-1:=H6 (by omega)
   have hneg:¬(0:Int)<=-1:=by decide
   have e2:rn ⟨121,0,1⟩ [.int (((0:Nat):Int)-1),.int 0,.int t.k,.int t.n,.str t.s,.sl (t.as.map Tm.row)]=some (0,[.int (-1)]):=by
    rw [e121_0_1];simp only [show (((0:Nat):Int)-1)=-1 from rfl,hneg,H4,H2]
    cases decide ((0:Int)<((t.as.map Tm.row).length:Int)) <;> rfl
   rw [e2,e]; rfl
 · have:=hl t.as.length 0 (left-1) (by omega) (by omega)
   rw [D2] at this;rw [show (left:Int)-1=((left-1:Nat):Int) by omega]
   simp only [C6] at this;simp only [this,nv0,nvS,dvI,dvB,dvS,dvL,B5,E2,H1,H2];rw [Cd (by omega),hnd]
end Go.Q.S
end
section
namespace Go.Q.S
open Go Go.Q Go.Proofs
theorem r107:∀ t:Tm,Wt t->rn ⟨107,0,0⟩ [.int t.k,.int t.n,.str t.s,.sl (t.as.map Tm.row)]=some (0,[.bool t.areN]):=Tm.ind fun t ih h=>by
 have hlm:=h.l;have hl:∀ n i,i+n=t.as.length->rn ⟨107,0,2⟩ [.sl (t.as.map Tm.row),.int (t.as.length:Int),.int (i:Int)]=bif Tm.areNL (t.as.drop i) then some (0,[]) else some (1,[]):=by
  intro n;induction n with
  | zero =>
   intro i hi;obtain rfl:i=t.as.length:=by omega
   rw [e107_0_2];simp only [B6,C0,D3,H4,H2,C8,Tm.areNL,H1]
  | succ n ih2 =>
   intro i hi;have hlt:i<t.as.length:=by omega
   rw [e107_0_2,B9 hlt];have h1:=ih _ (C3 hlt) (h.sub (C3 hlt));simp only [B6,C0,hlt,H3,H1,ax,B8,ab hlt,af hlt hlm,Tm.row_eq,nv0,nvS,dvI,dvB,dvS,dvL,B5,h1,ih2 (i+1) (by omega),Tm.areNL]
   cases t.as[i].areN <;> simp
 have h0:=hl t.as.length 0 (by omega)
 rw [D2] at h0;rw [e107_0_0,Tm.areN_eq];simp only [B6,C6] at h0 ⊢;simp only [h0,r46 t.s h.s,r164 t,r155 t.s h.s,nv0,nvS,dvI,dvB,dvS,dvL,B5];unfold Tm.nodeN;have hz:decide ((t.as.length:Int)=0)=decide (t.as.length=0):=by simp
 by_cases h1:t.k=1
 · rw [H7 h1,H5 h1,hz]
   by_cases h2:t.as.length=0
   · have:t.as=[]:=F8.1 h2
     rw [H7 h2,this];simp only [Tm.areNL,H1,N0,F4];cases decide (t.n=0) <;> cases mh t.s <;> rfl
   · rw [H8 h2]
     cases decide (t.n=0) <;> rfl
 · rw [H8 h1,H6 h1]
   by_cases h3:t.k=3
   · rw [H7 h3,H5 h3]
     cases hw:isW t with
     | false=>rfl
     | true =>
      have:t.as=[]:=by simp only [isW,B7,decide_eq_true_eq] at hw; exact F8.1 hw.2.2.2.2
      rw [this]; rfl
   · rw [H8 h3,H6 h3]
     by_cases h2:t.k=2
     · rw [H7 h2,H5 h2]
       cases decide (t.n=0) <;> cases kd t.s <;> cases Tm.areNL t.as <;> rfl
     · rw [H8 h2,H6 h2]; rfl
theorem r171 (t:Tm) (h:Wt t):rn ⟨171,0,0⟩ [.int t.k,.int t.n,.str t.s,.sl (t.as.map Tm.row)]=some (0,[.bool t.nodeN]):=by
 rw [e171_0_0];have hz:decide ((t.as.length:Int)=0)=decide (t.as.length=0):=by simp
 simp only [B6,r120 t.s h.s,r150 t.s h.s,nv0,nvS,dvI,dvB,dvS,dvL,B5,rIn,hz];unfold Tm.nodeN;by_cases h1:t.k=1
 · rw [H7 h1,H5 h1]
   cases decide (t.n=0) <;> cases mh t.s <;> cases decide (t.as.length=0) <;> rfl
 · rw [H8 h1,H6 h1]
   by_cases h2:t.k=2
   · rw [H7 h2,H6 (by omega),H5 h2]
     cases decide (t.n=0) <;> cases kd t.s <;> rfl
   · rw [H8 h2]
     by_cases h3:t.k=3
     · rw [H7 h3,H5 h3]
       unfold isW;have e2:decide (t.n<=3)=decide (t.n<4):=decide_eq_decide.2 (by omega)
       rw [H7 h3,e2];cases decide (t.s=(⟨#[]⟩:ByteArray)) <;> cases decide (0<=t.n) <;> cases decide (t.n<4) <;> cases decide (t.as.length=0) <;> rfl
     · rw [H8 h3,H6 h3,H6 h2]; rfl
theorem r123:∀ t:Tm,Wt t->rn ⟨123,0,0⟩ [.int t.k,.int t.n,.str t.s,.sl (t.as.map Tm.row)]=some (0,[.bool t.areN]):=Tm.ind fun t ih h=>by
 have hlm:=h.l;have hl:∀ n i,i+n=t.as.length->rn ⟨123,0,1⟩ [.int (i:Int),.int t.k,.int t.n,.str t.s,.sl (t.as.map Tm.row)]=bif Tm.areNL (t.as.drop i) then some (0,[.int t.k,.int t.n,.str t.s,.sl (t.as.map Tm.row)]) else some (1,[]):=by
  intro n;induction n with
  | zero =>
   intro i hi;obtain rfl:i=t.as.length:=by omega
   rw [e123_0_1];simp only [B6,C0,D3,H4,H2,C8,Tm.areNL,H1]
  | succ n ih2 =>
   intro i hi;have hlt:i<t.as.length:=by omega
   rw [e123_0_1,B9 hlt];have h1:=ih _ (C3 hlt) (h.sub (C3 hlt));simp only [B6,C0,hlt,H3,H1,ax,B8,ab hlt,af hlt hlm,Tm.row_eq,nv0,nvS,dvI,dvB,dvS,dvL,B5,h1,ih2 (i+1) (by omega),Tm.areNL]
   cases t.as[i].areN <;> simp
 have h0:=hl t.as.length 0 (by omega)
 rw [D2] at h0;rw [e123_0_0,Tm.areN_eq];simp only [C6] at h0 ⊢;rw [h0];cases Tm.areNL t.as with
 | true=>simp only [H1,nv0,nvS,dvI,dvB,dvS,dvL,B5,E2,H1,H2,r171 t h,N0]
 | false=>rw [Bool.and_false]; rfl
theorem r47 (t:Tm) (hn:t.nodes<=2097152) (h:Wt t):rn ⟨47,0,0⟩ [.int t.k,.int t.n,.str t.s,.sl (t.as.map Tm.row)]=some (0,[.bool t.valid]):=by
 rw [e47_0_0];simp only [r105 t hn,r106 t hn,r107 t h,nv0,nvS,dvI,dvB,dvS,dvL,B5];unfold Tm.valid;have i1:((t.nodes:Int)<=60)↔t.nodes<=60:=by omega
 have i2:((t.depth:Int)<=16)↔t.depth<=16:=by omega
 by_cases h1:t.nodes<=60 <;> by_cases h2:t.depth<=16 <;> simp [h1,h2,i1,i2]
theorem r60 (t:Tm) (hn:t.nodes<=2097152) (h:Wt t):rn ⟨60,0,0⟩ [.int t.k,.int t.n,.str t.s,.sl (t.as.map Tm.row)]=some (0,[.bool t.valid]):=by
 rw [e60_0_0];have h1:=r121 t 60 hn (by omega)
 rw [show ((60:Nat):Int)=60 from rfl] at h1
 simp only [h1,r122 t hn,r123 t h,nv0,nvS,dvI,dvB,dvS,dvL,B5];have i0:((0:Int)<=mr t.nodes 60)↔t.nodes<=60:=by
  unfold mr;split <;> omega
 unfold Tm.valid;have i2:((t.depth:Int)<=16)↔t.depth<=16:=by omega
 by_cases h1:t.nodes<=60 <;> by_cases h2:t.depth<=16 <;> simp [h1,h2,i0,i2]
theorem r45 (l:List ByteArray) (h:l.length<=1048576):rn ⟨45,0,0⟩ [.sl (l.map ai)]=some (0,[.bool (dis l)]):=by
 rw [e45_0_0];simp only [r103 l (by omega),nv0,nvS,dvI,dvB,dvS,dvL,B5,B6]
 congr 4
 unfold dis;exact decide_eq_decide.2 (by rw [<- Pr]; omega)
def ixS (s:ByteArray):List ByteArray->Nat->Int
 | [],_=>-1
 | x::r,i=>if x=s then (i:Int) else ixS s r (i+1)
theorem Lh (s:ByteArray):∀ (l:List ByteArray) (i:Nat),ixS s l i<0↔s∉l
 | [],i=>by simp [ixS]
 | x::r,i=>by
  unfold ixS;by_cases h:x=s
  · rw [H5 h]; simp [h]
  · rw [H6 h,Lh s r]; simp [Ne.symm h]
theorem r124 (l:List ByteArray) (hl:l.length<=maxLen) (s:ByteArray):rn ⟨124,0,0⟩ [.sl (l.map ai),.str s]=some (0,[.int (ixS s l 0)]):=by
 have hlp:∀ n i,i+n=l.length->(ixS s (l.drop i) i=-1/\rn ⟨124,0,1⟩ [.sl (l.map ai),.str s,.int (i:Int)]=some (0,[]))\/rn ⟨124,0,1⟩ [.sl (l.map ai),.str s,.int (i:Int)]=some (1,[.int (ixS s (l.drop i) i)]):=by
  intro n;induction n with
  | zero =>
   intro i hi;obtain rfl:i=l.length:=by omega
   rw [e124_0_1];simp only [B6,C0,D3,H4,H2,C8,ixS];exact .inl ⟨trivial,trivial⟩
  | succ n ih =>
   intro i hi;have hlt:i<l.length:=by omega
   rw [e124_0_1,B9 hlt];simp only [B6,C0,hlt,H3,H1,ax,B8,ab hlt,af hlt hl,ai,nv0,nvS,dvI,dvB,dvS,dvL,B5,ixS];by_cases h:l[i]=s
   · simp only [H7 h,H1,H5 h]; exact .inr trivial
   · simp only [H8 h,H2,H6 h]; exact ih (i+1) (by omega)
 have h:=hlp l.length 0 (by omega)
 rw [D2] at h;simp only [C6] at h;rw [e124_0_0];rcases h with ⟨h1,h2⟩ | h2
 · rw [h2,h1]; rfl
 · rw [h2]; rfl
theorem r118 (l:List ByteArray) (hl:l.length<=maxLen):rn ⟨118,0,0⟩ [.sl (l.map ai)]=some (0,[.bool (dis l)]):=by
 have key:∀ n i,i+n=l.length->rn ⟨118,0,1⟩ [.sl (l.map ai),.int (i:Int)]=bif (R9 i n).all (fun j=>decide (ixS (l.getD j e0) l 0=(j:Int))) then some (0,[]) else some (1,[]):=by
  intro n;induction n with
  | zero =>
   intro i hi;obtain rfl:i=l.length:=by omega
   rw [e118_0_1];simp only [B6,C0,D3,H4,H2,C8]; rfl
  | succ n ih =>
   intro i hi;have hlt:i<l.length:=by omega
   rw [e118_0_1,List.range'_succ];have hg:l.getD i e0=l[i]:=by simp [O1,hlt]
   simp only [B6,C0,hlt,H3,H1,ax,B8,ab hlt,af hlt hl,ai,nv0,nvS,dvI,dvB,dvS,dvL,B5,r124 l hl,ih (i+1) (by omega),J6,hg]
   by_cases hq:ixS l[i] l 0=(i:Int)
   · simp [hq]
   · simp [hq]
 have h:=key l.length 0 (by omega)
 rw [e118_0_0];simp only [C6] at h;rw [h];have hfi:∀ (m:List ByteArray) (i k:Nat) (hk:k<m.length),ixS m[k] m i=((i+k:Nat):Int)↔∀ j (hj:j<k),m[j]≠m[k]:=by
  intro m;induction m with
  | nil=>intro i k hk; simp at hk
  | cons x m ih =>
   intro i k hk;cases k with
   | zero=>simp [ixS]
   | succ k =>
    have hk':k<m.length:=by simpa using hk
    simp only [List.getElem_cons_succ,ixS];by_cases hx:x=m[k]
    · rw [H5 hx]
      constructor
      · intro h; omega
      · intro h; exact absurd hx (h 0 (by omega))
    · rw [H6 hx]
      have:=ih (i+1) k hk';rw [show i+1+k=i+(k+1) by omega] at this
      rw [this];constructor
      · intro h j hj
        cases j with
        | zero=>exact hx
        | succ j=>exact h j (by omega)
      · intro h j hj; exact h (j+1) (by omega)
 have e:(R9 0 l.length).all (fun j=>decide (ixS (l.getD j e0) l 0=(j:Int)))=dis l:=by
  unfold dis;rw [Bool.eq_iff_iff,List.all_eq_true,decide_eq_true_eq];constructor
  · intro h
    refine S3.2 fun i j _ hj hij=>?_
    have h1:=h j (by simp [List.mem_range']; omega)
    simp only [decide_eq_true_eq] at h1;have hg:l.getD j e0=l[j]:=by simp [O1,hj]
    rw [hg] at h1;exact (hfi l 0 j hj).1 (by simpa using h1) i hij
  · intro h j hj
    have hj':j<l.length:=by simp [List.mem_range'] at hj; omega
    have hg:l.getD j e0=l[j]:=by simp [O1,hj']
    simp only [decide_eq_true_eq,hg];have:=(hfi l 0 j hj').2 fun i hi=>S3.1 h i j (by omega) hj' hi
    simpa using this
 rw [e];cases dis l <;> rfl
theorem Ef (l:List ByteArray) (s:ByteArray):decide ((0:Int)<=ixS s l 0)=je l s:=by
 rw [Bool.eq_iff_iff,decide_eq_true_eq,sy];have:=Lh s l 0;constructor
 · intro h; exact Classical.byContradiction fun hn=>by have:=this.2 hn; omega
 · intro h; exact Classical.byContradiction fun hn=>absurd h (this.1 (by omega))
theorem Vj (l:List ByteArray) (s:ByteArray):decide (ixS s l 0<0)=!je l s:=by
 rw [<- Ef];by_cases h:ixS s l 0<0
 · rw [H7 h,H8 (by omega)]; rfl
 · rw [H8 h,H7 (by omega)]; rfl
theorem Sw (l:List ByteArray) (hl:l.length<=maxLen) (s:ByteArray):rn ⟨183,0,0⟩ [.sl (l.map ai),.str s]=some (0,[.int (ixS s l 0)]):=by
 have hlp:∀ n i,i+n=l.length->(ixS s (l.drop i) i=-1/\rn ⟨183,0,1⟩ [.sl (l.map ai),.str s,.int (l.length:Int),.int (i:Int)]=some (0,[]))\/rn ⟨183,0,1⟩ [.sl (l.map ai),.str s,.int (l.length:Int),.int (i:Int)]=some (1,[.int (ixS s (l.drop i) i)]):=by
  intro n;induction n with
  | zero =>
   intro i hi;obtain rfl:i=l.length:=by omega
   rw [e183_0_1];simp only [B6,C0,D3,H4,H2,C8,ixS];exact .inl ⟨trivial,trivial⟩
  | succ n ih =>
   intro i hi;have hlt:i<l.length:=by omega
   rw [e183_0_1,B9 hlt];simp only [B6,C0,hlt,H3,H1,ax,B8,ab hlt,af hlt hl,ai,nv0,nvS,dvI,dvB,dvS,dvL,B5,ixS];by_cases h:l[i]=s
   · simp only [H7 h.symm,H1,H5 h]; exact .inr trivial
   · simp only [H8 (Ne.symm h),H2,H6 h]; exact ih (i+1) (by omega)
 have h:=hlp l.length 0 (by omega)
 rw [D2] at h;simp only [C6] at h;rw [e183_0_0];simp only [B6];rcases h with ⟨h1,h2⟩ | h2
 · rw [h2,h1]; rfl
 · rw [h2]; rfl
theorem Qw (l:List ByteArray) (hl:l.length<=maxLen) (s:ByteArray):rn ⟨156,0,0⟩ [.sl (l.map ai),.str s]=some (0,[.bool (je l s)]):=by
 rw [e156_0_0];simp only [Sw l hl,nv0,nvS,dvI,dvB,dvS,dvL,B5];rw [Ef]
theorem r108 (l r:List ByteArray) (hl:l.length<=2097152) (hr:r.length<=maxLen):rn ⟨108,0,0⟩ [.sl (l.map ai),.sl (r.map ai)]=some (0,[.sl ((wo l r).map ai)]):=by
 have key:∀ n i (acc:List ByteArray),i+n=l.length->acc.length<=i->rn ⟨108,0,1⟩ [.sl (r.map ai),.sl (l.map ai),.int (l.length:Int),.int (i:Int),.sl (acc.map ai)]=some (0,[.sl ((acc++wo (l.drop i) r).map ai)]):=by
  intro n;induction n with
  | zero =>
   intro i acc hi ha;obtain rfl:i=l.length:=by omega
   rw [e108_0_1];simp only [B6,C0,D3,H4,H2,C8,wo,List.filter_nil,G9]
  | succ n ih =>
   intro i acc hi ha;have hlt:i<l.length:=by omega
   rw [e108_0_1,B9 hlt];simp only [B6,C0,hlt,H3,H1,ax,B8,ab hlt,af hlt (bg (by omega)),ai,nv0,nvS,dvI,dvB,dvS,dvL,B5,Qw r hr,C1,C7]
   unfold wo;rw [O8];cases hh:je r l[i] with
   | true=>simp only [E1,H2,Q4,if_false]; exact ih (i+1) acc (by omega) (by omega)
   | false =>
    simp only [J8,H1,if_true];rw [nb (by omega)]
    have:=ih (i+1) (acc++[l[i]]) (by omega) (by simp; omega)
    rw [D5] at this;simp only [H1];simpa [wo,ai] using this
 have h:=key l.length 0 [] (by omega) (K0 _)
 rw [e108_0_0];simp only [C6,D1,D2,D9,B6] at h ⊢;simp only [h,nv0,nvS,dvI,dvB,dvS,dvL,B5,E2,H1,H2]
theorem r61 (l r:List ByteArray) (hl:l.length<=2097152) (hr:r.length<=maxLen):rn ⟨61,0,0⟩ [.sl (l.map ai),.sl (r.map ai)]=some (0,[.sl ((wo l r).map ai)]):=by
 have key:∀ n i (acc:List ByteArray),i+n=l.length->acc.length<=i->rn ⟨61,0,1⟩ [.sl (l.map ai),.sl (r.map ai),.int (i:Int),.sl (acc.map ai)]=some (0,[.sl ((acc++wo (l.drop i) r).map ai)]):=by
  intro n;induction n with
  | zero =>
   intro i acc hi ha;obtain rfl:i=l.length:=by omega
   rw [e61_0_1];simp only [B6,C0,D3,H4,H2,C8,wo,List.filter_nil,G9]
  | succ n ih =>
   intro i acc hi ha;have hlt:i<l.length:=by omega
   rw [e61_0_1,B9 hlt];simp only [B6,C0,hlt,H3,H1,ax,B8,ab hlt,af hlt (bg (by omega)),ai,nv0,nvS,dvI,dvB,dvS,dvL,B5,r124 r hr,C1,C7]
   rw [Vj];unfold wo;rw [O8];cases hh:je r l[i] with
   | true=>simp only [E1,H2,Q4,if_false]; exact ih (i+1) acc (by omega) (by omega)
   | false =>
    simp only [J8,H1,if_true];rw [nb (by omega)]
    have:=ih (i+1) (acc++[l[i]]) (by omega) (by simp; omega)
    rw [D5] at this;simp only [H1];simpa [wo,ai] using this
 have h:=key l.length 0 [] (by omega) (K0 _)
 rw [e61_0_0];simp only [C6,D1,D2,D9] at h ⊢;simp only [h,nv0,nvS,dvI,dvB,dvS,dvL,B5,E2,H1,H2]
end Go.Q.S
end
section
namespace Go.Q.S
open Go Go.Q Go.Proofs
theorem r160 (n:ByteArray) (a:List ByteArray) (r:ByteArray) (h:a.length<=1048576):rn ⟨160,0,0⟩ [.str n,.sl (a.map ai),.str r]=some (0,[.str n,.str r,.sl (a.map ai)]):=by
 rw [e160_0_0];have:=xe (a.map ai) (by rw [B6]; omega)
 simp only [this,nv0,nvS,dvI,dvB,dvS,dvL,B5]
theorem r100 (so:aa) (ops:List OpM) (ho:nv ops) (s:ByteArray):rn ⟨100,0,0⟩ [.sl so,.sl (ops.map OpM.row),.str s]=some (0,ke (dm ops s)):=by
 have hm:=ho.l;have hl:∀ n i,i+n=ops.length->rn ⟨100,0,1⟩ [.str s,.sl (ops.map OpM.row),.int (ops.length:Int),.int (i:Int),.str e0,.str e0,.sl []]=match (ops.drop i).find? (fun o=>decide (o.n=s)) with | some o=>some (1,[.str o.n,.str o.r,.sl (o.a.map ai)]) | none=>some (0,[.str e0,.str e0,.sl []]):=by
  intro n;induction n with
  | zero =>
   intro i hi;obtain rfl:i=ops.length:=by omega
   rw [e100_0_1];simp only [B6,C0,D3,H4,H2,C8,S0]
  | succ n ih =>
   intro i hi;have hlt:i<ops.length:=by omega
   rw [e100_0_1,B9 hlt];have h1:=r160 ops[i].n ops[i].a ops[i].r (ho.a _ (C3 hlt));simp only [B6,C0,hlt,H3,H1,ax,B8,ab hlt,af hlt (bg (by omega)),OpM.row,nv0,nvS,dvI,dvB,dvS,dvL,B5,P4,ih (i+1) (by omega),h1]
   by_cases hq:ops[i].n=s <;> simp [hq]
 have h:=hl ops.length 0 (by omega)
 rw [D2] at h;simp only [C6] at h;rw [e100_0_0];simp only [B6,r101,nv0,nvS,dvI,dvB,dvS,dvL,B5,h];unfold dm;cases isB s with
 | true=>rfl
 | false =>
  cases ops.find? (fun o=>decide (o.n=s)) <;> rfl
theorem r128 (so:aa) (ops:List OpM) (ho:nv ops) (s:ByteArray):rn ⟨128,0,0⟩ [.sl so,.sl (ops.map OpM.row),.str s]=some (0,ke (dm ops s)):=by
 have hm:=ho.l;have hl:∀ n i,i+n=ops.length->rn ⟨128,0,1⟩ [.str s,.int (i:Int),.sl so,.sl (ops.map OpM.row),.str e0,.str e0,.sl []]=match (ops.drop i).find? (fun o=>decide (o.n=s)) with | some o=>some (1,[.str o.n,.str o.r,.sl (o.a.map ai)]) | none=>some (0,[.str e0,.str e0,.sl []]):=by
  intro n;induction n with
  | zero =>
   intro i hi;obtain rfl:i=ops.length:=by omega
   rw [e128_0_1];simp only [B6,C0,D3,H4,H2,C8,S0]
  | succ n ih =>
   intro i hi;have hlt:i<ops.length:=by omega
   rw [e128_0_1,B9 hlt];have h1:ops[i].a.length<=1048576:=ho.a _ (C3 hlt);have h2:F6 (0+ops[i].a.length) M63=true:=nb (by omega)
   simp only [B6,C0,hlt,H3,H1,ax,B8,ab hlt,af hlt (bg (by omega)),OpM.row,nv0,nvS,dvI,dvB,dvS,dvL,B5,P4,ih (i+1) (by omega),C7,h2,D9]
   by_cases hq:ops[i].n=s <;> simp [hq]
 have h:=hl ops.length 0 (by omega)
 rw [D2] at h;simp only [C6] at h;rw [e128_0_0];simp only [B6,r129,nv0,nvS,dvI,dvB,dvS,dvL,B5,h];unfold dm;cases isB s with
 | true=>rfl
 | false =>
  cases ops.find? (fun o=>decide (o.n=s)) <;> rfl
theorem r49 (so:aa) (ops:List OpM) (ho:nv ops) (vs:List VS) (hv:vs.length<=1099511627776):∀ t:Tm,Wt t->rn ⟨49,0,0⟩ [.sl so,.sl (ops.map OpM.row),.int t.k,.int t.n,.str t.s,.sl (t.as.map Tm.row),.sl (vs.map VS.row)]=some (0,[.str (av ops vs t)]):=Tm.ind fun t ih h=>by
 have hlm:=h.l;have hvl:∀ n i,i+n=vs.length->rn ⟨49,0,2⟩ [.sl (vs.map VS.row),.int (vs.length:Int),.int (i:Int),.int t.k,.int t.n,.str t.s,.sl (t.as.map Tm.row)]=match (vs.drop i).find? (fun v=>decide (v.1=t.s)) with | some v=>some (1,[.str v.2]) | none=>some (0,[]):=by
  intro n;induction n with
  | zero =>
   intro i hi;obtain rfl:i=vs.length:=by omega
   rw [e49_0_2];simp only [B6,C0,D3,H4,H2,C8,S0]
  | succ n ih2 =>
   intro i hi;have hlt:i<vs.length:=by omega
   rw [e49_0_2,B9 hlt];simp only [B6,C0,hlt,H3,H1,ax,B8,ab hlt,af hlt (bg hv),VS.row,nv0,nvS,dvI,dvB,dvS,dvL,B5,P4,ih2 (i+1) (by omega)]
   by_cases hq:vs[i].1=t.s <;> simp [hq]
 have hal:∀ o:OpM,o.a.length=t.as.length->∀ n i,i+n=t.as.length->rn ⟨49,0,4⟩ [.sl (vs.map VS.row),.sl (t.as.map Tm.row),.int (t.as.length:Int),.int (i:Int),.sl so,.sl (ops.map OpM.row),.str o.n,.str o.r,.sl (o.a.map ai)]=bif bj ops vs (t.as.drop i) (o.a.drop i) then some (0,[.str o.n,.str o.r,.sl (o.a.map ai)]) else some (1,[.str e0]):=by
  intro o hlen n;induction n with
  | zero =>
   intro i hi;obtain rfl:i=t.as.length:=by omega
   rw [e49_0_4];simp only [B6,C0,D3,H4,H2,C8,bj,H1]
  | succ n ih2 =>
   intro i hi;have hlt:i<t.as.length:=by omega
   have hlo:i<o.a.length:=by omega
   have h1:=ih _ (C3 hlt) (h.sub (C3 hlt));rw [e49_0_4,B9 hlt,B9 hlo];simp only [B6,C0,hlt,H3,H1,ax,B8,ab hlt,af hlt hlm,hlo,ab hlo,Tm.row_eq,ai,nv0,nvS,dvI,dvB,dvS,dvL,B5,ih2 (i+1) (by omega),h1,bj]
   by_cases hq:av ops vs t.as[i]=e0
   · simp [hq]
   · by_cases hq2:av ops vs t.as[i]=o.a[i]
     · have hq3:=hq; rw [hq2] at hq3
       simp [hq2,hq3]
     · simp [hq,hq2]
 have hv0:=hvl vs.length 0 (by omega)
 have ha0:=fun o ho=>hal o ho t.as.length 0 (by omega)
 simp only [D2,C6] at hv0 ha0;rw [e49_0_0,cn];by_cases h3:t.k=3
 · simp [h3]
 · by_cases h1:t.k=1
   · rw [H6 h3,H5 h1]
     simp only [h1] at hv0;simp only [B6,hv0,h1,H3,H1];unfold pq;cases vs.find? (fun v=>decide (v.1=t.s)) <;> rfl
   · rw [H6 h3,H6 h1]
     by_cases h2:t.k=2
     · rw [H5 h2]
       simp only [B6,h2,H3,H1,if_true,r100 so ops ho,nv0,nvS,dvI,dvB,dvS,dvL,B5];cases hf:dm ops t.s with
       | none=>rfl
       | some o =>
        by_cases hlen:o.a.length=t.as.length
        · simp only [ke,nv0,nvS,dvI,dvB,dvS,dvL,B5,B6,hlen,H3,ha0 o hlen]
          cases bj ops vs t.as o.a <;> rfl
        · simp only [ke,nv0,nvS,dvI,dvB,dvS,dvL,B5,B6]
          have:¬((o.a.length:Int)=(t.as.length:Int)):=by omega
          simp [this,hlen]
     · simp [h1,h2,h3]
theorem r127 (vs:List VS) (hv:vs.length<=1099511627776) (s:ByteArray):rn ⟨127,0,0⟩ [.sl (vs.map VS.row),.str s]=some (0,[.str (pq vs s)]):=by
 have hvl:∀ n i,i+n=vs.length->rn ⟨127,0,1⟩ [.sl (vs.map VS.row),.str s,.int (i:Int)]=match (vs.drop i).find? (fun v=>decide (v.1=s)) with | some v=>some (1,[.str v.2]) | none=>some (0,[]):=by
  intro n;induction n with
  | zero =>
   intro i hi;obtain rfl:i=vs.length:=by omega
   rw [e127_0_1];simp only [B6,C0,D3,H4,H2,C8,S0]
  | succ n ih2 =>
   intro i hi;have hlt:i<vs.length:=by omega
   rw [e127_0_1,B9 hlt];simp only [B6,C0,hlt,H3,H1,ax,B8,ab hlt,af hlt (bg hv),VS.row,nv0,nvS,dvI,dvB,dvS,dvL,B5,P4,ih2 (i+1) (by omega)]
   by_cases hq:vs[i].1=s <;> simp [hq]
 have hv0:=hvl vs.length 0 (by omega)
 simp only [D2,C6] at hv0;rw [e127_0_0];rw [hv0];unfold pq;cases vs.find? (fun v=>decide (v.1=s)) <;> rfl
theorem r64 (so:aa) (ops:List OpM) (ho:nv ops) (vs:List VS) (hv:vs.length<=1099511627776):∀ t:Tm,Wt t->rn ⟨64,0,0⟩ [.sl so,.sl (ops.map OpM.row),.int t.k,.int t.n,.str t.s,.sl (t.as.map Tm.row),.sl (vs.map VS.row)]=some (0,[.str (av ops vs t)]):=Tm.ind fun t ih h=>by
 have hlm:=h.l;have hal:∀ o:OpM,o.a.length=t.as.length->∀ n i,i+n=t.as.length->rn ⟨64,0,2⟩ [.sl (vs.map VS.row),.int (i:Int),.sl so,.sl (ops.map OpM.row),.int t.k,.int t.n,.str t.s,.sl (t.as.map Tm.row),.str o.n,.str o.r,.sl (o.a.map ai)]=bif bj ops vs (t.as.drop i) (o.a.drop i) then some (0,[.str o.n,.str o.r,.sl (o.a.map ai)]) else some (1,[.str e0]):=by
  intro o hlen n;induction n with
  | zero =>
   intro i hi;obtain rfl:i=t.as.length:=by omega
   rw [e64_0_2];simp only [B6,C0,D3,H4,H2,C8,bj,H1]
  | succ n ih2 =>
   intro i hi;have hlt:i<t.as.length:=by omega
   have hlo:i<o.a.length:=by omega
   have h1:=ih _ (C3 hlt) (h.sub (C3 hlt));rw [e64_0_2,B9 hlt,B9 hlo];simp only [B6,C0,hlt,H3,H1,ax,B8,ab hlt,af hlt hlm,hlo,ab hlo,Tm.row_eq,ai,nv0,nvS,dvI,dvB,dvS,dvL,B5,ih2 (i+1) (by omega),h1,bj]
   by_cases hq2:av ops vs t.as[i]=o.a[i]
   · by_cases hq:o.a[i]=e0
     · simp [hq2,hq]
     · simp [hq2,hq]
   · simp [hq2]
 have ha0:=fun o ho=>hal o ho t.as.length 0 (by omega)
 simp only [D2,C6] at ha0;rw [e64_0_0,cn];by_cases h3:t.k=3
 · simp [h3]
 · by_cases h1:t.k=1
   · rw [H6 h3,H5 h1]
     simp only [h1,H3,H1,r127 vs hv,nv0,nvS,dvI,dvB,dvS,dvL,B5];rfl
   · rw [H6 h3,H6 h1]
     by_cases h2:t.k=2
     · rw [H5 h2]
       simp only [h2,H3,H1,if_true,r128 so ops ho,nv0,nvS,dvI,dvB,dvS,dvL,B5];cases hf:dm ops t.s with
       | none=>rfl
       | some o =>
        by_cases hlen:o.a.length=t.as.length
        · have:=ha0 o hlen
          rw [h2] at this;simp only [ke,nv0,nvS,dvI,dvB,dvS,dvL,B5,B6,hlen,H3,this];cases bj ops vs t.as o.a <;> rfl
        · simp only [ke,nv0,nvS,dvI,dvB,dvS,dvL,B5,B6]
          have:¬((o.a.length:Int)=(t.as.length:Int)):=by omega
          simp [this,hlen]
     · simp [h1,h2,h3]
end Go.Q.S
end
section
namespace Go.Q.S
open Go Go.Q Go.Proofs
theorem Vk (so:aa) (ops:List OpM) (ho:nv ops):∀ t:Tm,∀ (x:ByteArray) (vs:List VS),Wt t->vs.length+t.nodes<=4194304->rn ⟨184,1,0⟩ [.sl so,.sl (ops.map OpM.row),.int t.k,.int t.n,.str t.s,.sl (t.as.map Tm.row),.str x,.sl (vs.map VS.row)]=some (0,Aa ops t x vs):=Tm.ind fun t ih x vs h hb=>by
 have hlm:=h.l;have hnd:=Tm.nodes_eq t;have hvl:∀ n i,i+n=vs.length->rn ⟨184,1,1⟩ [.str x,.int (vs.length:Int),.int (i:Int),.sl (vs.map VS.row),.int t.k,.int t.n,.str t.s,.sl (t.as.map Tm.row)]=match (vs.drop i).find? (fun v=>decide (v.1=t.s)) with | some v=>some (1,[.bool (decide (v.2=x)),.sl (vs.map VS.row)]) | none=>some (0,[.str x,.sl (vs.map VS.row),.int t.k,.int t.n,.str t.s,.sl (t.as.map Tm.row)]):=by
  intro n;induction n with
  | zero =>
   intro i hi;obtain rfl:i=vs.length:=by omega
   rw [e184_1_1];simp only [B6,C0,D3,H4,H2,C8,S0]
  | succ n ih2 =>
   intro i hi;have hlt:i<vs.length:=by omega
   rw [e184_1_1,B9 hlt];simp only [B6,C0,hlt,H3,H1,ax,B8,ab hlt,af hlt (bg (by omega)),VS.row,nv0,nvS,dvI,dvB,dvS,dvL,B5,P4,ih2 (i+1) (by omega)]
   by_cases hq:vs[i].1=t.s <;> simp [hq]
 have hal:∀ (n1 n2:ByteArray) (a:List ByteArray),a.length<=1048576->∀ n i (vs:List VS),i+n=t.as.length->vs.length+((t.as.drop i).map Tm.nodes).sum<=4194304->rn ⟨184,1,3⟩ [.sl (t.as.map Tm.row),.int (t.as.length:Int),.int (i:Int),.sl (vs.map VS.row),.sl so,.sl (ops.map OpM.row),.str n1,.str n2,.sl (a.map ai)]=match ey ops (t.as.drop i) (a.drop i) vs with | some v=>some (0,[.sl (v.map VS.row)]) | none=>some (1,[.sl []]):=by
  intro n1 n2 a hal n;induction n with
  | zero =>
   intro i vs hi hb;obtain rfl:i=t.as.length:=by omega
   rw [e184_1_3];simp only [B6,C0,D3,H4,H2,C8,ey]
  | succ n ih2 =>
   intro i vs hi hb;have hlt:i<t.as.length:=by omega
   have hmem:=C3 hlt;rw [B9 hlt] at hb ⊢;simp only [C2,J7] at hb;rw [e184_1_3];by_cases hla:i<a.length
   · have h1:=ih _ hmem a[i] vs (h.sub hmem) (by omega)
     rw [B9 hla];simp only [B6,C0,hlt,H3,H1,ax,B8,ab hlt,af hlt hlm,hla,ab hla,Tm.row_eq,ai,nv0,nvS,dvI,dvB,dvS,dvL,B5,h1,ey,Aa];cases hq:gq ops t.as[i] a[i] vs with
     | none=>rfl
     | some v =>
      have hv:=kf ops _ _ _ _ hq;have h2:=ih2 (i+1) v (by omega) (by omega)
      simp only [nv0,nvS,dvI,dvB,dvS,dvL,B5,h2,E1,H2]
   · have h1:=ih _ hmem e0 vs (h.sub hmem) (by omega)
     rw [show a.drop i=[] from N7 (by omega)]
     simp only [B6,C0,hlt,H3,H1,ax,B8,ab hlt,af hlt hlm,hla,H4,H2,Tm.row_eq,ai,nv0,nvS,dvI,dvB,dvS,dvL,B5,h1,ey,Aa];cases hq:gq ops t.as[i] e0 vs with
     | none=>rfl
     | some v =>
      have hv:=kf ops _ _ _ _ hq;have h2:=ih2 (i+1) v (by omega) (by omega)
      rw [show a.drop (i+1)=[] from N7 (by omega)] at h2
      simp only [nv0,nvS,dvI,dvB,dvS,dvL,B5,h2,E1,H2]
 have hv0:=hvl vs.length 0 (by omega)
 have ha0:=fun n1 n2 a ha=>hal n1 n2 a ha t.as.length 0 vs (by omega) (by rw [D2]; omega)
 simp only [D2,C6] at hv0 ha0;rw [e184_1_0];unfold Aa;rw [kv];by_cases h1:t.k=1
 · rw [H5 h1,H5 h1]
   simp only [h1] at hv0;have hb2:F6 (vs.length+1) M63=true:=nb (by omega)
   simp only [B6,h1,H3,H1,hv0];cases hq:vs.find? (fun v=>decide (v.1=t.s)) with
   | none=>simp only [nv0,nvS,dvI,dvB,dvS,dvL,B5,E2,H1,H2,B6,C1,C7,D4,hb2,D5]; rfl
   | some v =>
    simp only [nv0,nvS,dvI,dvB,dvS,dvL,B5,E2,H1,H2,show E6 1 0=false from rfl]
    by_cases hq2:v.2=x <;> simp [hq2]
 · rw [H6 h1,H6 h1]
   by_cases h2:t.k=2
   · simp only [B6,h2,H3,H1,if_true,r100 so ops ho,nv0,nvS,dvI,dvB,dvS,dvL,B5]
     cases hf:dm ops t.s with
     | none =>
      simp only [ke,nv0,nvS,dvI,dvB,dvS,dvL,B5];rw [show ([]:aa)=([]:List ByteArray).map ai from rfl,ha0 e0 e0 [] (by simp)]
      cases ey ops t.as [] vs <;> rfl
     | some o =>
      have hok:o.ok:=yw ho.a hf;simp only [ke,nv0,nvS,dvI,dvB,dvS,dvL,B5];rw [ha0 o.n o.r o.a hok];cases ey ops t.as o.a vs <;> rfl
   · simp only [B6,h1,h2,H4,H2,if_false]
     rw [show ([]:aa)=([]:List ByteArray).map ai from rfl,ha0 e0 e0 [] (by simp)]
     cases ey ops t.as [] vs <;> rfl
theorem Vl (so:aa) (ops:List OpM) (ho:nv ops):∀ t:Tm,∀ (x:ByteArray) (vs:List VS),Wt t->vs.length+t.nodes<=4194304->rn ⟨181,1,0⟩ [.sl so,.sl (ops.map OpM.row),.int t.k,.int t.n,.str t.s,.sl (t.as.map Tm.row),.str x,.sl (vs.map VS.row)]=some (0,Aa ops t x vs):=Tm.ind fun t ih x vs h hb=>by
 have hlm:=h.l;have hnd:=Tm.nodes_eq t;have hvl:∀ n i,i+n=vs.length->rn ⟨181,1,1⟩ [.str x,.int (i:Int),.sl (vs.map VS.row),.int t.k,.int t.n,.str t.s,.sl (t.as.map Tm.row)]=match (vs.drop i).find? (fun v=>decide (v.1=t.s)) with | some v=>some (1,[.bool (decide (v.2=x)),.sl (vs.map VS.row)]) | none=>some (0,[.str x,.sl (vs.map VS.row),.int t.k,.int t.n,.str t.s,.sl (t.as.map Tm.row)]):=by
  intro n;induction n with
  | zero =>
   intro i hi;obtain rfl:i=vs.length:=by omega
   rw [e181_1_1];simp only [B6,C0,D3,H4,H2,C8,S0]
  | succ n ih2 =>
   intro i hi;have hlt:i<vs.length:=by omega
   rw [e181_1_1,B9 hlt];simp only [B6,C0,hlt,H3,H1,ax,B8,ab hlt,af hlt (bg (by omega)),VS.row,nv0,nvS,dvI,dvB,dvS,dvL,B5,P4,ih2 (i+1) (by omega)]
   by_cases hq:vs[i].1=t.s <;> simp [hq]
 have hal:∀ (n1 n2:ByteArray) (a:List ByteArray),a.length<=1048576->∀ n i (vs:List VS),i+n=t.as.length->vs.length+((t.as.drop i).map Tm.nodes).sum<=4194304->rn ⟨181,1,3⟩ [.int (i:Int),.sl (vs.map VS.row),.sl so,.sl (ops.map OpM.row),.int t.k,.int t.n,.str t.s,.sl (t.as.map Tm.row),.str n1,.str n2,.sl (a.map ai)]=match ey ops (t.as.drop i) (a.drop i) vs with | some v=>some (0,[.sl (v.map VS.row)]) | none=>some (1,[.sl []]):=by
  intro n1 n2 a hal n;induction n with
  | zero =>
   intro i vs hi hb;obtain rfl:i=t.as.length:=by omega
   rw [e181_1_3];simp only [B6,C0,D3,H4,H2,C8,ey]
  | succ n ih2 =>
   intro i vs hi hb;have hlt:i<t.as.length:=by omega
   have hmem:=C3 hlt;rw [B9 hlt] at hb ⊢;simp only [C2,J7] at hb;rw [e181_1_3];by_cases hla:i<a.length
   · have h1:=ih _ hmem a[i] vs (h.sub hmem) (by omega)
     rw [B9 hla];simp only [B6,C0,hlt,H3,H1,ax,B8,ab hlt,af hlt hlm,hla,ab hla,Tm.row_eq,ai,nv0,nvS,dvI,dvB,dvS,dvL,B5,h1,ey,Aa];cases hq:gq ops t.as[i] a[i] vs with
     | none=>rfl
     | some v =>
      have hv:=kf ops _ _ _ _ hq;have h2:=ih2 (i+1) v (by omega) (by omega)
      simp only [nv0,nvS,dvI,dvB,dvS,dvL,B5,h2,E1,H2]
   · have h1:=ih _ hmem e0 vs (h.sub hmem) (by omega)
     rw [show a.drop i=[] from N7 (by omega)]
     simp only [B6,C0,hlt,H3,H1,ax,B8,ab hlt,af hlt hlm,hla,H4,H2,Tm.row_eq,ai,nv0,nvS,dvI,dvB,dvS,dvL,B5,h1,ey,Aa];cases hq:gq ops t.as[i] e0 vs with
     | none=>rfl
     | some v =>
      have hv:=kf ops _ _ _ _ hq;have h2:=ih2 (i+1) v (by omega) (by omega)
      rw [show a.drop (i+1)=[] from N7 (by omega)] at h2
      simp only [nv0,nvS,dvI,dvB,dvS,dvL,B5,h2,E1,H2]
 have hv0:=hvl vs.length 0 (by omega)
 have ha0:=fun n1 n2 a ha=>hal n1 n2 a ha t.as.length 0 vs (by omega) (by rw [D2]; omega)
 simp only [D2,C6] at hv0 ha0;rw [e181_1_0];unfold Aa;rw [kv];by_cases h1:t.k=1
 · rw [H5 h1,H5 h1]
   simp only [h1] at hv0;have hb2:F6 (vs.length+1) M63=true:=nb (by omega)
   simp only [B6,h1,H3,H1,hv0];cases hq:vs.find? (fun v=>decide (v.1=t.s)) with
   | none=>simp only [nv0,nvS,dvI,dvB,dvS,dvL,B5,E2,H1,H2,B6,C1,C7,D4,hb2,D5]; rfl
   | some v =>
    simp only [nv0,nvS,dvI,dvB,dvS,dvL,B5,E2,H1,H2,show E6 1 0=false from rfl]
    by_cases hq2:v.2=x <;> simp [hq2]
 · rw [H6 h1,H6 h1]
   by_cases h2:t.k=2
   · simp only [h2] at ha0
     simp only [B6,h2,H3,H1,if_true,r128 so ops ho,nv0,nvS,dvI,dvB,dvS,dvL,B5];cases hf:dm ops t.s with
     | none =>
      simp only [ke,nv0,nvS,dvI,dvB,dvS,dvL,B5];rw [show ([]:aa)=([]:List ByteArray).map ai from rfl,ha0 e0 e0 [] (by simp)]
      cases ey ops t.as [] vs <;> rfl
     | some o =>
      have hok:o.ok:=yw ho.a hf;simp only [ke,nv0,nvS,dvI,dvB,dvS,dvL,B5];rw [ha0 o.n o.r o.a hok];cases ey ops t.as o.a vs <;> rfl
   · simp only [B6,h1,h2,H4,H2,if_false]
     rw [show ([]:aa)=([]:List ByteArray).map ai from rfl,ha0 e0 e0 [] (by simp)]
     cases ey ops t.as [] vs <;> rfl
theorem r158 (so:aa) (ops:List OpM) (ho:nv ops) (t:Tm) (h:Wt t) (hn:t.nodes<=1048577) (x:ByteArray):rn ⟨158,0,0⟩ [.sl so,.sl (ops.map OpM.row),.int t.k,.int t.n,.str t.s,.sl (t.as.map Tm.row),.str x]=some (0,sz (nz ops t x)):=by
 have h1:=Vk so ops ho t x [] h (by simp; omega)
 rw [D1] at h1;rw [e158_0_0,h1];unfold Aa nz;cases hq:gq ops t x [] with
 | none=>rfl
 | some vs =>
  have hv:=kf ops _ _ _ _ hq;rw [C7] at hv;have h2:=r49 so ops ho vs (by omega) t h
  simp only [nv0,nvS,dvI,dvB,dvS,dvL,B5,h2];by_cases hx:x=e0
  · simp [hx,sz]
  · by_cases hs:av ops vs t=x <;> simp [hx,hs,sz]
theorem r152 (so:aa) (ops:List OpM) (ho:nv ops) (t:Tm) (h:Wt t) (hn:t.nodes<=1048577) (x:ByteArray):rn ⟨152,0,0⟩ [.sl so,.sl (ops.map OpM.row),.int t.k,.int t.n,.str t.s,.sl (t.as.map Tm.row),.str x]=some (0,sz (nz ops t x)):=by
 have h1:=Vl so ops ho t x [] h (by simp; omega)
 rw [D1] at h1;rw [e152_0_0,h1];unfold Aa nz;cases hq:gq ops t x [] with
 | none=>rfl
 | some vs =>
  have hv:=kf ops _ _ _ _ hq;rw [C7] at hv;have h2:=r64 so ops ho vs (by omega) t h
  simp only [nv0,nvS,dvI,dvB,dvS,dvL,B5,h2];by_cases hx:x=e0
  · simp [hx,sz]
  · by_cases hs:av ops vs t=x <;> simp [hx,hs,sz]
end Go.Q.S
end
section
namespace Go.Q.S
open Go Go.Q Go.Proofs
def Eg (so:List ByteArray) (o:OpM):Bool:=kd o.n&&(!isB o.n&&(decide (o.a.length<=3)&&(o.a.all (fun x=>decide (x=cz)||je so x)&&(decide (o.r=cz)||je so o.r))))
theorem Ht (so:List ByteArray) (ops:List OpM):yx so ops=(decide (so.length<=4)&&(dis so&&(decide (ops.length<=16)&&((so.all fun x=>kd x&&!decide (x=cz))&&(ops.all (Eg so)&&dis (ops.map (·.n))))))):=rfl
theorem r98 (so:List ByteArray) (hso:so.length<=1048576) (hss:∀ x∈so,x.size<=maxLen) (ops:List OpM) (ho:nv ops) (hon:∀ o∈ops,o.n.size<=maxLen):rn ⟨98,0,0⟩ [.sl (so.map ai),.sl (ops.map OpM.row)]=some (0,[.bool (yx so ops)]):=by
 have hm:=ho.l;have hl1:∀ n i,i+n=so.length->rn ⟨98,0,1⟩ [.sl (so.map ai),.int (so.length:Int),.int (i:Int),.sl (so.map ai),.sl (ops.map OpM.row)]=bif (so.drop i).all (fun x=>kd x&&!decide (x=cz)) then some (0,[.sl (so.map ai),.sl (ops.map OpM.row)]) else some (1,[]):=by
  intro n;induction n with
  | zero =>
   intro i hi;obtain rfl:i=so.length:=by omega
   rw [e98_0_1];simp only [B6,C0,D3,H4,H2,C8,N4,H1]
  | succ n ih =>
   intro i hi;have hlt:i<so.length:=by omega
   rw [e98_0_1,B9 hlt];have h1:=r155 so[i] (hss _ (C3 hlt));simp only [B6,C0,hlt,H3,H1,ax,B8,ab hlt,af hlt (bg (by omega)),ai,nv0,nvS,dvI,dvB,dvS,dvL,B5,h1,ih (i+1) (by omega),J6]
   cases kd so[i]
   · rfl
   · by_cases hq:so[i]=cz <;> simp [hq]
 have hl5:∀ (o:OpM),o.a.length<=1048576->∀ (x0:aa) (x1 x2:Int) (x3:ByteArray) (x4:Bool) (x5:aa) (x6:Int) (x7:Bool) (x11 x12:aa) (x13:ByteArray) (x14:aa) (x15:ByteArray),∀ n i,i+n=(o.a++[o.r]).length->rn ⟨98,0,5⟩ [.sl x0,.int x1,.int x2,.str x3,.bool x4,.sl x5,.int x6,.bool x7,.int ((o.a++[o.r]).length:Int),.int (i:Int),.sl (so.map ai),.sl x11,.sl x12,.str x13,.sl x14,.str x15,.sl ((o.a++[o.r]).map ai)]=bif ((o.a++[o.r]).drop i).all (fun x=>decide (x=cz)||je so x) then some (0,[.sl x0,.int x1,.int x2,.str x3,.bool x4,.sl x5,.int x6,.bool x7,.sl (so.map ai),.sl x11,.sl x12,.str x13,.sl x14,.str x15]) else some (1,[]):=by
  intro o hoa x0 x1 x2 x3 x4 x5 x6 x7 x11 x12 x13 x14 x15;have hL:(o.a++[o.r]).length<=1048577:=by simp; omega
  generalize o.a++[o.r]=l at hL ⊢;intro n;induction n with
  | zero =>
   intro i hi;obtain rfl:i=l.length:=by omega
   rw [e98_0_5];simp only [B6,C0,D3,H4,H2,C8,N4,H1]
  | succ n ih =>
   intro i hi;have hlt:i<l.length:=by omega
   rw [e98_0_5,B9 hlt];have h1:=Qw so (bg (by omega)) l[i]
   simp only [B6,C0,hlt,H3,H1,ax,B8,ab hlt,af hlt (bg (by omega)),ai,nv0,nvS,dvI,dvB,dvS,dvL,B5,h1,ih (i+1) (by omega),J6]
   by_cases hq:l[i]=cz
   · simp [hq]
   · cases je so l[i] <;> simp [hq]
 have hl3:∀ n i (acc:List ByteArray),i+n=ops.length->acc.length<=i->rn ⟨98,0,3⟩ [.sl (ops.map OpM.row),.int (ops.length:Int),.int (i:Int),.sl (so.map ai),.sl (ops.map OpM.row),.sl (acc.map ai)]=bif (ops.drop i).all (Eg so) then some (0,[.sl ((acc++(ops.drop i).map (·.n)).map ai)]) else some (1,[]):=by
  intro n;induction n with
  | zero =>
   intro i acc hi ha;obtain rfl:i=ops.length:=by omega
   rw [e98_0_3];simp only [B6,C0,D3,H4,H2,C8,N4,H1,D1,G9]
  | succ n ih =>
   intro i acc hi ha;have hlt:i<ops.length:=by omega
   have hmem:=C3 hlt;rw [e98_0_3,B9 hlt];have h1:=r155 ops[i].n (hon _ hmem);have hoa:ops[i].a.length<=1048576:=ho.a _ hmem;have h2:=xe (ops[i].a.map ai) (by rw [B6]; omega)
   have hb:F6 (ops[i].a.length+1) M63=true:=nb (by omega)
   have hb2:F6 (acc.length+1) M63=true:=nb (by omega)
   have h5:=fun x0 x1 x2 x3 x4 x5 x6 x7 x11 x12 x13 x14 x15=>hl5 ops[i] hoa x0 x1 x2 x3 x4 x5 x6 x7 x11 x12 x13 x14 x15 (ops[i].a++[ops[i].r]).length 0 (by omega)
   simp only [D2,C6,E5,C1,C7,D4,D5,C2,D1,ai] at h5;have h6:=ih (i+1) (acc++[ops[i].n]) (by omega) (by simp; omega)
   simp only [D5,C2,D1,ai] at h6;simp only [B6,C0,hlt,H3,H1,ax,B8,ab hlt,af hlt (bg (by omega)),OpM.row,nv0,nvS,dvI,dvB,dvS,dvL,B5,h1,r101,h2,C1,C7,D4,hb,E5,J6]
   rw [show Eg so ops[i]=(kd ops[i].n&&(!isB ops[i].n&&(decide (ops[i].a.length<=3)&&(ops[i].a.all (fun x=>decide (x=cz)||je so x)&&(decide (ops[i].r=cz)||je so ops[i].r))))) from rfl]
   cases kd ops[i].n
   · rfl
   · cases isB ops[i].n
     · by_cases h3:ops[i].a.length<=3
       · have h3':¬((3:Int)<(ops[i].a.length:Int)):=by omega
         simp only [h3,h3',H3,H4,H1,H2,E1,J8,F4];rw [h5,List.all_append];simp only [J6,N4,N0];cases (ops[i].a.all (fun x=>decide (x=cz)||je so x)&&(decide (ops[i].r=cz)||je so ops[i].r)) with
         | false=>rfl
         | true =>
          simp only [H1,nv0,nvS,dvI,dvB,dvS,dvL,B5,E2,H1,H2,B6,hb2,af hlt (bg (by omega)),h6,F4]
          simp only [D5,C2,E3,F5,D9,ai]
       · have h3':((3:Int)<(ops[i].a.length:Int)):=by omega
         simp [h3,h3']
     · rfl
 have h1:=hl1 so.length 0 (by omega)
 have h3:=hl3 ops.length 0 [] (by omega) (K0 _)
 simp only [D2,C6,D1,D9] at h1 h3;have hd:=r45 so (by omega)
 have hd2:=r45 (ops.map (·.n)) (by rw [B6]; omega)
 rw [e98_0_0,Ht];simp only [B6,hd,nv0,nvS,dvI,dvB,dvS,dvL,B5];by_cases hs:so.length<=4
 · have hs':¬((4:Int)<(so.length:Int)):=by omega
   simp only [hs,hs',H3,H4,H2,F4];cases dis so
   · rfl
   · by_cases hs2:ops.length<=16
     · have hs2':¬((16:Int)<(ops.length:Int)):=by omega
       simp only [hs2,hs2',H3,H4,H2,F4,E1,h1];cases so.all (fun x=>kd x&&!decide (x=cz))
       · rfl
       · simp only [H1,nv0,nvS,dvI,dvB,dvS,dvL,B5,E2,H1,H2,B6,h3,F4]
         cases ops.all (Eg so)
         · rfl
         · simp only [H1,nv0,nvS,dvI,dvB,dvS,dvL,B5,E2,H1,H2,hd2,F4]
     · have hs2':((16:Int)<(ops.length:Int)):=by omega
       simp [hs2,hs2']
 · have hs':((4:Int)<(so.length:Int)):=by omega
   simp [hs,hs']
theorem r189 (so:List ByteArray) (hso:so.length<=1048576) (ops:aa) (x:ByteArray):rn ⟨189,0,0⟩ [.sl (so.map ai),.sl ops,.str x]=some (0,[.bool (decide (x=cz)||je so x)]):=by
 have h1:=r124 so (bg (by omega)) x
 rw [e189_0_0];simp only [h1,nv0,nvS,dvI,dvB,dvS,dvL,B5,Ef];by_cases hq:x=cz <;> simp [hq]
theorem r169 (so:List ByteArray) (hso:so.length<=1048576) (ops:aa) (o:OpM) (hoa:o.a.length<=1048576) (hon:o.n.size<=maxLen):rn ⟨169,0,0⟩ [.sl (so.map ai),.sl ops,.str o.n,.sl (o.a.map ai),.str o.r]=some (0,[.bool (Eg so o)]):=by
 have hl:∀ n i,i+n=o.a.length->rn ⟨169,0,1⟩ [.int (i:Int),.sl (so.map ai),.sl ops,.str o.n,.sl (o.a.map ai),.str o.r]=bif (o.a.drop i).all (fun x=>decide (x=cz)||je so x) then some (0,[.sl (so.map ai),.sl ops,.str o.n,.sl (o.a.map ai),.str o.r]) else some (1,[]):=by
  intro n;induction n with
  | zero =>
   intro i hi;obtain rfl:i=o.a.length:=by omega
   rw [e169_0_1];simp only [B6,C0,D3,H4,H2,C8,N4,H1]
  | succ n ih =>
   intro i hi;have hlt:i<o.a.length:=by omega
   rw [e169_0_1,B9 hlt];have h1:=r189 so hso ops o.a[i];simp only [B6,C0,hlt,H3,H1,ax,B8,ab hlt,af hlt (bg (by omega)),ai,nv0,nvS,dvI,dvB,dvS,dvL,B5,h1,ih (i+1) (by omega),J6]
   cases (decide (o.a[i]=cz)||je so o.a[i]) <;> rfl
 have h:=hl o.a.length 0 (by omega)
 simp only [D2,C6] at h;have hn:=r150 o.n hon;rw [e169_0_0,h];unfold Eg;cases (o.a.all fun x=>decide (x=cz)||je so x) with
 | false=>cases kd o.n <;> cases isB o.n <;> cases decide (o.a.length<=3) <;> rfl
 | true =>
  have i3:((o.a.length:Int)<=3)↔o.a.length<=3:=by omega
  simp only [H1,nv0,nvS,dvI,dvB,dvS,dvL,B5,E2,H1,H2,hn,r129,r189 so hso ops,B6,i3,F4];cases kd o.n <;> cases isB o.n <;> cases decide (o.a.length<=3) <;> rfl
theorem r117 (so:List ByteArray) (hso:so.length<=1048576) (hss:∀ x∈so,x.size<=maxLen) (ops:List OpM) (ho:nv ops) (hon:∀ o∈ops,o.n.size<=maxLen):rn ⟨117,0,0⟩ [.sl (so.map ai),.sl (ops.map OpM.row)]=some (0,[.bool (yx so ops)]):=by
 have hm:=ho.l;have hl1:∀ n i,i+n=so.length->rn ⟨117,0,1⟩ [.int (i:Int),.sl (so.map ai),.sl (ops.map OpM.row),.sl []]=bif (so.drop i).all (fun x=>kd x&&!decide (x=cz)) then some (0,[.sl (so.map ai),.sl (ops.map OpM.row),.sl []]) else some (1,[]):=by
  intro n;induction n with
  | zero =>
   intro i hi;obtain rfl:i=so.length:=by omega
   rw [e117_0_1];simp only [B6,C0,D3,H4,H2,C8,N4,H1]
  | succ n ih =>
   intro i hi;have hlt:i<so.length:=by omega
   rw [e117_0_1,B9 hlt];have h1:=r150 so[i] (hss _ (C3 hlt));simp only [B6,C0,hlt,H3,H1,ax,B8,ab hlt,af hlt (bg (by omega)),ai,nv0,nvS,dvI,dvB,dvS,dvL,B5,h1,ih (i+1) (by omega),J6]
   cases kd so[i]
   · rfl
   · by_cases hq:so[i]=cz <;> simp [hq]
 have hl3:∀ n i (acc:List ByteArray),i+n=ops.length->acc.length<=i->rn ⟨117,0,3⟩ [.int (i:Int),.sl (so.map ai),.sl (ops.map OpM.row),.sl (acc.map ai)]=bif (ops.drop i).all (Eg so) then some (0,[.sl (so.map ai),.sl (ops.map OpM.row),.sl ((acc++(ops.drop i).map (·.n)).map ai)]) else some (1,[]):=by
  intro n;induction n with
  | zero =>
   intro i acc hi ha;obtain rfl:i=ops.length:=by omega
   rw [e117_0_3];simp only [B6,C0,D3,H4,H2,C8,N4,H1,D1,G9]
  | succ n ih =>
   intro i acc hi ha;have hlt:i<ops.length:=by omega
   have hmem:=C3 hlt;rw [e117_0_3,B9 hlt];have h1:=r169 so hso (ops.map OpM.row) ops[i] (ho.a _ hmem) (hon _ hmem);have hb2:F6 (acc.length+1) M63=true:=nb (by omega)
   have h6:=ih (i+1) (acc++[ops[i].n]) (by omega) (by simp; omega)
   simp only [D5,C2,D1,ai] at h6;simp only [B6,C0,hlt,H3,H1,ax,B8,ab hlt,af hlt (bg (by omega)),OpM.row,nv0,nvS,dvI,dvB,dvS,dvL,B5,h1,C1,C7,D4,hb2,h6,J6]
   cases Eg so ops[i] with
   | false=>rfl
   | true=>simp only [D5,C2,E3,F5,D9,ai,E1,H2,H1,F4]
 have h1:=hl1 so.length 0 (by omega)
 have h3:=hl3 ops.length 0 [] (by omega) (K0 _)
 simp only [D2,C6,D1,D9] at h1 h3;have hd:=r118 so (bg (by omega))
 have hd2:=r118 (ops.map (·.n)) (by rw [B6]; exact bg (by omega))
 rw [e117_0_0,Ht,h1];have i1:((so.length:Int)<=4)↔so.length<=4:=by omega
 have i2:((ops.length:Int)<=16)↔ops.length<=16:=by omega
 cases so.all (fun x=>kd x&&!decide (x=cz)) with
 | false=>cases decide (so.length<=4) <;> cases dis so <;> cases decide (ops.length<=16) <;> rfl
 | true =>
  simp only [H1,nv0,nvS,dvI,dvB,dvS,dvL,B5,E2,H1,H2,h3,F4];cases ops.all (Eg so) with
  | false=>cases decide (so.length<=4) <;> cases dis so <;> cases decide (ops.length<=16) <;> rfl
  | true =>
   simp only [H1,nv0,nvS,dvI,dvB,dvS,dvL,B5,E2,H1,H2,B6,hd,hd2,i1,i2,F4];cases decide (so.length<=4) <;> cases dis so <;> cases decide (ops.length<=16) <;> rfl
end Go.Q.S
end
section
namespace Go.Q.S
open Go Go.Q Go.Proofs
theorem r157:∀ t:Tm,Wt t->rn ⟨157,0,0⟩ [.int t.k,.int t.n,.str t.s,.sl (t.as.map Tm.row)]=some (0,[.bool (pr t)]):=Tm.ind fun t ih h=>by
 have hlm:=h.l;have hl:∀ n i,i+n=t.as.length->rn ⟨157,0,1⟩ [.sl (t.as.map Tm.row),.int (t.as.length:Int),.int (i:Int)]=bif kg (t.as.drop i) then some (0,[]) else some (1,[]):=by
  intro n;induction n with
  | zero =>
   intro i hi;obtain rfl:i=t.as.length:=by omega
   rw [e157_0_1];simp only [B6,C0,D3,H4,H2,C8,kg,H1]
  | succ n ih2 =>
   intro i hi;have hlt:i<t.as.length:=by omega
   rw [e157_0_1,B9 hlt];have h1:=ih _ (C3 hlt) (h.sub (C3 hlt));simp only [B6,C0,hlt,H3,H1,ax,B8,ab hlt,af hlt hlm,Tm.row_eq,nv0,nvS,dvI,dvB,dvS,dvL,B5,h1,ih2 (i+1) (by omega),kg]
   cases pr t.as[i] <;> simp
 have h0:=hl t.as.length 0 (by omega)
 simp only [D2,C6] at h0;rw [e157_0_0,Gs];simp only [B6,h0,r101,nv0,nvS,dvI,dvB,dvS,dvL,B5];by_cases h2:t.k=2 <;> cases isB t.s <;> cases kg t.as <;> simp [h2] <;> rfl
theorem r151:∀ t:Tm,Wt t->rn ⟨151,0,0⟩ [.int t.k,.int t.n,.str t.s,.sl (t.as.map Tm.row)]=some (0,[.bool (!pr t)]):=Tm.ind fun t ih h=>by
 have hlm:=h.l;have hl:∀ n i,i+n=t.as.length->rn ⟨151,0,1⟩ [.int (i:Int),.int t.k,.int t.n,.str t.s,.sl (t.as.map Tm.row)]=bif kg (t.as.drop i) then some (0,[.int t.k,.int t.n,.str t.s,.sl (t.as.map Tm.row)]) else some (1,[]):=by
  intro n;induction n with
  | zero =>
   intro i hi;obtain rfl:i=t.as.length:=by omega
   rw [e151_0_1];simp only [B6,C0,D3,H4,H2,C8,kg,H1]
  | succ n ih2 =>
   intro i hi;have hlt:i<t.as.length:=by omega
   rw [e151_0_1,B9 hlt];have h1:=ih _ (C3 hlt) (h.sub (C3 hlt));simp only [B6,C0,hlt,H3,H1,ax,B8,ab hlt,af hlt hlm,Tm.row_eq,nv0,nvS,dvI,dvB,dvS,dvL,B5,h1,ih2 (i+1) (by omega),kg]
   cases pr t.as[i] <;> simp
 have h0:=hl t.as.length 0 (by omega)
 simp only [D2,C6] at h0;rw [e151_0_0,Gs,h0];cases kg t.as with
 | false=>cases (!(decide (t.k=2)&&isB t.s)) <;> rfl
 | true =>
  simp only [H1,nv0,nvS,dvI,dvB,dvS,dvL,B5,E2,H1,H2,r129];by_cases h2:t.k=2 <;> cases isB t.s <;> simp [h2]
theorem r48 (t:Tm) (h:t.nodes<=1048577) (ns:List ByteArray) (hn:ns.length<=maxLen):rn ⟨48,0,0⟩ [.int t.k,.int t.n,.str t.s,.sl (t.as.map Tm.row),.sl (ns.map ai)]=some (0,[.bool (ez t ns)]):=by
 have h1:=r109 t h;have h2:=r108 t.names ns (by have:=cg t; omega) hn
 rw [e48_0_0];simp only [h1,nv0,nvS,dvI,dvB,dvS,dvL,B5,h2,B6];have h3:=Jb t.names ns;have i1:(((wo t.names ns).length:Int)=0)↔(wo t.names ns).length=0:=by omega
 simp only [i1];rw [h3]; rfl
theorem r62 (t:Tm) (h:t.nodes<=1048577):rn ⟨62,0,0⟩ [.int t.k,.int t.n,.str t.s,.sl (t.as.map Tm.row)]=some (0,[.sl ((cm t.names).map ai)]):=by
 have hn:=cg t;have h1:=r126 t [] h (by simp; omega)
 have h2:=r125 t.names (by omega)
 rw [e62_0_0];rw [D9] at h1;simp only [h1,nv0,nvS,dvI,dvB,dvS,dvL,B5,h2]
theorem r185 (k:Int):rn ⟨185,0,0⟩ [.int k]=some (0,[.bool (decide (1<=k)&&decide (k<=3))]):=by
 rw [e185_0_0];cases decide (1<=k) <;> rfl
theorem r159 (so:aa) (ops:List OpM) (ho:nv ops) (vs:List VS) (hv:vs.length<=1099511627776) (ns:List ByteArray) (hn:ns.length<=maxLen) (hvn:∀ v∈vs,v.1∈ns) (gs:List Gu) (hg:gs.length<=1048576) (hgb:∀ g∈gs,GuB g):rn ⟨159,0,0⟩ [.sl so,.sl (ops.map OpM.row),.sl (gs.map Gu.row),.sl (vs.map VS.row),.sl (ns.map ai)]=some (0,[.bool (yy ops vs gs)]):=by
 have hl:∀ n i,i+n=gs.length->rn ⟨159,0,1⟩ [.sl (gs.map Gu.row),.sl (vs.map VS.row),.sl (ns.map ai),.sl (gs.map Gu.row),.int (gs.length:Int),.int (i:Int),.sl so,.sl (ops.map OpM.row)]=bif (gs.drop i).all (uq ops vs) then some (0,[.sl (gs.map Gu.row)]) else some (1,[]):=by
  intro n;induction n with
  | zero =>
   intro i hi;obtain rfl:i=gs.length:=by omega
   rw [e159_0_1];simp only [B6,C0,D3,H4,H2,C8,N4,H1]
  | succ n ih =>
   intro i hi;have hlt:i<gs.length:=by omega
   rw [e159_0_1,B9 hlt];have hb:=hgb _ (C3 hlt);have hw:uq ops vs gs[i]=true->_:=fun h=>Gw hvn h
   have h1:=r47 gs[i].l (G8 hb.ln (by decide)) hb.wl
   have h2:=r47 gs[i].r (G8 hb.rn (by decide)) hb.wr
   have h3:=r48 gs[i].l hb.ln ns hn;have h4:=r48 gs[i].r hb.rn ns hn;have h5:=r49 so ops ho vs hv gs[i].l hb.wl;have h6:=r49 so ops ho vs hv gs[i].r hb.wr;simp only [B6,C0,hlt,H3,H1,ax,B8,ab hlt,af hlt (bg (by omega)),Gu.row,nv0,nvS,dvI,dvB,dvS,dvL,B5,h1,h2,h3,h4,h5,h6,r185,ih (i+1) (by omega),J6]
   unfold uq at hw ⊢;generalize (decide (1<=gs[i].k)&&decide (gs[i].k<=3))=bk at hw ⊢;generalize gs[i].l.valid=b1 at hw ⊢;generalize gs[i].r.valid=b2 at hw ⊢;generalize ez gs[i].l ns=w1 at hw ⊢;generalize ez gs[i].r ns=w2 at hw ⊢;generalize av ops vs gs[i].l=s1 at hw ⊢;generalize av ops vs gs[i].r=s2 at hw ⊢;cases bk
   · rfl
   · cases b1
     · rfl
     · cases b2
       · rfl
       · by_cases q1:s1=e0
         · cases w1 <;> cases w2 <;> simp [q1]
         · by_cases q2:s1=s2
           · by_cases q3:gs[i].k=3
             · by_cases q4:s1=cz
               · have:=hw (by simp [q1,<- q2,q3,q4])
                 simp [this.1,this.2,q1,<- q2,q3,q4]
               · cases w1 <;> cases w2 <;> simp [q1,<- q2,q3,q4]
             · have:=hw (by simp [q1,<- q2,q3])
               simp [this.1,this.2,q1,<- q2,q3]
           · cases w1 <;> cases w2 <;> simp [q1,q2]
 have h0:=hl gs.length 0 (by omega)
 simp only [D2,C6] at h0;rw [e159_0_0];simp only [B6,h0,yy];cases gs.all (uq ops vs) with
 | false=>rfl
 | true =>
  have i1:((gs.length:Int)<=2)↔gs.length<=2:=by omega
  simp only [H1,nv0,nvS,dvI,dvB,dvS,dvL,B5,E2,H1,H2,B6,i1,F4]
theorem r182 (k:Int):∃ s,rn ⟨182,0,0⟩ [.int k]=some (0,[.str s])/\decide (s=e0)=!(decide (1<=k)&&decide (k<=3)):=by
 rw [e182_0_0];simp only [rIn,nv0,nvS,dvI,dvB,dvS,dvL,B5];by_cases h1:1<=k
 · by_cases h2:k<=3
   · obtain h | h | h:k=1\/k=2\/k=3:=by omega
     all_goals subst h; exact ⟨_,rfl,by decide⟩
   · refine ⟨e0,by simp [h1,h2],by simp [h1,h2]⟩
 · refine ⟨e0,by simp [h1],by simp [h1]⟩
theorem r153 (so:aa) (ops:List OpM) (ho:nv ops) (vs:List VS) (hv:vs.length<=1099511627776) (g:Gu) (hb:GuB g):rn ⟨153,0,0⟩ [.sl so,.sl (ops.map OpM.row),.int g.k,.int (g.l).k,.int (g.l).n,.str (g.l).s,.sl ((g.l).as.map Tm.row),.int (g.r).k,.int (g.r).n,.str (g.r).s,.sl ((g.r).as.map Tm.row),.sl (vs.map VS.row)]=some (0,[.bool (uq ops vs g)]):=by
 have h1:=r60 g.l (G8 hb.ln (by decide)) hb.wl
 have h2:=r60 g.r (G8 hb.rn (by decide)) hb.wr
 have h5:=r64 so ops ho vs hv g.l hb.wl;have h6:=r64 so ops ho vs hv g.r hb.wr;obtain ⟨s,h7,h8⟩:=r182 g.k;rw [e153_0_0];simp only [nv0,nvS,dvI,dvB,dvS,dvL,B5,h1,h2,h5,h6,h7,h8];unfold uq;generalize av ops vs g.l=s1;generalize av ops vs g.r=s2;cases (decide (1<=g.k)&&decide (g.k<=3)) <;> cases g.l.valid <;> cases g.r.valid <;> try rfl
 by_cases q1:s1=e0
 · simp [q1]
 · by_cases q2:s2=s1
   · by_cases q3:g.k=3 <;> simp [q1,q2,q3]
   · have q2':¬ s1=s2:=fun e=>q2 e.symm
     simp [q1,q2,q2']
theorem r99 (so:aa) (ops:List OpM) (ho:nv ops) (r:RuM) (hb:RuB r):rn ⟨99,0,0⟩ [.sl so,.sl (ops.map OpM.row),.str r.n,.int (r.l).k,.int (r.l).n,.str (r.l).s,.sl ((r.l).as.map Tm.row),.int (r.r).k,.int (r.r).n,.str (r.r).s,.sl ((r.r).as.map Tm.row),.sl (r.g.map Gu.row)]=some (0,[.bool (jf ops r)]):=by
 have h1:=r155 r.n hb.n;have h2:=r47 r.l (G8 hb.ln (by decide)) hb.wl
 have h3:=r157 r.l hb.wl;have h4:=r47 r.r (G8 hb.rn (by decide)) hb.wr
 have h5:=r100 so ops ho r.l.s;have h7:=r109 r.l hb.ln;have hnl:=cg r.l;have hln:=hb.ln;rw [e99_0_0];simp only [h1,h2,h3,h4,h5,nv0,nvS,dvI,dvB,dvS,dvL,B5];unfold jf;cases kd r.n <;> try rfl
 cases r.l.valid <;> try rfl
 by_cases q:r.l.k=2
 · simp only [q,H3,E1,H2,F4]
   cases pr r.l <;> try rfl
   cases r.r.valid <;> try rfl
   cases hf:dm ops r.l.s with
   | none=>rfl
   | some o =>
    have h6:=r158 so ops ho r.l hb.wl hb.ln o.r;simp only [q] at h6 h7;simp only [ke,nv0,nvS,dvI,dvB,dvS,dvL,B5,h6,h7,E1,H2,F4];cases hi:nz ops r.l o.r with
    | none=>rfl
    | some vs =>
     have hvl:=Gv hi;have h8:=r49 so ops ho vs (by omega) r.r hb.wr
     have h9:=r48 r.r hb.rn r.l.names (bg (by omega))
     have h10:=r159 so ops ho vs (by omega) r.l.names (bg (by omega)) (Ja hi) r.g hb.g hb.ga
     simp only [sz,nv0,nvS,dvI,dvB,dvS,dvL,B5,h8,h9,h10,E1,H2];by_cases q2:av ops vs r.r=o.r
     · cases ez r.r r.l.names <;> simp [q2]
     · simp [q2]
 · simp [q]
theorem r89 (so:aa) (ops:List OpM) (ho:nv ops) (r:RuM) (hb:RuB r):rn ⟨89,0,0⟩ [.sl so,.sl (ops.map OpM.row),.str r.n,.int (r.l).k,.int (r.l).n,.str (r.l).s,.sl ((r.l).as.map Tm.row),.int (r.r).k,.int (r.r).n,.str (r.r).s,.sl ((r.r).as.map Tm.row),.sl (r.g.map Gu.row)]=some (0,[.bool (jf ops r)]):=by
 have h1:=r150 r.n hb.n;have h2:=r60 r.l (G8 hb.ln (by decide)) hb.wl
 have h3:=r151 r.l hb.wl;have h4:=r60 r.r (G8 hb.rn (by decide)) hb.wr
 have h5:=r128 so ops ho r.l.s;have h7:=r62 r.l hb.ln;have h9:=r62 r.r hb.rn;have hnl:=cg r.l;have hnr:=cg r.r;have hsl:=gf r.l.names;have hsr:=gf r.r.names;have hln:=hb.ln;have hrn:=hb.rn;have hgl:=hb.g;have h10:=r61 (cm r.r.names) (cm r.l.names) (by omega) (bg (by omega))
 have hl:∀ vs:List VS,vs.length<=1099511627776->∀ n i,i+n=r.g.length->rn ⟨89,0,1⟩ [.int (i:Int),.sl so,.sl (ops.map OpM.row),.str r.n,.int (r.l).k,.int (r.l).n,.str (r.l).s,.sl ((r.l).as.map Tm.row),.int (r.r).k,.int (r.r).n,.str (r.r).s,.sl ((r.r).as.map Tm.row),.sl (r.g.map Gu.row),.sl (vs.map VS.row)]=bif (r.g.drop i).all (uq ops vs) then some (0,[]) else some (1,[]):=by
  intro vs hv n;induction n with
  | zero =>
   intro i hi;obtain rfl:i=r.g.length:=by omega
   rw [e89_0_1];simp only [B6,C0,D3,H4,H2,C8,N4,H1]
  | succ n ih =>
   intro i hi;have hlt:i<r.g.length:=by omega
   rw [e89_0_1,B9 hlt];have h1:=r153 so ops ho vs hv r.g[i] (hb.ga _ (C3 hlt));simp only [B6,C0,hlt,H3,H1,ax,B8,ab hlt,af hlt (bg (by omega)),Gu.row,nv0,nvS,dvI,dvB,dvS,dvL,B5,h1,ih (i+1) (by omega),J6]
   cases uq ops vs r.g[i] <;> simp
 rw [e89_0_0];simp only [h1,h2,h3,h4,h5,nv0,nvS,dvI,dvB,dvS,dvL,B5,B6];unfold jf;cases kd r.n <;> try rfl
 cases r.l.valid <;> try rfl
 by_cases q:r.l.k=2
 · simp only [q,H3,E1,H2,F4,Bool.not_not]
   cases r.r.valid
   · cases pr r.l <;> rfl
   · cases pr r.l <;> try rfl
     simp only [E1,H2,F4];by_cases q5:r.g.length<=2
     · have q5':¬((2:Int)<(r.g.length:Int)):=by omega
       cases hf:dm ops r.l.s with
       | none =>
        have h6:=r152 so ops ho r.l hb.wl hb.ln e0;have:nz ops r.l e0=none:=by unfold nz; cases gq ops r.l e0 [] <;> simp
        rw [this] at h6;simp only [q] at h6;simp only [ke,nv0,nvS,dvI,dvB,dvS,dvL,B5,h6,q5',H4,H2,sz,J8,H1]
       | some o =>
        have h6:=r152 so ops ho r.l hb.wl hb.ln o.r;simp only [q] at h6 h7 hl;simp only [ke,nv0,nvS,dvI,dvB,dvS,dvL,B5,h6,q5',H4,H2];cases hi:nz ops r.l o.r with
        | none=>rfl
        | some vs =>
         have hvl:=Gv hi;have h8:=r64 so ops ho vs (by omega) r.r hb.wr
         have h11:=hl vs (by omega) r.g.length 0 (by omega)
         simp only [D2,C6] at h11;simp only [sz,nv0,nvS,dvI,dvB,dvS,dvL,B5,h8,h7,h9,h10,B6,h11,E1,H2];by_cases q2:av ops vs r.r=o.r
         · have hw:=Un r.r r.l
           cases hw2:ez r.r r.l.names with
           | true =>
            rw [hw2] at hw;have:(wo (cm r.r.names) (cm r.l.names)).length=0:=hw.2 rfl;simp only [q2,this,H3,E1,H2,C6,Int.lt_irrefl,H4,yy,q5,N0,F4];cases r.g.all (uq ops vs) <;> rfl
           | false =>
            rw [hw2] at hw;have:¬(wo (cm r.r.names) (cm r.l.names)).length=0:=fun h=>by have:=hw.1 h; simp at this
            have:0<(wo (cm r.r.names) (cm r.l.names)).length:=by omega
            simp [q2,this]
         · simp [q2]
     · have q5':((2:Int)<(r.g.length:Int)):=by omega
       simp only [q5',H3,H1,yy,q5,H4,Bool.and_false];cases dm ops r.l.s with
       | none=>rfl
       | some o =>
        dsimp only;cases nz ops r.l o.r <;> rfl
 · cases r.r.valid <;> simp [q]
end Go.Q.S
end
section
namespace Go.Q.S
open Go Go.Q Go.Proofs
def ve (l:List StM) (x:StM):Bool:=l.any fun y=>decide (y.o=x.o)&&decide (y.a=x.a)
theorem Sx (l:List StM) (hl:l.length<=maxLen) (x:StM):rn ⟨102,0,0⟩ [.sl (l.map StM.row),.str x.o,.int x.a]=some (0,[.bool (ve l x)]):=by
 have key:∀ n i,i+n=l.length->(ve (l.drop i) x=false/\rn ⟨161,0,1⟩ [.sl (l.map StM.row),.int (l.length:Int),.int (i:Int),.str x.o,.int x.a]=some (0,[]))\/(ve (l.drop i) x=true/\∃ j:Nat,rn ⟨161,0,1⟩ [.sl (l.map StM.row),.int (l.length:Int),.int (i:Int),.str x.o,.int x.a]=some (1,[.int (j:Int)])):=by
  intro n;induction n with
  | zero =>
   intro i hi;obtain rfl:i=l.length:=by omega
   rw [e161_0_1];simp only [B6,C0,D3,H4,H2,C8];exact .inl ⟨rfl,trivial⟩
  | succ n ih =>
   intro i hi;have hlt:i<l.length:=by omega
   rw [e161_0_1,B9 hlt];simp only [B6,C0,hlt,H3,H1,ax,B8,ab hlt,af hlt hl,StM.row,nv0,nvS,dvI,dvB,dvS,dvL,B5,ve,List.any_cons];by_cases h1:l[i].o=x.o
   · by_cases h2:l[i].a=x.a
     · right
       refine ⟨by simp [h1,h2],i,by simp [h1,h2]⟩
     · have h2':¬ x.a=l[i].a:=fun e=>h2 e.symm
       have:=ih (i+1) (by omega)
       simpa [h1,h2,h2',ve] using this
   · have h1':¬ x.o=l[i].o:=fun e=>h1 e.symm
     have:=ih (i+1) (by omega)
     simpa [h1,h1',ve] using this
 have h:=key l.length 0 (by omega)
 simp only [D2,C6] at h;rw [e102_0_0,e161_0_0];simp only [B6];rcases h with ⟨h1,h2⟩|⟨h1,j,h2⟩
 · rw [h2,h1]; rfl
 · rw [h2,h1]
   simp only [nv0,nvS,dvI,dvB,dvS,dvL,B5,E2,H1,H2,show E6 1 0=false from rfl]
   have:(0:Int)<=(j:Int):=by omega
   simp [this]
theorem Li (ops:List OpM) (s:StM):Mn ops s=match dm ops s.o with
 | none=>false
 | some o=>!isB s.o&&(decide (0<=s.a)&&decide (s.a<o.a.length)):=rfl
theorem zo (ops:List OpM) (l:List StM) {i:Nat} (h:i<l.length):kh ops (l.take i) (l.drop i)=(Mn ops l[i]&&(!ve (l.take i) l[i]&&kh ops (l.take (i+1)) (l.drop (i+1)))):=by
 rw [B9 h];simp only [kh,ve];rw [List.take_add_one,F2 h]; rfl
theorem r44 (d:DfM) (hb:DfB d):rn ⟨44,0,0⟩ [.sl (d.so.map ai),.sl (d.op.map OpM.row),.sl (d.ru.map RuM.row),.sl (d.st.map StM.row)]=some (0,[.bool d.valid]):=by
 have hrl:=hb.ru;have hsl:=hb.st;have hl1:∀ n i (acc:List ByteArray),i+n=d.ru.length->acc.length<=i->rn ⟨44,0,1⟩ [.sl (d.ru.map RuM.row),.int (d.ru.length:Int),.int (i:Int),.sl (d.so.map ai),.sl (d.op.map OpM.row),.sl (d.ru.map RuM.row),.sl (d.st.map StM.row),.sl (acc.map ai)]=bif (d.ru.drop i).all (jf d.op) then some (0,[.sl (d.so.map ai),.sl (d.op.map OpM.row),.sl (d.ru.map RuM.row),.sl (d.st.map StM.row),.sl ((acc++(d.ru.drop i).map (·.n)).map ai)]) else some (1,[]):=by
  intro n;induction n with
  | zero =>
   intro i acc hi ha;obtain rfl:i=d.ru.length:=by omega
   rw [e44_0_1];simp only [B6,C0,D3,H4,H2,C8,N4,H1,D1,G9]
  | succ n ih =>
   intro i acc hi ha;have hlt:i<d.ru.length:=by omega
   rw [e44_0_1,B9 hlt];have h1:=r99 (d.so.map ai) d.op hb.op d.ru[i] (hb.rua _ (C3 hlt));have hb2:F6 (acc.length+1) M63=true:=nb (by omega)
   have h6:=ih (i+1) (acc++[d.ru[i].n]) (by omega) (by simp; omega)
   simp only [D5,C2,D1,ai] at h6;simp only [B6,C0,hlt,H3,H1,ax,B8,ab hlt,af hlt (bg (by omega)),RuM.row,nv0,nvS,dvI,dvB,dvS,dvL,B5,h1,C1,C7,D4,hb2,h6,J6]
   cases jf d.op d.ru[i] with
   | false=>rfl
   | true=>simp only [D5,C2,E3,F5,D9,ai,E1,H2,H1,F4]
 have hl3:∀ (x5 x7:aa) n i,i+n=d.st.length->rn ⟨44,0,3⟩ [.sl (d.st.map StM.row),.int (d.st.length:Int),.int (i:Int),.sl (d.so.map ai),.sl (d.op.map OpM.row),.sl x5,.sl (d.st.map StM.row),.sl x7]=bif kh d.op (d.st.take i) (d.st.drop i) then some (0,[.sl x7]) else some (1,[]):=by
  intro x5 x7 n;induction n with
  | zero =>
   intro i hi;obtain rfl:i=d.st.length:=by omega
   rw [e44_0_3];simp only [B6,C0,D3,H4,H2,C8,kh,H1]
  | succ n ih =>
   intro i hi;have hlt:i<d.st.length:=by omega
   rw [e44_0_3,zo d.op d.st hlt,Li];have h1:=r100 (d.so.map ai) d.op hb.op d.st[i].o;have h3:=Sx (d.st.take i) (bg (by rw [List.length_take]; omega)) d.st[i]
   simp only [B6,C0,hlt,H3,H1,ax,B8,ab hlt,af hlt (bg (by omega)),StM.row,nv0,nvS,dvI,dvB,dvS,dvL,B5,h1,r101,ih (i+1) (by omega)]
   cases hf:dm d.op d.st[i].o with
   | none=>rfl
   | some o =>
    simp only [ke,nv0,nvS,dvI,dvB,dvS,dvL,B5,B6,E1,H2];cases isB d.st[i].o
    · by_cases q1:0<=d.st[i].a
      · have q1':¬ d.st[i].a<0:=by omega
        by_cases q2:d.st[i].a<o.a.length
        · have q2':¬(o.a.length:Int)<=d.st[i].a:=by omega
          have q3:(0:Int)<=(i:Int):=by omega
          have q4:(i:Int)<=(d.st.length:Int):=by omega
          simp only [q1,q1',q2,q2',q3,q4,Int.le_refl,H3,H4,H1,H2,N0,J8,F4,B8,show O2 0=0 from rfl,D2,<- List.map_take,h3,nv0,nvS,dvI,dvB,dvS,dvL,B5]
          cases ve (d.st.take i) d.st[i] <;> simp
        · have q2':(o.a.length:Int)<=d.st[i].a:=by omega
          simp [q1,q1',q2,q2']
      · have q1':d.st[i].a<0:=by omega
        simp [q1,q1']
    · rfl
 have hd:=r45 (d.ru.map (·.n)) (by rw [B6]; omega)
 have hg:=r98 d.so hb.so hb.sos d.op hb.op hb.opn;have h1:=hl1 d.ru.length 0 [] (by omega) (K0 _)
 have h3:=fun x5 x7=>hl3 x5 x7 d.st.length 0 (by omega)
 simp only [D2,R7,C6,D1,D9] at h1 h3;rw [e44_0_0];simp only [B6,hg,nv0,nvS,dvI,dvB,dvS,dvL,B5];unfold DfM.valid;cases yx d.so d.op
 · rfl
 · by_cases q1:d.ru.length<=16
   · have q1':¬((16:Int)<(d.ru.length:Int)):=by omega
     by_cases q2:d.st.length<=8
     · have q2':¬((8:Int)<(d.st.length:Int)):=by omega
       simp only [q1,q1',q2,q2',H3,H4,H1,H2,F4,E1,h1];cases d.ru.all (jf d.op)
       · rfl
       · simp only [H1,nv0,nvS,dvI,dvB,dvS,dvL,B5,E2,H1,H2,B6,h3,F4]
         cases kh d.op [] d.st
         · rfl
         · simp only [H1,nv0,nvS,dvI,dvB,dvS,dvL,B5,E2,H1,H2,hd,F4]
     · have q2':((8:Int)<(d.st.length:Int)):=by omega
       simp [q1,q1',q2,q2']
   · have q1':((16:Int)<(d.ru.length:Int)):=by omega
     simp [q1,q1']
theorem r119 (d:DfM) (hb:DfB d):rn ⟨119,0,0⟩ [.sl (d.so.map ai),.sl (d.op.map OpM.row),.sl (d.ru.map RuM.row),.sl (d.st.map StM.row)]=some (0,[.bool (kh d.op [] d.st&&decide (d.st.length<=8))]):=by
 have hsl:=hb.st;have hl3:∀ (x0:Nat),x0<=d.st.length->∀ (x:StM) (x2:ByteArray) (x3:Bool) (x4 x5 x6:Int) (x7 x8:Bool) (x15 x16:ByteArray) (x17:aa),∀ n j,j+n=x0->rn ⟨119,0,3⟩ [.int (x0:Int),.int (j:Int),.str x2,.bool x3,.int x4,.int x5,.int x6,.bool x7,.bool x8,.sl (d.so.map ai),.sl (d.op.map OpM.row),.sl (d.ru.map RuM.row),.sl (d.st.map StM.row),.str x.o,.int x.a,.str x15,.str x16,.sl x17]=bif ve ((d.st.take x0).drop j) x then some (1,[]) else some (0,[.int (x0:Int),.str x2,.bool x3,.int x4,.int x5,.int x6,.bool x7,.bool x8,.sl (d.so.map ai),.sl (d.op.map OpM.row),.sl (d.ru.map RuM.row),.sl (d.st.map StM.row),.str x.o,.int x.a,.str x15,.str x16,.sl x17]):=by
  intro x0 hx0 x x2 x3 x4 x5 x6 x7 x8 x15 x16 x17 n;induction n with
  | zero =>
   intro j hj;obtain rfl:j=x0:=by omega
   rw [e119_0_3];have:((d.st.take j).drop j)=[]:=N7 (by rw [List.length_take]; omega)
   simp only [this,Int.lt_irrefl,H4,H2,ve,List.any_nil]
  | succ n ih =>
   intro j hj;have hlt0:j<(d.st.take x0).length:=by rw [List.length_take]; omega
   have hlt:j<d.st.length:=by omega
   have hltx:j<x0:=by omega
   rw [e119_0_3,B9 hlt0,List.getElem_take];simp only [B6,C0,hlt,H3,H1,ax,B8,ab hlt,af hlt (bg (by omega)),hltx,StM.row,nv0,nvS,dvI,dvB,dvS,dvL,B5,ih (j+1) (by omega)]
   simp only [ve,List.any_cons];by_cases h1:d.st[j].o=x.o
   · by_cases h2:d.st[j].a=x.a <;> simp [h1,h2]
   · simp [h1]
 have hl1:∀ n i,i+n=d.st.length->rn ⟨119,0,1⟩ [.int (i:Int),.sl (d.so.map ai),.sl (d.op.map OpM.row),.sl (d.ru.map RuM.row),.sl (d.st.map StM.row)]=bif kh d.op (d.st.take i) (d.st.drop i) then some (0,[.sl (d.so.map ai),.sl (d.op.map OpM.row),.sl (d.ru.map RuM.row),.sl (d.st.map StM.row)]) else some (1,[]):=by
  intro n;induction n with
  | zero =>
   intro i hi;obtain rfl:i=d.st.length:=by omega
   rw [e119_0_1];simp only [B6,C0,D3,H4,H2,C8,kh,H1]
  | succ n ih =>
   intro i hi;have hlt:i<d.st.length:=by omega
   rw [e119_0_1,zo d.op d.st hlt,Li];have h1:=r128 (d.so.map ai) d.op hb.op d.st[i].o;have h3:=fun x2 x3 x4 x5 x6 x7 x8 x15 x16 x17=>hl3 i (by omega) d.st[i] x2 x3 x4 x5 x6 x7 x8 x15 x16 x17 i 0 (by omega)
   simp only [D2,C6] at h3;simp only [B6,C0,hlt,H3,H1,ax,B8,ab hlt,af hlt (bg (by omega)),StM.row,nv0,nvS,dvI,dvB,dvS,dvL,B5,h1,r129,rIn]
   cases hf:dm d.op d.st[i].o with
   | none=>rfl
   | some o =>
    have hoa:o.a.length<=1048576:=yw hb.op.a hf;simp only [ke,nv0,nvS,dvI,dvB,dvS,dvL,B5,B6,E1,H2];rw [IntWalk.i64_in _ (by omega)]
    cases isB d.st[i].o
    · by_cases q1:0<=d.st[i].a
      · by_cases q2:d.st[i].a<o.a.length
        · have q2':d.st[i].a<=(o.a.length:Int)-1:=by omega
          simp only [q1,q2,q2',H3,H1,H2,N0,J8,E1,F4,h3];cases ve (d.st.take i) d.st[i] with
          | true=>rfl
          | false=>simp only [H2,nv0,nvS,dvI,dvB,dvS,dvL,B5,E2,H1,H2,af hlt (bg (by omega)),ih (i+1) (by omega),J8,F4]
        · have q2':¬ d.st[i].a<=(o.a.length:Int)-1:=by omega
          simp [q1,q2,q2']
      · simp [q1]
    · rfl
 have h1:=hl1 d.st.length 0 (by omega)
 simp only [D2,R7,C6] at h1;rw [e119_0_0,h1];have i1:((d.st.length:Int)<=8)↔d.st.length<=8:=by omega
 cases kh d.op [] d.st with
 | false=>rfl
 | true=>simp only [H1,nv0,nvS,dvI,dvB,dvS,dvL,B5,E2,H1,H2,B6,i1,F4]
theorem r58 (d:DfM) (hb:DfB d):rn ⟨58,0,0⟩ [.sl (d.so.map ai),.sl (d.op.map OpM.row),.sl (d.ru.map RuM.row),.sl (d.st.map StM.row)]=some (0,[.bool d.valid]):=by
 have hrl:=hb.ru;have hl1:∀ n i (acc:List ByteArray),i+n=d.ru.length->acc.length<=i->rn ⟨58,0,1⟩ [.int (i:Int),.sl (d.so.map ai),.sl (d.op.map OpM.row),.sl (d.ru.map RuM.row),.sl (d.st.map StM.row),.sl (acc.map ai)]=bif (d.ru.drop i).all (jf d.op) then some (0,[.sl (d.so.map ai),.sl (d.op.map OpM.row),.sl (d.ru.map RuM.row),.sl (d.st.map StM.row),.sl ((acc++(d.ru.drop i).map (·.n)).map ai)]) else some (1,[]):=by
  intro n;induction n with
  | zero =>
   intro i acc hi ha;obtain rfl:i=d.ru.length:=by omega
   rw [e58_0_1];simp only [B6,C0,D3,H4,H2,C8,N4,H1,D1,G9]
  | succ n ih =>
   intro i acc hi ha;have hlt:i<d.ru.length:=by omega
   rw [e58_0_1,B9 hlt];have h1:=r89 (d.so.map ai) d.op hb.op d.ru[i] (hb.rua _ (C3 hlt));have hb2:F6 (acc.length+1) M63=true:=nb (by omega)
   have h6:=ih (i+1) (acc++[d.ru[i].n]) (by omega) (by simp; omega)
   simp only [D5,C2,D1,ai] at h6;simp only [B6,C0,hlt,H3,H1,ax,B8,ab hlt,af hlt (bg (by omega)),RuM.row,nv0,nvS,dvI,dvB,dvS,dvL,B5,h1,C1,C7,D4,hb2,h6,J6]
   cases jf d.op d.ru[i] with
   | false=>rfl
   | true=>simp only [D5,C2,E3,F5,D9,ai,E1,H2,H1,F4]
 have hd:=r118 (d.ru.map (·.n)) (by rw [B6]; exact bg (by omega))
 have hg:=r117 d.so hb.so hb.sos d.op hb.op hb.opn;have hs:=r119 d hb;have h1:=hl1 d.ru.length 0 [] (by omega) (K0 _)
 simp only [D2,C6,D1,D9] at h1;have i1:((d.ru.length:Int)<=16)↔d.ru.length<=16:=by omega
 rw [e58_0_0,h1];unfold DfM.valid;cases d.ru.all (jf d.op) with
 | false=>cases yx d.so d.op <;> cases decide (d.ru.length<=16) <;> cases decide (d.st.length<=8) <;> rfl
 | true =>
  simp only [H1,nv0,nvS,dvI,dvB,dvS,dvL,B5,E2,H1,H2,B6,hd,hg,hs,i1,F4];cases yx d.so d.op <;> cases decide (d.ru.length<=16) <;> cases decide (d.st.length<=8) <;> cases kh d.op [] d.st <;> cases dis (d.ru.map (·.n)) <;> rfl
end Go.Q.S
end
section
namespace Go.Q.S
open Go Go.Q Go.Proofs
theorem r50 (vars:List ByteArray) (hv:vars.length<=1048576):rn ⟨50,0,0⟩ [.sl (vars.map ai)]=some (0,[.sl ((wv vars).map VS.row)]):=by
 have hl:∀ n i (acc:List VS),i+n=vars.length->acc.length<=i->rn ⟨50,0,1⟩ [.sl (vars.map ai),.int (vars.length:Int),.int (i:Int),.sl (acc.map VS.row)]=some (0,[.sl ((acc++wv (vars.drop i)).map VS.row)]):=by
  intro n;induction n with
  | zero =>
   intro i acc hi ha;obtain rfl:i=vars.length:=by omega
   rw [e50_0_1];simp only [B6,C0,D3,H4,H2,C8,wv,D1,G9]
  | succ n ih =>
   intro i acc hi ha;have hlt:i<vars.length:=by omega
   rw [e50_0_1,B9 hlt];have hb2:F6 (acc.length+1) M63=true:=nb (by omega)
   have h6:=ih (i+1) (acc++[(vars[i],cz)]) (by omega) (by simp; omega)
   simp only [D5,C2,D1,VS.row] at h6;simp only [B6,C0,hlt,H3,H1,ax,B8,ab hlt,af hlt (bg (by omega)),ai,nv0,nvS,dvI,dvB,dvS,dvL,B5,C1,C7,D4,hb2,h6]
   simp only [wv,D5,C2,E3,F5,D9,VS.row]
 have h:=hl vars.length 0 [] (by omega) (K0 _)
 simp only [D2,C6,D1,D9] at h;rw [e50_0_0];simp only [B6,h,nv0,nvS,dvI,dvB,dvS,dvL,B5,E2,H1,H2]
theorem r65 (vars:List ByteArray) (hv:vars.length<=1048576):rn ⟨65,0,0⟩ [.sl (vars.map ai)]=some (0,[.sl ((wv vars).map VS.row)]):=by
 have hl:∀ n i (acc:List VS),i+n=vars.length->acc.length<=i->rn ⟨65,0,1⟩ [.sl (vars.map ai),.int (i:Int),.sl (acc.map VS.row)]=some (0,[.sl ((acc++wv (vars.drop i)).map VS.row)]):=by
  intro n;induction n with
  | zero =>
   intro i acc hi ha;obtain rfl:i=vars.length:=by omega
   rw [e65_0_1];simp only [B6,C0,D3,H4,H2,C8,wv,D1,G9]
  | succ n ih =>
   intro i acc hi ha;have hlt:i<vars.length:=by omega
   rw [e65_0_1,B9 hlt];have hb2:F6 (acc.length+1) M63=true:=nb (by omega)
   have h6:=ih (i+1) (acc++[(vars[i],cz)]) (by omega) (by simp; omega)
   simp only [D5,C2,D1,VS.row] at h6;simp only [B6,C0,hlt,H3,H1,ax,B8,ab hlt,af hlt (bg (by omega)),ai,nv0,nvS,dvI,dvB,dvS,dvL,B5,C1,C7,D4,hb2,h6]
   simp only [wv,D5,C2,E3,F5,D9,VS.row]
 have h:=hl vars.length 0 [] (by omega) (K0 _)
 simp only [D2,C6,D1,D9] at h;rw [e65_0_0];simp only [h,nv0,nvS,dvI,dvB,dvS,dvL,B5,E2,H1,H2]
theorem r19 (d:DfM) (hb:DfB d) (vars:List ByteArray) (hv:vars.length<=1048576) (hvs:∀ x∈vars,x.size<=maxLen) (t:Tm) (hw:Wt t) (hn:t.nodes<=1048577):rn ⟨19,0,0⟩ [.sl (d.so.map ai),.sl (d.op.map OpM.row),.sl (d.ru.map RuM.row),.sl (d.st.map StM.row),.sl (vars.map ai),.int t.k,.int t.n,.str t.s,.sl (t.as.map Tm.row),.sl []]=some (0,[.bool (kn d vars t)]):=by
 have hl1:∀ n i,i+n=vars.length->rn ⟨19,0,1⟩ [.sl (vars.map ai),.int (vars.length:Int),.int (i:Int),.sl (d.so.map ai),.sl (d.op.map OpM.row),.sl (d.ru.map RuM.row),.sl (d.st.map StM.row),.sl (vars.map ai),.int t.k,.int t.n,.str t.s,.sl (t.as.map Tm.row),.sl []]=bif (vars.drop i).all mh then some (0,[.sl (d.so.map ai),.sl (d.op.map OpM.row),.sl (d.ru.map RuM.row),.sl (d.st.map StM.row),.sl (vars.map ai),.int t.k,.int t.n,.str t.s,.sl (t.as.map Tm.row),.sl []]) else some (1,[]):=by
  intro n;induction n with
  | zero =>
   intro i hi;obtain rfl:i=vars.length:=by omega
   rw [e19_0_1];simp only [B6,C0,D3,H4,H2,C8,N4,H1]
  | succ n ih =>
   intro i hi;have hlt:i<vars.length:=by omega
   rw [e19_0_1,B9 hlt];have h1:=r46 vars[i] (hvs _ (C3 hlt));simp only [B6,C0,hlt,H3,H1,ax,B8,ab hlt,af hlt (bg (by omega)),ai,nv0,nvS,dvI,dvB,dvS,dvL,B5,h1,ih (i+1) (by omega),J6]
   cases mh vars[i] <;> rfl
 have h1:=hl1 vars.length 0 (by omega)
 simp only [D2,C6] at h1;have hl3:∀ a b c:aa,∀ k n:Int,∀ s:ByteArray,rn ⟨19,0,3⟩ [.sl [],.int 0,.int 0,.sl a,.int k,.int n,.str s,.sl b,.sl c]=some (0,[]):=fun a b c k n s=>by
  rw [e19_0_3]; rfl
 have h2:=r44 d hb;have h3:=r45 vars hv;have h4:=r47 t (by omega) hw
 have h5:=r48 t hn vars (bg (by omega))
 have h6:=r50 vars hv;have h7:=r49 (d.so.map ai) d.op hb.op (wv vars) (by unfold wv; rw [B6]; omega) t hw
 rw [e19_0_0];simp only [B6,h2,h3,nv0,nvS,dvI,dvB,dvS,dvL,B5];unfold kn;cases d.valid
 · rfl
 · by_cases q1:vars.length<=3
   · have q1':¬((3:Int)<(vars.length:Int)):=by omega
     simp only [q1,q1',H3,H4,H2,F4,E1];cases dis vars
     · rfl
     · simp only [E1,H2,h1,F4]
       cases vars.all mh
       · rfl
       · simp only [H1,nv0,nvS,dvI,dvB,dvS,dvL,B5,E2,H1,H2,h4,h5,h6,h7,F4]
         cases t.valid
         · rfl
         · cases ez t vars
           · rfl
           · by_cases q2:av d.op (wv vars) t=e0
             · simp [q2]
             · simp only [q2,E1,J8,H2,H4,C7,C6,hl3,nv0,nvS,dvI,dvB,dvS,dvL,B5,E2,H1,H2,F4]
   · have q1':((3:Int)<(vars.length:Int)):=by omega
     simp [q1,q1']
theorem r59 (vars:List ByteArray) (hv:vars.length<=1048576) (hvs:∀ x∈vars,x.size<=maxLen):rn ⟨59,0,0⟩ [.sl (vars.map ai)]=some (0,[.bool (decide (vars.length<=3)&&(dis vars&&vars.all mh))]):=by
 have hl1:∀ n i,i+n=vars.length->rn ⟨59,0,1⟩ [.sl (vars.map ai),.int (i:Int)]=bif (vars.drop i).all mh then some (0,[.sl (vars.map ai)]) else some (1,[]):=by
  intro n;induction n with
  | zero =>
   intro i hi;obtain rfl:i=vars.length:=by omega
   rw [e59_0_1];simp only [B6,C0,D3,H4,H2,C8,N4,H1]
  | succ n ih =>
   intro i hi;have hlt:i<vars.length:=by omega
   rw [e59_0_1,B9 hlt];have h1:=r120 vars[i] (hvs _ (C3 hlt));simp only [B6,C0,hlt,H3,H1,ax,B8,ab hlt,af hlt (bg (by omega)),ai,nv0,nvS,dvI,dvB,dvS,dvL,B5,h1,ih (i+1) (by omega),J6]
   cases mh vars[i] <;> rfl
 have h1:=hl1 vars.length 0 (by omega)
 simp only [D2,C6] at h1;have h3:=r118 vars (bg (by omega))
 have i1:((vars.length:Int)<=3)↔vars.length<=3:=by omega
 rw [e59_0_0,h1];cases vars.all mh with
 | false=>cases decide (vars.length<=3) <;> cases dis vars <;> rfl
 | true =>
  simp only [H1,nv0,nvS,dvI,dvB,dvS,dvL,B5,E2,H1,H2,B6,i1,h3,N0];cases decide (vars.length<=3) <;> rfl
theorem r21 (d:DfM) (hb:DfB d) (vars:List ByteArray) (hv:vars.length<=1048576) (hvs:∀ x∈vars,x.size<=maxLen) (t:Tm) (hw:Wt t) (hn:t.nodes<=1048577):rn ⟨21,0,0⟩ [.sl (d.so.map ai),.sl (d.op.map OpM.row),.sl (d.ru.map RuM.row),.sl (d.st.map StM.row),.sl (vars.map ai),.int t.k,.int t.n,.str t.s,.sl (t.as.map Tm.row),.sl []]=some (0,[.bool (kn d vars t)]):=by
 have hl1:∀ a:List D,rn ⟨21,0,1⟩ [.int 0,.sl (d.so.map ai),.sl (d.op.map OpM.row),.sl (d.ru.map RuM.row),.sl (d.st.map StM.row),.sl (vars.map ai),.int t.k,.int t.n,.str t.s,.sl (t.as.map Tm.row),.sl []]=some (0,[.sl (d.so.map ai),.sl (d.op.map OpM.row),.sl (d.ru.map RuM.row),.sl (d.st.map StM.row),.sl (vars.map ai),.int t.k,.int t.n,.str t.s,.sl (t.as.map Tm.row),.sl []]):=fun _=>by
  rw [e21_0_1]; rfl
 have h1:=hl1 [];have h2:=r58 d hb;have h3:=r59 vars hv hvs;have h4:=r60 t (by omega) hw
 have hnt:=cg t;have hsl:=gf t.names;have h5:=r62 t hn;have h5':=r61 (cm t.names) vars (by omega) (bg (by omega))
 have h6:=r65 vars hv;have h7:=r64 (d.so.map ai) d.op hb.op (wv vars) (by unfold wv; rw [B6]; omega) t hw
 rw [e21_0_0];simp only [B6,h1,h2,h3,h4,h5,h5',h6,h7,nv0,nvS,dvI,dvB,dvS,dvL,B5,E2,H1,H2];unfold kn;cases d.valid <;> try rfl
 cases decide (vars.length<=3) <;> try rfl
 cases dis vars <;> try rfl
 cases vars.all mh <;> try rfl
 cases t.valid <;> try rfl
 have hw:=Kj t vars;cases hw2:ez t vars with
 | true =>
  rw [hw2] at hw;have:(wo (cm t.names) vars).length=0:=hw.2 rfl;simp [this]
 | false =>
  rw [hw2] at hw;have:¬(wo (cm t.names) vars).length=0:=fun h=>by have:=hw.1 h; simp at this
  have:0<(wo (cm t.names) vars).length:=by omega
  simp [this]
end Go.Q.S
end
section
namespace Go.Q.S
open Go Go.Q Go.Proofs
theorem Sy (xs:aa) (h:xs.length<=274877906944):rn ⟨179,0,0⟩ [.sl xs]=some (0,[.sl xs]):=by
 rw [e179_0_0];have hb:F6 (([]:aa).length+xs.length) M63=true:=F9 (by unfold M63; simpa using h)
 rw [hb];cases xs with
 | nil=>simp [px]
 | cons x xs=>rfl
theorem r142 (a b c:aa) (st:List StM) (hst:st.length<=1048576) (s:ByteArray):rn ⟨142,0,0⟩ [.sl a,.sl b,.sl c,.sl (st.map StM.row),.str s]=some (0,[.sl ((ko st s).map am)]):=by
 have key:∀ n i (acc:List Int),i+n=st.length->acc.length<=i->rn ⟨142,0,1⟩ [.str s,.sl (st.map StM.row),.int (st.length:Int),.int (i:Int),.sl (acc.map am)]=some (0,[.sl ((acc++ko (st.drop i) s).map am)]):=by
  intro n;induction n with
  | zero =>
   intro i acc hi ha;obtain rfl:i=st.length:=by omega
   rw [e142_0_1];simp only [B6,C0,D3,H4,H2,C8,ko,List.filter_nil,D1,G9]
  | succ n ih =>
   intro i acc hi ha;have hlt:i<st.length:=by omega
   rw [e142_0_1,B9 hlt,Bq];have hb2:F6 (acc.length+1) M63=true:=nb (by omega)
   have h1:=ih (i+1) (acc++[st[i].a]) (by omega) (by simp; omega)
   have h2:=ih (i+1) acc (by omega) (by omega)
   simp only [D5,C2,D1,am] at h1 h2;simp only [B6,C0,hlt,H3,H1,ax,B8,ab hlt,af hlt (bg (by omega)),StM.row,nv0,nvS,dvI,dvB,dvS,dvL,B5,C1,C7,D4,hb2,am]
   by_cases hq:st[i].o=s
   · simp only [hq,H3,H1,if_true,h1,D5,C2,E3,F5,D9,am]
   · simp only [hq,H4,H2,if_false,h2,D5,am]
 have h:=key st.length 0 [] (by omega) (K0 _)
 rw [e142_0_0];simp only [C6,D1,D2,D9,B6] at h ⊢;simp only [h,nv0,nvS,dvI,dvB,dvS,dvL,B5,E2,H1,H2]
theorem r66 (a b c:aa) (st:List StM) (hst:st.length<=1048576) (s:ByteArray):rn ⟨66,0,0⟩ [.sl a,.sl b,.sl c,.sl (st.map StM.row),.str s]=some (0,[.sl ((ko st s).map am)]):=by
 have key:∀ n i (acc:List Int),i+n=st.length->acc.length<=i->rn ⟨66,0,1⟩ [.str s,.int (i:Int),.sl a,.sl b,.sl c,.sl (st.map StM.row),.sl (acc.map am)]=some (0,[.sl ((acc++ko (st.drop i) s).map am)]):=by
  intro n;induction n with
  | zero =>
   intro i acc hi ha;obtain rfl:i=st.length:=by omega
   rw [e66_0_1];simp only [B6,C0,D3,H4,H2,C8,ko,List.filter_nil,D1,G9]
  | succ n ih =>
   intro i acc hi ha;have hlt:i<st.length:=by omega
   rw [e66_0_1,B9 hlt,Bq];have hb2:F6 (acc.length+1) M63=true:=nb (by omega)
   have h1:=ih (i+1) (acc++[st[i].a]) (by omega) (by simp; omega)
   have h2:=ih (i+1) acc (by omega) (by omega)
   simp only [D5,C2,D1,am] at h1 h2;simp only [B6,C0,hlt,H3,H1,ax,B8,ab hlt,af hlt (bg (by omega)),StM.row,nv0,nvS,dvI,dvB,dvS,dvL,B5,C1,C7,D4,hb2,am]
   by_cases hq:st[i].o=s
   · simp only [hq,H3,H1,if_true,h1,D5,C2,E3,F5,D9,am]
   · simp only [hq,H4,H2,if_false,h2,D5,am]
 have h:=key st.length 0 [] (by omega) (K0 _)
 rw [e66_0_0];simp only [C6,D1,D2,D9] at h ⊢;simp only [h,nv0,nvS,dvI,dvB,dvS,dvL,B5,E2,H1,H2]
theorem r80 (d:DfM) (hb:DfB d) (t:Tm):rn ⟨80,0,0⟩ [.sl (d.so.map ai),.sl (d.op.map OpM.row),.sl (d.ru.map RuM.row),.sl (d.st.map StM.row),.int t.k,.int t.n,.str t.s,.sl (t.as.map Tm.row)]=some (0,[.sl ((stL d.st t).map am)]):=by
 have h:=fun a b c=>r142 a b c d.st hb.st t.s
 rw [e80_0_0];unfold stL;by_cases hk:t.k=2
 · simp only [h,hk,nv0,nvS,dvI,dvB,dvS,dvL,B5,if_true,H3,E1,H2]
 · simp [hk]
theorem r83 (t u:Tm) (p:List Int) (hp:p.length<=1048576) (h:atT t p=some u):rn ⟨83,0,0⟩ [.int t.k,.int t.n,.str t.s,.sl (t.as.map Tm.row),.sl (p.map am)]=some (0,[.int u.k,.int u.n,.str u.s,.sl (u.as.map Tm.row),.bool true]):=by
 have key:∀ n i (t:Tm),i+n=p.length->atT t (p.drop i)=some u->rn ⟨83,0,1⟩ [.sl (p.map am),.int (p.length:Int),.int (i:Int),.int t.k,.int t.n,.str t.s,.sl (t.as.map Tm.row),.int 0,.int 0,.str e0,.sl []]=some (0,[.int u.k,.int u.n,.str u.s,.sl (u.as.map Tm.row),.int 0,.int 0,.str e0,.sl []]):=by
  intro n;induction n with
  | zero =>
   intro i t hi h;obtain rfl:i=p.length:=by omega
   rw [C8] at h;simp only [atT,C9.injEq] at h;subst h;rw [e83_0_1];simp only [B6,C0,D3,H4,H2,C8]
  | succ n ih =>
   intro i t hi h;have hlt:i<p.length:=by omega
   rw [B9 hlt] at h;obtain ⟨hm,h0,h1⟩:=co h;have h2:=ih (i+1) _ (by omega) h1
   rw [e83_0_1];generalize hj:p[i]=j at hm h0 h1 h2;obtain ⟨m,rfl⟩:∃ m:Nat,j=(m:Int):=⟨j.toNat,by omega⟩
   rw [B8] at hm;simp only [B8] at h2;have q1:¬((m:Int)<0):=by omega
   have q2:¬((t.as.length:Int)<=(m:Int)):=by omega
   simp only [B6,C0,hlt,H3,H1,ax,B8,ab hlt,af hlt (bg (by omega)),hm,hj,q1,q2,H4,H2,ab hm,Tm.row_eq,am,nv0,nvS,dvI,dvB,dvS,dvL,B5]
   exact h2
 have h1:=key p.length 0 t (by omega) (by rw [D2]; exact h)
 simp only [C6] at h1;rw [e83_0_0];simp only [B6,h1,nv0,nvS,dvI,dvB,dvS,dvL,B5,E2,H1,H2]
theorem r76 (t u:Tm) (hn:t.nodes<=1048577) (p:List Int) (hp:p.length<=1048576) (h:atT t p=some u):rn ⟨76,0,0⟩ [.int t.k,.int t.n,.str t.s,.sl (t.as.map Tm.row),.sl (p.map am)]=some (0,[.int u.k,.int u.n,.str u.s,.bool true,.sl (u.as.map Tm.row)]):=by
 have key:∀ n i (t:Tm),i+n=p.length->t.nodes<=1048577->atT t (p.drop i)=some u->rn ⟨76,0,1⟩ [.sl (p.map am),.int (i:Int),.int t.k,.int t.n,.str t.s,.sl (t.as.map Tm.row),.int 0,.int 0,.str e0,.sl []]=some (0,[.int u.k,.int u.n,.str u.s,.sl (u.as.map Tm.row),.int 0,.int 0,.str e0,.sl []]):=by
  intro n;induction n with
  | zero =>
   intro i t hi _ h;obtain rfl:i=p.length:=by omega
   rw [C8] at h;simp only [atT,C9.injEq] at h;subst h;rw [e76_0_1];simp only [B6,C0,D3,H4,H2,C8]
  | succ n ih =>
   intro i t hi hn h;have hlt:i<p.length:=by omega
   rw [B9 hlt] at h;obtain ⟨hm,h0,h1⟩:=co h;have hls:=cw (xs:=t.as);have hnd:=Tm.nodes_eq t;have hmn:=dh (f:=Tm.nodes) (C3 hm);have h2:=ih (i+1) _ (by omega) (by omega) h1
   rw [e76_0_1];generalize hj:p[i]=j at hm h0 h1 h2 hmn;obtain ⟨m,rfl⟩:∃ m:Nat,j=(m:Int):=⟨j.toNat,by omega⟩
   rw [B8] at hm;simp only [B8] at h2;have q2:(m:Int)<=(t.as.length:Int)-1:=by omega
   have hw:IntKind.i64.wrap ((t.as.length:Int)-1)=(t.as.length:Int)-1:=IntWalk.i64_in _ (by omega)
   simp only [B6,C0,hlt,H3,H1,ax,B8,ab hlt,af hlt (bg (by omega)),hm,hj,hw,rIn,h0,q2,N0,E1,H2,ab hm,Tm.row_eq,am,nv0,nvS,dvI,dvB,dvS,dvL,B5]
   exact h2
 have h1:=key p.length 0 t (by omega) hn (by rw [D2]; exact h)
 have hun:=ik p t u h;have h3:=r33 u (aq u (by omega))
 simp only [C6] at h1;rw [e76_0_0];simp only [h1,h3,nv0,nvS,dvI,dvB,dvS,dvL,B5,E2,H1,H2]
theorem r145 (t w:Tm) (hn:t.nodes<=1048577) (m:Nat) (hm:m<t.as.length):rn ⟨145,0,0⟩ [.int t.k,.int t.n,.str t.s,.sl (t.as.map Tm.row),.int (m:Int),.int w.k,.int w.n,.str w.s,.sl (w.as.map Tm.row)]=some (0,[.int t.k,.int t.n,.str t.s,.sl ((t.as.set m w).map Tm.row)]):=by
 have hls:=cw (xs:=t.as);have hnd:=Tm.nodes_eq t;have h1:=Sy (t.as.map Tm.row) (by rw [B6]; omega)
 rw [e145_0_0];simp only [h1,nv0,nvS,dvI,dvB,dvS,dvL,B5,B6,ax,hm,H3,H1,B8,Kt hm]
theorem r85 (w:Tm):∀ (p:List Int) (t u:Tm),t.nodes<=1048577->p.length<=1048576->atT t p=some u->rn ⟨85,0,0⟩ [.int t.k,.int t.n,.str t.s,.sl (t.as.map Tm.row),.sl (p.map am),.int w.k,.int w.n,.str w.s,.sl (w.as.map Tm.row)]=some (0,[.int (dt t p w).k,.int (dt t p w).n,.str (dt t p w).s,.sl ((dt t p w).as.map Tm.row)])
 | [],t,u,hn,hp,h=>by
  rw [e85_0_0];simp [dt]
 | j::p,t,u,hn,hp,h=>by
  obtain ⟨hm,h0,h1⟩:=co h;have hls:=cw (xs:=t.as);have hnd:=Tm.nodes_eq t;have hmn:=dh (f:=Tm.nodes) (C3 hm);have h2:=r85 w p _ u (by omega) (by simp only [C1] at hp; omega) h1
  have ht:=Bp j p;rw [e85_0_0];simp only [dt,dif_pos hm];obtain ⟨m,rfl⟩:∃ m:Nat,j=(m:Int):=⟨j.toNat,by omega⟩
  simp only [B8] at hm h2 ⊢;have h3:=r145 t (dt t.as[m] p w) hn m hm;have q0:rowAt (((m:Int)::p).map am) 0=[.int (m:Int)]:=rfl;have q1:inb 0 (((m:Int)::p).map am).length=true:=by simp [inb]
  have q2:¬(((((m:Int)::p).map am).length:Nat):Int)=0:=by simp; omega
  have q3:(1:Int)<=((((m:Int)::p).map am).length:Nat):=by simp only [B6,C1]; omega
  have hm':m<(t.as.map Tm.row).length:=by rw [B6]; exact hm
  have q4:(0:Int)<=1:=by decide
  simp only [q0,q1,q2,q3,q4,ht,show O2 0=0 from rfl,Int.le_refl,nv0,nvS,dvI,dvB,dvS,dvL,B5,ax,hm',ab hm,Tm.row_eq,H3,H4,H1,H2,N0,B8,h2,h3]
  rfl
theorem r78 (w:Tm) (hw:w.nodes<=1048577):∀ (p:List Int) (t u:Tm),t.nodes<=1048577->p.length<=1048576->atT t p=some u->rn ⟨78,0,0⟩ [.int t.k,.int t.n,.str t.s,.sl (t.as.map Tm.row),.sl (p.map am),.int w.k,.int w.n,.str w.s,.sl (w.as.map Tm.row)]=some (0,[.int (dt t p w).k,.int (dt t p w).n,.str (dt t p w).s,.sl ((dt t p w).as.map Tm.row)])
 | [],t,u,hn,hp,h=>by
  have h3:=r33 w (aq w hw);rw [e78_0_0];simp only [D1,C7,C6,H3,H1,h3,nv0,nvS,dvI,dvB,dvS,dvL,B5,dt]
 | j::p,t,u,hn,hp,h=>by
  obtain ⟨hm,h0,h1⟩:=co h;have hls:=cw (xs:=t.as);have hnd:=Tm.nodes_eq t;have hmn:=dh (f:=Tm.nodes) (C3 hm);have h2:=r78 w hw p _ u (by omega) (by simp only [C1] at hp; omega) h1
  have h3:=r33 t (aq t hn);have ht:=Bp j p;rw [e78_0_0];simp only [dt,dif_pos hm];obtain ⟨m,rfl⟩:∃ m:Nat,j=(m:Int):=⟨j.toNat,by omega⟩
  simp only [B8] at hm h2 ⊢;have q0:rowAt (((m:Int)::p).map am) 0=[.int (m:Int)]:=rfl;have q1:inb 0 (((m:Int)::p).map am).length=true:=by simp [inb]
  have q2:¬(((((m:Int)::p).map am).length:Nat):Int)=0:=by simp; omega
  have q3:(1:Int)<=((((m:Int)::p).map am).length:Nat):=by simp only [B6,C1]; omega
  have hm':m<(t.as.map Tm.row).length:=by rw [B6]; exact hm
  have q4:(0:Int)<=1:=by decide
  have q5:=Kt hm (dt t.as[m] p w);simp only [q0,q1,q2,q3,q4,ht,show O2 0=0 from rfl,Int.le_refl,nv0,nvS,dvI,dvB,dvS,dvL,B5,ax,hm',H3,H4,H1,H2,N0,B8,h3]
  rw [ab hm] at q5 ⊢;simp only [Tm.row_eq,nv0,nvS,dvI,dvB,dvS,dvL,B5] at q5 ⊢;simp only [h2,nv0,nvS,dvI,dvB,dvS,dvL,B5,q5];rfl
end Go.Q.S
end
section
namespace Go.Q.S
open Go Go.Q Go.Proofs
theorem mI2:∀ t u:Tm,∀ l:List Bnd,bb u->(∀ b∈l,bb b.2)->l.length+t.nodes<=1048576->rn ⟨143,2,0⟩ [.int t.k,.int t.n,.str t.s,.sl (t.as.map Tm.row),.int u.k,.int u.n,.str u.s,.sl (u.as.map Tm.row),.sl (l.map Bnd.row)]=some (0,foI (mT t u l) (if t.k=1 then l.map Bnd.row else [])):=Tm.ind fun t ih u l hu hl hb=>by
 have hnd:=Tm.nodes_eq t;have hls:=cw (xs:=t.as);have hlp:t.as.length=u.as.length->∀ n i (l:List Bnd),i+n=t.as.length->(∀ b∈l,bb b.2)->l.length+((t.as.drop i).map Tm.nodes).sum<=1048576->rn ⟨143,2,1⟩ [.int (t.as.length:Int),.int (i:Int),.sl (l.map Bnd.row),.int t.k,.int t.n,.str t.s,.sl (t.as.map Tm.row),.int u.k,.int u.n,.str u.s,.sl (u.as.map Tm.row)]=match mTs (t.as.drop i) (u.as.drop i) l with
  | some l'=>some (0,[.sl (l'.map Bnd.row)])
  | none=>some (1,[.sl []]):=by
  intro hlen n;induction n with
  | zero =>
   intro i l hi hl hb;obtain rfl:i=t.as.length:=by omega
   rw [e143_2_1];simp only [B6,C0,D3,H4,H2,C8,mTs]
  | succ n ih2 =>
   intro i l hi hl hb;have hlt:i<t.as.length:=by omega
   have hlu:i<u.as.length:=by omega
   rw [B9 hlt] at hb ⊢;rw [B9 hlu];simp only [C2,J7] at hb;have hm:=C3 hlt;have hmu:=C3 hlu;have h1:=ih _ hm u.as[i] l (hu.sub hmu) hl (by omega)
   rw [e143_2_1];simp only [B6,C0,hlt,H3,H1,ax,B8,ab hlt,af hlt (bg (by omega)),hlu,ab hlu,Tm.row_eq,nv0,nvS,dvI,dvB,dvS,dvL,B5,h1,mTs]
   cases hq:mT t.as[i] u.as[i] l with
   | none=>rfl
   | some l1 =>
    have hl1:=oa bb (fun t a h ha=>h.sub ha) _ _ l l1 (hu.sub hmu) hl hq
    have hn1:=za _ _ _ _ hq;have h2:=ih2 (i+1) l1 (by omega) hl1 (by omega)
    simp only [foI,nv0,nvS,dvI,dvB,dvS,dvL,B5,E1,H2,h2]
 have h0:=fun h=>hlp h t.as.length 0 l (by omega) hl (by rw [D2]; omega)
 simp only [D2,C6] at h0;rw [e143_2_0,Kk];by_cases h1:t.k=1
 · have hbd:=r166 l (by omega) t.s
   have hb2:F6 (l.length+1) M63=true:=nb (by omega)
   simp only [h1,H3,H1,if_true,hbd];cases hq:bnd l t.s with
   | some v =>
    have he:=r176 v u (tc hl hq);simp only [nv0,nvS,dvI,dvB,dvS,dvL,B5,H1,he];cases eqb v.row u.row <;> rfl
   | none =>
    simp only [nv0,nvS,dvI,dvB,dvS,dvL,B5,H2,B6,C1,C7,D4,hb2,H1,foI,D5,C2,D1,ii]
 · simp only [h1,H4,H2,if_false]
   by_cases e1:t.k=u.k
   · rw [H7 e1,H5 e1]
     by_cases e2:t.n=u.n
     · rw [H7 e2,H5 e2]
       by_cases e3:t.s=u.s
       · rw [H7 e3,H5 e3]
         by_cases e4:t.as.length=u.as.length
         · have e4':((t.as.map Tm.row).length:Int)=((u.as.map Tm.row).length:Int):=by simp [e4]
           rw [H7 e4',H5 e4];simp only [E1,H2,B6,h0 e4];cases mTs t.as u.as l <;> rfl
         · have e4':¬((t.as.map Tm.row).length:Int)=((u.as.map Tm.row).length:Int):=by simp; omega
           rw [H8 e4',H6 e4]; rfl
       · rw [H8 e3,H6 e3]; rfl
     · rw [H8 e2,H6 e2]; rfl
   · rw [H8 e1,H6 e1]; rfl
theorem mI1:∀ t u:Tm,∀ l:List Bnd,bb u->(∀ b∈l,bb b.2)->l.length+t.nodes<=1048576->rn ⟨143,1,0⟩ [.int t.k,.int t.n,.str t.s,.sl (t.as.map Tm.row),.int u.k,.int u.n,.str u.s,.sl (u.as.map Tm.row),.sl (l.map Bnd.row)]=some (0,foI (mT t u l) (if t.k=1 then l.map Bnd.row else [])):=fun t u l hu hl hb=>by
 have ih:=fun (a:Tm) (_:a∈t.as)=>mI2 a
 have hnd:=Tm.nodes_eq t;have hls:=cw (xs:=t.as);have hlp:t.as.length=u.as.length->∀ n i (l:List Bnd),i+n=t.as.length->(∀ b∈l,bb b.2)->l.length+((t.as.drop i).map Tm.nodes).sum<=1048576->rn ⟨143,1,1⟩ [.int (t.as.length:Int),.int (i:Int),.sl (l.map Bnd.row),.int t.k,.int t.n,.str t.s,.sl (t.as.map Tm.row),.int u.k,.int u.n,.str u.s,.sl (u.as.map Tm.row)]=match mTs (t.as.drop i) (u.as.drop i) l with
  | some l'=>some (0,[.sl (l'.map Bnd.row)])
  | none=>some (1,[.sl []]):=by
  intro hlen n;induction n with
  | zero =>
   intro i l hi hl hb;obtain rfl:i=t.as.length:=by omega
   rw [e143_1_1];simp only [B6,C0,D3,H4,H2,C8,mTs]
  | succ n ih2 =>
   intro i l hi hl hb;have hlt:i<t.as.length:=by omega
   have hlu:i<u.as.length:=by omega
   rw [B9 hlt] at hb ⊢;rw [B9 hlu];simp only [C2,J7] at hb;have hm:=C3 hlt;have hmu:=C3 hlu;have h1:=ih _ hm u.as[i] l (hu.sub hmu) hl (by omega)
   rw [e143_1_1];simp only [B6,C0,hlt,H3,H1,ax,B8,ab hlt,af hlt (bg (by omega)),hlu,ab hlu,Tm.row_eq,nv0,nvS,dvI,dvB,dvS,dvL,B5,h1,mTs]
   cases hq:mT t.as[i] u.as[i] l with
   | none=>rfl
   | some l1 =>
    have hl1:=oa bb (fun t a h ha=>h.sub ha) _ _ l l1 (hu.sub hmu) hl hq
    have hn1:=za _ _ _ _ hq;have h2:=ih2 (i+1) l1 (by omega) hl1 (by omega)
    simp only [foI,nv0,nvS,dvI,dvB,dvS,dvL,B5,E1,H2,h2]
 have h0:=fun h=>hlp h t.as.length 0 l (by omega) hl (by rw [D2]; omega)
 simp only [D2,C6] at h0;rw [e143_1_0,Kk];by_cases h1:t.k=1
 · have hbd:=r166 l (by omega) t.s
   have hb2:F6 (l.length+1) M63=true:=nb (by omega)
   simp only [h1,H3,H1,if_true,hbd];cases hq:bnd l t.s with
   | some v =>
    have he:=r176 v u (tc hl hq);simp only [nv0,nvS,dvI,dvB,dvS,dvL,B5,H1,he];cases eqb v.row u.row <;> rfl
   | none =>
    simp only [nv0,nvS,dvI,dvB,dvS,dvL,B5,H2,B6,C1,C7,D4,hb2,H1,foI,D5,C2,D1,ii]
 · simp only [h1,H4,H2,if_false]
   by_cases e1:t.k=u.k
   · rw [H7 e1,H5 e1]
     by_cases e2:t.n=u.n
     · rw [H7 e2,H5 e2]
       by_cases e3:t.s=u.s
       · rw [H7 e3,H5 e3]
         by_cases e4:t.as.length=u.as.length
         · have e4':((t.as.map Tm.row).length:Int)=((u.as.map Tm.row).length:Int):=by simp [e4]
           rw [H7 e4',H5 e4];simp only [E1,H2,B6,h0 e4];cases mTs t.as u.as l <;> rfl
         · have e4':¬((t.as.map Tm.row).length:Int)=((u.as.map Tm.row).length:Int):=by simp; omega
           rw [H8 e4',H6 e4]; rfl
       · rw [H8 e3,H6 e3]; rfl
     · rw [H8 e2,H6 e2]; rfl
   · rw [H8 e1,H6 e1]; rfl
theorem mS:∀ t u:Tm,∀ l:List Bnd,bb u->(∀ b∈l,bb b.2)->l.length+t.nodes<=1048576->(∀ l',mT t u l=some l'->rn ⟨174,1,0⟩ [.int t.k,.int t.n,.str t.s,.sl (t.as.map Tm.row),.int u.k,.int u.n,.str u.s,.sl (u.as.map Tm.row),.sl (l.map Bnd.row)]=some (0,[.bool true,.sl (l'.map Bnd.row)]))/\(mT t u l=none->(∃ X,rn ⟨174,1,0⟩ [.int t.k,.int t.n,.str t.s,.sl (t.as.map Tm.row),.int u.k,.int u.n,.str u.s,.sl (u.as.map Tm.row),.sl (l.map Bnd.row)]=some (0,[.bool false,.sl X]))\/rn ⟨174,1,0⟩ [.int t.k,.int t.n,.str t.s,.sl (t.as.map Tm.row),.int u.k,.int u.n,.str u.s,.sl (u.as.map Tm.row),.sl (l.map Bnd.row)]=some (1,[])):=Tm.ind fun t ih u l hu hl hb=>by
 have hnd:=Tm.nodes_eq t;have hls:=cw (xs:=t.as);have hlp:t.as.length=u.as.length->∀ n i (l:List Bnd),i+n=t.as.length->(∀ b∈l,bb b.2)->l.length+((t.as.drop i).map Tm.nodes).sum<=1048576->rn ⟨174,1,1⟩ [.int (i:Int),.sl (l.map Bnd.row),.int t.k,.int t.n,.str t.s,.sl (t.as.map Tm.row),.int u.k,.int u.n,.str u.s,.sl (u.as.map Tm.row)]=match mTs (t.as.drop i) (u.as.drop i) l with
  | some l'=>some (0,[.sl (l'.map Bnd.row)])
  | none=>some (1,[]):=by
  intro hlen n;induction n with
  | zero =>
   intro i l hi hl hb;obtain rfl:i=t.as.length:=by omega
   rw [e174_1_1];simp only [B6,C0,D3,H4,H2,C8,mTs]
  | succ n ih2 =>
   intro i l hi hl hb;have hlt:i<t.as.length:=by omega
   have hlu:i<u.as.length:=by omega
   rw [B9 hlt] at hb ⊢;rw [B9 hlu];simp only [C2,J7] at hb;have hm:=C3 hlt;have hmu:=C3 hlu;obtain ⟨h1,h1'⟩:=ih _ hm u.as[i] l (hu.sub hmu) hl (by omega)
   rw [e174_1_1];simp only [B6,C0,hlt,H3,H1,ax,B8,ab hlt,af hlt (bg (by omega)),hlu,ab hlu,Tm.row_eq,nv0,nvS,dvI,dvB,dvS,dvL,B5,mTs]
   cases hq:mT t.as[i] u.as[i] l with
   | none =>
    rcases h1' hq with ⟨X,e⟩ | e
    · rw [e]; rfl
    · rw [e]; rfl
   | some l1 =>
    have hl1:=oa bb (fun t a h ha=>h.sub ha) _ _ l l1 (hu.sub hmu) hl hq
    have hn1:=za _ _ _ _ hq;have h2:=ih2 (i+1) l1 (by omega) hl1 (by omega)
    simp only [h1 l1 hq,nv0,nvS,dvI,dvB,dvS,dvL,B5,E2,H1,H2,E1,h2]
 have h0:=fun h=>hlp h t.as.length 0 l (by omega) hl (by rw [D2]; omega)
 simp only [D2,C6] at h0;rw [e174_1_0,Kk];by_cases h1:t.k=1
 · have hbd:=r133 l (by omega) hl t.s
   have hb2:F6 (l.length+1) M63=true:=nb (by omega)
   have hcp:=r33 u hu;simp only [h1,H3,H1,if_true,hbd];cases hq:bnd l t.s with
   | some v =>
    have he:=r17 v u (tc hl hq);simp only [nv0,nvS,dvI,dvB,dvS,dvL,B5,H1,he];cases eqb v.row u.row with
    | true=>exact ⟨fun l' h=>by simp only [if_true,C9.injEq] at h; subst h; rfl,fun h=>by simp at h⟩
    | false=>exact ⟨fun l' h=>by simp at h,fun _=>.inl ⟨_,rfl⟩⟩
   | none =>
    refine ⟨fun l' h=>?_,fun h=>by simp at h⟩
    simp only [C9.injEq] at h;subst h;simp only [nv0,nvS,dvI,dvB,dvS,dvL,B5,H2,hcp,B6,C1,C7,D4,hb2,H1,D5,C2,D1,ii]
 · simp only [h1,H4,H2,if_false]
   by_cases e1:t.k=u.k
   · rw [H7 e1,H5 e1]
     by_cases e2:t.n=u.n
     · rw [H7 e2,H5 e2]
       by_cases e3:t.s=u.s
       · rw [H7 e3,H5 e3]
         by_cases e4:t.as.length=u.as.length
         · have e4':((t.as.map Tm.row).length:Int)=((u.as.map Tm.row).length:Int):=by simp [e4]
           rw [H7 e4',H5 e4];simp only [E1,H2,h0 e4];cases mTs t.as u.as l with
           | none=>exact ⟨fun l' h=>by simp at h,fun _=>.inr rfl⟩
           | some l2=>exact ⟨fun l' h=>by simp only [C9.injEq] at h; subst h; rfl,fun h=>by simp at h⟩
         · have e4':¬((t.as.map Tm.row).length:Int)=((u.as.map Tm.row).length:Int):=by simp; omega
           rw [H8 e4',H6 e4]; exact ⟨fun l' h=>by simp at h,fun _=>.inl ⟨_,rfl⟩⟩
       · rw [H8 e3,H6 e3]; exact ⟨fun l' h=>by simp at h,fun _=>.inl ⟨_,rfl⟩⟩
     · rw [H8 e2,H6 e2]; exact ⟨fun l' h=>by simp at h,fun _=>.inl ⟨_,rfl⟩⟩
   · rw [H8 e1,H6 e1]; exact ⟨fun l' h=>by simp at h,fun _=>.inl ⟨_,rfl⟩⟩
theorem r175 (l:List Bnd) (hl:l.length<=1048576) (hs:∀ b∈l,bb b.2) (ns:List ByteArray) (hn:ns.length<=1048577):rn ⟨175,0,0⟩ [.sl (l.map Bnd.row),.sl (ns.map ai)]=some (0,[.sl ((rsB l (cm ns)).map Bnd.row)]):=by
 have h1:=r125 ns (by omega)
 have hsl:=gf ns;rw [e175_0_0,h1];generalize cm ns=ms at hsl ⊢;have key:∀ n i (acc:List Bnd),i+n=ms.length->acc.length<=i->rn ⟨175,0,1⟩ [.sl (l.map Bnd.row),.int (i:Int),.sl (acc.map Bnd.row),.sl (ms.map ai)]=some (0,[.sl ((acc++rsB l (ms.drop i)).map Bnd.row)]):=by
  intro n;induction n with
  | zero =>
   intro i acc hi ha;obtain rfl:i=ms.length:=by omega
   rw [e175_0_1];simp only [B6,C0,D3,H4,H2,C8,rsB,List.filterMap_nil,G9]
  | succ n ih =>
   intro i acc hi ha;have hlt:i<ms.length:=by omega
   rw [e175_0_1,B9 hlt,Pv];have hbd:=r133 l hl hs ms[i];have hb2:F6 (acc.length+1) M63=true:=nb (by omega)
   simp only [B6,C0,hlt,H3,H1,ax,B8,ab hlt,af hlt (bg (by omega)),ai,nv0,nvS,dvI,dvB,dvS,dvL,B5,hbd]
   cases hq:bnd l ms[i] with
   | none =>
    have h2:=ih (i+1) acc (by omega) (by omega)
    simp only [nv0,nvS,dvI,dvB,dvS,dvL,B5,H2,h2]
   | some v =>
    have h2:=ih (i+1) (acc++[(ms[i],v)]) (by omega) (by simp; omega)
    simp only [D5,C2,D1,ii,ai] at h2;simp only [nv0,nvS,dvI,dvB,dvS,dvL,B5,H1,C1,C7,D4,hb2,h2,D5,C2,E3,F5,D9,ii]
 have h:=key ms.length 0 [] (by omega) (K0 _)
 simp only [C6,D1,D2,D9] at h;simp only [h,nv0,nvS,dvI,dvB,dvS,dvL,B5,E2,H1,H2]
theorem r138 (t u:Tm) (ht:t.nodes<=1048576) (hu:bb u):rn ⟨138,0,0⟩ [.int t.k,.int t.n,.str t.s,.sl (t.as.map Tm.row),.int u.k,.int u.n,.str u.s,.sl (u.as.map Tm.row)]=some (0,foI ((mT t u []).map fun l=>rsB l (cm (cm t.names))) []):=by
 obtain ⟨h1,h2⟩:=mS t u [] hu (by simp) (by simpa using ht)
 have h3:=r62 t (by omega)
 have hnl:=cg t;have hsl:=gf t.names;rw [e138_0_0];simp only [D1] at h1 h2;cases hq:mT t u [] with
 | none =>
  rcases h2 hq with ⟨X,e⟩ | e
  · rw [e]; rfl
  · rw [e]; rfl
 | some l =>
  have hls:=oa bb (fun t a h ha=>h.sub ha) t u [] l hu (by simp) hq
  have hln:=za _ _ _ _ hq;simp only [C7] at hln;have h4:=r175 l (by omega) hls (cm t.names) (by omega)
  simp only [h1 l hq,nv0,nvS,dvI,dvB,dvS,dvL,B5,E2,H1,H2,E1,h3,h4,K7,foI]
theorem Wk (l:List Bnd) (hl:l.length<=1048576) (hs:∀ b∈l,b.2.nodes<=60) (gs:List Gu) (hg:gs.length<=1048576) (h:∀ g∈gs,g.l.nodes<=60/\g.r.nodes<=60):rn ⟨144,0,0⟩ [.sl (l.map Bnd.row),.sl (gs.map Gu.row)]=some (0,[.bool (gs.all fun g=>holds (ex l g))]):=by
 have hss:∀ b∈l,bb b.2:=fun b hb=>aq _ (by have:=hs b hb; omega)
 rw [e144_0_0];have hf:=Pj (F:=fun i=>rn ⟨144,0,1⟩ [.sl (l.map Bnd.row),.sl (gs.map Gu.row),.int (gs.map Gu.row).length,.int (i:Int)]) (xs:=gs) (p:=fun g=>holds (ex l g)) (A:=some (0,[])) (B:=some (1,[])) (fun i hi=>?_) ?_
 · simp only [C6] at hf
   rw [hf];cases gs.all fun g=>holds (ex l g) <;> rfl
 · have hgi:=h _ (C3 hi)
   have a1:=r178 l hl hss gs[i] ⟨by omega,by omega⟩
   have a2:=r177 (ex l gs[i]) (Br hs hgi.1 hgi.2);rw [e144_0_1];simp only [B8,ab hi,Jl,B6,ax,hi,C0,H3,H1,nv0,nvS,dvI,dvB,dvS,dvL,B5,af hi (by unfold maxLen; omega),a1,a2]
   cases holds (ex l gs[i]) <;> rfl
 · rw [e144_0_1]
   simp
theorem r84 (d:DfM) (hd:DfG d) (i:Nat) (hi:i<d.ru.length) (u:Tm) (hu:u.nodes<=60):rn ⟨84,0,0⟩ [.sl (d.so.map ai),.sl (d.op.map OpM.row),.sl (d.ru.map RuM.row),.sl (d.st.map StM.row),.int (i:Int),.int u.k,.int u.n,.str u.s,.sl (u.as.map Tm.row)]=some (0,frR (fv d.ru[i] u)):=by
 have hr:=hd.ru (C3 hi);have hln:=aw hr.lv;have hrn:=aw hr.rv;have h1:=mI1 d.ru[i].l u [] (aq u (by omega)) (by simp) (by simp; omega)
 rw [e84_0_0];simp only [D1] at h1;simp only [B6,ax,hi,H3,H1,B8,ab hi,RuM.row,nv0,nvS,dvI,dvB,dvS,dvL,B5,h1];unfold fv;cases hq:mT d.ru[i].l u [] with
 | none=>rfl
 | some l =>
  have hls:=oa (fun t=>t.nodes<=60) (fun t a h ha=>pg t a h ha) _ u [] l hu (by simp) hq
  have hln2:=za _ _ _ _ hq;simp only [C7] at hln2;have hss:∀ b∈l,bb b.2:=fun b hb=>aq _ (by have:=hls b hb; omega)
  have h2:=Wk l (by omega) hls d.ru[i].g hr.b.g (fun g hg=>⟨aw (hr.gl g hg).1,aw (hr.gl g hg).2⟩)
  have h3:=r112 l (by omega) hss d.ru[i].r (aq _ (by omega))
  have h4:=r111 (aS l d.ru[i].r) (rm hss _ (aq _ (by omega)))
  simp only [foI,nv0,nvS,dvI,dvB,dvS,dvL,B5,E1,H2,h2,h3,h4];cases d.ru[i].g.all fun g=>holds (ex l g) <;> rfl
theorem r77 {ops:List OpM} (r:RuM) (hr:RuG ops r) (u:Tm) (hu:u.nodes<=60):rn ⟨77,0,0⟩ [.str r.n,.int (r.l).k,.int (r.l).n,.str (r.l).s,.sl ((r.l).as.map Tm.row),.int (r.r).k,.int (r.r).n,.str (r.r).s,.sl ((r.r).as.map Tm.row),.sl (r.g.map Gu.row),.int u.k,.int u.n,.str u.s,.sl (u.as.map Tm.row)]=some (0,[.bool (fv r u).isSome,.sl ((fiL r u).map Bnd.row)]):=by
 have hln:=aw hr.lv;have hrn:=aw hr.rv;have hgl:=hr.b.g;have h1:=r138 r.l u (by omega) (aq u (by omega))
 have hL:(∀ b∈fiL r u,b.2.nodes<=60)/\(fiL r u).length<=1048576:=by
  unfold fiL;cases hq:mT r.l u [] with
  | none=>exact ⟨by simp,by simp⟩
  | some l =>
   have hls:=oa (fun t=>t.nodes<=60) (fun t a h ha=>pg t a h ha) _ u [] l hu (by simp) hq
   have h1:=gf r.l.names;have h2:=gf (cm r.l.names);have h3:=cg r.l;have h4:=Ku l (cm (cm r.l.names));exact ⟨fun b hb=>Kv (P:=fun t=>t.nodes<=60) hls _ b hb,by show (rsB l _).length<=_; omega⟩
 have hss:∀ b∈fiL r u,bb b.2:=fun b hb=>aq _ (by have:=hL.1 b hb; omega)
 have e:rn ⟨138,0,0⟩ [.int (r.l).k,.int (r.l).n,.str (r.l).s,.sl ((r.l).as.map Tm.row),.int u.k,.int u.n,.str u.s,.sl (u.as.map Tm.row)]=some (0,[.bool (mT r.l u []).isSome,.sl ((fiL r u).map Bnd.row)]):=by
  rw [h1]; unfold fiL;cases mT r.l u [] <;> rfl
 have key:∀ n i (b:Bool),i+n=r.g.length->rn ⟨77,0,1⟩ [.bool b,.int (i:Int),.str r.n,.int (r.l).k,.int (r.l).n,.str (r.l).s,.sl ((r.l).as.map Tm.row),.int (r.r).k,.int (r.r).n,.str (r.r).s,.sl ((r.r).as.map Tm.row),.sl (r.g.map Gu.row),.sl ((fiL r u).map Bnd.row)]=some (0,[.bool (b&&(r.g.drop i).all fun g=>holds (ex (fiL r u) g)),.sl ((fiL r u).map Bnd.row)]):=by
  intro n;induction n with
  | zero =>
   intro i b hi;obtain rfl:i=r.g.length:=by omega
   rw [e77_0_1];simp only [B6,C0,D3,H4,H2,C8,N4,N0]
  | succ n ih =>
   intro i b hi;have hlt:i<r.g.length:=by omega
   have hgi:=hr.gl _ (C3 hlt);have g1:=aw hgi.1;have g2:=aw hgi.2;have a1:=r140 (fiL r u) hL.2 hss r.g[i] ⟨by omega,by omega⟩
   have a2:=r139 (ex (fiL r u) r.g[i]) (Br hL.1 g1 g2);rw [e77_0_1,B9 hlt];cases b with
   | false=>simp [hlt]
   | true =>
    simp only [B6,C0,hlt,H3,H1,ax,B8,ab hlt,af hlt (bg (by omega)),Jl,nv0,nvS,dvI,dvB,dvS,dvL,B5,a1,a2,ih (i+1) _ (by omega),J6,F4]
 have h2:=fun b=>key r.g.length 0 b (by omega)
 simp only [D2,C6] at h2;rw [e77_0_0];simp only [e,nv0,nvS,dvI,dvB,dvS,dvL,B5,E2,H1,H2,h2];rw [Hb];cases ((mT r.l u []).isSome&&r.g.all fun g=>holds (ex (fiL r u) g)) <;> rfl
theorem r82 (d:DfM) (hd:DfG d) (u:Tm) (hu:u.nodes<=60):rn ⟨82,0,0⟩ [.sl (d.so.map ai),.sl (d.op.map OpM.row),.sl (d.ru.map RuM.row),.sl (d.st.map StM.row),.int u.k,.int u.n,.str u.s,.sl (u.as.map Tm.row)]=some (0,[.int (Jd (od d.ru u))]):=by
 have hrl:=hd.b.ru;have key:∀ n i,i+n=d.ru.length->rn ⟨82,0,1⟩ [.int (d.ru.length:Int),.int (i:Int),.sl (d.so.map ai),.sl (d.op.map OpM.row),.sl (d.ru.map RuM.row),.sl (d.st.map StM.row),.int u.k,.int u.n,.str u.s,.sl (u.as.map Tm.row)]=match (d.ru.drop i).findIdx? (fun r=>(fv r u).isSome) with
  | some j=>some (1,[.int ((i+j:Nat):Int)])
  | none=>some (0,[]):=by
  intro n;induction n with
  | zero =>
   intro i hi;obtain rfl:i=d.ru.length:=by omega
   rw [e82_0_1];simp only [B6,C0,D3,H4,H2,C8,T3]
  | succ n ih =>
   intro i hi;have hlt:i<d.ru.length:=by omega
   have h1:=r84 d hd i hlt u hu;have h2:=ih (i+1) (by omega)
   rw [e82_0_1,B9 hlt,List.findIdx?_cons];simp only [C0,hlt,H3,H1,h1,af hlt (bg (by omega)),h2]
   cases fv d.ru[i] u with
   | some w=>rfl
   | none =>
    simp only [frR,nv0,nvS,dvI,dvB,dvS,dvL,B5,H2,Option.isSome_none,Q4,if_false];cases (d.ru.drop (i+1)).findIdx? (fun r=>(fv r u).isSome) with
    | none=>rfl
    | some j=>simp only [K7,show i+(j+1)=i+1+j by omega]
 have h:=key d.ru.length 0 (by omega)
 simp only [D2,C6,D4] at h;rw [e82_0_0];simp only [B6,h];unfold od;cases d.ru.findIdx? (fun r=>(fv r u).isSome) <;> rfl
theorem r67 (d:DfM) (hd:DfG d) (u:Tm) (hu:u.nodes<=60):rn ⟨67,0,0⟩ [.sl (d.so.map ai),.sl (d.op.map OpM.row),.sl (d.ru.map RuM.row),.sl (d.st.map StM.row),.int u.k,.int u.n,.str u.s,.sl (u.as.map Tm.row)]=some (0,[.int (Jd (od d.ru u))]):=by
 have hrl:=hd.b.ru;have key:∀ n i,i+n=d.ru.length->rn ⟨67,0,1⟩ [.int (i:Int),.sl (d.so.map ai),.sl (d.op.map OpM.row),.sl (d.ru.map RuM.row),.sl (d.st.map StM.row),.int u.k,.int u.n,.str u.s,.sl (u.as.map Tm.row)]=match (d.ru.drop i).findIdx? (fun r=>(fv r u).isSome) with
  | some j=>some (1,[.int ((i+j:Nat):Int)])
  | none=>some (0,[]):=by
  intro n;induction n with
  | zero =>
   intro i hi;obtain rfl:i=d.ru.length:=by omega
   rw [e67_0_1];simp only [B6,C0,D3,H4,H2,C8,T3]
  | succ n ih =>
   intro i hi;have hlt:i<d.ru.length:=by omega
   have h1:=r77 d.ru[i] (hd.ru (C3 hlt)) u hu;have h2:=ih (i+1) (by omega)
   rw [e67_0_1,B9 hlt,List.findIdx?_cons];simp only [B6,C0,hlt,H3,H1,ax,B8,ab hlt,af hlt (bg (by omega)),RuM.row,nv0,nvS,dvI,dvB,dvS,dvL,B5,h1,h2]
   cases fv d.ru[i] u with
   | some w=>rfl
   | none =>
    simp only [H2,Option.isSome_none,Q4,if_false];cases (d.ru.drop (i+1)).findIdx? (fun r=>(fv r u).isSome) with
    | none=>rfl
    | some j=>simp only [K7,show i+(j+1)=i+1+j by omega]
 have h:=key d.ru.length 0 (by omega)
 simp only [D2,C6,D4] at h;rw [e67_0_0];simp only [h];unfold od;cases d.ru.findIdx? (fun r=>(fv r u).isSome) <;> rfl
end Go.Q.S
end
section
namespace Go.Q.S
open Go Go.Q Go.Proofs
theorem r37 (d:DfM) (hd:DfG d):∀ t:Tm,Gt d.op t->t.nodes<=60->∀ acc:List Int,acc.length+t.nodes<=1048576->rn ⟨37,0,0⟩ [.sl (d.so.map ai),.sl (d.op.map OpM.row),.sl (d.ru.map RuM.row),.sl (d.st.map StM.row),.int t.k,.int t.n,.str t.s,.sl (t.as.map Tm.row),.sl (acc.map am)]=some (0,nrR (nx d t) acc):=Tm.ind fun t ih ht hn acc hac=>by
 have hnd:=Tm.nodes_eq t;have hls:=cw (xs:=t.as);have hst:=hd.b.st;have hql:=Se d.st t;have hlp:∀ n i,i+n=(stL d.st t).length->rn ⟨37,0,1⟩ [.int ((stL d.st t).length:Int),.int (i:Int),.sl (acc.map am),.sl (d.so.map ai),.sl (d.op.map OpM.row),.sl (d.ru.map RuM.row),.sl (d.st.map StM.row),.int t.k,.int t.n,.str t.s,.sl (t.as.map Tm.row),.int 0,.sl ((stL d.st t).map am),.sl []]=match mo ((stL d.st t).drop i) (t.as.map (nx d)) with
  | some x=>some (1,[.int (x.1:Int),.sl ((acc++x.2).map am)])
  | none=>some (0,[.sl (acc.map am),.sl (d.so.map ai),.sl (d.op.map OpM.row),.sl (d.ru.map RuM.row),.sl (d.st.map StM.row),.int t.k,.int t.n,.str t.s,.sl (t.as.map Tm.row),.int 0,.sl []]):=by
  have hq:∀ j∈stL d.st t,0<=j/\j.toNat<t.as.length:=fun j hj=>Pu hd ht hj
  generalize stL d.st t=q at hql hq ⊢;intro n;induction n with
  | zero =>
   intro i hi;obtain rfl:i=q.length:=by omega
   rw [e37_0_1];simp only [B6,C0,D3,H4,H2,C8,zb]
  | succ n ih2 =>
   intro i hi;have hlt:i<q.length:=by omega
   obtain ⟨h0,hm⟩:=hq _ (C3 hlt);rw [B9 hlt];rw [e37_0_1];generalize hj:q[i]=j at h0 hm ⊢;obtain ⟨m,rfl⟩:∃ m:Nat,j=(m:Int):=⟨j.toNat,by omega⟩
   rw [B8] at hm;have hmm:=C3 hm;have hms:=dh (f:=Tm.nodes) hmm;have h1:=ih _ hmm (ht.sub hmm) (by omega) (acc++[(m:Int)]) (by simp; omega)
   have h2:=Ee (acc.map am) (by rw [B6]; omega)
   have hb2:F6 (acc.length+1) M63=true:=nb (by omega)
   simp only [D5,C2,D1,am] at h1;rw [Bs hm];simp only [B6,C0,hlt,H3,H1,ax,B8,ab hlt,af hlt (bg (by omega)),hj,hm,ab hm,Tm.row_eq,am,nv0,nvS,dvI,dvB,dvS,dvL,B5,C1,C7,D4,hb2]
   simp only [h2,nv0,nvS,dvI,dvB,dvS,dvL,B5,B6,hb2,H1,h1];have h3:=ih2 (i+1) (by omega)
   cases nx d t.as[m] with
   | some x=>simp only [nrR,nv0,nvS,dvI,dvB,dvS,dvL,B5,H1,E3,F5,D9]
   | none=>simp only [nrR,nv0,nvS,dvI,dvB,dvS,dvL,B5,H2,h3]
 have h0:=hlp (stL d.st t).length 0 (by omega)
 simp only [D2,C6] at h0;have h1:=r80 d hd.b t;have h2:=r82 d hd t hn;rw [e37_0_0,Pt,h1];simp only [nv0,nvS,dvI,dvB,dvS,dvL,B5,B6,h0];cases mo (stL d.st t) (t.as.map (nx d)) with
 | some x=>rfl
 | none =>
  simp only [nv0,nvS,dvI,dvB,dvS,dvL,B5,E2,H1,H2,h2];cases od d.ru t with
  | none=>rfl
  | some i =>
   have q:¬((i:Int)<0):=by omega
   simp only [Jd,q,H4,H2,K7,nrR,G9]
theorem r22 (d:DfM) (hd:DfG d):∀ t:Tm,Gt d.op t->t.nodes<=60->rn ⟨22,0,0⟩ [.sl (d.so.map ai),.sl (d.op.map OpM.row),.sl (d.ru.map RuM.row),.sl (d.st.map StM.row),.int t.k,.int t.n,.str t.s,.sl (t.as.map Tm.row)]=some (0,nrS (nx d t)):=Tm.ind fun t ih ht hn=>by
 have hnd:=Tm.nodes_eq t;have hls:=cw (xs:=t.as);have hst:=hd.b.st;have hql:=Ha d.st t.s;have hlp:∀ n i,i+n=(ko d.st t.s).length->rn ⟨22,0,1⟩ [.int (i:Int),.sl (d.so.map ai),.sl (d.op.map OpM.row),.sl (d.ru.map RuM.row),.sl (d.st.map StM.row),.int t.k,.int t.n,.str t.s,.sl (t.as.map Tm.row),.int 0,.sl ((ko d.st t.s).map am),.sl []]=match mo (if t.k=2 then (ko d.st t.s).drop i else []) (t.as.map (nx d)) with
  | some x=>some (1,[.int (x.1:Int),.sl (x.2.map am)])
  | none=>some (0,[.sl (d.so.map ai),.sl (d.op.map OpM.row),.sl (d.ru.map RuM.row),.sl (d.st.map StM.row),.int t.k,.int t.n,.str t.s,.sl (t.as.map Tm.row),.int 0,.sl []]):=by
  by_cases hk:t.k=2
  · have hq:∀ j∈ko d.st t.s,0<=j/\j.toNat<t.as.length:=fun j hj=>Pu hd ht (by unfold stL; rw [H5 hk]; exact hj)
    generalize ko d.st t.s=q at hql hq ⊢;intro n;simp only [H5 hk];induction n with
    | zero =>
     intro i hi;obtain rfl:i=q.length:=by omega
     rw [e22_0_1];simp only [B6,C0,D3,H4,H2,C8,zb]
    | succ n ih2 =>
     intro i hi;have hlt:i<q.length:=by omega
     obtain ⟨h0,hm⟩:=hq _ (C3 hlt);rw [B9 hlt];rw [e22_0_1];generalize hj:q[i]=j at h0 hm ⊢;obtain ⟨m,rfl⟩:∃ m:Nat,j=(m:Int):=⟨j.toNat,by omega⟩
     rw [B8] at hm;have hmm:=C3 hm;have hms:=dh (f:=Tm.nodes) hmm;have h1:=ih _ hmm (ht.sub hmm) (by omega)
     have q2:(m:Int)<=(t.as.length:Int)-1:=by omega
     have hw:IntKind.i64.wrap ((t.as.length:Int)-1)=(t.as.length:Int)-1:=IntWalk.i64_in _ (by omega)
     have h3:=ih2 (i+1) (by omega)
     rw [Bs hm,H7 hk];simp only [B6,C0,hlt,H3,H1,ax,B8,ab hlt,af hlt (bg (by omega)),hj,hm,hw,h0,q2,rIn,N0,E1,H2,ab hm,Tm.row_eq,am,nv0,nvS,dvI,dvB,dvS,dvL,B5,h1]
     cases hx:nx d t.as[m] with
     | some x =>
      obtain ⟨u,_,_,hu,_⟩:=xc d _ x.1 x.2 hx;have hun:=ik x.2 _ u hu;have hb2:F6 (0+1+x.2.length) M63=true:=nb (by omega)
      simp only [nrS,nv0,nvS,dvI,dvB,dvS,dvL,B5,H1,C1,C7,B6,hb2,F5,D9,C2,am]
     | none=>simp only [nrS,nv0,nvS,dvI,dvB,dvS,dvL,B5,H2,h3]
  · intro n i hi
    rw [H6 hk,zb,e22_0_1,H8 hk];cases decide ((i:Int)<(((ko d.st t.s).map am).length:Int)) <;> rfl
 have h0:=hlp (ko d.st t.s).length 0 (by omega)
 simp only [D2,C6] at h0;have h1:=fun a b c=>r66 a b c d.st hd.b.st t.s
 have h2:=r67 d hd t hn;have hmx:∀ x:Option Nat,rn ⟨68,0,0⟩ [.int (Jd x),.int 0]=some (0,[.int ((x.getD 0:Nat):Int)]):=fun x=>by
  rw [e68_0_0];cases x with
  | none=>rfl
  | some i =>
   by_cases hi:(0:Int)<Jd (some i)
   · rw [H7 hi]; rfl
   · rw [H8 hi]
     simp only [Jd] at hi;obtain rfl:i=0:=by omega
     rfl
 rw [e22_0_0,Pt,h1];simp only [nv0,nvS,dvI,dvB,dvS,dvL,B5,h0];have e:(if t.k=2 then ko d.st t.s else [])=stL d.st t:=rfl
 rw [e];cases mo (stL d.st t) (t.as.map (nx d)) with
 | some x=>rfl
 | none =>
  simp only [nv0,nvS,dvI,dvB,dvS,dvL,B5,E2,H1,H2,h2,hmx];cases od d.ru t with
  | none=>rfl
  | some i =>
   have q:(0:Int)<=(i:Int):=by omega
   simp only [Jd,q,H3,K7,nrS,O6,D1]
theorem r38 (d:DfM) (hd:DfG d) (t:Tm) (ht:Gt d.op t) (hn:t.nodes<=60) (i:Nat) (p:List Int) (hx:nx d t=some (i,p)):rn ⟨38,0,0⟩ [.sl (d.so.map ai),.sl (d.op.map OpM.row),.sl (d.ru.map RuM.row),.sl (d.st.map StM.row),.int t.k,.int t.n,.str t.s,.sl (t.as.map Tm.row),.int (i:Int),.sl (p.map am)]=some (0,[.int (bz d t i p).k,.int (bz d t i p).n,.str (bz d t i p).s,.sl ((bz d t i p).as.map Tm.row),.bool (bz d t i p).valid]):=by
 obtain ⟨u,r,w,h1,h2,h3,e,hu,hun,hw,hwn,hg,hgn,hp,hr⟩:=lq hd ht hn hx;obtain ⟨hi,hri⟩:=D7.1 h2;have a1:=r83 t u p (by omega) h1
 have a2:=r84 d hd i hi u hun;rw [hri,h3] at a2;have a3:=r85 w p t u (by omega) (by omega) h1
 have a4:=r47 (bz d t i p) (by omega) hg.w
 rw [<- e] at a3;rw [e38_0_0];simp only [a1,a2,frR,nv0,nvS,dvI,dvB,dvS,dvL,B5,a3,a4]
theorem r34 (d:DfM) (hd:DfG d) (t:Tm) (ht:Gt d.op t) (hn:t.nodes<=60) (i:Nat) (p:List Int) (hx:nx d t=some (i,p)):rn ⟨34,0,0⟩ [.sl (d.so.map ai),.sl (d.op.map OpM.row),.sl (d.ru.map RuM.row),.sl (d.st.map StM.row),.int t.k,.int t.n,.str t.s,.sl (t.as.map Tm.row),.int (i:Int),.sl (p.map am)]=some (0,[.int (bz d t i p).k,.int (bz d t i p).n,.str (bz d t i p).s,.bool (bz d t i p).valid,.sl ((bz d t i p).as.map Tm.row)]):=by
 obtain ⟨u,r,w,h1,h2,h3,e,hu,hun,hw,hwn,hg,hgn,hp,hr⟩:=lq hd ht hn hx;obtain ⟨hi,hri⟩:=D7.1 h2;have hrn:=aw hr.rv;have hln:=aw hr.lv;have a1:=r76 t u (by omega) p (by omega) h1
 have a2:=r77 r hr u hun;have e3:=Hb r u;rw [h3] at e3;split at e3
 · simp only [C9.injEq] at e3
   have hL:(∀ b∈fiL r u,b.2.nodes<=60)/\(fiL r u).length<=1048576:=by
    unfold fiL;cases hq:mT r.l u [] with
    | none=>exact ⟨by simp,by simp⟩
    | some l =>
     have hls:=oa (fun t=>t.nodes<=60) (fun t a h ha=>pg t a h ha) _ u [] l hun (by simp) hq
     have h1:=gf r.l.names;have h2:=gf (cm r.l.names);have h3:=cg r.l;have h4:=Ku l (cm (cm r.l.names));exact ⟨fun b hb=>Kv (P:=fun t=>t.nodes<=60) hls _ b hb,by show (rsB l _).length<=_; omega⟩
   have hss:∀ b∈fiL r u,bb b.2:=fun b hb=>aq _ (by have:=hL.1 b hb; omega)
   have a3:=r70 (fiL r u) hL.2 hss r.r (aq _ (by omega))
   have a4:=r69 (aS (fiL r u) r.r) (rm hss _ (aq _ (by omega)))
   rw [<- e3] at a4;have a5:=r78 w (by omega) p t u (by omega) (by omega) h1
   have a6:=r60 (bz d t i p) (by omega) hg.w
   rw [<- e] at a5;rw [e34_0_0];subst hri;rw [h3] at a2;simp only [a1,B6,ax,hi,H3,H1,B8,ab hi,RuM.row,nv0,nvS,dvI,dvB,dvS,dvL,B5,a2,a3,a4,a5,a6,P6]
 · simp at e3
theorem r35 (d:DfM) (hb:DfB d) (t:Tm) (hw:Wt t) (hn:t.nodes<=2097152):rn ⟨35,0,0⟩ [.sl (d.so.map ai),.sl (d.op.map OpM.row),.sl (d.ru.map RuM.row),.sl (d.st.map StM.row),.int t.k,.int t.n,.str t.s,.sl (t.as.map Tm.row)]=some (0,[.bool (cfg d t)]):=by
 have h1:=r44 d hb;have h2:=r47 t (by omega) hw
 have h4:=r49 (d.so.map ai) d.op hb.op [] (by simp) t hw
 simp only [D1] at h4;rw [e35_0_0,e79_0_0];simp only [h1,h2,nv0,nvS,dvI,dvB,dvS,dvL,B5];unfold cfg;cases d.valid <;> try rfl
 cases hv:t.valid with
 | false=>rfl
 | true =>
  have h3:=r141 t (by have:=aw hv; omega)
  simp only [h3,h4,nv0,nvS,dvI,dvB,dvS,dvL,B5,H1,F4];cases isG t <;> rfl
theorem r31 (d:DfM) (hb:DfB d) (t:Tm) (hw:Wt t) (hn:t.nodes<=2097152):rn ⟨31,0,0⟩ [.sl (d.so.map ai),.sl (d.op.map OpM.row),.sl (d.ru.map RuM.row),.sl (d.st.map StM.row),.int t.k,.int t.n,.str t.s,.sl (t.as.map Tm.row)]=some (0,[.bool (cfg d t)]):=by
 have h1:=r58 d hb;have h2:=r60 t (by omega) hw
 have h4:=r64 (d.so.map ai) d.op hb.op [] (by simp) t hw
 simp only [D1] at h4;rw [e31_0_0];simp only [h1,h2,nv0,nvS,dvI,dvB,dvS,dvL,B5];unfold cfg;cases d.valid <;> try rfl
 cases hv:t.valid with
 | false=>rfl
 | true =>
  have h3:=r75 t (by have:=aw hv; omega)
  simp only [h3,h4,nv0,nvS,dvI,dvB,dvS,dvL,B5,H1,F4];cases isG t <;> rfl
theorem r14 (d:DfM) (hb:DfB d) (t:Tm) (hw:Wt t) (hn:t.nodes<=2097152) (f:Int):rn ⟨14,0,0⟩ [.sl (d.so.map ai),.sl (d.op.map OpM.row),.sl (d.ru.map RuM.row),.sl (d.st.map StM.row),.int t.k,.int t.n,.str t.s,.sl (t.as.map Tm.row),.int f]=some (0,[.bool (cfg d t&&(decide (0<=f)&&decide (f<=200)))]):=by
 have h1:=r31 d hb t hw hn;rw [e14_0_0];simp only [h1,rIn,nv0,nvS,dvI,dvB,dvS,dvL,B5];cases cfg d t <;> rfl
end Go.Q.S
end
section
namespace Go.Q.S
open Go Go.Q Go.Proofs
theorem Wl (d:DfM) (hd:DfG d):∀ (n:Nat) (t:Tm) (S:List Tm) (R:List (Nat×List Int)) (f:Nat),Gt d.op t->t.nodes<=60->R.length+n=f->f<=200->S.length<=R.length+1->rn ⟨16,0,1⟩ [.int (f:Int),.sl (d.so.map ai),.sl (d.op.map OpM.row),.sl (d.ru.map RuM.row),.sl (d.st.map StM.row),.int 0,.int 0,.int 0,.str e0,.int 0,.int t.k,.int t.n,.str t.s,.sl (S.map Tm.row),.sl (R.map oe),.sl [],.sl (t.as.map Tm.row)]=some (0,[.int (eg d n t).o,.int (eg d n t).t.k,.int (eg d n t).t.n,.str (eg d n t).t.s,.int ((R.length+(eg d n t).rd.length:Nat):Int),.sl ((S++(eg d n t).st).map Tm.row),.sl ((R++(eg d n t).rd).map oe),.sl ((eg d n t).t.as.map Tm.row)]):=by
 intro n;induction n with
 | zero =>
  intro t S R f ht hn hR hf hS;have h1:=r37 d hd t ht hn [] (by simp; omega)
  have h2:=r36 t (aq t (by omega))
  simp only [D1] at h1;have e1:((R.length:Int)=(f:Int)):=by omega
  rw [e16_0_1];cases hx:nx d t with
  | none =>
   rw [hx] at h1;simp only [h1,nrR,nv0,nvS,dvI,dvB,dvS,dvL,B5,J8,H1,show decide ((1:Int)=0)=false from rfl,h2,B6,jo hx,G9,C7,N2]
  | some x =>
   rw [hx] at h1;simp only [h1,nrR,nv0,nvS,dvI,dvB,dvS,dvL,B5,E1,J8,H1,H2,show decide ((2:Int)=0)=false from rfl,h2,B6,e1,H3,uu hx,G9,C7,N2]
 | succ n ih =>
  intro t S R f ht hn hR hf hS;have h1:=r37 d hd t ht hn [] (by simp; omega)
  have h2:=r36 t (aq t (by omega))
  simp only [D1] at h1;have e1:¬((R.length:Int)=(f:Int)):=by omega
  rw [e16_0_1];cases hx:nx d t with
  | none =>
   rw [hx] at h1;simp only [h1,nrR,nv0,nvS,dvI,dvB,dvS,dvL,B5,J8,H1,show decide ((1:Int)=0)=false from rfl,h2,B6,jo hx,G9,C7,N2]
  | some x =>
   rw [hx] at h1;have h3:=r38 d hd t ht hn x.1 x.2 hx;obtain ⟨_,_,_,_,_,_,_,_,_,_,_,hg,hgn,_⟩:=lq hd ht hn hx;cases hv:(bz d t x.1 x.2).valid with
   | false =>
    rw [hv] at h3;simp only [h1,nrR,D9,h3,nv0,nvS,dvI,dvB,dvS,dvL,B5,E1,J8,H1,H2,show decide ((3:Int)=0)=false from rfl,h2,B6,e1,H4,zd hx hv,G9,C7,N2]
   | true =>
    rw [hv] at h3;have h4:=r36 (bz d t x.1 x.2) (aq _ (by omega))
    have h5:=ih (bz d t x.1 x.2) (S++[bz d t x.1 x.2]) (R++[x]) f hg (aw hv) (by simp; omega) hf (by simp; omega)
    simp only [D5,C2,D1,Tm.row_eq,oe,E5,C1,C7,D4] at h5;have ea:R.length+1+(eg d n (bz d t x.1 x.2)).rd.length=R.length+((eg d n (bz d t x.1 x.2)).rd.length+1):=by omega
    have b1:F6 (S.length+1) M63=true:=nb (by omega)
    have b2:F6 (R.length+1) M63=true:=nb (by omega)
    simp only [h1,nrR,D9,h3,nv0,nvS,dvI,dvB,dvS,dvL,B5,E1,J8,H1,H2,H3,h4,B6,e1,H4,C1,C7,D4,b1,b2,h5,Dy hx hv,E5];simp only [D5,C2,D1,Tm.row_eq,oe,E3,F5,D9,C1,ea]
theorem r16 (d:DfM) (hb:DfB d) (t:Tm) (hw:Wt t) (hn:t.nodes<=2097152) (f:Int):rn ⟨16,0,0⟩ [.sl (d.so.map ai),.sl (d.op.map OpM.row),.sl (d.ru.map RuM.row),.sl (d.st.map StM.row),.int t.k,.int t.n,.str t.s,.sl (t.as.map Tm.row),.int f]=some (0,Pw (du d t f) t):=by
 have h1:=r35 d hb t hw hn;rw [e16_0_0];unfold du;by_cases f1:0<=f
 · by_cases f2:f<=200
   · have q1:¬ f<0:=by omega
     have q2:¬ 200<f:=by omega
     simp only [q1,q2,H4,H2,h1,nv0,nvS,dvI,dvB,dvS,dvL,B5];cases hc:cfg d t with
     | false=>simp [Pw]
     | true =>
      obtain ⟨hd,ht,hn60⟩:=Dx hb hw hc;have h2:=r36 t (aq t (by omega))
      have h3:=Wl d hd f.toNat t [t] [] f.toNat ht hn60 (by simp) (by omega) (by simp)
      have ef:((f.toNat:Nat):Int)=f:=by omega
      simp only [ef,C2,D1,Tm.row_eq,C7,D4,D9] at h3;rw [H5 ⟨f1,f2,rfl⟩];simp only [E1,H2,h2,nv0,nvS,dvI,dvB,dvS,dvL,B5,h3,E2,H1,H2,Pw,F5,D9,C2,Tm.row_eq]
   · have q1:¬ f<0:=by omega
     have q2:200<f:=by omega
     rw [H6 (by omega)]
     simp only [q1,q2,H3,H4,H1,H2,Pw]
 · have q1:f<0:=by omega
   rw [H6 (by omega)]
   simp only [q1,H3,H1,Pw]
theorem Wm (d:DfM) (hd:DfG d):∀ (n:Nat) (t:Tm) (S:List Tm) (R:List (Nat×List Int)) (f:Nat),Gt d.op t->t.nodes<=60->R.length+n=f->f<=200->S.length<=R.length->rn ⟨15,0,1⟩ [.int (f:Int),.sl (d.so.map ai),.sl (d.op.map OpM.row),.sl (d.ru.map RuM.row),.sl (d.st.map StM.row),.int 1,.int t.k,.int t.n,.str t.s,.int (R.length:Int),.sl (t.as.map Tm.row),.sl (R.map oe),.sl (S.map Tm.row)]=some (0,[.int (eg d n t).o,.int (eg d n t).t.k,.int (eg d n t).t.n,.str (eg d n t).t.s,.int ((R.length+(eg d n t).rd.length:Nat):Int),.sl ((eg d n t).t.as.map Tm.row),.sl ((R++(eg d n t).rd).map oe),.sl ((S++t::(eg d n t).st).map Tm.row)]):=by
 intro n;induction n with
 | zero =>
  intro t S R f ht hn hR hf hS;have h1:=r22 d hd t ht hn;have e1:((R.length:Int)=(f:Int)):=by omega
  have b1:F6 (S.length+1) M63=true:=nb (by omega)
  have hi:inb (S.length:Int) (S.length+1)=true:=by simp [inb]; omega
  have ho:=ze (S.map Tm.row) t.k t.n 0 0 t.s ⟨#[]⟩ (t.as.map Tm.row) [];rw [B6] at ho;rw [e15_0_1];cases hx:nx d t with
  | none =>
   rw [hx] at h1;simp only [h1,nrS,nv0,nvS,dvI,dvB,dvS,dvL,B5,J8,H1,B6,E5,C1,C7,D4,b1,hi,B8,ho,jo hx,G9,N2,D5,C2,D1,Tm.row_eq]
  | some x =>
   rw [hx] at h1;simp only [h1,nrS,nv0,nvS,dvI,dvB,dvS,dvL,B5,E1,H1,H2,B6,E5,C1,C7,D4,b1,hi,B8,ho,e1,H3,uu hx,G9,N2,D5,C2,D1,Tm.row_eq]
 | succ n ih =>
  intro t S R f ht hn hR hf hS;have h1:=r22 d hd t ht hn;have e1:¬((R.length:Int)=(f:Int)):=by omega
  have b1:F6 (S.length+1) M63=true:=nb (by omega)
  have b2:F6 (R.length+1) M63=true:=nb (by omega)
  have hi:inb (S.length:Int) (S.length+1)=true:=by simp [inb]; omega
  have ho:=ze (S.map Tm.row) t.k t.n 0 0 t.s ⟨#[]⟩ (t.as.map Tm.row) [];have hw:IntKind.i64.wrap ((R.length:Int)+1)=((R.length+1:Nat):Int):=IntWalk.i64_in _ (by omega)
  rw [B6] at ho;rw [e15_0_1];cases hx:nx d t with
  | none =>
   rw [hx] at h1;simp only [h1,nrS,nv0,nvS,dvI,dvB,dvS,dvL,B5,J8,H1,B6,E5,C1,C7,D4,b1,hi,B8,ho,jo hx,G9,N2,D5,C2,D1,Tm.row_eq]
  | some x =>
   rw [hx] at h1;have h3:=r34 d hd t ht hn x.1 x.2 hx;obtain ⟨_,_,_,_,_,_,_,_,_,_,_,hg,hgn,_⟩:=lq hd ht hn hx;cases hv:(bz d t x.1 x.2).valid with
   | false =>
    rw [hv] at h3;simp only [h1,nrS,h3,nv0,nvS,dvI,dvB,dvS,dvL,B5,E1,J8,H1,H2,B6,E5,C1,C7,D4,b1,hi,B8,ho,e1,H4,zd hx hv,G9,N2,D5,C2,D1,Tm.row_eq]
   | true =>
    rw [hv] at h3;have h5:=ih (bz d t x.1 x.2) (S++[t]) (R++[x]) f hg (aw hv) (by simp; omega) hf (by simp; omega)
    simp only [D5,C2,D1,Tm.row_eq,oe,E5,C1,C7,D4] at h5;have ea:R.length+1+(eg d n (bz d t x.1 x.2)).rd.length=R.length+((eg d n (bz d t x.1 x.2)).rd.length+1):=by omega
    simp only [h1,nrS,h3,nv0,nvS,dvI,dvB,dvS,dvL,B5,E1,H1,H2,B6,E5,C1,C7,D4,b1,b2,hi,hw,B8,ho,e1,H4,h5,Dy hx hv];simp only [D5,C2,D1,Tm.row_eq,oe,E3,F5,D9,C1,ea]
theorem r15 (d:DfM) (hb:DfB d) (t:Tm) (hw:Wt t) (f:Int) (f1:0<=f) (f2:f<=200) (hc:cfg d t=true):rn ⟨15,0,0⟩ [.sl (d.so.map ai),.sl (d.op.map OpM.row),.sl (d.ru.map RuM.row),.sl (d.st.map StM.row),.int t.k,.int t.n,.str t.s,.sl (t.as.map Tm.row),.int f]=some (0,Uq (eg d f.toNat t) t):=by
 obtain ⟨hd,ht,hn60⟩:=Dx hb hw hc;have h2:=r33 t (aq t (by omega))
 have h3:=Wm d hd f.toNat t [] [] f.toNat ht hn60 (by simp) (by omega) (by simp)
 have ef:((f.toNat:Nat):Int)=f:=by omega
 simp only [ef,D1,C7,D4,D9,C6] at h3;rw [e15_0_0];simp only [h2,nv0,nvS,dvI,dvB,dvS,dvL,B5,h3,E2,H1,H2,Uq]
end Go.Q.S
end
section
namespace Go.Q.S
open Go Go.Q Go.Proofs
theorem r7 (d:DfM) (hb:DfB d) (t:Tm) (hw:Wt t) (hn:t.nodes<=2097152) (f:Int):rn ⟨7,0,0⟩ [.sl (d.so.map ai),.sl (d.op.map OpM.row),.sl (d.ru.map RuM.row),.sl (d.st.map StM.row),.int t.k,.int t.n,.str t.s,.sl (t.as.map Tm.row),.int f]=some (0,rtD (du d t f)):=by
 have h1:=r16 d hb t hw hn f;rw [e7_0_0,h1];cases du d t f <;> rfl
theorem r6 (d:DfM) (hb:DfB d) (t:Tm) (hw:Wt t) (hn:t.nodes<=2097152) (f:Int):rn ⟨6,0,0⟩ [.sl (d.so.map ai),.sl (d.op.map OpM.row),.sl (d.ru.map RuM.row),.sl (d.st.map StM.row),.int t.k,.int t.n,.str t.s,.sl (t.as.map Tm.row),.int f]=some (0,rtD (du d t f)):=by
 have h1:=r14 d hb t hw hn f;rw [e6_0_0,h1,Sf];cases hc:(cfg d t&&(decide (0<=f)&&decide (f<=200))) with
 | false=>rfl
 | true =>
  simp only [B7,decide_eq_true_eq] at hc;have h2:=r15 d hb t hw f hc.2.1 hc.2.2 hc.1;simp only [nv0,nvS,dvI,dvB,dvS,dvL,B5,E1,H2,H1,h2,Uq,rtD]
end Go.Q.S
end
section
namespace Go.Q.S
open Go Go.Q Go.Proofs
theorem r52 (vars:List ByteArray) (t:Tm) (h:bb t) (cs:aa) (c:Int):rn ⟨52,0,0⟩ [.sl (vars.map ai),.int t.k,.int t.n,.str t.s,.sl (t.as.map Tm.row),.sl cs,.int c]=some (0,[.int (S.instR vars t c).k,.int (S.instR vars t c).n,.str (S.instR vars t c).s,.bool (isC vars.length c),.sl ((S.instR vars t c).as.map Tm.row)]):=by
 have e1:=r51 vars.length c;have e2:=r113 vars c;have e3:=r112 (cf vars c) (Cc vars c) (jb vars c) t h;have e4:=r111 _ (rm (jb vars c) t h);rw [e52_0_0];simp only [B6,e1,nv0,nvS,dvI,dvB,dvS,dvL,B5];unfold S.instR;cases hc:isC vars.length c with
 | false=>rfl
 | true=>simp only [E1,H2,e2,e3,e4,nv0,nvS,dvI,dvB,dvS,dvL,B5,if_true]; rfl
end Go.Q.S
end
section
namespace Go.Q.S
open Go Go.Q Go.Proofs
theorem Xc (d:DfM) (hb:DfB d) (vars:List ByteArray) (hv:vars.length<=1048576) (hvs:∀ x∈vars,x.size<=maxLen) (t:Tm) (hw:Wt t) (hn:t.nodes<=1048577) (cs:List Int) (hcs:cs.length<=1048576):rn ⟨19,0,0⟩ [.sl (d.so.map ai),.sl (d.op.map OpM.row),.sl (d.ru.map RuM.row),.sl (d.st.map StM.row),.sl (vars.map ai),.int t.k,.int t.n,.str t.s,.sl (t.as.map Tm.row),.sl (cs.map am)]=some (0,[.bool (wx d vars t cs)]):=by
 have hl1:∀ n i,i+n=vars.length->rn ⟨19,0,1⟩ [.sl (vars.map ai),.int (vars.length:Int),.int (i:Int),.sl (d.so.map ai),.sl (d.op.map OpM.row),.sl (d.ru.map RuM.row),.sl (d.st.map StM.row),.sl (vars.map ai),.int t.k,.int t.n,.str t.s,.sl (t.as.map Tm.row),.sl (cs.map am)]=bif (vars.drop i).all mh then some (0,[.sl (d.so.map ai),.sl (d.op.map OpM.row),.sl (d.ru.map RuM.row),.sl (d.st.map StM.row),.sl (vars.map ai),.int t.k,.int t.n,.str t.s,.sl (t.as.map Tm.row),.sl (cs.map am)]) else some (1,[]):=by
  intro n;induction n with
  | zero =>
   intro i hi;obtain rfl:i=vars.length:=by omega
   rw [e19_0_1];simp only [B6,C0,D3,H4,H2,C8,N4,H1]
  | succ n ih =>
   intro i hi;have hlt:i<vars.length:=by omega
   rw [e19_0_1,B9 hlt];have h1:=r46 vars[i] (hvs _ (C3 hlt));simp only [B6,C0,hlt,H3,H1,ax,B8,ab hlt,af hlt (bg (by omega)),ai,nv0,nvS,dvI,dvB,dvS,dvL,B5,h1,ih (i+1) (by omega),J6]
   cases mh vars[i] <;> rfl
 have h1:=hl1 vars.length 0 (by omega)
 simp only [D2,C6] at h1;have hl3:∀ n i,i+n=cs.length->rn ⟨19,0,3⟩ [.sl (cs.map am),.int (cs.length:Int),.int (i:Int),.sl (vars.map ai),.int t.k,.int t.n,.str t.s,.sl (t.as.map Tm.row),.sl (cs.map am)]=bif jh vars.length (prv cs i) (cs.drop i) then some (0,[]) else some (1,[]):=by
  intro n;induction n with
  | zero =>
   intro i hi;obtain rfl:i=cs.length:=by omega
   rw [e19_0_3];simp only [B6,C0,D3,H4,H2,C8,jh,H1]
  | succ n ih =>
   intro i hi;have hlt:i<cs.length:=by omega
   have h1:=r51 vars.length cs[i];have hp:prv cs (i+1)=some cs[i]:=by simp [prv,hlt]
   have h2:=ih (i+1) (by omega)
   rw [hp] at h2;rw [e19_0_3,B9 hlt];simp only [B6,C0,hlt,H3,H1,ax,B8,ab hlt,af hlt (bg (by omega)),am,nv0,nvS,dvI,dvB,dvS,dvL,B5,h1,jh,h2]
   cases isC vars.length cs[i] with
   | false=>rfl
   | true =>
    rcases i with _ | j
    · simp [prv]
    · have hj:j<cs.length:=by omega
      have q1:(0:Int)<((j+1:Nat):Int):=by omega
      have hw:IntKind.i64.wrap (((j+1:Nat):Int)-1)=(j:Int):=by rw [IntWalk.i64_in _ (by omega)]; omega
      simp only [q1,hw,ax,hj,H3,H1,H2,E1,F4,B8,ab hj,am,nv0,nvS,dvI,dvB,dvS,dvL,B5,prv,F2 hj];by_cases q:cs[j+1]<=cs[j] <;> simp [q]
 have h8:=hl3 cs.length 0 (by omega)
 simp only [D2,C6,prv] at h8;have h2:=r44 d hb;have h3:=r45 vars hv;have h4:=r47 t (by omega) hw
 have h5:=r48 t hn vars (bg (by omega))
 have h6:=r50 vars hv;have h7:=r49 (d.so.map ai) d.op hb.op (wv vars) (by unfold wv; rw [B6]; omega) t hw
 rw [e19_0_0];simp only [B6,h2,h3,nv0,nvS,dvI,dvB,dvS,dvL,B5];unfold wx kn;cases d.valid
 · rfl
 · by_cases q1:vars.length<=3
   · have q1':¬((3:Int)<(vars.length:Int)):=by omega
     simp only [q1,q1',H3,H4,H2,F4,E1];cases dis vars
     · rfl
     · simp only [E1,H2,h1,F4]
       cases vars.all mh
       · rfl
       · simp only [H1,nv0,nvS,dvI,dvB,dvS,dvL,B5,E2,H1,H2,h4,h5,h6,h7,F4]
         cases t.valid
         · rfl
         · cases ez t vars
           · rfl
           · by_cases q2:av d.op (wv vars) t=e0
             · simp [q2]
             · simp only [q2,E1,J8,H2,H4,B6,h8,F4]
               cases jh vars.length none cs <;> rfl
   · have q1':((3:Int)<(vars.length:Int)):=by omega
     simp [q1,q1']
theorem Wo (d:DfM) (hb:DfB d) (vars:List ByteArray) (hv:vars.length<=1048576) (hvs:∀ x∈vars,x.size<=maxLen) (t:Tm) (hw:Wt t) (hn:t.nodes<=1048577) (cs:List Int) (hcs:cs.length<=1048576):rn ⟨21,0,0⟩ [.sl (d.so.map ai),.sl (d.op.map OpM.row),.sl (d.ru.map RuM.row),.sl (d.st.map StM.row),.sl (vars.map ai),.int t.k,.int t.n,.str t.s,.sl (t.as.map Tm.row),.sl (cs.map am)]=some (0,[.bool (wx d vars t cs)]):=by
 have hl1:∀ n i,i+n=cs.length->rn ⟨21,0,1⟩ [.int (i:Int),.sl (d.so.map ai),.sl (d.op.map OpM.row),.sl (d.ru.map RuM.row),.sl (d.st.map StM.row),.sl (vars.map ai),.int t.k,.int t.n,.str t.s,.sl (t.as.map Tm.row),.sl (cs.map am)]=bif jh vars.length (prv cs i) (cs.drop i) then some (0,[.sl (d.so.map ai),.sl (d.op.map OpM.row),.sl (d.ru.map RuM.row),.sl (d.st.map StM.row),.sl (vars.map ai),.int t.k,.int t.n,.str t.s,.sl (t.as.map Tm.row),.sl (cs.map am)]) else some (1,[]):=by
  intro n;induction n with
  | zero =>
   intro i hi;obtain rfl:i=cs.length:=by omega
   rw [e21_0_1];simp only [B6,C0,D3,H4,H2,C8,jh,H1]
  | succ n ih =>
   intro i hi;have hlt:i<cs.length:=by omega
   have h1:=r63 vars.length;have hp:prv cs (i+1)=some cs[i]:=by simp [prv,hlt]
   have h2:=ih (i+1) (by omega)
   rw [hp] at h2;rw [e21_0_1,B9 hlt];simp only [B6,C0,hlt,H3,H1,ax,B8,ab hlt,af hlt (bg (by omega)),am,nv0,nvS,dvI,dvB,dvS,dvL,B5,h1,rIn,Wi,jh,h2]
   cases isC vars.length cs[i] with
   | false=>rfl
   | true =>
    rcases i with _ | j
    · simp [prv]
    · have hj:j<cs.length:=by omega
      have q1:(0:Int)<((j+1:Nat):Int):=by omega
      have hw:IntKind.i64.wrap (((j+1:Nat):Int)-1)=(j:Int):=by rw [IntWalk.i64_in _ (by omega)]; omega
      simp only [q1,hw,ax,hj,H3,H1,H2,E1,F4,B8,ab hj,am,nv0,nvS,dvI,dvB,dvS,dvL,B5,prv,F2 hj];by_cases q:cs[j+1]<=cs[j] <;> simp [q]
 have h1:=hl1 cs.length 0 (by omega)
 simp only [D2,C6,prv] at h1;have h2:=r58 d hb;have h3:=r59 vars hv hvs;have h4:=r60 t (by omega) hw
 have hnt:=cg t;have hsl:=gf t.names;have h5:=r62 t hn;have h5':=r61 (cm t.names) vars (by omega) (bg (by omega))
 have h6:=r65 vars hv;have h7:=r64 (d.so.map ai) d.op hb.op (wv vars) (by unfold wv; rw [B6]; omega) t hw
 rw [e21_0_0];simp only [B6,h1,h2,h3,h4,h5,h5',h6,h7,nv0,nvS,dvI,dvB,dvS,dvL,B5,E2,H1,H2];unfold wx kn;cases d.valid <;> try rfl
 cases decide (vars.length<=3) <;> try rfl
 cases dis vars <;> try rfl
 cases vars.all mh <;> try rfl
 cases t.valid <;> try rfl
 have hw:=Kj t vars;cases hw2:ez t vars with
 | true =>
  rw [hw2] at hw;have:(wo (cm t.names) vars).length=0:=hw.2 rfl;cases jh vars.length none cs with
  | false=>simp [this]; rfl
  | true =>
   simp only [this,C6,Int.lt_irrefl,H4,H2,H1,E1,nv0,nvS,dvI,dvB,dvS,dvL,B5,E2,H1,H2,h6,h7];simp
 | false =>
  rw [hw2] at hw;have:¬(wo (cm t.names) vars).length=0:=fun h=>by have:=hw.1 h; simp at this
  have:0<(wo (cm t.names) vars).length:=by omega
  simp [this]
theorem Vm {F:Nat->R} {a b:List ByteArray} (hlen:a.length=b.length) {A B:R} (hs:∀ i (hi:i<a.length),F i=bif decide (a[i]=b[i]'(by omega)) then F (i+1) else B) (he:F a.length=A):F 0=bif decide (a=b) then A else B:=by
 have key:∀ n i,i+n=a.length->F i=bif decide (a.drop i=b.drop i) then A else B:=by
  intro n;induction n with
  | zero =>
   intro i hi;obtain rfl:i=a.length:=by omega
   rw [he,C8,N7 (by omega)]; rfl
  | succ n ih =>
   intro i hi;have hlt:i<a.length:=by omega
   rw [hs i hlt,ih (i+1) (by omega),B9 hlt,B9 (show i<b.length by omega)]
   by_cases h1:a[i]=b[i]'(by omega)
   · simp only [h1,P2.injEq,true_and,H3,H1]
   · simp only [h1,P2.injEq,false_and,H4,H2]
 simpa using key a.length 0 (by omega)
theorem r26 (a b:List ByteArray) (ha:a.length<=1048576):rn ⟨26,0,0⟩ [.sl (a.map ai),.sl (b.map ai)]=some (0,[.bool (Qc a b)]):=by
 rw [e26_0_0];simp only [B6];by_cases hlen:a.length=b.length
 · have hf:=Vm (F:=fun i=>rn ⟨26,0,1⟩ [.sl (a.map ai),.sl (b.map ai),.int (i:Int)]) hlen (A:=some (0,[])) (B:=some (1,[])) (fun i hi=>by
    have hi':i<b.length:=by omega
    rw [e26_0_1];simp only [B6,C0,hi,H3,H1,ax,B8,ab hi,af hi (bg (by omega)),hi',ab hi',ai,nv0,nvS,dvI,dvB,dvS,dvL,B5]
    by_cases h1:a[i]=b[i] <;> simp [h1]) (by
    rw [e26_0_1];simp only [B6,C0,D3,H4,H2,C8])
   simp only [C6] at hf;have e:((a.length:Int)=(b.length:Int)):=by omega
   simp only [e,H3,E1,H2];rw [hf];unfold Qc;cases decide (a=b) <;> rfl
 · have e:¬((a.length:Int)=(b.length:Int)):=by omega
   have:¬ a=b:=fun h=>hlen (by rw [h])
   simp [e,Qc,this]
end Go.Q.S
end
section
namespace Go.Q.S
open Go Go.Q Go.Proofs
theorem atI (t:Tm) (p:List Int) (hp:p.length<=1048576):rn ⟨83,0,0⟩ [.int t.k,.int t.n,.str t.s,.sl (t.as.map Tm.row),.sl (p.map am)]=some (0,[.int (atO t p).k,.int (atO t p).n,.str (atO t p).s,.sl ((atO t p).as.map Tm.row),.bool (atT t p).isSome]):=by
 have key:∀ n i (t:Tm),i+n=p.length->rn ⟨83,0,1⟩ [.sl (p.map am),.int (p.length:Int),.int (i:Int),.int t.k,.int t.n,.str t.s,.sl (t.as.map Tm.row),.int 0,.int 0,.str e0,.sl []]=match atT t (p.drop i) with
  | some u=>some (0,[.int u.k,.int u.n,.str u.s,.sl (u.as.map Tm.row),.int 0,.int 0,.str e0,.sl []])
  | none=>some (1,[.int 0,.int 0,.str e0,.sl []]):=by
  intro n;induction n with
  | zero =>
   intro i t hi;obtain rfl:i=p.length:=by omega
   rw [e83_0_1];simp only [B6,C0,D3,H4,H2,C8,atT]
  | succ n ih =>
   intro i t hi;have hlt:i<p.length:=by omega
   rw [e83_0_1,B9 hlt];generalize hj:p[i]=j;by_cases h0:j<0
   · have e:atT t (j::p.drop (i+1))=none:=by
      simp only [atT];split
      · rw [H6 (by omega)]
      · rfl
     rw [e];simp only [B6,C0,hlt,H3,H1,ax,B8,ab hlt,af hlt (bg (by omega)),hj,am,nv0,nvS,dvI,dvB,dvS,dvL,B5,h0]
   · obtain ⟨m,rfl⟩:∃ m:Nat,j=(m:Int):=⟨j.toNat,by omega⟩
     by_cases hm:m<t.as.length
     · have h2:=ih (i+1) t.as[m] (by omega)
       have e:atT t ((m:Int)::p.drop (i+1))=atT t.as[m] (p.drop (i+1)):=by
        simp only [atT,B8,dif_pos hm];rw [H5 (by omega)]
       have q2:¬((t.as.length:Int)<=(m:Int)):=by omega
       rw [e,<- h2];simp only [B6,C0,hlt,H3,H1,ax,B8,ab hlt,af hlt (bg (by omega)),hm,hj,h0,q2,H4,H2,ab hm,Tm.row_eq,am,nv0,nvS,dvI,dvB,dvS,dvL,B5]
     · have e:atT t ((m:Int)::p.drop (i+1))=none:=by simp only [atT,B8,dif_neg hm]
       have q2:(t.as.length:Int)<=(m:Int):=by omega
       rw [e];simp only [B6,C0,hlt,H3,H1,ax,B8,ab hlt,af hlt (bg (by omega)),hj,h0,q2,H4,H2,am,nv0,nvS,dvI,dvB,dvS,dvL,B5]
 have h1:=key p.length 0 t (by omega)
 simp only [C6,D2] at h1;rw [e83_0_0];simp only [B6,h1];unfold atO;cases atT t p <;> rfl
theorem atS (t:Tm) (hn:t.nodes<=1048577) (p:List Int) (hp:p.length<=1048576):rn ⟨76,0,0⟩ [.int t.k,.int t.n,.str t.s,.sl (t.as.map Tm.row),.sl (p.map am)]=some (0,[.int (atO t p).k,.int (atO t p).n,.str (atO t p).s,.bool (atT t p).isSome,.sl ((atO t p).as.map Tm.row)]):=by
 have key:∀ n i (t:Tm),i+n=p.length->t.nodes<=1048577->rn ⟨76,0,1⟩ [.sl (p.map am),.int (i:Int),.int t.k,.int t.n,.str t.s,.sl (t.as.map Tm.row),.int 0,.int 0,.str e0,.sl []]=match atT t (p.drop i) with
  | some u=>some (0,[.int u.k,.int u.n,.str u.s,.sl (u.as.map Tm.row),.int 0,.int 0,.str e0,.sl []])
  | none=>some (1,[.int 0,.int 0,.str e0,.sl []]):=by
  intro n;induction n with
  | zero =>
   intro i t hi _;obtain rfl:i=p.length:=by omega
   rw [e76_0_1];simp only [B6,C0,D3,H4,H2,C8,atT]
  | succ n ih =>
   intro i t hi hn;have hlt:i<p.length:=by omega
   have hls:=cw (xs:=t.as);have hnd:=Tm.nodes_eq t;have hw:IntKind.i64.wrap ((t.as.length:Int)-1)=(t.as.length:Int)-1:=IntWalk.i64_in _ (by omega)
   rw [e76_0_1,B9 hlt];generalize hj:p[i]=j;by_cases h0:0<=j
   · obtain ⟨m,rfl⟩:∃ m:Nat,j=(m:Int):=⟨j.toNat,by omega⟩
     by_cases hm:m<t.as.length
     · have hmn:=dh (f:=Tm.nodes) (C3 hm)
       have h2:=ih (i+1) t.as[m] (by omega) (by omega)
       have e:atT t ((m:Int)::p.drop (i+1))=atT t.as[m] (p.drop (i+1)):=by
        simp only [atT,B8,dif_pos hm];rw [H5 (by omega)]
       have q2:(m:Int)<=(t.as.length:Int)-1:=by omega
       rw [e,<- h2];simp only [B6,C0,hlt,H3,H1,ax,B8,ab hlt,af hlt (bg (by omega)),hm,hj,hw,rIn,h0,q2,N0,E1,H2,ab hm,Tm.row_eq,am,nv0,nvS,dvI,dvB,dvS,dvL,B5]
     · have e:atT t ((m:Int)::p.drop (i+1))=none:=by simp only [atT,B8,dif_neg hm]
       have q2:¬(m:Int)<=(t.as.length:Int)-1:=by omega
       rw [e];simp only [B6,C0,hlt,H3,H1,ax,B8,ab hlt,af hlt (bg (by omega)),hj,hw,rIn,h0,q2,H4,Bool.and_false,J8,am,nv0,nvS,dvI,dvB,dvS,dvL,B5]
   · have e:atT t (j::p.drop (i+1))=none:=by
      simp only [atT];split <;> simp [h0]
     rw [e];simp only [B6,C0,hlt,H3,H1,ax,B8,ab hlt,af hlt (bg (by omega)),hj,hw,rIn,h0,H4,Bool.false_and,J8,am,nv0,nvS,dvI,dvB,dvS,dvL,B5]
 have h1:=key p.length 0 t (by omega) hn
 simp only [C6,D2] at h1;rw [e76_0_0,h1];unfold atO;cases ha:atT t p with
 | none=>rfl
 | some u =>
  have hun:=ik p t u ha;have h3:=r33 u (aq u (by omega))
  simp only [nv0,nvS,dvI,dvB,dvS,dvL,B5,E2,H1,H2,h3,O6,P6]
theorem Xd:∀ t:Tm,∀ p:List Int,p.length+t.nodes<=1048576->rn ⟨168,0,0⟩ [.int t.k,.int t.n,.str t.s,.sl (t.as.map Tm.row),.sl (p.map am)]=some (0,[.sl ((gb t p).map oi)]):=Tm.ind fun t ih p hp=>by
 have hnd:=Tm.nodes_eq t;have hls:=cw (xs:=t.as);have hlp:∀ n i (acc:List (List Int)),i+n=t.as.length->acc.length+((t.as.drop i).map Tm.nodes).sum<=1048576->rn ⟨168,0,1⟩ [.sl (p.map am),.sl (t.as.map Tm.row),.int (t.as.length:Int),.int (i:Int),.sl (acc.map oi)]=some (0,[.sl ((acc++mv (t.as.drop i) p i).map oi)]):=by
  intro n;induction n with
  | zero =>
   intro i acc hi _;obtain rfl:i=t.as.length:=by omega
   rw [e168_0_1];simp only [B6,C0,D3,H4,H2,C8,mv,G9]
  | succ n ih2 =>
   intro i acc hi hb;have hlt:i<t.as.length:=by omega
   have hm:=C3 hlt;have hmn:=dh (f:=Tm.nodes) hm;have h1:=ih _ hm (p++[(i:Int)]) (by simp; omega)
   have h2:=Ee (p.map am) (by rw [B6]; omega)
   have hl:=oh t.as[i] (p++[(i:Int)]);rw [B9 hlt,C2,J7] at hb;have h3:=ih2 (i+1) (acc++gb t.as[i] (p++[(i:Int)])) (by omega) (by rw [E5,hl]; omega)
   have b1:F6 (p.length+1) M63=true:=nb (by omega)
   have b2:F6 (acc.length+t.as[i].nodes) M63=true:=nb (by omega)
   rw [Bu hlt,<- E3,<- h3];simp only [D5,C2,D1,am] at h1 h2 ⊢;rw [e168_0_1];simp only [B6,C0,hlt,H3,H1,ax,B8,ab hlt,af hlt (bg (by omega)),Tm.row_eq,nv0,nvS,dvI,dvB,dvS,dvL,B5,h2,C1,C7,D4,b1,h1,hl,b2]
 have h1:=hlp t.as.length 0 [p] (by omega) (by simp only [D2,C1,C7]; omega)
 simp only [C6,D2,C2,D1,F5,D9] at h1;rw [e168_0_0,mi];simp only [oi] at h1 ⊢;simp only [B6,h1,nv0,nvS,dvI,dvB,dvS,dvL,B5,E2,H1,H2,C2];rfl
theorem r116 (t:Tm) (h:t.nodes<=1048576):rn ⟨116,0,0⟩ [.int t.k,.int t.n,.str t.s,.sl (t.as.map Tm.row)]=some (0,[.sl ((gb t []).map oi)]):=by
 have h1:=Xd t [] (by simpa using h)
 rw [D1] at h1;rw [e116_0_0];simp only [h1,nv0,nvS,dvI,dvB,dvS,dvL,B5]
theorem Xe:∀ t:Tm,∀ (p:List Int) (acc:List (List Int)),p.length+t.nodes<=1048576->acc.length+t.nodes<=1048576->rn ⟨191,1,0⟩ [.int t.k,.int t.n,.str t.s,.sl (t.as.map Tm.row),.sl (p.map am),.sl (acc.map oi)]=some (0,[.sl ((acc++gb t p).map oi)]):=Tm.ind fun t ih p acc hp ha=>by
 have hnd:=Tm.nodes_eq t;have hls:=cw (xs:=t.as);have hlp:∀ n i (acc:List (List Int)),i+n=t.as.length->acc.length+((t.as.drop i).map Tm.nodes).sum<=1048576->rn ⟨191,1,1⟩ [.sl (p.map am),.int (i:Int),.sl (acc.map oi),.int t.k,.int t.n,.str t.s,.sl (t.as.map Tm.row)]=some (0,[.sl ((acc++mv (t.as.drop i) p i).map oi)]):=by
  intro n;induction n with
  | zero =>
   intro i acc hi _;obtain rfl:i=t.as.length:=by omega
   rw [e191_1_1];simp only [B6,C0,D3,H4,H2,C8,mv,G9]
  | succ n ih2 =>
   intro i acc hi hb;have hlt:i<t.as.length:=by omega
   have hm:=C3 hlt;have hmn:=dh (f:=Tm.nodes) hm;have hl:=oh t.as[i] (p++[(i:Int)]);rw [B9 hlt,C2,J7] at hb;have h1:=ih _ hm (p++[(i:Int)]) acc (by simp; omega) (by omega)
   have h3:=ih2 (i+1) (acc++gb t.as[i] (p++[(i:Int)])) (by omega) (by rw [E5,hl]; omega)
   have b0:F6 (0+p.length) M63=true:=nb (by omega)
   have b1:F6 (p.length+1) M63=true:=nb (by omega)
   rw [Bu hlt,<- E3,<- h3];simp only [D5,C2,D1,am] at h1 ⊢;rw [e191_1_1];simp only [B6,C0,hlt,H3,H1,ax,B8,ab hlt,af hlt (bg (by omega)),Tm.row_eq,nv0,nvS,dvI,dvB,dvS,dvL,B5,C1,C7,D4,b1,b0,D9,h1,show F6 p.length M63=true from by simpa using b0]
 have h1:=hlp t.as.length 0 (acc++[p]) (by omega) (by simp only [D2,E5,C1,C7]; omega)
 have b0:F6 p.length M63=true:=by simpa using nb (n:=p.length) (m:=0) (by omega)
 have b1:F6 (acc.length+1) M63=true:=nb (by omega)
 simp only [C6,D2,D5,C2,D1] at h1;rw [e191_1_0,mi];simp only [oi] at h1 ⊢;simp only [B6,C1,C7,D4,D9,b0,b1,H1,h1,nv0,nvS,dvI,dvB,dvS,dvL,B5,E2,H1,H2,D5,C2,E3,F5];rfl
theorem r173 (t:Tm) (h:t.nodes<=1048576):rn ⟨173,0,0⟩ [.int t.k,.int t.n,.str t.s,.sl (t.as.map Tm.row)]=some (0,[.sl ((gb t []).map oi)]):=by
 have h1:=Xe t [] [] (by simpa using h) (by simpa using h)
 rw [D1,D1] at h1;rw [e173_0_0];simp only [h1,nv0,nvS,dvI,dvB,dvS,dvL,B5,D9]
theorem Lj {F:Nat->R} {a b:List Int} (hlen:a.length=b.length) {A B:R} (hs:∀ i (hi:i<a.length),F i=bif decide (a[i]=b[i]'(by omega)) then F (i+1) else B) (he:F a.length=A):F 0=bif decide (a=b) then A else B:=by
 have key:∀ n i,i+n=a.length->F i=bif decide (a.drop i=b.drop i) then A else B:=by
  intro n;induction n with
  | zero =>
   intro i hi;obtain rfl:i=a.length:=by omega
   rw [he,C8,N7 (by omega)]; rfl
  | succ n ih =>
   intro i hi;have hlt:i<a.length:=by omega
   rw [hs i hlt,ih (i+1) (by omega),B9 hlt,B9 (show i<b.length by omega)]
   by_cases h1:a[i]=b[i]'(by omega)
   · simp only [h1,P2.injEq,true_and,H3,H1]
   · simp only [h1,P2.injEq,false_and,H4,H2]
 simpa using key a.length 0 (by omega)
theorem Sz (a b:List Int) (ha:a.length<=1048576):rn ⟨114,0,0⟩ [.sl (a.map am),.sl (b.map am)]=some (0,[.bool (decide (a=b))]):=by
 rw [e114_0_0];simp only [B6];by_cases hlen:a.length=b.length
 · have hf:=Lj (F:=fun i=>rn ⟨114,0,1⟩ [.sl (a.map am),.sl (b.map am),.int (a.length:Int),.int (i:Int)]) hlen (A:=some (0,[])) (B:=some (1,[])) (fun i hi=>by
    have hi':i<b.length:=by omega
    rw [e114_0_1];simp only [B6,C0,hi,H3,H1,ax,B8,ab hi,af hi (bg (by omega)),hi',ab hi',am,nv0,nvS,dvI,dvB,dvS,dvL,B5]
    by_cases h1:a[i]=b[i] <;> simp [h1]) (by
    rw [e114_0_1];simp only [B6,C0,D3,H4,H2,C8])
   simp only [C6] at hf;have e:((a.length:Int)=(b.length:Int)):=by omega
   simp only [e,H3,E1,H2];rw [<- e,hf];cases decide (a=b) <;> rfl
 · have e:¬((a.length:Int)=(b.length:Int)):=by omega
   have:¬ a=b:=fun h=>hlen (by rw [h])
   simp [e,this]
theorem r55 (r r':Int) (a b:List Int) (ha:a.length<=1048576):rn ⟨55,0,0⟩ [.int r,.sl (a.map am),.int r',.sl (b.map am)]=some (0,[.bool (decide (r=r')&&decide (a=b))]):=by
 have h1:=Sz a b ha;rw [e55_0_0];by_cases e:r=r'
 · simp only [e,H3,H1,h1,nv0,nvS,dvI,dvB,dvS,dvL,B5,F4]
 · simp only [e,H4,H2,Bool.false_and]
theorem r27 (a b:List Int) (ha:a.length<=1048576):rn ⟨27,0,0⟩ [.sl (a.map am),.sl (b.map am)]=some (0,[.bool (decide (a=b))]):=by
 rw [e27_0_0];simp only [B6];by_cases hlen:a.length=b.length
 · have hf:=Lj (F:=fun i=>rn ⟨27,0,1⟩ [.sl (a.map am),.sl (b.map am),.int (i:Int)]) hlen (A:=some (0,[])) (B:=some (1,[])) (fun i hi=>by
    have hi':i<b.length:=by omega
    rw [e27_0_1];simp only [B6,C0,hi,H3,H1,ax,B8,ab hi,af hi (bg (by omega)),hi',ab hi',am,nv0,nvS,dvI,dvB,dvS,dvL,B5]
    by_cases h1:a[i]=b[i] <;> simp [h1]) (by
    rw [e27_0_1];simp only [B6,C0,D3,H4,H2,C8])
   simp only [C6] at hf;have e:((a.length:Int)=(b.length:Int)):=by omega
   simp only [e,H3,E1,H2];rw [hf];cases decide (a=b) <;> rfl
 · have e:¬((a.length:Int)=(b.length:Int)):=by omega
   have:¬ a=b:=fun h=>hlen (by rw [h])
   simp [e,this]
end Go.Q.S
end
section
namespace Go.Q.S
open Go Go.Q Go.Proofs
theorem b63 {n:Nat} (h:n<=4194304):F6 (n+1) M63=true:=nb (by omega)
theorem Qx (l u r t:Tm) (hl:l.nodes<=60) (xr:Int) (xat gs:aa) (nm:ByteArray) (ps:List (List Int)) (hps:ps.length<=60) (hpl:∀ p∈ps,p.length<=1048576):∀ n i (acc:List Bnd),i+n=ps.length->acc.length<=i →
 rn ⟨57,0,1⟩ [.int (ps.length:Int),.int (i:Int),.int t.k,.int t.n,.str t.s,.sl (t.as.map Tm.row),.int xr,.sl xat,.int 0,.int 0,.str e0,.str nm,.int l.k,.int l.n,.str l.s,.sl (l.as.map Tm.row),.int r.k,.int r.n,.str r.s,.sl (r.as.map Tm.row),.sl gs,.int u.k,.int u.n,.str u.s,.sl (u.as.map Tm.row),.sl (acc.map Bnd.row),.sl (ps.map oi),.sl []]=some (0,[.int t.k,.int t.n,.str t.s,.sl (t.as.map Tm.row),.int xr,.sl xat,.int 0,.int 0,.str e0,.str nm,.int l.k,.int l.n,.str l.s,.sl (l.as.map Tm.row),.int r.k,.int r.n,.str r.s,.sl (r.as.map Tm.row),.sl gs,.sl ((acc++(ps.drop i).filterMap (cB1 l u)).map Bnd.row),.sl []]):=by
 intro n;induction n with
 | zero =>
  intro i acc hi _;obtain rfl:i=ps.length:=by omega
  rw [e57_0_1];simp only [B6,C0,D3,H4,H2,C8,List.filterMap_nil,G9]
 | succ n ih =>
  intro i acc hi ha;have hlt:i<ps.length:=by omega
  have hp:=hpl _ (C3 hlt);have h1:=atI l ps[i] hp;have h2:=atI u ps[i] hp;have b1:F6 (acc.length+1) M63=true:=b63 (by omega)
  rw [B9 hlt,List.filterMap_cons,e57_0_1];simp only [B6,C0,hlt,H3,H1,ax,B8,ab hlt,af hlt (bg (by omega)),oi,nv0,nvS,dvI,dvB,dvS,dvL,B5,h1,h2,C1,C7,D4,b1]
  by_cases hk:(atO l ps[i]).k=1
  · have e:cB1 l u ps[i]=some ((atO l ps[i]).s,atO u ps[i]):=by rw [cB1,H5 hk]
    have h3:=ih (i+1) (acc++[((atO l ps[i]).s,atO u ps[i])]) (by omega) (by simp; omega)
    simp only [D5,C2,D1,ii,E3,F5,D9,oi] at h3;simp only [hk,e,H3,H1,E3,D5,C2,F5,D9,ii];exact h3
  · have e:cB1 l u ps[i]=none:=by rw [cB1,H6 hk]
    have h3:=ih (i+1) acc (by omega) (by omega)
    simp only [hk,e,H4,H2];exact h3
theorem Xf (d:DfM) (hd:DfG d) (t:Tm) (hw:Wt t) (hn:t.nodes<=60) (i:Nat) (hi:i<d.ru.length) (p:List Int) (hp:p.length<=60) (hat:∃ u,atT t p=some u):rn ⟨57,0,0⟩ [.sl (d.so.map ai),.sl (d.op.map OpM.row),.sl (d.ru.map RuM.row),.sl (d.st.map StM.row),.int t.k,.int t.n,.str t.s,.sl (t.as.map Tm.row),.int (i:Int),.sl (p.map am)]=some (0,[.int (bT d t (some (i,p))).k,.int (bT d t (some (i,p))).n,.str (bT d t (some (i,p))).s,.bool (db d t (i,p)).valid,.sl ((bT d t (some (i,p))).as.map Tm.row)]):=by
 have hr:=hd.ru (C3 hi);have hln:=aw hr.lv;have hrn:=aw hr.rv;obtain ⟨u,hu⟩:=hat;have hpl:=oh d.ru[i].l [];have hun:=il t p (by decide) hn
 have hbn:∀ b∈ji d.ru[i].l (atO t p),b.2.nodes<=60:=zg (P:=fun t=>t.nodes<=60) fun q=>il (atO t p) q (by decide) hun
 have hbs:∀ b∈ji d.ru[i].l (atO t p),bb b.2:=fun b hb=>aq _ (by have:=hbn b hb; omega)
 have hbl:(ji d.ru[i].l (atO t p)).length<=60:=G8 (List.length_filterMap_le ..) (by omega)
 have a1:=ij (m:=60) (by decide) hbn d.ru[i].r
 have a2:=ia (aS (ji d.ru[i].l (atO t p)) d.ru[i].r);have a3:=lp (rW (aS (ji d.ru[i].l (atO t p)) d.ru[i].r)) p t;have a5:t.nodes*(p.length+1)<=60*61:=T1 hn (by omega)
 have e2:db d t (i,p)=rW (dt t p (aS (ji d.ru[i].l (atO t p)) d.ru[i].r)):=by
  simp only [db,F2 hi]
 obtain ⟨c1,c2⟩:=Ea hd hw hn (x:=(i,p)) hp;have h1:=atI t p (by omega)
 have h2:=r116 d.ru[i].l (by omega)
 have h3:=Qx d.ru[i].l (atO t p) d.ru[i].r t hln (i:Int) (p.map am) (d.ru[i].g.map Gu.row) d.ru[i].n (gb d.ru[i].l []) (by omega) (fun q hq=>by have:=Hd d.ru[i].l [] q hq; simp at this; omega) _ 0 [] (D4 _) (F7 _)
 rw [hpl] at h3;simp only [D2,D9,C6,D1] at h3;have h4:=r112 _ (by omega) hbs d.ru[i].r (aq _ (by omega))
 have h5:=r111 (aS (ji d.ru[i].l (atO t p)) d.ru[i].r) (aq _ (by omega))
 have h6:=r85 (rW (aS (ji d.ru[i].l (atO t p)) d.ru[i].r)) p t u (by omega) (by omega) hu
 have h7:=r111 (dt t p (rW (aS (ji d.ru[i].l (atO t p)) d.ru[i].r))) (aq _ (by omega))
 rw [Qh,<- e2] at h7;have h8:=r47 (db d t (i,p)) (by omega) c1
 unfold ji at h4 h5 h6 h7;rw [e57_0_0];simp only [h1,h2,nv0,nvS,dvI,dvB,dvS,dvL,B5,ax,B6,hi,H3,H1,B8,ab hi,RuM.row,hpl,h3,E2,H1,H2,h4,h5,h6,h7,h8];have hb:bT d t (some (i,p))=if (db d t (i,p)).valid=true then db d t (i,p) else tm0:=rfl
 rw [hb];cases (db d t (i,p)).valid <;> rfl
theorem r135 (l u:Tm) (hl:l.nodes<=60) (hu:u.nodes<=60):rn ⟨135,0,0⟩ [.int l.k,.int l.n,.str l.s,.sl (l.as.map Tm.row),.int u.k,.int u.n,.str u.s,.sl (u.as.map Tm.row)]=some (0,[.sl ((mj l u (gb l []) []).map Bnd.row)]):=by
 have hpl:=oh l [];have hps:∀ p∈gb l [],p.length<=1048576:=fun q hq=>by have:=Hd l [] q hq; simp at this; omega
 have h2:=r173 l (by omega)
 have hlp:∀ n i (acc:List Bnd),i+n=(gb l []).length->acc.length<=i->(∀ b∈acc,bb b.2)->rn ⟨135,0,1⟩ [.int (i:Int),.int l.k,.int l.n,.str l.s,.sl (l.as.map Tm.row),.int u.k,.int u.n,.str u.s,.sl (u.as.map Tm.row),.sl (acc.map Bnd.row),.sl ((gb l []).map oi)]=some (0,[.sl ((mj l u ((gb l []).drop i) acc).map Bnd.row)]):=by
  generalize gb l []=ps at hpl hps ⊢;intro n;induction n with
  | zero =>
   intro i acc hi _ _;obtain rfl:i=ps.length:=by omega
   rw [e135_0_1];simp only [B6,C0,D3,H4,H2,C8,mj]
  | succ n ih =>
   intro i acc hi ha hs;have hlt:i<ps.length:=by omega
   have hp:=hps _ (C3 hlt);have h1:=atS l (by omega) ps[i] hp
   have h2:=atS u (by omega) ps[i] hp
   have b1:F6 (acc.length+1) M63=true:=b63 (by omega)
   have hun:=il u ps[i] (by decide) hu
   rw [B9 hlt,e135_0_1];simp only [mj,B6,C0,hlt,H3,H1,ax,B8,ab hlt,af hlt (bg (by omega)),oi,nv0,nvS,dvI,dvB,dvS,dvL,B5,h1,h2,C1,C7,D4,b1]
   have h4:=ih (i+1) acc (by omega) (by omega) hs
   by_cases hk:(atO l ps[i]).k=1
   · have h3:=ih (i+1) (acc++[((atO l ps[i]).s,atO u ps[i])]) (by omega) (by simp; omega) (fun b hb=>by
      rcases List.mem_append.1 hb with hb | hb
      · exact hs b hb
      · simp only [List.mem_singleton] at hb; subst hb; exact aq _ (show (atO u ps[i]).nodes<=1048577 by omega))
     simp only [D5,C2,D1,ii,oi] at h3 h4;simp only [hk,H3,H1,ii];rcases r172 acc (by omega) (atO l ps[i]).s with ⟨e,h5⟩|⟨j,hj,e,h5⟩
     · simp only [h5,nv0,nvS,dvI,dvB,dvS,dvL,B5,e,show decide ((-1:Int)<0)=true from rfl,H1,and_self,if_true]
       exact h3
     · have q:¬((j:Int)<0):=by omega
       simp only [h5,nv0,nvS,dvI,dvB,dvS,dvL,B5,e,q,H4,H2,reduceCtorEq,and_false,if_false];exact h4
   · simp only [hk,H4,H2,false_and,if_false]
     exact h4
 have h3:=hlp _ 0 [] (D4 _) (F7 _) (by simp)
 simp only [D2,C6,D1] at h3;rw [e135_0_0];simp only [h2,nv0,nvS,dvI,dvB,dvS,dvL,B5,h3,E2,H1,H2]
theorem r72 (d:DfM) (hd:DfG d) (v cs:aa) (t:Tm) (hw:Wt t) (hn:t.nodes<=60) (i:Nat) (hi:i<d.ru.length) (p:List Int) (hp:p.length<=60) (hat:∃ u,atT t p=some u):rn ⟨72,0,0⟩ [.sl (d.so.map ai),.sl (d.op.map OpM.row),.sl (d.ru.map RuM.row),.sl (d.st.map StM.row),.sl v,.int t.k,.int t.n,.str t.s,.sl (t.as.map Tm.row),.sl cs,.int (i:Int),.sl (p.map am)]=some (0,[.int (db d t (i,p)).k,.int (db d t (i,p)).n,.str (db d t (i,p)).s,.sl ((db d t (i,p)).as.map Tm.row)]):=by
 have hr:=hd.ru (C3 hi);have hln:=aw hr.lv;have hrn:=aw hr.rv;obtain ⟨u,hu⟩:=hat;have hpl:=oh d.ru[i].l [];have hun:=il t p (by decide) hn
 have hbn:∀ b∈mj d.ru[i].l (atO t p) (gb d.ru[i].l []) [],b.2.nodes<=60:=Hf (P:=fun t=>t.nodes<=60) (fun q=>il (atO t p) q (by decide) hun) _ [] (by simp)
 have hbs:∀ b∈mj d.ru[i].l (atO t p) (gb d.ru[i].l []) [],bb b.2:=fun b hb=>aq _ (by have:=hbn b hb; omega)
 have hbl:=Hg d.ru[i].l (atO t p) (gb d.ru[i].l []) [];have a1:=ij (m:=60) (by decide) hbn d.ru[i].r
 have a3:=lp (aS (mj d.ru[i].l (atO t p) (gb d.ru[i].l []) []) d.ru[i].r) p t;have a5:t.nodes*(p.length+1)<=60*61:=T1 hn (by omega)
 have e2:db d t (i,p)=rW (dt t p (aS (mj d.ru[i].l (atO t p) (gb d.ru[i].l []) []) d.ru[i].r)):=by
  simp only [db,F2 hi,Sj]
 have h1:=atS t (by omega) p (by omega)
 have h2:=r135 d.ru[i].l (atO t p) hln hun;have h4:=r70 _ (by simp at hbl; omega) hbs d.ru[i].r (aq _ (by omega))
 have h6:=r78 (aS (mj d.ru[i].l (atO t p) (gb d.ru[i].l []) []) d.ru[i].r) (by omega) p t u (by omega) (by omega) hu
 have h7:=r69 (dt t p (aS (mj d.ru[i].l (atO t p) (gb d.ru[i].l []) []) d.ru[i].r)) (aq _ (by omega))
 rw [<- e2] at h7;rw [e72_0_0];simp only [h1,nv0,nvS,dvI,dvB,dvS,dvL,B5,ax,B6,hi,H3,H1,B8,ab hi,RuM.row,h2,h4,h6,h7]
theorem r25 (d:DfM) (hd:DfG d) (v:List ByteArray) (hv:v.length<=1048576) (cs:aa) (t:Tm) (hw:Wt t) (hn:t.nodes<=60) (x:Bk) (hx:BkG d t x):rn ⟨25,0,0⟩ [.sl (d.so.map ai),.sl (d.op.map OpM.row),.sl (d.ru.map RuM.row),.sl (d.st.map StM.row),.sl (v.map ai),.int t.k,.int t.n,.str t.s,.sl (t.as.map Tm.row),.sl cs,.int (bR x),.bool x.isSome,.sl ((bP x).map am)]=some (0,[.int (bK d t x),.int (bR x),.int (bT d t x).k,.int (bT d t x).n,.str (bT d t x).s,.sl ((bP x).map am),.sl (v.map ai),.sl ((bT d t x).as.map Tm.row),.sl []]):=by
 have b1:F6 v.length M63=true:=by simpa using nb (n:=v.length) (m:=0) (by omega)
 have h1:=r33 t (aq t (by omega))
 rw [e25_0_0];simp only [C7,D4,B6,b1,H1,h1,nv0,nvS,dvI,dvB,dvS,dvL,B5,D9];cases x with
 | none=>rfl
 | some y =>
  obtain ⟨y1,y2,y3⟩:=hx.i y rfl;have h2:=r72 d hd (v.map ai) cs t hw hn y.1 y1 y.2 y2 y3;obtain ⟨c1,c2⟩:=Ea hd hw hn (x:=y) y2;have h3:=r60 (db d t y) (by omega) c1
  simp only [bR,bP,P6,E1,H2,h2,nv0,nvS,dvI,dvB,dvS,dvL,B5,h3];have hb:bT d t (some y)=if (db d t y).valid=true then db d t y else tm0:=rfl
  have hk:bK d t (some y)=if (db d t y).valid=true then 2 else 3:=rfl
  rw [hb,hk];cases (db d t y).valid <;> rfl
theorem Ce (out:List (Bk×List Int)) (x:Bk):Hi out x=match (out.drop 0).findIdx? (fun b=>decide (b.1=x)) with | some i=>((0+i:Nat):Int) | none=>-1:=by
 unfold Hi Dz;rw [D2];cases out.findIdx? fun b=>decide (b.1=x) with
 | none=>rfl
 | some i=>simp
theorem Wp (d:DfM) (v:List ByteArray) (t:Tm) (out:List (Bk×List Int)) (ho:out.length<=1048576) (hp:∀ b∈out,(bP b.1).length<=1048576) (x:Bk):∃ w1 w2 w3,rn ⟨53,0,0⟩ [.sl (out.map (bw d v t)),.bool x.isSome,.int (bR x),.sl ((bP x).map am)]=some (0,[.int (Hi out x),.bool w1,.int w2,.sl w3])/\w1=x.isSome/\w2=bR x/\w3=(bP x).map am:=by
 have hlp:∀ n i,i+n=out.length->rn ⟨53,0,1⟩ [.sl (out.map (bw d v t)),.int (out.length:Int),.int (i:Int),.bool x.isSome,.int (bR x),.sl ((bP x).map am)]=match (out.drop i).findIdx? (fun b=>decide (b.1=x)) with
  | some j=>some (1,[.int ((i+j:Nat):Int),.bool x.isSome,.int (bR x),.sl ((bP x).map am)])
  | none=>some (0,[.bool x.isSome,.int (bR x),.sl ((bP x).map am)]):=by
  intro n;induction n with
  | zero =>
   intro i hi;obtain rfl:i=out.length:=by omega
   rw [e53_0_1];simp only [B6,C0,D3,H4,H2,C8,T3]
  | succ n ih =>
   intro i hi;have hlt:i<out.length:=by omega
   have h2:=r55 (bR out[i].1) (bR x) (bP out[i].1) (bP x) (hp _ (C3 hlt));have h1:rn ⟨54,0,0⟩ [.int (bK d t out[i].1),.int (bR out[i].1),.sl ((bP out[i].1).map am),.sl (v.map ai),.int (bT d t out[i].1).k,.int (bT d t out[i].1).n,.str (bT d t out[i].1).s,.sl ((bT d t out[i].1).as.map Tm.row),.sl (out[i].2.map am),.bool x.isSome,.int (bR x),.sl ((bP x).map am)]=some (0,[.bool (decide (out[i].1=x)),.bool x.isSome,.int (bR x),.sl ((bP x).map am)]):=by
    rw [e54_0_0,<- Tt d t];simp only [h2,nv0,nvS,dvI,dvB,dvS,dvL,B5];cases (decide (bK d t out[i].1=1)==!x.isSome) <;> rfl
   rw [Bv _ _ hlt,e53_0_1];simp only [B6,C0,hlt,H3,H1,ax,B8,ab hlt,af hlt (bg (by omega)),bw,nv0,nvS,dvI,dvB,dvS,dvL,B5,h1]
   have h3:=ih (i+1) (by omega)
   cases decide (out[i].1=x) with
   | true=>rfl
   | false =>
    simp only [H2,Q4,if_false,h3];cases (out.drop (i+1)).findIdx? (fun b=>decide (b.1=x)) with
    | none=>rfl
    | some j=>simp only [K7,show i+1+j=i+(j+1) by omega]
 have h1:=hlp out.length 0 (D4 _);rw [C6] at h1;rw [e53_0_0,Ce];simp only [B6,h1];cases (out.drop 0).findIdx? (fun b=>decide (b.1=x)) with
 | none=>exact ⟨_,_,_,rfl,rfl,rfl,rfl⟩
 | some j=>exact ⟨_,_,_,rfl,rfl,rfl,rfl⟩
theorem r24 (d:DfM) (v:List ByteArray) (t:Tm) (out:List (Bk×List Int)) (ho:out.length<=1048576) (hp:∀ b∈out,(bP b.1).length<=1048576) (x:Bk):rn ⟨24,0,0⟩ [.sl (out.map (bw d v t)),.int (bR x),.sl ((bP x).map am),.bool x.isSome]=some (0,[.int (Hi out x)]):=by
 have hlp:∀ n i,i+n=out.length->rn ⟨24,0,1⟩ [.sl (out.map (bw d v t)),.bool x.isSome,.int (i:Int),.int (bR x),.sl ((bP x).map am)]=match (out.drop i).findIdx? (fun b=>decide (b.1=x)) with
  | some j=>some (1,[.int ((i+j:Nat):Int)])
  | none=>some (0,[]):=by
  intro n;induction n with
  | zero =>
   intro i hi;obtain rfl:i=out.length:=by omega
   rw [e24_0_1];simp only [B6,C0,D3,H4,H2,C8,T3]
  | succ n ih =>
   intro i hi;have hlt:i<out.length:=by omega
   have h2:=r27 (bP out[i].1) (bP x) (hp _ (C3 hlt));have h3:=ih (i+1) (by omega)
   have hno:∀ y,x=some y->¬ bK d t (some y)=1:=fun y _=>by
    show ¬(if (db d t y).valid=true then (2:Int) else 3)=1
    by_cases q:(db d t y).valid=true <;> simp [q]
   have h4:(match (match (out.drop (i+1)).findIdx? (fun b=>decide (b.1=x)) with | some j=>some (j+1) | none=>none) with | some j=>some (1,[D.int ((i+j:Nat):Int)]) | none=>some (0,[]))=rn ⟨24,0,1⟩ [.sl (out.map (bw d v t)),.bool x.isSome,.int ((i+1:Nat):Int),.int (bR x),.sl ((bP x).map am)]:=by
    rw [ih (i+1) (by omega)]
    cases (out.drop (i+1)).findIdx? (fun b=>decide (b.1=x)) with
    | none=>rfl
    | some j=>simp only [show i+1+j=i+(j+1) by omega]
   have h5:(bif !(x.isSome==decide (bK d t out[i].1=1)) then bif !x.isSome then some (1,[D.int (i:Int)]) else bif decide (bR out[i].1=bR x) then bif decide (bP out[i].1=bP x) then some (1,[.int (i:Int)]) else rn ⟨24,0,1⟩ [.sl (out.map (bw d v t)),.bool x.isSome,.int ((i+1:Nat):Int),.int (bR x),.sl ((bP x).map am)] else rn ⟨24,0,1⟩ [.sl (out.map (bw d v t)),.bool x.isSome,.int ((i+1:Nat):Int),.int (bR x),.sl ((bP x).map am)] else rn ⟨24,0,1⟩ [.sl (out.map (bw d v t)),.bool x.isSome,.int ((i+1:Nat):Int),.int (bR x),.sl ((bP x).map am)])=match (if decide (out[i].1=x)=true then some 0 else ((out.drop (i+1)).findIdx? (fun b=>decide (b.1=x))).map (·+1)) with
    | some j=>some (1,[.int ((i+j:Nat):Int)])
    | none=>some (0,[]):=by
    rw [<- Tt d t out[i].1 x];rw [<- h4];generalize (out.drop (i+1)).findIdx? (fun b=>decide (b.1=x))=F
    generalize hg:out[i].1=y;cases x with
    | none =>
     cases y with
     | none=>simp [bK,bR,bP]
     | some z =>
      have:¬ bK d t (some z)=1:=by
       show ¬(if (db d t z).valid=true then (2:Int) else 3)=1
       by_cases q:(db d t z).valid=true <;> simp [q]
      simp only [this,H4,Option.isSome_none];cases F <;> rfl
    | some w =>
     cases y with
     | none=>cases F <;> simp [bK]
     | some z =>
      have:¬ bK d t (some z)=1:=by
       show ¬(if (db d t z).valid=true then (2:Int) else 3)=1
       by_cases q:(db d t z).valid=true <;> simp [q]
      simp only [this,H4,P6];cases decide (bR (some z)=bR (some w)) <;> cases decide (bP (some z)=bP (some w)) <;> cases F <;> rfl
   rw [Bv _ _ hlt,<- h5,e24_0_1];simp only [B6,C0,hlt,H3,H1,ax,B8,ab hlt,af hlt (bg (by omega)),bw,nv0,nvS,dvI,dvB,dvS,dvL,B5,h2]
 have h1:=hlp out.length 0 (D4 _);rw [C6] at h1;rw [e24_0_0,Ce];simp only [h1];cases (out.drop 0).findIdx? (fun b=>decide (b.1=x)) <;> rfl
end Go.Q.S
end
section
namespace Go.Q.S
open Go Go.Q Go.Proofs
theorem Ta (d:DfM) (hb:DfB d) (v:List ByteArray) (hv:v.length<=1048576) (t:Tm) (hw:Wt t) (cs:List Int) (hcl:cs.length<=1048576) (hs:kn d v t=true) (hcs:∀ c∈cs,isC v.length c=true):∀ n i (out:List (Bk×List Int)),i+n=cs.length->BrB i out->(∀ b∈out,BkG d t b.1) →
 rn ⟨20,0,1⟩ [.sl (cs.map am),.int (cs.length:Int),.int (i:Int),.sl (d.so.map ai),.sl (d.op.map OpM.row),.sl (d.ru.map RuM.row),.sl (d.st.map StM.row),.sl (v.map ai),.int t.k,.int t.n,.str t.s,.sl (t.as.map Tm.row),.sl (cs.map am),.sl (out.map (bw d v t))]=some (0,[.sl ((brF d v t (cs.drop i) out).map (bw d v t))]):=by
 intro n;induction n with
 | zero =>
  intro i out hi _ _;obtain rfl:i=cs.length:=by omega
  rw [e20_0_1];simp only [B6,C0,D3,H4,H2,C8,brF]
 | succ n ih =>
  intro i out hi ho hk;have hlt:i<cs.length:=by omega
  have hc:=hcs _ (C3 hlt);obtain ⟨hd,htn,hg,hgn,hx⟩:=zh hb hw hs hc;have hol:=ho.l;have hpl:∀ b∈out,(bP b.1).length<=1048576:=fun b hb'=>by
   have h1:=(hk b hb').i;cases hq:b.1 with
   | none=>exact K0 _
   | some y=>have:=(h1 y hq).2.1; show y.2.length<=_; omega
  have h1:=r52 v t (aq t (by omega)) (cs.map am) cs[i]
  rw [Kz hc] at h1;have h2:=r37 d hd (fo v t cs[i]) hg hgn [] (by simp; omega)
  rw [Us,D1] at h2;obtain ⟨w1,w2,w3,h3,rfl,rfl,rfl⟩:=Wp d v t out (by omega) hpl (nx d (fo v t cs[i]))
  have h4:=r56 (v.map ai) (cs.map am) [[.int cs[i]]] t (aq t (by omega)) (by rw [B6]; omega) (by simp)
  have hob:=Je ho (nx d (fo v t cs[i])) cs[i];have hkb:∀ b∈pn out (nx d (fo v t cs[i])) cs[i],BkG d t b.1:=Jh hk hx;rw [B9 hlt,e20_0_1];simp only [brF,B6,C0,hlt,H3,H1,ax,B8,ab hlt,af hlt (bg (by omega)),am,nv0,nvS,dvI,dvB,dvS,dvL,B5,h1,h2,h3]
  have h5:=ih (i+1) _ (by omega) hob hkb
  generalize nx d (fo v t cs[i])=x at hx h3 h5 ⊢;generalize hc0:cs[i]=c at h4 h5 ⊢;cases hf:Dz out x with
  | some j =>
   obtain ⟨hj,hjx⟩:=Lb hf;have e8:(nth (rowAt (out.map (bw d v t)) j) 8).L=out[j].2.map am:=by rw [ab hj]; rfl
   have hset:=Jf (d:=d) (v:=v) (t:=t) hj (out[j].2.map am++[[.int c]]) (out[j].2++[c]) (by simp [am])
   have hlen:=Jg (d:=d) (v:=v) (t:=t) hj;have b1:F6 (out[j].2.length+1) M63=true:=b63 (by have:=ho.c _ (C3 hj); omega)
   have b2:K2 j out.length=true:=F9 hj;have b3:decide ((0:Int)<=(j:Int))=true:=by simp
   rw [Bw hf hj] at h5 ⊢;simp only [Hi,hf,b3,H1,ax,hlen,B6,hj,H3,B8,b2,e8,C1,C7,D4,b1,E2,Bool.and_self,hset,h5]
  | none =>
   have b1:F6 (out.length+1) M63=true:=b63 (by omega)
   rw [By hf] at h5 ⊢;simp only [D5,C2,D1] at h5 ⊢;simp only [Hi,hf,show decide ((0:Int)<=-1)=false from rfl,H2,h4,nv0,nvS,dvI,dvB,dvS,dvL,B5,C1,C7,D4,b1,B6]
   cases x with
   | none=>exact h5
   | some y =>
    obtain ⟨y1,y2,y3⟩:=hx.i y rfl;have h6:=Xf d hd t hw htn y.1 y1 y.2 y2 y3;simp only [bR,bP,P6,H1,h6,nv0,nvS,dvI,dvB,dvS,dvL,B5];have hk1:bK d t (some y)=if (db d t y).valid=true then 2 else 3:=rfl
    cases hvv:(db d t (y.1,y.2)).valid with
    | true =>
     have hk2:bK d t (some y)=2:=by rw [hk1,H5 hvv]
     simp only [bw,hk2] at h5;exact h5
    | false =>
     have hk2:bK d t (some y)=3:=by rw [hk1,H6 (by show ¬(db d t (y.1,y.2)).valid=true; rw [hvv]; simp)]
     simp only [bw,hk2] at h5;exact h5
theorem r20 (s:SyM) (hs:SyB s) (h:wx s.d s.v s.t s.c=true):rn ⟨20,0,0⟩ s.row=some (0,[.sl ((brL s).map (bw s.d s.v s.t))]):=by
 have h':=h;simp only [wx,B7] at h';have h1:=Ta s.d hs.d s.v hs.v s.t hs.w s.c hs.c h'.1 (og s.c none h'.2) s.c.length 0 [] (D4 _) ⟨F7 _,by simp⟩ (by simp)
 simp only [C6,D1,D2] at h1;unfold SyM.row brL;rw [e20_0_0,H5 h];simp only [B6,h1,nv0,nvS,dvI,dvB,dvS,dvL,B5,E2,H1,H2]
theorem r10 (s:SyM) (hs:SyB s):rn ⟨10,0,0⟩ s.row=some (0,[.sl ((brL s).map (bw s.d s.v s.t))]):=by
 have h1:=Xc s.d hs.d s.v hs.v hs.vs s.t hs.w hs.n s.c hs.c;have h2:=r20 s hs;unfold SyM.row at h2 ⊢;rw [e10_0_0];simp only [h1,nv0,nvS,dvI,dvB,dvS,dvL,B5];cases h:wx s.d s.v s.t s.c with
 | false =>
  unfold brL;rw [h]; rfl
 | true=>simp only [E1,H2,h2 h,nv0,nvS,dvI,dvB,dvS,dvL,B5]
theorem Tb (s:SyM) (hs:SyB s) (h:wx s.d s.v s.t s.c=true):∀ n i (out:List (Bk×List Int)),i+n=s.c.length->BrB i out->(∀ b∈out,BkG s.d s.t b.1) →
 rn ⟨11,0,1⟩ [.int (i:Int),.sl (s.d.so.map ai),.sl (s.d.op.map OpM.row),.sl (s.d.ru.map RuM.row),.sl (s.d.st.map StM.row),.sl (s.v.map ai),.int s.t.k,.int s.t.n,.str s.t.s,.sl (s.t.as.map Tm.row),.sl (s.c.map am),.sl (out.map (bw s.d s.v s.t))]=some (0,[.sl ((brF s.d s.v s.t (s.c.drop i) out).map (bw s.d s.v s.t))]):=by
 have h0:=Wo s.d hs.d s.v hs.v hs.vs s.t hs.w hs.n s.c hs.c;have h':=h;simp only [wx,B7] at h';have hcs:=og s.c none h'.2;have hb:=hs.d;have hv:=hs.v;have hw:=hs.w;have hcl:=hs.c;have hsy:=h'.1;obtain ⟨d,v,t,cs⟩:=s;simp only at h h0 hcs hb hv hw hcl hsy ⊢;intro n;induction n with
 | zero =>
  intro i out hi _ _;obtain rfl:i=cs.length:=by omega
  rw [e11_0_1];simp only [B6,C0,D3,H4,H2,C8,brF]
 | succ n ih =>
  intro i out hi ho hk;have hlt:i<cs.length:=by omega
  have hc:=hcs _ (C3 hlt);obtain ⟨hd,htn,hg,hgn,hx⟩:=zh hb hw hsy hc;have hol:=ho.l;have hpl:∀ b∈out,(bP b.1).length<=1048576:=fun b hb'=>by
   have h1:=(hk b hb').i;cases hq:b.1 with
   | none=>exact K0 _
   | some y=>have:=(h1 y hq).2.1; show y.2.length<=_; omega
  have h1:=r23 v t (aq t (by omega)) cs[i]
  have h2:=r22 d hd (fo v t cs[i]) hg hgn;rw [Ut] at h2;have h3:=r24 d v t out (by omega) hpl (nx d (fo v t cs[i]))
  have h4:=r25 d hd v hv (cs.map am) t hw htn (nx d (fo v t cs[i])) hx;have hob:=Je ho (nx d (fo v t cs[i])) cs[i];have hkb:∀ b∈pn out (nx d (fo v t cs[i])) cs[i],BkG d t b.1:=Jh hk hx;have h5:=ih (i+1) _ (by omega) hob hkb
  rw [B9 hlt,e11_0_1];simp only [brF,B6,C0,hlt,H3,H1,ax,B8,ab hlt,af hlt (bg (by omega)),h0,h,am,nv0,nvS,dvI,dvB,dvS,dvL,B5,h1,h2,h3,h4]
  generalize nx d (fo v t cs[i])=x at hx h5 ⊢;generalize hc0:cs[i]=c at h5 ⊢;cases hf:Dz out x with
  | some j =>
   obtain ⟨hj,hjx⟩:=Lb hf;have e8:(nth (rowAt (out.map (bw d v t)) j) 8).L=out[j].2.map am:=by rw [ab hj]; rfl
   have hset:=Jf (d:=d) (v:=v) (t:=t) hj (out[j].2.map am++[[.int c]]) (out[j].2++[c]) (by simp [am])
   have hlen:=Jg (d:=d) (v:=v) (t:=t) hj;have b1:F6 (out[j].2.length+1) M63=true:=b63 (by have:=ho.c _ (C3 hj); omega)
   have b2:K2 j out.length=true:=F9 hj;have b3:¬((j:Int)<0):=by omega
   rw [Bw hf hj] at h5 ⊢;simp only [Hi,hf,b3,H4,H2,H1,ax,hlen,B6,hj,H3,B8,b2,e8,C1,C7,D4,b1,E2,Bool.and_self,hset,h5]
  | none =>
   have b1:F6 (out.length+1) M63=true:=b63 (by omega)
   have hj:out.length<(out++[(x,([]:List Int))]).length:=by simp
   have hr:out.map (bw d v t)++[[.int (bK d t x),.int (bR x),.sl ((bP x).map am),.sl (v.map ai),.int (bT d t x).k,.int (bT d t x).n,.str (bT d t x).s,.sl ((bT d t x).as.map Tm.row),.sl []]]=(out++[(x,([]:List Int))]).map (bw d v t):=by rw [D5]; rfl
   have e0:(out++[(x,([]:List Int))])[out.length]=(x,[]):=by simp
   have e8:(nth (rowAt ((out++[(x,([]:List Int))]).map (bw d v t)) out.length) 8).L=[]:=by rw [ab hj,e0]; rfl
   have hset:=Jf (d:=d) (v:=v) (t:=t) hj [[.int c]] [c] rfl;rw [e0,Qi] at hset;have hlen:=Jg (d:=d) (v:=v) (t:=t) hj;have b2:K2 out.length (out.length+1)=true:=F9 (F7 _);have b4:out.length<out.length+1:=Nat.lt_succ_self _;have b5:F6 1 M63=true:=rfl;rw [By hf] at h5 ⊢;simp only [Hi,hf,show decide ((-1:Int)<0)=true from rfl,H1,hr,ax,hlen,B6,E5,C1,C7,D4,B8,b1,b2,b4,b5,H3,e8,D9,E2,Bool.and_self,hset,h5]
theorem r11 (s:SyM) (hs:SyB s):rn ⟨11,0,0⟩ s.row=some (0,[.sl ((brL s).map (bw s.d s.v s.t))]):=by
 cases h:wx s.d s.v s.t s.c with
 | true =>
  have h1:=Tb s hs h s.c.length 0 [] (D4 _) ⟨F7 _,by simp⟩ (by simp)
  simp only [C6,D1,D2] at h1;unfold SyM.row brL;rw [e11_0_0,H5 h];simp only [h1,nv0,nvS,dvI,dvB,dvS,dvL,B5,E2,H1,H2]
 | false =>
  have h0:=Wo s.d hs.d s.v hs.v hs.vs s.t hs.w hs.n s.c hs.c;have h1:rn ⟨11,0,1⟩ [.int 0,.sl (s.d.so.map ai),.sl (s.d.op.map OpM.row),.sl (s.d.ru.map RuM.row),.sl (s.d.st.map StM.row),.sl (s.v.map ai),.int (s.t).k,.int (s.t).n,.str (s.t).s,.sl ((s.t).as.map Tm.row),.sl (s.c.map am),.sl []]=some (0,[.sl []]):=by
   rw [e11_0_1];simp only [h0,h,nv0,nvS,dvI,dvB,dvS,dvL,B5,H2];cases decide ((0:Int)<((s.c.map am).length:Nat)) <;> rfl
  unfold SyM.row brL;rw [e11_0_0,h];simp only [h1,nv0,nvS,dvI,dvB,dvS,dvL,B5,E2,H1,H2];rfl
end Go.Q.S
end
