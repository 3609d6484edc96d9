/- The functions of this seat, as that machine runs them, part 1. -/
import Derived.Test.YtellefgblgipoaaGreatDoorQC
import Derived.Test.YtellefgblgipoaaGreatDoorfcX2
import Derived.Test.YtellefgblgipoaaGreatDoorMA
set_option linter.unusedVariables false
set_option linter.unusedSimpArgs false
open Bool renaming and_eq_true->B7,not_true->D8,true_and->F6,not_false->J4,and_true->K4,false_eq_true->K6,and_false->R4
open Int renaming toNat_natCast->B9,ofNat_lt->C0,natCast_zero->C6,toNat->O1,tdiv_eq_ediv_of_nonneg->Q3,le_refl->T0
open List renaming length_map->B6,drop_eq_getElem_cons->B8,getElem_mem->C1,map_cons->C2,length_cons->C5,length_nil->C8,drop_length->C9,getD_cons_zero->D1,map_nil->D2,getD_cons_succ->D3,mem_cons->D4,drop_zero->D5,getElem?_eq_some_iff->D6,map_append->E0,append_assoc->E3,nil_append->E4,length_append->E9,length_eq_zero_iff->F1,getElem?_eq_getElem->G7,cons_append->G8,append_nil->J3,sum_cons->J6,all_cons->J8,map_map->K5,all_nil->N5,find?_cons->O2,getD->O5,filter_cons->O9,drop_eq_nil_of_le->P2,drop_succ_cons->P3,getElem_map->Q1,find?_nil->Q4,getElem_cons_zero->R6,any_cons->R8,take_zero->S1,range'->S3,pairwise_iff_getElem->S5
open Nat renaming lt_irrefl->D7,zero_add->E1,beq_refl->E2,beq->E5,ble_eq_true_of_le->F4,le_trans->F5,ble->F9,zero_le->K0,add_zero->N3
open Option renaming bind_some->B5,some->C7,map_some->N2
section
namespace Go.Q.S
open Go Go.Q Go.Proofs
end Go.Q.S
end
section
namespace Go.Q.S
open Go Go.Q Go.Proofs
theorem yk (xs:aa) (h:xs.length<=274877906944):rn ⟨81,0,0⟩ [.sl xs]=some (0,[.sl xs]):=by
 rw [e81_0_0];have hb:F9 (([]:aa).length+xs.length) M63=true:=F4 (by unfold M63; simpa using h)
 rw [hb];cases xs with
 | nil=>simp [qq]
 | cons x xs=>rfl
theorem Lr (xs:aa) (h:xs.length<=274877906944):rn ⟨83,0,0⟩ [.sl xs]=some (0,[.sl xs]):=by
 rw [e83_0_0];have hb:F9 (([]:aa).length+xs.length) M63=true:=F4 (by unfold M63; simpa using h)
 rw [hb];cases xs with
 | nil=>simp [qq]
 | cons x xs=>rfl
theorem Yq (ls:List D):rn ⟨174,0,0⟩ ls=Cc 0 ls:=by rw [rn_eq]; rfl
theorem Yr (ls:List D):rn ⟨175,0,0⟩ ls=Cd 0 ls:=by rw [rn_eq]; rfl
theorem r121 (l:List ByteArray) (h:l.length<=274877906944):rn ⟨121,0,0⟩ [.sl (l.map ai)]=some (0,[.sl ((cu l).map ai)]):=by
 rw [e121_0_0,yk _ (by simpa using h)]
 simp only [vi,xq,xt,xu,xv,xw,xy,xz,ya,yb,mo,mq,mr,mu,mv,mw,my,mz,na,nc,nd,ne,nf,ng,nj,nk,dI,dB,dS,dL,B5];rw [Yq,Py 0 l (by omega)]
 simp only [vi,xq,xt,xu,xv,xw,xy,xz,ya,yb,mo,mq,mr,mu,mv,mw,my,mz,na,nc,nd,ne,nf,ng,nj,nk,dI,dB,dS,dL,B5];rw [Yr,Pz 0 _ (by simp; omega),Ea]
 simp only [vi,xq,xt,xu,xv,xw,xy,xz,ya,yb,mo,mq,mr,mu,mv,mw,my,mz,na,nc,nd,ne,nf,ng,nj,nk,dI,dB,dS,dL,B5];rw [Hd]; rfl
theorem r138 (l:List ByteArray) (h:l.length<=1073741824):rn ⟨138,0,0⟩ [.sl (l.map ai)]=some (0,[.sl ((cu l).map ai)]):=by
 rw [e138_0_0,zz];unfold cu;generalize hks:l.map toK=ks;have hk:ks.length<=1073741824:=by rw [<- hks]; simpa using h
 have hin:∀ (i:Nat) (hi:i<ks.length) (acc:List Ky),acc.length<=1073741824->∀ n a,a+n=acc.length->rn ⟨138,0,3⟩ [.sl (ks.map et),.int (i:Int),.int (a:Int),.sl (acc.map et)] =
  some (0,[.sl (ks.map et),.int (i:Int),.int ((a+ldK ks[i] (acc.drop a):Nat):Int),.sl (acc.map et)]):=by
  intro i hi acc hacc n;induction n with
  | zero =>
   intro a ha;have:a=acc.length:=by omega
   subst this;rw [e138_0_3];simp [ldK]
  | succ n ih =>
   intro a ha;have hlt:a<acc.length:=by omega
   rw [e138_0_3,Qb _ _ _ hlt];simp only [B9,ae hi,ae hlt,B6,ba,hi,hlt,C0,H3,H1,vi,xq,xt,xu,xv,xw,xy,xz,ya,yb,mo,mq,mr,mu,mv,mw,my,mz,na,nc,nd,ne,nf,ng,nj,nk,dI,dB,dS,dL,B5,px,ai,Uf,ag hlt (by unfold maxLen; omega)]
   by_cases hx:acc[a]<ks[i]
   · rw [H5 hx,H7 hx,H1,ih (a+1) (by omega)]
     have e:a+1+ldK ks[i] (acc.drop (a+1))=a+(ldK ks[i] (acc.drop (a+1))+1):=by omega
     rw [e]
   · rw [H6 hx,H8 hx,H2]; rfl
 have hout:∀ n (i:Nat) (acc:List Ky),i+n=ks.length->acc.length<=i->rn ⟨138,0,1⟩ [.sl (ks.map et),.int (i:Int),.sl (acc.map et)]=some (0,[.sl ((qe (ks.drop i) acc).map et)]):=by
  intro n;induction n with
  | zero =>
   intro i acc hi ha;have:i=ks.length:=by omega
   subst this;rw [e138_0_1];simp [qe]
  | succ n ih =>
   intro i acc hi ha;have hlt:i<ks.length:=by omega
   have hI:=hin i hlt acc (by omega) acc.length 0 (by omega)
   rw [D5,E1] at hI;rw [e138_0_1];have hc:ldK ks[i] acc<=acc.length:=Qa _ _;have hz:((0:Nat):Int)=0:=rfl;rw [hz] at hI;rw [hI,B8 hlt];have hins:=Kv ks[i] acc;have hil:(ka ks[i] acc).length<=i+1:=by
    rw [hins]; split
    · omega
    · simp; omega
   have ih':=ih (i+1) (ka ks[i] acc) (by omega) hil
   simp only [B6,C0,hlt,H3,H1,vi,xq,xt,xu,xv,xw,xy,xz,ya,yb,mo,mq,mr,mu,mv,mw,my,mz,na,nc,nd,ne,nf,ng,nj,nk,dI,dB,dS,dL,B5,E2,B9,ag hlt (by unfold maxLen; omega),qe] at ih' ⊢
   rw [<- ih'];generalize hcc:ldK ks[i] acc=c at hc hins ⊢;have h0:(0:Int)<=(c:Int):=by omega
   have h3:(c:Int)<=(acc.length:Int):=by omega
   have hb2:F9 (([]:aa).length+(List.drop (O1 0) (List.take c (acc.map et))).length) M63=true:=F4 (by unfold M63; simp; omega)
   have hb3:∀ z:aa,z.length=1->F9 (([]++List.drop (O1 0) (List.take c (acc.map et)):aa).length+z.length) M63=true:=fun z hz=>F4 (by unfold M63; simp [hz]; omega)
   have hb4:∀ z:aa,z.length=1->F9 ((([]++List.drop (O1 0) (List.take c (acc.map et)):aa)++z).length+(List.drop c (List.take acc.length (acc.map et))).length) M63=true:=fun z hz=>F4 (by unfold M63; simp [hz]; omega)
   have hfin:([]++List.drop (O1 0) (List.take c (acc.map et)):aa)++[et ks[i]]++List.drop c (List.take acc.length (acc.map et))=(List.take c acc++[ks[i]]++List.drop c acc).map et:=by
    simp [List.map_take,List.map_drop,List.take_of_length_le]
   simp only [ae hlt,ba,hlt,H3,H1];by_cases h1:c<acc.length
   · simp only [H7 h1,H1,ae h1,vi,xq,xt,xu,xv,xw,xy,xz,ya,yb,mo,mq,mr,mu,mv,mw,my,mz,na,nc,nd,ne,nf,ng,nj,nk,dI,dB,dS,dL,B5,px,ai,Ue]
     rw [G7 h1] at hins;by_cases h2:acc[c]=ks[i]
     · rw [H7 h2,H1,hins,H5 (by rw [h2])]
     · rw [H8 h2,H2,hins,H6 (by simpa using h2)]
       simp only [h0,h3,T0,H3,Bool.and_self,H1];rw [hb2,hb3 _ rfl,hb4 _ rfl];simp only [H1];rw [<- hfin]; rfl
   · simp only [H8 h1,H2]
     rw [List.getElem?_eq_none (by omega)] at hins
     rw [hins,H6 (by simp)]
     simp only [h0,h3,T0,H3,Bool.and_self,H1];rw [hb2];simp only [H1,ae hlt,vi,xq,xt,xu,xv,xw,xy,xz,ya,yb,mo,mq,mr,mu,mv,mw,my,mz,na,nc,nd,ne,nf,ng,nj,nk,dI,dB,dS,dL,B5,px,ai];rw [hb3 _ rfl,hb4 _ rfl];simp only [H1];rw [<- hfin]; rfl
 have:=hout ks.length 0 [] (by omega) (K0 _)
 simp only [C6,D2,D5] at this;rw [this];simp only [vi,xq,xt,xu,xv,xw,xy,xz,ya,yb,mo,mq,mr,mu,mv,mw,my,mz,na,nc,nd,ne,nf,ng,nj,nk,dI,dB,dS,dL,B5,E2,H1];rw [Hd]
end Go.Q.S
end
section
namespace Go.Q.S
open Go Go.Q Go.Proofs
theorem r82:∀ t:Tm,ax t->rn ⟨82,0,0⟩ [.int t.k,.int t.n,.str t.s,.sl (t.as.map Tm.row)]=some (0,[.int t.k,.int t.n,.str t.s,.sl (t.as.map Tm.row)]):=Tm.ind fun t ih h=>by
 have hl:=h.len;show rn _ _=_
 rw [e82_0_0];have hf:=gy (F:=fun i acc=>rn ⟨82,0,1⟩ [.sl (t.as.map Tm.row),.int ((t.as.map Tm.row)).length,.int (i:Int),.int 0,.int 0,.str (⟨#[]⟩:ByteArray),.int t.k,.int t.n,.str t.s,.sl [],.sl acc]) (xs:=t.as) Tm.row (K:=fun acc=>some (0,[.int (0),.int (0),.str ((⟨#[]⟩:ByteArray)),.int (t.k),.int (t.n),.str (t.s),.sl ([]),.sl (acc)])) (fun i hi acc ha=>?_) (fun acc=>?_)
 · simp only [C6] at hf; rw [hf]; rfl
 · have hc:=ih _ (C1 hi) (h.sub (C1 hi))
   rw [e82_0_1];simp only [B9,ae hi,Tm.row_eq,B6,ba,hi,C0,H3,H1,nth,D1,D3,D.I,D.S,D.L,D.B,ag hi (by unfold maxLen; omega),hc,B5,C5,C8]
   rw [show F9 (acc.length+(0+1)) M63=true from F4 (by unfold M63; omega)]
   rfl
 · skip
   rw [e82_0_1];simp
theorem r55:∀ t:Tm,ax t->rn ⟨55,0,0⟩ [.int t.k,.int t.n,.str t.s,.sl (t.as.map Tm.row)]=some (0,[.int t.k,.int t.n,.str t.s,.sl (t.as.map Tm.row)]):=Tm.ind fun t ih h=>by
 have hl:=h.len;show rn _ _=_
 rw [e55_0_0];have hf:=gy (F:=fun i acc=>rn ⟨55,0,1⟩ [.int (i:Int),.int t.k,.int t.n,.str t.s,.sl (t.as.map Tm.row),.int 0,.int 0,.str (⟨#[]⟩:ByteArray),.sl acc,.sl []]) (xs:=t.as) Tm.row (K:=fun acc=>some (0,[.int (t.k),.int (t.n),.str (t.s),.sl ((t.as.map Tm.row)),.int (0),.int (0),.str ((⟨#[]⟩:ByteArray)),.sl (acc),.sl ([])])) (fun i hi acc ha=>?_) (fun acc=>?_)
 · simp only [C6] at hf; rw [hf]; rfl
 · have hc:=ih _ (C1 hi) (h.sub (C1 hi))
   rw [e55_0_1];simp only [B9,ae hi,Tm.row_eq,B6,ba,hi,C0,H3,H1,nth,D1,D3,D.I,D.S,D.L,D.B,ag hi (by unfold maxLen; omega),hc,B5,C5,C8]
   rw [show F9 (acc.length+(0+1)) M63=true from F4 (by unfold M63; omega)]
   rfl
 · skip
   rw [e55_0_1];simp
theorem r153 (t:Tm):rn ⟨153,0,0⟩ [.int t.k,.int t.n,.str t.s,.sl (t.as.map Tm.row)]=some (0,[.bool (isW t)]):=by
 show rn _ _=_
 rw [e153_0_0];simp only [B6];unfold isW;have e:decide ((t.as.length:Int)=0)=decide (t.as.length=0):=by simp
 rw [e];cases decide (t.k=3) <;> cases decide (0<=t.n) <;> cases decide (t.n<4) <;> cases decide (t.s=⟨#[]⟩) <;> cases decide (t.as.length=0) <;> rfl
theorem r41 (a b c:Int):rn ⟨41,0,0⟩ [.int a,.int b,.int c]=some (0,[.bool (decide (b<=a)&&decide (a<=c))]):=by
 show rn _ _=_
 rw [e41_0_0];cases decide (b<=a) <;> rfl
theorem r113 (t:Tm):rn ⟨113,0,0⟩ [.int t.k,.int t.n,.str t.s,.sl (t.as.map Tm.row)]=some (0,[.bool (isW t)]):=by
 show rn _ _=_
 rw [e113_0_0];have hc:=r41 t.n 0 3;simp only [hc,B5,nth,D1,D3,D.I,D.S,D.L,D.B,B6];unfold isW;have e:decide ((t.as.length:Int)=0)=decide (t.as.length=0):=by simp
 have e2:decide (t.n<=3)=decide (t.n<4):=decide_eq_decide.2 (by omega)
 rw [e,e2];cases decide (t.k=3) <;> cases decide (0<=t.n) <;> cases decide (t.n<4) <;> cases decide (t.s=⟨#[]⟩) <;> cases decide (t.as.length=0) <;> rfl
theorem r119 (s:ByteArray):rn ⟨119,0,0⟩ [.str s]=some (0,[.bool (isB s)]):=by
 show rn _ _=_
 rw [e119_0_0];unfold isB Ch vg Jk;cases decide (s=(⟨#[112,108,117,115]⟩:ByteArray)) <;> cases decide (s=(⟨#[109,105,110,117,115]⟩:ByteArray)) <;> cases decide (s=(⟨#[116,105,109,101,115]⟩:ByteArray)) <;> rfl
theorem r112 (s:ByteArray):rn ⟨112,0,0⟩ [.str s]=some (0,[.bool (isB s)]):=by
 show rn _ _=_
 rw [e112_0_0];unfold isB Ch vg Jk;cases decide (s=(⟨#[112,108,117,115]⟩:ByteArray)) <;> cases decide (s=(⟨#[109,105,110,117,115]⟩:ByteArray)) <;> cases decide (s=(⟨#[116,105,109,101,115]⟩:ByteArray)) <;> rfl
theorem r154 (s:ByteArray) {a b:Int} (ha:0<=a) (ha':a<4) (hb:0<=b) (hb':b<4):rn ⟨154,0,0⟩ [.str s,.int a,.int b]=some (0,[.int (cmp s a b)]):=by
 show rn _ _=_
 rw [e154_0_0];unfold cmp Ch vg;have h4:(!decide ((4:Int)=0))=true:=rfl;simp only [h4,H1];obtain rfl | rfl | rfl | rfl:a=0\/a=1\/a=2\/a=3:=by omega
 all_goals
  obtain rfl | rfl | rfl | rfl:b=0\/b=1\/b=2\/b=3:=by omega
  all_goals
   by_cases h1:s=(⟨#[112,108,117,115]⟩:ByteArray)
   · simp only [h1,H3,H1,if_true]; rfl
   · by_cases h2:s=(⟨#[109,105,110,117,115]⟩:ByteArray)
     · simp only [h1,h2,H3,H4,H1,H2,if_true,if_false]; rfl
     · simp only [h1,h2,H4,H2,if_false]; rfl
theorem r114 (s:ByteArray) {a b:Int} (ha:0<=a) (ha':a<4) (hb:0<=b) (hb':b<4):rn ⟨114,0,0⟩ [.str s,.int a,.int b]=some (0,[.int (cmp s a b)]):=by
 show rn _ _=_
 rw [e114_0_0];unfold cmp Ch vg;have h4:(!decide ((4:Int)=0))=true:=rfl;simp only [h4,H1];obtain rfl | rfl | rfl | rfl:a=0\/a=1\/a=2\/a=3:=by omega
 all_goals
  obtain rfl | rfl | rfl | rfl:b=0\/b=1\/b=2\/b=3:=by omega
  all_goals
   by_cases h1:s=(⟨#[112,108,117,115]⟩:ByteArray)
   · simp only [h1,H3,H1,if_true]; rfl
   · by_cases h2:s=(⟨#[109,105,110,117,115]⟩:ByteArray)
     · simp only [h1,h2,H3,H4,H1,H2,if_true,if_false]; rfl
     · simp only [h1,h2,H4,H2,if_false]; rfl
theorem r155 (l:List Bnd) (hl:l.length<=1048576) (s:ByteArray):rn ⟨155,0,0⟩ [.sl (l.map Bnd.row),.str s]=match bnd l s with
 | some t=>some (0,[.int t.k,.int t.n,.str t.s,.sl (t.as.map Tm.row),.bool true])
 | none=>some (0,[.int 0,.int 0,.str ⟨#[]⟩,.sl [],.bool false]):=by
 show rn _ _=_
 rw [e155_0_0];have hf:=Ci (F:=fun i=>rn ⟨155,0,1⟩ [.str s,.sl (l.map Bnd.row),.int ((l.map Bnd.row)).length,.int (i:Int),.int 0,.int 0,.str (⟨#[]⟩:ByteArray),.sl []]) (xs:=l) (p:=fun b=>decide (b.1=s)) (A:=some (0,[.int (0),.int (0),.str ((⟨#[]⟩:ByteArray)),.sl ([])])) (B:=fun i b=>some (1,[.int b.2.k,.int b.2.n,.str b.2.s,.sl (b.2.as.map Tm.row)])) (fun i hi=>?_) ?_
 · simp only [C6] at hf
   rw [Gy];rcases hf with ⟨h1,h2⟩|⟨i,hi,h1,h2⟩
   · rw [h1,h2]; rfl
   · rw [h1,h2]; rfl
 · skip
   rw [e155_0_1];simp only [B9,ae hi,mf,B6,ba,hi,C0,H3,H1,nth,D1,D3,D.I,D.S,D.L,D.B,ag hi (by unfold maxLen; omega)]
 · skip
   rw [e155_0_1];simp
theorem r168 (l:List Bnd) (hl:l.length<=1048576) (s:ByteArray):(bnd l s=none/\rn ⟨168,0,0⟩ [.sl (l.map Bnd.row),.str s]=some (0,[.int (-1)]))\/∃ i,∃ hi:i<l.length,bnd l s=some l[i].2/\rn ⟨168,0,0⟩ [.sl (l.map Bnd.row),.str s]=some (0,[.int (i:Int)]):=by
 have hf:=Ci (F:=fun i=>rn ⟨168,0,1⟩ [.sl (l.map Bnd.row),.str s,.int (i:Int)]) (xs:=l) (p:=fun b=>decide (b.1=s)) (A:=some (0,[])) (B:=fun i b=>some (1,[.int (i:Int)])) (fun i hi=>?_) ?_
 · simp only [C6] at hf
   rw [Gy];rcases hf with ⟨h1,h2⟩|⟨i,hi,h1,h2⟩
   · left
     refine ⟨by rw [h1]; rfl,?_⟩
     show rn _ _=_
     rw [e168_0_0];rw [h2]; rfl
   · right
     refine ⟨i,hi,by rw [h1]; rfl,?_⟩
     show rn _ _=_
     rw [e168_0_0];rw [h2]; rfl
 · skip
   rw [e168_0_1];simp only [B9,ae hi,mf,B6,ba,hi,C0,H3,H1,nth,D1,D3,D.I,D.S,D.L,D.B,ag hi (by unfold maxLen; omega)]
 · skip
   rw [e168_0_1];simp
theorem r115 (l:List Bnd) (hl:l.length<=1048576) (hs:∀ b∈l,ax b.2) (s:ByteArray):rn ⟨115,0,0⟩ [.sl (l.map Bnd.row),.str s]=match bnd l s with
 | some t=>some (0,[.int t.k,.int t.n,.str t.s,.bool true,.sl (t.as.map Tm.row)])
 | none=>some (0,[.int 0,.int 0,.str ⟨#[]⟩,.bool false,.sl []]):=by
 show rn _ _=_
 rw [e115_0_0];rcases r168 l hl s with ⟨h1,h2⟩|⟨i,hi,h1,h2⟩
 · skip
   rw [h1,h2]; rfl
 · skip
   have hc:=r55 l[i].2 (hs _ (C1 hi));rw [h1,h2];have hn:¬((i:Int)<0):=by omega
   simp only [B5,nth,D1,D3,D.I,D.S,D.L,D.B,B9,ae hi,mf,B6,ba,hi,hn,H3,H4,H1,H2,hc]
theorem r91 (l:List Bnd) (hl:l.length<=1048576) (hs:∀ b∈l,ax b.2):∀ t:Tm,ax t->rn ⟨91,0,0⟩ [.sl (l.map Bnd.row),.int t.k,.int t.n,.str t.s,.sl (t.as.map Tm.row)]=some (0,[.int (aS l t).k,.int (aS l t).n,.str (aS l t).s,.sl ((aS l t).as.map Tm.row)]):=Tm.ind fun t ih h=>by
 have hlt:=h.len;show rn _ _=_
 rw [e91_0_0];have hf:=gy (F:=fun i acc=>rn ⟨91,0,1⟩ [.sl (l.map Bnd.row),.sl (t.as.map Tm.row),.int ((t.as.map Tm.row)).length,.int (i:Int),.int 0,.int 0,.str (⟨#[]⟩:ByteArray),.int t.k,.int t.n,.str t.s,.sl [],.sl acc]) (xs:=t.as) (fun x=>(aS l x).row) (K:=fun acc=>some (0,[.int (0),.int (0),.str ((⟨#[]⟩:ByteArray)),.int (t.k),.int (t.n),.str (t.s),.sl ([]),.sl (acc)])) (fun i hi acc ha=>?_) (fun acc=>?_)
 · simp only [C6] at hf
   have hb:=r155 l hl t.s;rw [ee];by_cases hk:t.k=1
   · rw [H5 hk]
     cases hq:bnd l t.s with
     | none =>
      rw [hq] at hb;simp only at hb;simp only [H7 hk,H1,hb,B5,nth,D1,D3,D.I,D.S,D.L,D.B,H2,hf];simp [Tm.k,Tm.n,Tm.s,Tm.as,Function.comp_def]
     | some u =>
      rw [hq] at hb;simp only at hb;obtain ⟨b,hbm,rfl⟩:=ej hq;have hcp:=r82 b.2 (hs b hbm);simp only [H7 hk,H1,hb,B5,nth,D1,D3,D.I,D.S,D.L,D.B,hcp]
   · rw [H6 hk]
     simp only [H8 hk,H2,hf,B5,nth,D1,D3,D.I,D.S,D.L,D.B];simp [Tm.k,Tm.n,Tm.s,Tm.as,Function.comp_def]
 · have hc:=ih _ (C1 hi) (h.sub (C1 hi))
   rw [e91_0_1];simp only [B9,ae hi,Tm.row_eq,B6,ba,hi,C0,H3,H1,nth,D1,D3,D.I,D.S,D.L,D.B,ag hi (by unfold maxLen; omega),hc,B5,C5,C8]
   rw [show F9 (acc.length+(0+1)) M63=true from F4 (by unfold M63; omega)]
   rfl
 · skip
   rw [e91_0_1];simp
theorem r58 (l:List Bnd) (hl:l.length<=1048576) (hs:∀ b∈l,ax b.2):∀ t:Tm,ax t->rn ⟨58,0,0⟩ [.sl (l.map Bnd.row),.int t.k,.int t.n,.str t.s,.sl (t.as.map Tm.row)]=some (0,[.int (aS l t).k,.int (aS l t).n,.str (aS l t).s,.sl ((aS l t).as.map Tm.row)]):=Tm.ind fun t ih h=>by
 have hlt:=h.len;show rn _ _=_
 rw [e58_0_0];have hf:=gy (F:=fun i acc=>rn ⟨58,0,1⟩ [.sl (l.map Bnd.row),.int (i:Int),.int t.k,.int t.n,.str t.s,.sl (t.as.map Tm.row),.int 0,.int 0,.str (⟨#[]⟩:ByteArray),.int t.k,.int t.n,.str t.s,.sl [],.sl acc]) (xs:=t.as) (fun x=>(aS l x).row) (K:=fun acc=>some (0,[.int (0),.int (0),.str ((⟨#[]⟩:ByteArray)),.int (t.k),.int (t.n),.str (t.s),.sl ([]),.sl (acc)])) (fun i hi acc ha=>?_) (fun acc=>?_)
 · simp only [C6] at hf
   have hb:=r115 l hl hs t.s;rw [ee];by_cases hk:t.k=1
   · rw [H5 hk]
     cases hq:bnd l t.s with
     | none =>
      rw [hq] at hb;simp only at hb;simp only [H7 hk,H1,hb,B5,nth,D1,D3,D.I,D.S,D.L,D.B,H2,hf];simp [Tm.k,Tm.n,Tm.s,Tm.as,Function.comp_def]
     | some u =>
      rw [hq] at hb;simp only at hb;obtain ⟨b,hbm,rfl⟩:=ej hq;have hcp:=r82 b.2 (hs b hbm);simp only [H7 hk,H1,hb,B5,nth,D1,D3,D.I,D.S,D.L,D.B,hcp]
   · rw [H6 hk]
     simp only [H8 hk,H2,hf,B5,nth,D1,D3,D.I,D.S,D.L,D.B];simp [Tm.k,Tm.n,Tm.s,Tm.as,Function.comp_def]
 · have hc:=ih _ (C1 hi) (h.sub (C1 hi))
   rw [e58_0_1];simp only [B9,ae hi,Tm.row_eq,B6,ba,hi,C0,H3,H1,nth,D1,D3,D.I,D.S,D.L,D.B,ag hi (by unfold maxLen; omega),hc,B5,C5,C8]
   rw [show F9 (acc.length+(0+1)) M63=true from F4 (by unfold M63; omega)]
   rfl
 · skip
   rw [e58_0_1];simp
theorem r90:∀ t:Tm,ax t->rn ⟨90,0,0⟩ [.int t.k,.int t.n,.str t.s,.sl (t.as.map Tm.row)]=some (0,[.int (rW t).k,.int (rW t).n,.str (rW t).s,.sl ((rW t).as.map Tm.row)]):=Tm.ind fun t ih h=>by
 have hlt:=h.len;show rn _ _=_
 rw [e90_0_0];have hf:=gy (F:=fun i acc=>rn ⟨90,0,1⟩ [.sl (t.as.map Tm.row),.int ((t.as.map Tm.row)).length,.int (i:Int),.int 0,.int 0,.str (⟨#[]⟩:ByteArray),.int t.k,.int t.n,.str t.s,.sl [],.sl acc]) (xs:=t.as) (fun x=>(rW x).row) (K:=fun acc=>some (0,[.int (0),.int (0),.str ((⟨#[]⟩:ByteArray)),.int (t.k),.int (t.n),.str (t.s),.sl ([]),.sl (acc)])) (fun i hi acc ha=>?_) (fun acc=>?_)
 · simp only [C6] at hf
   have e:t.as.map (fun x=>(rW x).row)=(t.as.map rW).map Tm.row:=by simp [Function.comp_def]
   rw [e] at hf;rw [oq];generalize t.as.map rW=us at hf ⊢;have hB:=r119 t.s;rw [hf];simp only [B5,E2,H1,nth,D1,D3,D.I,D.S,D.L,D.B,hB,B6];by_cases h1:t.k=2
   case neg =>
    simp only [H8 h1,H2];unfold rW1;split
    · rw [H6 (fun h=>h1 h.1)]; rfl
    · rfl
   by_cases h2:t.n=0
   case neg =>
    simp only [H7 h1,H8 h2,H1,H2];unfold rW1;split
    · rw [H6 (fun h=>h2 h.2.1)]; rfl
    · rfl
   simp only [H7 h1,H7 h2,H1];cases h3:isB t.s with
   | false =>
    simp only [H2];unfold rW1;split
    · rw [H6 (fun h=>by rw [h3] at h; exact absurd h.2.2.1 (by decide))]; rfl
    · rfl
   | true =>
    simp only [H1]
    match us with
    | []=>rfl
    | [x]=>rfl
    | x::y::z::zs =>
     have:¬(((x::y::z::zs).length:Int)=2):=by simp only [C5]; omega
     simp only [H8 this,H2];rfl
    | [x,y] =>
     have hx:=r153 x;have hy:=r153 y;have l2:decide ((([x,y]:List Tm).length:Int)=2)=true:=rfl;have i0:inb 0 ([x,y]:List Tm).length=true:=rfl;have i1:inb 1 ([x,y]:List Tm).length=true:=rfl;have r0:rowAt (([x,y]:List Tm).map Tm.row) (O1 0)=x.row:=rfl;have r1:rowAt (([x,y]:List Tm).map Tm.row) (O1 1)=y.row:=rfl;simp only [l2,i0,i1,r0,r1,H1,Tm.row_eq,nth,D1,D3,D.I,D.S,D.L,D.B,hx,hy,B5];unfold rW1;simp only;cases h4:isW x with
     | false=>simp only [H2]; rw [H6 (fun h=>by simp at h)]; rfl
     | true =>
      cases h5:isW y with
      | false=>simp only [H1,H2]; rw [H6 (fun h=>by simp at h)]; rfl
      | true =>
       have b1:=h4;have b2:=h5;simp only [isW,B7,decide_eq_true_eq] at b1 b2;have hcm:=r154 t.s b1.2.1 b1.2.2.1 b2.2.1 b2.2.2.1;simp only [H1,hcm,B5,nth,D1,D3,D.I,D.S,D.L,D.B];rw [H5 ⟨h1,h2,h3,trivial,trivial⟩];rfl
 · have hc:=ih _ (C1 hi) (h.sub (C1 hi))
   rw [e90_0_1];simp only [B9,ae hi,Tm.row_eq,B6,ba,hi,C0,H3,H1,nth,D1,D3,D.I,D.S,D.L,D.B,ag hi (by unfold maxLen; omega),hc,B5,C5,C8]
   rw [show F9 (acc.length+(0+1)) M63=true from F4 (by unfold M63; omega)]
   rfl
 · skip
   rw [e90_0_1];simp
theorem r97 (n:Int):rn ⟨97,0,0⟩ [.int n]=some (0,[.int 3,.int n,.str ⟨#[]⟩,.sl []]):=by
 show rn _ _=_
 rw [e97_0_0]
theorem r57:∀ t:Tm,ax t->rn ⟨57,0,0⟩ [.int t.k,.int t.n,.str t.s,.sl (t.as.map Tm.row)]=some (0,[.int (rW t).k,.int (rW t).n,.str (rW t).s,.sl ((rW t).as.map Tm.row)]):=Tm.ind fun t ih h=>by
 have hlt:=h.len;show rn _ _=_
 rw [e57_0_0];have hf:=gy (F:=fun i acc=>rn ⟨57,0,1⟩ [.int (i:Int),.int t.k,.int t.n,.str t.s,.sl (t.as.map Tm.row),.int 0,.int 0,.str (⟨#[]⟩:ByteArray),.int t.k,.int t.n,.str t.s,.sl [],.sl acc]) (xs:=t.as) (fun x=>(rW x).row) (K:=fun acc=>some (0,[.int (t.k),.int (t.n),.str (t.s),.sl ((t.as.map Tm.row)),.int (0),.int (0),.str ((⟨#[]⟩:ByteArray)),.int (t.k),.int (t.n),.str (t.s),.sl ([]),.sl (acc)])) (fun i hi acc ha=>?_) (fun acc=>?_)
 · simp only [C6] at hf
   have e:t.as.map (fun x=>(rW x).row)=(t.as.map rW).map Tm.row:=by simp [Function.comp_def]
   rw [e] at hf;rw [oq];generalize t.as.map rW=us at hf ⊢;have hB:=r112 t.s;rw [hf];simp only [B5,E2,H1,nth,D1,D3,D.I,D.S,D.L,D.B,hB,B6];by_cases h1:t.k=2
   case neg =>
    simp only [H8 h1,H2];unfold rW1;split
    · rw [H6 (fun h=>h1 h.1)]; rfl
    · rfl
   by_cases h2:t.n=0
   case neg =>
    simp only [H7 h1,H8 h2,H1,H2];unfold rW1;split
    · rw [H6 (fun h=>h2 h.2.1)]; rfl
    · rfl
   simp only [H7 h1,H7 h2,H1];cases h3:isB t.s with
   | false =>
    simp only [H2];unfold rW1;split
    · rw [H6 (fun h=>by rw [h3] at h; exact absurd h.2.2.1 (by decide))]; rfl
    · rfl
   | true =>
    simp only [H1]
    match us with
    | []=>rfl
    | [x]=>rfl
    | x::y::z::zs =>
     have:¬(((x::y::z::zs).length:Int)=2):=by simp only [C5]; omega
     simp only [H8 this,H2];rfl
    | [x,y] =>
     have hx:=r113 x;have hy:=r113 y;have l2:decide ((([x,y]:List Tm).length:Int)=2)=true:=rfl;have i0:inb 0 ([x,y]:List Tm).length=true:=rfl;have i1:inb 1 ([x,y]:List Tm).length=true:=rfl;have r0:rowAt (([x,y]:List Tm).map Tm.row) (O1 0)=x.row:=rfl;have r1:rowAt (([x,y]:List Tm).map Tm.row) (O1 1)=y.row:=rfl;simp only [l2,i0,i1,r0,r1,H1,Tm.row_eq,nth,D1,D3,D.I,D.S,D.L,D.B,hx,hy,B5];unfold rW1;simp only;cases h4:isW x with
     | false=>simp only [H2]; rw [H6 (fun h=>by simp at h)]; rfl
     | true =>
      cases h5:isW y with
      | false=>simp only [H1,H2]; rw [H6 (fun h=>by simp at h)]; rfl
      | true =>
       have b1:=h4;have b2:=h5;simp only [isW,B7,decide_eq_true_eq] at b1 b2;have hcm:=r114 t.s b1.2.1 b1.2.2.1 b2.2.1 b2.2.2.1;have hwd:=r97 (cmp t.s x.n y.n);simp only [H1,hcm,B5,nth,D1,D3,D.I,D.S,D.L,D.B,hwd];rw [H5 ⟨h1,h2,h3,trivial,trivial⟩];rfl
 · have hc:=ih _ (C1 hi) (h.sub (C1 hi))
   rw [e57_0_1];simp only [B9,ae hi,Tm.row_eq,B6,ba,hi,C0,H3,H1,nth,D1,D3,D.I,D.S,D.L,D.B,ag hi (by unfold maxLen; omega),hc,B5,C5,C8]
   rw [show F9 (acc.length+(0+1)) M63=true from F4 (by unfold M63; omega)]
   rfl
 · skip
   rw [e57_0_1];simp
theorem r84 (n:Nat):rn ⟨84,0,0⟩ [.int (n:Int)]=some (0,[.int (ii n)]):=by
 show rn _ _=_
 rw [e84_0_0];have hn:¬((n:Int)<0):=by omega
 simp only [H8 hn,H2];have st:∀ x a:Int,0<x->rn ⟨84,0,1⟩ [.int x,.int a]=rn ⟨84,0,1⟩ [.int (IntKind.i64.wrap (x-1)),.int (IntKind.i64.wrap (a*4))]:=fun x a h=>by
  rw [e84_0_1];rw [H7 h]; rfl
 have fi:∀ a:Int,rn ⟨84,0,1⟩ [.int 0,.int a]=some (0,[.int a]):=fun a=>by
  rw [e84_0_1];rfl
 by_cases h3:3<n
 · rw [tc h3,H7 (by omega:(3:Int)<(n:Int))]; rfl
 · rw [H8 (by omega:¬(3:Int)<(n:Int))]
   simp only [H2];obtain rfl | rfl | rfl | rfl:n=0\/n=1\/n=2\/n=3:=by omega
   · show (rn ⟨84,0,1⟩ [.int 0,.int 1]).bind _=_
     rw [fi]; rfl
   · show (rn ⟨84,0,1⟩ [.int 1,.int 1]).bind _=_
     rw [st 1 1 (by decide)]
     show (rn ⟨84,0,1⟩ [.int 0,.int 4]).bind _=_
     rw [fi]; rfl
   · show (rn ⟨84,0,1⟩ [.int 2,.int 1]).bind _=_
     rw [st 2 1 (by decide)]
     show (rn ⟨84,0,1⟩ [.int 1,.int 4]).bind _=_
     rw [st 1 4 (by decide)]
     show (rn ⟨84,0,1⟩ [.int 0,.int 16]).bind _=_
     rw [fi]; rfl
   · show (rn ⟨84,0,1⟩ [.int 3,.int 1]).bind _=_
     rw [st 3 1 (by decide)]
     show (rn ⟨84,0,1⟩ [.int 2,.int 4]).bind _=_
     rw [st 2 4 (by decide)]
     show (rn ⟨84,0,1⟩ [.int 1,.int 16]).bind _=_
     rw [st 1 16 (by decide)]
     show (rn ⟨84,0,1⟩ [.int 0,.int 64]).bind _=_
     rw [fi]; rfl
theorem r42 (n:Nat):rn ⟨42,0,0⟩ [.int (n:Int)]=some (0,[.int (ii n)]):=by
 show rn _ _=_
 rw [e42_0_0];have hi:=r41 (n:Int) 0 3;simp only [hi,B5,nth,D1,D3,D.I,D.S,D.L,D.B];rw [H7 (by omega:(0:Int)<=(n:Int)),F6]
 have st:∀ x a i:Int,i<x->rn ⟨42,0,1⟩ [.int x,.int a,.int i]=rn ⟨42,0,1⟩ [.int x,.int (IntKind.i64.wrap (a*4)),.int (IntKind.i64.wrap (i+1))]:=fun x a i h=>by
  rw [e42_0_1];rw [H7 h]; rfl
 have fi:∀ x a:Int,rn ⟨42,0,1⟩ [.int x,.int a,.int x]=some (0,[.int a]):=fun x a=>by
  rw [e42_0_1];rw [H8 (by omega)]; rfl
 by_cases h3:3<n
 · rw [tc h3,H8 (by omega:¬(n:Int)<=(3:Int))]; rfl
 · rw [H7 (by omega:(n:Int)<=(3:Int))]
   simp only [D8,H2];obtain rfl | rfl | rfl | rfl:n=0\/n=1\/n=2\/n=3:=by omega
   · show (rn ⟨42,0,1⟩ [.int 0,.int 1,.int 0]).bind _=_
     rw [fi]; rfl
   · show (rn ⟨42,0,1⟩ [.int 1,.int 1,.int 0]).bind _=_
     rw [st 1 1 0 (by decide)]
     show (rn ⟨42,0,1⟩ [.int 1,.int 4,.int 1]).bind _=_
     rw [fi]; rfl
   · show (rn ⟨42,0,1⟩ [.int 2,.int 1,.int 0]).bind _=_
     rw [st 2 1 0 (by decide)]
     show (rn ⟨42,0,1⟩ [.int 2,.int 4,.int 1]).bind _=_
     rw [st 2 4 1 (by decide)]
     show (rn ⟨42,0,1⟩ [.int 2,.int 16,.int 2]).bind _=_
     rw [fi]; rfl
   · show (rn ⟨42,0,1⟩ [.int 3,.int 1,.int 0]).bind _=_
     rw [st 3 1 0 (by decide)]
     show (rn ⟨42,0,1⟩ [.int 3,.int 4,.int 1]).bind _=_
     rw [st 3 4 1 (by decide)]
     show (rn ⟨42,0,1⟩ [.int 3,.int 16,.int 2]).bind _=_
     rw [st 3 16 2 (by decide)]
     show (rn ⟨42,0,1⟩ [.int 3,.int 64,.int 3]).bind _=_
     rw [fi]; rfl
theorem Ys (n:Nat) (c:Int):(decide (0<=c)&&decide (c<=IntKind.i64.wrap (ii n-1)))=isC n c:=by
 have h:=mg n;rw [IntWalk.i64_in _ (by omega)]
 unfold isC;have:decide (c<=ii n-1)=decide (c<ii n):=decide_eq_decide.2 (by omega)
 rw [this]
theorem r65 (n:Nat) (c:Int):rn ⟨65,0,0⟩ [.int (n:Int),.int c]=some (0,[.bool (isC n c)]):=by
 show rn _ _=_
 rw [e65_0_0];have hc:=r84 n;simp only [hc,B5,nth,D1,D3,D.I,D.S,D.L,D.B];unfold isC;cases decide (0<=c) <;> rfl
theorem rv0 (a b c:Int):rn ⟨185,1,0⟩ [.sl []]=some (0,[.sl []]):=by
 show rn _ _=_
 rw [e185_1_0];show (rn ⟨185,1,1⟩ [.int 0,.int (-1),.sl []]).bind _=_
 rw [e185_1_1];rfl
theorem rv1 (a b c:Int):rn ⟨185,1,0⟩ [.sl [[D.int a]]]=some (0,[.sl [[D.int a]]]):=by
 show rn _ _=_
 rw [e185_1_0];show (rn ⟨185,1,1⟩ [.int 0,.int (0),.sl [[D.int a]]]).bind _=_
 rw [e185_1_1];rfl
theorem rv2 (a b c:Int):rn ⟨185,1,0⟩ [.sl [[D.int a],[D.int b]]]=some (0,[.sl [[D.int b],[D.int a]]]):=by
 show rn _ _=_
 rw [e185_1_0];show (rn ⟨185,1,1⟩ [.int 0,.int (1),.sl [[D.int a],[D.int b]]]).bind _=_
 rw [e185_1_1];show (rn ⟨185,1,1⟩ [.int 1,.int 0,.sl [[D.int b],[D.int a]]]).bind _=_
 rw [e185_1_1];rfl
theorem rv3 (a b c:Int):rn ⟨185,1,0⟩ [.sl [[D.int a],[D.int b],[D.int c]]]=some (0,[.sl [[D.int c],[D.int b],[D.int a]]]):=by
 show rn _ _=_
 rw [e185_1_0];show (rn ⟨185,1,1⟩ [.int 0,.int (2),.sl [[D.int a],[D.int b],[D.int c]]]).bind _=_
 rw [e185_1_1];show (rn ⟨185,1,1⟩ [.int 1,.int 1,.sl [[D.int c],[D.int b],[D.int a]]]).bind _=_
 rw [e185_1_1];rfl
theorem r145 (n:Nat) (c:Int):rn ⟨145,0,0⟩ [.int (n:Int),.int c]=some (0,[.sl ((vals n c).map bu)]):=by
 show rn _ _=_
 rw [e145_0_0];have hi:=r65 n c;simp only [hi,B5,nth,D1,D3,D.I,D.S,D.L,D.B];unfold vals;cases hq:isC n c with
 | false=>rfl
 | true =>
  obtain ⟨hn,h0,h64⟩:=mh hq;have e1:c.tdiv 4=c / 4:=Q3 h0;have w1:IntKind.i64.wrap (c.tdiv 4)=c.tdiv 4:=by rw [e1]; exact IntWalk.i64_in _ (by omega)
  have h1:0<=c.tdiv 4:=by rw [e1]; omega
  have e2:(c.tdiv 4).tdiv 4=c / 4 / 4:=by rw [Q3 h1,e1]
  have w2:IntKind.i64.wrap ((c.tdiv 4).tdiv 4)=(c.tdiv 4).tdiv 4:=by rw [e2]; exact IntWalk.i64_in _ (by omega)
  have st:∀ (x a:Int) (acc:aa),0<x->acc.length<=10->rn ⟨145,0,1⟩ [.int x,.int a,.sl acc]=rn ⟨145,0,1⟩ [.int (IntKind.i64.wrap (x-1)),.int (IntKind.i64.wrap (a.tdiv 4)),.sl (acc++[[.int (a.tmod 4)]])]:=fun x a acc h hl=>by
   rw [e145_0_1];rw [H7 h];simp only [C5,C8];rw [show F9 (acc.length+(0+1)) M63=true from F4 (by unfold M63; omega)]
   rfl
  have fi:∀ (a:Int) (acc:aa),rn ⟨145,0,1⟩ [.int 0,.int a,.sl acc]=some (0,[.sl acc]):=fun a acc=>by
   rw [e145_0_1];rfl
  simp only [D8,H2,if_true];obtain rfl | rfl | rfl | rfl:n=0\/n=1\/n=2\/n=3:=by omega
  · show (rn ⟨145,0,1⟩ [.int 0,.int c,.sl []]).bind _=_
    rw [fi];have hv:=rv0 0 0 0;show ((rn ⟨185,1,0⟩ [.sl []]).bind _:R)=_
    rw [hv]; rfl
  · show (rn ⟨145,0,1⟩ [.int 1,.int c,.sl []]).bind _=_
    rw [st 1 c [] (by decide) (by decide)]
    rw [w1];show (rn ⟨145,0,1⟩ [.int 0,.int (c.tdiv 4),.sl [[.int (c.tmod 4)]]]).bind _=_
    rw [fi];have hv:=rv1 (c.tmod 4) 0 0;show ((rn ⟨185,1,0⟩ [.sl [[.int (c.tmod 4)]]]).bind _:R)=_
    rw [hv]; rfl
  · show (rn ⟨145,0,1⟩ [.int 2,.int c,.sl []]).bind _=_
    rw [st 2 c [] (by decide) (by decide),w1]
    show (rn ⟨145,0,1⟩ [.int 1,.int (c.tdiv 4),.sl [[.int (c.tmod 4)]]]).bind _=_
    rw [st 1 _ _ (by decide) (by simp),w2]
    show (rn ⟨145,0,1⟩ [.int 0,.int ((c.tdiv 4).tdiv 4),.sl [[.int (c.tmod 4)],[.int ((c.tdiv 4).tmod 4)]]]).bind _=_
    rw [fi];have hv:=rv2 (c.tmod 4) ((c.tdiv 4).tmod 4) 0;show ((rn ⟨185,1,0⟩ [.sl [[.int (c.tmod 4)],[.int ((c.tdiv 4).tmod 4)]]]).bind _:R)=_
    rw [hv]; rfl
  · show (rn ⟨145,0,1⟩ [.int 3,.int c,.sl []]).bind _=_
    rw [st 3 c [] (by decide) (by decide),w1]
    show (rn ⟨145,0,1⟩ [.int 2,.int (c.tdiv 4),.sl [[.int (c.tmod 4)]]]).bind _=_
    rw [st 2 _ _ (by decide) (by simp),w2]
    show (rn ⟨145,0,1⟩ [.int 1,.int ((c.tdiv 4).tdiv 4),.sl [[.int (c.tmod 4)],[.int ((c.tdiv 4).tmod 4)]]]).bind _=_
    rw [st 1 _ _ (by decide) (by simp)]
    show (rn ⟨145,0,1⟩ [.int 0,.int _,.sl [[.int (c.tmod 4)],[.int ((c.tdiv 4).tmod 4)],[.int (((c.tdiv 4).tdiv 4).tmod 4)]]]).bind _=_
    rw [fi];have hv:=rv3 (c.tmod 4) ((c.tdiv 4).tmod 4) (((c.tdiv 4).tdiv 4).tmod 4);show ((rn ⟨185,1,0⟩ [.sl [[.int (c.tmod 4)],[.int ((c.tdiv 4).tmod 4)],[.int (((c.tdiv 4).tdiv 4).tmod 4)]]]).bind _:R)=_
    rw [hv]; rfl
theorem r116 (n:Nat) (c:Int):rn ⟨116,0,0⟩ [.int (n:Int),.int c]=some (0,[.sl ((vals n c).map bu)]):=by
 show rn _ _=_
 rw [e116_0_0];have hi:=r42 n;have hj:=r41 c 0 (IntKind.i64.wrap (ii n-1));rw [Ys] at hj;simp only [hi,hj,B5,nth,D1,D3,D.I,D.S,D.L,D.B];unfold vals;cases hq:isC n c with
 | false=>rfl
 | true =>
  obtain ⟨hn,h0,h64⟩:=mh hq;have e1:c.tdiv 4=c / 4:=Q3 h0;have w1:IntKind.i64.wrap (c.tdiv 4)=c.tdiv 4:=by rw [e1]; exact IntWalk.i64_in _ (by omega)
  have h1:0<=c.tdiv 4:=by rw [e1]; omega
  have e2:(c.tdiv 4).tdiv 4=c / 4 / 4:=by rw [Q3 h1,e1]
  have w2:IntKind.i64.wrap ((c.tdiv 4).tdiv 4)=(c.tdiv 4).tdiv 4:=by rw [e2]; exact IntWalk.i64_in _ (by omega)
  have fi:∀ (a:Int) (acc:aa),rn ⟨116,0,1⟩ [.int a,.int (-1),.sl acc]=some (0,[.sl acc]):=fun a acc=>by
   rw [e116_0_1];rfl
  simp only [D8,H2,if_true];obtain rfl | rfl | rfl | rfl:n=0\/n=1\/n=2\/n=3:=by omega
  · show (rn ⟨116,0,1⟩ [.int c,.int (-1),.sl []]).bind _=_
    rw [fi]; rfl
  · show (rn ⟨116,0,1⟩ [.int c,.int 0,.sl [[.int 0]]]).bind _=_
    rw [e116_0_1];show (rn ⟨116,0,1⟩ [.int (IntKind.i64.wrap (c.tdiv 4)),.int (-1),.sl [[.int (c.tmod 4)]]]).bind _=_
    rw [fi]; rfl
  · show (rn ⟨116,0,1⟩ [.int c,.int 1,.sl [[.int 0],[.int 0]]]).bind _=_
    rw [e116_0_1];show (rn ⟨116,0,1⟩ [.int (IntKind.i64.wrap (c.tdiv 4)),.int 0,.sl [[.int 0],[.int (c.tmod 4)]]]).bind _=_
    rw [w1];rw [e116_0_1];show (rn ⟨116,0,1⟩ [.int (IntKind.i64.wrap ((c.tdiv 4).tdiv 4)),.int (-1),.sl [[.int ((c.tdiv 4).tmod 4)],[.int (c.tmod 4)]]]).bind _=_
    rw [fi]; rfl
  · show (rn ⟨116,0,1⟩ [.int c,.int 2,.sl [[.int 0],[.int 0],[.int 0]]]).bind _=_
    rw [e116_0_1];show (rn ⟨116,0,1⟩ [.int (IntKind.i64.wrap (c.tdiv 4)),.int 1,.sl [[.int 0],[.int 0],[.int (c.tmod 4)]]]).bind _=_
    rw [w1];rw [e116_0_1];show (rn ⟨116,0,1⟩ [.int (IntKind.i64.wrap ((c.tdiv 4).tdiv 4)),.int 0,.sl [[.int 0],[.int ((c.tdiv 4).tmod 4)],[.int (c.tmod 4)]]]).bind _=_
    rw [w2];rw [e116_0_1];show (rn ⟨116,0,1⟩ [.int _,.int (-1),.sl [[.int (((c.tdiv 4).tdiv 4).tmod 4)],[.int ((c.tdiv 4).tmod 4)],[.int (c.tmod 4)]]]).bind _=_
    rw [fi]; rfl
theorem r86 (vars:List ByteArray) (c:Int):rn ⟨86,0,0⟩ [.sl (vars.map ai),.int c]=some (0,[.sl ((cc vars c).map Bnd.row)]):=by
 show rn _ _=_
 rw [e86_0_0];have hv:=r145 vars.length c;have hle:=ta vars.length c;have hle3:(vals vars.length c).length<=3:=by
  by_cases hC:isC vars.length c=true
  · have:=(mh hC).1; omega
  · unfold vals; rw [H6 hC]; simp
 have hz:(vars.zip (vals vars.length c)).length=(vals vars.length c).length:=by simp; omega
 have hf:=gy (F:=fun i acc=>rn ⟨86,0,1⟩ [.sl (vars.map ai),.int (((vals vars.length c).map bu).length),.int (i:Int),.sl acc,.sl ((vals vars.length c).map bu)]) (xs:=vars.zip (vals vars.length c)) (fun p=>[.str p.1,.int 3,.int p.2,.str ⟨#[]⟩,.sl []]) (K:=fun acc=>some (0,[.sl (acc)])) (fun i hi acc ha=>?_) (fun acc=>?_)
 · simp only [C6] at hf
   simp only [B6];rw [hv];simp only [B5,nth,D1,D3,D.I,D.S,D.L,D.B];first
    | rw [hf]
    | (simp only [B6] at hf ⊢; rw [hf])
   simp only [B5,E2,H1,nth,D1,D3,D.I,D.S,D.L,D.B];unfold cc;rw [K5];rfl
 · have hi1:i<vars.length:=by rw [List.length_zip] at hi; omega
   have hi2:i<(vals vars.length c).length:=by rw [List.length_zip] at hi; omega
   rw [e86_0_1];simp only [B9,ae hi1,ae hi2,ai,bu,B6,ba,hi1,hi2,C0,H3,H1,nth,D1,D3,D.I,D.S,D.L,D.B,ag hi2 (by unfold maxLen; omega),C5,C8,B5]
   rw [show F9 (acc.length+(0+1)) M63=true from F4 (by unfold M63; omega)]
   rw [List.getElem_zip];rfl
 · skip
   rw [e86_0_1];simp [hz]
theorem r59 (vars:List ByteArray) (c:Int):rn ⟨59,0,0⟩ [.sl (vars.map ai),.int c]=some (0,[.sl ((cc vars c).map Bnd.row)]):=by
 show rn _ _=_
 rw [e59_0_0];have hv:=r116 vars.length c;have hle:=ta vars.length c;have hle3:(vals vars.length c).length<=3:=by
  by_cases hC:isC vars.length c=true
  · have:=(mh hC).1; omega
  · unfold vals; rw [H6 hC]; simp
 have hz:(vars.zip (vals vars.length c)).length=(vals vars.length c).length:=by simp; omega
 have hf:=gy (F:=fun i acc=>rn ⟨59,0,1⟩ [.sl (vars.map ai),.int (i:Int),.sl acc,.sl ((vals vars.length c).map bu)]) (xs:=vars.zip (vals vars.length c)) (fun p=>[.str p.1,.int 3,.int p.2,.str ⟨#[]⟩,.sl []]) (K:=fun acc=>some (0,[.sl (acc)])) (fun i hi acc ha=>?_) (fun acc=>?_)
 · simp only [C6] at hf
   simp only [B6];rw [hv];simp only [B5,nth,D1,D3,D.I,D.S,D.L,D.B];first
    | rw [hf]
    | (simp only [B6] at hf ⊢; rw [hf])
   simp only [B5,E2,H1,nth,D1,D3,D.I,D.S,D.L,D.B];unfold cc;rw [K5];rfl
 · have hi1:i<vars.length:=by rw [List.length_zip] at hi; omega
   have hi2:i<(vals vars.length c).length:=by rw [List.length_zip] at hi; omega
   rw [e59_0_1];have hw:=r97 ((vals vars.length c)[i]);simp only [B9,ae hi1,ae hi2,ai,bu,B6,ba,hi1,hi2,C0,H3,H1,nth,D1,D3,D.I,D.S,D.L,D.B,ag hi2 (by unfold maxLen; omega),C5,C8,B5,hw]
   rw [show F9 (acc.length+(0+1)) M63=true from F4 (by unfold M63; omega)]
   rw [List.getElem_zip];rfl
 · skip
   rw [e59_0_1];simp [hz]
theorem r23 (vars:List ByteArray) (t:Tm) (ht:ax t) (c:Int):rn ⟨23,0,0⟩ [.sl (vars.map ai),.int t.k,.int t.n,.str t.s,.sl (t.as.map Tm.row),.int c]=some (0,[.int (jd vars t c).k,.int (jd vars t c).n,.str (jd vars t c).s,.sl ((jd vars t c).as.map Tm.row)]):=by
 show rn _ _=_
 rw [e23_0_0];have hl:(cc vars c).length<=1048576:=by
  have:=ta vars.length c;by_cases hC:isC vars.length c=true
  · have:=(mh hC).1; unfold cc; simp; omega
  · unfold cc vals; rw [H6 hC]; simp
 have h1:=r59 vars c;have h2:=r58 (cc vars c) hl (ja vars c) t ht;have h3:=r57 (aS (cc vars c) t) (sz (ja vars c) t ht);simp only [h1,h2,h3,B5,nth,D1,D3,D.I,D.S,D.L,D.B];rfl
theorem vx (vars:List ByteArray) (c:Int):(cc vars c).length<=1048576:=by
 have:=ta vars.length c;by_cases hC:isC vars.length c=true
 · have:=(mh hC).1; unfold cc; simp; omega
 · unfold cc vals; rw [H6 hC]; simp
theorem r127:∀ t:Tm,t.nodes<=1048577->rn ⟨127,0,0⟩ [.int t.k,.int t.n,.str t.s,.sl (t.as.map Tm.row)]=some (0,[.sl (t.names.map ai)]):=Tm.ind fun t ih h=>by
 have hnd:=Tm.nodes_eq t;have hsm:=Cm t;have hlt:=dr (xs:=t.as);show rn _ _=_
 rw [e127_0_0];have hf:=fun a0:aa=>fun ha0:a0.length<=1=>Hb (F:=fun i acc=>rn ⟨127,0,1⟩ [.sl (t.as.map Tm.row),.int (t.as.map Tm.row).length,.int (i:Int),.sl acc]) (xs:=t.as) (fun a=>a.names.map ai) a0 (K:=fun acc=>some (0,[.sl acc])) (fun i hi acc ha=>by
  have hc:=ih _ (C1 hi) (by have:=dl (f:=Tm.nodes) (C1 hi); omega)
  rw [e127_0_1];simp only [B9,ae hi,Tm.row_eq,B6,ba,hi,C0,H3,H1,nth,D1,D3,D.I,D.S,D.L,D.B,ag hi (by unfold maxLen; omega),B5,hc]
  rw [E9,B6] at ha;rw [show F9 (acc.length+t.as[i].names.length) M63=true from F4 (by unfold M63; omega)]
  rfl) (fun acc=>by
  rw [e127_0_1];simp)
 simp only [C6] at hf;rw [rf];by_cases hk:t.k=1
 · rw [H5 hk,H7 hk]
   have h1:=hf [ai t.s] (by simp)
   simp only [ai] at h1;simp only [H1,ai];rw [h1]; rfl
 · rw [H6 hk,H8 hk]
   have h1:=hf [] (by simp)
   simp only [H2];rw [h1]; rfl
theorem r184 (t:Tm) (h:t.nodes<=1048577):rn ⟨184,0,0⟩ [.int t.k,.int t.n,.str t.s,.sl (t.as.map Tm.row)]=some (0,[.bool (isG t)]):=by
 show rn _ _=_
 rw [e184_0_0];have hc:=r127 t h;simp only [hc,B5,nth,D1,D3,D.I,D.S,D.L,D.B,B6];rfl
theorem r139:∀ t:Tm,∀ a0:aa,t.nodes<=1048577->a0.length+t.names.length<=1073741824->rn ⟨139,1,0⟩ [.int t.k,.int t.n,.str t.s,.sl (t.as.map Tm.row),.sl a0]=some (0,[.sl (a0++t.names.map ai)]):=Tm.ind fun t ih a0 h h'=>by
 have hnd:=Tm.nodes_eq t;have hsm:=Cm t;have hlt:=dr (xs:=t.as);show rn _ _=_
 rw [e139_1_0];have hf:=fun a1:aa=>fun ha1:a1.length+(t.as.flatMap fun a=>a.names.map ai).length<=1073741824=>Hb (F:=fun i acc=>rn ⟨139,1,1⟩ [.int (i:Int),.sl acc,.int t.k,.int t.n,.str t.s,.sl (t.as.map Tm.row)]) (xs:=t.as) (fun a=>a.names.map ai) a1 (K:=fun acc=>some (0,[.sl acc])) (fun i hi acc ha=>by
  rw [E9] at ha;have hx:t.as[i].nodes<=(t.as.map Tm.nodes).sum:=dl (f:=Tm.nodes) (C1 hi);have hc:=ih _ (C1 hi) acc (by omega) (by rw [B6] at ha; omega)
  rw [e139_1_1];simp only [B9,ae hi,Tm.row_eq,B6,ba,hi,C0,H3,H1,nth,D1,D3,D.I,D.S,D.L,D.B,ag hi (by unfold maxLen; omega),B5,hc]) (fun acc=>by
  rw [e139_1_1];simp)
 simp only [C6] at hf;have hle:t.names.length=(if t.k=1 then [ai t.s] else []).length+(t.as.flatMap fun a=>a.names.map ai).length:=by
  rw [<- E9,<- rf,B6]
 rw [rf];by_cases hk:t.k=1
 · rw [H5 hk] at hle
   rw [H5 hk,H7 hk];have h1:=hf (a0++[ai t.s]) (by rw [E9]; omega)
   simp only [ai] at h1;simp only [H1,ai,C5,C8];rw [show F9 (a0.length+(0+1)) M63=true from F4 (by unfold M63; omega)]
   simp only [H1];rw [h1,E3]; rfl
 · rw [H6 hk] at hle
   rw [H6 hk,H8 hk];have h1:=hf a0 (by rw [C8] at hle; omega)
   simp only [H2];rw [h1]; rfl
theorem r146 (t:Tm) (h:t.nodes<=1048577):rn ⟨146,0,0⟩ [.int t.k,.int t.n,.str t.s,.sl (t.as.map Tm.row)]=some (0,[.bool (isG t)]):=by
 show rn _ _=_
 rw [e146_0_0];have hc:=r139 t [] h (by have:=cq t; simp; omega)
 simp only [hc,B5,nth,D1,D3,D.I,D.S,D.L,D.B,E4,B6];rfl
theorem r45:∀ t:Tm,∀ u:Tm,ax t->rn ⟨45,0,0⟩ [.int t.k,.int t.n,.str t.s,.sl (t.as.map Tm.row),.int u.k,.int u.n,.str u.s,.sl (u.as.map Tm.row)]=some (0,[.bool (eqb t.row u.row)]):=Tm.ind fun t ih u h=>by
 have hlt:=h.len;show rn _ _=_
 rw [e45_0_0];have hq:eqb t.row u.row=(decide (t.k=u.k)&&(decide (t.n=u.n)&&(decide (t.s=u.s)&&eqb (t.as.map Tm.row) (u.as.map Tm.row)))):=by
  rw [Tm.row_eq t,Tm.row_eq u];simp only [zq,Dx,Kn,Ko,Pp,K4]
 rw [hq];try simp only [B6]
 by_cases l0:u.as.length≠t.as.length
 · rw [H8 (by omega:¬(t.as.length:Int)=(u.as.length:Int)),Kq (fun h=>l0 (by simpa using h.symm))]
   cases decide (t.k=u.k) <;> cases decide (t.n=u.n) <;> cases decide (t.s=u.s) <;> rfl
 have l0:=Classical.not_not.1 l0;rw [H7 (by omega:(t.as.length:Int)=(u.as.length:Int))]
 have hf:=Kp (F:=fun i=>rn ⟨45,0,1⟩ [.int (i:Int),.int t.k,.int t.n,.str t.s,.sl (t.as.map Tm.row),.int u.k,.int u.n,.str u.s,.sl (u.as.map Tm.row)]) (xs:=t.as.map Tm.row) (ys:=u.as.map Tm.row) (A:=some (0,[])) (B:=some (1,[])) (by simpa using l0) (fun i hi=>?_) ?_
 · simp only [C6] at hf
   rw [hf];cases decide (t.k=u.k) <;> cases decide (t.n=u.n) <;> cases decide (t.s=u.s) <;> cases eqb (t.as.map Tm.row) (u.as.map Tm.row) <;> rfl
 · have hi:i<t.as.length:=by simpa using hi
   have hi2:i<u.as.length:=by omega
   have hc:=ih _ (C1 hi) u.as[i] (h.sub (C1 hi));rw [e45_0_1];rw [Q1,Q1];generalize eqb t.as[i].row u.as[i].row=z at hc ⊢;simp only [B9,ae hi,ae hi2,Tm.row_eq,B6,ba,hi,hi2,C0,H3,H1,nth,D1,D3,D.I,D.S,D.L,D.B,ag hi (by unfold maxLen; omega),B5,hc]
   cases z <;> rfl
 · skip
   rw [e45_0_1];simp
theorem r34:∀ t:Tm,∀ u:Tm,ax t->rn ⟨34,0,0⟩ [.int t.k,.int t.n,.str t.s,.sl (t.as.map Tm.row),.int u.k,.int u.n,.str u.s,.sl (u.as.map Tm.row)]=some (0,[.bool (eqb t.row u.row)]):=Tm.ind fun t ih u h=>by
 have hlt:=h.len;show rn _ _=_
 rw [e34_0_0];have hq:eqb t.row u.row=(decide (t.k=u.k)&&(decide (t.n=u.n)&&(decide (t.s=u.s)&&eqb (t.as.map Tm.row) (u.as.map Tm.row)))):=by
  rw [Tm.row_eq t,Tm.row_eq u];simp only [zq,Dx,Kn,Ko,Pp,K4]
 rw [hq];try simp only [B6]
 have hl:rn ⟨76,0,0⟩ [.sl (t.as.map Tm.row),.sl (u.as.map Tm.row)]=some (0,[.bool (eqb (t.as.map Tm.row) (u.as.map Tm.row))]):=by
  rw [e76_0_0];simp only [B6];by_cases l0:u.as.length≠t.as.length
  · rw [H8 (by omega:¬(t.as.length:Int)=(u.as.length:Int)),Kq (fun h=>l0 (by simpa using h.symm))]; rfl
  have l0:=Classical.not_not.1 l0;rw [H7 (by omega:(t.as.length:Int)=(u.as.length:Int))]
  have hf:=Kp (F:=fun i=>rn ⟨76,0,1⟩ [.sl (u.as.map Tm.row),.sl (t.as.map Tm.row),.int ((t.as.map Tm.row)).length,.int (i:Int)]) (xs:=t.as.map Tm.row) (ys:=u.as.map Tm.row) (A:=some (0,[])) (B:=some (1,[])) (by simpa using l0) (fun i hi=>?_) ?_
  · simp only [C6,B6] at hf
    rw [hf];cases eqb (t.as.map Tm.row) (u.as.map Tm.row) <;> rfl
  · have hi:i<t.as.length:=by simpa using hi
    have hi2:i<u.as.length:=by omega
    have hc:=ih _ (C1 hi) u.as[i] (h.sub (C1 hi));rw [e76_0_1];rw [Q1,Q1];generalize eqb t.as[i].row u.as[i].row=z at hc ⊢;simp only [B9,ae hi,ae hi2,Tm.row_eq,B6,ba,hi,hi2,C0,H3,H1,nth,D1,D3,D.I,D.S,D.L,D.B,ag hi (by unfold maxLen; omega),B5,hc]
    cases z <;> rfl
  · skip
    rw [e76_0_1];simp
 simp only [hl,B5,nth,D1,D3,D.I,D.S,D.L,D.B];cases decide (t.k=u.k) <;> cases decide (t.n=u.n) <;> cases decide (t.s=u.s) <;> rfl
theorem r143 (g:Gu) (h:g.ok):rn ⟨143,0,0⟩ [.int g.k,.int g.l.k,.int g.l.n,.str g.l.s,.sl (g.l.as.map Tm.row),.int g.r.k,.int g.r.n,.str g.r.s,.sl (g.r.as.map Tm.row)]=some (0,[.bool (holds g)]):=by
 show rn _ _=_
 rw [e143_0_0];obtain ⟨hl,hr⟩:=h;have sl:=aq _ hl;have sr:=aq _ hr;have hl':=F5 (gz g.l) hl;have hr':=F5 (gz g.r) hr;have a1:=r184 g.l hl;have a2:=r184 g.r hr;have b1:=r90 g.l sl;have b2:=r90 g.r sr;have c1:=r34 (rW g.l) (rW g.r) (Gx _ sl);have d1:=r153 (rW g.l);have d2:=r153 (rW g.r);simp only [a1,a2,b1,b2,c1,d1,d2,B5,nth,D1,D3,D.I,D.S,D.L,D.B];unfold holds;cases isG g.l
 · rfl
 cases isG g.r
 · rfl
 simp only [D8,H2,F6];by_cases k1:g.k=1
 · rw [H5 k1,H7 k1]; rfl
 rw [H6 k1,H8 k1];by_cases k2:g.k=2
 · rw [H5 k2,H7 k2]; rfl
 rw [H6 k2,H8 k2];by_cases k3:g.k=3
 · rw [H5 k3,H7 k3]
   cases isW (rW g.l) <;> cases isW (rW g.r) <;> rfl
 · rw [H6 k3,H8 k3]; rfl
theorem r110 (g:Gu) (h:g.ok):rn ⟨110,0,0⟩ [.int g.k,.int g.l.k,.int g.l.n,.str g.l.s,.sl (g.l.as.map Tm.row),.int g.r.k,.int g.r.n,.str g.r.s,.sl (g.r.as.map Tm.row)]=some (0,[.bool (holds g)]):=by
 show rn _ _=_
 rw [e110_0_0];obtain ⟨hl,hr⟩:=h;have sl:=aq _ hl;have sr:=aq _ hr;have hl':=F5 (gz g.l) hl;have hr':=F5 (gz g.r) hr;have a1:=r146 (rW g.l) hl';have a2:=r146 (rW g.r) hr';have b1:=r57 g.l sl;have b2:=r57 g.r sr;have c1:=r45 (rW g.l) (rW g.r) (Gx _ sl);have d1:=r113 (rW g.l);have d2:=r113 (rW g.r);simp only [a1,a2,b1,b2,c1,d1,d2,B5,nth,D1,D3,D.I,D.S,D.L,D.B];unfold holds;rw [Pw,Pw];cases isG g.l
 · rfl
 cases isG g.r
 · rfl
 simp only [D8,H2,F6];by_cases k1:g.k=1
 · rw [H5 k1,H7 k1]; rfl
 rw [H6 k1,H8 k1];by_cases k2:g.k=2
 · rw [H5 k2,H7 k2]; rfl
 rw [H6 k2,H8 k2];by_cases k3:g.k=3
 · rw [H5 k3,H7 k3]
   cases isW (rW g.l) <;> cases isW (rW g.r) <;> rfl
 · rw [H6 k3,H8 k3]; rfl
theorem r144 (l:List Bnd) (hl:l.length<=1048576) (hs:∀ b∈l,ax b.2) (g:Gu) (h:g.ok):rn ⟨144,0,0⟩ [.sl (l.map Bnd.row),.int g.k,.int g.l.k,.int g.l.n,.str g.l.s,.sl (g.l.as.map Tm.row),.int g.r.k,.int g.r.n,.str g.r.s,.sl (g.r.as.map Tm.row)]=some (0,[.int (dn l g).k,.int (dn l g).l.k,.int (dn l g).l.n,.str (dn l g).l.s,.int (dn l g).r.k,.int (dn l g).r.n,.str (dn l g).r.s,.sl ((dn l g).l.as.map Tm.row),.sl ((dn l g).r.as.map Tm.row)]):=by
 show rn _ _=_
 rw [e144_0_0];have a1:=r91 l hl hs g.l (aq _ h.1);have a2:=r91 l hl hs g.r (aq _ h.2);simp only [a1,a2,B5,nth,D1,D3,D.I,D.S,D.L,D.B];rfl
theorem r111 (l:List Bnd) (hl:l.length<=1048576) (hs:∀ b∈l,ax b.2) (g:Gu) (h:g.ok):rn ⟨111,0,0⟩ [.sl (l.map Bnd.row),.int g.k,.int g.l.k,.int g.l.n,.str g.l.s,.sl (g.l.as.map Tm.row),.int g.r.k,.int g.r.n,.str g.r.s,.sl (g.r.as.map Tm.row)]=some (0,[.int (dn l g).k,.int (dn l g).l.k,.int (dn l g).l.n,.str (dn l g).l.s,.int (dn l g).r.k,.int (dn l g).r.n,.str (dn l g).r.s,.sl ((dn l g).l.as.map Tm.row),.sl ((dn l g).r.as.map Tm.row)]):=by
 show rn _ _=_
 rw [e111_0_0];have a1:=r58 l hl hs g.l (aq _ h.1);have a2:=r58 l hl hs g.r (aq _ h.2);simp only [a1,a2,B5,nth,D1,D3,D.I,D.S,D.L,D.B];rfl
theorem Es (g:Gu):g.row=[.int g.k,.int g.l.k,.int g.l.n,.str g.l.s,.sl (g.l.as.map Tm.row),.int g.r.k,.int g.r.n,.str g.r.s,.sl (g.r.as.map Tm.row)]:=rfl
theorem r85 (l:List Bnd) (hl:l.length<=1048576) (hs:∀ b∈l,b.2.nodes=1) (gs:List Gu) (hg:gs.length<=1048576) (h:∀ g∈gs,g.ok):rn ⟨85,0,0⟩ [.sl (l.map Bnd.row),.sl (gs.map Gu.row)]=some (0,[.bool (gs.all fun g=>holds (dn l g))]):=by
 have hss:∀ b∈l,ax b.2:=fun b hb=>aq _ (by rw [hs b hb]; decide)
 show rn _ _=_
 rw [e85_0_0];have hf:=Ha (F:=fun i=>rn ⟨85,0,1⟩ [.sl (l.map Bnd.row),.sl (gs.map Gu.row),.int (gs.map Gu.row).length,.int (i:Int)]) (xs:=gs) (p:=fun g=>holds (dn l g)) (A:=some (0,[])) (B:=some (1,[])) (fun i hi=>?_) ?_
 · simp only [C6] at hf
   rw [hf];cases gs.all fun g=>holds (dn l g) <;> rfl
 · have hgi:=h _ (C1 hi)
   have a1:=r144 l hl hss gs[i] hgi;have a2:=r143 (dn l gs[i]) (Kt hs hgi);rw [e85_0_1];simp only [B9,ae hi,Es,B6,ba,hi,C0,H3,H1,nth,D1,D3,D.I,D.S,D.L,D.B,ag hi (by unfold maxLen; omega),B5,a1,a2]
   cases holds (dn l gs[i]) <;> rfl
 · skip
   rw [e85_0_1];simp
theorem Ig (n:Nat):((ii n).toNat:Int)=ii n/\(ii n).toNat<=64:=by have:=mg n; omega
theorem r40 (vars:List ByteArray) (gs:List Gu) (hg:gs.length<=1048576) (h:∀ g∈gs,g.ok):rn ⟨40,0,0⟩ [.sl (vars.map ai),.sl (gs.map Gu.row)]=some (0,[.sl ((fq vars gs).map nRow)]):=by
 have hN:=Ig vars.length;show rn _ _=_
 rw [e40_0_0];have hf:=xe (F:=fun i acc=>rn ⟨40,0,1⟩ [.sl (vars.map ai),.sl (gs.map Gu.row),.int (i:Int),.sl acc]) (N:=(ii vars.length).toNat) (p:=fun c=>pu vars gs (c:Int)) (g:=nRow) (K:=fun acc=>some (0,[.sl acc])) (fun i acc hi ha=>?_) (fun acc=>?_)
 · simp only [C6] at hf
   rw [hf]; rfl
 · have a1:=r84 vars.length
   have a2:=r86 vars (i:Int);have a3:=r85 (cc vars (i:Int)) (vx ..) (ot _ _) gs hg h;rw [e40_0_1];simp only [B6,a1,a2,a3,B5,nth,D1,D3,D.I,D.S,D.L,D.B];rw [H7 (by omega:(i:Int)<ii vars.length)]
   simp only [H1,C5,C8,ag hi (by unfold maxLen; omega)]
   rw [show F9 (acc.length+(0+1)) M63=true from F4 (by unfold M63; omega)]
   unfold pu;cases gs.all fun g=>holds (dn (cc vars (i:Int)) g) <;> rfl
 · have a1:=r84 vars.length
   rw [e40_0_1];simp only [B6,a1,B5,nth,D1,D3,D.I,D.S,D.L,D.B];rw [H8 (by omega:¬((ii vars.length).toNat:Int)<ii vars.length)]; rfl
theorem r56 (vars:List ByteArray) (gs:List Gu) (hg:gs.length<=1048576) (h:∀ g∈gs,g.ok):rn ⟨56,0,0⟩ [.sl (vars.map ai),.sl (gs.map Gu.row)]=some (0,[.sl ((fq vars gs).map nRow)]):=by
 have hN:=Ig vars.length;have a1:=r42 vars.length;have hin:∀ (c:Int) (acc:aa),rn ⟨56,0,3⟩ [.sl (vars.map ai),.sl (gs.map Gu.row),.int (ii vars.length),.int c,.bool true,.int 0,.sl acc]=some (0,[.sl (vars.map ai),.sl (gs.map Gu.row),.int (ii vars.length),.int c,.bool (pu vars gs c),.sl acc]):=fun c acc=>by
  have hf:=Mv (F:=fun i b=>rn ⟨56,0,3⟩ [.sl (vars.map ai),.sl (gs.map Gu.row),.int (ii vars.length),.int c,.bool b,.int (i:Int),.sl acc]) (xs:=gs) (p:=fun g=>holds (dn (cc vars c) g)) (A:=fun b=>some (0,[.sl (vars.map ai),.sl (gs.map Gu.row),.int (ii vars.length),.int c,.bool b,.sl acc])) (fun i hi b=>?_) (fun b=>?_)
  · simp only [C6] at hf
    rw [hf]; rfl
  · have hss:∀ b∈cc vars c,ax b.2:=ja vars c
    have hgi:=h _ (C1 hi);have b1:=r59 vars c;have b2:=r111 (cc vars c) (vx ..) hss gs[i] hgi;have b3:=r110 (dn (cc vars c) gs[i]) (Kt (ot _ _) hgi);rw [e56_0_3];simp only [B9,ae hi,Es,B6,ba,hi,C0,H3,H1,nth,D1,D3,D.I,D.S,D.L,D.B,ag hi (by unfold maxLen; omega),B5,b1,b2,b3]
    cases b <;> rfl
  · skip
    rw [e56_0_3];simp
 show rn _ _=_
 rw [e56_0_0];have hf:=xe (F:=fun i acc=>rn ⟨56,0,1⟩ [.sl (vars.map ai),.sl (gs.map Gu.row),.int (ii vars.length),.int (i:Int),.sl acc]) (N:=(ii vars.length).toNat) (p:=fun c=>pu vars gs (c:Int)) (g:=nRow) (K:=fun acc=>some (0,[.sl acc])) (fun i acc hi ha=>?_) (fun acc=>?_)
 · simp only [C6] at hf a1
   simp only [B6,a1,B5,nth,D1,D3,D.I,D.S,D.L,D.B];rw [hf]; rfl
 · skip
   rw [e56_0_1];rw [H7 (by omega:(i:Int)<ii vars.length),hin]
   simp only [H1,B5,E2,nth,D1,D3,D.I,D.S,D.L,D.B,C5,C8,ag hi (by unfold maxLen; omega)]
   rw [show F9 (acc.length+(0+1)) M63=true from F4 (by unfold M63; omega)]
   cases pu vars gs (i:Int) <;> rfl
 · skip
   rw [e56_0_1];rw [H8 (by omega:¬((ii vars.length).toNat:Int)<ii vars.length)]; rfl
end Go.Q.S
end
section
namespace Go.Q.S
open Go Go.Q Go.Proofs
theorem r39 (vs cs0 cs:aa) (t:Tm) (h:ax t) (h1:vs.length<=274877906944) (h2:cs.length<=274877906944):rn ⟨39,0,0⟩ [.sl vs,.int t.k,.int t.n,.str t.s,.sl (t.as.map Tm.row),.sl cs0,.sl cs]=some (0,[.int t.k,.int t.n,.str t.s,.sl vs,.sl (t.as.map Tm.row),.sl cs]):=by
 rw [e39_0_0];simp only [yk vs h1,Lr cs h2,r82 t h,vi,xq,xt,xu,xv,xw,xy,xz,ya,yb,mo,mq,mr,mu,mv,mw,my,mz,na,nc,nd,ne,nf,ng,nj,nk,dI,dB,dS,dL,B5]
theorem r13 (vars:List ByteArray) (hv:vars.length<=1048576) (l r:Tm) (h:ax l) (gs:List Gu) (hg:gs.length<=1048576) (hk:∀ g∈gs,g.ok):rn ⟨13,0,0⟩ [.sl (vars.map ai),.int l.k,.int l.n,.str l.s,.sl (l.as.map Tm.row),.int r.k,.int r.n,.str r.s,.sl (r.as.map Tm.row),.sl (gs.map Gu.row)] =
 some (0,[.int l.k,.int l.n,.str l.s,.sl (vars.map ai),.sl (l.as.map Tm.row),.sl ((fq vars gs).map nRow)]):=by
 have hc:(fq vars gs).length<=274877906944:=by
  unfold fq;refine F5 (List.length_filter_le _ _) ?_;have:=(mg vars.length).2;simp; omega
 rw [e13_0_0];simp only [r40 vars gs hg hk,vi,xq,xt,xu,xv,xw,xy,xz,ya,yb,mo,mq,mr,mu,mv,mw,my,mz,na,nc,nd,ne,nf,ng,nj,nk,dI,dB,dS,dL,B5];rw [r39 _ _ _ l h (by simp; omega) (by simpa using hc)]
 simp only [vi,xq,xt,xu,xv,xw,xy,xz,ya,yb,mo,mq,mr,mu,mv,mw,my,mz,na,nc,nd,ne,nf,ng,nj,nk,dI,dB,dS,dL,B5]
theorem r21 (vars:List ByteArray) (hv:vars.length<=1048576) (l r:Tm) (h:ax l) (gs:List Gu) (hg:gs.length<=1048576) (hk:∀ g∈gs,g.ok):rn ⟨21,0,0⟩ [.sl (vars.map ai),.int l.k,.int l.n,.str l.s,.sl (l.as.map Tm.row),.int r.k,.int r.n,.str r.s,.sl (r.as.map Tm.row),.sl (gs.map Gu.row)] =
 some (0,[.int l.k,.int l.n,.str l.s,.sl (vars.map ai),.sl (l.as.map Tm.row),.sl ((fq vars gs).map nRow)]):=by
 rw [e21_0_0];rw [show F9 (([]:aa).length+(vars.map ai).length) M63=true from F4 (by unfold M63; simp; omega)]
 simp only [r55 l h,r56 vars gs hg hk,H1,vi,xq,xt,xu,xv,xw,xy,xz,ya,yb,mo,mq,mr,mu,mv,mw,my,mz,na,nc,nd,ne,nf,ng,nj,nk,dI,dB,dS,dL,B5,E4]
end Go.Q.S
end
section
namespace Go.Q.S
open Go Go.Q Go.Proofs
theorem qlt (a c:Nat):decide ((c:Int)<(a:Int))=!decide (a<=c):=by by_cases h:a<=c <;> simp [h] <;> omega
theorem qle (a c:Nat):decide ((c:Int)<=(a:Int))=decide (c<=a):=by by_cases h:c<=a <;> simp [h] <;> omega
theorem br {n:Nat} (h:n<=1099511627776):n<=maxLen:=by unfold maxLen; omega
theorem nb {n m:Nat} (h:n+m<=274877906944):F9 (n+m) M63=true:=F4 h
theorem r202 (c:Nat):rn ⟨202,0,0⟩ [.int (c:Int)]=some (0,[.bool (decide (97<=c)&&decide (c<=122))]):=by
 rw [e202_0_0,show decide ((97:Int)<=(c:Int))=decide (97<=c) from qle c 97,show decide ((c:Int)<=122)=decide (c<=122) from qle 122 c]
 cases decide (97<=c) <;> rfl
theorem r205 (c:Nat):rn ⟨205,0,0⟩ [.int (c:Int)]=some (0,[.bool (decide (48<=c)&&decide (c<=57))]):=by
 rw [e205_0_0,show decide ((48:Int)<=(c:Int))=decide (48<=c) from qle c 48,show decide ((c:Int)<=57)=decide (c<=57) from qle 57 c]
 cases decide (48<=c) <;> rfl
theorem rIn (a b c:Int):rn ⟨41,0,0⟩ [.int a,.int b,.int c]=some (0,[.bool (decide (b<=a)&&decide (a<=c))]):=r41 a b c
theorem r122 (s:ByteArray) (hs:s.size<=maxLen) (lo hi:Nat):rn ⟨122,0,0⟩ [.str s,.int (lo:Int),.int (hi:Int)]=some (0,[.bool (qk lo hi s.data.toList)]):=by
 have hz:=py s;have hl:∀ n i,i+n=s.data.toList.length->rn ⟨122,0,1⟩ [.str s,.int (i:Int)]=bif (s.data.toList.drop i).all Bg then some (0,[]) else some (1,[]):=by
  intro n;induction n with
  | zero =>
   intro i hi;obtain rfl:i=s.data.toList.length:=by omega
   rw [e122_0_1];simp only [hz,B6,C0,D7,H4,H2,C9,N5,H1]
  | succ n ih =>
   intro i hi;have hlt:i<s.data.toList.length:=by omega
   rw [e122_0_1,B8 hlt];simp only [hz,C0,hlt,H3,H1,ba,B9,ag hlt (by omega),ou hlt,J8,ih (i+1) (by omega),Bg]
   generalize s.data.toList[i].toNat=c;rw [show decide ((c:Int)<97)=!decide (97<=c) from qlt 97 c,show decide ((c:Int)<48)=!decide (48<=c) from qlt 48 c,show decide ((57:Int)<(c:Int))=!decide (c<=57) from qlt c 57,show decide ((122:Int)<(c:Int))=!decide (c<=122) from qlt c 122]
   cases decide (97<=c) <;> cases decide (c<=122) <;> cases decide (48<=c) <;> cases decide (c<=57) <;> simp
 have h1:=hl (s.data.toList.length-1) 1;rw [e122_0_0];have hg:∀ h:0<s.data.toList.length,s.get! 0=s.data.toList[0]:=fun h=>ou h
 rw [hz] at hs;rw [hz];generalize s.data.toList=l at hs hz hl h1 hg ⊢;cases l with
 | nil=>rfl
 | cons b r =>
  have e0:=hg (by simp)
  have e1:=h1 (by simp; omega)
  simp only [P3,D5] at e1;rw [show ((1:Nat):Int)=1 from rfl] at e1
  have hn:¬(((b::r).length:Nat):Int)<1:=by simp only [C5]; omega
  have hi0:inb 0 (b::r).length=true:=by simp [inb]
  rw [show decide ((8:Int)<(((b::r).length:Nat):Int))=!decide ((b::r).length<=8) from qlt _ 8]
  simp only [H8 hn,H2,hi0,H1,show O1 0=0 from rfl,e0,R6,e1,qk]
  rw [qlt lo b.toNat,qlt b.toNat hi];cases decide ((b::r).length<=8) <;> cases decide (lo<=b.toNat) <;> cases decide (b.toNat<=hi) <;> cases r.all Bg <;> first | rfl | (simp; done) | (simp; rfl)
theorem r169 (s:ByteArray) (hs:s.size<=maxLen):rn ⟨169,0,0⟩ [.str s]=some (0,[.bool (jh s)]):=by
 have h:=r122 s hs 97 122;rw [e169_0_0];simp only [show ((97:Nat):Int)=97 from rfl,show ((122:Nat):Int)=122 from rfl] at h
 simp only [h,nv0,nvS,dvI,dvB,dvS,dvL,B5]; rfl
theorem r62 (s:ByteArray) (hs:s.size<=maxLen):rn ⟨62,0,0⟩ [.str s]=some (0,[.bool (qf s)]):=by
 have h:=r122 s hs 65 90;rw [e62_0_0];simp only [show ((65:Nat):Int)=65 from rfl,show ((90:Nat):Int)=90 from rfl] at h
 simp only [h,nv0,nvS,dvI,dvB,dvS,dvL,B5]; rfl
theorem r180 (s:ByteArray) (hs:s.size<=maxLen):rn ⟨180,0,0⟩ [.str s]=some (0,[.bool ((s.data.toList.drop 1).all Bg&&(decide (1<=s.data.toList.length)&&decide (s.data.toList.length<=8)))]):=by
 have hz:=py s;have hl:∀ n i,i+n=s.data.toList.length->rn ⟨180,0,1⟩ [.str s,.int (i:Int)]=bif (s.data.toList.drop i).all Bg then some (0,[.str s]) else some (1,[]):=by
  intro n;induction n with
  | zero =>
   intro i hi;obtain rfl:i=s.data.toList.length:=by omega
   rw [e180_0_1];simp only [hz,B6,C0,D7,H4,H2,C9,N5,H1]
  | succ n ih =>
   intro i hi;have hlt:i<s.data.toList.length:=by omega
   rw [e180_0_1,B8 hlt];simp only [hz,C0,hlt,H3,H1,ba,B9,ag hlt (by omega),ou hlt,J8,ih (i+1) (by omega),Bg,r202,r205,nv0,nvS,dvI,dvB,dvS,dvL,B5]
   generalize s.data.toList[i].toNat=c;cases decide (97<=c) <;> cases decide (c<=122) <;> cases decide (48<=c) <;> cases decide (c<=57) <;> simp
 rw [e180_0_0];have hlen:decide ((1:Int)<=(s.data.toList.length:Int))=decide (1<=s.data.toList.length):=qle s.data.toList.length 1;have hlen8:decide ((s.data.toList.length:Int)<=8)=decide (s.data.toList.length<=8):=qle 8 s.data.toList.length;by_cases h0:s.data.toList.length=0
 · have e:rn ⟨180,0,1⟩ [.str s,.int 1]=some (0,[.str s]):=by
    rw [e180_0_1];rw [H8 (show ¬(1:Int)<(s.size:Int) by rw [hz]; omega)]; rfl
   simp only [e,nv0,nvS,dvI,dvB,dvS,dvL,B5,E2,H1,H2,rIn,hz,hlen,hlen8];have:s.data.toList=[]:=F1.1 h0;rw [this]; rfl
 · have h1:=hl (s.data.toList.length-1) 1 (by omega)
   rw [show ((1:Nat):Int)=1 from rfl] at h1
   rw [h1];cases (s.data.toList.drop 1).all Bg with
   | true=>simp only [nv0,nvS,dvI,dvB,dvS,dvL,B5,E2,H1,H2,rIn,hz,hlen,hlen8,F6]
   | false=>rfl
theorem r176 (s:ByteArray) (hs:s.size<=maxLen):rn ⟨176,0,0⟩ [.str s]=some (0,[.bool (jh s)]):=by
 have hr:=r180 s hs;have hz:=py s;rw [e176_0_0];have he:decide (s=(⟨#[]⟩:ByteArray))=decide (s.data.toList=[]):=decide_eq_decide.2 (He s);have hg:∀ h:0<s.data.toList.length,s.get! 0=s.data.toList[0]:=fun h=>ou h
 rw [he,hz];unfold jh;generalize s.data.toList=l at hr hz hg ⊢;cases l with
 | nil=>rfl
 | cons b r =>
  have e0:=hg (by simp)
  have hi0:inb 0 (r.length+1)=true:=by simp [inb]
  simp only [show O1 0=0 from rfl,e0,R6,C5,hi0,H1,H8 (List.cons_ne_nil b r),J4,r202,nv0,nvS,dvI,dvB,dvS,dvL,B5,hr,qk,P3,D5,C5]
  have:decide (1<=r.length+1)=true:=by simp
  rw [this];cases decide (97<=b.toNat) <;> cases decide (b.toNat<=122) <;> cases r.all Bg <;> cases decide (r.length+1<=8) <;> rfl
theorem r133 (s:ByteArray) (hs:s.size<=maxLen):rn ⟨133,0,0⟩ [.str s]=some (0,[.bool (qf s)]):=by
 have hr:=r180 s hs;have hz:=py s;rw [e133_0_0];have he:decide (s=(⟨#[]⟩:ByteArray))=decide (s.data.toList=[]):=decide_eq_decide.2 (He s);have hg:∀ h:0<s.data.toList.length,s.get! 0=s.data.toList[0]:=fun h=>ou h
 rw [he,hz];unfold qf;generalize s.data.toList=l at hr hz hg ⊢;cases l with
 | nil=>rfl
 | cons b r =>
  have e0:=hg (by simp)
  have hi0:inb 0 (r.length+1)=true:=by simp [inb]
  simp only [show O1 0=0 from rfl,e0,R6,C5,hi0,H1,H8 (List.cons_ne_nil b r),J4,nv0,nvS,dvI,dvB,dvS,dvL,B5,hr,qk,P3,D5,C5]
  have:decide (1<=r.length+1)=true:=by simp
  rw [this,show decide ((65:Int)<=(b.toNat:Int))=decide (65<=b.toNat) from qle b.toNat 65,show decide ((b.toNat:Int)<=90)=decide (b.toNat<=90) from qle 90 b.toNat]
  cases decide (65<=b.toNat) <;> cases decide (b.toNat<=90) <;> cases r.all Bg <;> cases decide (r.length+1<=8) <;> rfl
theorem r123:∀ t:Tm,t.nodes<=2097152->rn ⟨123,0,0⟩ [.int t.k,.int t.n,.str t.s,.sl (t.as.map Tm.row)]=some (0,[.int (t.nodes:Int)]):=Tm.ind fun t ih h=>by
 have hnd:=Tm.nodes_eq t;have hls:=dr (xs:=t.as);have hl:∀ n i (c:Nat),i+n=t.as.length->c+((t.as.drop i).map Tm.nodes).sum<=2097152->rn ⟨123,0,1⟩ [.int (c:Int),.sl (t.as.map Tm.row),.int (t.as.length:Int),.int (i:Int)]=some (0,[.int ((c+((t.as.drop i).map Tm.nodes).sum:Nat):Int)]):=by
  intro n;induction n with
  | zero =>
   intro i c hi hc;obtain rfl:i=t.as.length:=by omega
   rw [e123_0_1];simp only [B6,C0,D7,H4,H2,C9,D2,List.sum_nil,N3]
  | succ n ih2 =>
   intro i c hi hc;have hlt:i<t.as.length:=by omega
   rw [B8 hlt] at hc ⊢;simp only [C2,J6] at hc ⊢;rw [e123_0_1];have h1:=ih _ (C1 hlt) (by omega)
   simp only [B6,C0,hlt,H3,H1,ba,B9,ae hlt,ag hlt (br (by omega)),Tm.row_eq,nv0,nvS,dvI,dvB,dvS,dvL,B5,h1]
   rw [IntWalk.i64_in _ (by omega),show ((c:Int)+(t.as[i].nodes:Int))=((c+t.as[i].nodes:Nat):Int) by omega,ih2 (i+1) _ (by omega) (by omega),Nat.add_assoc]
 rw [e123_0_0];have:=hl t.as.length 0 1 (by omega) (by rw [D5]; omega)
 rw [D5,<- hnd] at this;simp only [B6,show ((1:Nat):Int)=1 from rfl,C6] at this ⊢
 simp only [this,nv0,nvS,dvI,dvB,dvS,dvL,B5,E2,H1,H2]
theorem Yt (a b:Nat):(bif decide (b<a) then (a:Int) else (b:Int))=((max b a:Nat):Int):=by
 by_cases h:b<a
 · rw [H7 h,H1]; omega
 · rw [H8 h,H2]; omega
theorem r124:∀ t:Tm,t.nodes<=2097152->rn ⟨124,0,0⟩ [.int t.k,.int t.n,.str t.s,.sl (t.as.map Tm.row)]=some (0,[.int (t.depth:Int)]):=Tm.ind fun t ih h=>by
 have hnd:=Tm.nodes_eq t;have hls:=dr (xs:=t.as);have hdn:=Tm.depth_nodes t;have hde:=Tm.depth_eq t;have hl:∀ n i (c:Nat),i+n=t.as.length->rn ⟨124,0,1⟩ [.int (c:Int),.sl (t.as.map Tm.row),.int (t.as.length:Int),.int (i:Int)]=some (0,[.int ((max c (Tm.depthL (t.as.drop i)):Nat):Int)]):=by
  intro n;induction n with
  | zero =>
   intro i c hi;obtain rfl:i=t.as.length:=by omega
   rw [e124_0_1];simp only [B6,C0,D7,H4,H2,C9,Tm.depthL,Nat.max_zero]
  | succ n ih2 =>
   intro i c hi;have hlt:i<t.as.length:=by omega
   rw [B8 hlt];have hm:=dl (f:=Tm.nodes) (C1 hlt);have h1:=ih _ (C1 hlt) (by omega)
   rw [e124_0_1];simp only [B6,C0,hlt,H3,H1,ba,B9,ae hlt,ag hlt (br (by omega)),Tm.row_eq,nv0,nvS,dvI,dvB,dvS,dvL,B5,h1]
   rw [Yt,ih2 (i+1) _ (by omega)]
   simp only [Tm.depthL,Nat.max_assoc]
 rw [e124_0_0];have:=hl t.as.length 0 0 (by omega)
 rw [D5,Nat.zero_max] at this;simp only [B6,C6] at this ⊢;simp only [this,nv0,nvS,dvI,dvB,dvS,dvL,B5,E2,H1,H2];rw [IntWalk.i64_in _ (by omega),hde]; rfl
theorem r149 (a b:Nat):rn ⟨149,0,0⟩ [.int (a:Int),.int (b:Int)]=some (0,[.int ((max a b:Nat):Int)]):=by
 rw [e149_0_0];by_cases h:(b:Int)<(a:Int)
 · rw [H7 h,H1,show max a b=a by omega]
 · rw [H8 h,H2,show max a b=b by omega]
theorem r135:∀ t:Tm,t.nodes<=2097152->rn ⟨135,0,0⟩ [.int t.k,.int t.n,.str t.s,.sl (t.as.map Tm.row)]=some (0,[.int (t.depth:Int)]):=Tm.ind fun t ih h=>by
 have hnd:=Tm.nodes_eq t;have hls:=dr (xs:=t.as);have hdn:=Tm.depth_nodes t;have hde:=Tm.depth_eq t;have hl:∀ n i (c:Nat),i+n=t.as.length->rn ⟨135,0,1⟩ [.int (c:Int),.int (i:Int),.int t.k,.int t.n,.str t.s,.sl (t.as.map Tm.row)]=some (0,[.int ((max c (Tm.depthL (t.as.drop i)):Nat):Int)]):=by
  intro n;induction n with
  | zero =>
   intro i c hi;obtain rfl:i=t.as.length:=by omega
   rw [e135_0_1];simp only [B6,C0,D7,H4,H2,C9,Tm.depthL,Nat.max_zero]
  | succ n ih2 =>
   intro i c hi;have hlt:i<t.as.length:=by omega
   rw [B8 hlt];have hm:=dl (f:=Tm.nodes) (C1 hlt);have h1:=ih _ (C1 hlt) (by omega)
   rw [e135_0_1];simp only [B6,C0,hlt,H3,H1,ba,B9,ae hlt,ag hlt (br (by omega)),Tm.row_eq,nv0,nvS,dvI,dvB,dvS,dvL,B5,h1,r149]
   have h2:=ih2 (i+1) (max c t.as[i].depth) (by omega)
   rw [h2];simp only [Tm.depthL,Nat.max_assoc]
 rw [e135_0_0];have:=hl t.as.length 0 0 (by omega)
 rw [D5,Nat.zero_max] at this;simp only [C6] at this ⊢;simp only [this,nv0,nvS,dvI,dvB,dvS,dvL,B5,E2,H1,H2];rw [IntWalk.i64_in _ (by omega),hde]; rfl
def nq (n left:Nat):Int:=if n<=left then ((left-n:Nat):Int) else -1
theorem Cy {a b c:Nat} (h:a<=c):nq b (c-a)=nq (a+b) c:=by
 unfold nq;by_cases hb:b<=c-a
 · rw [H5 hb,H5 (by omega),Nat.sub_sub]
 · rw [H6 hb,H6 (by omega)]
theorem r134:∀ t:Tm,∀ left:Nat,t.nodes<=2097152->left<=1048576->rn ⟨134,0,0⟩ [.int t.k,.int t.n,.str t.s,.sl (t.as.map Tm.row),.int (left:Int)]=some (0,[.int (nq t.nodes left)]):=Tm.ind fun t ih left h hle=>by
 have hnd:=Tm.nodes_eq t;have hls:=dr (xs:=t.as);have hl:∀ n i (c:Nat),i+n=t.as.length->c<=1048576->rn ⟨134,0,1⟩ [.int (c:Int),.int (i:Int),.int t.k,.int t.n,.str t.s,.sl (t.as.map Tm.row)]=some (0,[.int (nq ((t.as.drop i).map Tm.nodes).sum c)]):=by
  intro n;induction n with
  | zero =>
   intro i c hi hc;obtain rfl:i=t.as.length:=by omega
   rw [e134_0_1];simp only [B6,C0,D7,H4,H2,C9,D2,List.sum_nil,nq,K0,if_true,Nat.sub_zero]
  | succ n ih2 =>
   intro i c hi hc;have hlt:i<t.as.length:=by omega
   rw [B8 hlt];rw [e134_0_1];have h1:=ih _ (C1 hlt) c (by have:=dl (f:=Tm.nodes) (C1 hlt); omega) hc
   have hc0:(0:Int)<=(c:Int):=by omega
   simp only [B6,C0,hlt,H3,H1,ba,B9,ae hlt,ag hlt (br (by omega)),Tm.row_eq,nv0,nvS,dvI,dvB,dvS,dvL,B5,h1,hc0]
   simp only [C2,J6];by_cases hq:t.as[i].nodes<=c
   · have e:nq t.as[i].nodes c=((c-t.as[i].nodes:Nat):Int):=H5 hq
     rw [e,ih2 (i+1) _ (by omega) (by omega),Cy hq]
   · have e:nq t.as[i].nodes c=-1:=H6 hq
     have e2:nq (t.as[i].nodes+((t.as.drop (i+1)).map Tm.nodes).sum) c=-1:=H6 (by omega)
     rw [e,e2,e134_0_1];have hneg:¬(0:Int)<=-1:=by decide
     simp only [hneg,H4,H2];cases decide (((i+1:Nat):Int)<((t.as.map Tm.row).length:Int)) <;> rfl
 rw [e134_0_0,IntWalk.i64_in _ (by omega)]
 by_cases hz:left=0
 · subst hz
   have e:nq t.nodes 0=-1:=H6 (by omega)
   have hneg:¬(0:Int)<=-1:=by decide
   have e2:rn ⟨134,0,1⟩ [.int (((0:Nat):Int)-1),.int 0,.int t.k,.int t.n,.str t.s,.sl (t.as.map Tm.row)]=some (0,[.int (-1)]):=by
    rw [e134_0_1];simp only [show (((0:Nat):Int)-1)=-1 from rfl,hneg,H4,H2]
    cases decide ((0:Int)<((t.as.map Tm.row).length:Int)) <;> rfl
   rw [e2,e]; rfl
 · have:=hl t.as.length 0 (left-1) (by omega) (by omega)
   rw [D5] at this;rw [show (left:Int)-1=((left-1:Nat):Int) by omega]
   simp only [C6] at this;simp only [this,nv0,nvS,dvI,dvB,dvS,dvL,B5,E2,H1,H2];rw [Cy (by omega),hnd]
end Go.Q.S
end
section
namespace Go.Q.S
open Go Go.Q Go.Proofs
theorem r125:∀ t:Tm,Wt t->rn ⟨125,0,0⟩ [.int t.k,.int t.n,.str t.s,.sl (t.as.map Tm.row)]=some (0,[.bool t.areN]):=Tm.ind fun t ih h=>by
 have hlm:=h.l;have hl:∀ n i,i+n=t.as.length->rn ⟨125,0,2⟩ [.sl (t.as.map Tm.row),.int (t.as.length:Int),.int (i:Int)]=bif Tm.areNL (t.as.drop i) then some (0,[]) else some (1,[]):=by
  intro n;induction n with
  | zero =>
   intro i hi;obtain rfl:i=t.as.length:=by omega
   rw [e125_0_2];simp only [B6,C0,D7,H4,H2,C9,Tm.areNL,H1]
  | succ n ih2 =>
   intro i hi;have hlt:i<t.as.length:=by omega
   rw [e125_0_2,B8 hlt];have h1:=ih _ (C1 hlt) (h.sub (C1 hlt));simp only [B6,C0,hlt,H3,H1,ba,B9,ae hlt,ag hlt hlm,Tm.row_eq,nv0,nvS,dvI,dvB,dvS,dvL,B5,h1,ih2 (i+1) (by omega),Tm.areNL]
   cases t.as[i].areN <;> simp
 have h0:=hl t.as.length 0 (by omega)
 rw [D5] at h0;rw [e125_0_0,Tm.areN_eq];simp only [B6,C6] at h0 ⊢;simp only [h0,r62 t.s h.s,r153 t,r169 t.s h.s,nv0,nvS,dvI,dvB,dvS,dvL,B5];unfold Tm.nodeN;have hz:decide ((t.as.length:Int)=0)=decide (t.as.length=0):=by simp
 by_cases h1:t.k=1
 · rw [H7 h1,H5 h1,hz]
   by_cases h2:t.as.length=0
   · have:t.as=[]:=F1.1 h2
     rw [H7 h2,this];simp only [Tm.areNL,H1,K4,F6];cases decide (t.n=0) <;> cases qf t.s <;> rfl
   · rw [H8 h2]
     cases decide (t.n=0) <;> rfl
 · rw [H8 h1,H6 h1]
   by_cases h3:t.k=3
   · rw [H7 h3,H5 h3]
     cases hw:isW t with
     | false=>rfl
     | true =>
      have:t.as=[]:=by simp only [isW,B7,decide_eq_true_eq] at hw; exact F1.1 hw.2.2.2.2
      rw [this]; rfl
   · rw [H8 h3,H6 h3]
     by_cases h2:t.k=2
     · rw [H7 h2,H5 h2]
       cases decide (t.n=0) <;> cases jh t.s <;> cases Tm.areNL t.as <;> rfl
     · rw [H8 h2,H6 h2]; rfl
theorem r181 (t:Tm) (h:Wt t):rn ⟨181,0,0⟩ [.int t.k,.int t.n,.str t.s,.sl (t.as.map Tm.row)]=some (0,[.bool t.nodeN]):=by
 rw [e181_0_0];have hz:decide ((t.as.length:Int)=0)=decide (t.as.length=0):=by simp
 simp only [B6,r133 t.s h.s,r176 t.s h.s,nv0,nvS,dvI,dvB,dvS,dvL,B5,rIn,hz];unfold Tm.nodeN;by_cases h1:t.k=1
 · rw [H7 h1,H5 h1]
   cases decide (t.n=0) <;> cases qf t.s <;> cases decide (t.as.length=0) <;> rfl
 · rw [H8 h1,H6 h1]
   by_cases h2:t.k=2
   · rw [H7 h2,H6 (by omega),H5 h2]
     cases decide (t.n=0) <;> cases jh t.s <;> rfl
   · rw [H8 h2]
     by_cases h3:t.k=3
     · rw [H7 h3,H5 h3]
       unfold isW;have e2:decide (t.n<=3)=decide (t.n<4):=decide_eq_decide.2 (by omega)
       rw [H7 h3,e2];cases decide (t.s=(⟨#[]⟩:ByteArray)) <;> cases decide (0<=t.n) <;> cases decide (t.n<4) <;> cases decide (t.as.length=0) <;> rfl
     · rw [H8 h3,H6 h3,H6 h2]; rfl
theorem r136:∀ t:Tm,Wt t->rn ⟨136,0,0⟩ [.int t.k,.int t.n,.str t.s,.sl (t.as.map Tm.row)]=some (0,[.bool t.areN]):=Tm.ind fun t ih h=>by
 have hlm:=h.l;have hl:∀ n i,i+n=t.as.length->rn ⟨136,0,1⟩ [.int (i:Int),.int t.k,.int t.n,.str t.s,.sl (t.as.map Tm.row)]=bif Tm.areNL (t.as.drop i) then some (0,[.int t.k,.int t.n,.str t.s,.sl (t.as.map Tm.row)]) else some (1,[]):=by
  intro n;induction n with
  | zero =>
   intro i hi;obtain rfl:i=t.as.length:=by omega
   rw [e136_0_1];simp only [B6,C0,D7,H4,H2,C9,Tm.areNL,H1]
  | succ n ih2 =>
   intro i hi;have hlt:i<t.as.length:=by omega
   rw [e136_0_1,B8 hlt];have h1:=ih _ (C1 hlt) (h.sub (C1 hlt));simp only [B6,C0,hlt,H3,H1,ba,B9,ae hlt,ag hlt hlm,Tm.row_eq,nv0,nvS,dvI,dvB,dvS,dvL,B5,h1,ih2 (i+1) (by omega),Tm.areNL]
   cases t.as[i].areN <;> simp
 have h0:=hl t.as.length 0 (by omega)
 rw [D5] at h0;rw [e136_0_0,Tm.areN_eq];simp only [C6] at h0 ⊢;rw [h0];cases Tm.areNL t.as with
 | true=>simp only [H1,nv0,nvS,dvI,dvB,dvS,dvL,B5,E2,H1,H2,r181 t h,K4]
 | false=>rw [R4]; rfl
theorem r63 (t:Tm) (hn:t.nodes<=2097152) (h:Wt t):rn ⟨63,0,0⟩ [.int t.k,.int t.n,.str t.s,.sl (t.as.map Tm.row)]=some (0,[.bool t.valid]):=by
 rw [e63_0_0];simp only [r123 t hn,r124 t hn,r125 t h,nv0,nvS,dvI,dvB,dvS,dvL,B5];unfold Tm.valid;have i1:((t.nodes:Int)<=60)↔t.nodes<=60:=by omega
 have i2:((t.depth:Int)<=16)↔t.depth<=16:=by omega
 by_cases h1:t.nodes<=60 <;> by_cases h2:t.depth<=16 <;> simp [h1,h2,i1,i2]
theorem r70 (t:Tm) (hn:t.nodes<=2097152) (h:Wt t):rn ⟨70,0,0⟩ [.int t.k,.int t.n,.str t.s,.sl (t.as.map Tm.row)]=some (0,[.bool t.valid]):=by
 rw [e70_0_0];have h1:=r134 t 60 hn (by omega)
 rw [show ((60:Nat):Int)=60 from rfl] at h1
 simp only [h1,r135 t hn,r136 t h,nv0,nvS,dvI,dvB,dvS,dvL,B5];have i0:((0:Int)<=nq t.nodes 60)↔t.nodes<=60:=by
  unfold nq;split <;> omega
 unfold Tm.valid;have i2:((t.depth:Int)<=16)↔t.depth<=16:=by omega
 by_cases h1:t.nodes<=60 <;> by_cases h2:t.depth<=16 <;> simp [h1,h2,i0,i2]
theorem r61 (l:List ByteArray) (h:l.length<=1048576):rn ⟨61,0,0⟩ [.sl (l.map ai)]=some (0,[.bool (dis l)]):=by
 rw [e61_0_0];simp only [r121 l (by omega),nv0,nvS,dvI,dvB,dvS,dvL,B5,B6]
 congr 4
 unfold dis;exact decide_eq_decide.2 (by rw [<- Qc]; omega)
def ixS (s:ByteArray):List ByteArray->Nat->Int
 | [],_=>-1
 | x::r,i=>if x=s then (i:Int) else ixS s r (i+1)
theorem Ls (s:ByteArray):∀ (l:List ByteArray) (i:Nat),ixS s l i<0↔s∉l
 | [],i=>by simp [ixS]
 | x::r,i=>by
  unfold ixS;by_cases h:x=s
  · rw [H5 h]; simp [h]
  · rw [H6 h,Ls s r]; simp [Ne.symm h]
theorem r137 (l:List ByteArray) (hl:l.length<=maxLen) (s:ByteArray):rn ⟨137,0,0⟩ [.sl (l.map ai),.str s]=some (0,[.int (ixS s l 0)]):=by
 have hlp:∀ n i,i+n=l.length->(ixS s (l.drop i) i=-1/\rn ⟨137,0,1⟩ [.sl (l.map ai),.str s,.int (i:Int)]=some (0,[]))\/rn ⟨137,0,1⟩ [.sl (l.map ai),.str s,.int (i:Int)]=some (1,[.int (ixS s (l.drop i) i)]):=by
  intro n;induction n with
  | zero =>
   intro i hi;obtain rfl:i=l.length:=by omega
   rw [e137_0_1];simp only [B6,C0,D7,H4,H2,C9,ixS];exact .inl ⟨trivial,trivial⟩
  | succ n ih =>
   intro i hi;have hlt:i<l.length:=by omega
   rw [e137_0_1,B8 hlt];simp only [B6,C0,hlt,H3,H1,ba,B9,ae hlt,ag hlt hl,ai,nv0,nvS,dvI,dvB,dvS,dvL,B5,ixS];by_cases h:l[i]=s
   · simp only [H7 h,H1,H5 h]; exact .inr trivial
   · simp only [H8 h,H2,H6 h]; exact ih (i+1) (by omega)
 have h:=hlp l.length 0 (by omega)
 rw [D5] at h;simp only [C6] at h;rw [e137_0_0];rcases h with ⟨h1,h2⟩ | h2
 · rw [h2,h1]; rfl
 · rw [h2]; rfl
theorem r131 (l:List ByteArray) (hl:l.length<=maxLen):rn ⟨131,0,0⟩ [.sl (l.map ai)]=some (0,[.bool (dis l)]):=by
 have key:∀ n i,i+n=l.length->rn ⟨131,0,1⟩ [.sl (l.map ai),.int (i:Int)]=bif (S3 i n).all (fun j=>decide (ixS (l.getD j e0) l 0=(j:Int))) then some (0,[]) else some (1,[]):=by
  intro n;induction n with
  | zero =>
   intro i hi;obtain rfl:i=l.length:=by omega
   rw [e131_0_1];simp only [B6,C0,D7,H4,H2,C9]; rfl
  | succ n ih =>
   intro i hi;have hlt:i<l.length:=by omega
   rw [e131_0_1,List.range'_succ];have hg:l.getD i e0=l[i]:=by simp [O5,hlt]
   simp only [B6,C0,hlt,H3,H1,ba,B9,ae hlt,ag hlt hl,ai,nv0,nvS,dvI,dvB,dvS,dvL,B5,r137 l hl,ih (i+1) (by omega),J8,hg]
   by_cases hq:ixS l[i] l 0=(i:Int)
   · simp [hq]
   · simp [hq]
 have h:=key l.length 0 (by omega)
 rw [e131_0_0];simp only [C6] at h;rw [h];have hfi:∀ (m:List ByteArray) (i k:Nat) (hk:k<m.length),ixS m[k] m i=((i+k:Nat):Int)↔∀ j (hj:j<k),m[j]≠m[k]:=by
  intro m;induction m with
  | nil=>intro i k hk; simp at hk
  | cons x m ih =>
   intro i k hk;cases k with
   | zero=>simp [ixS]
   | succ k =>
    have hk':k<m.length:=by simpa using hk
    simp only [List.getElem_cons_succ,ixS];by_cases hx:x=m[k]
    · rw [H5 hx]
      constructor
      · intro h; omega
      · intro h; exact absurd hx (h 0 (by omega))
    · rw [H6 hx]
      have:=ih (i+1) k hk';rw [show i+1+k=i+(k+1) by omega] at this
      rw [this];constructor
      · intro h j hj
        cases j with
        | zero=>exact hx
        | succ j=>exact h j (by omega)
      · intro h j hj; exact h (j+1) (by omega)
 have e:(S3 0 l.length).all (fun j=>decide (ixS (l.getD j e0) l 0=(j:Int)))=dis l:=by
  unfold dis;rw [Bool.eq_iff_iff,List.all_eq_true,decide_eq_true_eq];constructor
  · intro h
    refine S5.2 fun i j _ hj hij=>?_
    have h1:=h j (by simp [List.mem_range']; omega)
    simp only [decide_eq_true_eq] at h1;have hg:l.getD j e0=l[j]:=by simp [O5,hj]
    rw [hg] at h1;exact (hfi l 0 j hj).1 (by simpa using h1) i hij
  · intro h j hj
    have hj':j<l.length:=by simp [List.mem_range'] at hj; omega
    have hg:l.getD j e0=l[j]:=by simp [O5,hj']
    simp only [decide_eq_true_eq,hg];have:=(hfi l 0 j hj').2 fun i hi=>S5.1 h i j (by omega) hj' hi
    simpa using this
 rw [e];cases dis l <;> rfl
theorem Et (l:List ByteArray) (s:ByteArray):decide ((0:Int)<=ixS s l 0)=je l s:=by
 rw [Bool.eq_iff_iff,decide_eq_true_eq,tq];have:=Ls s l 0;constructor
 · intro h; exact Classical.byContradiction fun hn=>by have:=this.2 hn; omega
 · intro h; exact Classical.byContradiction fun hn=>absurd h (this.1 (by omega))
theorem Xu (l:List ByteArray) (s:ByteArray):decide (ixS s l 0<0)=!je l s:=by
 rw [<- Et];by_cases h:ixS s l 0<0
 · rw [H7 h,H8 (by omega)]; rfl
 · rw [H8 h,H7 (by omega)]; rfl
theorem Ux (l:List ByteArray) (hl:l.length<=maxLen) (s:ByteArray):rn ⟨198,0,0⟩ [.sl (l.map ai),.str s]=some (0,[.int (ixS s l 0)]):=by
 have hlp:∀ n i,i+n=l.length->(ixS s (l.drop i) i=-1/\rn ⟨198,0,1⟩ [.sl (l.map ai),.str s,.int (l.length:Int),.int (i:Int)]=some (0,[]))\/rn ⟨198,0,1⟩ [.sl (l.map ai),.str s,.int (l.length:Int),.int (i:Int)]=some (1,[.int (ixS s (l.drop i) i)]):=by
  intro n;induction n with
  | zero =>
   intro i hi;obtain rfl:i=l.length:=by omega
   rw [e198_0_1];simp only [B6,C0,D7,H4,H2,C9,ixS];exact .inl ⟨trivial,trivial⟩
  | succ n ih =>
   intro i hi;have hlt:i<l.length:=by omega
   rw [e198_0_1,B8 hlt];simp only [B6,C0,hlt,H3,H1,ba,B9,ae hlt,ag hlt hl,ai,nv0,nvS,dvI,dvB,dvS,dvL,B5,ixS];by_cases h:l[i]=s
   · simp only [H7 h.symm,H1,H5 h]; exact .inr trivial
   · simp only [H8 (Ne.symm h),H2,H6 h]; exact ih (i+1) (by omega)
 have h:=hlp l.length 0 (by omega)
 rw [D5] at h;simp only [C6] at h;rw [e198_0_0];simp only [B6];rcases h with ⟨h1,h2⟩ | h2
 · rw [h2,h1]; rfl
 · rw [h2]; rfl
theorem Rf (l:List ByteArray) (hl:l.length<=maxLen) (s:ByteArray):rn ⟨170,0,0⟩ [.sl (l.map ai),.str s]=some (0,[.bool (je l s)]):=by
 rw [e170_0_0];simp only [Ux l hl,nv0,nvS,dvI,dvB,dvS,dvL,B5];rw [Et]
theorem r126 (l r:List ByteArray) (hl:l.length<=2097152) (hr:r.length<=maxLen):rn ⟨126,0,0⟩ [.sl (l.map ai),.sl (r.map ai)]=some (0,[.sl ((wo l r).map ai)]):=by
 have key:∀ n i (acc:List ByteArray),i+n=l.length->acc.length<=i->rn ⟨126,0,1⟩ [.sl (r.map ai),.sl (l.map ai),.int (l.length:Int),.int (i:Int),.sl (acc.map ai)]=some (0,[.sl ((acc++wo (l.drop i) r).map ai)]):=by
  intro n;induction n with
  | zero =>
   intro i acc hi ha;obtain rfl:i=l.length:=by omega
   rw [e126_0_1];simp only [B6,C0,D7,H4,H2,C9,wo,List.filter_nil,J3]
  | succ n ih =>
   intro i acc hi ha;have hlt:i<l.length:=by omega
   rw [e126_0_1,B8 hlt];simp only [B6,C0,hlt,H3,H1,ba,B9,ae hlt,ag hlt (br (by omega)),ai,nv0,nvS,dvI,dvB,dvS,dvL,B5,Rf r hr,C5,C8]
   unfold wo;rw [O9];cases hh:je r l[i] with
   | true=>simp only [D8,H2,K6,if_false]; exact ih (i+1) acc (by omega) (by omega)
   | false =>
    simp only [J4,H1,if_true];rw [nb (by omega)]
    have:=ih (i+1) (acc++[l[i]]) (by omega) (by simp; omega)
    rw [E0] at this;simp only [H1];simpa [wo,ai] using this
 have h:=key l.length 0 [] (by omega) (K0 _)
 rw [e126_0_0];simp only [C6,D2,D5,E4,B6] at h ⊢;simp only [h,nv0,nvS,dvI,dvB,dvS,dvL,B5,E2,H1,H2]
theorem r71 (l r:List ByteArray) (hl:l.length<=2097152) (hr:r.length<=maxLen):rn ⟨71,0,0⟩ [.sl (l.map ai),.sl (r.map ai)]=some (0,[.sl ((wo l r).map ai)]):=by
 have key:∀ n i (acc:List ByteArray),i+n=l.length->acc.length<=i->rn ⟨71,0,1⟩ [.sl (l.map ai),.sl (r.map ai),.int (i:Int),.sl (acc.map ai)]=some (0,[.sl ((acc++wo (l.drop i) r).map ai)]):=by
  intro n;induction n with
  | zero =>
   intro i acc hi ha;obtain rfl:i=l.length:=by omega
   rw [e71_0_1];simp only [B6,C0,D7,H4,H2,C9,wo,List.filter_nil,J3]
  | succ n ih =>
   intro i acc hi ha;have hlt:i<l.length:=by omega
   rw [e71_0_1,B8 hlt];simp only [B6,C0,hlt,H3,H1,ba,B9,ae hlt,ag hlt (br (by omega)),ai,nv0,nvS,dvI,dvB,dvS,dvL,B5,r137 r hr,C5,C8]
   rw [Xu];unfold wo;rw [O9];cases hh:je r l[i] with
   | true=>simp only [D8,H2,K6,if_false]; exact ih (i+1) acc (by omega) (by omega)
   | false =>
    simp only [J4,H1,if_true];rw [nb (by omega)]
    have:=ih (i+1) (acc++[l[i]]) (by omega) (by simp; omega)
    rw [E0] at this;simp only [H1];simpa [wo,ai] using this
 have h:=key l.length 0 [] (by omega) (K0 _)
 rw [e71_0_0];simp only [C6,D2,D5,E4] at h ⊢;simp only [h,nv0,nvS,dvI,dvB,dvS,dvL,B5,E2,H1,H2]
end Go.Q.S
end
section
namespace Go.Q.S
open Go Go.Q Go.Proofs
theorem r128 (n:ByteArray) (a:List ByteArray) (r:ByteArray) (h:a.length<=1048576):rn ⟨128,0,0⟩ [.str n,.sl (a.map ai),.str r]=some (0,[.str n,.str r,.sl (a.map ai)]):=by
 rw [e128_0_0];have:=yk (a.map ai) (by rw [B6]; omega)
 simp only [this,nv0,nvS,dvI,dvB,dvS,dvL,B5]
theorem r66 (so:aa) (ops:List OpM) (ho:ow ops) (s:ByteArray):rn ⟨66,0,0⟩ [.sl so,.sl (ops.map OpM.row),.str s]=some (0,ke (dj ops s)):=by
 have hm:=ho.l;have hl:∀ n i,i+n=ops.length->rn ⟨66,0,1⟩ [.str s,.sl (ops.map OpM.row),.int (ops.length:Int),.int (i:Int),.str e0,.str e0,.sl []]=match (ops.drop i).find? (fun o=>decide (o.n=s)) with | some o=>some (1,[.str o.n,.str o.r,.sl (o.a.map ai)]) | none=>some (0,[.str e0,.str e0,.sl []]):=by
  intro n;induction n with
  | zero =>
   intro i hi;obtain rfl:i=ops.length:=by omega
   rw [e66_0_1];simp only [B6,C0,D7,H4,H2,C9,Q4]
  | succ n ih =>
   intro i hi;have hlt:i<ops.length:=by omega
   rw [e66_0_1,B8 hlt];have h1:=r128 ops[i].n ops[i].a ops[i].r (ho.a _ (C1 hlt));simp only [B6,C0,hlt,H3,H1,ba,B9,ae hlt,ag hlt (br (by omega)),OpM.row,nv0,nvS,dvI,dvB,dvS,dvL,B5,O2,ih (i+1) (by omega),h1]
   by_cases hq:ops[i].n=s <;> simp [hq]
 have h:=hl ops.length 0 (by omega)
 rw [D5] at h;simp only [C6] at h;rw [e66_0_0];simp only [B6,r119,nv0,nvS,dvI,dvB,dvS,dvL,B5,h];unfold dj;cases isB s with
 | true=>rfl
 | false =>
  cases ops.find? (fun o=>decide (o.n=s)) <;> rfl
theorem r75 (so:aa) (ops:List OpM) (ho:ow ops) (s:ByteArray):rn ⟨75,0,0⟩ [.sl so,.sl (ops.map OpM.row),.str s]=some (0,ke (dj ops s)):=by
 have hm:=ho.l;have hl:∀ n i,i+n=ops.length->rn ⟨75,0,1⟩ [.str s,.int (i:Int),.sl so,.sl (ops.map OpM.row),.str e0,.str e0,.sl []]=match (ops.drop i).find? (fun o=>decide (o.n=s)) with | some o=>some (1,[.str o.n,.str o.r,.sl (o.a.map ai)]) | none=>some (0,[.str e0,.str e0,.sl []]):=by
  intro n;induction n with
  | zero =>
   intro i hi;obtain rfl:i=ops.length:=by omega
   rw [e75_0_1];simp only [B6,C0,D7,H4,H2,C9,Q4]
  | succ n ih =>
   intro i hi;have hlt:i<ops.length:=by omega
   rw [e75_0_1,B8 hlt];have h1:ops[i].a.length<=1048576:=ho.a _ (C1 hlt);have h2:F9 (0+ops[i].a.length) M63=true:=nb (by omega)
   simp only [B6,C0,hlt,H3,H1,ba,B9,ae hlt,ag hlt (br (by omega)),OpM.row,nv0,nvS,dvI,dvB,dvS,dvL,B5,O2,ih (i+1) (by omega),C8,h2,E4]
   by_cases hq:ops[i].n=s <;> simp [hq]
 have h:=hl ops.length 0 (by omega)
 rw [D5] at h;simp only [C6] at h;rw [e75_0_0];simp only [B6,r112,nv0,nvS,dvI,dvB,dvS,dvL,B5,h];unfold dj;cases isB s with
 | true=>rfl
 | false =>
  cases ops.find? (fun o=>decide (o.n=s)) <;> rfl
theorem r27 (so:aa) (ops:List OpM) (ho:ow ops) (vs:List VS) (hv:vs.length<=1099511627776):∀ t:Tm,Wt t->rn ⟨27,0,0⟩ [.sl so,.sl (ops.map OpM.row),.int t.k,.int t.n,.str t.s,.sl (t.as.map Tm.row),.sl (vs.map VS.row)]=some (0,[.str (aw ops vs t)]):=Tm.ind fun t ih h=>by
 have hlm:=h.l;have hvl:∀ n i,i+n=vs.length->rn ⟨27,0,2⟩ [.sl (vs.map VS.row),.int (vs.length:Int),.int (i:Int),.int t.k,.int t.n,.str t.s,.sl (t.as.map Tm.row)]=match (vs.drop i).find? (fun v=>decide (v.1=t.s)) with | some v=>some (1,[.str v.2]) | none=>some (0,[]):=by
  intro n;induction n with
  | zero =>
   intro i hi;obtain rfl:i=vs.length:=by omega
   rw [e27_0_2];simp only [B6,C0,D7,H4,H2,C9,Q4]
  | succ n ih2 =>
   intro i hi;have hlt:i<vs.length:=by omega
   rw [e27_0_2,B8 hlt];simp only [B6,C0,hlt,H3,H1,ba,B9,ae hlt,ag hlt (br hv),VS.row,nv0,nvS,dvI,dvB,dvS,dvL,B5,O2,ih2 (i+1) (by omega)]
   by_cases hq:vs[i].1=t.s <;> simp [hq]
 have hal:∀ o:OpM,o.a.length=t.as.length->∀ n i,i+n=t.as.length->rn ⟨27,0,4⟩ [.sl (vs.map VS.row),.sl (t.as.map Tm.row),.int (t.as.length:Int),.int (i:Int),.sl so,.sl (ops.map OpM.row),.str o.n,.str o.r,.sl (o.a.map ai)]=bif bj ops vs (t.as.drop i) (o.a.drop i) then some (0,[.str o.n,.str o.r,.sl (o.a.map ai)]) else some (1,[.str e0]):=by
  intro o hlen n;induction n with
  | zero =>
   intro i hi;obtain rfl:i=t.as.length:=by omega
   rw [e27_0_4];simp only [B6,C0,D7,H4,H2,C9,bj,H1]
  | succ n ih2 =>
   intro i hi;have hlt:i<t.as.length:=by omega
   have hlo:i<o.a.length:=by omega
   have h1:=ih _ (C1 hlt) (h.sub (C1 hlt));rw [e27_0_4,B8 hlt,B8 hlo];simp only [B6,C0,hlt,H3,H1,ba,B9,ae hlt,ag hlt hlm,hlo,ae hlo,Tm.row_eq,ai,nv0,nvS,dvI,dvB,dvS,dvL,B5,ih2 (i+1) (by omega),h1,bj]
   by_cases hq:aw ops vs t.as[i]=e0
   · simp [hq]
   · by_cases hq2:aw ops vs t.as[i]=o.a[i]
     · have hq3:=hq; rw [hq2] at hq3
       simp [hq2,hq3]
     · simp [hq,hq2]
 have hv0:=hvl vs.length 0 (by omega)
 have ha0:=fun o ho=>hal o ho t.as.length 0 (by omega)
 simp only [D5,C6] at hv0 ha0;rw [e27_0_0,ck];by_cases h3:t.k=3
 · simp [h3]
 · by_cases h1:t.k=1
   · rw [H6 h3,H5 h1]
     simp only [h1] at hv0;simp only [B6,hv0,h1,H3,H1];unfold ql;cases vs.find? (fun v=>decide (v.1=t.s)) <;> rfl
   · rw [H6 h3,H6 h1]
     by_cases h2:t.k=2
     · rw [H5 h2]
       simp only [B6,h2,H3,H1,if_true,r66 so ops ho,nv0,nvS,dvI,dvB,dvS,dvL,B5];cases hf:dj ops t.s with
       | none=>rfl
       | some o =>
        by_cases hlen:o.a.length=t.as.length
        · simp only [ke,nv0,nvS,dvI,dvB,dvS,dvL,B5,B6,hlen,H3,ha0 o hlen]
          cases bj ops vs t.as o.a <;> rfl
        · simp only [ke,nv0,nvS,dvI,dvB,dvS,dvL,B5,B6]
          have:¬((o.a.length:Int)=(t.as.length:Int)):=by omega
          simp [this,hlen]
     · simp [h1,h2,h3]
theorem r74 (vs:List VS) (hv:vs.length<=1099511627776) (s:ByteArray):rn ⟨74,0,0⟩ [.sl (vs.map VS.row),.str s]=some (0,[.str (ql vs s)]):=by
 have hvl:∀ n i,i+n=vs.length->rn ⟨74,0,1⟩ [.sl (vs.map VS.row),.str s,.int (i:Int)]=match (vs.drop i).find? (fun v=>decide (v.1=s)) with | some v=>some (1,[.str v.2]) | none=>some (0,[]):=by
  intro n;induction n with
  | zero =>
   intro i hi;obtain rfl:i=vs.length:=by omega
   rw [e74_0_1];simp only [B6,C0,D7,H4,H2,C9,Q4]
  | succ n ih2 =>
   intro i hi;have hlt:i<vs.length:=by omega
   rw [e74_0_1,B8 hlt];simp only [B6,C0,hlt,H3,H1,ba,B9,ae hlt,ag hlt (br hv),VS.row,nv0,nvS,dvI,dvB,dvS,dvL,B5,O2,ih2 (i+1) (by omega)]
   by_cases hq:vs[i].1=s <;> simp [hq]
 have hv0:=hvl vs.length 0 (by omega)
 simp only [D5,C6] at hv0;rw [e74_0_0];rw [hv0];unfold ql;cases vs.find? (fun v=>decide (v.1=s)) <;> rfl
theorem r32 (so:aa) (ops:List OpM) (ho:ow ops) (vs:List VS) (hv:vs.length<=1099511627776):∀ t:Tm,Wt t->rn ⟨32,0,0⟩ [.sl so,.sl (ops.map OpM.row),.int t.k,.int t.n,.str t.s,.sl (t.as.map Tm.row),.sl (vs.map VS.row)]=some (0,[.str (aw ops vs t)]):=Tm.ind fun t ih h=>by
 have hlm:=h.l;have hal:∀ o:OpM,o.a.length=t.as.length->∀ n i,i+n=t.as.length->rn ⟨32,0,2⟩ [.sl (vs.map VS.row),.int (i:Int),.sl so,.sl (ops.map OpM.row),.int t.k,.int t.n,.str t.s,.sl (t.as.map Tm.row),.str o.n,.str o.r,.sl (o.a.map ai)]=bif bj ops vs (t.as.drop i) (o.a.drop i) then some (0,[.str o.n,.str o.r,.sl (o.a.map ai)]) else some (1,[.str e0]):=by
  intro o hlen n;induction n with
  | zero =>
   intro i hi;obtain rfl:i=t.as.length:=by omega
   rw [e32_0_2];simp only [B6,C0,D7,H4,H2,C9,bj,H1]
  | succ n ih2 =>
   intro i hi;have hlt:i<t.as.length:=by omega
   have hlo:i<o.a.length:=by omega
   have h1:=ih _ (C1 hlt) (h.sub (C1 hlt));rw [e32_0_2,B8 hlt,B8 hlo];simp only [B6,C0,hlt,H3,H1,ba,B9,ae hlt,ag hlt hlm,hlo,ae hlo,Tm.row_eq,ai,nv0,nvS,dvI,dvB,dvS,dvL,B5,ih2 (i+1) (by omega),h1,bj]
   by_cases hq2:aw ops vs t.as[i]=o.a[i]
   · by_cases hq:o.a[i]=e0
     · simp [hq2,hq]
     · simp [hq2,hq]
   · simp [hq2]
 have ha0:=fun o ho=>hal o ho t.as.length 0 (by omega)
 simp only [D5,C6] at ha0;rw [e32_0_0,ck];by_cases h3:t.k=3
 · simp [h3]
 · by_cases h1:t.k=1
   · rw [H6 h3,H5 h1]
     simp only [h1,H3,H1,r74 vs hv,nv0,nvS,dvI,dvB,dvS,dvL,B5];rfl
   · rw [H6 h3,H6 h1]
     by_cases h2:t.k=2
     · rw [H5 h2]
       simp only [h2,H3,H1,if_true,r75 so ops ho,nv0,nvS,dvI,dvB,dvS,dvL,B5];cases hf:dj ops t.s with
       | none=>rfl
       | some o =>
        by_cases hlen:o.a.length=t.as.length
        · have:=ha0 o hlen
          rw [h2] at this;simp only [ke,nv0,nvS,dvI,dvB,dvS,dvL,B5,B6,hlen,H3,this];cases bj ops vs t.as o.a <;> rfl
        · simp only [ke,nv0,nvS,dvI,dvB,dvS,dvL,B5,B6]
          have:¬((o.a.length:Int)=(t.as.length:Int)):=by omega
          simp [this,hlen]
     · simp [h1,h2,h3]
end Go.Q.S
end
section
namespace Go.Q.S
open Go Go.Q Go.Proofs
theorem Xv (so:aa) (ops:List OpM) (ho:ow ops):∀ t:Tm,∀ (x:ByteArray) (vs:List VS),Wt t->vs.length+t.nodes<=4194304->rn ⟨199,1,0⟩ [.sl so,.sl (ops.map OpM.row),.int t.k,.int t.n,.str t.s,.sl (t.as.map Tm.row),.str x,.sl (vs.map VS.row)]=some (0,Bh ops t x vs):=Tm.ind fun t ih x vs h hb=>by
 have hlm:=h.l;have hnd:=Tm.nodes_eq t;have hvl:∀ n i,i+n=vs.length->rn ⟨199,1,1⟩ [.str x,.int (vs.length:Int),.int (i:Int),.sl (vs.map VS.row),.int t.k,.int t.n,.str t.s,.sl (t.as.map Tm.row)]=match (vs.drop i).find? (fun v=>decide (v.1=t.s)) with | some v=>some (1,[.bool (decide (v.2=x)),.sl (vs.map VS.row)]) | none=>some (0,[.str x,.sl (vs.map VS.row),.int t.k,.int t.n,.str t.s,.sl (t.as.map Tm.row)]):=by
  intro n;induction n with
  | zero =>
   intro i hi;obtain rfl:i=vs.length:=by omega
   rw [e199_1_1];simp only [B6,C0,D7,H4,H2,C9,Q4]
  | succ n ih2 =>
   intro i hi;have hlt:i<vs.length:=by omega
   rw [e199_1_1,B8 hlt];simp only [B6,C0,hlt,H3,H1,ba,B9,ae hlt,ag hlt (br (by omega)),VS.row,nv0,nvS,dvI,dvB,dvS,dvL,B5,O2,ih2 (i+1) (by omega)]
   by_cases hq:vs[i].1=t.s <;> simp [hq]
 have hal:∀ (n1 n2:ByteArray) (a:List ByteArray),a.length<=1048576->∀ n i (vs:List VS),i+n=t.as.length->vs.length+((t.as.drop i).map Tm.nodes).sum<=4194304->rn ⟨199,1,3⟩ [.sl (t.as.map Tm.row),.int (t.as.length:Int),.int (i:Int),.sl (vs.map VS.row),.sl so,.sl (ops.map OpM.row),.str n1,.str n2,.sl (a.map ai)]=match em ops (t.as.drop i) (a.drop i) vs with | some v=>some (0,[.sl (v.map VS.row)]) | none=>some (1,[.sl []]):=by
  intro n1 n2 a hal n;induction n with
  | zero =>
   intro i vs hi hb;obtain rfl:i=t.as.length:=by omega
   rw [e199_1_3];simp only [B6,C0,D7,H4,H2,C9,em]
  | succ n ih2 =>
   intro i vs hi hb;have hlt:i<t.as.length:=by omega
   have hmem:=C1 hlt;rw [B8 hlt] at hb ⊢;simp only [C2,J6] at hb;rw [e199_1_3];by_cases hla:i<a.length
   · have h1:=ih _ hmem a[i] vs (h.sub hmem) (by omega)
     rw [B8 hla];simp only [B6,C0,hlt,H3,H1,ba,B9,ae hlt,ag hlt hlm,hla,ae hla,Tm.row_eq,ai,nv0,nvS,dvI,dvB,dvS,dvL,B5,h1,em,Bh];cases hq:gn ops t.as[i] a[i] vs with
     | none=>rfl
     | some v =>
      have hv:=kf ops _ _ _ _ hq;have h2:=ih2 (i+1) v (by omega) (by omega)
      simp only [nv0,nvS,dvI,dvB,dvS,dvL,B5,h2,D8,H2]
   · have h1:=ih _ hmem e0 vs (h.sub hmem) (by omega)
     rw [show a.drop i=[] from P2 (by omega)]
     simp only [B6,C0,hlt,H3,H1,ba,B9,ae hlt,ag hlt hlm,hla,H4,H2,Tm.row_eq,ai,nv0,nvS,dvI,dvB,dvS,dvL,B5,h1,em,Bh];cases hq:gn ops t.as[i] e0 vs with
     | none=>rfl
     | some v =>
      have hv:=kf ops _ _ _ _ hq;have h2:=ih2 (i+1) v (by omega) (by omega)
      rw [show a.drop (i+1)=[] from P2 (by omega)] at h2
      simp only [nv0,nvS,dvI,dvB,dvS,dvL,B5,h2,D8,H2]
 have hv0:=hvl vs.length 0 (by omega)
 have ha0:=fun n1 n2 a ha=>hal n1 n2 a ha t.as.length 0 vs (by omega) (by rw [D5]; omega)
 simp only [D5,C6] at hv0 ha0;rw [e199_1_0];unfold Bh;rw [kr];by_cases h1:t.k=1
 · rw [H5 h1,H5 h1]
   simp only [h1] at hv0;have hb2:F9 (vs.length+1) M63=true:=nb (by omega)
   simp only [B6,h1,H3,H1,hv0];cases hq:vs.find? (fun v=>decide (v.1=t.s)) with
   | none=>simp only [nv0,nvS,dvI,dvB,dvS,dvL,B5,E2,H1,H2,B6,C5,C8,E1,hb2,E0]; rfl
   | some v =>
    simp only [nv0,nvS,dvI,dvB,dvS,dvL,B5,E2,H1,H2,show E5 1 0=false from rfl]
    by_cases hq2:v.2=x <;> simp [hq2]
 · rw [H6 h1,H6 h1]
   by_cases h2:t.k=2
   · simp only [B6,h2,H3,H1,if_true,r66 so ops ho,nv0,nvS,dvI,dvB,dvS,dvL,B5]
     cases hf:dj ops t.s with
     | none =>
      simp only [ke,nv0,nvS,dvI,dvB,dvS,dvL,B5];rw [show ([]:aa)=([]:List ByteArray).map ai from rfl,ha0 e0 e0 [] (by simp)]
      cases em ops t.as [] vs <;> rfl
     | some o =>
      have hok:o.ok:=Aa ho.a hf;simp only [ke,nv0,nvS,dvI,dvB,dvS,dvL,B5];rw [ha0 o.n o.r o.a hok];cases em ops t.as o.a vs <;> rfl
   · simp only [B6,h1,h2,H4,H2,if_false]
     rw [show ([]:aa)=([]:List ByteArray).map ai from rfl,ha0 e0 e0 [] (by simp)]
     cases em ops t.as [] vs <;> rfl
theorem Xw (so:aa) (ops:List OpM) (ho:ow ops):∀ t:Tm,∀ (x:ByteArray) (vs:List VS),Wt t->vs.length+t.nodes<=4194304->rn ⟨203,1,0⟩ [.sl so,.sl (ops.map OpM.row),.int t.k,.int t.n,.str t.s,.sl (t.as.map Tm.row),.str x,.sl (vs.map VS.row)]=some (0,Bh ops t x vs):=Tm.ind fun t ih x vs h hb=>by
 have hlm:=h.l;have hnd:=Tm.nodes_eq t;have hvl:∀ n i,i+n=vs.length->rn ⟨203,1,1⟩ [.str x,.int (i:Int),.sl (vs.map VS.row),.int t.k,.int t.n,.str t.s,.sl (t.as.map Tm.row)]=match (vs.drop i).find? (fun v=>decide (v.1=t.s)) with | some v=>some (1,[.bool (decide (v.2=x)),.sl (vs.map VS.row)]) | none=>some (0,[.str x,.sl (vs.map VS.row),.int t.k,.int t.n,.str t.s,.sl (t.as.map Tm.row)]):=by
  intro n;induction n with
  | zero =>
   intro i hi;obtain rfl:i=vs.length:=by omega
   rw [e203_1_1];simp only [B6,C0,D7,H4,H2,C9,Q4]
  | succ n ih2 =>
   intro i hi;have hlt:i<vs.length:=by omega
   rw [e203_1_1,B8 hlt];simp only [B6,C0,hlt,H3,H1,ba,B9,ae hlt,ag hlt (br (by omega)),VS.row,nv0,nvS,dvI,dvB,dvS,dvL,B5,O2,ih2 (i+1) (by omega)]
   by_cases hq:vs[i].1=t.s <;> simp [hq]
 have hal:∀ (n1 n2:ByteArray) (a:List ByteArray),a.length<=1048576->∀ n i (vs:List VS),i+n=t.as.length->vs.length+((t.as.drop i).map Tm.nodes).sum<=4194304->rn ⟨203,1,3⟩ [.int (i:Int),.sl (vs.map VS.row),.sl so,.sl (ops.map OpM.row),.int t.k,.int t.n,.str t.s,.sl (t.as.map Tm.row),.str n1,.str n2,.sl (a.map ai)]=match em ops (t.as.drop i) (a.drop i) vs with | some v=>some (0,[.sl (v.map VS.row)]) | none=>some (1,[.sl []]):=by
  intro n1 n2 a hal n;induction n with
  | zero =>
   intro i vs hi hb;obtain rfl:i=t.as.length:=by omega
   rw [e203_1_3];simp only [B6,C0,D7,H4,H2,C9,em]
  | succ n ih2 =>
   intro i vs hi hb;have hlt:i<t.as.length:=by omega
   have hmem:=C1 hlt;rw [B8 hlt] at hb ⊢;simp only [C2,J6] at hb;rw [e203_1_3];by_cases hla:i<a.length
   · have h1:=ih _ hmem a[i] vs (h.sub hmem) (by omega)
     rw [B8 hla];simp only [B6,C0,hlt,H3,H1,ba,B9,ae hlt,ag hlt hlm,hla,ae hla,Tm.row_eq,ai,nv0,nvS,dvI,dvB,dvS,dvL,B5,h1,em,Bh];cases hq:gn ops t.as[i] a[i] vs with
     | none=>rfl
     | some v =>
      have hv:=kf ops _ _ _ _ hq;have h2:=ih2 (i+1) v (by omega) (by omega)
      simp only [nv0,nvS,dvI,dvB,dvS,dvL,B5,h2,D8,H2]
   · have h1:=ih _ hmem e0 vs (h.sub hmem) (by omega)
     rw [show a.drop i=[] from P2 (by omega)]
     simp only [B6,C0,hlt,H3,H1,ba,B9,ae hlt,ag hlt hlm,hla,H4,H2,Tm.row_eq,ai,nv0,nvS,dvI,dvB,dvS,dvL,B5,h1,em,Bh];cases hq:gn ops t.as[i] e0 vs with
     | none=>rfl
     | some v =>
      have hv:=kf ops _ _ _ _ hq;have h2:=ih2 (i+1) v (by omega) (by omega)
      rw [show a.drop (i+1)=[] from P2 (by omega)] at h2
      simp only [nv0,nvS,dvI,dvB,dvS,dvL,B5,h2,D8,H2]
 have hv0:=hvl vs.length 0 (by omega)
 have ha0:=fun n1 n2 a ha=>hal n1 n2 a ha t.as.length 0 vs (by omega) (by rw [D5]; omega)
 simp only [D5,C6] at hv0 ha0;rw [e203_1_0];unfold Bh;rw [kr];by_cases h1:t.k=1
 · rw [H5 h1,H5 h1]
   simp only [h1] at hv0;have hb2:F9 (vs.length+1) M63=true:=nb (by omega)
   simp only [B6,h1,H3,H1,hv0];cases hq:vs.find? (fun v=>decide (v.1=t.s)) with
   | none=>simp only [nv0,nvS,dvI,dvB,dvS,dvL,B5,E2,H1,H2,B6,C5,C8,E1,hb2,E0]; rfl
   | some v =>
    simp only [nv0,nvS,dvI,dvB,dvS,dvL,B5,E2,H1,H2,show E5 1 0=false from rfl]
    by_cases hq2:v.2=x <;> simp [hq2]
 · rw [H6 h1,H6 h1]
   by_cases h2:t.k=2
   · simp only [h2] at ha0
     simp only [B6,h2,H3,H1,if_true,r75 so ops ho,nv0,nvS,dvI,dvB,dvS,dvL,B5];cases hf:dj ops t.s with
     | none =>
      simp only [ke,nv0,nvS,dvI,dvB,dvS,dvL,B5];rw [show ([]:aa)=([]:List ByteArray).map ai from rfl,ha0 e0 e0 [] (by simp)]
      cases em ops t.as [] vs <;> rfl
     | some o =>
      have hok:o.ok:=Aa ho.a hf;simp only [ke,nv0,nvS,dvI,dvB,dvS,dvL,B5];rw [ha0 o.n o.r o.a hok];cases em ops t.as o.a vs <;> rfl
   · simp only [B6,h1,h2,H4,H2,if_false]
     rw [show ([]:aa)=([]:List ByteArray).map ai from rfl,ha0 e0 e0 [] (by simp)]
     cases em ops t.as [] vs <;> rfl
theorem r172 (so:aa) (ops:List OpM) (ho:ow ops) (t:Tm) (h:Wt t) (hn:t.nodes<=1048577) (x:ByteArray):rn ⟨172,0,0⟩ [.sl so,.sl (ops.map OpM.row),.int t.k,.int t.n,.str t.s,.sl (t.as.map Tm.row),.str x]=some (0,tu (oz ops t x)):=by
 have h1:=Xv so ops ho t x [] h (by simp; omega)
 rw [D2] at h1;rw [e172_0_0,h1];unfold Bh oz;cases hq:gn ops t x [] with
 | none=>rfl
 | some vs =>
  have hv:=kf ops _ _ _ _ hq;rw [C8] at hv;have h2:=r27 so ops ho vs (by omega) t h
  simp only [nv0,nvS,dvI,dvB,dvS,dvL,B5,h2];by_cases hx:x=e0
  · simp [hx,tu]
  · by_cases hs:aw ops vs t=x <;> simp [hx,hs,tu]
theorem r178 (so:aa) (ops:List OpM) (ho:ow ops) (t:Tm) (h:Wt t) (hn:t.nodes<=1048577) (x:ByteArray):rn ⟨178,0,0⟩ [.sl so,.sl (ops.map OpM.row),.int t.k,.int t.n,.str t.s,.sl (t.as.map Tm.row),.str x]=some (0,tu (oz ops t x)):=by
 have h1:=Xw so ops ho t x [] h (by simp; omega)
 rw [D2] at h1;rw [e178_0_0,h1];unfold Bh oz;cases hq:gn ops t x [] with
 | none=>rfl
 | some vs =>
  have hv:=kf ops _ _ _ _ hq;rw [C8] at hv;have h2:=r32 so ops ho vs (by omega) t h
  simp only [nv0,nvS,dvI,dvB,dvS,dvL,B5,h2];by_cases hx:x=e0
  · simp [hx,tu]
  · by_cases hs:aw ops vs t=x <;> simp [hx,hs,tu]
end Go.Q.S
end
section
namespace Go.Q.S
open Go Go.Q Go.Proofs
def Eu (so:List ByteArray) (o:OpM):Bool:=jh o.n&&(!isB o.n&&(decide (o.a.length<=3)&&(o.a.all (fun x=>decide (x=cy)||je so x)&&(decide (o.r=cy)||je so o.r))))
theorem Ih (so:List ByteArray) (ops:List OpM):Ab so ops=(decide (so.length<=4)&&(dis so&&(decide (ops.length<=16)&&((so.all fun x=>jh x&&!decide (x=cy))&&(ops.all (Eu so)&&dis (ops.map (·.n))))))):=rfl
theorem r117 (so:List ByteArray) (hso:so.length<=1048576) (hss:∀ x∈so,x.size<=maxLen) (ops:List OpM) (ho:ow ops) (hon:∀ o∈ops,o.n.size<=maxLen):rn ⟨117,0,0⟩ [.sl (so.map ai),.sl (ops.map OpM.row)]=some (0,[.bool (Ab so ops)]):=by
 have hm:=ho.l;have hl1:∀ n i,i+n=so.length->rn ⟨117,0,1⟩ [.sl (so.map ai),.int (so.length:Int),.int (i:Int),.sl (so.map ai),.sl (ops.map OpM.row)]=bif (so.drop i).all (fun x=>jh x&&!decide (x=cy)) then some (0,[.sl (so.map ai),.sl (ops.map OpM.row)]) else some (1,[]):=by
  intro n;induction n with
  | zero =>
   intro i hi;obtain rfl:i=so.length:=by omega
   rw [e117_0_1];simp only [B6,C0,D7,H4,H2,C9,N5,H1]
  | succ n ih =>
   intro i hi;have hlt:i<so.length:=by omega
   rw [e117_0_1,B8 hlt];have h1:=r169 so[i] (hss _ (C1 hlt));simp only [B6,C0,hlt,H3,H1,ba,B9,ae hlt,ag hlt (br (by omega)),ai,nv0,nvS,dvI,dvB,dvS,dvL,B5,h1,ih (i+1) (by omega),J8]
   cases jh so[i]
   · rfl
   · by_cases hq:so[i]=cy <;> simp [hq]
 have hl5:∀ (o:OpM),o.a.length<=1048576->∀ (x0:aa) (x1 x2:Int) (x3:ByteArray) (x4:Bool) (x5:aa) (x6:Int) (x7:Bool) (x11 x12:aa) (x13:ByteArray) (x14:aa) (x15:ByteArray),∀ n i,i+n=(o.a++[o.r]).length->rn ⟨117,0,5⟩ [.sl x0,.int x1,.int x2,.str x3,.bool x4,.sl x5,.int x6,.bool x7,.int ((o.a++[o.r]).length:Int),.int (i:Int),.sl (so.map ai),.sl x11,.sl x12,.str x13,.sl x14,.str x15,.sl ((o.a++[o.r]).map ai)]=bif ((o.a++[o.r]).drop i).all (fun x=>decide (x=cy)||je so x) then some (0,[.sl x0,.int x1,.int x2,.str x3,.bool x4,.sl x5,.int x6,.bool x7,.sl (so.map ai),.sl x11,.sl x12,.str x13,.sl x14,.str x15]) else some (1,[]):=by
  intro o hoa x0 x1 x2 x3 x4 x5 x6 x7 x11 x12 x13 x14 x15;have hL:(o.a++[o.r]).length<=1048577:=by simp; omega
  generalize o.a++[o.r]=l at hL ⊢;intro n;induction n with
  | zero =>
   intro i hi;obtain rfl:i=l.length:=by omega
   rw [e117_0_5];simp only [B6,C0,D7,H4,H2,C9,N5,H1]
  | succ n ih =>
   intro i hi;have hlt:i<l.length:=by omega
   rw [e117_0_5,B8 hlt];have h1:=Rf so (br (by omega)) l[i]
   simp only [B6,C0,hlt,H3,H1,ba,B9,ae hlt,ag hlt (br (by omega)),ai,nv0,nvS,dvI,dvB,dvS,dvL,B5,h1,ih (i+1) (by omega),J8]
   by_cases hq:l[i]=cy
   · simp [hq]
   · cases je so l[i] <;> simp [hq]
 have hl3:∀ n i (acc:List ByteArray),i+n=ops.length->acc.length<=i->rn ⟨117,0,3⟩ [.sl (ops.map OpM.row),.int (ops.length:Int),.int (i:Int),.sl (so.map ai),.sl (ops.map OpM.row),.sl (acc.map ai)]=bif (ops.drop i).all (Eu so) then some (0,[.sl ((acc++(ops.drop i).map (·.n)).map ai)]) else some (1,[]):=by
  intro n;induction n with
  | zero =>
   intro i acc hi ha;obtain rfl:i=ops.length:=by omega
   rw [e117_0_3];simp only [B6,C0,D7,H4,H2,C9,N5,H1,D2,J3]
  | succ n ih =>
   intro i acc hi ha;have hlt:i<ops.length:=by omega
   have hmem:=C1 hlt;rw [e117_0_3,B8 hlt];have h1:=r169 ops[i].n (hon _ hmem);have hoa:ops[i].a.length<=1048576:=ho.a _ hmem;have h2:=yk (ops[i].a.map ai) (by rw [B6]; omega)
   have hb:F9 (ops[i].a.length+1) M63=true:=nb (by omega)
   have hb2:F9 (acc.length+1) M63=true:=nb (by omega)
   have h5:=fun x0 x1 x2 x3 x4 x5 x6 x7 x11 x12 x13 x14 x15=>hl5 ops[i] hoa x0 x1 x2 x3 x4 x5 x6 x7 x11 x12 x13 x14 x15 (ops[i].a++[ops[i].r]).length 0 (by omega)
   simp only [D5,C6,E9,C5,C8,E1,E0,C2,D2,ai] at h5;have h6:=ih (i+1) (acc++[ops[i].n]) (by omega) (by simp; omega)
   simp only [E0,C2,D2,ai] at h6;simp only [B6,C0,hlt,H3,H1,ba,B9,ae hlt,ag hlt (br (by omega)),OpM.row,nv0,nvS,dvI,dvB,dvS,dvL,B5,h1,r119,h2,C5,C8,E1,hb,E9,J8]
   rw [show Eu so ops[i]=(jh ops[i].n&&(!isB ops[i].n&&(decide (ops[i].a.length<=3)&&(ops[i].a.all (fun x=>decide (x=cy)||je so x)&&(decide (ops[i].r=cy)||je so ops[i].r))))) from rfl]
   cases jh ops[i].n
   · rfl
   · cases isB ops[i].n
     · by_cases h3:ops[i].a.length<=3
       · have h3':¬((3:Int)<(ops[i].a.length:Int)):=by omega
         simp only [h3,h3',H3,H4,H1,H2,D8,J4,F6];rw [h5,List.all_append];simp only [J8,N5,K4];cases (ops[i].a.all (fun x=>decide (x=cy)||je so x)&&(decide (ops[i].r=cy)||je so ops[i].r)) with
         | false=>rfl
         | true =>
          simp only [H1,nv0,nvS,dvI,dvB,dvS,dvL,B5,E2,H1,H2,B6,hb2,ag hlt (br (by omega)),h6,F6]
          simp only [E0,C2,E3,G8,E4,ai]
       · have h3':((3:Int)<(ops[i].a.length:Int)):=by omega
         simp [h3,h3']
     · rfl
 have h1:=hl1 so.length 0 (by omega)
 have h3:=hl3 ops.length 0 [] (by omega) (K0 _)
 simp only [D5,C6,D2,E4] at h1 h3;have hd:=r61 so (by omega)
 have hd2:=r61 (ops.map (·.n)) (by rw [B6]; omega)
 rw [e117_0_0,Ih];simp only [B6,hd,nv0,nvS,dvI,dvB,dvS,dvL,B5];by_cases hs:so.length<=4
 · have hs':¬((4:Int)<(so.length:Int)):=by omega
   simp only [hs,hs',H3,H4,H2,F6];cases dis so
   · rfl
   · by_cases hs2:ops.length<=16
     · have hs2':¬((16:Int)<(ops.length:Int)):=by omega
       simp only [hs2,hs2',H3,H4,H2,F6,D8,h1];cases so.all (fun x=>jh x&&!decide (x=cy))
       · rfl
       · simp only [H1,nv0,nvS,dvI,dvB,dvS,dvL,B5,E2,H1,H2,B6,h3,F6]
         cases ops.all (Eu so)
         · rfl
         · simp only [H1,nv0,nvS,dvI,dvB,dvS,dvL,B5,E2,H1,H2,hd2,F6]
     · have hs2':((16:Int)<(ops.length:Int)):=by omega
       simp [hs2,hs2']
 · have hs':((4:Int)<(so.length:Int)):=by omega
   simp [hs,hs']
theorem r204 (so:List ByteArray) (hso:so.length<=1048576) (ops:aa) (x:ByteArray):rn ⟨204,0,0⟩ [.sl (so.map ai),.sl ops,.str x]=some (0,[.bool (decide (x=cy)||je so x)]):=by
 have h1:=r137 so (br (by omega)) x
 rw [e204_0_0];simp only [h1,nv0,nvS,dvI,dvB,dvS,dvL,B5,Et];by_cases hq:x=cy <;> simp [hq]
theorem r179 (so:List ByteArray) (hso:so.length<=1048576) (ops:aa) (o:OpM) (hoa:o.a.length<=1048576) (hon:o.n.size<=maxLen):rn ⟨179,0,0⟩ [.sl (so.map ai),.sl ops,.str o.n,.sl (o.a.map ai),.str o.r]=some (0,[.bool (Eu so o)]):=by
 have hl:∀ n i,i+n=o.a.length->rn ⟨179,0,1⟩ [.int (i:Int),.sl (so.map ai),.sl ops,.str o.n,.sl (o.a.map ai),.str o.r]=bif (o.a.drop i).all (fun x=>decide (x=cy)||je so x) then some (0,[.sl (so.map ai),.sl ops,.str o.n,.sl (o.a.map ai),.str o.r]) else some (1,[]):=by
  intro n;induction n with
  | zero =>
   intro i hi;obtain rfl:i=o.a.length:=by omega
   rw [e179_0_1];simp only [B6,C0,D7,H4,H2,C9,N5,H1]
  | succ n ih =>
   intro i hi;have hlt:i<o.a.length:=by omega
   rw [e179_0_1,B8 hlt];have h1:=r204 so hso ops o.a[i];simp only [B6,C0,hlt,H3,H1,ba,B9,ae hlt,ag hlt (br (by omega)),ai,nv0,nvS,dvI,dvB,dvS,dvL,B5,h1,ih (i+1) (by omega),J8]
   cases (decide (o.a[i]=cy)||je so o.a[i]) <;> rfl
 have h:=hl o.a.length 0 (by omega)
 simp only [D5,C6] at h;have hn:=r176 o.n hon;rw [e179_0_0,h];unfold Eu;cases (o.a.all fun x=>decide (x=cy)||je so x) with
 | false=>cases jh o.n <;> cases isB o.n <;> cases decide (o.a.length<=3) <;> rfl
 | true =>
  have i3:((o.a.length:Int)<=3)↔o.a.length<=3:=by omega
  simp only [H1,nv0,nvS,dvI,dvB,dvS,dvL,B5,E2,H1,H2,hn,r112,r204 so hso ops,B6,i3,F6];cases jh o.n <;> cases isB o.n <;> cases decide (o.a.length<=3) <;> rfl
theorem r130 (so:List ByteArray) (hso:so.length<=1048576) (hss:∀ x∈so,x.size<=maxLen) (ops:List OpM) (ho:ow ops) (hon:∀ o∈ops,o.n.size<=maxLen):rn ⟨130,0,0⟩ [.sl (so.map ai),.sl (ops.map OpM.row)]=some (0,[.bool (Ab so ops)]):=by
 have hm:=ho.l;have hl1:∀ n i,i+n=so.length->rn ⟨130,0,1⟩ [.int (i:Int),.sl (so.map ai),.sl (ops.map OpM.row),.sl []]=bif (so.drop i).all (fun x=>jh x&&!decide (x=cy)) then some (0,[.sl (so.map ai),.sl (ops.map OpM.row),.sl []]) else some (1,[]):=by
  intro n;induction n with
  | zero =>
   intro i hi;obtain rfl:i=so.length:=by omega
   rw [e130_0_1];simp only [B6,C0,D7,H4,H2,C9,N5,H1]
  | succ n ih =>
   intro i hi;have hlt:i<so.length:=by omega
   rw [e130_0_1,B8 hlt];have h1:=r176 so[i] (hss _ (C1 hlt));simp only [B6,C0,hlt,H3,H1,ba,B9,ae hlt,ag hlt (br (by omega)),ai,nv0,nvS,dvI,dvB,dvS,dvL,B5,h1,ih (i+1) (by omega),J8]
   cases jh so[i]
   · rfl
   · by_cases hq:so[i]=cy <;> simp [hq]
 have hl3:∀ n i (acc:List ByteArray),i+n=ops.length->acc.length<=i->rn ⟨130,0,3⟩ [.int (i:Int),.sl (so.map ai),.sl (ops.map OpM.row),.sl (acc.map ai)]=bif (ops.drop i).all (Eu so) then some (0,[.sl (so.map ai),.sl (ops.map OpM.row),.sl ((acc++(ops.drop i).map (·.n)).map ai)]) else some (1,[]):=by
  intro n;induction n with
  | zero =>
   intro i acc hi ha;obtain rfl:i=ops.length:=by omega
   rw [e130_0_3];simp only [B6,C0,D7,H4,H2,C9,N5,H1,D2,J3]
  | succ n ih =>
   intro i acc hi ha;have hlt:i<ops.length:=by omega
   have hmem:=C1 hlt;rw [e130_0_3,B8 hlt];have h1:=r179 so hso (ops.map OpM.row) ops[i] (ho.a _ hmem) (hon _ hmem);have hb2:F9 (acc.length+1) M63=true:=nb (by omega)
   have h6:=ih (i+1) (acc++[ops[i].n]) (by omega) (by simp; omega)
   simp only [E0,C2,D2,ai] at h6;simp only [B6,C0,hlt,H3,H1,ba,B9,ae hlt,ag hlt (br (by omega)),OpM.row,nv0,nvS,dvI,dvB,dvS,dvL,B5,h1,C5,C8,E1,hb2,h6,J8]
   cases Eu so ops[i] with
   | false=>rfl
   | true=>simp only [E0,C2,E3,G8,E4,ai,D8,H2,H1,F6]
 have h1:=hl1 so.length 0 (by omega)
 have h3:=hl3 ops.length 0 [] (by omega) (K0 _)
 simp only [D5,C6,D2,E4] at h1 h3;have hd:=r131 so (br (by omega))
 have hd2:=r131 (ops.map (·.n)) (by rw [B6]; exact br (by omega))
 rw [e130_0_0,Ih,h1];have i1:((so.length:Int)<=4)↔so.length<=4:=by omega
 have i2:((ops.length:Int)<=16)↔ops.length<=16:=by omega
 cases so.all (fun x=>jh x&&!decide (x=cy)) with
 | false=>cases decide (so.length<=4) <;> cases dis so <;> cases decide (ops.length<=16) <;> rfl
 | true =>
  simp only [H1,nv0,nvS,dvI,dvB,dvS,dvL,B5,E2,H1,H2,h3,F6];cases ops.all (Eu so) with
  | false=>cases decide (so.length<=4) <;> cases dis so <;> cases decide (ops.length<=16) <;> rfl
  | true =>
   simp only [H1,nv0,nvS,dvI,dvB,dvS,dvL,B5,E2,H1,H2,B6,hd,hd2,i1,i2,F6];cases decide (so.length<=4) <;> cases dis so <;> cases decide (ops.length<=16) <;> rfl
end Go.Q.S
end
section
namespace Go.Q.S
open Go Go.Q Go.Proofs
theorem r171:∀ t:Tm,Wt t->rn ⟨171,0,0⟩ [.int t.k,.int t.n,.str t.s,.sl (t.as.map Tm.row)]=some (0,[.bool (qm t)]):=Tm.ind fun t ih h=>by
 have hlm:=h.l;have hl:∀ n i,i+n=t.as.length->rn ⟨171,0,1⟩ [.sl (t.as.map Tm.row),.int (t.as.length:Int),.int (i:Int)]=bif kg (t.as.drop i) then some (0,[]) else some (1,[]):=by
  intro n;induction n with
  | zero =>
   intro i hi;obtain rfl:i=t.as.length:=by omega
   rw [e171_0_1];simp only [B6,C0,D7,H4,H2,C9,kg,H1]
  | succ n ih2 =>
   intro i hi;have hlt:i<t.as.length:=by omega
   rw [e171_0_1,B8 hlt];have h1:=ih _ (C1 hlt) (h.sub (C1 hlt));simp only [B6,C0,hlt,H3,H1,ba,B9,ae hlt,ag hlt hlm,Tm.row_eq,nv0,nvS,dvI,dvB,dvS,dvL,B5,h1,ih2 (i+1) (by omega),kg]
   cases qm t.as[i] <;> simp
 have h0:=hl t.as.length 0 (by omega)
 simp only [D5,C6] at h0;rw [e171_0_0,Hg];simp only [B6,h0,r119,nv0,nvS,dvI,dvB,dvS,dvL,B5];by_cases h2:t.k=2 <;> cases isB t.s <;> cases kg t.as <;> simp [h2] <;> rfl
theorem r177:∀ t:Tm,Wt t->rn ⟨177,0,0⟩ [.int t.k,.int t.n,.str t.s,.sl (t.as.map Tm.row)]=some (0,[.bool (!qm t)]):=Tm.ind fun t ih h=>by
 have hlm:=h.l;have hl:∀ n i,i+n=t.as.length->rn ⟨177,0,1⟩ [.int (i:Int),.int t.k,.int t.n,.str t.s,.sl (t.as.map Tm.row)]=bif kg (t.as.drop i) then some (0,[.int t.k,.int t.n,.str t.s,.sl (t.as.map Tm.row)]) else some (1,[]):=by
  intro n;induction n with
  | zero =>
   intro i hi;obtain rfl:i=t.as.length:=by omega
   rw [e177_0_1];simp only [B6,C0,D7,H4,H2,C9,kg,H1]
  | succ n ih2 =>
   intro i hi;have hlt:i<t.as.length:=by omega
   rw [e177_0_1,B8 hlt];have h1:=ih _ (C1 hlt) (h.sub (C1 hlt));simp only [B6,C0,hlt,H3,H1,ba,B9,ae hlt,ag hlt hlm,Tm.row_eq,nv0,nvS,dvI,dvB,dvS,dvL,B5,h1,ih2 (i+1) (by omega),kg]
   cases qm t.as[i] <;> simp
 have h0:=hl t.as.length 0 (by omega)
 simp only [D5,C6] at h0;rw [e177_0_0,Hg,h0];cases kg t.as with
 | false=>cases (!(decide (t.k=2)&&isB t.s)) <;> rfl
 | true =>
  simp only [H1,nv0,nvS,dvI,dvB,dvS,dvL,B5,E2,H1,H2,r112];by_cases h2:t.k=2 <;> cases isB t.s <;> simp [h2]
theorem r64 (t:Tm) (h:t.nodes<=1048577) (ns:List ByteArray) (hn:ns.length<=maxLen):rn ⟨64,0,0⟩ [.int t.k,.int t.n,.str t.s,.sl (t.as.map Tm.row),.sl (ns.map ai)]=some (0,[.bool (fh t ns)]):=by
 have h1:=r127 t h;have h2:=r126 t.names ns (by have:=cq t; omega) hn
 rw [e64_0_0];simp only [h1,nv0,nvS,dvI,dvB,dvS,dvL,B5,h2,B6];have h3:=Jo t.names ns;have i1:(((wo t.names ns).length:Int)=0)↔(wo t.names ns).length=0:=by omega
 simp only [i1];rw [h3]; rfl
theorem r72 (t:Tm) (h:t.nodes<=1048577):rn ⟨72,0,0⟩ [.int t.k,.int t.n,.str t.s,.sl (t.as.map Tm.row)]=some (0,[.sl ((cu t.names).map ai)]):=by
 have hn:=cq t;have h1:=r139 t [] h (by simp; omega)
 have h2:=r138 t.names (by omega)
 rw [e72_0_0];rw [E4] at h1;simp only [h1,nv0,nvS,dvI,dvB,dvS,dvL,B5,h2]
theorem r67 (k:Int):rn ⟨67,0,0⟩ [.int k]=some (0,[.bool (decide (1<=k)&&decide (k<=3))]):=by
 rw [e67_0_0];cases decide (1<=k) <;> rfl
theorem r28 (so:aa) (ops:List OpM) (ho:ow ops) (vs:List VS) (hv:vs.length<=1099511627776) (ns:List ByteArray) (hn:ns.length<=maxLen) (hvn:∀ v∈vs,v.1∈ns) (gs:List Gu) (hg:gs.length<=1048576) (hgb:∀ g∈gs,GuB g):rn ⟨28,0,0⟩ [.sl so,.sl (ops.map OpM.row),.sl (gs.map Gu.row),.sl (vs.map VS.row),.sl (ns.map ai)]=some (0,[.bool (xf ops vs gs)]):=by
 have hl:∀ n i,i+n=gs.length->rn ⟨28,0,1⟩ [.sl (gs.map Gu.row),.sl (vs.map VS.row),.sl (ns.map ai),.sl (gs.map Gu.row),.int (gs.length:Int),.int (i:Int),.sl so,.sl (ops.map OpM.row)]=bif (gs.drop i).all (qg ops vs) then some (0,[.sl (gs.map Gu.row)]) else some (1,[]):=by
  intro n;induction n with
  | zero =>
   intro i hi;obtain rfl:i=gs.length:=by omega
   rw [e28_0_1];simp only [B6,C0,D7,H4,H2,C9,N5,H1]
  | succ n ih =>
   intro i hi;have hlt:i<gs.length:=by omega
   rw [e28_0_1,B8 hlt];have hb:=hgb _ (C1 hlt);have hw:qg ops vs gs[i]=true->_:=fun h=>Hi hvn h
   have h1:=r63 gs[i].l (F5 hb.ln (by decide)) hb.wl
   have h2:=r63 gs[i].r (F5 hb.rn (by decide)) hb.wr
   have h3:=r64 gs[i].l hb.ln ns hn;have h4:=r64 gs[i].r hb.rn ns hn;have h5:=r27 so ops ho vs hv gs[i].l hb.wl;have h6:=r27 so ops ho vs hv gs[i].r hb.wr;simp only [B6,C0,hlt,H3,H1,ba,B9,ae hlt,ag hlt (br (by omega)),Gu.row,nv0,nvS,dvI,dvB,dvS,dvL,B5,h1,h2,h3,h4,h5,h6,r67,ih (i+1) (by omega),J8]
   unfold qg at hw ⊢;generalize (decide (1<=gs[i].k)&&decide (gs[i].k<=3))=bk at hw ⊢;generalize gs[i].l.valid=b1 at hw ⊢;generalize gs[i].r.valid=b2 at hw ⊢;generalize fh gs[i].l ns=w1 at hw ⊢;generalize fh gs[i].r ns=w2 at hw ⊢;generalize aw ops vs gs[i].l=s1 at hw ⊢;generalize aw ops vs gs[i].r=s2 at hw ⊢;cases bk
   · rfl
   · cases b1
     · rfl
     · cases b2
       · rfl
       · by_cases q1:s1=e0
         · cases w1 <;> cases w2 <;> simp [q1]
         · by_cases q2:s1=s2
           · by_cases q3:gs[i].k=3
             · by_cases q4:s1=cy
               · have:=hw (by simp [q1,<- q2,q3,q4])
                 simp [this.1,this.2,q1,<- q2,q3,q4]
               · cases w1 <;> cases w2 <;> simp [q1,<- q2,q3,q4]
             · have:=hw (by simp [q1,<- q2,q3])
               simp [this.1,this.2,q1,<- q2,q3]
           · cases w1 <;> cases w2 <;> simp [q1,q2]
 have h0:=hl gs.length 0 (by omega)
 simp only [D5,C6] at h0;rw [e28_0_0];simp only [B6,h0,xf];cases gs.all (qg ops vs) with
 | false=>rfl
 | true =>
  have i1:((gs.length:Int)<=2)↔gs.length<=2:=by omega
  simp only [H1,nv0,nvS,dvI,dvB,dvS,dvL,B5,E2,H1,H2,B6,i1,F6]
theorem r73 (k:Int):∃ s,rn ⟨73,0,0⟩ [.int k]=some (0,[.str s])/\decide (s=e0)=!(decide (1<=k)&&decide (k<=3)):=by
 rw [e73_0_0];simp only [rIn,nv0,nvS,dvI,dvB,dvS,dvL,B5];by_cases h1:1<=k
 · by_cases h2:k<=3
   · obtain h | h | h:k=1\/k=2\/k=3:=by omega
     all_goals subst h; exact ⟨_,rfl,by decide⟩
   · refine ⟨e0,by simp [h1,h2],by simp [h1,h2]⟩
 · refine ⟨e0,by simp [h1],by simp [h1]⟩
theorem r31 (so:aa) (ops:List OpM) (ho:ow ops) (vs:List VS) (hv:vs.length<=1099511627776) (g:Gu) (hb:GuB g):rn ⟨31,0,0⟩ [.sl so,.sl (ops.map OpM.row),.int g.k,.int (g.l).k,.int (g.l).n,.str (g.l).s,.sl ((g.l).as.map Tm.row),.int (g.r).k,.int (g.r).n,.str (g.r).s,.sl ((g.r).as.map Tm.row),.sl (vs.map VS.row)]=some (0,[.bool (qg ops vs g)]):=by
 have h1:=r70 g.l (F5 hb.ln (by decide)) hb.wl
 have h2:=r70 g.r (F5 hb.rn (by decide)) hb.wr
 have h5:=r32 so ops ho vs hv g.l hb.wl;have h6:=r32 so ops ho vs hv g.r hb.wr;obtain ⟨s,h7,h8⟩:=r73 g.k;rw [e31_0_0];simp only [nv0,nvS,dvI,dvB,dvS,dvL,B5,h1,h2,h5,h6,h7,h8];unfold qg;generalize aw ops vs g.l=s1;generalize aw ops vs g.r=s2;cases (decide (1<=g.k)&&decide (g.k<=3)) <;> cases g.l.valid <;> cases g.r.valid <;> try rfl
 by_cases q1:s1=e0
 · simp [q1]
 · by_cases q2:s2=s1
   · by_cases q3:g.k=3 <;> simp [q1,q2,q3]
   · have q2':¬ s1=s2:=fun e=>q2 e.symm
     simp [q1,q2,q2']
theorem r118 (so:aa) (ops:List OpM) (ho:ow ops) (r:RuM) (hb:RuB r):rn ⟨118,0,0⟩ [.sl so,.sl (ops.map OpM.row),.str r.n,.int (r.l).k,.int (r.l).n,.str (r.l).s,.sl ((r.l).as.map Tm.row),.int (r.r).k,.int (r.r).n,.str (r.r).s,.sl ((r.r).as.map Tm.row),.sl (r.g.map Gu.row)]=some (0,[.bool (jg ops r)]):=by
 have h1:=r169 r.n hb.n;have h2:=r63 r.l (F5 hb.ln (by decide)) hb.wl
 have h3:=r171 r.l hb.wl;have h4:=r63 r.r (F5 hb.rn (by decide)) hb.wr
 have h5:=r66 so ops ho r.l.s;have h7:=r127 r.l hb.ln;have hnl:=cq r.l;have hln:=hb.ln;rw [e118_0_0];simp only [h1,h2,h3,h4,h5,nv0,nvS,dvI,dvB,dvS,dvL,B5];unfold jg;cases jh r.n <;> try rfl
 cases r.l.valid <;> try rfl
 by_cases q:r.l.k=2
 · simp only [q,H3,D8,H2,F6]
   cases qm r.l <;> try rfl
   cases r.r.valid <;> try rfl
   cases hf:dj ops r.l.s with
   | none=>rfl
   | some o =>
    have h6:=r172 so ops ho r.l hb.wl hb.ln o.r;simp only [q] at h6 h7;simp only [ke,nv0,nvS,dvI,dvB,dvS,dvL,B5,h6,h7,D8,H2,F6];cases hi:oz ops r.l o.r with
    | none=>rfl
    | some vs =>
     have hvl:=Hh hi;have h8:=r27 so ops ho vs (by omega) r.r hb.wr
     have h9:=r64 r.r hb.rn r.l.names (br (by omega))
     have h10:=r28 so ops ho vs (by omega) r.l.names (br (by omega)) (Jn hi) r.g hb.g hb.ga
     simp only [tu,nv0,nvS,dvI,dvB,dvS,dvL,B5,h8,h9,h10,D8,H2];by_cases q2:aw ops vs r.r=o.r
     · cases fh r.r r.l.names <;> simp [q2]
     · simp [q2]
 · simp [q]
theorem r129 (so:aa) (ops:List OpM) (ho:ow ops) (r:RuM) (hb:RuB r):rn ⟨129,0,0⟩ [.sl so,.sl (ops.map OpM.row),.str r.n,.int (r.l).k,.int (r.l).n,.str (r.l).s,.sl ((r.l).as.map Tm.row),.int (r.r).k,.int (r.r).n,.str (r.r).s,.sl ((r.r).as.map Tm.row),.sl (r.g.map Gu.row)]=some (0,[.bool (jg ops r)]):=by
 have h1:=r176 r.n hb.n;have h2:=r70 r.l (F5 hb.ln (by decide)) hb.wl
 have h3:=r177 r.l hb.wl;have h4:=r70 r.r (F5 hb.rn (by decide)) hb.wr
 have h5:=r75 so ops ho r.l.s;have h7:=r72 r.l hb.ln;have h9:=r72 r.r hb.rn;have hnl:=cq r.l;have hnr:=cq r.r;have hsl:=ia r.l.names;have hsr:=ia r.r.names;have hln:=hb.ln;have hrn:=hb.rn;have hgl:=hb.g;have h10:=r71 (cu r.r.names) (cu r.l.names) (by omega) (br (by omega))
 have hl:∀ vs:List VS,vs.length<=1099511627776->∀ n i,i+n=r.g.length->rn ⟨129,0,1⟩ [.int (i:Int),.sl so,.sl (ops.map OpM.row),.str r.n,.int (r.l).k,.int (r.l).n,.str (r.l).s,.sl ((r.l).as.map Tm.row),.int (r.r).k,.int (r.r).n,.str (r.r).s,.sl ((r.r).as.map Tm.row),.sl (r.g.map Gu.row),.sl (vs.map VS.row)]=bif (r.g.drop i).all (qg ops vs) then some (0,[]) else some (1,[]):=by
  intro vs hv n;induction n with
  | zero =>
   intro i hi;obtain rfl:i=r.g.length:=by omega
   rw [e129_0_1];simp only [B6,C0,D7,H4,H2,C9,N5,H1]
  | succ n ih =>
   intro i hi;have hlt:i<r.g.length:=by omega
   rw [e129_0_1,B8 hlt];have h1:=r31 so ops ho vs hv r.g[i] (hb.ga _ (C1 hlt));simp only [B6,C0,hlt,H3,H1,ba,B9,ae hlt,ag hlt (br (by omega)),Gu.row,nv0,nvS,dvI,dvB,dvS,dvL,B5,h1,ih (i+1) (by omega),J8]
   cases qg ops vs r.g[i] <;> simp
 rw [e129_0_0];simp only [h1,h2,h3,h4,h5,nv0,nvS,dvI,dvB,dvS,dvL,B5,B6];unfold jg;cases jh r.n <;> try rfl
 cases r.l.valid <;> try rfl
 by_cases q:r.l.k=2
 · simp only [q,H3,D8,H2,F6,Bool.not_not]
   cases r.r.valid
   · cases qm r.l <;> rfl
   · cases qm r.l <;> try rfl
     simp only [D8,H2,F6];by_cases q5:r.g.length<=2
     · have q5':¬((2:Int)<(r.g.length:Int)):=by omega
       cases hf:dj ops r.l.s with
       | none =>
        have h6:=r178 so ops ho r.l hb.wl hb.ln e0;have:oz ops r.l e0=none:=by unfold oz; cases gn ops r.l e0 [] <;> simp
        rw [this] at h6;simp only [q] at h6;simp only [ke,nv0,nvS,dvI,dvB,dvS,dvL,B5,h6,q5',H4,H2,tu,J4,H1]
       | some o =>
        have h6:=r178 so ops ho r.l hb.wl hb.ln o.r;simp only [q] at h6 h7 hl;simp only [ke,nv0,nvS,dvI,dvB,dvS,dvL,B5,h6,q5',H4,H2];cases hi:oz ops r.l o.r with
        | none=>rfl
        | some vs =>
         have hvl:=Hh hi;have h8:=r32 so ops ho vs (by omega) r.r hb.wr
         have h11:=hl vs (by omega) r.g.length 0 (by omega)
         simp only [D5,C6] at h11;simp only [tu,nv0,nvS,dvI,dvB,dvS,dvL,B5,h8,h7,h9,h10,B6,h11,D8,H2];by_cases q2:aw ops vs r.r=o.r
         · have hw:=Ww r.r r.l
           cases hw2:fh r.r r.l.names with
           | true =>
            rw [hw2] at hw;have:(wo (cu r.r.names) (cu r.l.names)).length=0:=hw.2 rfl;simp only [q2,this,H3,D8,H2,C6,Int.lt_irrefl,H4,xf,q5,K4,F6];cases r.g.all (qg ops vs) <;> rfl
           | false =>
            rw [hw2] at hw;have:¬(wo (cu r.r.names) (cu r.l.names)).length=0:=fun h=>by have:=hw.1 h; simp at this
            have:0<(wo (cu r.r.names) (cu r.l.names)).length:=by omega
            simp [q2,this]
         · simp [q2]
     · have q5':((2:Int)<(r.g.length:Int)):=by omega
       simp only [q5',H3,H1,xf,q5,H4,R4];cases dj ops r.l.s with
       | none=>rfl
       | some o =>
        dsimp only;cases oz ops r.l o.r <;> rfl
 · cases r.r.valid <;> simp [q]
end Go.Q.S
end
section
namespace Go.Q.S
open Go Go.Q Go.Proofs
def vy (l:List StM) (x:StM):Bool:=l.any fun y=>decide (y.o=x.o)&&decide (y.a=x.a)
theorem Uy (l:List StM) (hl:l.length<=maxLen) (x:StM):rn ⟨120,0,0⟩ [.sl (l.map StM.row),.str x.o,.int x.a]=some (0,[.bool (vy l x)]):=by
 have key:∀ n i,i+n=l.length->(vy (l.drop i) x=false/\rn ⟨173,0,1⟩ [.sl (l.map StM.row),.int (l.length:Int),.int (i:Int),.str x.o,.int x.a]=some (0,[]))\/(vy (l.drop i) x=true/\∃ j:Nat,rn ⟨173,0,1⟩ [.sl (l.map StM.row),.int (l.length:Int),.int (i:Int),.str x.o,.int x.a]=some (1,[.int (j:Int)])):=by
  intro n;induction n with
  | zero =>
   intro i hi;obtain rfl:i=l.length:=by omega
   rw [e173_0_1];simp only [B6,C0,D7,H4,H2,C9];exact .inl ⟨rfl,trivial⟩
  | succ n ih =>
   intro i hi;have hlt:i<l.length:=by omega
   rw [e173_0_1,B8 hlt];simp only [B6,C0,hlt,H3,H1,ba,B9,ae hlt,ag hlt hl,StM.row,nv0,nvS,dvI,dvB,dvS,dvL,B5,vy,R8];by_cases h1:l[i].o=x.o
   · by_cases h2:l[i].a=x.a
     · right
       refine ⟨by simp [h1,h2],i,by simp [h1,h2]⟩
     · have h2':¬ x.a=l[i].a:=fun e=>h2 e.symm
       have:=ih (i+1) (by omega)
       simpa [h1,h2,h2',vy] using this
   · have h1':¬ x.o=l[i].o:=fun e=>h1 e.symm
     have:=ih (i+1) (by omega)
     simpa [h1,h1',vy] using this
 have h:=key l.length 0 (by omega)
 simp only [D5,C6] at h;rw [e120_0_0,e173_0_0];simp only [B6];rcases h with ⟨h1,h2⟩|⟨h1,j,h2⟩
 · rw [h2,h1]; rfl
 · rw [h2,h1]
   simp only [nv0,nvS,dvI,dvB,dvS,dvL,B5,E2,H1,H2,show E5 1 0=false from rfl]
   have:(0:Int)<=(j:Int):=by omega
   simp [this]
theorem Lt (ops:List OpM) (s:StM):My ops s=match dj ops s.o with
 | none=>false
 | some o=>!isB s.o&&(decide (0<=s.a)&&decide (s.a<o.a.length)):=rfl
theorem Au (ops:List OpM) (l:List StM) {i:Nat} (h:i<l.length):kh ops (l.take i) (l.drop i)=(My ops l[i]&&(!vy (l.take i) l[i]&&kh ops (l.take (i+1)) (l.drop (i+1)))):=by
 rw [B8 h];simp only [kh,vy];rw [List.take_add_one,G7 h]; rfl
theorem r60 (d:DfM) (hb:DfB d):rn ⟨60,0,0⟩ [.sl (d.so.map ai),.sl (d.op.map OpM.row),.sl (d.ru.map RuM.row),.sl (d.st.map StM.row)]=some (0,[.bool d.valid]):=by
 have hrl:=hb.ru;have hsl:=hb.st;have hl1:∀ n i (acc:List ByteArray),i+n=d.ru.length->acc.length<=i->rn ⟨60,0,1⟩ [.sl (d.ru.map RuM.row),.int (d.ru.length:Int),.int (i:Int),.sl (d.so.map ai),.sl (d.op.map OpM.row),.sl (d.ru.map RuM.row),.sl (d.st.map StM.row),.sl (acc.map ai)]=bif (d.ru.drop i).all (jg d.op) then some (0,[.sl (d.so.map ai),.sl (d.op.map OpM.row),.sl (d.ru.map RuM.row),.sl (d.st.map StM.row),.sl ((acc++(d.ru.drop i).map (·.n)).map ai)]) else some (1,[]):=by
  intro n;induction n with
  | zero =>
   intro i acc hi ha;obtain rfl:i=d.ru.length:=by omega
   rw [e60_0_1];simp only [B6,C0,D7,H4,H2,C9,N5,H1,D2,J3]
  | succ n ih =>
   intro i acc hi ha;have hlt:i<d.ru.length:=by omega
   rw [e60_0_1,B8 hlt];have h1:=r118 (d.so.map ai) d.op hb.op d.ru[i] (hb.rua _ (C1 hlt));have hb2:F9 (acc.length+1) M63=true:=nb (by omega)
   have h6:=ih (i+1) (acc++[d.ru[i].n]) (by omega) (by simp; omega)
   simp only [E0,C2,D2,ai] at h6;simp only [B6,C0,hlt,H3,H1,ba,B9,ae hlt,ag hlt (br (by omega)),RuM.row,nv0,nvS,dvI,dvB,dvS,dvL,B5,h1,C5,C8,E1,hb2,h6,J8]
   cases jg d.op d.ru[i] with
   | false=>rfl
   | true=>simp only [E0,C2,E3,G8,E4,ai,D8,H2,H1,F6]
 have hl3:∀ (x5 x7:aa) n i,i+n=d.st.length->rn ⟨60,0,3⟩ [.sl (d.st.map StM.row),.int (d.st.length:Int),.int (i:Int),.sl (d.so.map ai),.sl (d.op.map OpM.row),.sl x5,.sl (d.st.map StM.row),.sl x7]=bif kh d.op (d.st.take i) (d.st.drop i) then some (0,[.sl x7]) else some (1,[]):=by
  intro x5 x7 n;induction n with
  | zero =>
   intro i hi;obtain rfl:i=d.st.length:=by omega
   rw [e60_0_3];simp only [B6,C0,D7,H4,H2,C9,kh,H1]
  | succ n ih =>
   intro i hi;have hlt:i<d.st.length:=by omega
   rw [e60_0_3,Au d.op d.st hlt,Lt];have h1:=r66 (d.so.map ai) d.op hb.op d.st[i].o;have h3:=Uy (d.st.take i) (br (by rw [List.length_take]; omega)) d.st[i]
   simp only [B6,C0,hlt,H3,H1,ba,B9,ae hlt,ag hlt (br (by omega)),StM.row,nv0,nvS,dvI,dvB,dvS,dvL,B5,h1,r119,ih (i+1) (by omega)]
   cases hf:dj d.op d.st[i].o with
   | none=>rfl
   | some o =>
    simp only [ke,nv0,nvS,dvI,dvB,dvS,dvL,B5,B6,D8,H2];cases isB d.st[i].o
    · by_cases q1:0<=d.st[i].a
      · have q1':¬ d.st[i].a<0:=by omega
        by_cases q2:d.st[i].a<o.a.length
        · have q2':¬(o.a.length:Int)<=d.st[i].a:=by omega
          have q3:(0:Int)<=(i:Int):=by omega
          have q4:(i:Int)<=(d.st.length:Int):=by omega
          simp only [q1,q1',q2,q2',q3,q4,T0,H3,H4,H1,H2,K4,J4,F6,B9,show O1 0=0 from rfl,D5,<- List.map_take,h3,nv0,nvS,dvI,dvB,dvS,dvL,B5]
          cases vy (d.st.take i) d.st[i] <;> simp
        · have q2':(o.a.length:Int)<=d.st[i].a:=by omega
          simp [q1,q1',q2,q2']
      · have q1':d.st[i].a<0:=by omega
        simp [q1,q1']
    · rfl
 have hd:=r61 (d.ru.map (·.n)) (by rw [B6]; omega)
 have hg:=r117 d.so hb.so hb.sos d.op hb.op hb.opn;have h1:=hl1 d.ru.length 0 [] (by omega) (K0 _)
 have h3:=fun x5 x7=>hl3 x5 x7 d.st.length 0 (by omega)
 simp only [D5,S1,C6,D2,E4] at h1 h3;rw [e60_0_0];simp only [B6,hg,nv0,nvS,dvI,dvB,dvS,dvL,B5];unfold DfM.valid;cases Ab d.so d.op
 · rfl
 · by_cases q1:d.ru.length<=16
   · have q1':¬((16:Int)<(d.ru.length:Int)):=by omega
     by_cases q2:d.st.length<=8
     · have q2':¬((8:Int)<(d.st.length:Int)):=by omega
       simp only [q1,q1',q2,q2',H3,H4,H1,H2,F6,D8,h1];cases d.ru.all (jg d.op)
       · rfl
       · simp only [H1,nv0,nvS,dvI,dvB,dvS,dvL,B5,E2,H1,H2,B6,h3,F6]
         cases kh d.op [] d.st
         · rfl
         · simp only [H1,nv0,nvS,dvI,dvB,dvS,dvL,B5,E2,H1,H2,hd,F6]
     · have q2':((8:Int)<(d.st.length:Int)):=by omega
       simp [q1,q1',q2,q2']
   · have q1':((16:Int)<(d.ru.length:Int)):=by omega
     simp [q1,q1']
theorem r132 (d:DfM) (hb:DfB d):rn ⟨132,0,0⟩ [.sl (d.so.map ai),.sl (d.op.map OpM.row),.sl (d.ru.map RuM.row),.sl (d.st.map StM.row)]=some (0,[.bool (kh d.op [] d.st&&decide (d.st.length<=8))]):=by
 have hsl:=hb.st;have hl3:∀ (x0:Nat),x0<=d.st.length->∀ (x:StM) (x2:ByteArray) (x3:Bool) (x4 x5 x6:Int) (x7 x8:Bool) (x15 x16:ByteArray) (x17:aa),∀ n j,j+n=x0->rn ⟨132,0,3⟩ [.int (x0:Int),.int (j:Int),.str x2,.bool x3,.int x4,.int x5,.int x6,.bool x7,.bool x8,.sl (d.so.map ai),.sl (d.op.map OpM.row),.sl (d.ru.map RuM.row),.sl (d.st.map StM.row),.str x.o,.int x.a,.str x15,.str x16,.sl x17]=bif vy ((d.st.take x0).drop j) x then some (1,[]) else some (0,[.int (x0:Int),.str x2,.bool x3,.int x4,.int x5,.int x6,.bool x7,.bool x8,.sl (d.so.map ai),.sl (d.op.map OpM.row),.sl (d.ru.map RuM.row),.sl (d.st.map StM.row),.str x.o,.int x.a,.str x15,.str x16,.sl x17]):=by
  intro x0 hx0 x x2 x3 x4 x5 x6 x7 x8 x15 x16 x17 n;induction n with
  | zero =>
   intro j hj;obtain rfl:j=x0:=by omega
   rw [e132_0_3];have:((d.st.take j).drop j)=[]:=P2 (by rw [List.length_take]; omega)
   simp only [this,Int.lt_irrefl,H4,H2,vy,List.any_nil]
  | succ n ih =>
   intro j hj;have hlt0:j<(d.st.take x0).length:=by rw [List.length_take]; omega
   have hlt:j<d.st.length:=by omega
   have hltx:j<x0:=by omega
   rw [e132_0_3,B8 hlt0,List.getElem_take];simp only [B6,C0,hlt,H3,H1,ba,B9,ae hlt,ag hlt (br (by omega)),hltx,StM.row,nv0,nvS,dvI,dvB,dvS,dvL,B5,ih (j+1) (by omega)]
   simp only [vy,R8];by_cases h1:d.st[j].o=x.o
   · by_cases h2:d.st[j].a=x.a <;> simp [h1,h2]
   · simp [h1]
 have hl1:∀ n i,i+n=d.st.length->rn ⟨132,0,1⟩ [.int (i:Int),.sl (d.so.map ai),.sl (d.op.map OpM.row),.sl (d.ru.map RuM.row),.sl (d.st.map StM.row)]=bif kh d.op (d.st.take i) (d.st.drop i) then some (0,[.sl (d.so.map ai),.sl (d.op.map OpM.row),.sl (d.ru.map RuM.row),.sl (d.st.map StM.row)]) else some (1,[]):=by
  intro n;induction n with
  | zero =>
   intro i hi;obtain rfl:i=d.st.length:=by omega
   rw [e132_0_1];simp only [B6,C0,D7,H4,H2,C9,kh,H1]
  | succ n ih =>
   intro i hi;have hlt:i<d.st.length:=by omega
   rw [e132_0_1,Au d.op d.st hlt,Lt];have h1:=r75 (d.so.map ai) d.op hb.op d.st[i].o;have h3:=fun x2 x3 x4 x5 x6 x7 x8 x15 x16 x17=>hl3 i (by omega) d.st[i] x2 x3 x4 x5 x6 x7 x8 x15 x16 x17 i 0 (by omega)
   simp only [D5,C6] at h3;simp only [B6,C0,hlt,H3,H1,ba,B9,ae hlt,ag hlt (br (by omega)),StM.row,nv0,nvS,dvI,dvB,dvS,dvL,B5,h1,r112,rIn]
   cases hf:dj d.op d.st[i].o with
   | none=>rfl
   | some o =>
    have hoa:o.a.length<=1048576:=Aa hb.op.a hf;simp only [ke,nv0,nvS,dvI,dvB,dvS,dvL,B5,B6,D8,H2];rw [IntWalk.i64_in _ (by omega)]
    cases isB d.st[i].o
    · by_cases q1:0<=d.st[i].a
      · by_cases q2:d.st[i].a<o.a.length
        · have q2':d.st[i].a<=(o.a.length:Int)-1:=by omega
          simp only [q1,q2,q2',H3,H1,H2,K4,J4,D8,F6,h3];cases vy (d.st.take i) d.st[i] with
          | true=>rfl
          | false=>simp only [H2,nv0,nvS,dvI,dvB,dvS,dvL,B5,E2,H1,H2,ag hlt (br (by omega)),ih (i+1) (by omega),J4,F6]
        · have q2':¬ d.st[i].a<=(o.a.length:Int)-1:=by omega
          simp [q1,q2,q2']
      · simp [q1]
    · rfl
 have h1:=hl1 d.st.length 0 (by omega)
 simp only [D5,S1,C6] at h1;rw [e132_0_0,h1];have i1:((d.st.length:Int)<=8)↔d.st.length<=8:=by omega
 cases kh d.op [] d.st with
 | false=>rfl
 | true=>simp only [H1,nv0,nvS,dvI,dvB,dvS,dvL,B5,E2,H1,H2,B6,i1,F6]
theorem r68 (d:DfM) (hb:DfB d):rn ⟨68,0,0⟩ [.sl (d.so.map ai),.sl (d.op.map OpM.row),.sl (d.ru.map RuM.row),.sl (d.st.map StM.row)]=some (0,[.bool d.valid]):=by
 have hrl:=hb.ru;have hl1:∀ n i (acc:List ByteArray),i+n=d.ru.length->acc.length<=i->rn ⟨68,0,1⟩ [.int (i:Int),.sl (d.so.map ai),.sl (d.op.map OpM.row),.sl (d.ru.map RuM.row),.sl (d.st.map StM.row),.sl (acc.map ai)]=bif (d.ru.drop i).all (jg d.op) then some (0,[.sl (d.so.map ai),.sl (d.op.map OpM.row),.sl (d.ru.map RuM.row),.sl (d.st.map StM.row),.sl ((acc++(d.ru.drop i).map (·.n)).map ai)]) else some (1,[]):=by
  intro n;induction n with
  | zero =>
   intro i acc hi ha;obtain rfl:i=d.ru.length:=by omega
   rw [e68_0_1];simp only [B6,C0,D7,H4,H2,C9,N5,H1,D2,J3]
  | succ n ih =>
   intro i acc hi ha;have hlt:i<d.ru.length:=by omega
   rw [e68_0_1,B8 hlt];have h1:=r129 (d.so.map ai) d.op hb.op d.ru[i] (hb.rua _ (C1 hlt));have hb2:F9 (acc.length+1) M63=true:=nb (by omega)
   have h6:=ih (i+1) (acc++[d.ru[i].n]) (by omega) (by simp; omega)
   simp only [E0,C2,D2,ai] at h6;simp only [B6,C0,hlt,H3,H1,ba,B9,ae hlt,ag hlt (br (by omega)),RuM.row,nv0,nvS,dvI,dvB,dvS,dvL,B5,h1,C5,C8,E1,hb2,h6,J8]
   cases jg d.op d.ru[i] with
   | false=>rfl
   | true=>simp only [E0,C2,E3,G8,E4,ai,D8,H2,H1,F6]
 have hd:=r131 (d.ru.map (·.n)) (by rw [B6]; exact br (by omega))
 have hg:=r130 d.so hb.so hb.sos d.op hb.op hb.opn;have hs:=r132 d hb;have h1:=hl1 d.ru.length 0 [] (by omega) (K0 _)
 simp only [D5,C6,D2,E4] at h1;have i1:((d.ru.length:Int)<=16)↔d.ru.length<=16:=by omega
 rw [e68_0_0,h1];unfold DfM.valid;cases d.ru.all (jg d.op) with
 | false=>cases Ab d.so d.op <;> cases decide (d.ru.length<=16) <;> cases decide (d.st.length<=8) <;> rfl
 | true =>
  simp only [H1,nv0,nvS,dvI,dvB,dvS,dvL,B5,E2,H1,H2,B6,hd,hg,hs,i1,F6];cases Ab d.so d.op <;> cases decide (d.ru.length<=16) <;> cases decide (d.st.length<=8) <;> cases kh d.op [] d.st <;> cases dis (d.ru.map (·.n)) <;> rfl
end Go.Q.S
end
section
namespace Go.Q.S
open Go Go.Q Go.Proofs
theorem r26 (vars:List ByteArray) (hv:vars.length<=1048576):rn ⟨26,0,0⟩ [.sl (vars.map ai)]=some (0,[.sl ((wv vars).map VS.row)]):=by
 have hl:∀ n i (acc:List VS),i+n=vars.length->acc.length<=i->rn ⟨26,0,1⟩ [.sl (vars.map ai),.int (vars.length:Int),.int (i:Int),.sl (acc.map VS.row)]=some (0,[.sl ((acc++wv (vars.drop i)).map VS.row)]):=by
  intro n;induction n with
  | zero =>
   intro i acc hi ha;obtain rfl:i=vars.length:=by omega
   rw [e26_0_1];simp only [B6,C0,D7,H4,H2,C9,wv,D2,J3]
  | succ n ih =>
   intro i acc hi ha;have hlt:i<vars.length:=by omega
   rw [e26_0_1,B8 hlt];have hb2:F9 (acc.length+1) M63=true:=nb (by omega)
   have h6:=ih (i+1) (acc++[(vars[i],cy)]) (by omega) (by simp; omega)
   simp only [E0,C2,D2,VS.row] at h6;simp only [B6,C0,hlt,H3,H1,ba,B9,ae hlt,ag hlt (br (by omega)),ai,nv0,nvS,dvI,dvB,dvS,dvL,B5,C5,C8,E1,hb2,h6]
   simp only [wv,E0,C2,E3,G8,E4,VS.row]
 have h:=hl vars.length 0 [] (by omega) (K0 _)
 simp only [D5,C6,D2,E4] at h;rw [e26_0_0];simp only [B6,h,nv0,nvS,dvI,dvB,dvS,dvL,B5,E2,H1,H2]
theorem r30 (vars:List ByteArray) (hv:vars.length<=1048576):rn ⟨30,0,0⟩ [.sl (vars.map ai)]=some (0,[.sl ((wv vars).map VS.row)]):=by
 have hl:∀ n i (acc:List VS),i+n=vars.length->acc.length<=i->rn ⟨30,0,1⟩ [.sl (vars.map ai),.int (i:Int),.sl (acc.map VS.row)]=some (0,[.sl ((acc++wv (vars.drop i)).map VS.row)]):=by
  intro n;induction n with
  | zero =>
   intro i acc hi ha;obtain rfl:i=vars.length:=by omega
   rw [e30_0_1];simp only [B6,C0,D7,H4,H2,C9,wv,D2,J3]
  | succ n ih =>
   intro i acc hi ha;have hlt:i<vars.length:=by omega
   rw [e30_0_1,B8 hlt];have hb2:F9 (acc.length+1) M63=true:=nb (by omega)
   have h6:=ih (i+1) (acc++[(vars[i],cy)]) (by omega) (by simp; omega)
   simp only [E0,C2,D2,VS.row] at h6;simp only [B6,C0,hlt,H3,H1,ba,B9,ae hlt,ag hlt (br (by omega)),ai,nv0,nvS,dvI,dvB,dvS,dvL,B5,C5,C8,E1,hb2,h6]
   simp only [wv,E0,C2,E3,G8,E4,VS.row]
 have h:=hl vars.length 0 [] (by omega) (K0 _)
 simp only [D5,C6,D2,E4] at h;rw [e30_0_0];simp only [h,nv0,nvS,dvI,dvB,dvS,dvL,B5,E2,H1,H2]
theorem r25 (d:DfM) (hb:DfB d) (vars:List ByteArray) (hv:vars.length<=1048576) (hvs:∀ x∈vars,x.size<=maxLen) (t:Tm) (hw:Wt t) (hn:t.nodes<=1048577):rn ⟨25,0,0⟩ [.sl (d.so.map ai),.sl (d.op.map OpM.row),.sl (d.ru.map RuM.row),.sl (d.st.map StM.row),.sl (vars.map ai),.int t.k,.int t.n,.str t.s,.sl (t.as.map Tm.row),.sl []]=some (0,[.bool (mi d vars t)]):=by
 have hl1:∀ n i,i+n=vars.length->rn ⟨25,0,1⟩ [.sl (vars.map ai),.int (vars.length:Int),.int (i:Int),.sl (d.so.map ai),.sl (d.op.map OpM.row),.sl (d.ru.map RuM.row),.sl (d.st.map StM.row),.sl (vars.map ai),.int t.k,.int t.n,.str t.s,.sl (t.as.map Tm.row),.sl []]=bif (vars.drop i).all qf then some (0,[.sl (d.so.map ai),.sl (d.op.map OpM.row),.sl (d.ru.map RuM.row),.sl (d.st.map StM.row),.sl (vars.map ai),.int t.k,.int t.n,.str t.s,.sl (t.as.map Tm.row),.sl []]) else some (1,[]):=by
  intro n;induction n with
  | zero =>
   intro i hi;obtain rfl:i=vars.length:=by omega
   rw [e25_0_1];simp only [B6,C0,D7,H4,H2,C9,N5,H1]
  | succ n ih =>
   intro i hi;have hlt:i<vars.length:=by omega
   rw [e25_0_1,B8 hlt];have h1:=r62 vars[i] (hvs _ (C1 hlt));simp only [B6,C0,hlt,H3,H1,ba,B9,ae hlt,ag hlt (br (by omega)),ai,nv0,nvS,dvI,dvB,dvS,dvL,B5,h1,ih (i+1) (by omega),J8]
   cases qf vars[i] <;> rfl
 have h1:=hl1 vars.length 0 (by omega)
 simp only [D5,C6] at h1;have hl3:∀ a b c:aa,∀ k n:Int,∀ s:ByteArray,rn ⟨25,0,3⟩ [.sl [],.int 0,.int 0,.sl a,.int k,.int n,.str s,.sl b,.sl c]=some (0,[]):=fun a b c k n s=>by
  rw [e25_0_3]; rfl
 have h2:=r60 d hb;have h3:=r61 vars hv;have h4:=r63 t (by omega) hw
 have h5:=r64 t hn vars (br (by omega))
 have h6:=r26 vars hv;have h7:=r27 (d.so.map ai) d.op hb.op (wv vars) (by unfold wv; rw [B6]; omega) t hw
 rw [e25_0_0];simp only [B6,h2,h3,nv0,nvS,dvI,dvB,dvS,dvL,B5];unfold mi;cases d.valid
 · rfl
 · by_cases q1:vars.length<=3
   · have q1':¬((3:Int)<(vars.length:Int)):=by omega
     simp only [q1,q1',H3,H4,H2,F6,D8];cases dis vars
     · rfl
     · simp only [D8,H2,h1,F6]
       cases vars.all qf
       · rfl
       · simp only [H1,nv0,nvS,dvI,dvB,dvS,dvL,B5,E2,H1,H2,h4,h5,h6,h7,F6]
         cases t.valid
         · rfl
         · cases fh t vars
           · rfl
           · by_cases q2:aw d.op (wv vars) t=e0
             · simp [q2]
             · simp only [q2,D8,J4,H2,H4,C8,C6,hl3,nv0,nvS,dvI,dvB,dvS,dvL,B5,E2,H1,H2,F6]
   · have q1':((3:Int)<(vars.length:Int)):=by omega
     simp [q1,q1']
theorem r69 (vars:List ByteArray) (hv:vars.length<=1048576) (hvs:∀ x∈vars,x.size<=maxLen):rn ⟨69,0,0⟩ [.sl (vars.map ai)]=some (0,[.bool (decide (vars.length<=3)&&(dis vars&&vars.all qf))]):=by
 have hl1:∀ n i,i+n=vars.length->rn ⟨69,0,1⟩ [.sl (vars.map ai),.int (i:Int)]=bif (vars.drop i).all qf then some (0,[.sl (vars.map ai)]) else some (1,[]):=by
  intro n;induction n with
  | zero =>
   intro i hi;obtain rfl:i=vars.length:=by omega
   rw [e69_0_1];simp only [B6,C0,D7,H4,H2,C9,N5,H1]
  | succ n ih =>
   intro i hi;have hlt:i<vars.length:=by omega
   rw [e69_0_1,B8 hlt];have h1:=r133 vars[i] (hvs _ (C1 hlt));simp only [B6,C0,hlt,H3,H1,ba,B9,ae hlt,ag hlt (br (by omega)),ai,nv0,nvS,dvI,dvB,dvS,dvL,B5,h1,ih (i+1) (by omega),J8]
   cases qf vars[i] <;> rfl
 have h1:=hl1 vars.length 0 (by omega)
 simp only [D5,C6] at h1;have h3:=r131 vars (br (by omega))
 have i1:((vars.length:Int)<=3)↔vars.length<=3:=by omega
 rw [e69_0_0,h1];cases vars.all qf with
 | false=>cases decide (vars.length<=3) <;> cases dis vars <;> rfl
 | true =>
  simp only [H1,nv0,nvS,dvI,dvB,dvS,dvL,B5,E2,H1,H2,B6,i1,h3,K4];cases decide (vars.length<=3) <;> rfl
theorem r29 (d:DfM) (hb:DfB d) (vars:List ByteArray) (hv:vars.length<=1048576) (hvs:∀ x∈vars,x.size<=maxLen) (t:Tm) (hw:Wt t) (hn:t.nodes<=1048577):rn ⟨29,0,0⟩ [.sl (d.so.map ai),.sl (d.op.map OpM.row),.sl (d.ru.map RuM.row),.sl (d.st.map StM.row),.sl (vars.map ai),.int t.k,.int t.n,.str t.s,.sl (t.as.map Tm.row),.sl []]=some (0,[.bool (mi d vars t)]):=by
 have hl1:∀ a:List D,rn ⟨29,0,1⟩ [.int 0,.sl (d.so.map ai),.sl (d.op.map OpM.row),.sl (d.ru.map RuM.row),.sl (d.st.map StM.row),.sl (vars.map ai),.int t.k,.int t.n,.str t.s,.sl (t.as.map Tm.row),.sl []]=some (0,[.sl (d.so.map ai),.sl (d.op.map OpM.row),.sl (d.ru.map RuM.row),.sl (d.st.map StM.row),.sl (vars.map ai),.int t.k,.int t.n,.str t.s,.sl (t.as.map Tm.row),.sl []]):=fun _=>by
  rw [e29_0_1]; rfl
 have h1:=hl1 [];have h2:=r68 d hb;have h3:=r69 vars hv hvs;have h4:=r70 t (by omega) hw
 have hnt:=cq t;have hsl:=ia t.names;have h5:=r72 t hn;have h5':=r71 (cu t.names) vars (by omega) (br (by omega))
 have h6:=r30 vars hv;have h7:=r32 (d.so.map ai) d.op hb.op (wv vars) (by unfold wv; rw [B6]; omega) t hw
 rw [e29_0_0];simp only [B6,h1,h2,h3,h4,h5,h5',h6,h7,nv0,nvS,dvI,dvB,dvS,dvL,B5,E2,H1,H2];unfold mi;cases d.valid <;> try rfl
 cases decide (vars.length<=3) <;> try rfl
 cases dis vars <;> try rfl
 cases vars.all qf <;> try rfl
 cases t.valid <;> try rfl
 have hw:=Uh t vars;cases hw2:fh t vars with
 | true =>
  rw [hw2] at hw;have:(wo (cu t.names) vars).length=0:=hw.2 rfl;simp [this]
 | false =>
  rw [hw2] at hw;have:¬(wo (cu t.names) vars).length=0:=fun h=>by have:=hw.1 h; simp at this
  have:0<(wo (cu t.names) vars).length:=by omega
  simp [this]
theorem r8 (c:ClM) (hb:ClB c):rn ⟨8,0,0⟩ c.row=some (0,[.bool c.valid]):=by
 unfold ClM.row;have h1:=r25 c.d hb.d c.v hb.v hb.vs c.l hb.wl hb.ln;have h2:=r25 c.d hb.d c.v hb.v hb.vs c.r hb.wr hb.rn;have h3:=r26 c.v hb.v;have hv:=hb.v;have hl:(wv c.v).length<=1099511627776:=by unfold wv; rw [B6]; omega
 have h4:=r27 (c.d.so.map ai) c.d.op hb.d.op (wv c.v) hl c.l hb.wl;have h5:=r27 (c.d.so.map ai) c.d.op hb.d.op (wv c.v) hl c.r hb.wr;have h6:=r28 (c.d.so.map ai) c.d.op hb.d.op (wv c.v) hl c.v (br (by omega)) (Qd c.v) c.g hb.g hb.ga
 rw [e8_0_0];simp only [h1,h2,h3,h4,h5,h6,nv0,nvS,dvI,dvB,dvS,dvL,B5];unfold ClM.valid;cases mi c.d c.v c.l <;> try rfl
 cases mi c.d c.v c.r <;> try rfl
 cases decide (aw c.d.op (wv c.v) c.l=aw c.d.op (wv c.v) c.r) <;> rfl
theorem r9 (c:ClM) (hb:ClB c):rn ⟨9,0,0⟩ c.row=some (0,[.bool c.valid]):=by
 unfold ClM.row;have h1:=r29 c.d hb.d c.v hb.v hb.vs c.l hb.wl hb.ln;have h2:=r29 c.d hb.d c.v hb.v hb.vs c.r hb.wr hb.rn;have h3:=r30 c.v hb.v;have hv:=hb.v;have hg:=hb.g;have hl:(wv c.v).length<=1099511627776:=by unfold wv; rw [B6]; omega
 have h4:=r32 (c.d.so.map ai) c.d.op hb.d.op (wv c.v) hl c.l hb.wl;have h5:=r32 (c.d.so.map ai) c.d.op hb.d.op (wv c.v) hl c.r hb.wr;have hlp:∀ n i,i+n=c.g.length->rn ⟨9,0,1⟩ (.int (i:Int)::(c.row++[.sl ((wv c.v).map VS.row)]))=bif (c.g.drop i).all (qg c.d.op (wv c.v)) then some (0,c.row++[.sl ((wv c.v).map VS.row)]) else some (1,[]):=by
  unfold ClM.row;simp only [G8,E4];intro n;induction n with
  | zero =>
   intro i hi;obtain rfl:i=c.g.length:=by omega
   rw [e9_0_1];simp only [B6,C0,D7,H4,H2,C9,N5,H1]
  | succ n ih =>
   intro i hi;have hlt:i<c.g.length:=by omega
   rw [e9_0_1,B8 hlt];have h1:=r31 (c.d.so.map ai) c.d.op hb.d.op (wv c.v) hl c.g[i] (hb.ga _ (C1 hlt));simp only [B6,C0,hlt,H3,H1,ba,B9,ae hlt,ag hlt (br (by omega)),Gu.row,nv0,nvS,dvI,dvB,dvS,dvL,B5,h1,ih (i+1) (by omega),J8]
   cases qg c.d.op (wv c.v) c.g[i] <;> simp
 have h6:=hlp c.g.length 0 (by omega)
 unfold ClM.row at h6;simp only [D5,C6,G8,E4] at h6;rw [e9_0_0];simp only [h1,h2,h3,h6,nv0,nvS,dvI,dvB,dvS,dvL,B5,B6];unfold ClM.valid xf;cases mi c.d c.v c.l <;> try rfl
 cases mi c.d c.v c.r <;> try rfl
 by_cases q:c.g.length<=2
 · have q':¬((2:Int)<(c.g.length:Int)):=by omega
   simp only [q,q',H3,H4,H2,D8,F6,K4];cases c.g.all (qg c.d.op (wv c.v)) with
   | false=>simp only [R4]; rfl
   | true=>simp only [H1,nv0,nvS,dvI,dvB,dvS,dvL,B5,E2,H1,H2,h4,h5,K4]
 · have q':((2:Int)<(c.g.length:Int)):=by omega
   simp [q,q']
end Go.Q.S
end
section
namespace Go.Q.S
open Go Go.Q Go.Proofs
theorem Uz (xs:aa) (h:xs.length<=274877906944):rn ⟨237,0,0⟩ [.sl xs]=some (0,[.sl xs]):=by
 rw [e237_0_0];have hb:F9 (([]:aa).length+xs.length) M63=true:=F4 (by unfold M63; simpa using h)
 rw [hb];cases xs with
 | nil=>simp [qq]
 | cons x xs=>rfl
theorem r214 (a b c:aa) (st:List StM) (hst:st.length<=1048576) (s:ByteArray):rn ⟨214,0,0⟩ [.sl a,.sl b,.sl c,.sl (st.map StM.row),.str s]=some (0,[.sl ((km st s).map bu)]):=by
 have key:∀ n i (acc:List Int),i+n=st.length->acc.length<=i->rn ⟨214,0,1⟩ [.str s,.sl (st.map StM.row),.int (st.length:Int),.int (i:Int),.sl (acc.map bu)]=some (0,[.sl ((acc++km (st.drop i) s).map bu)]):=by
  intro n;induction n with
  | zero =>
   intro i acc hi ha;obtain rfl:i=st.length:=by omega
   rw [e214_0_1];simp only [B6,C0,D7,H4,H2,C9,km,List.filter_nil,D2,J3]
  | succ n ih =>
   intro i acc hi ha;have hlt:i<st.length:=by omega
   rw [e214_0_1,B8 hlt,Cp];have hb2:F9 (acc.length+1) M63=true:=nb (by omega)
   have h1:=ih (i+1) (acc++[st[i].a]) (by omega) (by simp; omega)
   have h2:=ih (i+1) acc (by omega) (by omega)
   simp only [E0,C2,D2,bu] at h1 h2;simp only [B6,C0,hlt,H3,H1,ba,B9,ae hlt,ag hlt (br (by omega)),StM.row,nv0,nvS,dvI,dvB,dvS,dvL,B5,C5,C8,E1,hb2,bu]
   by_cases hq:st[i].o=s
   · simp only [hq,H3,H1,if_true,h1,E0,C2,E3,G8,E4,bu]
   · simp only [hq,H4,H2,if_false,h2,E0,bu]
 have h:=key st.length 0 [] (by omega) (K0 _)
 rw [e214_0_0];simp only [C6,D2,D5,E4,B6] at h ⊢;simp only [h,nv0,nvS,dvI,dvB,dvS,dvL,B5,E2,H1,H2]
theorem r147 (a b c:aa) (st:List StM) (hst:st.length<=1048576) (s:ByteArray):rn ⟨147,0,0⟩ [.sl a,.sl b,.sl c,.sl (st.map StM.row),.str s]=some (0,[.sl ((km st s).map bu)]):=by
 have key:∀ n i (acc:List Int),i+n=st.length->acc.length<=i->rn ⟨147,0,1⟩ [.str s,.int (i:Int),.sl a,.sl b,.sl c,.sl (st.map StM.row),.sl (acc.map bu)]=some (0,[.sl ((acc++km (st.drop i) s).map bu)]):=by
  intro n;induction n with
  | zero =>
   intro i acc hi ha;obtain rfl:i=st.length:=by omega
   rw [e147_0_1];simp only [B6,C0,D7,H4,H2,C9,km,List.filter_nil,D2,J3]
  | succ n ih =>
   intro i acc hi ha;have hlt:i<st.length:=by omega
   rw [e147_0_1,B8 hlt,Cp];have hb2:F9 (acc.length+1) M63=true:=nb (by omega)
   have h1:=ih (i+1) (acc++[st[i].a]) (by omega) (by simp; omega)
   have h2:=ih (i+1) acc (by omega) (by omega)
   simp only [E0,C2,D2,bu] at h1 h2;simp only [B6,C0,hlt,H3,H1,ba,B9,ae hlt,ag hlt (br (by omega)),StM.row,nv0,nvS,dvI,dvB,dvS,dvL,B5,C5,C8,E1,hb2,bu]
   by_cases hq:st[i].o=s
   · simp only [hq,H3,H1,if_true,h1,E0,C2,E3,G8,E4,bu]
   · simp only [hq,H4,H2,if_false,h2,E0,bu]
 have h:=key st.length 0 [] (by omega) (K0 _)
 rw [e147_0_0];simp only [C6,D2,D5,E4] at h ⊢;simp only [h,nv0,nvS,dvI,dvB,dvS,dvL,B5,E2,H1,H2]
theorem r193 (d:DfM) (hb:DfB d) (t:Tm):rn ⟨193,0,0⟩ [.sl (d.so.map ai),.sl (d.op.map OpM.row),.sl (d.ru.map RuM.row),.sl (d.st.map StM.row),.int t.k,.int t.n,.str t.s,.sl (t.as.map Tm.row)]=some (0,[.sl ((stL d.st t).map bu)]):=by
 have h:=fun a b c=>r214 a b c d.st hb.st t.s
 rw [e193_0_0];unfold stL;by_cases hk:t.k=2
 · simp only [h,hk,nv0,nvS,dvI,dvB,dvS,dvL,B5,if_true,H3,D8,H2]
 · simp [hk]
theorem r195 (t u:Tm) (p:List Int) (hp:p.length<=1048576) (h:atT t p=some u):rn ⟨195,0,0⟩ [.int t.k,.int t.n,.str t.s,.sl (t.as.map Tm.row),.sl (p.map bu)]=some (0,[.int u.k,.int u.n,.str u.s,.sl (u.as.map Tm.row),.bool true]):=by
 have key:∀ n i (t:Tm),i+n=p.length->atT t (p.drop i)=some u->rn ⟨195,0,1⟩ [.sl (p.map bu),.int (p.length:Int),.int (i:Int),.int t.k,.int t.n,.str t.s,.sl (t.as.map Tm.row),.int 0,.int 0,.str e0,.sl []]=some (0,[.int u.k,.int u.n,.str u.s,.sl (u.as.map Tm.row),.int 0,.int 0,.str e0,.sl []]):=by
  intro n;induction n with
  | zero =>
   intro i t hi h;obtain rfl:i=p.length:=by omega
   rw [C9] at h;simp only [atT,C7.injEq] at h;subst h;rw [e195_0_1];simp only [B6,C0,D7,H4,H2,C9]
  | succ n ih =>
   intro i t hi h;have hlt:i<p.length:=by omega
   rw [B8 hlt] at h;obtain ⟨hm,h0,h1⟩:=cr h;have h2:=ih (i+1) _ (by omega) h1
   rw [e195_0_1];generalize hj:p[i]=j at hm h0 h1 h2;obtain ⟨m,rfl⟩:∃ m:Nat,j=(m:Int):=⟨j.toNat,by omega⟩
   rw [B9] at hm;simp only [B9] at h2;have q1:¬((m:Int)<0):=by omega
   have q2:¬((t.as.length:Int)<=(m:Int)):=by omega
   simp only [B6,C0,hlt,H3,H1,ba,B9,ae hlt,ag hlt (br (by omega)),hm,hj,q1,q2,H4,H2,ae hm,Tm.row_eq,bu,nv0,nvS,dvI,dvB,dvS,dvL,B5]
   exact h2
 have h1:=key p.length 0 t (by omega) (by rw [D5]; exact h)
 simp only [C6] at h1;rw [e195_0_0];simp only [B6,h1,nv0,nvS,dvI,dvB,dvS,dvL,B5,E2,H1,H2]
theorem r150 (t u:Tm) (hn:t.nodes<=1048577) (p:List Int) (hp:p.length<=1048576) (h:atT t p=some u):rn ⟨150,0,0⟩ [.int t.k,.int t.n,.str t.s,.sl (t.as.map Tm.row),.sl (p.map bu)]=some (0,[.int u.k,.int u.n,.str u.s,.bool true,.sl (u.as.map Tm.row)]):=by
 have key:∀ n i (t:Tm),i+n=p.length->t.nodes<=1048577->atT t (p.drop i)=some u->rn ⟨150,0,1⟩ [.sl (p.map bu),.int (i:Int),.int t.k,.int t.n,.str t.s,.sl (t.as.map Tm.row),.int 0,.int 0,.str e0,.sl []]=some (0,[.int u.k,.int u.n,.str u.s,.sl (u.as.map Tm.row),.int 0,.int 0,.str e0,.sl []]):=by
  intro n;induction n with
  | zero =>
   intro i t hi _ h;obtain rfl:i=p.length:=by omega
   rw [C9] at h;simp only [atT,C7.injEq] at h;subst h;rw [e150_0_1];simp only [B6,C0,D7,H4,H2,C9]
  | succ n ih =>
   intro i t hi hn h;have hlt:i<p.length:=by omega
   rw [B8 hlt] at h;obtain ⟨hm,h0,h1⟩:=cr h;have hls:=dr (xs:=t.as);have hnd:=Tm.nodes_eq t;have hmn:=dl (f:=Tm.nodes) (C1 hm);have h2:=ih (i+1) _ (by omega) (by omega) h1
   rw [e150_0_1];generalize hj:p[i]=j at hm h0 h1 h2 hmn;obtain ⟨m,rfl⟩:∃ m:Nat,j=(m:Int):=⟨j.toNat,by omega⟩
   rw [B9] at hm;simp only [B9] at h2;have q2:(m:Int)<=(t.as.length:Int)-1:=by omega
   have hw:IntKind.i64.wrap ((t.as.length:Int)-1)=(t.as.length:Int)-1:=IntWalk.i64_in _ (by omega)
   simp only [B6,C0,hlt,H3,H1,ba,B9,ae hlt,ag hlt (br (by omega)),hm,hj,hw,rIn,h0,q2,K4,D8,H2,ae hm,Tm.row_eq,bu,nv0,nvS,dvI,dvB,dvS,dvL,B5]
   exact h2
 have h1:=key p.length 0 t (by omega) hn (by rw [D5]; exact h)
 have hun:=jn p t u h;have h3:=r55 u (aq u (by omega))
 simp only [C6] at h1;rw [e150_0_0];simp only [h1,h3,nv0,nvS,dvI,dvB,dvS,dvL,B5,E2,H1,H2]
theorem r216 (t w:Tm) (hn:t.nodes<=1048577) (m:Nat) (hm:m<t.as.length):rn ⟨216,0,0⟩ [.int t.k,.int t.n,.str t.s,.sl (t.as.map Tm.row),.int (m:Int),.int w.k,.int w.n,.str w.s,.sl (w.as.map Tm.row)]=some (0,[.int t.k,.int t.n,.str t.s,.sl ((t.as.set m w).map Tm.row)]):=by
 have hls:=dr (xs:=t.as);have hnd:=Tm.nodes_eq t;have h1:=Uz (t.as.map Tm.row) (by rw [B6]; omega)
 rw [e216_0_0];simp only [h1,nv0,nvS,dvI,dvB,dvS,dvL,B5,B6,ba,hm,H3,H1,B9,Lg hm]
theorem r197 (w:Tm):∀ (p:List Int) (t u:Tm),t.nodes<=1048577->p.length<=1048576->atT t p=some u->rn ⟨197,0,0⟩ [.int t.k,.int t.n,.str t.s,.sl (t.as.map Tm.row),.sl (p.map bu),.int w.k,.int w.n,.str w.s,.sl (w.as.map Tm.row)]=some (0,[.int (fg t p w).k,.int (fg t p w).n,.str (fg t p w).s,.sl ((fg t p w).as.map Tm.row)])
 | [],t,u,hn,hp,h=>by
  rw [e197_0_0];simp [fg]
 | j::p,t,u,hn,hp,h=>by
  obtain ⟨hm,h0,h1⟩:=cr h;have hls:=dr (xs:=t.as);have hnd:=Tm.nodes_eq t;have hmn:=dl (f:=Tm.nodes) (C1 hm);have h2:=r197 w p _ u (by omega) (by simp only [C5] at hp; omega) h1
  have ht:=Co j p;rw [e197_0_0];simp only [fg,dif_pos hm];obtain ⟨m,rfl⟩:∃ m:Nat,j=(m:Int):=⟨j.toNat,by omega⟩
  simp only [B9] at hm h2 ⊢;have h3:=r216 t (fg t.as[m] p w) hn m hm;have q0:rowAt (((m:Int)::p).map bu) 0=[.int (m:Int)]:=rfl;have q1:inb 0 (((m:Int)::p).map bu).length=true:=by simp [inb]
  have q2:¬(((((m:Int)::p).map bu).length:Nat):Int)=0:=by simp; omega
  have q3:(1:Int)<=((((m:Int)::p).map bu).length:Nat):=by simp only [B6,C5]; omega
  have hm':m<(t.as.map Tm.row).length:=by rw [B6]; exact hm
  have q4:(0:Int)<=1:=by decide
  simp only [q0,q1,q2,q3,q4,ht,show O1 0=0 from rfl,T0,nv0,nvS,dvI,dvB,dvS,dvL,B5,ba,hm',ae hm,Tm.row_eq,H3,H4,H1,H2,K4,B9,h2,h3]
  rfl
theorem r152 (w:Tm) (hw:w.nodes<=1048577):∀ (p:List Int) (t u:Tm),t.nodes<=1048577->p.length<=1048576->atT t p=some u->rn ⟨152,0,0⟩ [.int t.k,.int t.n,.str t.s,.sl (t.as.map Tm.row),.sl (p.map bu),.int w.k,.int w.n,.str w.s,.sl (w.as.map Tm.row)]=some (0,[.int (fg t p w).k,.int (fg t p w).n,.str (fg t p w).s,.sl ((fg t p w).as.map Tm.row)])
 | [],t,u,hn,hp,h=>by
  have h3:=r55 w (aq w hw);rw [e152_0_0];simp only [D2,C8,C6,H3,H1,h3,nv0,nvS,dvI,dvB,dvS,dvL,B5,fg]
 | j::p,t,u,hn,hp,h=>by
  obtain ⟨hm,h0,h1⟩:=cr h;have hls:=dr (xs:=t.as);have hnd:=Tm.nodes_eq t;have hmn:=dl (f:=Tm.nodes) (C1 hm);have h2:=r152 w hw p _ u (by omega) (by simp only [C5] at hp; omega) h1
  have h3:=r55 t (aq t hn);have ht:=Co j p;rw [e152_0_0];simp only [fg,dif_pos hm];obtain ⟨m,rfl⟩:∃ m:Nat,j=(m:Int):=⟨j.toNat,by omega⟩
  simp only [B9] at hm h2 ⊢;have q0:rowAt (((m:Int)::p).map bu) 0=[.int (m:Int)]:=rfl;have q1:inb 0 (((m:Int)::p).map bu).length=true:=by simp [inb]
  have q2:¬(((((m:Int)::p).map bu).length:Nat):Int)=0:=by simp; omega
  have q3:(1:Int)<=((((m:Int)::p).map bu).length:Nat):=by simp only [B6,C5]; omega
  have hm':m<(t.as.map Tm.row).length:=by rw [B6]; exact hm
  have q4:(0:Int)<=1:=by decide
  have q5:=Lg hm (fg t.as[m] p w);simp only [q0,q1,q2,q3,q4,ht,show O1 0=0 from rfl,T0,nv0,nvS,dvI,dvB,dvS,dvL,B5,ba,hm',H3,H4,H1,H2,K4,B9,h3]
  rw [ae hm] at q5 ⊢;simp only [Tm.row_eq,nv0,nvS,dvI,dvB,dvS,dvL,B5] at q5 ⊢;simp only [h2,nv0,nvS,dvI,dvB,dvS,dvL,B5,q5];rfl
end Go.Q.S
end
section
namespace Go.Q.S
open Go Go.Q Go.Proofs
theorem mI2:∀ t u:Tm,∀ l:List Bnd,ax u->(∀ b∈l,ax b.2)->l.length+t.nodes<=1048576->rn ⟨215,2,0⟩ [.int t.k,.int t.n,.str t.s,.sl (t.as.map Tm.row),.int u.k,.int u.n,.str u.s,.sl (u.as.map Tm.row),.sl (l.map Bnd.row)]=some (0,foI (mT t u l) (if t.k=1 then l.map Bnd.row else [])):=Tm.ind fun t ih u l hu hl hb=>by
 have hnd:=Tm.nodes_eq t;have hls:=dr (xs:=t.as);have hlp:t.as.length=u.as.length->∀ n i (l:List Bnd),i+n=t.as.length->(∀ b∈l,ax b.2)->l.length+((t.as.drop i).map Tm.nodes).sum<=1048576->rn ⟨215,2,1⟩ [.int (t.as.length:Int),.int (i:Int),.sl (l.map Bnd.row),.int t.k,.int t.n,.str t.s,.sl (t.as.map Tm.row),.int u.k,.int u.n,.str u.s,.sl (u.as.map Tm.row)]=match mTs (t.as.drop i) (u.as.drop i) l with
  | some l'=>some (0,[.sl (l'.map Bnd.row)])
  | none=>some (1,[.sl []]):=by
  intro hlen n;induction n with
  | zero =>
   intro i l hi hl hb;obtain rfl:i=t.as.length:=by omega
   rw [e215_2_1];simp only [B6,C0,D7,H4,H2,C9,mTs]
  | succ n ih2 =>
   intro i l hi hl hb;have hlt:i<t.as.length:=by omega
   have hlu:i<u.as.length:=by omega
   rw [B8 hlt] at hb ⊢;rw [B8 hlu];simp only [C2,J6] at hb;have hm:=C1 hlt;have hmu:=C1 hlu;have h1:=ih _ hm u.as[i] l (hu.sub hmu) hl (by omega)
   rw [e215_2_1];simp only [B6,C0,hlt,H3,H1,ba,B9,ae hlt,ag hlt (br (by omega)),hlu,ae hlu,Tm.row_eq,nv0,nvS,dvI,dvB,dvS,dvL,B5,h1,mTs]
   cases hq:mT t.as[i] u.as[i] l with
   | none=>rfl
   | some l1 =>
    have hl1:=pa ax (fun t a h ha=>h.sub ha) _ _ l l1 (hu.sub hmu) hl hq
    have hn1:=Ae _ _ _ _ hq;have h2:=ih2 (i+1) l1 (by omega) hl1 (by omega)
    simp only [foI,nv0,nvS,dvI,dvB,dvS,dvL,B5,D8,H2,h2]
 have h0:=fun h=>hlp h t.as.length 0 l (by omega) hl (by rw [D5]; omega)
 simp only [D5,C6] at h0;rw [e215_2_0,Kw];by_cases h1:t.k=1
 · have hbd:=r155 l (by omega) t.s
   have hb2:F9 (l.length+1) M63=true:=nb (by omega)
   simp only [h1,H3,H1,if_true,hbd];cases hq:bnd l t.s with
   | some v =>
    have he:=r34 v u (tw hl hq);simp only [nv0,nvS,dvI,dvB,dvS,dvL,B5,H1,he];cases eqb v.row u.row <;> rfl
   | none =>
    simp only [nv0,nvS,dvI,dvB,dvS,dvL,B5,H2,B6,C5,C8,E1,hb2,H1,foI,E0,C2,D2,mf]
 · simp only [h1,H4,H2,if_false]
   by_cases e1:t.k=u.k
   · rw [H7 e1,H5 e1]
     by_cases e2:t.n=u.n
     · rw [H7 e2,H5 e2]
       by_cases e3:t.s=u.s
       · rw [H7 e3,H5 e3]
         by_cases e4:t.as.length=u.as.length
         · have e4':((t.as.map Tm.row).length:Int)=((u.as.map Tm.row).length:Int):=by simp [e4]
           rw [H7 e4',H5 e4];simp only [D8,H2,B6,h0 e4];cases mTs t.as u.as l <;> rfl
         · have e4':¬((t.as.map Tm.row).length:Int)=((u.as.map Tm.row).length:Int):=by simp; omega
           rw [H8 e4',H6 e4]; rfl
       · rw [H8 e3,H6 e3]; rfl
     · rw [H8 e2,H6 e2]; rfl
   · rw [H8 e1,H6 e1]; rfl
theorem mI1:∀ t u:Tm,∀ l:List Bnd,ax u->(∀ b∈l,ax b.2)->l.length+t.nodes<=1048576->rn ⟨215,1,0⟩ [.int t.k,.int t.n,.str t.s,.sl (t.as.map Tm.row),.int u.k,.int u.n,.str u.s,.sl (u.as.map Tm.row),.sl (l.map Bnd.row)]=some (0,foI (mT t u l) (if t.k=1 then l.map Bnd.row else [])):=fun t u l hu hl hb=>by
 have ih:=fun (a:Tm) (_:a∈t.as)=>mI2 a
 have hnd:=Tm.nodes_eq t;have hls:=dr (xs:=t.as);have hlp:t.as.length=u.as.length->∀ n i (l:List Bnd),i+n=t.as.length->(∀ b∈l,ax b.2)->l.length+((t.as.drop i).map Tm.nodes).sum<=1048576->rn ⟨215,1,1⟩ [.int (t.as.length:Int),.int (i:Int),.sl (l.map Bnd.row),.int t.k,.int t.n,.str t.s,.sl (t.as.map Tm.row),.int u.k,.int u.n,.str u.s,.sl (u.as.map Tm.row)]=match mTs (t.as.drop i) (u.as.drop i) l with
  | some l'=>some (0,[.sl (l'.map Bnd.row)])
  | none=>some (1,[.sl []]):=by
  intro hlen n;induction n with
  | zero =>
   intro i l hi hl hb;obtain rfl:i=t.as.length:=by omega
   rw [e215_1_1];simp only [B6,C0,D7,H4,H2,C9,mTs]
  | succ n ih2 =>
   intro i l hi hl hb;have hlt:i<t.as.length:=by omega
   have hlu:i<u.as.length:=by omega
   rw [B8 hlt] at hb ⊢;rw [B8 hlu];simp only [C2,J6] at hb;have hm:=C1 hlt;have hmu:=C1 hlu;have h1:=ih _ hm u.as[i] l (hu.sub hmu) hl (by omega)
   rw [e215_1_1];simp only [B6,C0,hlt,H3,H1,ba,B9,ae hlt,ag hlt (br (by omega)),hlu,ae hlu,Tm.row_eq,nv0,nvS,dvI,dvB,dvS,dvL,B5,h1,mTs]
   cases hq:mT t.as[i] u.as[i] l with
   | none=>rfl
   | some l1 =>
    have hl1:=pa ax (fun t a h ha=>h.sub ha) _ _ l l1 (hu.sub hmu) hl hq
    have hn1:=Ae _ _ _ _ hq;have h2:=ih2 (i+1) l1 (by omega) hl1 (by omega)
    simp only [foI,nv0,nvS,dvI,dvB,dvS,dvL,B5,D8,H2,h2]
 have h0:=fun h=>hlp h t.as.length 0 l (by omega) hl (by rw [D5]; omega)
 simp only [D5,C6] at h0;rw [e215_1_0,Kw];by_cases h1:t.k=1
 · have hbd:=r155 l (by omega) t.s
   have hb2:F9 (l.length+1) M63=true:=nb (by omega)
   simp only [h1,H3,H1,if_true,hbd];cases hq:bnd l t.s with
   | some v =>
    have he:=r34 v u (tw hl hq);simp only [nv0,nvS,dvI,dvB,dvS,dvL,B5,H1,he];cases eqb v.row u.row <;> rfl
   | none =>
    simp only [nv0,nvS,dvI,dvB,dvS,dvL,B5,H2,B6,C5,C8,E1,hb2,H1,foI,E0,C2,D2,mf]
 · simp only [h1,H4,H2,if_false]
   by_cases e1:t.k=u.k
   · rw [H7 e1,H5 e1]
     by_cases e2:t.n=u.n
     · rw [H7 e2,H5 e2]
       by_cases e3:t.s=u.s
       · rw [H7 e3,H5 e3]
         by_cases e4:t.as.length=u.as.length
         · have e4':((t.as.map Tm.row).length:Int)=((u.as.map Tm.row).length:Int):=by simp [e4]
           rw [H7 e4',H5 e4];simp only [D8,H2,B6,h0 e4];cases mTs t.as u.as l <;> rfl
         · have e4':¬((t.as.map Tm.row).length:Int)=((u.as.map Tm.row).length:Int):=by simp; omega
           rw [H8 e4',H6 e4]; rfl
       · rw [H8 e3,H6 e3]; rfl
     · rw [H8 e2,H6 e2]; rfl
   · rw [H8 e1,H6 e1]; rfl
theorem mS:∀ t u:Tm,∀ l:List Bnd,ax u->(∀ b∈l,ax b.2)->l.length+t.nodes<=1048576->(∀ l',mT t u l=some l'->rn ⟨208,1,0⟩ [.int t.k,.int t.n,.str t.s,.sl (t.as.map Tm.row),.int u.k,.int u.n,.str u.s,.sl (u.as.map Tm.row),.sl (l.map Bnd.row)]=some (0,[.bool true,.sl (l'.map Bnd.row)]))/\(mT t u l=none->(∃ X,rn ⟨208,1,0⟩ [.int t.k,.int t.n,.str t.s,.sl (t.as.map Tm.row),.int u.k,.int u.n,.str u.s,.sl (u.as.map Tm.row),.sl (l.map Bnd.row)]=some (0,[.bool false,.sl X]))\/rn ⟨208,1,0⟩ [.int t.k,.int t.n,.str t.s,.sl (t.as.map Tm.row),.int u.k,.int u.n,.str u.s,.sl (u.as.map Tm.row),.sl (l.map Bnd.row)]=some (1,[])):=Tm.ind fun t ih u l hu hl hb=>by
 have hnd:=Tm.nodes_eq t;have hls:=dr (xs:=t.as);have hlp:t.as.length=u.as.length->∀ n i (l:List Bnd),i+n=t.as.length->(∀ b∈l,ax b.2)->l.length+((t.as.drop i).map Tm.nodes).sum<=1048576->rn ⟨208,1,1⟩ [.int (i:Int),.sl (l.map Bnd.row),.int t.k,.int t.n,.str t.s,.sl (t.as.map Tm.row),.int u.k,.int u.n,.str u.s,.sl (u.as.map Tm.row)]=match mTs (t.as.drop i) (u.as.drop i) l with
  | some l'=>some (0,[.sl (l'.map Bnd.row)])
  | none=>some (1,[]):=by
  intro hlen n;induction n with
  | zero =>
   intro i l hi hl hb;obtain rfl:i=t.as.length:=by omega
   rw [e208_1_1];simp only [B6,C0,D7,H4,H2,C9,mTs]
  | succ n ih2 =>
   intro i l hi hl hb;have hlt:i<t.as.length:=by omega
   have hlu:i<u.as.length:=by omega
   rw [B8 hlt] at hb ⊢;rw [B8 hlu];simp only [C2,J6] at hb;have hm:=C1 hlt;have hmu:=C1 hlu;obtain ⟨h1,h1'⟩:=ih _ hm u.as[i] l (hu.sub hmu) hl (by omega)
   rw [e208_1_1];simp only [B6,C0,hlt,H3,H1,ba,B9,ae hlt,ag hlt (br (by omega)),hlu,ae hlu,Tm.row_eq,nv0,nvS,dvI,dvB,dvS,dvL,B5,mTs]
   cases hq:mT t.as[i] u.as[i] l with
   | none =>
    rcases h1' hq with ⟨X,e⟩ | e
    · rw [e]; rfl
    · rw [e]; rfl
   | some l1 =>
    have hl1:=pa ax (fun t a h ha=>h.sub ha) _ _ l l1 (hu.sub hmu) hl hq
    have hn1:=Ae _ _ _ _ hq;have h2:=ih2 (i+1) l1 (by omega) hl1 (by omega)
    simp only [h1 l1 hq,nv0,nvS,dvI,dvB,dvS,dvL,B5,E2,H1,H2,D8,h2]
 have h0:=fun h=>hlp h t.as.length 0 l (by omega) hl (by rw [D5]; omega)
 simp only [D5,C6] at h0;rw [e208_1_0,Kw];by_cases h1:t.k=1
 · have hbd:=r115 l (by omega) hl t.s
   have hb2:F9 (l.length+1) M63=true:=nb (by omega)
   have hcp:=r55 u hu;simp only [h1,H3,H1,if_true,hbd];cases hq:bnd l t.s with
   | some v =>
    have he:=r45 v u (tw hl hq);simp only [nv0,nvS,dvI,dvB,dvS,dvL,B5,H1,he];cases eqb v.row u.row with
    | true=>exact ⟨fun l' h=>by simp only [if_true,C7.injEq] at h; subst h; rfl,fun h=>by simp at h⟩
    | false=>exact ⟨fun l' h=>by simp at h,fun _=>.inl ⟨_,rfl⟩⟩
   | none =>
    refine ⟨fun l' h=>?_,fun h=>by simp at h⟩
    simp only [C7.injEq] at h;subst h;simp only [nv0,nvS,dvI,dvB,dvS,dvL,B5,H2,hcp,B6,C5,C8,E1,hb2,H1,E0,C2,D2,mf]
 · simp only [h1,H4,H2,if_false]
   by_cases e1:t.k=u.k
   · rw [H7 e1,H5 e1]
     by_cases e2:t.n=u.n
     · rw [H7 e2,H5 e2]
       by_cases e3:t.s=u.s
       · rw [H7 e3,H5 e3]
         by_cases e4:t.as.length=u.as.length
         · have e4':((t.as.map Tm.row).length:Int)=((u.as.map Tm.row).length:Int):=by simp [e4]
           rw [H7 e4',H5 e4];simp only [D8,H2,h0 e4];cases mTs t.as u.as l with
           | none=>exact ⟨fun l' h=>by simp at h,fun _=>.inr rfl⟩
           | some l2=>exact ⟨fun l' h=>by simp only [C7.injEq] at h; subst h; rfl,fun h=>by simp at h⟩
         · have e4':¬((t.as.map Tm.row).length:Int)=((u.as.map Tm.row).length:Int):=by simp; omega
           rw [H8 e4',H6 e4]; exact ⟨fun l' h=>by simp at h,fun _=>.inl ⟨_,rfl⟩⟩
       · rw [H8 e3,H6 e3]; exact ⟨fun l' h=>by simp at h,fun _=>.inl ⟨_,rfl⟩⟩
     · rw [H8 e2,H6 e2]; exact ⟨fun l' h=>by simp at h,fun _=>.inl ⟨_,rfl⟩⟩
   · rw [H8 e1,H6 e1]; exact ⟨fun l' h=>by simp at h,fun _=>.inl ⟨_,rfl⟩⟩
theorem r209 (l:List Bnd) (hl:l.length<=1048576) (hs:∀ b∈l,ax b.2) (ns:List ByteArray) (hn:ns.length<=1048577):rn ⟨209,0,0⟩ [.sl (l.map Bnd.row),.sl (ns.map ai)]=some (0,[.sl ((rsB l (cu ns)).map Bnd.row)]):=by
 have h1:=r138 ns (by omega)
 have hsl:=ia ns;rw [e209_0_0,h1];generalize cu ns=ms at hsl ⊢;have key:∀ n i (acc:List Bnd),i+n=ms.length->acc.length<=i->rn ⟨209,0,1⟩ [.sl (l.map Bnd.row),.int (i:Int),.sl (acc.map Bnd.row),.sl (ms.map ai)]=some (0,[.sl ((acc++rsB l (ms.drop i)).map Bnd.row)]):=by
  intro n;induction n with
  | zero =>
   intro i acc hi ha;obtain rfl:i=ms.length:=by omega
   rw [e209_0_1];simp only [B6,C0,D7,H4,H2,C9,rsB,List.filterMap_nil,J3]
  | succ n ih =>
   intro i acc hi ha;have hlt:i<ms.length:=by omega
   rw [e209_0_1,B8 hlt,Qh];have hbd:=r115 l hl hs ms[i];have hb2:F9 (acc.length+1) M63=true:=nb (by omega)
   simp only [B6,C0,hlt,H3,H1,ba,B9,ae hlt,ag hlt (br (by omega)),ai,nv0,nvS,dvI,dvB,dvS,dvL,B5,hbd]
   cases hq:bnd l ms[i] with
   | none =>
    have h2:=ih (i+1) acc (by omega) (by omega)
    simp only [nv0,nvS,dvI,dvB,dvS,dvL,B5,H2,h2]
   | some v =>
    have h2:=ih (i+1) (acc++[(ms[i],v)]) (by omega) (by simp; omega)
    simp only [E0,C2,D2,mf,ai] at h2;simp only [nv0,nvS,dvI,dvB,dvS,dvL,B5,H1,C5,C8,E1,hb2,h2,E0,C2,E3,G8,E4,mf]
 have h:=key ms.length 0 [] (by omega) (K0 _)
 simp only [C6,D2,D5,E4] at h;simp only [h,nv0,nvS,dvI,dvB,dvS,dvL,B5,E2,H1,H2]
theorem r186 (t u:Tm) (ht:t.nodes<=1048576) (hu:ax u):rn ⟨186,0,0⟩ [.int t.k,.int t.n,.str t.s,.sl (t.as.map Tm.row),.int u.k,.int u.n,.str u.s,.sl (u.as.map Tm.row)]=some (0,foI ((mT t u []).map fun l=>rsB l (cu (cu t.names))) []):=by
 obtain ⟨h1,h2⟩:=mS t u [] hu (by simp) (by simpa using ht)
 have h3:=r72 t (by omega)
 have hnl:=cq t;have hsl:=ia t.names;rw [e186_0_0];simp only [D2] at h1 h2;cases hq:mT t u [] with
 | none =>
  rcases h2 hq with ⟨X,e⟩ | e
  · rw [e]; rfl
  · rw [e]; rfl
 | some l =>
  have hls:=pa ax (fun t a h ha=>h.sub ha) t u [] l hu (by simp) hq
  have hln:=Ae _ _ _ _ hq;simp only [C8] at hln;have h4:=r209 l (by omega) hls (cu t.names) (by omega)
  simp only [h1 l hq,nv0,nvS,dvI,dvB,dvS,dvL,B5,E2,H1,H2,D8,h3,h4,N2,foI]
theorem Yu (l:List Bnd) (hl:l.length<=1048576) (hs:∀ b∈l,b.2.nodes<=60) (gs:List Gu) (hg:gs.length<=1048576) (h:∀ g∈gs,g.l.nodes<=60/\g.r.nodes<=60):rn ⟨85,0,0⟩ [.sl (l.map Bnd.row),.sl (gs.map Gu.row)]=some (0,[.bool (gs.all fun g=>holds (dn l g))]):=by
 have hss:∀ b∈l,ax b.2:=fun b hb=>aq _ (by have:=hs b hb; omega)
 rw [e85_0_0];have hf:=Ha (F:=fun i=>rn ⟨85,0,1⟩ [.sl (l.map Bnd.row),.sl (gs.map Gu.row),.int (gs.map Gu.row).length,.int (i:Int)]) (xs:=gs) (p:=fun g=>holds (dn l g)) (A:=some (0,[])) (B:=some (1,[])) (fun i hi=>?_) ?_
 · simp only [C6] at hf
   rw [hf];cases gs.all fun g=>holds (dn l g) <;> rfl
 · have hgi:=h _ (C1 hi)
   have a1:=r144 l hl hss gs[i] ⟨by omega,by omega⟩
   have a2:=r143 (dn l gs[i]) (Cq hs hgi.1 hgi.2);rw [e85_0_1];simp only [B9,ae hi,Es,B6,ba,hi,C0,H3,H1,nv0,nvS,dvI,dvB,dvS,dvL,B5,ag hi (by unfold maxLen; omega),a1,a2]
   cases holds (dn l gs[i]) <;> rfl
 · rw [e85_0_1]
   simp
theorem r196 (d:DfM) (hd:DfG d) (i:Nat) (hi:i<d.ru.length) (u:Tm) (hu:u.nodes<=60):rn ⟨196,0,0⟩ [.sl (d.so.map ai),.sl (d.op.map OpM.row),.sl (d.ru.map RuM.row),.sl (d.st.map StM.row),.int (i:Int),.int u.k,.int u.n,.str u.s,.sl (u.as.map Tm.row)]=some (0,frR (fm d.ru[i] u)):=by
 have hr:=hd.ru (C1 hi);have hln:=bb hr.lv;have hrn:=bb hr.rv;have h1:=mI1 d.ru[i].l u [] (aq u (by omega)) (by simp) (by simp; omega)
 rw [e196_0_0];simp only [D2] at h1;simp only [B6,ba,hi,H3,H1,B9,ae hi,RuM.row,nv0,nvS,dvI,dvB,dvS,dvL,B5,h1];unfold fm;cases hq:mT d.ru[i].l u [] with
 | none=>rfl
 | some l =>
  have hls:=pa (fun t=>t.nodes<=60) (fun t a h ha=>pz t a h ha) _ u [] l hu (by simp) hq
  have hln2:=Ae _ _ _ _ hq;simp only [C8] at hln2;have hss:∀ b∈l,ax b.2:=fun b hb=>aq _ (by have:=hls b hb; omega)
  have h2:=Yu l (by omega) hls d.ru[i].g hr.b.g (fun g hg=>⟨bb (hr.gl g hg).1,bb (hr.gl g hg).2⟩)
  have h3:=r91 l (by omega) hss d.ru[i].r (aq _ (by omega))
  have h4:=r90 (aS l d.ru[i].r) (sz hss _ (aq _ (by omega)))
  simp only [foI,nv0,nvS,dvI,dvB,dvS,dvL,B5,D8,H2,h2,h3,h4];cases d.ru[i].g.all fun g=>holds (dn l g) <;> rfl
theorem r151 {ops:List OpM} (r:RuM) (hr:RuG ops r) (u:Tm) (hu:u.nodes<=60):rn ⟨151,0,0⟩ [.str r.n,.int (r.l).k,.int (r.l).n,.str (r.l).s,.sl ((r.l).as.map Tm.row),.int (r.r).k,.int (r.r).n,.str (r.r).s,.sl ((r.r).as.map Tm.row),.sl (r.g.map Gu.row),.int u.k,.int u.n,.str u.s,.sl (u.as.map Tm.row)]=some (0,[.bool (fm r u).isSome,.sl ((fiL r u).map Bnd.row)]):=by
 have hln:=bb hr.lv;have hrn:=bb hr.rv;have hgl:=hr.b.g;have h1:=r186 r.l u (by omega) (aq u (by omega))
 have hL:(∀ b∈fiL r u,b.2.nodes<=60)/\(fiL r u).length<=1048576:=by
  unfold fiL;cases hq:mT r.l u [] with
  | none=>exact ⟨by simp,by simp⟩
  | some l =>
   have hls:=pa (fun t=>t.nodes<=60) (fun t a h ha=>pz t a h ha) _ u [] l hu (by simp) hq
   have h1:=ia r.l.names;have h2:=ia (cu r.l.names);have h3:=cq r.l;have h4:=Lh l (cu (cu r.l.names));exact ⟨fun b hb=>Li (P:=fun t=>t.nodes<=60) hls _ b hb,by show (rsB l _).length<=_; omega⟩
 have hss:∀ b∈fiL r u,ax b.2:=fun b hb=>aq _ (by have:=hL.1 b hb; omega)
 have e:rn ⟨186,0,0⟩ [.int (r.l).k,.int (r.l).n,.str (r.l).s,.sl ((r.l).as.map Tm.row),.int u.k,.int u.n,.str u.s,.sl (u.as.map Tm.row)]=some (0,[.bool (mT r.l u []).isSome,.sl ((fiL r u).map Bnd.row)]):=by
  rw [h1]; unfold fiL;cases mT r.l u [] <;> rfl
 have key:∀ n i (b:Bool),i+n=r.g.length->rn ⟨151,0,1⟩ [.bool b,.int (i:Int),.str r.n,.int (r.l).k,.int (r.l).n,.str (r.l).s,.sl ((r.l).as.map Tm.row),.int (r.r).k,.int (r.r).n,.str (r.r).s,.sl ((r.r).as.map Tm.row),.sl (r.g.map Gu.row),.sl ((fiL r u).map Bnd.row)]=some (0,[.bool (b&&(r.g.drop i).all fun g=>holds (dn (fiL r u) g)),.sl ((fiL r u).map Bnd.row)]):=by
  intro n;induction n with
  | zero =>
   intro i b hi;obtain rfl:i=r.g.length:=by omega
   rw [e151_0_1];simp only [B6,C0,D7,H4,H2,C9,N5,K4]
  | succ n ih =>
   intro i b hi;have hlt:i<r.g.length:=by omega
   have hgi:=hr.gl _ (C1 hlt);have g1:=bb hgi.1;have g2:=bb hgi.2;have a1:=r111 (fiL r u) hL.2 hss r.g[i] ⟨by omega,by omega⟩
   have a2:=r110 (dn (fiL r u) r.g[i]) (Cq hL.1 g1 g2);rw [e151_0_1,B8 hlt];cases b with
   | false=>simp [hlt]
   | true =>
    simp only [B6,C0,hlt,H3,H1,ba,B9,ae hlt,ag hlt (br (by omega)),Es,nv0,nvS,dvI,dvB,dvS,dvL,B5,a1,a2,ih (i+1) _ (by omega),J8,F6]
 have h2:=fun b=>key r.g.length 0 b (by omega)
 simp only [D5,C6] at h2;rw [e151_0_0];simp only [e,nv0,nvS,dvI,dvB,dvS,dvL,B5,E2,H1,H2,h2];rw [Hn];cases ((mT r.l u []).isSome&&r.g.all fun g=>holds (dn (fiL r u) g)) <;> rfl
theorem r194 (d:DfM) (hd:DfG d) (u:Tm) (hu:u.nodes<=60):rn ⟨194,0,0⟩ [.sl (d.so.map ai),.sl (d.op.map OpM.row),.sl (d.ru.map RuM.row),.sl (d.st.map StM.row),.int u.k,.int u.n,.str u.s,.sl (u.as.map Tm.row)]=some (0,[.int (Jq (pc d.ru u))]):=by
 have hrl:=hd.b.ru;have key:∀ n i,i+n=d.ru.length->rn ⟨194,0,1⟩ [.int (d.ru.length:Int),.int (i:Int),.sl (d.so.map ai),.sl (d.op.map OpM.row),.sl (d.ru.map RuM.row),.sl (d.st.map StM.row),.int u.k,.int u.n,.str u.s,.sl (u.as.map Tm.row)]=match (d.ru.drop i).findIdx? (fun r=>(fm r u).isSome) with
  | some j=>some (1,[.int ((i+j:Nat):Int)])
  | none=>some (0,[]):=by
  intro n;induction n with
  | zero =>
   intro i hi;obtain rfl:i=d.ru.length:=by omega
   rw [e194_0_1];simp only [B6,C0,D7,H4,H2,C9,List.findIdx?_nil]
  | succ n ih =>
   intro i hi;have hlt:i<d.ru.length:=by omega
   have h1:=r196 d hd i hlt u hu;have h2:=ih (i+1) (by omega)
   rw [e194_0_1,B8 hlt,List.findIdx?_cons];simp only [C0,hlt,H3,H1,h1,ag hlt (br (by omega)),h2]
   cases fm d.ru[i] u with
   | some w=>rfl
   | none =>
    simp only [frR,nv0,nvS,dvI,dvB,dvS,dvL,B5,H2,Option.isSome_none,K6,if_false];cases (d.ru.drop (i+1)).findIdx? (fun r=>(fm r u).isSome) with
    | none=>rfl
    | some j=>simp only [N2,show i+(j+1)=i+1+j by omega]
 have h:=key d.ru.length 0 (by omega)
 simp only [D5,C6,E1] at h;rw [e194_0_0];simp only [B6,h];unfold pc;cases d.ru.findIdx? (fun r=>(fm r u).isSome) <;> rfl
theorem r148 (d:DfM) (hd:DfG d) (u:Tm) (hu:u.nodes<=60):rn ⟨148,0,0⟩ [.sl (d.so.map ai),.sl (d.op.map OpM.row),.sl (d.ru.map RuM.row),.sl (d.st.map StM.row),.int u.k,.int u.n,.str u.s,.sl (u.as.map Tm.row)]=some (0,[.int (Jq (pc d.ru u))]):=by
 have hrl:=hd.b.ru;have key:∀ n i,i+n=d.ru.length->rn ⟨148,0,1⟩ [.int (i:Int),.sl (d.so.map ai),.sl (d.op.map OpM.row),.sl (d.ru.map RuM.row),.sl (d.st.map StM.row),.int u.k,.int u.n,.str u.s,.sl (u.as.map Tm.row)]=match (d.ru.drop i).findIdx? (fun r=>(fm r u).isSome) with
  | some j=>some (1,[.int ((i+j:Nat):Int)])
  | none=>some (0,[]):=by
  intro n;induction n with
  | zero =>
   intro i hi;obtain rfl:i=d.ru.length:=by omega
   rw [e148_0_1];simp only [B6,C0,D7,H4,H2,C9,List.findIdx?_nil]
  | succ n ih =>
   intro i hi;have hlt:i<d.ru.length:=by omega
   have h1:=r151 d.ru[i] (hd.ru (C1 hlt)) u hu;have h2:=ih (i+1) (by omega)
   rw [e148_0_1,B8 hlt,List.findIdx?_cons];simp only [B6,C0,hlt,H3,H1,ba,B9,ae hlt,ag hlt (br (by omega)),RuM.row,nv0,nvS,dvI,dvB,dvS,dvL,B5,h1,h2]
   cases fm d.ru[i] u with
   | some w=>rfl
   | none =>
    simp only [H2,Option.isSome_none,K6,if_false];cases (d.ru.drop (i+1)).findIdx? (fun r=>(fm r u).isSome) with
    | none=>rfl
    | some j=>simp only [N2,show i+(j+1)=i+1+j by omega]
 have h:=key d.ru.length 0 (by omega)
 simp only [D5,C6,E1] at h;rw [e148_0_0];simp only [h];unfold pc;cases d.ru.findIdx? (fun r=>(fm r u).isSome) <;> rfl
end Go.Q.S
end
section
namespace Go.Q.S
open Go Go.Q Go.Proofs
theorem r165 (d:DfM) (hd:DfG d):∀ t:Tm,Gt d.op t->t.nodes<=60->∀ acc:List Int,acc.length+t.nodes<=1048576->rn ⟨165,0,0⟩ [.sl (d.so.map ai),.sl (d.op.map OpM.row),.sl (d.ru.map RuM.row),.sl (d.st.map StM.row),.int t.k,.int t.n,.str t.s,.sl (t.as.map Tm.row),.sl (acc.map bu)]=some (0,nrR (nx d t) acc):=Tm.ind fun t ih ht hn acc hac=>by
 have hnd:=Tm.nodes_eq t;have hls:=dr (xs:=t.as);have hst:=hd.b.st;have hql:=Uj d.st t;have hlp:∀ n i,i+n=(stL d.st t).length->rn ⟨165,0,1⟩ [.int ((stL d.st t).length:Int),.int (i:Int),.sl (acc.map bu),.sl (d.so.map ai),.sl (d.op.map OpM.row),.sl (d.ru.map RuM.row),.sl (d.st.map StM.row),.int t.k,.int t.n,.str t.s,.sl (t.as.map Tm.row),.int 0,.sl ((stL d.st t).map bu),.sl []]=match nn ((stL d.st t).drop i) (t.as.map (nx d)) with
  | some x=>some (1,[.int (x.1:Int),.sl ((acc++x.2).map bu)])
  | none=>some (0,[.sl (acc.map bu),.sl (d.so.map ai),.sl (d.op.map OpM.row),.sl (d.ru.map RuM.row),.sl (d.st.map StM.row),.int t.k,.int t.n,.str t.s,.sl (t.as.map Tm.row),.int 0,.sl []]):=by
  have hq:∀ j∈stL d.st t,0<=j/\j.toNat<t.as.length:=fun j hj=>Qg hd ht hj
  generalize stL d.st t=q at hql hq ⊢;intro n;induction n with
  | zero =>
   intro i hi;obtain rfl:i=q.length:=by omega
   rw [e165_0_1];simp only [B6,C0,D7,H4,H2,C9,Af]
  | succ n ih2 =>
   intro i hi;have hlt:i<q.length:=by omega
   obtain ⟨h0,hm⟩:=hq _ (C1 hlt);rw [B8 hlt];rw [e165_0_1];generalize hj:q[i]=j at h0 hm ⊢;obtain ⟨m,rfl⟩:∃ m:Nat,j=(m:Int):=⟨j.toNat,by omega⟩
   rw [B9] at hm;have hmm:=C1 hm;have hms:=dl (f:=Tm.nodes) hmm;have h1:=ih _ hmm (ht.sub hmm) (by omega) (acc++[(m:Int)]) (by simp; omega)
   have h2:=Lr (acc.map bu) (by rw [B6]; omega)
   have hb2:F9 (acc.length+1) M63=true:=nb (by omega)
   simp only [E0,C2,D2,bu] at h1;rw [Cr hm];simp only [B6,C0,hlt,H3,H1,ba,B9,ae hlt,ag hlt (br (by omega)),hj,hm,ae hm,Tm.row_eq,bu,nv0,nvS,dvI,dvB,dvS,dvL,B5,C5,C8,E1,hb2]
   simp only [h2,nv0,nvS,dvI,dvB,dvS,dvL,B5,B6,hb2,H1,h1];have h3:=ih2 (i+1) (by omega)
   cases nx d t.as[m] with
   | some x=>simp only [nrR,nv0,nvS,dvI,dvB,dvS,dvL,B5,H1,E3,G8,E4]
   | none=>simp only [nrR,nv0,nvS,dvI,dvB,dvS,dvL,B5,H2,h3]
 have h0:=hlp (stL d.st t).length 0 (by omega)
 simp only [D5,C6] at h0;have h1:=r193 d hd.b t;have h2:=r194 d hd t hn;rw [e165_0_0,Qf,h1];simp only [nv0,nvS,dvI,dvB,dvS,dvL,B5,B6,h0];cases nn (stL d.st t) (t.as.map (nx d)) with
 | some x=>rfl
 | none =>
  simp only [nv0,nvS,dvI,dvB,dvS,dvL,B5,E2,H1,H2,h2];cases pc d.ru t with
  | none=>rfl
  | some i =>
   have q:¬((i:Int)<0):=by omega
   simp only [Jq,q,H4,H2,N2,nrR,J3]
theorem r88 (d:DfM) (hd:DfG d):∀ t:Tm,Gt d.op t->t.nodes<=60->rn ⟨88,0,0⟩ [.sl (d.so.map ai),.sl (d.op.map OpM.row),.sl (d.ru.map RuM.row),.sl (d.st.map StM.row),.int t.k,.int t.n,.str t.s,.sl (t.as.map Tm.row)]=some (0,nrS (nx d t)):=Tm.ind fun t ih ht hn=>by
 have hnd:=Tm.nodes_eq t;have hls:=dr (xs:=t.as);have hst:=hd.b.st;have hql:=Hm d.st t.s;have hlp:∀ n i,i+n=(km d.st t.s).length->rn ⟨88,0,1⟩ [.int (i:Int),.sl (d.so.map ai),.sl (d.op.map OpM.row),.sl (d.ru.map RuM.row),.sl (d.st.map StM.row),.int t.k,.int t.n,.str t.s,.sl (t.as.map Tm.row),.int 0,.sl ((km d.st t.s).map bu),.sl []]=match nn (if t.k=2 then (km d.st t.s).drop i else []) (t.as.map (nx d)) with
  | some x=>some (1,[.int (x.1:Int),.sl (x.2.map bu)])
  | none=>some (0,[.sl (d.so.map ai),.sl (d.op.map OpM.row),.sl (d.ru.map RuM.row),.sl (d.st.map StM.row),.int t.k,.int t.n,.str t.s,.sl (t.as.map Tm.row),.int 0,.sl []]):=by
  by_cases hk:t.k=2
  · have hq:∀ j∈km d.st t.s,0<=j/\j.toNat<t.as.length:=fun j hj=>Qg hd ht (by unfold stL; rw [H5 hk]; exact hj)
    generalize km d.st t.s=q at hql hq ⊢;intro n;simp only [H5 hk];induction n with
    | zero =>
     intro i hi;obtain rfl:i=q.length:=by omega
     rw [e88_0_1];simp only [B6,C0,D7,H4,H2,C9,Af]
    | succ n ih2 =>
     intro i hi;have hlt:i<q.length:=by omega
     obtain ⟨h0,hm⟩:=hq _ (C1 hlt);rw [B8 hlt];rw [e88_0_1];generalize hj:q[i]=j at h0 hm ⊢;obtain ⟨m,rfl⟩:∃ m:Nat,j=(m:Int):=⟨j.toNat,by omega⟩
     rw [B9] at hm;have hmm:=C1 hm;have hms:=dl (f:=Tm.nodes) hmm;have h1:=ih _ hmm (ht.sub hmm) (by omega)
     have q2:(m:Int)<=(t.as.length:Int)-1:=by omega
     have hw:IntKind.i64.wrap ((t.as.length:Int)-1)=(t.as.length:Int)-1:=IntWalk.i64_in _ (by omega)
     have h3:=ih2 (i+1) (by omega)
     rw [Cr hm,H7 hk];simp only [B6,C0,hlt,H3,H1,ba,B9,ae hlt,ag hlt (br (by omega)),hj,hm,hw,h0,q2,rIn,K4,D8,H2,ae hm,Tm.row_eq,bu,nv0,nvS,dvI,dvB,dvS,dvL,B5,h1]
     cases hx:nx d t.as[m] with
     | some x =>
      obtain ⟨u,_,_,hu,_⟩:=yi d _ x.1 x.2 hx;have hun:=jn x.2 _ u hu;have hb2:F9 (0+1+x.2.length) M63=true:=nb (by omega)
      simp only [nrS,nv0,nvS,dvI,dvB,dvS,dvL,B5,H1,C5,C8,B6,hb2,G8,E4,C2,bu]
     | none=>simp only [nrS,nv0,nvS,dvI,dvB,dvS,dvL,B5,H2,h3]
  · intro n i hi
    rw [H6 hk,Af,e88_0_1,H8 hk];cases decide ((i:Int)<(((km d.st t.s).map bu).length:Int)) <;> rfl
 have h0:=hlp (km d.st t.s).length 0 (by omega)
 simp only [D5,C6] at h0;have h1:=fun a b c=>r147 a b c d.st hd.b.st t.s
 have h2:=r148 d hd t hn;have hmx:∀ x:Option Nat,rn ⟨149,0,0⟩ [.int (Jq x),.int 0]=some (0,[.int ((x.getD 0:Nat):Int)]):=fun x=>by
  rw [e149_0_0];cases x with
  | none=>rfl
  | some i =>
   by_cases hi:(0:Int)<Jq (some i)
   · rw [H7 hi]; rfl
   · rw [H8 hi]
     simp only [Jq] at hi;obtain rfl:i=0:=by omega
     rfl
 rw [e88_0_0,Qf,h1];simp only [nv0,nvS,dvI,dvB,dvS,dvL,B5,h0];have e:(if t.k=2 then km d.st t.s else [])=stL d.st t:=rfl
 rw [e];cases nn (stL d.st t) (t.as.map (nx d)) with
 | some x=>rfl
 | none =>
  simp only [nv0,nvS,dvI,dvB,dvS,dvL,B5,E2,H1,H2,h2,hmx];cases pc d.ru t with
  | none=>rfl
  | some i =>
   have q:(0:Int)<=(i:Int):=by omega
   simp only [Jq,q,H3,N2,nrS,Option.getD_some,D2]
theorem r166 (d:DfM) (hd:DfG d) (t:Tm) (ht:Gt d.op t) (hn:t.nodes<=60) (i:Nat) (p:List Int) (hx:nx d t=some (i,p)):rn ⟨166,0,0⟩ [.sl (d.so.map ai),.sl (d.op.map OpM.row),.sl (d.ru.map RuM.row),.sl (d.st.map StM.row),.int t.k,.int t.n,.str t.s,.sl (t.as.map Tm.row),.int (i:Int),.sl (p.map bu)]=some (0,[.int (bz d t i p).k,.int (bz d t i p).n,.str (bz d t i p).s,.sl ((bz d t i p).as.map Tm.row),.bool (bz d t i p).valid]):=by
 obtain ⟨u,r,w,h1,h2,h3,e,hu,hun,hw,hwn,hg,hgn,hp,hr⟩:=lj hd ht hn hx;obtain ⟨hi,hri⟩:=D6.1 h2;have a1:=r195 t u p (by omega) h1
 have a2:=r196 d hd i hi u hun;rw [hri,h3] at a2;have a3:=r197 w p t u (by omega) (by omega) h1
 have a4:=r63 (bz d t i p) (by omega) hg.w
 rw [<- e] at a3;rw [e166_0_0];simp only [a1,a2,frR,nv0,nvS,dvI,dvB,dvS,dvL,B5,a3,a4]
theorem r89 (d:DfM) (hd:DfG d) (t:Tm) (ht:Gt d.op t) (hn:t.nodes<=60) (i:Nat) (p:List Int) (hx:nx d t=some (i,p)):rn ⟨89,0,0⟩ [.sl (d.so.map ai),.sl (d.op.map OpM.row),.sl (d.ru.map RuM.row),.sl (d.st.map StM.row),.int t.k,.int t.n,.str t.s,.sl (t.as.map Tm.row),.int (i:Int),.sl (p.map bu)]=some (0,[.int (bz d t i p).k,.int (bz d t i p).n,.str (bz d t i p).s,.bool (bz d t i p).valid,.sl ((bz d t i p).as.map Tm.row)]):=by
 obtain ⟨u,r,w,h1,h2,h3,e,hu,hun,hw,hwn,hg,hgn,hp,hr⟩:=lj hd ht hn hx;obtain ⟨hi,hri⟩:=D6.1 h2;have hrn:=bb hr.rv;have hln:=bb hr.lv;have a1:=r150 t u (by omega) p (by omega) h1
 have a2:=r151 r hr u hun;have e3:=Hn r u;rw [h3] at e3;split at e3
 · simp only [C7.injEq] at e3
   have hL:(∀ b∈fiL r u,b.2.nodes<=60)/\(fiL r u).length<=1048576:=by
    unfold fiL;cases hq:mT r.l u [] with
    | none=>exact ⟨by simp,by simp⟩
    | some l =>
     have hls:=pa (fun t=>t.nodes<=60) (fun t a h ha=>pz t a h ha) _ u [] l hun (by simp) hq
     have h1:=ia r.l.names;have h2:=ia (cu r.l.names);have h3:=cq r.l;have h4:=Lh l (cu (cu r.l.names));exact ⟨fun b hb=>Li (P:=fun t=>t.nodes<=60) hls _ b hb,by show (rsB l _).length<=_; omega⟩
   have hss:∀ b∈fiL r u,ax b.2:=fun b hb=>aq _ (by have:=hL.1 b hb; omega)
   have a3:=r58 (fiL r u) hL.2 hss r.r (aq _ (by omega))
   have a4:=r57 (aS (fiL r u) r.r) (sz hss _ (aq _ (by omega)))
   rw [<- e3] at a4;have a5:=r152 w (by omega) p t u (by omega) (by omega) h1
   have a6:=r70 (bz d t i p) (by omega) hg.w
   rw [<- e] at a5;rw [e89_0_0];subst hri;rw [h3] at a2;simp only [a1,B6,ba,hi,H3,H1,B9,ae hi,RuM.row,nv0,nvS,dvI,dvB,dvS,dvL,B5,a2,a3,a4,a5,a6,Option.isSome_some]
 · simp at e3
theorem r164 (d:DfM) (hb:DfB d) (t:Tm) (hw:Wt t) (hn:t.nodes<=2097152):rn ⟨164,0,0⟩ [.sl (d.so.map ai),.sl (d.op.map OpM.row),.sl (d.ru.map RuM.row),.sl (d.st.map StM.row),.int t.k,.int t.n,.str t.s,.sl (t.as.map Tm.row)]=some (0,[.bool (cfg d t)]):=by
 have h1:=r60 d hb;have h2:=r63 t (by omega) hw
 have h4:=r27 (d.so.map ai) d.op hb.op [] (by simp) t hw
 simp only [D2] at h4;rw [e164_0_0,e192_0_0];simp only [h1,h2,nv0,nvS,dvI,dvB,dvS,dvL,B5];unfold cfg;cases d.valid <;> try rfl
 cases hv:t.valid with
 | false=>rfl
 | true =>
  have h3:=r184 t (by have:=bb hv; omega)
  simp only [h3,h4,nv0,nvS,dvI,dvB,dvS,dvL,B5,H1,F6];cases isG t <;> rfl
theorem r87 (d:DfM) (hb:DfB d) (t:Tm) (hw:Wt t) (hn:t.nodes<=2097152):rn ⟨87,0,0⟩ [.sl (d.so.map ai),.sl (d.op.map OpM.row),.sl (d.ru.map RuM.row),.sl (d.st.map StM.row),.int t.k,.int t.n,.str t.s,.sl (t.as.map Tm.row)]=some (0,[.bool (cfg d t)]):=by
 have h1:=r68 d hb;have h2:=r70 t (by omega) hw
 have h4:=r32 (d.so.map ai) d.op hb.op [] (by simp) t hw
 simp only [D2] at h4;rw [e87_0_0];simp only [h1,h2,nv0,nvS,dvI,dvB,dvS,dvL,B5];unfold cfg;cases d.valid <;> try rfl
 cases hv:t.valid with
 | false=>rfl
 | true =>
  have h3:=r146 t (by have:=bb hv; omega)
  simp only [h3,h4,nv0,nvS,dvI,dvB,dvS,dvL,B5,H1,F6];cases isG t <;> rfl
theorem r43 (d:DfM) (hb:DfB d) (t:Tm) (hw:Wt t) (hn:t.nodes<=2097152) (f:Int):rn ⟨43,0,0⟩ [.sl (d.so.map ai),.sl (d.op.map OpM.row),.sl (d.ru.map RuM.row),.sl (d.st.map StM.row),.int t.k,.int t.n,.str t.s,.sl (t.as.map Tm.row),.int f]=some (0,[.bool (cfg d t&&(decide (0<=f)&&decide (f<=200)))]):=by
 have h1:=r87 d hb t hw hn;rw [e43_0_0];simp only [h1,rIn,nv0,nvS,dvI,dvB,dvS,dvL,B5];cases cfg d t <;> rfl
end Go.Q.S
end
section
namespace Go.Q.S
open Go Go.Q Go.Proofs
theorem Yv (d:DfM) (hd:DfG d):∀ (n:Nat) (t:Tm) (S:List Tm) (R:List (Nat×List Int)) (f:Nat),Gt d.op t->t.nodes<=60->R.length+n=f->f<=200->S.length<=R.length+1->rn ⟨107,0,1⟩ [.int (f:Int),.sl (d.so.map ai),.sl (d.op.map OpM.row),.sl (d.ru.map RuM.row),.sl (d.st.map StM.row),.int 0,.int 0,.int 0,.str e0,.int 0,.int t.k,.int t.n,.str t.s,.sl (S.map Tm.row),.sl (R.map pd),.sl [],.sl (t.as.map Tm.row)]=some (0,[.int (dm d n t).o,.int (dm d n t).t.k,.int (dm d n t).t.n,.str (dm d n t).t.s,.int ((R.length+(dm d n t).rd.length:Nat):Int),.sl ((S++(dm d n t).st).map Tm.row),.sl ((R++(dm d n t).rd).map pd),.sl ((dm d n t).t.as.map Tm.row)]):=by
 intro n;induction n with
 | zero =>
  intro t S R f ht hn hR hf hS;have h1:=r165 d hd t ht hn [] (by simp; omega)
  have h2:=r82 t (aq t (by omega))
  simp only [D2] at h1;have e1:((R.length:Int)=(f:Int)):=by omega
  rw [e107_0_1];cases hx:nx d t with
  | none =>
   rw [hx] at h1;simp only [h1,nrR,nv0,nvS,dvI,dvB,dvS,dvL,B5,J4,H1,show decide ((1:Int)=0)=false from rfl,h2,B6,jo hx,J3,C8,N3]
  | some x =>
   rw [hx] at h1;simp only [h1,nrR,nv0,nvS,dvI,dvB,dvS,dvL,B5,D8,J4,H1,H2,show decide ((2:Int)=0)=false from rfl,h2,B6,e1,H3,vp hx,J3,C8,N3]
 | succ n ih =>
  intro t S R f ht hn hR hf hS;have h1:=r165 d hd t ht hn [] (by simp; omega)
  have h2:=r82 t (aq t (by omega))
  simp only [D2] at h1;have e1:¬((R.length:Int)=(f:Int)):=by omega
  rw [e107_0_1];cases hx:nx d t with
  | none =>
   rw [hx] at h1;simp only [h1,nrR,nv0,nvS,dvI,dvB,dvS,dvL,B5,J4,H1,show decide ((1:Int)=0)=false from rfl,h2,B6,jo hx,J3,C8,N3]
  | some x =>
   rw [hx] at h1;have h3:=r166 d hd t ht hn x.1 x.2 hx;obtain ⟨_,_,_,_,_,_,_,_,_,_,_,hg,hgn,_⟩:=lj hd ht hn hx;cases hv:(bz d t x.1 x.2).valid with
   | false =>
    rw [hv] at h3;simp only [h1,nrR,E4,h3,nv0,nvS,dvI,dvB,dvS,dvL,B5,D8,J4,H1,H2,show decide ((3:Int)=0)=false from rfl,h2,B6,e1,H4,Ah hx hv,J3,C8,N3]
   | true =>
    rw [hv] at h3;have h4:=r82 (bz d t x.1 x.2) (aq _ (by omega))
    have h5:=ih (bz d t x.1 x.2) (S++[bz d t x.1 x.2]) (R++[x]) f hg (bb hv) (by simp; omega) hf (by simp; omega)
    simp only [E0,C2,D2,Tm.row_eq,pd,E9,C5,C8,E1] at h5;have ea:R.length+1+(dm d n (bz d t x.1 x.2)).rd.length=R.length+((dm d n (bz d t x.1 x.2)).rd.length+1):=by omega
    have b1:F9 (S.length+1) M63=true:=nb (by omega)
    have b2:F9 (R.length+1) M63=true:=nb (by omega)
    simp only [h1,nrR,E4,h3,nv0,nvS,dvI,dvB,dvS,dvL,B5,D8,J4,H1,H2,H3,h4,B6,e1,H4,C5,C8,E1,b1,b2,h5,Eg hx hv,E9];simp only [E0,C2,D2,Tm.row_eq,pd,E3,G8,E4,C5,ea]
theorem r107 (d:DfM) (hb:DfB d) (t:Tm) (hw:Wt t) (hn:t.nodes<=2097152) (f:Int):rn ⟨107,0,0⟩ [.sl (d.so.map ai),.sl (d.op.map OpM.row),.sl (d.ru.map RuM.row),.sl (d.st.map StM.row),.int t.k,.int t.n,.str t.s,.sl (t.as.map Tm.row),.int f]=some (0,Jr (jb d t f) t):=by
 have h1:=r164 d hb t hw hn;rw [e107_0_0];unfold jb;by_cases f1:0<=f
 · by_cases f2:f<=200
   · have q1:¬ f<0:=by omega
     have q2:¬ 200<f:=by omega
     simp only [q1,q2,H4,H2,h1,nv0,nvS,dvI,dvB,dvS,dvL,B5];cases hc:cfg d t with
     | false=>simp [Jr]
     | true =>
      obtain ⟨hd,ht,hn60⟩:=Ag hb hw hc;have h2:=r82 t (aq t (by omega))
      have h3:=Yv d hd f.toNat t [t] [] f.toNat ht hn60 (by simp) (by omega) (by simp)
      have ef:((f.toNat:Nat):Int)=f:=by omega
      simp only [ef,C2,D2,Tm.row_eq,C8,E1,E4] at h3;rw [H5 ⟨f1,f2,rfl⟩];simp only [D8,H2,h2,nv0,nvS,dvI,dvB,dvS,dvL,B5,h3,E2,H1,H2,Jr,G8,E4,C2,Tm.row_eq]
   · have q1:¬ f<0:=by omega
     have q2:200<f:=by omega
     rw [H6 (by omega)]
     simp only [q1,q2,H3,H4,H1,H2,Jr]
 · have q1:f<0:=by omega
   rw [H6 (by omega)]
   simp only [q1,H3,H1,Jr]
theorem Yw (d:DfM) (hd:DfG d):∀ (n:Nat) (t:Tm) (S:List Tm) (R:List (Nat×List Int)) (f:Nat),Gt d.op t->t.nodes<=60->R.length+n=f->f<=200->S.length<=R.length->rn ⟨44,0,1⟩ [.int (f:Int),.sl (d.so.map ai),.sl (d.op.map OpM.row),.sl (d.ru.map RuM.row),.sl (d.st.map StM.row),.int 1,.int t.k,.int t.n,.str t.s,.int (R.length:Int),.sl (t.as.map Tm.row),.sl (R.map pd),.sl (S.map Tm.row)]=some (0,[.int (dm d n t).o,.int (dm d n t).t.k,.int (dm d n t).t.n,.str (dm d n t).t.s,.int ((R.length+(dm d n t).rd.length:Nat):Int),.sl ((dm d n t).t.as.map Tm.row),.sl ((R++(dm d n t).rd).map pd),.sl ((S++t::(dm d n t).st).map Tm.row)]):=by
 intro n;induction n with
 | zero =>
  intro t S R f ht hn hR hf hS;have h1:=r88 d hd t ht hn;have e1:((R.length:Int)=(f:Int)):=by omega
  have b1:F9 (S.length+1) M63=true:=nb (by omega)
  have hi:inb (S.length:Int) (S.length+1)=true:=by simp [inb]; omega
  have ho:=Ai (S.map Tm.row) t.k t.n 0 0 t.s ⟨#[]⟩ (t.as.map Tm.row) [];rw [B6] at ho;rw [e44_0_1];cases hx:nx d t with
  | none =>
   rw [hx] at h1;simp only [h1,nrS,nv0,nvS,dvI,dvB,dvS,dvL,B5,J4,H1,B6,E9,C5,C8,E1,b1,hi,B9,ho,jo hx,J3,N3,E0,C2,D2,Tm.row_eq]
  | some x =>
   rw [hx] at h1;simp only [h1,nrS,nv0,nvS,dvI,dvB,dvS,dvL,B5,D8,H1,H2,B6,E9,C5,C8,E1,b1,hi,B9,ho,e1,H3,vp hx,J3,N3,E0,C2,D2,Tm.row_eq]
 | succ n ih =>
  intro t S R f ht hn hR hf hS;have h1:=r88 d hd t ht hn;have e1:¬((R.length:Int)=(f:Int)):=by omega
  have b1:F9 (S.length+1) M63=true:=nb (by omega)
  have b2:F9 (R.length+1) M63=true:=nb (by omega)
  have hi:inb (S.length:Int) (S.length+1)=true:=by simp [inb]; omega
  have ho:=Ai (S.map Tm.row) t.k t.n 0 0 t.s ⟨#[]⟩ (t.as.map Tm.row) [];have hw:IntKind.i64.wrap ((R.length:Int)+1)=((R.length+1:Nat):Int):=IntWalk.i64_in _ (by omega)
  rw [B6] at ho;rw [e44_0_1];cases hx:nx d t with
  | none =>
   rw [hx] at h1;simp only [h1,nrS,nv0,nvS,dvI,dvB,dvS,dvL,B5,J4,H1,B6,E9,C5,C8,E1,b1,hi,B9,ho,jo hx,J3,N3,E0,C2,D2,Tm.row_eq]
  | some x =>
   rw [hx] at h1;have h3:=r89 d hd t ht hn x.1 x.2 hx;obtain ⟨_,_,_,_,_,_,_,_,_,_,_,hg,hgn,_⟩:=lj hd ht hn hx;cases hv:(bz d t x.1 x.2).valid with
   | false =>
    rw [hv] at h3;simp only [h1,nrS,h3,nv0,nvS,dvI,dvB,dvS,dvL,B5,D8,J4,H1,H2,B6,E9,C5,C8,E1,b1,hi,B9,ho,e1,H4,Ah hx hv,J3,N3,E0,C2,D2,Tm.row_eq]
   | true =>
    rw [hv] at h3;have h5:=ih (bz d t x.1 x.2) (S++[t]) (R++[x]) f hg (bb hv) (by simp; omega) hf (by simp; omega)
    simp only [E0,C2,D2,Tm.row_eq,pd,E9,C5,C8,E1] at h5;have ea:R.length+1+(dm d n (bz d t x.1 x.2)).rd.length=R.length+((dm d n (bz d t x.1 x.2)).rd.length+1):=by omega
    simp only [h1,nrS,h3,nv0,nvS,dvI,dvB,dvS,dvL,B5,D8,H1,H2,B6,E9,C5,C8,E1,b1,b2,hi,hw,B9,ho,e1,H4,h5,Eg hx hv];simp only [E0,C2,D2,Tm.row_eq,pd,E3,G8,E4,C5,ea]
theorem r44 (d:DfM) (hb:DfB d) (t:Tm) (hw:Wt t) (f:Int) (f1:0<=f) (f2:f<=200) (hc:cfg d t=true):rn ⟨44,0,0⟩ [.sl (d.so.map ai),.sl (d.op.map OpM.row),.sl (d.ru.map RuM.row),.sl (d.st.map StM.row),.int t.k,.int t.n,.str t.s,.sl (t.as.map Tm.row),.int f]=some (0,Qi (dm d f.toNat t) t):=by
 obtain ⟨hd,ht,hn60⟩:=Ag hb hw hc;have h2:=r55 t (aq t (by omega))
 have h3:=Yw d hd f.toNat t [] [] f.toNat ht hn60 (by simp) (by omega) (by simp)
 have ef:((f.toNat:Nat):Int)=f:=by omega
 simp only [ef,D2,C8,E1,E4,C6] at h3;rw [e44_0_0];simp only [h2,nv0,nvS,dvI,dvB,dvS,dvL,B5,h3,E2,H1,H2,Qi]
end Go.Q.S
end
section
namespace Go.Q.S
open Go Go.Q Go.Proofs
theorem r53 (d:DfM) (hb:DfB d) (t:Tm) (hw:Wt t) (hn:t.nodes<=2097152) (f:Int):rn ⟨53,0,0⟩ [.sl (d.so.map ai),.sl (d.op.map OpM.row),.sl (d.ru.map RuM.row),.sl (d.st.map StM.row),.int t.k,.int t.n,.str t.s,.sl (t.as.map Tm.row),.int f]=some (0,rtD (jb d t f)):=by
 have h1:=r107 d hb t hw hn f;rw [e53_0_0,h1];cases jb d t f <;> rfl
theorem r16 (d:DfM) (hb:DfB d) (t:Tm) (hw:Wt t) (hn:t.nodes<=2097152) (f:Int):rn ⟨16,0,0⟩ [.sl (d.so.map ai),.sl (d.op.map OpM.row),.sl (d.ru.map RuM.row),.sl (d.st.map StM.row),.int t.k,.int t.n,.str t.s,.sl (t.as.map Tm.row),.int f]=some (0,rtD (jb d t f)):=by
 have h1:=r43 d hb t hw hn f;rw [e16_0_0,h1,Eh];cases hc:(cfg d t&&(decide (0<=f)&&decide (f<=200))) with
 | false=>rfl
 | true =>
  simp only [B7,decide_eq_true_eq] at hc;have h2:=r44 d hb t hw f hc.2.1 hc.2.2 hc.1;simp only [nv0,nvS,dvI,dvB,dvS,dvL,B5,D8,H2,H1,h2,Qi,rtD]
theorem r54 (d:DfM) (hb:DfB d) (t:Tm) (hw:Wt t) (hn:t.nodes<=2097152) (g:Tm) (f:Int):rn ⟨54,0,0⟩ [.sl (d.so.map ai),.sl (d.op.map OpM.row),.sl (d.ru.map RuM.row),.sl (d.st.map StM.row),.int t.k,.int t.n,.str t.s,.sl (t.as.map Tm.row),.int g.k,.int g.n,.str g.s,.sl (g.as.map Tm.row),.int f]=some (0,[.bool (rj (jb d t f) t g)]):=by
 have h1:=r107 d hb t hw hn f;have key:∀ l:List Tm,l.length<=1048576->(∀ x∈l,ax x)->rn ⟨108,0,0⟩ [.sl (l.map Tm.row),.int g.k,.int g.n,.str g.s,.sl (g.as.map Tm.row)]=some (0,[.bool (l.any fun x=>eqb x.row g.row),.int g.k,.int g.n,.str g.s,.sl (g.as.map Tm.row)]):=by
  intro l hl hs;have hlp:∀ n i,i+n=l.length->(((l.drop i).any fun x=>eqb x.row g.row)=false/\rn ⟨167,0,1⟩ [.sl (l.map Tm.row),.int (l.length:Int),.int (i:Int),.int g.k,.int g.n,.str g.s,.sl (g.as.map Tm.row)]=some (0,[.int g.k,.int g.n,.str g.s,.sl (g.as.map Tm.row)]))\/(((l.drop i).any fun x=>eqb x.row g.row)=true/\∃ j:Nat,rn ⟨167,0,1⟩ [.sl (l.map Tm.row),.int (l.length:Int),.int (i:Int),.int g.k,.int g.n,.str g.s,.sl (g.as.map Tm.row)]=some (1,[.int (j:Int),.int g.k,.int g.n,.str g.s,.sl (g.as.map Tm.row)])):=by
   intro n;induction n with
   | zero =>
    intro i hi;obtain rfl:i=l.length:=by omega
    rw [e167_0_1];simp only [B6,C0,D7,H4,H2,C9];exact .inl ⟨rfl,trivial⟩
   | succ n ih =>
    intro i hi;have hlt:i<l.length:=by omega
    have he:=r34 l[i] g (hs _ (C1 hlt));rw [e167_0_1,B8 hlt];simp only [R8];generalize eqb l[i].row g.row=b at he ⊢;have:=ih (i+1) (by omega)
    generalize ((l.drop (i+1)).any fun x=>eqb x.row g.row)=A at this ⊢
    simp only [B6,C0,hlt,H3,H1,ba,B9,ae hlt,ag hlt (br (by omega)),Tm.row_eq,nv0,nvS,dvI,dvB,dvS,dvL,B5,e109_0_0,he]
    cases b with
    | true=>exact .inr ⟨rfl,i,by simp⟩
    | false=>simpa using this
  have h:=hlp l.length 0 (by omega)
  simp only [D5,C6] at h;rw [e108_0_0,e167_0_0];simp only [B6];rcases h with ⟨q1,q2⟩|⟨q1,j,q2⟩
  · rw [q2,q1]; rfl
  · rw [q2,q1]
    have:(0:Int)<=(j:Int):=by omega
    simp only [nv0,nvS,dvI,dvB,dvS,dvL,B5,E2,H1,H2,show E5 1 0=false from rfl,this,H3]
 rw [e54_0_0,h1];cases hr:jb d t f with
 | none =>
  have h2:=key [] (by simp) (by simp)
  simp only [D2] at h2;simp only [Jr,nv0,nvS,dvI,dvB,dvS,dvL,B5,h2,rj,List.any_nil]
 | some r =>
  obtain ⟨gd,hn60⟩:=qa hb hw hr;have h2:=key (t::r.st) (by have:=gd.sl; simp; omega) (fun x hx=>by
   rcases D4.1 hx with e | hx
   · subst e; exact aq _ (by omega)
   · exact aq _ (by have:=(gd.s x hx).2; omega))
  simp only [Jr,nv0,nvS,dvI,dvB,dvS,dvL,B5,h2,rj]
theorem r17 (d:DfM) (hb:DfB d) (t:Tm) (hw:Wt t) (hn:t.nodes<=2097152) (g:Tm) (f:Int):rn ⟨17,0,0⟩ [.sl (d.so.map ai),.sl (d.op.map OpM.row),.sl (d.ru.map RuM.row),.sl (d.st.map StM.row),.int t.k,.int t.n,.str t.s,.sl (t.as.map Tm.row),.int g.k,.int g.n,.str g.s,.sl (g.as.map Tm.row),.int f]=some (0,[.bool (rj (jb d t f) t g)]):=by
 have h1:=r43 d hb t hw hn f;have key:∀ l:List Tm,l.length<=1048576->(∀ x∈l,ax x)->∀ n i,i+n=l.length->rn ⟨17,0,1⟩ [.int (i:Int),.int g.k,.int g.n,.str g.s,.sl (g.as.map Tm.row),.sl (l.map Tm.row)]=bif ((l.drop i).any fun x=>eqb x.row g.row) then some (1,[]) else some (0,[]):=by
  intro l hl hs n;induction n with
  | zero =>
   intro i hi;obtain rfl:i=l.length:=by omega
   rw [e17_0_1];simp only [B6,C0,D7,H4,H2,C9,List.any_nil,H2]
  | succ n ih =>
   intro i hi;have hlt:i<l.length:=by omega
   have he:=r45 l[i] g (hs _ (C1 hlt));rw [e17_0_1,B8 hlt];simp only [R8];generalize eqb l[i].row g.row=b at he ⊢;have:=ih (i+1) (by omega)
   generalize ((l.drop (i+1)).any fun x=>eqb x.row g.row)=A at this ⊢
   simp only [B6,C0,hlt,H3,H1,ba,B9,ae hlt,ag hlt (br (by omega)),Tm.row_eq,nv0,nvS,dvI,dvB,dvS,dvL,B5,he,this]
   cases b <;> simp
 rw [e17_0_0,h1];cases hr:jb d t f with
 | none =>
  rw [Eh] at hr;cases hc:(cfg d t&&(decide (0<=f)&&decide (f<=200))) with
  | false=>rfl
  | true=>rw [hc] at hr; simp at hr
 | some r =>
  obtain ⟨gd,hn60⟩:=qa hb hw hr;rw [Eh] at hr;cases hc:(cfg d t&&(decide (0<=f)&&decide (f<=200))) with
  | false=>rw [hc] at hr; simp at hr
  | true =>
   rw [hc] at hr;simp only [H1,C7.injEq] at hr;subst hr;simp only [B7,decide_eq_true_eq] at hc;have h2:=r44 d hb t hw f hc.2.1 hc.2.2 hc.1;have h3:=key (t::(dm d f.toNat t).st) (by have:=gd.sl; simp; omega) (fun x hx=>by
    rcases D4.1 hx with e | hx
    · subst e; exact aq _ (by omega)
    · exact aq _ (by have:=(gd.s x hx).2; omega)) _ 0 (E1 _)
   simp only [C6,D5] at h3;simp only [nv0,nvS,dvI,dvB,dvS,dvL,B5,D8,H2,h2,Qi,h3,rj];cases (t::(dm d f.toNat t).st).any fun x=>eqb x.row g.row <;> rfl
end Go.Q.S
end
section
namespace Go.Q.S
open Go Go.Q Go.Proofs
theorem r46 (vars:List ByteArray) (t:Tm) (h:ax t) (cs:aa) (c:Int):rn ⟨46,0,0⟩ [.sl (vars.map ai),.int t.k,.int t.n,.str t.s,.sl (t.as.map Tm.row),.sl cs,.int c]=some (0,[.int (S.instR vars t c).k,.int (S.instR vars t c).n,.str (S.instR vars t c).s,.bool (isC vars.length c),.sl ((S.instR vars t c).as.map Tm.row)]):=by
 have e1:=r65 vars.length c;have e2:=r86 vars c;have e3:=r91 (cc vars c) (vx vars c) (ja vars c) t h;have e4:=r90 _ (sz (ja vars c) t h);rw [e46_0_0];simp only [B6,e1,nv0,nvS,dvI,dvB,dvS,dvL,B5];unfold S.instR;cases hc:isC vars.length c with
 | false=>rfl
 | true=>simp only [D8,H2,e2,e3,e4,nv0,nvS,dvI,dvB,dvS,dvL,B5,if_true]; rfl
theorem r14 (vars:List ByteArray) (t:Tm) (h:ax t) (cs:aa) (c:Int):rn ⟨14,0,0⟩ [.sl (vars.map ai),.int t.k,.int t.n,.str t.s,.sl (t.as.map Tm.row),.sl cs,.int c]=some (0,[.int (S.instR vars t c).k,.int (S.instR vars t c).n,.str (S.instR vars t c).s,.bool (isC vars.length c),.sl ((S.instR vars t c).as.map Tm.row)]):=by
 have e1:=r42 vars.length;have e2:=r23 vars t h c;rw [e14_0_0];simp only [B6,e1,nv0,nvS,dvI,dvB,dvS,dvL,B5,rIn,Ys];unfold S.instR;cases hc:isC vars.length c with
 | false=>rfl
 | true=>simp only [D8,H2,e2,nv0,nvS,dvI,dvB,dvS,dvL,B5,if_true]
theorem r18 (vars:List ByteArray) (l t:Tm) (h:ax t) (gs:aa) (c:Int):rn ⟨18,0,0⟩ [.sl (vars.map ai),.int l.k,.int l.n,.str l.s,.sl (l.as.map Tm.row),.int t.k,.int t.n,.str t.s,.sl (t.as.map Tm.row),.sl gs,.int c]=some (0,[.int (S.instR vars t c).k,.int (S.instR vars t c).n,.str (S.instR vars t c).s,.sl ((S.instR vars t c).as.map Tm.row)]):=by
 have e1:=r46 vars t h [] c;rw [e18_0_0];simp only [e1,nv0,nvS,dvI,dvB,dvS,dvL,B5]
theorem r24 (vars:List ByteArray) (l t:Tm) (h:ax t) (gs:aa) (c:Int):rn ⟨24,0,0⟩ [.sl (vars.map ai),.int l.k,.int l.n,.str l.s,.sl (l.as.map Tm.row),.int t.k,.int t.n,.str t.s,.sl (t.as.map Tm.row),.sl gs,.int c]=some (0,[.int (S.instR vars t c).k,.int (S.instR vars t c).n,.str (S.instR vars t c).s,.sl ((S.instR vars t c).as.map Tm.row)]):=by
 have e1:=r14 vars t h [] c;rw [e24_0_0];simp only [e1,nv0,nvS,dvI,dvB,dvS,dvL,B5]
theorem r20 (c:ClM) (hb:ClB c) (i:Int):rn ⟨20,0,0⟩ [.sl (c.d.so.map ai),.sl (c.d.op.map OpM.row),.sl (c.d.ru.map RuM.row),.sl (c.d.st.map StM.row),.sl (c.v.map ai),.int (c.l).k,.int (c.l).n,.str (c.l).s,.sl ((c.l).as.map Tm.row),.int (c.r).k,.int (c.r).n,.str (c.r).s,.sl ((c.r).as.map Tm.row),.sl (c.g.map Gu.row),.int i]=some (0,[.bool (vt c.d (S.instR c.v c.l i) (S.instR c.v c.r i))]):=by
 have hls:=aq _ hb.ln;have hrs:=aq _ hb.rn;have hnl:=S.instR_nodes (vars:=c.v) (t:=c.l) i;have hln:=hb.ln;have hw:=pf (vars:=c.v) hb.wl i;have h1:=r46 c.v c.l hls [] i;have h2:=r53 c.d hb.d _ hw (by omega) 200
 have h3:=r18 c.v c.l c.r hrs (c.g.map Gu.row) i;have h4:=r54 c.d hb.d _ hw (by omega) (S.instR c.v c.r i) 200
 rw [e20_0_0];simp only [h1,nv0,nvS,dvI,dvB,dvS,dvL,B5,h2,h3,h4];unfold vt;cases jb c.d (S.instR c.v c.l i) 200 with
 | none=>rfl
 | some r =>
  simp only [rtD,nv0,nvS,dvI,dvB,dvS,dvL,B5];cases decide (r.o=1) <;> rfl
theorem r6 (c:ClM) (hb:ClB c):rn ⟨6,0,0⟩ c.row=some (0,Xa (Js c)):=by
 have h1:=r8 c hb;have h2:=r13 c.v hb.v c.l c.r (aq _ hb.ln) c.g hb.g (fun g hg=>⟨(hb.ga g hg).ln,(hb.ga g hg).rn⟩)
 have hal:=S.allC_len c.v c.g;have hlp:∀ n i,i+n=(fq c.v c.g).length->rn ⟨6,0,1⟩ [.int ((fq c.v c.g).length:Int),.int (i:Int),.sl (c.d.so.map ai),.sl (c.d.op.map OpM.row),.sl (c.d.ru.map RuM.row),.sl (c.d.st.map StM.row),.sl (c.v.map ai),.int (c.l).k,.int (c.l).n,.str (c.l).s,.sl ((c.l).as.map Tm.row),.int (c.r).k,.int (c.r).n,.str (c.r).s,.sl ((c.r).as.map Tm.row),.sl (c.g.map Gu.row),.sl ((fq c.v c.g).map S.nRow)]=match ((fq c.v c.g).drop i).find? (fun (j:Nat)=>vt c.d (S.instR c.v c.l (j:Int)) (S.instR c.v c.r (j:Int))) with
  | some k=>some (1,[.int (k:Int)])
  | none=>some (0,[]):=by
  generalize fq c.v c.g=cs at hal ⊢;intro n;induction n with
  | zero =>
   intro i hi;obtain rfl:i=cs.length:=by omega
   rw [e6_0_1];simp only [B6,C0,D7,H4,H2,C9,Q4]
  | succ n ih =>
   intro i hi;have hlt:i<cs.length:=by omega
   have h3:=r20 c hb (cs[i]:Int);rw [e6_0_1,B8 hlt,O2];simp only [B6,C0,hlt,H3,H1,ba,B9,ae hlt,ag hlt (br (by omega)),S.nRow,nv0,nvS,dvI,dvB,dvS,dvL,B5,h3,ih (i+1) (by omega)]
   cases vt c.d (S.instR c.v c.l (cs[i]:Int)) (S.instR c.v c.r (cs[i]:Int)) <;> rfl
 have h0:=hlp (fq c.v c.g).length 0 (by omega)
 simp only [D5,C6] at h0;unfold ClM.row at h1 ⊢;rw [e6_0_0];simp only [h1,nv0,nvS,dvI,dvB,dvS,dvL,B5,h2,B6,h0];unfold Js;cases c.valid with
 | false=>rfl
 | true =>
  simp only [D8,H2,if_true];cases (fq c.v c.g).find? (fun (j:Nat)=>vt c.d (S.instR c.v c.l (j:Int)) (S.instR c.v c.r (j:Int))) <;> rfl
theorem r22 (d:DfM) (hb:DfB d) (t:Tm) (hw:Wt t) (hc:cfg d t=true) (g:Tm):rn ⟨22,0,0⟩ [.sl (d.so.map ai),.sl (d.op.map OpM.row),.sl (d.ru.map RuM.row),.sl (d.st.map StM.row),.int t.k,.int t.n,.str t.s,.sl (t.as.map Tm.row),.int g.k,.int g.n,.str g.s,.sl (g.as.map Tm.row)]=some (0,[.bool (vt d t g)]):=by
 have h1:=r44 d hb t hw 200 (by decide) (by decide) hc
 obtain ⟨hd,ht,hn⟩:=Ag hb hw hc;have hr:=Qm hc;obtain ⟨gd,_⟩:=qa hb hw hr;have key:∀ l:List Tm,l.length<=1048576->(∀ x∈l,ax x)->∀ (o k n:Int) (s:ByteArray) (m:Int) (a b:aa),∀ j i,i+j=l.length->rn ⟨22,0,1⟩ [.int (i:Int),.int g.k,.int g.n,.str g.s,.sl (g.as.map Tm.row),.int o,.int k,.int n,.str s,.int m,.sl a,.sl b,.sl (l.map Tm.row)]=bif ((l.drop i).any fun x=>eqb x.row g.row) then some (1,[]) else some (0,[.int o,.int k,.int n,.str s,.int m,.sl a,.sl b,.sl (l.map Tm.row)]):=by
  intro l hl hs o k n s m a b j;induction j with
  | zero =>
   intro i hi;obtain rfl:i=l.length:=by omega
   rw [e22_0_1];simp only [B6,C0,D7,H4,H2,C9,List.any_nil,H2]
  | succ j ih =>
   intro i hi;have hlt:i<l.length:=by omega
   have he:=r45 l[i] g (hs _ (C1 hlt));rw [e22_0_1,B8 hlt];simp only [R8];generalize eqb l[i].row g.row=b' at he ⊢;have:=ih (i+1) (by omega)
   generalize ((l.drop (i+1)).any fun x=>eqb x.row g.row)=A at this ⊢
   simp only [B6,C0,hlt,H3,H1,ba,B9,ae hlt,ag hlt (br (by omega)),Tm.row_eq,nv0,nvS,dvI,dvB,dvS,dvL,B5,he,this]
   cases b' <;> simp
 have hk:=fun o k n s m a b=>key (t::(dm d 200 t).st) (by have:=gd.sl; simp; omega) (fun x hx=>by
  rcases D4.1 hx with e | hx
  · subst e; exact aq _ (by omega)
  · exact aq _ (by have:=(gd.s x hx).2; omega)) o k n s m a b _ 0 (E1 _)
 simp only [C6,D5] at hk;rw [e22_0_0,h1];unfold vt;rw [hr];simp only [Qi,show O1 200=200 from rfl,nv0,nvS,dvI,dvB,dvS,dvL,B5,hk,rj]
 cases (t::(dm d 200 t).st).any fun x=>eqb x.row g.row with
 | true=>rw [D8,R4]; rfl
 | false=>simp only [H2,nv0,nvS,dvI,dvB,dvS,dvL,B5,E2,H1,H2,J4,K4]
theorem r7 (c:ClM) (hb:ClB c):rn ⟨7,0,0⟩ c.row=some (0,Xa (Js c)):=by
 have h1:=r9 c hb;have h2:=r21 c.v hb.v c.l c.r (aq _ hb.ln) c.g hb.g (fun g hg=>⟨(hb.ga g hg).ln,(hb.ga g hg).rn⟩)
 have hal:=S.allC_len c.v c.g;have hlp:c.valid=true->∀ n i,i+n=(fq c.v c.g).length->rn ⟨7,0,1⟩ [.int (i:Int),.sl (c.d.so.map ai),.sl (c.d.op.map OpM.row),.sl (c.d.ru.map RuM.row),.sl (c.d.st.map StM.row),.sl (c.v.map ai),.int (c.l).k,.int (c.l).n,.str (c.l).s,.sl ((c.l).as.map Tm.row),.int (c.r).k,.int (c.r).n,.str (c.r).s,.sl ((c.r).as.map Tm.row),.sl (c.g.map Gu.row),.int c.l.k,.int c.l.n,.str c.l.s,.sl (c.v.map ai),.sl (c.l.as.map Tm.row),.sl ((fq c.v c.g).map S.nRow)]=match ((fq c.v c.g).drop i).find? (fun (j:Nat)=>vt c.d (S.instR c.v c.l (j:Int)) (S.instR c.v c.r (j:Int))) with
  | some k=>some (1,[.int (k:Int)])
  | none=>some (0,[]):=by
  intro hv;simp only [ClM.valid,B7] at hv;have hC:∀ j∈fq c.v c.g,isC c.v.length (j:Int)=true:=fun j hj=>Qn hj
  generalize fq c.v c.g=cs at hal hC ⊢;intro n;induction n with
  | zero =>
   intro i hi;obtain rfl:i=cs.length:=by omega
   rw [e7_0_1];simp only [B6,C0,D7,H4,H2,C9,Q4]
  | succ n ih =>
   intro i hi;have hlt:i<cs.length:=by omega
   have hc:=hC _ (C1 hlt);have h3:=r23 c.v c.l (aq _ hb.ln) (cs[i]:Int);rw [<- Ei hc] at h3;have h4:=r24 c.v c.l c.r (aq _ hb.rn) (c.g.map Gu.row) (cs[i]:Int);have hcf:cfg c.d (S.instR c.v c.l (cs[i]:Int))=true:=by rw [Ei hc]; exact Hp hv.1 hc
   have h5:=r22 c.d hb.d _ (pf hb.wl (cs[i]:Int)) hcf (S.instR c.v c.r (cs[i]:Int));rw [e7_0_1,B8 hlt,O2];simp only [B6,C0,hlt,H3,H1,ba,B9,ae hlt,ag hlt (br (by omega)),S.nRow,nv0,nvS,dvI,dvB,dvS,dvL,B5,h3,h4,h5,ih (i+1) (by omega)]
   cases vt c.d (S.instR c.v c.l (cs[i]:Int)) (S.instR c.v c.r (cs[i]:Int)) <;> rfl
 unfold ClM.row at h1 ⊢;rw [e7_0_0];simp only [h1,nv0,nvS,dvI,dvB,dvS,dvL,B5,h2];unfold Js;cases hv:c.valid with
 | false=>rfl
 | true =>
  have h0:=hlp hv (fq c.v c.g).length 0 (by omega)
  simp only [D5,C6] at h0;simp only [D8,H2,if_true,h0];cases (fq c.v c.g).find? (fun (j:Nat)=>vt c.d (S.instR c.v c.l (j:Int)) (S.instR c.v c.r (j:Int))) <;> rfl
end Go.Q.S
end
section
namespace Go.Q.S
open Go Go.Q Go.Proofs
theorem Va {code:aa} (hl:code.length<=1048576) (i:Nat) (h:Int):ak (rn ⟨102,0,0⟩ [.sl code,.int (i:Int),.int h]) fun x=>∃ b:Int,∃ i':Nat,∃ h':Int,0<=b/\b<=255/\x=(0,[.int b,.sl code,.int ((i':Nat):Int),.int h']):=by
 rw [e102_0_0];rw [H7 (by decide:(0:Int)<=33),H7 (by decide:(0:Int)<=45)]
 simp only [H1];by_cases hi:i<code.length
 · rw [H7 (by omega:(i:Int)<(code.length:Int))]
   simp only [H1,ba,hi,H3,ag hi (by unfold maxLen; omega)]
   obtain ⟨h1,h2⟩:=Px (IntKind.i64.wrap ((Av .i64 (Lw .i64 (Aw .i64 (IntKind.i64.wrap ((IntKind.i64.wrap (h*6364136223846793005))+1442695040888963407)) 33) (Aw .i64 (IntKind.i64.wrap ((IntKind.i64.wrap (h*6364136223846793005))+1442695040888963407)) 45)) 255)+(IntKind.i64.wrap ((nth (rowAt code (O1 (i:Int))) 0).I))));exact ak.ret ⟨_,i+1,_,h1,h2,rfl⟩
 · rw [H8 (by omega:¬(i:Int)<(code.length:Int))]
   simp only [H2];obtain ⟨h1,h2⟩:=Px (Lw .i64 (Aw .i64 (IntKind.i64.wrap ((IntKind.i64.wrap (h*6364136223846793005))+1442695040888963407)) 33) (Aw .i64 (IntKind.i64.wrap ((IntKind.i64.wrap (h*6364136223846793005))+1442695040888963407)) 45));exact ak.ret ⟨_,i,_,h1,h2,rfl⟩
theorem bh {code:aa} (hl:code.length<=1048576) (i:Nat) (h:Int) {n:Int} (h0:0<n) (h1:n<=256):ak (rn ⟨49,0,0⟩ [.int n,.sl code,.int (i:Int),.int h]) fun x=>∃ b:Int,∃ i':Nat,∃ h':Int,0<=b/\b<n/\x=(0,[.int b,.sl code,.int ((i':Nat):Int),.int h']):=by
 rw [e49_0_0];rw [H8 (by omega:¬ n<=0),H7 h1]
 simp only [H1,H2];refine ak.bind (Va hl i h) ?_
 rintro _ ⟨b,i',h',b0,b1,rfl⟩
 simp only [nv0,nvS,dvI,dvB,dvS,dvL,B5];rw [H8 (by omega:¬ n=0)]
 exact ak.ret ⟨_,i',h',Int.tmod_nonneg _ b0,Int.tmod_lt_of_pos _ h0,rfl⟩
theorem de {code:aa} (hl:code.length<=1048576) (i:Nat) (h:Int) {n:Int} (h0:0<n) (h1:n<=256):ak (rn ⟨104,0,0⟩ [.int n,.sl code,.int (i:Int),.int h]) fun x=>∃ b:Bool,∃ i':Nat,∃ h':Int,x=(0,[.bool b,.sl code,.int ((i':Nat):Int),.int h']):=by
 rw [e104_0_0];refine ak.bind (bh hl i h h0 h1) ?_
 rintro _ ⟨b,i',h',b0,b1,rfl⟩
 exact ak.ret ⟨_,i',h',rfl⟩
theorem iu {code:aa} (hl:code.length<=1048576) (i:Nat) (h:Int) {l:aa} (h0:0<l.length) (h1:l.length<=256) (m:Nat) (hs:∀ k,k<l.length->((nth (rowAt l k) 0).S).size<=m):ak (rn ⟨50,0,0⟩ [.sl l,.sl code,.int (i:Int),.int h]) fun x=>∃ s:ByteArray,∃ i':Nat,∃ h':Int,s.size<=m/\x=(0,[.str s,.sl code,.int ((i':Nat):Int),.int h']):=by
 rw [e50_0_0];refine ak.bind (bh hl i h (by omega:(0:Int)<(l.length:Int)) (by omega)) ?_
 rintro _ ⟨b,i',h',b0,b1,rfl⟩
 simp only [nv0,nvS,dvI,dvB,dvS,dvL,B5];rw [show inb b l.length=true from by simp [inb,b0,b1]]
 exact ak.ret ⟨_,i',h',hs b.toNat (by omega),rfl⟩
theorem Rg {code:aa} (hl:code.length<=1048576) (i:Nat) (h:Int) {l:aa} (h0:0<l.length) (h1:l.length<=256) (hs:∀ k,k<l.length->-1000<=(nth (rowAt l k) 0).I/\(nth (rowAt l k) 0).I<=1000):ak (rn ⟨105,0,0⟩ [.sl l,.sl code,.int (i:Int),.int h]) fun x=>∃ n:Int,∃ i':Nat,∃ h':Int,-1000<=n/\n<=1000/\x=(0,[.int n,.sl code,.int ((i':Nat):Int),.int h']):=by
 rw [e105_0_0];refine ak.bind (bh hl i h (by omega:(0:Int)<(l.length:Int)) (by omega)) ?_
 rintro _ ⟨b,i',h',b0,b1,rfl⟩
 simp only [nv0,nvS,dvI,dvB,dvS,dvL,B5];rw [show inb b l.length=true from by simp [inb,b0,b1]]
 exact ak.ret ⟨_,i',h',(hs b.toNat (by omega)).1,(hs b.toNat (by omega)).2,rfl⟩
theorem pi {code:aa} (hl:code.length<=1048576) (i:Nat) (h:Int) (ts:List Tm) (h0:0<ts.length) (h1:ts.length<=256):ak (rn ⟨96,0,0⟩ [.sl (ts.map Tm.row),.sl code,.int (i:Int),.int h]) fun x=>∃ t:Tm,∃ i':Nat,∃ h':Int,t∈ts/\x=(0,[.int t.k,.int t.n,.str t.s,.sl (t.as.map Tm.row),.sl code,.int ((i':Nat):Int),.int h']):=by
 rw [e96_0_0,B6];refine ak.bind (bh hl i h (by omega:(0:Int)<(ts.length:Int)) (by omega)) ?_
 rintro _ ⟨b,i',h',b0,b1,rfl⟩
 obtain ⟨n,rfl⟩:=Int.eq_ofNat_of_zero_le b0;have hn:n<ts.length:=by omega
 simp only [nv0,nvS,dvI,dvB,dvS,dvL,B5,ba,hn,H3,H1,B9,ae hn,Tm.row_eq];exact ak.ret ⟨ts[n],i',h',C1 hn,rfl⟩
theorem Xx {code:aa} (hl:code.length<=1048576):ak (rn ⟨47,0,0⟩ [.sl code]) fun x=>∃ i':Nat,∃ h':Int,x=(0,[.sl code,.int ((i':Nat):Int),.int h']):=by
 have key:∀ (n i:Nat) (h:Int),i+n=code.length->∃ h':Int,rn ⟨47,0,1⟩ [.sl code,.int h,.int (i:Int)]=some (0,[.sl code,.int h']):=by
  intro n;induction n with
  | zero =>
   intro i h hi;rw [e47_0_1,H8 (by omega:¬(i:Int)<(code.length:Int))]
   exact ⟨_,rfl⟩
  | succ n ih =>
   intro i h hi;have hlt:i<code.length:=by omega
   rw [e47_0_1,H7 (by omega:(i:Int)<(code.length:Int))]
   simp only [H1,ba,hlt,H3,ag hlt (by unfold maxLen; omega)]
   cases decide ((i:Int)<4000) with
   | true=>exact ih (i+1) _ (by omega)
   | false=>exact ⟨_,rfl⟩
 rw [e47_0_0];obtain ⟨h',e⟩:=key code.length 0 (IntKind.i64.wrap (26583+(code.length:Int))) (E1 _);simp only [C6] at e;rw [e];exact ak.ret ⟨0,h',rfl⟩
theorem r92 (s:ByteArray):rn ⟨92,0,0⟩ [.str s]=some (0,[.int 1,.int 0,.str s,.sl []]):=by rw [e92_0_0]
theorem r156 (s:ByteArray) (l:aa):rn ⟨156,0,0⟩ [.str s,.sl l]=some (0,[.int 2,.int 0,.str s,.sl l]):=by rw [e156_0_0]
theorem r156b (s:ByteArray) (l:aa):rn ⟨156,1,0⟩ [.str s,.sl l]=some (0,[.int 2,.int 0,.str s,.sl l]):=by rw [e156_1_0]
theorem r94 (s:ByteArray) (t:Tm):rn ⟨94,0,0⟩ [.str s,.int t.k,.int t.n,.str t.s,.sl (t.as.map Tm.row)]=some (0,[.int 2,.int 0,.str s,.sl [t.row]]):=by
 rw [e94_0_0];simp only [r156,r156b,nv0,nvS,dvI,dvB,dvS,dvL,B5,Tm.row_eq t]
theorem r95 (s:ByteArray) (t u:Tm):rn ⟨95,0,0⟩ [.str s,.int t.k,.int t.n,.str t.s,.sl (t.as.map Tm.row),.int u.k,.int u.n,.str u.s,.sl (u.as.map Tm.row)]=some (0,[.int 2,.int 0,.str s,.sl [t.row,u.row]]):=by
 rw [e95_0_0];simp only [r156,r156b,nv0,nvS,dvI,dvB,dvS,dvL,B5,Tm.row_eq t,Tm.row_eq u]
def DTk (code:aa) (k m:Nat) (x:Nat×List D):Prop:=∃ t:Tm,∃ i':Nat,∃ h':Int,Dt k t/\t.nodes<=m/\x=(0,[.int t.k,.int t.n,.str t.s,.sl code,.int (i':Int),.int h',.sl (t.as.map Tm.row)])
theorem lfV {code:aa} {k m:Nat} {s:ByteArray} {i:Nat} {h:Int} (hs:s.size<=k) (hm:1<=m):ak (some (0,[.int 1,.int 0,.str s,.sl code,.int (i:Int),.int h,.sl []])) (DTk code k m) :=
 ak.ret ⟨.mk 1 0 s [],i,h,.var hs,by simp [Tm.nodes,Tm.nodesL]; exact hm,rfl⟩
theorem lfC {code:aa} {k m:Nat} {s:ByteArray} {i:Nat} {h:Int} (hs:s.size<=k) (hm:1<=m):ak (some (0,[.int 2,.int 0,.str s,.sl code,.int (i:Int),.int h,.sl []])) (DTk code k m) :=
 ak.ret ⟨.mk 2 0 s [],i,h,.app hs (by simp) (by simp),by simp [Tm.nodes,Tm.nodesL]; exact hm,rfl⟩
theorem lfW {code:aa} {k m:Nat} {n:Int} {i:Nat} {h:Int} (h0:0<=n) (h1:n<=255) (hm:1<=m):ak (some (0,[.int 3,.int n,.str ⟨#[]⟩,.sl code,.int (i:Int),.int h,.sl []])) (DTk code k m) :=
 ak.ret ⟨.mk 3 n ⟨#[]⟩ [],i,h,.word h0 h1,by simp [Tm.nodes,Tm.nodesL]; exact hm,rfl⟩
theorem lf1 {code:aa} {k m:Nat} {s:ByteArray} {t:Tm} {i:Nat} {h:Int} (hs:s.size<=k) (ht:Dt k t) (hm:t.nodes+1<=m):ak (some (0,[.int 2,.int 0,.str s,.sl code,.int (i:Int),.int h,.sl [t.row]])) (DTk code k m) :=
 ak.ret ⟨.mk 2 0 s [t],i,h,.app hs (by simp) (by simpa using ht),by simp [Tm.nodes,Tm.nodesL]; omega,rfl⟩
theorem lf2 {code:aa} {k m:Nat} {s:ByteArray} {t u:Tm} {i:Nat} {h:Int} (hs:s.size<=k) (ht:Dt k t) (hu:Dt k u) (hm:t.nodes+u.nodes+1<=m):ak (some (0,[.int 2,.int 0,.str s,.sl code,.int (i:Int),.int h,.sl [t.row,u.row]])) (DTk code k m) :=
 ak.ret ⟨.mk 2 0 s [t,u],i,h,.app hs (by simp) (by simp [ht,hu]),by simp [Tm.nodes,Tm.nodesL]; omega,rfl⟩
theorem Vb {code:aa} (hl:code.length<=1048576):∀ (d:Nat) (g:Bool) (i:Nat) (h:Int),d<=64->ak (rn ⟨103,0,0⟩ [.int (d:Int),.bool g,.sl code,.int (i:Int),.int h]) (DTk code 1 (2 ^ (d+1)-1)):=by
 intro d;induction d with
 | zero =>
  intro g i h hd;rw [e103_0_0,H7 (by decide:((0:Nat):Int)<2)]
  simp only [H1];repeat' (first
   | refine ak.ite (fun _=>?_) (fun _=>?_)
   | (refine ak.bind (de hl _ _ (by decide) (by decide)) ?_; rintro _ ⟨b,i,h,rfl⟩; simp only [nv0,nvS,dvI,dvB,dvS,dvL,B5])
   | (refine ak.bind (bh hl _ _ (by decide) (by decide)) ?_; rintro _ ⟨b,i,h,_,_,rfl⟩; simp only [nv0,nvS,dvI,dvB,dvS,dvL,B5])
   | (refine ak.bind (iu hl _ _ (by decide) (by decide) 1 (by decide)) ?_; rintro _ ⟨b,i,h,_,rfl⟩; simp only [nv0,nvS,dvI,dvB,dvS,dvL,B5])
   | (simp only [r92,r97,r156,r156b,nv0,nvS,dvI,dvB,dvS,dvL,B5]))
  all_goals (first | exact lfV (by assumption) (by decide) | exact lfC (by assumption) (by decide) | exact lfW (by assumption) (by omega) (by decide))
 | succ d ih =>
  intro g i h hd;have hp:2 ^ (d+1+1)=2*2 ^ (d+1):=by omega
  have h1:1<=2 ^ (d+1):=Nat.one_le_pow _ _ (by decide)
  rw [e103_0_0];simp only [H2,zw (show d<=64 by omega)]
  repeat' (first
   | refine ak.ite (fun _=>?_) (fun _=>?_)
   | (refine ak.bind (ih _ _ _ (by omega)) ?_; rintro _ ⟨t,i,h,_,_,rfl⟩; simp only [nv0,nvS,dvI,dvB,dvS,dvL,B5])
   | (refine ak.bind (de hl _ _ (by decide) (by decide)) ?_; rintro _ ⟨b,i,h,rfl⟩; simp only [nv0,nvS,dvI,dvB,dvS,dvL,B5])
   | (refine ak.bind (bh hl _ _ (by decide) (by decide)) ?_; rintro _ ⟨b,i,h,_,_,rfl⟩; simp only [nv0,nvS,dvI,dvB,dvS,dvL,B5])
   | (refine ak.bind (iu hl _ _ (by decide) (by decide) 1 (by decide)) ?_; rintro _ ⟨b,i,h,_,rfl⟩; simp only [nv0,nvS,dvI,dvB,dvS,dvL,B5])
   | (simp only [r92,r97,r156,r156b,r94,r95,nv0,nvS,dvI,dvB,dvS,dvL,B5]))
  all_goals (first | exact lfV (by assumption) (by omega) | exact lfC (by assumption) (by omega) | exact lfW (by assumption) (by omega) (by omega) | exact lf1 (by first | assumption | decide) (by assumption) (by omega) | exact lf2 (by first | assumption | decide) (by assumption) (by assumption) (by omega))
end Go.Q.S
end
