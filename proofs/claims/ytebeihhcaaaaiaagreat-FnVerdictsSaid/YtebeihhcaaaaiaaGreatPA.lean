/- The functions of this seat, as that machine runs them, part 1. -/
import Derived.Test.YtebeihhcaaaaiaaGreatQC
import Derived.Test.YtebeihhcaaaaiaaGreatfwX2
import Derived.Test.YtebeihhcaaaaiaaGreatMB
set_option linter.unusedVariables false
set_option linter.unusedSimpArgs false
open Bool renaming and_eq_true->B9,not_true->D0,true_and->D9,not_false->G7,and_true->K9,false_and->N4,false_eq_true->N6,and_self->O2,and_false->P2
open Int renaming toNat_natCast->B7,ofNat_lt->C1,natCast_zero->C3,toNat->P1,tdiv_eq_ediv_of_nonneg->S2
open List renaming length_map->B6,drop_eq_getElem_cons->B8,getElem_mem->C0,length_cons->C2,map_cons->C4,length_nil->C5,drop_length->C6,drop_zero->D2,map_nil->D4,map_append->D6,nil_append->D8,getD_cons_zero->E0,mem_cons->E1,append_assoc->E2,getD_cons_succ->E4,getElem?_eq_some_iff->E5,length_append->E6,cons_append->F2,getElem?_eq_getElem->F6,length_eq_zero_iff->F9,append_nil->G5,all_cons->J2,sum_cons->K1,map_map->K3,all_nil->K8,drop_eq_nil_of_le->O4,filter_cons->O7,getElem_map->O8,find?_cons->P3,getD->P4,drop_succ_cons->Q4,cons->R5,find?_nil->S3,any_cons->S7,range'->T2,getElem_cons_zero->T4,filter_nil->T5,pairwise_iff_getElem->T8,length_zip->U2,take_zero->U7,findIdx?_nil->V4
open Nat renaming zero_add->D1,lt_irrefl->D3,beq_refl->D5,ble_eq_true_of_le->E9,beq->F4,ble->F5,zero_le->G9,le_trans->J0,add_zero->N5
open Option renaming bind_some->B5,some->C9,map_some->K2,isSome_some->O5,getD_some->Q0
section
namespace Go.Q.S
open Go Go.Q Go.Proofs
theorem Ad(xs:aa)(h:xs.length<=274877906944):rn ⟨117,0,0⟩ [.sl xs]=some (0,[.sl xs]):=by
 rw[e117_0_0];have hb:F5 (([]:aa).length+xs.length) M63=true:=E9 (by unfold M63;simpa using h)
 rw[hb];cases xs with
 |nil=>simp[sj]
 |cons x xs=>rfl
theorem Hh(xs:aa)(h:xs.length<=274877906944):rn ⟨119,0,0⟩ [.sl xs]=some (0,[.sl xs]):=by
 rw[e119_0_0];have hb:F5 (([]:aa).length+xs.length) M63=true:=E9 (by unfold M63;simpa using h)
 rw[hb];cases xs with
 |nil=>simp[sj]
 |cons x xs=>rfl
theorem ah3(ls:List D):rn ⟨249,0,0⟩ ls=Ea 0 ls:=by rw[rn_eq];rfl
theorem ah4(ls:List D):rn ⟨250,0,0⟩ ls=Eb 0 ls:=by rw[rn_eq];rfl
theorem r214(l:List ByteArray)(h:l.length<=274877906944):rn ⟨214,0,0⟩ [.sl (l.map ag)]=some (0,[.sl ((bx l).map ag)]):=by
 rw[e214_0_0,Ad _ (by simpa using h)]
 simp only[xm,zn,zo,zp,zq,zr,zt,zu,zv,zw,od,oe,og,oh,oi,oj,ol,om,oo,oq,ot,ou,ow,oz,pa,pb,dI,dB,dS,dL,B5];rw[ah3,Sw 0 l (by omega)]
 simp only[xm,zn,zo,zp,zq,zr,zt,zu,zv,zw,od,oe,og,oh,oi,oj,ol,om,oo,oq,ot,ou,ow,oz,pa,pb,dI,dB,dS,dL,B5];rw[ah4,Sx 0 _ (by simp;omega),Gq]
 simp only[xm,zn,zo,zp,zq,zr,zt,zu,zv,zw,od,oe,og,oh,oi,oj,ol,om,oo,oq,ot,ou,ow,oz,pa,pb,dI,dB,dS,dL,B5];rw[Jh];rfl
theorem r168(l:List ByteArray)(h:l.length<=1073741824):rn ⟨168,0,0⟩ [.sl (l.map ag)]=some (0,[.sl ((bx l).map ag)]):=by
 rw[e168_0_0,Ji];unfold bx;generalize hks:l.map toK=ks;have hk:ks.length<=1073741824:=by rw[<-hks];simpa using h
 have hin:∀ (i:Nat) (hi:i<ks.length) (acc:List Ky),acc.length<=1073741824->∀ n a,a+n=acc.length->rn ⟨168,0,3⟩ [.sl (ks.map gb),.int (i:Int),.int (a:Int),.sl (acc.map gb)] =
  some (0,[.sl (ks.map gb),.int (i:Int),.int ((a+ldK ks[i] (acc.drop a):Nat):Int),.sl (acc.map gb)]):=by
  intro i hi acc hacc n;induction n with
  |zero =>
   intro a ha;have:a=acc.length:=by omega
   subst this;rw[e168_0_3];simp[ldK]
  |succ n ih =>
   intro a ha;have hlt:a<acc.length:=by omega
   rw[e168_0_3,Sz _ _ _ hlt];simp only[B7,ab hi,ab hlt,B6,aq,hi,hlt,C1,H3,H1,xm,zn,zo,zp,zq,zr,zt,zu,zv,zw,od,oe,og,oh,oi,oj,ol,om,oo,oq,ot,ou,ow,oz,pa,pb,dI,dB,dS,dL,B5,qy,ag,Yf,ae hlt (by unfold maxLen;omega)]
   by_cases hx:acc[a]<ks[i]
   ·rw[H5 hx,H7 hx,H1,ih (a+1) (by omega)]
    have e:a+1+ldK ks[i] (acc.drop (a+1))=a+(ldK ks[i] (acc.drop (a+1))+1):=by omega
    rw[e]
   ·rw[H6 hx,H8 hx,H2];rfl
 have hout:∀ n (i:Nat) (acc:List Ky),i+n=ks.length->acc.length<=i->rn ⟨168,0,1⟩ [.sl (ks.map gb),.int (i:Int),.sl (acc.map gb)]=some (0,[.sl ((rq (ks.drop i) acc).map gb)]):=by
  intro n;induction n with
  |zero =>
   intro i acc hi ha;have:i=ks.length:=by omega
   subst this;rw[e168_0_1];simp[rq]
  |succ n ih =>
   intro i acc hi ha;have hlt:i<ks.length:=by omega
   have hI:=hin i hlt acc (by omega) acc.length 0 (by omega)
   rw[D2,D1] at hI;rw[e168_0_1];have hc:ldK ks[i] acc<=acc.length:=Sy _ _;have hz:((0:Nat):Int)=0:=rfl;rw[hz] at hI;rw[hI,B8 hlt];have hins:=Nr ks[i] acc;have hil:(kr ks[i] acc).length<=i+1:=by
    rw[hins];split
    ·omega
    ·simp;omega
   have ih':=ih (i+1) (kr ks[i] acc) (by omega) hil
   simp only[B6,C1,hlt,H3,H1,xm,zn,zo,zp,zq,zr,zt,zu,zv,zw,od,oe,og,oh,oi,oj,ol,om,oo,oq,ot,ou,ow,oz,pa,pb,dI,dB,dS,dL,B5,D5,B7,ae hlt (by unfold maxLen;omega),rq] at ih' ⊢
   rw[<-ih'];generalize hcc:ldK ks[i] acc=c at hc hins ⊢;have h0:(0:Int)<=(c:Int):=by omega
   have h3:(c:Int)<=(acc.length:Int):=by omega
   have hb2:F5 (([]:aa).length+(List.drop (P1 0) (List.take c (acc.map gb))).length) M63=true:=E9 (by unfold M63;simp;omega)
   have hb3:∀ z:aa,z.length=1->F5 (([]++List.drop (P1 0) (List.take c (acc.map gb)):aa).length+z.length) M63=true:=fun z hz=>E9 (by unfold M63;simp[hz];omega)
   have hb4:∀ z:aa,z.length=1->F5 ((([]++List.drop (P1 0) (List.take c (acc.map gb)):aa)++z).length+(List.drop c (List.take acc.length (acc.map gb))).length) M63=true:=fun z hz=>E9 (by unfold M63;simp[hz];omega)
   have hfin:([]++List.drop (P1 0) (List.take c (acc.map gb)):aa)++[gb ks[i]]++List.drop c (List.take acc.length (acc.map gb))=(List.take c acc++[ks[i]]++List.drop c acc).map gb:=by
    simp[List.map_take,List.map_drop,List.take_of_length_le]
   simp only[ab hlt,aq,hlt,H3,H1];by_cases h1:c<acc.length
   ·simp only[H7 h1,H1,ab h1,xm,zn,zo,zp,zq,zr,zt,zu,zv,zw,od,oe,og,oh,oi,oj,ol,om,oo,oq,ot,ou,ow,oz,pa,pb,dI,dB,dS,dL,B5,qy,ag,Ye]
    rw[F6 h1] at hins;by_cases h2:acc[c]=ks[i]
    ·rw[H7 h2,H1,hins,H5 (by rw[h2])]
    ·rw[H8 h2,H2,hins,H6 (by simpa using h2)]
     simp only[h0,h3,Int.le_refl,H3,O2,H1];rw[hb2,hb3 _ rfl,hb4 _ rfl];simp only[H1];rw[<-hfin];rfl
   ·simp only[H8 h1,H2]
    rw[List.getElem?_eq_none (by omega)] at hins
    rw[hins,H6 (by simp)]
    simp only[h0,h3,Int.le_refl,H3,O2,H1];rw[hb2];simp only[H1,ab hlt,xm,zn,zo,zp,zq,zr,zt,zu,zv,zw,od,oe,og,oh,oi,oj,ol,om,oo,oq,ot,ou,ow,oz,pa,pb,dI,dB,dS,dL,B5,qy,ag];rw[hb3 _ rfl,hb4 _ rfl];simp only[H1];rw[<-hfin];rfl
 have:=hout ks.length 0 [] (by omega) (G9 _)
 simp only[C3,D4,D2] at this;rw[this];simp only[xm,zn,zo,zp,zq,zr,zt,zu,zv,zw,od,oe,og,oh,oi,oj,ol,om,oo,oq,ot,ou,ow,oz,pa,pb,dI,dB,dS,dL,B5,D5,H1];rw[Jh]
theorem r118:∀ t:Tm,au t->rn ⟨118,0,0⟩ [.int t.k,.int t.n,.str t.s,.sl (t.as.map Tm.row)]=some (0,[.int t.k,.int t.n,.str t.s,.sl (t.as.map Tm.row)]):=Tm.ind fun t ih h=>by
 have hl:=h.len;show rn _ _=_
 rw[e118_0_0];have hf:=jp (F:=fun i acc=>rn ⟨118,0,1⟩ [.sl (t.as.map Tm.row),.int ((t.as.map Tm.row)).length,.int (i:Int),.int 0,.int 0,.str (⟨#[]⟩:ByteArray),.int t.k,.int t.n,.str t.s,.sl [],.sl acc]) (xs:=t.as) Tm.row (K:=fun acc=>some (0,[.int (0),.int (0),.str ((⟨#[]⟩:ByteArray)),.int (t.k),.int (t.n),.str (t.s),.sl ([]),.sl (acc)])) (fun i hi acc ha=>?_) (fun acc=>?_)
 ·simp only[C3] at hf;rw[hf];rfl
 ·have hc:=ih _ (C0 hi) (h.sub (C0 hi))
  rw[e118_0_1];simp only[B7,ab hi,Tm.row_eq,B6,aq,hi,C1,H3,H1,nth,E0,E4,D.I,D.S,D.L,D.B,ae hi (by unfold maxLen;omega),hc,B5,C2,C5]
  rw[show F5 (acc.length+(0+1)) M63=true from E9 (by unfold M63;omega)]
  rfl
 ·skip
  rw[e118_0_1];simp
theorem r65:∀ t:Tm,au t->rn ⟨65,0,0⟩ [.int t.k,.int t.n,.str t.s,.sl (t.as.map Tm.row)]=some (0,[.int t.k,.int t.n,.str t.s,.sl (t.as.map Tm.row)]):=Tm.ind fun t ih h=>by
 have hl:=h.len;show rn _ _=_
 rw[e65_0_0];have hf:=jp (F:=fun i acc=>rn ⟨65,0,1⟩ [.int (i:Int),.int t.k,.int t.n,.str t.s,.sl (t.as.map Tm.row),.int 0,.int 0,.str (⟨#[]⟩:ByteArray),.sl acc,.sl []]) (xs:=t.as) Tm.row (K:=fun acc=>some (0,[.int (t.k),.int (t.n),.str (t.s),.sl ((t.as.map Tm.row)),.int (0),.int (0),.str ((⟨#[]⟩:ByteArray)),.sl (acc),.sl ([])])) (fun i hi acc ha=>?_) (fun acc=>?_)
 ·simp only[C3] at hf;rw[hf];rfl
 ·have hc:=ih _ (C0 hi) (h.sub (C0 hi))
  rw[e65_0_1];simp only[B7,ab hi,Tm.row_eq,B6,aq,hi,C1,H3,H1,nth,E0,E4,D.I,D.S,D.L,D.B,ae hi (by unfold maxLen;omega),hc,B5,C2,C5]
  rw[show F5 (acc.length+(0+1)) M63=true from E9 (by unfold M63;omega)]
  rfl
 ·skip
  rw[e65_0_1];simp
theorem r182(t:Tm):rn ⟨182,0,0⟩ [.int t.k,.int t.n,.str t.s,.sl (t.as.map Tm.row)]=some (0,[.bool (isW t)]):=by
 show rn _ _=_
 rw[e182_0_0];simp only[B6];unfold isW;have e:decide ((t.as.length:Int)=0)=decide (t.as.length=0):=by simp
 rw[e];cases decide (t.k=3)<;>cases decide (0<=t.n)<;>cases decide (t.n<4)<;>cases decide (t.s=⟨#[]⟩)<;>cases decide (t.as.length=0)<;>rfl
theorem r35(a b c:Int):rn ⟨35,0,0⟩ [.int a,.int b,.int c]=some (0,[.bool (decide (b<=a)&&decide (a<=c))]):=by
 show rn _ _=_
 rw[e35_0_0];cases decide (b<=a)<;>rfl
theorem r112(t:Tm):rn ⟨112,0,0⟩ [.int t.k,.int t.n,.str t.s,.sl (t.as.map Tm.row)]=some (0,[.bool (isW t)]):=by
 show rn _ _=_
 rw[e112_0_0];have hc:=r35 t.n 0 3;simp only[hc,B5,nth,E0,E4,D.I,D.S,D.L,D.B,B6];unfold isW;have e:decide ((t.as.length:Int)=0)=decide (t.as.length=0):=by simp
 have e2:decide (t.n<=3)=decide (t.n<4):=decide_eq_decide.2 (by omega)
 rw[e,e2];cases decide (t.k=3)<;>cases decide (0<=t.n)<;>cases decide (t.n<4)<;>cases decide (t.s=⟨#[]⟩)<;>cases decide (t.as.length=0)<;>rfl
theorem r181(s:ByteArray):rn ⟨181,0,0⟩ [.str s]=some (0,[.bool (isB s)]):=by
 show rn _ _=_
 rw[e181_0_0];unfold isB Eg xj Lx;cases decide (s=(⟨#[112,108,117,115]⟩:ByteArray))<;>cases decide (s=(⟨#[109,105,110,117,115]⟩:ByteArray))<;>cases decide (s=(⟨#[116,105,109,101,115]⟩:ByteArray))<;>rfl
theorem r111(s:ByteArray):rn ⟨111,0,0⟩ [.str s]=some (0,[.bool (isB s)]):=by
 show rn _ _=_
 rw[e111_0_0];unfold isB Eg xj Lx;cases decide (s=(⟨#[112,108,117,115]⟩:ByteArray))<;>cases decide (s=(⟨#[109,105,110,117,115]⟩:ByteArray))<;>cases decide (s=(⟨#[116,105,109,101,115]⟩:ByteArray))<;>rfl
theorem r183(s:ByteArray){a b:Int}(ha:0<=a)(ha':a<4)(hb:0<=b)(hb':b<4):rn ⟨183,0,0⟩ [.str s,.int a,.int b]=some (0,[.int (cmp s a b)]):=by
 show rn _ _=_
 rw[e183_0_0];unfold cmp Eg xj;have h4:(!decide ((4:Int)=0))=true:=rfl;simp only[h4,H1];obtain rfl |rfl |rfl |rfl:a=0\/a=1\/a=2\/a=3:=by omega
 all_goals
  obtain rfl |rfl |rfl |rfl:b=0\/b=1\/b=2\/b=3:=by omega
  all_goals
   by_cases h1:s=(⟨#[112,108,117,115]⟩:ByteArray)
   ·simp only[h1,H3,H1,if_true];rfl
   ·by_cases h2:s=(⟨#[109,105,110,117,115]⟩:ByteArray)
    ·simp only[h1,h2,H3,H4,H1,H2,if_true,if_false];rfl
    ·simp only[h1,h2,H4,H2,if_false];rfl
theorem r114(s:ByteArray){a b:Int}(ha:0<=a)(ha':a<4)(hb:0<=b)(hb':b<4):rn ⟨114,0,0⟩ [.str s,.int a,.int b]=some (0,[.int (cmp s a b)]):=by
 show rn _ _=_
 rw[e114_0_0];unfold cmp Eg xj;have h4:(!decide ((4:Int)=0))=true:=rfl;simp only[h4,H1];obtain rfl |rfl |rfl |rfl:a=0\/a=1\/a=2\/a=3:=by omega
 all_goals
  obtain rfl |rfl |rfl |rfl:b=0\/b=1\/b=2\/b=3:=by omega
  all_goals
   by_cases h1:s=(⟨#[112,108,117,115]⟩:ByteArray)
   ·simp only[h1,H3,H1,if_true];rfl
   ·by_cases h2:s=(⟨#[109,105,110,117,115]⟩:ByteArray)
    ·simp only[h1,h2,H3,H4,H1,H2,if_true,if_false];rfl
    ·simp only[h1,h2,H4,H2,if_false];rfl
theorem r184(l:List Bnd)(hl:l.length<=1048576)(s:ByteArray):rn ⟨184,0,0⟩ [.sl (l.map Bnd.row),.str s]=match bnd l s with
 |some t=>some (0,[.int t.k,.int t.n,.str t.s,.sl (t.as.map Tm.row),.bool true])
 |none=>some (0,[.int 0,.int 0,.str ⟨#[]⟩,.sl [],.bool false]):=by
 show rn _ _=_
 rw[e184_0_0];have hf:=Eh (F:=fun i=>rn ⟨184,0,1⟩ [.str s,.sl (l.map Bnd.row),.int ((l.map Bnd.row)).length,.int (i:Int),.int 0,.int 0,.str (⟨#[]⟩:ByteArray),.sl []]) (xs:=l) (p:=fun b=>decide (b.1=s)) (A:=some (0,[.int (0),.int (0),.str ((⟨#[]⟩:ByteArray)),.sl ([])])) (B:=fun i b=>some (1,[.int b.2.k,.int b.2.n,.str b.2.s,.sl (b.2.as.map Tm.row)])) (fun i hi=>?_) ?_
 ·simp only[C3] at hf
  rw[Jb];rcases hf with ⟨h1,h2⟩|⟨i,hi,h1,h2⟩
  ·rw[h1,h2];rfl
  ·rw[h1,h2];rfl
 ·skip
  rw[e184_0_1];simp only[B7,ab hi,gq,B6,aq,hi,C1,H3,H1,nth,E0,E4,D.I,D.S,D.L,D.B,ae hi (by unfold maxLen;omega)]
 ·skip
  rw[e184_0_1];simp
theorem r177(l:List Bnd)(hl:l.length<=1048576)(s:ByteArray):(bnd l s=none/\rn ⟨177,0,0⟩ [.sl (l.map Bnd.row),.str s]=some (0,[.int (-1)]))\/∃ i,∃ hi:i<l.length,bnd l s=some l[i].2/\rn ⟨177,0,0⟩ [.sl (l.map Bnd.row),.str s]=some (0,[.int (i:Int)]):=by
 have hf:=Eh (F:=fun i=>rn ⟨177,0,1⟩ [.sl (l.map Bnd.row),.str s,.int (i:Int)]) (xs:=l) (p:=fun b=>decide (b.1=s)) (A:=some (0,[])) (B:=fun i b=>some (1,[.int (i:Int)])) (fun i hi=>?_) ?_
 ·simp only[C3] at hf
  rw[Jb];rcases hf with ⟨h1,h2⟩|⟨i,hi,h1,h2⟩
  ·left
   refine⟨by rw[h1];rfl,?_⟩
   show rn _ _=_
   rw[e177_0_0];rw[h2];rfl
  ·right
   refine⟨i,hi,by rw[h1];rfl,?_⟩
   show rn _ _=_
   rw[e177_0_0];rw[h2];rfl
 ·skip
  rw[e177_0_1];simp only[B7,ab hi,gq,B6,aq,hi,C1,H3,H1,nth,E0,E4,D.I,D.S,D.L,D.B,ae hi (by unfold maxLen;omega)]
 ·skip
  rw[e177_0_1];simp
theorem r115(l:List Bnd)(hl:l.length<=1048576)(hs:∀ b∈l,au b.2)(s:ByteArray):rn ⟨115,0,0⟩ [.sl (l.map Bnd.row),.str s]=match bnd l s with
 |some t=>some (0,[.int t.k,.int t.n,.str t.s,.bool true,.sl (t.as.map Tm.row)])
 |none=>some (0,[.int 0,.int 0,.str ⟨#[]⟩,.bool false,.sl []]):=by
 show rn _ _=_
 rw[e115_0_0];rcases r177 l hl s with ⟨h1,h2⟩|⟨i,hi,h1,h2⟩
 ·skip
  rw[h1,h2];rfl
 ·skip
  have hc:=r65 l[i].2 (hs _ (C0 hi));rw[h1,h2];have hn:¬((i:Int)<0):=by omega
  simp only[B5,nth,E0,E4,D.I,D.S,D.L,D.B,B7,ab hi,gq,B6,aq,hi,hn,H3,H4,H1,H2,hc]
theorem r125(l:List Bnd)(hl:l.length<=1048576)(hs:∀ b∈l,au b.2):∀ t:Tm,au t->rn ⟨125,0,0⟩ [.sl (l.map Bnd.row),.int t.k,.int t.n,.str t.s,.sl (t.as.map Tm.row)]=some (0,[.int (aS l t).k,.int (aS l t).n,.str (aS l t).s,.sl ((aS l t).as.map Tm.row)]):=Tm.ind fun t ih h=>by
 have hlt:=h.len;show rn _ _=_
 rw[e125_0_0];have hf:=jp (F:=fun i acc=>rn ⟨125,0,1⟩ [.sl (l.map Bnd.row),.sl (t.as.map Tm.row),.int ((t.as.map Tm.row)).length,.int (i:Int),.int 0,.int 0,.str (⟨#[]⟩:ByteArray),.int t.k,.int t.n,.str t.s,.sl [],.sl acc]) (xs:=t.as) (fun x=>(aS l x).row) (K:=fun acc=>some (0,[.int (0),.int (0),.str ((⟨#[]⟩:ByteArray)),.int (t.k),.int (t.n),.str (t.s),.sl ([]),.sl (acc)])) (fun i hi acc ha=>?_) (fun acc=>?_)
 ·simp only[C3] at hf
  have hb:=r184 l hl t.s;rw[ey];by_cases hk:t.k=1
  ·rw[H5 hk]
   cases hq:bnd l t.s with
   |none =>
    rw[hq] at hb;simp only at hb;simp only[H7 hk,H1,hb,B5,nth,E0,E4,D.I,D.S,D.L,D.B,H2,hf];simp[Tm.k,Tm.n,Tm.s,Tm.as,Function.comp_def]
   |some u =>
    rw[hq] at hb;simp only at hb;obtain⟨b,hbm,rfl⟩:=eh hq;have hcp:=r118 b.2 (hs b hbm);simp only[H7 hk,H1,hb,B5,nth,E0,E4,D.I,D.S,D.L,D.B,hcp]
  ·rw[H6 hk]
   simp only[H8 hk,H2,hf,B5,nth,E0,E4,D.I,D.S,D.L,D.B];simp[Tm.k,Tm.n,Tm.s,Tm.as,Function.comp_def]
 ·have hc:=ih _ (C0 hi) (h.sub (C0 hi))
  rw[e125_0_1];simp only[B7,ab hi,Tm.row_eq,B6,aq,hi,C1,H3,H1,nth,E0,E4,D.I,D.S,D.L,D.B,ae hi (by unfold maxLen;omega),hc,B5,C2,C5]
  rw[show F5 (acc.length+(0+1)) M63=true from E9 (by unfold M63;omega)]
  rfl
 ·skip
  rw[e125_0_1];simp
theorem r70(l:List Bnd)(hl:l.length<=1048576)(hs:∀ b∈l,au b.2):∀ t:Tm,au t->rn ⟨70,0,0⟩ [.sl (l.map Bnd.row),.int t.k,.int t.n,.str t.s,.sl (t.as.map Tm.row)]=some (0,[.int (aS l t).k,.int (aS l t).n,.str (aS l t).s,.sl ((aS l t).as.map Tm.row)]):=Tm.ind fun t ih h=>by
 have hlt:=h.len;show rn _ _=_
 rw[e70_0_0];have hf:=jp (F:=fun i acc=>rn ⟨70,0,1⟩ [.sl (l.map Bnd.row),.int (i:Int),.int t.k,.int t.n,.str t.s,.sl (t.as.map Tm.row),.int 0,.int 0,.str (⟨#[]⟩:ByteArray),.int t.k,.int t.n,.str t.s,.sl [],.sl acc]) (xs:=t.as) (fun x=>(aS l x).row) (K:=fun acc=>some (0,[.int (0),.int (0),.str ((⟨#[]⟩:ByteArray)),.int (t.k),.int (t.n),.str (t.s),.sl ([]),.sl (acc)])) (fun i hi acc ha=>?_) (fun acc=>?_)
 ·simp only[C3] at hf
  have hb:=r115 l hl hs t.s;rw[ey];by_cases hk:t.k=1
  ·rw[H5 hk]
   cases hq:bnd l t.s with
   |none =>
    rw[hq] at hb;simp only at hb;simp only[H7 hk,H1,hb,B5,nth,E0,E4,D.I,D.S,D.L,D.B,H2,hf];simp[Tm.k,Tm.n,Tm.s,Tm.as,Function.comp_def]
   |some u =>
    rw[hq] at hb;simp only at hb;obtain⟨b,hbm,rfl⟩:=eh hq;have hcp:=r118 b.2 (hs b hbm);simp only[H7 hk,H1,hb,B5,nth,E0,E4,D.I,D.S,D.L,D.B,hcp]
  ·rw[H6 hk]
   simp only[H8 hk,H2,hf,B5,nth,E0,E4,D.I,D.S,D.L,D.B];simp[Tm.k,Tm.n,Tm.s,Tm.as,Function.comp_def]
 ·have hc:=ih _ (C0 hi) (h.sub (C0 hi))
  rw[e70_0_1];simp only[B7,ab hi,Tm.row_eq,B6,aq,hi,C1,H3,H1,nth,E0,E4,D.I,D.S,D.L,D.B,ae hi (by unfold maxLen;omega),hc,B5,C2,C5]
  rw[show F5 (acc.length+(0+1)) M63=true from E9 (by unfold M63;omega)]
  rfl
 ·skip
  rw[e70_0_1];simp
theorem r124:∀ t:Tm,au t->rn ⟨124,0,0⟩ [.int t.k,.int t.n,.str t.s,.sl (t.as.map Tm.row)]=some (0,[.int (rW t).k,.int (rW t).n,.str (rW t).s,.sl ((rW t).as.map Tm.row)]):=Tm.ind fun t ih h=>by
 have hlt:=h.len;show rn _ _=_
 rw[e124_0_0];have hf:=jp (F:=fun i acc=>rn ⟨124,0,1⟩ [.sl (t.as.map Tm.row),.int ((t.as.map Tm.row)).length,.int (i:Int),.int 0,.int 0,.str (⟨#[]⟩:ByteArray),.int t.k,.int t.n,.str t.s,.sl [],.sl acc]) (xs:=t.as) (fun x=>(rW x).row) (K:=fun acc=>some (0,[.int (0),.int (0),.str ((⟨#[]⟩:ByteArray)),.int (t.k),.int (t.n),.str (t.s),.sl ([]),.sl (acc)])) (fun i hi acc ha=>?_) (fun acc=>?_)
 ·simp only[C3] at hf
  have e:t.as.map (fun x=>(rW x).row)=(t.as.map rW).map Tm.row:=by simp[Function.comp_def]
  rw[e] at hf;rw[fg];generalize t.as.map rW=us at hf ⊢;have hB:=r181 t.s;rw[hf];simp only[B5,D5,H1,nth,E0,E4,D.I,D.S,D.L,D.B,hB,B6];by_cases h1:t.k=2
  case neg =>
   simp only[H8 h1,H2];unfold rW1;split
   ·rw[H6 (fun h=>h1 h.1)];rfl
   ·rfl
  by_cases h2:t.n=0
  case neg =>
   simp only[H7 h1,H8 h2,H1,H2];unfold rW1;split
   ·rw[H6 (fun h=>h2 h.2.1)];rfl
   ·rfl
  simp only[H7 h1,H7 h2,H1];cases h3:isB t.s with
  |false =>
   simp only[H2];unfold rW1;split
   ·rw[H6 (fun h=>by rw[h3] at h;exact absurd h.2.2.1 (by decide))];rfl
   ·rfl
  |true =>
   simp only[H1]
   match us with
   | []=>rfl
   | [x]=>rfl
   |x::y::z::zs =>
    have:¬(((x::y::z::zs).length:Int)=2):=by simp only[C2];omega
    simp only[H8 this,H2];rfl
   | [x,y] =>
    have hx:=r182 x;have hy:=r182 y;have l2:decide ((([x,y]:List Tm).length:Int)=2)=true:=rfl;have i0:inb 0 ([x,y]:List Tm).length=true:=rfl;have i1:inb 1 ([x,y]:List Tm).length=true:=rfl;have r0:rowAt (([x,y]:List Tm).map Tm.row) (P1 0)=x.row:=rfl;have r1:rowAt (([x,y]:List Tm).map Tm.row) (P1 1)=y.row:=rfl;simp only[l2,i0,i1,r0,r1,H1,Tm.row_eq,nth,E0,E4,D.I,D.S,D.L,D.B,hx,hy,B5];unfold rW1;simp only;cases h4:isW x with
    |false=>simp only[H2];rw[H6 (fun h=>by simp at h)];rfl
    |true =>
     cases h5:isW y with
     |false=>simp only[H1,H2];rw[H6 (fun h=>by simp at h)];rfl
     |true =>
      have b1:=h4;have b2:=h5;simp only[isW,B9,decide_eq_true_eq] at b1 b2;have hcm:=r183 t.s b1.2.1 b1.2.2.1 b2.2.1 b2.2.2.1;simp only[H1,hcm,B5,nth,E0,E4,D.I,D.S,D.L,D.B];rw[H5 ⟨h1,h2,h3,trivial,trivial⟩];rfl
 ·have hc:=ih _ (C0 hi) (h.sub (C0 hi))
  rw[e124_0_1];simp only[B7,ab hi,Tm.row_eq,B6,aq,hi,C1,H3,H1,nth,E0,E4,D.I,D.S,D.L,D.B,ae hi (by unfold maxLen;omega),hc,B5,C2,C5]
  rw[show F5 (acc.length+(0+1)) M63=true from E9 (by unfold M63;omega)]
  rfl
 ·skip
  rw[e124_0_1];simp
theorem r113(n:Int):rn ⟨113,0,0⟩ [.int n]=some (0,[.int 3,.int n,.str ⟨#[]⟩,.sl []]):=by
 show rn _ _=_
 rw[e113_0_0]
theorem r69:∀ t:Tm,au t->rn ⟨69,0,0⟩ [.int t.k,.int t.n,.str t.s,.sl (t.as.map Tm.row)]=some (0,[.int (rW t).k,.int (rW t).n,.str (rW t).s,.sl ((rW t).as.map Tm.row)]):=Tm.ind fun t ih h=>by
 have hlt:=h.len;show rn _ _=_
 rw[e69_0_0];have hf:=jp (F:=fun i acc=>rn ⟨69,0,1⟩ [.int (i:Int),.int t.k,.int t.n,.str t.s,.sl (t.as.map Tm.row),.int 0,.int 0,.str (⟨#[]⟩:ByteArray),.int t.k,.int t.n,.str t.s,.sl [],.sl acc]) (xs:=t.as) (fun x=>(rW x).row) (K:=fun acc=>some (0,[.int (t.k),.int (t.n),.str (t.s),.sl ((t.as.map Tm.row)),.int (0),.int (0),.str ((⟨#[]⟩:ByteArray)),.int (t.k),.int (t.n),.str (t.s),.sl ([]),.sl (acc)])) (fun i hi acc ha=>?_) (fun acc=>?_)
 ·simp only[C3] at hf
  have e:t.as.map (fun x=>(rW x).row)=(t.as.map rW).map Tm.row:=by simp[Function.comp_def]
  rw[e] at hf;rw[fg];generalize t.as.map rW=us at hf ⊢;have hB:=r111 t.s;rw[hf];simp only[B5,D5,H1,nth,E0,E4,D.I,D.S,D.L,D.B,hB,B6];by_cases h1:t.k=2
  case neg =>
   simp only[H8 h1,H2];unfold rW1;split
   ·rw[H6 (fun h=>h1 h.1)];rfl
   ·rfl
  by_cases h2:t.n=0
  case neg =>
   simp only[H7 h1,H8 h2,H1,H2];unfold rW1;split
   ·rw[H6 (fun h=>h2 h.2.1)];rfl
   ·rfl
  simp only[H7 h1,H7 h2,H1];cases h3:isB t.s with
  |false =>
   simp only[H2];unfold rW1;split
   ·rw[H6 (fun h=>by rw[h3] at h;exact absurd h.2.2.1 (by decide))];rfl
   ·rfl
  |true =>
   simp only[H1]
   match us with
   | []=>rfl
   | [x]=>rfl
   |x::y::z::zs =>
    have:¬(((x::y::z::zs).length:Int)=2):=by simp only[C2];omega
    simp only[H8 this,H2];rfl
   | [x,y] =>
    have hx:=r112 x;have hy:=r112 y;have l2:decide ((([x,y]:List Tm).length:Int)=2)=true:=rfl;have i0:inb 0 ([x,y]:List Tm).length=true:=rfl;have i1:inb 1 ([x,y]:List Tm).length=true:=rfl;have r0:rowAt (([x,y]:List Tm).map Tm.row) (P1 0)=x.row:=rfl;have r1:rowAt (([x,y]:List Tm).map Tm.row) (P1 1)=y.row:=rfl;simp only[l2,i0,i1,r0,r1,H1,Tm.row_eq,nth,E0,E4,D.I,D.S,D.L,D.B,hx,hy,B5];unfold rW1;simp only;cases h4:isW x with
    |false=>simp only[H2];rw[H6 (fun h=>by simp at h)];rfl
    |true =>
     cases h5:isW y with
     |false=>simp only[H1,H2];rw[H6 (fun h=>by simp at h)];rfl
     |true =>
      have b1:=h4;have b2:=h5;simp only[isW,B9,decide_eq_true_eq] at b1 b2;have hcm:=r114 t.s b1.2.1 b1.2.2.1 b2.2.1 b2.2.2.1;have hwd:=r113 (cmp t.s x.n y.n);simp only[H1,hcm,B5,nth,E0,E4,D.I,D.S,D.L,D.B,hwd];rw[H5 ⟨h1,h2,h3,trivial,trivial⟩];rfl
 ·have hc:=ih _ (C0 hi) (h.sub (C0 hi))
  rw[e69_0_1];simp only[B7,ab hi,Tm.row_eq,B6,aq,hi,C1,H3,H1,nth,E0,E4,D.I,D.S,D.L,D.B,ae hi (by unfold maxLen;omega),hc,B5,C2,C5]
  rw[show F5 (acc.length+(0+1)) M63=true from E9 (by unfold M63;omega)]
  rfl
 ·skip
  rw[e69_0_1];simp
theorem r120(n:Nat):rn ⟨120,0,0⟩ [.int (n:Int)]=some (0,[.int (gx n)]):=by
 show rn _ _=_
 rw[e120_0_0];have hn:¬((n:Int)<0):=by omega
 simp only[H8 hn,H2];have st:∀ x a:Int,0<x->rn ⟨120,0,1⟩ [.int x,.int a]=rn ⟨120,0,1⟩ [.int (IntKind.i64.wrap (x-1)),.int (IntKind.i64.wrap (a*4))]:=fun x a h=>by
  rw[e120_0_1];rw[H7 h];rfl
 have fi:∀ a:Int,rn ⟨120,0,1⟩ [.int 0,.int a]=some (0,[.int a]):=fun a=>by
  rw[e120_0_1];rfl
 by_cases h3:3<n
 ·rw[vn h3,H7 (by omega:(3:Int)<(n:Int))];rfl
 ·rw[H8 (by omega:¬(3:Int)<(n:Int))]
  simp only[H2];obtain rfl |rfl |rfl |rfl:n=0\/n=1\/n=2\/n=3:=by omega
  ·show(rn ⟨120,0,1⟩ [.int 0,.int 1]).bind _=_
   rw[fi];rfl
  ·show(rn ⟨120,0,1⟩ [.int 1,.int 1]).bind _=_
   rw[st 1 1 (by decide)]
   show(rn ⟨120,0,1⟩ [.int 0,.int 4]).bind _=_
   rw[fi];rfl
  ·show(rn ⟨120,0,1⟩ [.int 2,.int 1]).bind _=_
   rw[st 2 1 (by decide)]
   show(rn ⟨120,0,1⟩ [.int 1,.int 4]).bind _=_
   rw[st 1 4 (by decide)]
   show(rn ⟨120,0,1⟩ [.int 0,.int 16]).bind _=_
   rw[fi];rfl
  ·show(rn ⟨120,0,1⟩ [.int 3,.int 1]).bind _=_
   rw[st 3 1 (by decide)]
   show(rn ⟨120,0,1⟩ [.int 2,.int 4]).bind _=_
   rw[st 2 4 (by decide)]
   show(rn ⟨120,0,1⟩ [.int 1,.int 16]).bind _=_
   rw[st 1 16 (by decide)]
   show(rn ⟨120,0,1⟩ [.int 0,.int 64]).bind _=_
   rw[fi];rfl
theorem r103(n:Nat):rn ⟨103,0,0⟩ [.int (n:Int)]=some (0,[.int (gx n)]):=by
 show rn _ _=_
 rw[e103_0_0];have hi:=r35 (n:Int) 0 3;simp only[hi,B5,nth,E0,E4,D.I,D.S,D.L,D.B];rw[H7 (by omega:(0:Int)<=(n:Int)),D9]
 have st:∀ x a i:Int,i<x->rn ⟨103,0,1⟩ [.int x,.int a,.int i]=rn ⟨103,0,1⟩ [.int x,.int (IntKind.i64.wrap (a*4)),.int (IntKind.i64.wrap (i+1))]:=fun x a i h=>by
  rw[e103_0_1];rw[H7 h];rfl
 have fi:∀ x a:Int,rn ⟨103,0,1⟩ [.int x,.int a,.int x]=some (0,[.int a]):=fun x a=>by
  rw[e103_0_1];rw[H8 (by omega)];rfl
 by_cases h3:3<n
 ·rw[vn h3,H8 (by omega:¬(n:Int)<=(3:Int))];rfl
 ·rw[H7 (by omega:(n:Int)<=(3:Int))]
  simp only[D0,H2];obtain rfl |rfl |rfl |rfl:n=0\/n=1\/n=2\/n=3:=by omega
  ·show(rn ⟨103,0,1⟩ [.int 0,.int 1,.int 0]).bind _=_
   rw[fi];rfl
  ·show(rn ⟨103,0,1⟩ [.int 1,.int 1,.int 0]).bind _=_
   rw[st 1 1 0 (by decide)]
   show(rn ⟨103,0,1⟩ [.int 1,.int 4,.int 1]).bind _=_
   rw[fi];rfl
  ·show(rn ⟨103,0,1⟩ [.int 2,.int 1,.int 0]).bind _=_
   rw[st 2 1 0 (by decide)]
   show(rn ⟨103,0,1⟩ [.int 2,.int 4,.int 1]).bind _=_
   rw[st 2 4 1 (by decide)]
   show(rn ⟨103,0,1⟩ [.int 2,.int 16,.int 2]).bind _=_
   rw[fi];rfl
  ·show(rn ⟨103,0,1⟩ [.int 3,.int 1,.int 0]).bind _=_
   rw[st 3 1 0 (by decide)]
   show(rn ⟨103,0,1⟩ [.int 3,.int 4,.int 1]).bind _=_
   rw[st 3 4 1 (by decide)]
   show(rn ⟨103,0,1⟩ [.int 3,.int 16,.int 2]).bind _=_
   rw[st 3 16 2 (by decide)]
   show(rn ⟨103,0,1⟩ [.int 3,.int 64,.int 3]).bind _=_
   rw[fi];rfl
theorem Zf(n:Nat)(c:Int):(decide (0<=c)&&decide (c<=IntKind.i64.wrap (gx n-1)))=isC n c:=by
 have h:=lq n;rw[IntWalk.i64_in _ (by omega)]
 unfold isC;have:decide (c<=gx n-1)=decide (c<gx n):=decide_eq_decide.2 (by omega)
 rw[this]
theorem r123(n:Nat)(c:Int):rn ⟨123,0,0⟩ [.int (n:Int),.int c]=some (0,[.bool (isC n c)]):=by
 show rn _ _=_
 rw[e123_0_0];have hc:=r120 n;simp only[hc,B5,nth,E0,E4,D.I,D.S,D.L,D.B];unfold isC;cases decide (0<=c)<;>rfl
theorem rv0(a b c:Int):rn ⟨229,1,0⟩ [.sl []]=some (0,[.sl []]):=by
 show rn _ _=_
 rw[e229_1_0];show(rn ⟨229,1,1⟩ [.int 0,.int (-1),.sl []]).bind _=_
 rw[e229_1_1];rfl
theorem rv1(a b c:Int):rn ⟨229,1,0⟩ [.sl [[D.int a]]]=some (0,[.sl [[D.int a]]]):=by
 show rn _ _=_
 rw[e229_1_0];show(rn ⟨229,1,1⟩ [.int 0,.int (0),.sl [[D.int a]]]).bind _=_
 rw[e229_1_1];rfl
theorem rv2(a b c:Int):rn ⟨229,1,0⟩ [.sl [[D.int a],[D.int b]]]=some (0,[.sl [[D.int b],[D.int a]]]):=by
 show rn _ _=_
 rw[e229_1_0];show(rn ⟨229,1,1⟩ [.int 0,.int (1),.sl [[D.int a],[D.int b]]]).bind _=_
 rw[e229_1_1];show(rn ⟨229,1,1⟩ [.int 1,.int 0,.sl [[D.int b],[D.int a]]]).bind _=_
 rw[e229_1_1];rfl
theorem rv3(a b c:Int):rn ⟨229,1,0⟩ [.sl [[D.int a],[D.int b],[D.int c]]]=some (0,[.sl [[D.int c],[D.int b],[D.int a]]]):=by
 show rn _ _=_
 rw[e229_1_0];show(rn ⟨229,1,1⟩ [.int 0,.int (2),.sl [[D.int a],[D.int b],[D.int c]]]).bind _=_
 rw[e229_1_1];show(rn ⟨229,1,1⟩ [.int 1,.int 1,.sl [[D.int c],[D.int b],[D.int a]]]).bind _=_
 rw[e229_1_1];rfl
theorem r180(n:Nat)(c:Int):rn ⟨180,0,0⟩ [.int (n:Int),.int c]=some (0,[.sl ((vals n c).map am)]):=by
 show rn _ _=_
 rw[e180_0_0];have hi:=r123 n c;simp only[hi,B5,nth,E0,E4,D.I,D.S,D.L,D.B];unfold vals;cases hq:isC n c with
 |false=>rfl
 |true =>
  obtain⟨hn,h0,h64⟩:=mc hq;have e1:c.tdiv 4=c / 4:=S2 h0;have w1:IntKind.i64.wrap (c.tdiv 4)=c.tdiv 4:=by rw[e1];exact IntWalk.i64_in _ (by omega)
  have h1:0<=c.tdiv 4:=by rw[e1];omega
  have e2:(c.tdiv 4).tdiv 4=c / 4 / 4:=by rw[S2 h1,e1]
  have w2:IntKind.i64.wrap ((c.tdiv 4).tdiv 4)=(c.tdiv 4).tdiv 4:=by rw[e2];exact IntWalk.i64_in _ (by omega)
  have st:∀ (x a:Int) (acc:aa),0<x->acc.length<=10->rn ⟨180,0,1⟩ [.int x,.int a,.sl acc]=rn ⟨180,0,1⟩ [.int (IntKind.i64.wrap (x-1)),.int (IntKind.i64.wrap (a.tdiv 4)),.sl (acc++[[.int (a.tmod 4)]])]:=fun x a acc h hl=>by
   rw[e180_0_1];rw[H7 h];simp only[C2,C5];rw[show F5 (acc.length+(0+1)) M63=true from E9 (by unfold M63;omega)]
   rfl
  have fi:∀ (a:Int) (acc:aa),rn ⟨180,0,1⟩ [.int 0,.int a,.sl acc]=some (0,[.sl acc]):=fun a acc=>by
   rw[e180_0_1];rfl
  simp only[D0,H2,if_true];obtain rfl |rfl |rfl |rfl:n=0\/n=1\/n=2\/n=3:=by omega
  ·show(rn ⟨180,0,1⟩ [.int 0,.int c,.sl []]).bind _=_
   rw[fi];have hv:=rv0 0 0 0;show((rn ⟨229,1,0⟩ [.sl []]).bind _:R)=_
   rw[hv];rfl
  ·show(rn ⟨180,0,1⟩ [.int 1,.int c,.sl []]).bind _=_
   rw[st 1 c [] (by decide) (by decide)]
   rw[w1];show(rn ⟨180,0,1⟩ [.int 0,.int (c.tdiv 4),.sl [[.int (c.tmod 4)]]]).bind _=_
   rw[fi];have hv:=rv1 (c.tmod 4) 0 0;show((rn ⟨229,1,0⟩ [.sl [[.int (c.tmod 4)]]]).bind _:R)=_
   rw[hv];rfl
  ·show(rn ⟨180,0,1⟩ [.int 2,.int c,.sl []]).bind _=_
   rw[st 2 c [] (by decide) (by decide),w1]
   show(rn ⟨180,0,1⟩ [.int 1,.int (c.tdiv 4),.sl [[.int (c.tmod 4)]]]).bind _=_
   rw[st 1 _ _ (by decide) (by simp),w2]
   show(rn ⟨180,0,1⟩ [.int 0,.int ((c.tdiv 4).tdiv 4),.sl [[.int (c.tmod 4)],[.int ((c.tdiv 4).tmod 4)]]]).bind _=_
   rw[fi];have hv:=rv2 (c.tmod 4) ((c.tdiv 4).tmod 4) 0;show((rn ⟨229,1,0⟩ [.sl [[.int (c.tmod 4)],[.int ((c.tdiv 4).tmod 4)]]]).bind _:R)=_
   rw[hv];rfl
  ·show(rn ⟨180,0,1⟩ [.int 3,.int c,.sl []]).bind _=_
   rw[st 3 c [] (by decide) (by decide),w1]
   show(rn ⟨180,0,1⟩ [.int 2,.int (c.tdiv 4),.sl [[.int (c.tmod 4)]]]).bind _=_
   rw[st 2 _ _ (by decide) (by simp),w2]
   show(rn ⟨180,0,1⟩ [.int 1,.int ((c.tdiv 4).tdiv 4),.sl [[.int (c.tmod 4)],[.int ((c.tdiv 4).tmod 4)]]]).bind _=_
   rw[st 1 _ _ (by decide) (by simp)]
   show(rn ⟨180,0,1⟩ [.int 0,.int _,.sl [[.int (c.tmod 4)],[.int ((c.tdiv 4).tmod 4)],[.int (((c.tdiv 4).tdiv 4).tmod 4)]]]).bind _=_
   rw[fi];have hv:=rv3 (c.tmod 4) ((c.tdiv 4).tmod 4) (((c.tdiv 4).tdiv 4).tmod 4);show((rn ⟨229,1,0⟩ [.sl [[.int (c.tmod 4)],[.int ((c.tdiv 4).tmod 4)],[.int (((c.tdiv 4).tdiv 4).tmod 4)]]]).bind _:R)=_
   rw[hv];rfl
theorem r116(n:Nat)(c:Int):rn ⟨116,0,0⟩ [.int (n:Int),.int c]=some (0,[.sl ((vals n c).map am)]):=by
 show rn _ _=_
 rw[e116_0_0];have hi:=r103 n;have hj:=r35 c 0 (IntKind.i64.wrap (gx n-1));rw[Zf] at hj;simp only[hi,hj,B5,nth,E0,E4,D.I,D.S,D.L,D.B];unfold vals;cases hq:isC n c with
 |false=>rfl
 |true =>
  obtain⟨hn,h0,h64⟩:=mc hq;have e1:c.tdiv 4=c / 4:=S2 h0;have w1:IntKind.i64.wrap (c.tdiv 4)=c.tdiv 4:=by rw[e1];exact IntWalk.i64_in _ (by omega)
  have h1:0<=c.tdiv 4:=by rw[e1];omega
  have e2:(c.tdiv 4).tdiv 4=c / 4 / 4:=by rw[S2 h1,e1]
  have w2:IntKind.i64.wrap ((c.tdiv 4).tdiv 4)=(c.tdiv 4).tdiv 4:=by rw[e2];exact IntWalk.i64_in _ (by omega)
  have fi:∀ (a:Int) (acc:aa),rn ⟨116,0,1⟩ [.int a,.int (-1),.sl acc]=some (0,[.sl acc]):=fun a acc=>by
   rw[e116_0_1];rfl
  simp only[D0,H2,if_true];obtain rfl |rfl |rfl |rfl:n=0\/n=1\/n=2\/n=3:=by omega
  ·show(rn ⟨116,0,1⟩ [.int c,.int (-1),.sl []]).bind _=_
   rw[fi];rfl
  ·show(rn ⟨116,0,1⟩ [.int c,.int 0,.sl [[.int 0]]]).bind _=_
   rw[e116_0_1];show(rn ⟨116,0,1⟩ [.int (IntKind.i64.wrap (c.tdiv 4)),.int (-1),.sl [[.int (c.tmod 4)]]]).bind _=_
   rw[fi];rfl
  ·show(rn ⟨116,0,1⟩ [.int c,.int 1,.sl [[.int 0],[.int 0]]]).bind _=_
   rw[e116_0_1];show(rn ⟨116,0,1⟩ [.int (IntKind.i64.wrap (c.tdiv 4)),.int 0,.sl [[.int 0],[.int (c.tmod 4)]]]).bind _=_
   rw[w1];rw[e116_0_1];show(rn ⟨116,0,1⟩ [.int (IntKind.i64.wrap ((c.tdiv 4).tdiv 4)),.int (-1),.sl [[.int ((c.tdiv 4).tmod 4)],[.int (c.tmod 4)]]]).bind _=_
   rw[fi];rfl
  ·show(rn ⟨116,0,1⟩ [.int c,.int 2,.sl [[.int 0],[.int 0],[.int 0]]]).bind _=_
   rw[e116_0_1];show(rn ⟨116,0,1⟩ [.int (IntKind.i64.wrap (c.tdiv 4)),.int 1,.sl [[.int 0],[.int 0],[.int (c.tmod 4)]]]).bind _=_
   rw[w1];rw[e116_0_1];show(rn ⟨116,0,1⟩ [.int (IntKind.i64.wrap ((c.tdiv 4).tdiv 4)),.int 0,.sl [[.int 0],[.int ((c.tdiv 4).tmod 4)],[.int (c.tmod 4)]]]).bind _=_
   rw[w2];rw[e116_0_1];show(rn ⟨116,0,1⟩ [.int _,.int (-1),.sl [[.int (((c.tdiv 4).tdiv 4).tmod 4)],[.int ((c.tdiv 4).tmod 4)],[.int (c.tmod 4)]]]).bind _=_
   rw[fi];rfl
theorem r122(vars:List ByteArray)(c:Int):rn ⟨122,0,0⟩ [.sl (vars.map ag),.int c]=some (0,[.sl ((bn vars c).map Bnd.row)]):=by
 show rn _ _=_
 rw[e122_0_0];have hv:=r180 vars.length c;have hle:=vk vars.length c;have hle3:(vals vars.length c).length<=3:=by
  by_cases hC:isC vars.length c=true
  ·have:=(mc hC).1;omega
  ·unfold vals;rw[H6 hC];simp
 have hz:(vars.zip (vals vars.length c)).length=(vals vars.length c).length:=by simp;omega
 have hf:=jp (F:=fun i acc=>rn ⟨122,0,1⟩ [.sl (vars.map ag),.int (((vals vars.length c).map am).length),.int (i:Int),.sl acc,.sl ((vals vars.length c).map am)]) (xs:=vars.zip (vals vars.length c)) (fun p=>[.str p.1,.int 3,.int p.2,.str ⟨#[]⟩,.sl []]) (K:=fun acc=>some (0,[.sl (acc)])) (fun i hi acc ha=>?_) (fun acc=>?_)
 ·simp only[C3] at hf
  simp only[B6];rw[hv];simp only[B5,nth,E0,E4,D.I,D.S,D.L,D.B];first
   |rw[hf]
   |(simp only[B6] at hf ⊢;rw[hf])
  simp only[B5,D5,H1,nth,E0,E4,D.I,D.S,D.L,D.B];unfold bn;rw[K3];rfl
 ·have hi1:i<vars.length:=by rw[U2] at hi;omega
  have hi2:i<(vals vars.length c).length:=by rw[U2] at hi;omega
  rw[e122_0_1];simp only[B7,ab hi1,ab hi2,ag,am,B6,aq,hi1,hi2,C1,H3,H1,nth,E0,E4,D.I,D.S,D.L,D.B,ae hi2 (by unfold maxLen;omega),C2,C5,B5]
  rw[show F5 (acc.length+(0+1)) M63=true from E9 (by unfold M63;omega)]
  rw[List.getElem_zip];rfl
 ·skip
  rw[e122_0_1];simp[hz]
theorem r71(vars:List ByteArray)(c:Int):rn ⟨71,0,0⟩ [.sl (vars.map ag),.int c]=some (0,[.sl ((bn vars c).map Bnd.row)]):=by
 show rn _ _=_
 rw[e71_0_0];have hv:=r116 vars.length c;have hle:=vk vars.length c;have hle3:(vals vars.length c).length<=3:=by
  by_cases hC:isC vars.length c=true
  ·have:=(mc hC).1;omega
  ·unfold vals;rw[H6 hC];simp
 have hz:(vars.zip (vals vars.length c)).length=(vals vars.length c).length:=by simp;omega
 have hf:=jp (F:=fun i acc=>rn ⟨71,0,1⟩ [.sl (vars.map ag),.int (i:Int),.sl acc,.sl ((vals vars.length c).map am)]) (xs:=vars.zip (vals vars.length c)) (fun p=>[.str p.1,.int 3,.int p.2,.str ⟨#[]⟩,.sl []]) (K:=fun acc=>some (0,[.sl (acc)])) (fun i hi acc ha=>?_) (fun acc=>?_)
 ·simp only[C3] at hf
  simp only[B6];rw[hv];simp only[B5,nth,E0,E4,D.I,D.S,D.L,D.B];first
   |rw[hf]
   |(simp only[B6] at hf ⊢;rw[hf])
  simp only[B5,D5,H1,nth,E0,E4,D.I,D.S,D.L,D.B];unfold bn;rw[K3];rfl
 ·have hi1:i<vars.length:=by rw[U2] at hi;omega
  have hi2:i<(vals vars.length c).length:=by rw[U2] at hi;omega
  rw[e71_0_1];have hw:=r113 ((vals vars.length c)[i]);simp only[B7,ab hi1,ab hi2,ag,am,B6,aq,hi1,hi2,C1,H3,H1,nth,E0,E4,D.I,D.S,D.L,D.B,ae hi2 (by unfold maxLen;omega),C2,C5,B5,hw]
  rw[show F5 (acc.length+(0+1)) M63=true from E9 (by unfold M63;omega)]
  rw[List.getElem_zip];rfl
 ·skip
  rw[e71_0_1];simp[hz]
theorem r39(vars:List ByteArray)(t:Tm)(ht:au t)(c:Int):rn ⟨39,0,0⟩ [.sl (vars.map ag),.int t.k,.int t.n,.str t.s,.sl (t.as.map Tm.row),.int c]=some (0,[.int (bw vars t c).k,.int (bw vars t c).n,.str (bw vars t c).s,.sl ((bw vars t c).as.map Tm.row)]):=by
 show rn _ _=_
 rw[e39_0_0];have hl:(bn vars c).length<=1048576:=by
  have:=vk vars.length c;by_cases hC:isC vars.length c=true
  ·have:=(mc hC).1;unfold bn;simp;omega
  ·unfold bn vals;rw[H6 hC];simp
 have h1:=r71 vars c;have h2:=r70 (bn vars c) hl (fh vars c) t ht;have h3:=r69 (aS (bn vars c) t) (mu (fh vars c) t ht);simp only[h1,h2,h3,B5,nth,E0,E4,D.I,D.S,D.L,D.B];rfl
theorem nc(vars:List ByteArray)(c:Int):(bn vars c).length<=1048576:=by
 have:=vk vars.length c;by_cases hC:isC vars.length c=true
 ·have:=(mc hC).1;unfold bn;simp;omega
 ·unfold bn vals;rw[H6 hC];simp
theorem r220:∀ t:Tm,t.nodes<=1048577->rn ⟨220,0,0⟩ [.int t.k,.int t.n,.str t.s,.sl (t.as.map Tm.row)]=some (0,[.sl (t.names.map ag)]):=Tm.ind fun t ih h=>by
 have hnd:=Tm.nodes_eq t;have hsm:=Em t;have hlt:=dg (xs:=t.as);show rn _ _=_
 rw[e220_0_0];have hf:=fun a0:aa=>fun ha0:a0.length<=1=>Je (F:=fun i acc=>rn ⟨220,0,1⟩ [.sl (t.as.map Tm.row),.int (t.as.map Tm.row).length,.int (i:Int),.sl acc]) (xs:=t.as) (fun a=>a.names.map ag) a0 (K:=fun acc=>some (0,[.sl acc])) (fun i hi acc ha=>by
  have hc:=ih _ (C0 hi) (by have:=ei (f:=Tm.nodes) (C0 hi);omega)
  rw[e220_0_1];simp only[B7,ab hi,Tm.row_eq,B6,aq,hi,C1,H3,H1,nth,E0,E4,D.I,D.S,D.L,D.B,ae hi (by unfold maxLen;omega),B5,hc]
  rw[E6,B6] at ha;rw[show F5 (acc.length+t.as[i].names.length) M63=true from E9 (by unfold M63;omega)]
  rfl) (fun acc=>by
  rw[e220_0_1];simp)
 simp only[C3] at hf;rw[tk];by_cases hk:t.k=1
 ·rw[H5 hk,H7 hk]
  have h1:=hf [ag t.s] (by simp)
  simp only[ag] at h1;simp only[H1,ag];rw[h1];rfl
 ·rw[H6 hk,H8 hk]
  have h1:=hf [] (by simp)
  simp only[H2];rw[h1];rfl
theorem r228(t:Tm)(h:t.nodes<=1048577):rn ⟨228,0,0⟩ [.int t.k,.int t.n,.str t.s,.sl (t.as.map Tm.row)]=some (0,[.bool (isG t)]):=by
 show rn _ _=_
 rw[e228_0_0];have hc:=r220 t h;simp only[hc,B5,nth,E0,E4,D.I,D.S,D.L,D.B,B6];rfl
theorem r169:∀ t:Tm,∀ a0:aa,t.nodes<=1048577->a0.length+t.names.length<=1073741824->rn ⟨169,1,0⟩ [.int t.k,.int t.n,.str t.s,.sl (t.as.map Tm.row),.sl a0]=some (0,[.sl (a0++t.names.map ag)]):=Tm.ind fun t ih a0 h h'=>by
 have hnd:=Tm.nodes_eq t;have hsm:=Em t;have hlt:=dg (xs:=t.as);show rn _ _=_
 rw[e169_1_0];have hf:=fun a1:aa=>fun ha1:a1.length+(t.as.flatMap fun a=>a.names.map ag).length<=1073741824=>Je (F:=fun i acc=>rn ⟨169,1,1⟩ [.int (i:Int),.sl acc,.int t.k,.int t.n,.str t.s,.sl (t.as.map Tm.row)]) (xs:=t.as) (fun a=>a.names.map ag) a1 (K:=fun acc=>some (0,[.sl acc])) (fun i hi acc ha=>by
  rw[E6] at ha;have hx:t.as[i].nodes<=(t.as.map Tm.nodes).sum:=ei (f:=Tm.nodes) (C0 hi);have hc:=ih _ (C0 hi) acc (by omega) (by rw[B6] at ha;omega)
  rw[e169_1_1];simp only[B7,ab hi,Tm.row_eq,B6,aq,hi,C1,H3,H1,nth,E0,E4,D.I,D.S,D.L,D.B,ae hi (by unfold maxLen;omega),B5,hc]) (fun acc=>by
  rw[e169_1_1];simp)
 simp only[C3] at hf;have hle:t.names.length=(if t.k=1 then [ag t.s] else []).length+(t.as.flatMap fun a=>a.names.map ag).length:=by
  rw[<-E6,<-tk,B6]
 rw[tk];by_cases hk:t.k=1
 ·rw[H5 hk] at hle
  rw[H5 hk,H7 hk];have h1:=hf (a0++[ag t.s]) (by rw[E6];omega)
  simp only[ag] at h1;simp only[H1,ag,C2,C5];rw[show F5 (a0.length+(0+1)) M63=true from E9 (by unfold M63;omega)]
  simp only[H1];rw[h1,E2];rfl
 ·rw[H6 hk] at hle
  rw[H6 hk,H8 hk];have h1:=hf a0 (by rw[C5] at hle;omega)
  simp only[H2];rw[h1];rfl
theorem r170(t:Tm)(h:t.nodes<=1048577):rn ⟨170,0,0⟩ [.int t.k,.int t.n,.str t.s,.sl (t.as.map Tm.row)]=some (0,[.bool (isG t)]):=by
 show rn _ _=_
 rw[e170_0_0];have hc:=r169 t [] h (by have:=br t;simp;omega)
 simp only[hc,B5,nth,E0,E4,D.I,D.S,D.L,D.B,D8,B6];rfl
theorem r68:∀ t:Tm,∀ u:Tm,au t->rn ⟨68,0,0⟩ [.int t.k,.int t.n,.str t.s,.sl (t.as.map Tm.row),.int u.k,.int u.n,.str u.s,.sl (u.as.map Tm.row)]=some (0,[.bool (eqb t.row u.row)]):=Tm.ind fun t ih u h=>by
 have hlt:=h.len;show rn _ _=_
 rw[e68_0_0];have hq:eqb t.row u.row=(decide (t.k=u.k)&&(decide (t.n=u.n)&&(decide (t.s=u.s)&&eqb (t.as.map Tm.row) (u.as.map Tm.row)))):=by
  rw[Tm.row_eq t,Tm.row_eq u];simp only[Bp,Gl,Nh,Ni,Sn,K9]
 rw[hq];try simp only[B6]
 by_cases l0:u.as.length≠t.as.length
 ·rw[H8 (by omega:¬(t.as.length:Int)=(u.as.length:Int)),Nk (fun h=>l0 (by simpa using h.symm))]
  cases decide (t.k=u.k)<;>cases decide (t.n=u.n)<;>cases decide (t.s=u.s)<;>rfl
 have l0:=Classical.not_not.1 l0;rw[H7 (by omega:(t.as.length:Int)=(u.as.length:Int))]
 have hf:=Nj (F:=fun i=>rn ⟨68,0,1⟩ [.int (i:Int),.int t.k,.int t.n,.str t.s,.sl (t.as.map Tm.row),.int u.k,.int u.n,.str u.s,.sl (u.as.map Tm.row)]) (xs:=t.as.map Tm.row) (ys:=u.as.map Tm.row) (A:=some (0,[])) (B:=some (1,[])) (by simpa using l0) (fun i hi=>?_) ?_
 ·simp only[C3] at hf
  rw[hf];cases decide (t.k=u.k)<;>cases decide (t.n=u.n)<;>cases decide (t.s=u.s)<;>cases eqb (t.as.map Tm.row) (u.as.map Tm.row)<;>rfl
 ·have hi:i<t.as.length:=by simpa using hi
  have hi2:i<u.as.length:=by omega
  have hc:=ih _ (C0 hi) u.as[i] (h.sub (C0 hi));rw[e68_0_1];rw[O8,O8];generalize eqb t.as[i].row u.as[i].row=z at hc ⊢;simp only[B7,ab hi,ab hi2,Tm.row_eq,B6,aq,hi,hi2,C1,H3,H1,nth,E0,E4,D.I,D.S,D.L,D.B,ae hi (by unfold maxLen;omega),B5,hc]
  cases z<;>rfl
 ·skip
  rw[e68_0_1];simp
theorem r129:∀ t:Tm,∀ u:Tm,au t->rn ⟨129,0,0⟩ [.int t.k,.int t.n,.str t.s,.sl (t.as.map Tm.row),.int u.k,.int u.n,.str u.s,.sl (u.as.map Tm.row)]=some (0,[.bool (eqb t.row u.row)]):=Tm.ind fun t ih u h=>by
 have hlt:=h.len;show rn _ _=_
 rw[e129_0_0];have hq:eqb t.row u.row=(decide (t.k=u.k)&&(decide (t.n=u.n)&&(decide (t.s=u.s)&&eqb (t.as.map Tm.row) (u.as.map Tm.row)))):=by
  rw[Tm.row_eq t,Tm.row_eq u];simp only[Bp,Gl,Nh,Ni,Sn,K9]
 rw[hq];try simp only[B6]
 have hl:rn ⟨188,0,0⟩ [.sl (t.as.map Tm.row),.sl (u.as.map Tm.row)]=some (0,[.bool (eqb (t.as.map Tm.row) (u.as.map Tm.row))]):=by
  rw[e188_0_0];simp only[B6];by_cases l0:u.as.length≠t.as.length
  ·rw[H8 (by omega:¬(t.as.length:Int)=(u.as.length:Int)),Nk (fun h=>l0 (by simpa using h.symm))];rfl
  have l0:=Classical.not_not.1 l0;rw[H7 (by omega:(t.as.length:Int)=(u.as.length:Int))]
  have hf:=Nj (F:=fun i=>rn ⟨188,0,1⟩ [.sl (u.as.map Tm.row),.sl (t.as.map Tm.row),.int ((t.as.map Tm.row)).length,.int (i:Int)]) (xs:=t.as.map Tm.row) (ys:=u.as.map Tm.row) (A:=some (0,[])) (B:=some (1,[])) (by simpa using l0) (fun i hi=>?_) ?_
  ·simp only[C3,B6] at hf
   rw[hf];cases eqb (t.as.map Tm.row) (u.as.map Tm.row)<;>rfl
  ·have hi:i<t.as.length:=by simpa using hi
   have hi2:i<u.as.length:=by omega
   have hc:=ih _ (C0 hi) u.as[i] (h.sub (C0 hi));rw[e188_0_1];rw[O8,O8];generalize eqb t.as[i].row u.as[i].row=z at hc ⊢;simp only[B7,ab hi,ab hi2,Tm.row_eq,B6,aq,hi,hi2,C1,H3,H1,nth,E0,E4,D.I,D.S,D.L,D.B,ae hi (by unfold maxLen;omega),B5,hc]
   cases z<;>rfl
  ·skip
   rw[e188_0_1];simp
 simp only[hl,B5,nth,E0,E4,D.I,D.S,D.L,D.B];cases decide (t.k=u.k)<;>cases decide (t.n=u.n)<;>cases decide (t.s=u.s)<;>rfl
theorem r178(g:Gu)(h:g.ok):rn ⟨178,0,0⟩ [.int g.k,.int g.l.k,.int g.l.n,.str g.l.s,.sl (g.l.as.map Tm.row),.int g.r.k,.int g.r.n,.str g.r.s,.sl (g.r.as.map Tm.row)]=some (0,[.bool (holds g)]):=by
 show rn _ _=_
 rw[e178_0_0];obtain⟨hl,hr⟩:=h;have sl:=ak _ hl;have sr:=ak _ hr;have hl':=J0 (gy g.l) hl;have hr':=J0 (gy g.r) hr;have a1:=r228 g.l hl;have a2:=r228 g.r hr;have b1:=r124 g.l sl;have b2:=r124 g.r sr;have c1:=r129 (rW g.l) (rW g.r) (Br _ sl);have d1:=r182 (rW g.l);have d2:=r182 (rW g.r);simp only[a1,a2,b1,b2,c1,d1,d2,B5,nth,E0,E4,D.I,D.S,D.L,D.B];unfold holds;cases isG g.l
 ·rfl
 cases isG g.r
 ·rfl
 simp only[D0,H2,D9];by_cases k1:g.k=1
 ·rw[H5 k1,H7 k1];rfl
 rw[H6 k1,H8 k1];by_cases k2:g.k=2
 ·rw[H5 k2,H7 k2];rfl
 rw[H6 k2,H8 k2];by_cases k3:g.k=3
 ·rw[H5 k3,H7 k3]
  cases isW (rW g.l)<;>cases isW (rW g.r)<;>rfl
 ·rw[H6 k3,H8 k3];rfl
theorem r107(g:Gu)(h:g.ok):rn ⟨107,0,0⟩ [.int g.k,.int g.l.k,.int g.l.n,.str g.l.s,.sl (g.l.as.map Tm.row),.int g.r.k,.int g.r.n,.str g.r.s,.sl (g.r.as.map Tm.row)]=some (0,[.bool (holds g)]):=by
 show rn _ _=_
 rw[e107_0_0];obtain⟨hl,hr⟩:=h;have sl:=ak _ hl;have sr:=ak _ hr;have hl':=J0 (gy g.l) hl;have hr':=J0 (gy g.r) hr;have a1:=r170 (rW g.l) hl';have a2:=r170 (rW g.r) hr';have b1:=r69 g.l sl;have b2:=r69 g.r sr;have c1:=r68 (rW g.l) (rW g.r) (Br _ sl);have d1:=r112 (rW g.l);have d2:=r112 (rW g.r);simp only[a1,a2,b1,b2,c1,d1,d2,B5,nth,E0,E4,D.I,D.S,D.L,D.B];unfold holds;rw[Su,Su];cases isG g.l
 ·rfl
 cases isG g.r
 ·rfl
 simp only[D0,H2,D9];by_cases k1:g.k=1
 ·rw[H5 k1,H7 k1];rfl
 rw[H6 k1,H8 k1];by_cases k2:g.k=2
 ·rw[H5 k2,H7 k2];rfl
 rw[H6 k2,H8 k2];by_cases k3:g.k=3
 ·rw[H5 k3,H7 k3]
  cases isW (rW g.l)<;>cases isW (rW g.r)<;>rfl
 ·rw[H6 k3,H8 k3];rfl
theorem r179(l:List Bnd)(hl:l.length<=1048576)(hs:∀ b∈l,au b.2)(g:Gu)(h:g.ok):rn ⟨179,0,0⟩ [.sl (l.map Bnd.row),.int g.k,.int g.l.k,.int g.l.n,.str g.l.s,.sl (g.l.as.map Tm.row),.int g.r.k,.int g.r.n,.str g.r.s,.sl (g.r.as.map Tm.row)]=some (0,[.int (du l g).k,.int (du l g).l.k,.int (du l g).l.n,.str (du l g).l.s,.int (du l g).r.k,.int (du l g).r.n,.str (du l g).r.s,.sl ((du l g).l.as.map Tm.row),.sl ((du l g).r.as.map Tm.row)]):=by
 show rn _ _=_
 rw[e179_0_0];have a1:=r125 l hl hs g.l (ak _ h.1);have a2:=r125 l hl hs g.r (ak _ h.2);simp only[a1,a2,B5,nth,E0,E4,D.I,D.S,D.L,D.B];rfl
theorem r108(l:List Bnd)(hl:l.length<=1048576)(hs:∀ b∈l,au b.2)(g:Gu)(h:g.ok):rn ⟨108,0,0⟩ [.sl (l.map Bnd.row),.int g.k,.int g.l.k,.int g.l.n,.str g.l.s,.sl (g.l.as.map Tm.row),.int g.r.k,.int g.r.n,.str g.r.s,.sl (g.r.as.map Tm.row)]=some (0,[.int (du l g).k,.int (du l g).l.k,.int (du l g).l.n,.str (du l g).l.s,.int (du l g).r.k,.int (du l g).r.n,.str (du l g).r.s,.sl ((du l g).l.as.map Tm.row),.sl ((du l g).r.as.map Tm.row)]):=by
 show rn _ _=_
 rw[e108_0_0];have a1:=r70 l hl hs g.l (ak _ h.1);have a2:=r70 l hl hs g.r (ak _ h.2);simp only[a1,a2,B5,nth,E0,E4,D.I,D.S,D.L,D.B];rfl
theorem Hi(g:Gu):g.row=[.int g.k,.int g.l.k,.int g.l.n,.str g.l.s,.sl (g.l.as.map Tm.row),.int g.r.k,.int g.r.n,.str g.r.s,.sl (g.r.as.map Tm.row)]:=rfl
theorem r121(l:List Bnd)(hl:l.length<=1048576)(hs:∀ b∈l,b.2.nodes=1)(gs:List Gu)(hg:gs.length<=1048576)(h:∀ g∈gs,g.ok):rn ⟨121,0,0⟩ [.sl (l.map Bnd.row),.sl (gs.map Gu.row)]=some (0,[.bool (gs.all fun g=>holds (du l g))]):=by
 have hss:∀ b∈l,au b.2:=fun b hb=>ak _ (by rw[hs b hb];decide)
 show rn _ _=_
 rw[e121_0_0];have hf:=Jd (F:=fun i=>rn ⟨121,0,1⟩ [.sl (l.map Bnd.row),.sl (gs.map Gu.row),.int (gs.map Gu.row).length,.int (i:Int)]) (xs:=gs) (p:=fun g=>holds (du l g)) (A:=some (0,[])) (B:=some (1,[])) (fun i hi=>?_) ?_
 ·simp only[C3] at hf
  rw[hf];cases gs.all fun g=>holds (du l g)<;>rfl
 ·have hgi:=h _ (C0 hi)
  have a1:=r179 l hl hss gs[i] hgi;have a2:=r178 (du l gs[i]) (Nn hs hgi);rw[e121_0_1];simp only[B7,ab hi,Hi,B6,aq,hi,C1,H3,H1,nth,E0,E4,D.I,D.S,D.L,D.B,ae hi (by unfold maxLen;omega),B5,a1,a2]
  cases holds (du l gs[i])<;>rfl
 ·skip
  rw[e121_0_1];simp
theorem Ku(n:Nat):((gx n).toNat:Int)=gx n/\(gx n).toNat<=64:=by have:=lq n;omega
theorem r76(vars:List ByteArray)(gs:List Gu)(hg:gs.length<=1048576)(h:∀ g∈gs,g.ok):rn ⟨76,0,0⟩ [.sl (vars.map ag),.sl (gs.map Gu.row)]=some (0,[.sl ((dk vars gs).map nRow)]):=by
 have hN:=Ku vars.length;show rn _ _=_
 rw[e76_0_0];have hf:=za (F:=fun i acc=>rn ⟨76,0,1⟩ [.sl (vars.map ag),.sl (gs.map Gu.row),.int (i:Int),.sl acc]) (N:=(gx vars.length).toNat) (p:=fun c=>qw vars gs (c:Int)) (g:=nRow) (K:=fun acc=>some (0,[.sl acc])) (fun i acc hi ha=>?_) (fun acc=>?_)
 ·simp only[C3] at hf
  rw[hf];rfl
 ·have a1:=r120 vars.length
  have a2:=r122 vars (i:Int);have a3:=r121 (bn vars (i:Int)) (nc ..) (qd _ _) gs hg h;rw[e76_0_1];simp only[B6,a1,a2,a3,B5,nth,E0,E4,D.I,D.S,D.L,D.B];rw[H7 (by omega:(i:Int)<gx vars.length)]
  simp only[H1,C2,C5,ae hi (by unfold maxLen;omega)]
  rw[show F5 (acc.length+(0+1)) M63=true from E9 (by unfold M63;omega)]
  unfold qw;cases gs.all fun g=>holds (du (bn vars (i:Int)) g)<;>rfl
 ·have a1:=r120 vars.length
  rw[e76_0_1];simp only[B6,a1,B5,nth,E0,E4,D.I,D.S,D.L,D.B];rw[H8 (by omega:¬((gx vars.length).toNat:Int)<gx vars.length)];rfl
theorem r66(vars:List ByteArray)(gs:List Gu)(hg:gs.length<=1048576)(h:∀ g∈gs,g.ok):rn ⟨66,0,0⟩ [.sl (vars.map ag),.sl (gs.map Gu.row)]=some (0,[.sl ((dk vars gs).map nRow)]):=by
 have hN:=Ku vars.length;have a1:=r103 vars.length;have hin:∀ (c:Int) (acc:aa),rn ⟨66,0,3⟩ [.sl (vars.map ag),.sl (gs.map Gu.row),.int (gx vars.length),.int c,.bool true,.int 0,.sl acc]=some (0,[.sl (vars.map ag),.sl (gs.map Gu.row),.int (gx vars.length),.int c,.bool (qw vars gs c),.sl acc]):=fun c acc=>by
  have hf:=Pz (F:=fun i b=>rn ⟨66,0,3⟩ [.sl (vars.map ag),.sl (gs.map Gu.row),.int (gx vars.length),.int c,.bool b,.int (i:Int),.sl acc]) (xs:=gs) (p:=fun g=>holds (du (bn vars c) g)) (A:=fun b=>some (0,[.sl (vars.map ag),.sl (gs.map Gu.row),.int (gx vars.length),.int c,.bool b,.sl acc])) (fun i hi b=>?_) (fun b=>?_)
  ·simp only[C3] at hf
   rw[hf];rfl
  ·have hss:∀ b∈bn vars c,au b.2:=fh vars c
   have hgi:=h _ (C0 hi);have b1:=r71 vars c;have b2:=r108 (bn vars c) (nc ..) hss gs[i] hgi;have b3:=r107 (du (bn vars c) gs[i]) (Nn (qd _ _) hgi);rw[e66_0_3];simp only[B7,ab hi,Hi,B6,aq,hi,C1,H3,H1,nth,E0,E4,D.I,D.S,D.L,D.B,ae hi (by unfold maxLen;omega),B5,b1,b2,b3]
   cases b<;>rfl
  ·skip
   rw[e66_0_3];simp
 show rn _ _=_
 rw[e66_0_0];have hf:=za (F:=fun i acc=>rn ⟨66,0,1⟩ [.sl (vars.map ag),.sl (gs.map Gu.row),.int (gx vars.length),.int (i:Int),.sl acc]) (N:=(gx vars.length).toNat) (p:=fun c=>qw vars gs (c:Int)) (g:=nRow) (K:=fun acc=>some (0,[.sl acc])) (fun i acc hi ha=>?_) (fun acc=>?_)
 ·simp only[C3] at hf a1
  simp only[B6,a1,B5,nth,E0,E4,D.I,D.S,D.L,D.B];rw[hf];rfl
 ·skip
  rw[e66_0_1];rw[H7 (by omega:(i:Int)<gx vars.length),hin]
  simp only[H1,B5,D5,nth,E0,E4,D.I,D.S,D.L,D.B,C2,C5,ae hi (by unfold maxLen;omega)]
  rw[show F5 (acc.length+(0+1)) M63=true from E9 (by unfold M63;omega)]
  cases qw vars gs (i:Int)<;>rfl
 ·skip
  rw[e66_0_1];rw[H8 (by omega:¬((gx vars.length).toNat:Int)<gx vars.length)];rfl
theorem r75(vs cs0 cs:aa)(t:Tm)(h:au t)(h1:vs.length<=274877906944)(h2:cs.length<=274877906944):rn ⟨75,0,0⟩ [.sl vs,.int t.k,.int t.n,.str t.s,.sl (t.as.map Tm.row),.sl cs0,.sl cs]=some (0,[.int t.k,.int t.n,.str t.s,.sl vs,.sl (t.as.map Tm.row),.sl cs]):=by
 rw[e75_0_0];simp only[Ad vs h1,Hh cs h2,r118 t h,xm,zn,zo,zp,zq,zr,zt,zu,zv,zw,od,oe,og,oh,oi,oj,ol,om,oo,oq,ot,ou,ow,oz,pa,pb,dI,dB,dS,dL,B5]
theorem r44(vars:List ByteArray)(hv:vars.length<=1048576)(l r:Tm)(h:au l)(gs:List Gu)(hg:gs.length<=1048576)(hk:∀ g∈gs,g.ok):rn ⟨44,0,0⟩ [.sl (vars.map ag),.int l.k,.int l.n,.str l.s,.sl (l.as.map Tm.row),.int r.k,.int r.n,.str r.s,.sl (r.as.map Tm.row),.sl (gs.map Gu.row)] =
 some (0,[.int l.k,.int l.n,.str l.s,.sl (vars.map ag),.sl (l.as.map Tm.row),.sl ((dk vars gs).map nRow)]):=by
 have hc:(dk vars gs).length<=274877906944:=by
  unfold dk;refine J0 (List.length_filter_le _ _) ?_;have:=(lq vars.length).2;simp;omega
 rw[e44_0_0];simp only[r76 vars gs hg hk,xm,zn,zo,zp,zq,zr,zt,zu,zv,zw,od,oe,og,oh,oi,oj,ol,om,oo,oq,ot,ou,ow,oz,pa,pb,dI,dB,dS,dL,B5];rw[r75 _ _ _ l h (by simp;omega) (by simpa using hc)]
 simp only[xm,zn,zo,zp,zq,zr,zt,zu,zv,zw,od,oe,og,oh,oi,oj,ol,om,oo,oq,ot,ou,ow,oz,pa,pb,dI,dB,dS,dL,B5]
theorem r37(vars:List ByteArray)(hv:vars.length<=1048576)(l r:Tm)(h:au l)(gs:List Gu)(hg:gs.length<=1048576)(hk:∀ g∈gs,g.ok):rn ⟨37,0,0⟩ [.sl (vars.map ag),.int l.k,.int l.n,.str l.s,.sl (l.as.map Tm.row),.int r.k,.int r.n,.str r.s,.sl (r.as.map Tm.row),.sl (gs.map Gu.row)] =
 some (0,[.int l.k,.int l.n,.str l.s,.sl (vars.map ag),.sl (l.as.map Tm.row),.sl ((dk vars gs).map nRow)]):=by
 rw[e37_0_0];rw[show F5 (([]:aa).length+(vars.map ag).length) M63=true from E9 (by unfold M63;simp;omega)]
 simp only[r65 l h,r66 vars gs hg hk,H1,xm,zn,zo,zp,zq,zr,zt,zu,zv,zw,od,oe,og,oh,oi,oj,ol,om,oo,oq,ot,ou,ow,oz,pa,pb,dI,dB,dS,dL,B5,D8]
theorem qlt(a c:Nat):decide ((c:Int)<(a:Int))=!decide (a<=c):=by by_cases h:a<=c<;>simp[h]<;>omega
theorem qle(a c:Nat):decide ((c:Int)<=(a:Int))=decide (c<=a):=by by_cases h:c<=a<;>simp[h]<;>omega
theorem ba{n:Nat}(h:n<=1099511627776):n<=maxLen:=by unfold maxLen;omega
theorem nb{n m:Nat}(h:n+m<=274877906944):F5 (n+m) M63=true:=E9 h
theorem r251(c:Nat):rn ⟨251,0,0⟩ [.int (c:Int)]=some (0,[.bool (decide (97<=c)&&decide (c<=122))]):=by
 rw[e251_0_0,show decide ((97:Int)<=(c:Int))=decide (97<=c) from qle c 97,show decide ((c:Int)<=122)=decide (c<=122) from qle 122 c]
 cases decide (97<=c)<;>rfl
theorem r254(c:Nat):rn ⟨254,0,0⟩ [.int (c:Int)]=some (0,[.bool (decide (48<=c)&&decide (c<=57))]):=by
 rw[e254_0_0,show decide ((48:Int)<=(c:Int))=decide (48<=c) from qle c 48,show decide ((c:Int)<=57)=decide (c<=57) from qle 57 c]
 cases decide (48<=c)<;>rfl
theorem rIn(a b c:Int):rn ⟨35,0,0⟩ [.int a,.int b,.int c]=some (0,[.bool (decide (b<=a)&&decide (a<=c))]):=r35 a b c
theorem r215(s:ByteArray)(hs:s.size<=maxLen)(lo hi:Nat):rn ⟨215,0,0⟩ [.str s,.int (lo:Int),.int (hi:Int)]=some (0,[.bool (Eo lo hi s.data.toList)]):=by
 have hz:=qz s;have hl:∀ n i,i+n=s.data.toList.length->rn ⟨215,0,1⟩ [.str s,.int (i:Int)]=bif (s.data.toList.drop i).all Df then some (0,[]) else some (1,[]):=by
  intro n;induction n with
  |zero =>
   intro i hi;obtain rfl:i=s.data.toList.length:=by omega
   rw[e215_0_1];simp only[hz,B6,C1,D3,H4,H2,C6,K8,H1]
  |succ n ih =>
   intro i hi;have hlt:i<s.data.toList.length:=by omega
   rw[e215_0_1,B8 hlt];simp only[hz,C1,hlt,H3,H1,aq,B7,ae hlt (by omega),qf hlt,J2,ih (i+1) (by omega),Df]
   generalize s.data.toList[i].toNat=c;rw[show decide ((c:Int)<97)=!decide (97<=c) from qlt 97 c,show decide ((c:Int)<48)=!decide (48<=c) from qlt 48 c,show decide ((57:Int)<(c:Int))=!decide (c<=57) from qlt c 57,show decide ((122:Int)<(c:Int))=!decide (c<=122) from qlt c 122]
   cases decide (97<=c)<;>cases decide (c<=122)<;>cases decide (48<=c)<;>cases decide (c<=57)<;>simp
 have h1:=hl (s.data.toList.length-1) 1;rw[e215_0_0];have hg:∀ h:0<s.data.toList.length,s.get! 0=s.data.toList[0]:=fun h=>qf h
 rw[hz] at hs;rw[hz];generalize s.data.toList=l at hs hz hl h1 hg ⊢;cases l with
 |nil=>rfl
 |cons b r =>
  have e0:=hg (by simp)
  have e1:=h1 (by simp;omega)
  simp only[Q4,D2] at e1;rw[show((1:Nat):Int)=1 from rfl] at e1
  have hn:¬(((b::r).length:Nat):Int)<1:=by simp only[C2];omega
  have hi0:inb 0 (b::r).length=true:=by simp[inb]
  rw[show decide ((8:Int)<(((b::r).length:Nat):Int))=!decide ((b::r).length<=8) from qlt _ 8]
  simp only[H8 hn,H2,hi0,H1,show P1 0=0 from rfl,e0,T4,e1,Eo]
  rw[qlt lo b.toNat,qlt b.toNat hi];cases decide ((b::r).length<=8)<;>cases decide (lo<=b.toNat)<;>cases decide (b.toNat<=hi)<;>cases r.all Df<;>first |rfl |(simp;done) |(simp;rfl)
theorem r244(s:ByteArray)(hs:s.size<=maxLen):rn ⟨244,0,0⟩ [.str s]=some (0,[.bool (ku s)]):=by
 have h:=r215 s hs 97 122;rw[e244_0_0];simp only[show((97:Nat):Int)=97 from rfl,show((122:Nat):Int)=122 from rfl] at h
 simp only[h,nv0,nvS,dvI,dvB,dvS,dvL,B5];rfl
theorem r154(s:ByteArray)(hs:s.size<=maxLen):rn ⟨154,0,0⟩ [.str s]=some (0,[.bool (rr s)]):=by
 have h:=r215 s hs 65 90;rw[e154_0_0];simp only[show((65:Nat):Int)=65 from rfl,show((90:Nat):Int)=90 from rfl] at h
 simp only[h,nv0,nvS,dvI,dvB,dvS,dvL,B5];rfl
theorem r226(s:ByteArray)(hs:s.size<=maxLen):rn ⟨226,0,0⟩ [.str s]=some (0,[.bool ((s.data.toList.drop 1).all Df&&(decide (1<=s.data.toList.length)&&decide (s.data.toList.length<=8)))]):=by
 have hz:=qz s;have hl:∀ n i,i+n=s.data.toList.length->rn ⟨226,0,1⟩ [.str s,.int (i:Int)]=bif (s.data.toList.drop i).all Df then some (0,[.str s]) else some (1,[]):=by
  intro n;induction n with
  |zero =>
   intro i hi;obtain rfl:i=s.data.toList.length:=by omega
   rw[e226_0_1];simp only[hz,B6,C1,D3,H4,H2,C6,K8,H1]
  |succ n ih =>
   intro i hi;have hlt:i<s.data.toList.length:=by omega
   rw[e226_0_1,B8 hlt];simp only[hz,C1,hlt,H3,H1,aq,B7,ae hlt (by omega),qf hlt,J2,ih (i+1) (by omega),Df,r251,r254,nv0,nvS,dvI,dvB,dvS,dvL,B5]
   generalize s.data.toList[i].toNat=c;cases decide (97<=c)<;>cases decide (c<=122)<;>cases decide (48<=c)<;>cases decide (c<=57)<;>simp
 rw[e226_0_0];have hlen:decide ((1:Int)<=(s.data.toList.length:Int))=decide (1<=s.data.toList.length):=qle s.data.toList.length 1;have hlen8:decide ((s.data.toList.length:Int)<=8)=decide (s.data.toList.length<=8):=qle 8 s.data.toList.length;by_cases h0:s.data.toList.length=0
 ·have e:rn ⟨226,0,1⟩ [.str s,.int 1]=some (0,[.str s]):=by
   rw[e226_0_1];rw[H8 (show ¬(1:Int)<(s.size:Int) by rw[hz];omega)];rfl
  simp only[e,nv0,nvS,dvI,dvB,dvS,dvL,B5,D5,H1,H2,rIn,hz,hlen,hlen8];have:s.data.toList=[]:=F9.1 h0;rw[this];rfl
 ·have h1:=hl (s.data.toList.length-1) 1 (by omega)
  rw[show((1:Nat):Int)=1 from rfl] at h1
  rw[h1];cases (s.data.toList.drop 1).all Df with
  |true=>simp only[nv0,nvS,dvI,dvB,dvS,dvL,B5,D5,H1,H2,rIn,hz,hlen,hlen8,D9]
  |false=>rfl
theorem r222(s:ByteArray)(hs:s.size<=maxLen):rn ⟨222,0,0⟩ [.str s]=some (0,[.bool (ku s)]):=by
 have hr:=r226 s hs;have hz:=qz s;rw[e222_0_0];have he:decide (s=(⟨#[]⟩:ByteArray))=decide (s.data.toList=[]):=decide_eq_decide.2 (Jj s);have hg:∀ h:0<s.data.toList.length,s.get! 0=s.data.toList[0]:=fun h=>qf h
 rw[he,hz];unfold ku;generalize s.data.toList=l at hr hz hg ⊢;cases l with
 |nil=>rfl
 |cons b r =>
  have e0:=hg (by simp)
  have hi0:inb 0 (r.length+1)=true:=by simp[inb]
  simp only[show P1 0=0 from rfl,e0,T4,C2,hi0,H1,H8 (List.cons_ne_nil b r),G7,r251,nv0,nvS,dvI,dvB,dvS,dvL,B5,hr,Eo,Q4,D2,C2]
  have:decide (1<=r.length+1)=true:=by simp
  rw[this];cases decide (97<=b.toNat)<;>cases decide (b.toNat<=122)<;>cases r.all Df<;>cases decide (r.length+1<=8)<;>rfl
theorem r163(s:ByteArray)(hs:s.size<=maxLen):rn ⟨163,0,0⟩ [.str s]=some (0,[.bool (rr s)]):=by
 have hr:=r226 s hs;have hz:=qz s;rw[e163_0_0];have he:decide (s=(⟨#[]⟩:ByteArray))=decide (s.data.toList=[]):=decide_eq_decide.2 (Jj s);have hg:∀ h:0<s.data.toList.length,s.get! 0=s.data.toList[0]:=fun h=>qf h
 rw[he,hz];unfold rr;generalize s.data.toList=l at hr hz hg ⊢;cases l with
 |nil=>rfl
 |cons b r =>
  have e0:=hg (by simp)
  have hi0:inb 0 (r.length+1)=true:=by simp[inb]
  simp only[show P1 0=0 from rfl,e0,T4,C2,hi0,H1,H8 (List.cons_ne_nil b r),G7,nv0,nvS,dvI,dvB,dvS,dvL,B5,hr,Eo,Q4,D2,C2]
  have:decide (1<=r.length+1)=true:=by simp
  rw[this,show decide ((65:Int)<=(b.toNat:Int))=decide (65<=b.toNat) from qle b.toNat 65,show decide ((b.toNat:Int)<=90)=decide (b.toNat<=90) from qle 90 b.toNat]
  cases decide (65<=b.toNat)<;>cases decide (b.toNat<=90)<;>cases r.all Df<;>cases decide (r.length+1<=8)<;>rfl
theorem r216:∀ t:Tm,t.nodes<=2097152->rn ⟨216,0,0⟩ [.int t.k,.int t.n,.str t.s,.sl (t.as.map Tm.row)]=some (0,[.int (t.nodes:Int)]):=Tm.ind fun t ih h=>by
 have hnd:=Tm.nodes_eq t;have hls:=dg (xs:=t.as);have hl:∀ n i (c:Nat),i+n=t.as.length->c+((t.as.drop i).map Tm.nodes).sum<=2097152->rn ⟨216,0,1⟩ [.int (c:Int),.sl (t.as.map Tm.row),.int (t.as.length:Int),.int (i:Int)]=some (0,[.int ((c+((t.as.drop i).map Tm.nodes).sum:Nat):Int)]):=by
  intro n;induction n with
  |zero =>
   intro i c hi hc;obtain rfl:i=t.as.length:=by omega
   rw[e216_0_1];simp only[B6,C1,D3,H4,H2,C6,D4,List.sum_nil,N5]
  |succ n ih2 =>
   intro i c hi hc;have hlt:i<t.as.length:=by omega
   rw[B8 hlt] at hc ⊢;simp only[C4,K1] at hc ⊢;rw[e216_0_1];have h1:=ih _ (C0 hlt) (by omega)
   simp only[B6,C1,hlt,H3,H1,aq,B7,ab hlt,ae hlt (ba (by omega)),Tm.row_eq,nv0,nvS,dvI,dvB,dvS,dvL,B5,h1]
   rw[IntWalk.i64_in _ (by omega),show((c:Int)+(t.as[i].nodes:Int))=((c+t.as[i].nodes:Nat):Int) by omega,ih2 (i+1) _ (by omega) (by omega),Nat.add_assoc]
 rw[e216_0_0];have:=hl t.as.length 0 1 (by omega) (by rw[D2];omega)
 rw[D2,<-hnd] at this;simp only[B6,show((1:Nat):Int)=1 from rfl,C3] at this ⊢
 simp only[this,nv0,nvS,dvI,dvB,dvS,dvL,B5,D5,H1,H2]
theorem ah5(a b:Nat):(bif decide (b<a) then (a:Int) else (b:Int))=((max b a:Nat):Int):=by
 by_cases h:b<a
 ·rw[H7 h,H1];omega
 ·rw[H8 h,H2];omega
theorem r217:∀ t:Tm,t.nodes<=2097152->rn ⟨217,0,0⟩ [.int t.k,.int t.n,.str t.s,.sl (t.as.map Tm.row)]=some (0,[.int (t.depth:Int)]):=Tm.ind fun t ih h=>by
 have hnd:=Tm.nodes_eq t;have hls:=dg (xs:=t.as);have hdn:=Tm.depth_nodes t;have hde:=Tm.depth_eq t;have hl:∀ n i (c:Nat),i+n=t.as.length->rn ⟨217,0,1⟩ [.int (c:Int),.sl (t.as.map Tm.row),.int (t.as.length:Int),.int (i:Int)]=some (0,[.int ((max c (Tm.depthL (t.as.drop i)):Nat):Int)]):=by
  intro n;induction n with
  |zero =>
   intro i c hi;obtain rfl:i=t.as.length:=by omega
   rw[e217_0_1];simp only[B6,C1,D3,H4,H2,C6,Tm.depthL,Nat.max_zero]
  |succ n ih2 =>
   intro i c hi;have hlt:i<t.as.length:=by omega
   rw[B8 hlt];have hm:=ei (f:=Tm.nodes) (C0 hlt);have h1:=ih _ (C0 hlt) (by omega)
   rw[e217_0_1];simp only[B6,C1,hlt,H3,H1,aq,B7,ab hlt,ae hlt (ba (by omega)),Tm.row_eq,nv0,nvS,dvI,dvB,dvS,dvL,B5,h1]
   rw[ah5,ih2 (i+1) _ (by omega)]
   simp only[Tm.depthL,Nat.max_assoc]
 rw[e217_0_0];have:=hl t.as.length 0 0 (by omega)
 rw[D2,Nat.zero_max] at this;simp only[B6,C3] at this ⊢;simp only[this,nv0,nvS,dvI,dvB,dvS,dvL,B5,D5,H1,H2];rw[IntWalk.i64_in _ (by omega),hde];rfl
theorem r173(a b:Nat):rn ⟨173,0,0⟩ [.int (a:Int),.int (b:Int)]=some (0,[.int ((max a b:Nat):Int)]):=by
 rw[e173_0_0];by_cases h:(b:Int)<(a:Int)
 ·rw[H7 h,H1,show max a b=a by omega]
 ·rw[H8 h,H2,show max a b=b by omega]
theorem r165:∀ t:Tm,t.nodes<=2097152->rn ⟨165,0,0⟩ [.int t.k,.int t.n,.str t.s,.sl (t.as.map Tm.row)]=some (0,[.int (t.depth:Int)]):=Tm.ind fun t ih h=>by
 have hnd:=Tm.nodes_eq t;have hls:=dg (xs:=t.as);have hdn:=Tm.depth_nodes t;have hde:=Tm.depth_eq t;have hl:∀ n i (c:Nat),i+n=t.as.length->rn ⟨165,0,1⟩ [.int (c:Int),.int (i:Int),.int t.k,.int t.n,.str t.s,.sl (t.as.map Tm.row)]=some (0,[.int ((max c (Tm.depthL (t.as.drop i)):Nat):Int)]):=by
  intro n;induction n with
  |zero =>
   intro i c hi;obtain rfl:i=t.as.length:=by omega
   rw[e165_0_1];simp only[B6,C1,D3,H4,H2,C6,Tm.depthL,Nat.max_zero]
  |succ n ih2 =>
   intro i c hi;have hlt:i<t.as.length:=by omega
   rw[B8 hlt];have hm:=ei (f:=Tm.nodes) (C0 hlt);have h1:=ih _ (C0 hlt) (by omega)
   rw[e165_0_1];simp only[B6,C1,hlt,H3,H1,aq,B7,ab hlt,ae hlt (ba (by omega)),Tm.row_eq,nv0,nvS,dvI,dvB,dvS,dvL,B5,h1,r173]
   have h2:=ih2 (i+1) (max c t.as[i].depth) (by omega)
   rw[h2];simp only[Tm.depthL,Nat.max_assoc]
 rw[e165_0_0];have:=hl t.as.length 0 0 (by omega)
 rw[D2,Nat.zero_max] at this;simp only[C3] at this ⊢;simp only[this,nv0,nvS,dvI,dvB,dvS,dvL,B5,D5,H1,H2];rw[IntWalk.i64_in _ (by omega),hde];rfl
def pd(n left:Nat):Int:=if n<=left then ((left-n:Nat):Int) else -1
theorem Fc{a b c:Nat}(h:a<=c):pd b (c-a)=pd (a+b) c:=by
 unfold pd;by_cases hb:b<=c-a
 ·rw[H5 hb,H5 (by omega),Nat.sub_sub]
 ·rw[H6 hb,H6 (by omega)]
theorem r164:∀ t:Tm,∀ left:Nat,t.nodes<=2097152->left<=1048576->rn ⟨164,0,0⟩ [.int t.k,.int t.n,.str t.s,.sl (t.as.map Tm.row),.int (left:Int)]=some (0,[.int (pd t.nodes left)]):=Tm.ind fun t ih left h hle=>by
 have hnd:=Tm.nodes_eq t;have hls:=dg (xs:=t.as);have hl:∀ n i (c:Nat),i+n=t.as.length->c<=1048576->rn ⟨164,0,1⟩ [.int (c:Int),.int (i:Int),.int t.k,.int t.n,.str t.s,.sl (t.as.map Tm.row)]=some (0,[.int (pd ((t.as.drop i).map Tm.nodes).sum c)]):=by
  intro n;induction n with
  |zero =>
   intro i c hi hc;obtain rfl:i=t.as.length:=by omega
   rw[e164_0_1];simp only[B6,C1,D3,H4,H2,C6,D4,List.sum_nil,pd,G9,if_true,Nat.sub_zero]
  |succ n ih2 =>
   intro i c hi hc;have hlt:i<t.as.length:=by omega
   rw[B8 hlt];rw[e164_0_1];have h1:=ih _ (C0 hlt) c (by have:=ei (f:=Tm.nodes) (C0 hlt);omega) hc
   have hc0:(0:Int)<=(c:Int):=by omega
   simp only[B6,C1,hlt,H3,H1,aq,B7,ab hlt,ae hlt (ba (by omega)),Tm.row_eq,nv0,nvS,dvI,dvB,dvS,dvL,B5,h1,hc0]
   simp only[C4,K1];by_cases hq:t.as[i].nodes<=c
   ·have e:pd t.as[i].nodes c=((c-t.as[i].nodes:Nat):Int):=H5 hq
    rw[e,ih2 (i+1) _ (by omega) (by omega),Fc hq]
   ·have e:pd t.as[i].nodes c=-1:=H6 hq
    have e2:pd (t.as[i].nodes+((t.as.drop (i+1)).map Tm.nodes).sum) c=-1:=H6 (by omega)
    rw[e,e2,e164_0_1];have hneg:¬(0:Int)<=-1:=by decide
    simp only[hneg,H4,H2];cases decide (((i+1:Nat):Int)<((t.as.map Tm.row).length:Int))<;>rfl
 rw[e164_0_0,IntWalk.i64_in _ (by omega)]
 by_cases hz:left=0
 ·subst hz
  have e:pd t.nodes 0=-1:=H6 (by omega)
  have hneg:¬(0:Int)<=-1:=by decide
  have e2:rn ⟨164,0,1⟩ [.int (((0:Nat):Int)-1),.int 0,.int t.k,.int t.n,.str t.s,.sl (t.as.map Tm.row)]=some (0,[.int (-1)]):=by
   rw[e164_0_1];simp only[show(((0:Nat):Int)-1)=-1 from rfl,hneg,H4,H2]
   cases decide ((0:Int)<((t.as.map Tm.row).length:Int))<;>rfl
  rw[e2,e];rfl
 ·have:=hl t.as.length 0 (left-1) (by omega) (by omega)
  rw[D2] at this;rw[show(left:Int)-1=((left-1:Nat):Int) by omega]
  simp only[C3] at this;simp only[this,nv0,nvS,dvI,dvB,dvS,dvL,B5,D5,H1,H2];rw[Fc (by omega),hnd]
theorem r218:∀ t:Tm,Wt t->rn ⟨218,0,0⟩ [.int t.k,.int t.n,.str t.s,.sl (t.as.map Tm.row)]=some (0,[.bool t.areN]):=Tm.ind fun t ih h=>by
 have hlm:=h.l;have hl:∀ n i,i+n=t.as.length->rn ⟨218,0,2⟩ [.sl (t.as.map Tm.row),.int (t.as.length:Int),.int (i:Int)]=bif Tm.areNL (t.as.drop i) then some (0,[]) else some (1,[]):=by
  intro n;induction n with
  |zero =>
   intro i hi;obtain rfl:i=t.as.length:=by omega
   rw[e218_0_2];simp only[B6,C1,D3,H4,H2,C6,Tm.areNL,H1]
  |succ n ih2 =>
   intro i hi;have hlt:i<t.as.length:=by omega
   rw[e218_0_2,B8 hlt];have h1:=ih _ (C0 hlt) (h.sub (C0 hlt));simp only[B6,C1,hlt,H3,H1,aq,B7,ab hlt,ae hlt hlm,Tm.row_eq,nv0,nvS,dvI,dvB,dvS,dvL,B5,h1,ih2 (i+1) (by omega),Tm.areNL]
   cases t.as[i].areN<;>simp
 have h0:=hl t.as.length 0 (by omega)
 rw[D2] at h0;rw[e218_0_0,Tm.areN_eq];simp only[B6,C3] at h0 ⊢;simp only[h0,r154 t.s h.s,r182 t,r244 t.s h.s,nv0,nvS,dvI,dvB,dvS,dvL,B5];unfold Tm.nodeN;have hz:decide ((t.as.length:Int)=0)=decide (t.as.length=0):=by simp
 by_cases h1:t.k=1
 ·rw[H7 h1,H5 h1,hz]
  by_cases h2:t.as.length=0
  ·have:t.as=[]:=F9.1 h2
   rw[H7 h2,this];simp only[Tm.areNL,H1,K9,D9];cases decide (t.n=0)<;>cases rr t.s<;>rfl
  ·rw[H8 h2]
   cases decide (t.n=0)<;>rfl
 ·rw[H8 h1,H6 h1]
  by_cases h3:t.k=3
  ·rw[H7 h3,H5 h3]
   cases hw:isW t with
   |false=>rfl
   |true =>
    have:t.as=[]:=by simp only[isW,B9,decide_eq_true_eq] at hw;exact F9.1 hw.2.2.2.2
    rw[this];rfl
  ·rw[H8 h3,H6 h3]
   by_cases h2:t.k=2
   ·rw[H7 h2,H5 h2]
    cases decide (t.n=0)<;>cases ku t.s<;>cases Tm.areNL t.as<;>rfl
   ·rw[H8 h2,H6 h2];rfl
theorem r227(t:Tm)(h:Wt t):rn ⟨227,0,0⟩ [.int t.k,.int t.n,.str t.s,.sl (t.as.map Tm.row)]=some (0,[.bool t.nodeN]):=by
 rw[e227_0_0];have hz:decide ((t.as.length:Int)=0)=decide (t.as.length=0):=by simp
 simp only[B6,r163 t.s h.s,r222 t.s h.s,nv0,nvS,dvI,dvB,dvS,dvL,B5,rIn,hz];unfold Tm.nodeN;by_cases h1:t.k=1
 ·rw[H7 h1,H5 h1]
  cases decide (t.n=0)<;>cases rr t.s<;>cases decide (t.as.length=0)<;>rfl
 ·rw[H8 h1,H6 h1]
  by_cases h2:t.k=2
  ·rw[H7 h2,H6 (by omega),H5 h2]
   cases decide (t.n=0)<;>cases ku t.s<;>rfl
  ·rw[H8 h2]
   by_cases h3:t.k=3
   ·rw[H7 h3,H5 h3]
    unfold isW;have e2:decide (t.n<=3)=decide (t.n<4):=decide_eq_decide.2 (by omega)
    rw[H7 h3,e2];cases decide (t.s=(⟨#[]⟩:ByteArray))<;>cases decide (0<=t.n)<;>cases decide (t.n<4)<;>cases decide (t.as.length=0)<;>rfl
   ·rw[H8 h3,H6 h3,H6 h2];rfl
theorem r166:∀ t:Tm,Wt t->rn ⟨166,0,0⟩ [.int t.k,.int t.n,.str t.s,.sl (t.as.map Tm.row)]=some (0,[.bool t.areN]):=Tm.ind fun t ih h=>by
 have hlm:=h.l;have hl:∀ n i,i+n=t.as.length->rn ⟨166,0,1⟩ [.int (i:Int),.int t.k,.int t.n,.str t.s,.sl (t.as.map Tm.row)]=bif Tm.areNL (t.as.drop i) then some (0,[.int t.k,.int t.n,.str t.s,.sl (t.as.map Tm.row)]) else some (1,[]):=by
  intro n;induction n with
  |zero =>
   intro i hi;obtain rfl:i=t.as.length:=by omega
   rw[e166_0_1];simp only[B6,C1,D3,H4,H2,C6,Tm.areNL,H1]
  |succ n ih2 =>
   intro i hi;have hlt:i<t.as.length:=by omega
   rw[e166_0_1,B8 hlt];have h1:=ih _ (C0 hlt) (h.sub (C0 hlt));simp only[B6,C1,hlt,H3,H1,aq,B7,ab hlt,ae hlt hlm,Tm.row_eq,nv0,nvS,dvI,dvB,dvS,dvL,B5,h1,ih2 (i+1) (by omega),Tm.areNL]
   cases t.as[i].areN<;>simp
 have h0:=hl t.as.length 0 (by omega)
 rw[D2] at h0;rw[e166_0_0,Tm.areN_eq];simp only[C3] at h0 ⊢;rw[h0];cases Tm.areNL t.as with
 |true=>simp only[H1,nv0,nvS,dvI,dvB,dvS,dvL,B5,D5,H1,H2,r227 t h,K9]
 |false=>rw[P2];rfl
theorem r155(t:Tm)(hn:t.nodes<=2097152)(h:Wt t):rn ⟨155,0,0⟩ [.int t.k,.int t.n,.str t.s,.sl (t.as.map Tm.row)]=some (0,[.bool t.valid]):=by
 rw[e155_0_0];simp only[r216 t hn,r217 t hn,r218 t h,nv0,nvS,dvI,dvB,dvS,dvL,B5];unfold Tm.valid;have i1:((t.nodes:Int)<=60)↔t.nodes<=60:=by omega
 have i2:((t.depth:Int)<=16)↔t.depth<=16:=by omega
 by_cases h1:t.nodes<=60<;>by_cases h2:t.depth<=16<;>simp[h1,h2,i1,i2]
theorem r100(t:Tm)(hn:t.nodes<=2097152)(h:Wt t):rn ⟨100,0,0⟩ [.int t.k,.int t.n,.str t.s,.sl (t.as.map Tm.row)]=some (0,[.bool t.valid]):=by
 rw[e100_0_0];have h1:=r164 t 60 hn (by omega)
 rw[show((60:Nat):Int)=60 from rfl] at h1
 simp only[h1,r165 t hn,r166 t h,nv0,nvS,dvI,dvB,dvS,dvL,B5];have i0:((0:Int)<=pd t.nodes 60)↔t.nodes<=60:=by
  unfold pd;split<;>omega
 unfold Tm.valid;have i2:((t.depth:Int)<=16)↔t.depth<=16:=by omega
 by_cases h1:t.nodes<=60<;>by_cases h2:t.depth<=16<;>simp[h1,h2,i0,i2]
theorem r153(l:List ByteArray)(h:l.length<=1048576):rn ⟨153,0,0⟩ [.sl (l.map ag)]=some (0,[.bool (dis l)]):=by
 rw[e153_0_0];simp only[r214 l (by omega),nv0,nvS,dvI,dvB,dvS,dvL,B5,B6]
 congr 4
 unfold dis;exact decide_eq_decide.2 (by rw[<-Ta];omega)
def ixS(s:ByteArray):List ByteArray->Nat->Int
 | [],_=>-1
 |x::r,i=>if x=s then (i:Int) else ixS s r (i+1)
theorem Oy(s:ByteArray):∀ (l:List ByteArray) (i:Nat),ixS s l i<0↔s∉l
 | [],i=>by simp[ixS]
 |x::r,i=>by
  unfold ixS;by_cases h:x=s
  ·rw[H5 h];simp[h]
  ·rw[H6 h,Oy s r];simp[Ne.symm h]
theorem r167(l:List ByteArray)(hl:l.length<=maxLen)(s:ByteArray):rn ⟨167,0,0⟩ [.sl (l.map ag),.str s]=some (0,[.int (ixS s l 0)]):=by
 have hlp:∀ n i,i+n=l.length->(ixS s (l.drop i) i=-1/\rn ⟨167,0,1⟩ [.sl (l.map ag),.str s,.int (i:Int)]=some (0,[]))\/rn ⟨167,0,1⟩ [.sl (l.map ag),.str s,.int (i:Int)]=some (1,[.int (ixS s (l.drop i) i)]):=by
  intro n;induction n with
  |zero =>
   intro i hi;obtain rfl:i=l.length:=by omega
   rw[e167_0_1];simp only[B6,C1,D3,H4,H2,C6,ixS];exact .inl ⟨trivial,trivial⟩
  |succ n ih =>
   intro i hi;have hlt:i<l.length:=by omega
   rw[e167_0_1,B8 hlt];simp only[B6,C1,hlt,H3,H1,aq,B7,ab hlt,ae hlt hl,ag,nv0,nvS,dvI,dvB,dvS,dvL,B5,ixS];by_cases h:l[i]=s
   ·simp only[H7 h,H1,H5 h];exact .inr trivial
   ·simp only[H8 h,H2,H6 h];exact ih (i+1) (by omega)
 have h:=hlp l.length 0 (by omega)
 rw[D2] at h;simp only[C3] at h;rw[e167_0_0];rcases h with ⟨h1,h2⟩ |h2
 ·rw[h2,h1];rfl
 ·rw[h2];rfl
theorem r161(l:List ByteArray)(hl:l.length<=maxLen):rn ⟨161,0,0⟩ [.sl (l.map ag)]=some (0,[.bool (dis l)]):=by
 have key:∀ n i,i+n=l.length->rn ⟨161,0,1⟩ [.sl (l.map ag),.int (i:Int)]=bif (T2 i n).all (fun j=>decide (ixS (l.getD j e0) l 0=(j:Int))) then some (0,[]) else some (1,[]):=by
  intro n;induction n with
  |zero =>
   intro i hi;obtain rfl:i=l.length:=by omega
   rw[e161_0_1];simp only[B6,C1,D3,H4,H2,C6];rfl
  |succ n ih =>
   intro i hi;have hlt:i<l.length:=by omega
   rw[e161_0_1,List.range'_succ];have hg:l.getD i e0=l[i]:=by simp[P4,hlt]
   simp only[B6,C1,hlt,H3,H1,aq,B7,ab hlt,ae hlt hl,ag,nv0,nvS,dvI,dvB,dvS,dvL,B5,r167 l hl,ih (i+1) (by omega),J2,hg]
   by_cases hq:ixS l[i] l 0=(i:Int)
   ·simp[hq]
   ·simp[hq]
 have h:=key l.length 0 (by omega)
 rw[e161_0_0];simp only[C3] at h;rw[h];have hfi:∀ (m:List ByteArray) (i k:Nat) (hk:k<m.length),ixS m[k] m i=((i+k:Nat):Int)↔∀ j (hj:j<k),m[j]≠m[k]:=by
  intro m;induction m with
  |nil=>intro i k hk;simp at hk
  |cons x m ih =>
   intro i k hk;cases k with
   |zero=>simp[ixS]
   |succ k =>
    have hk':k<m.length:=by simpa using hk
    simp only[List.getElem_cons_succ,ixS];by_cases hx:x=m[k]
    ·rw[H5 hx]
     constructor
     ·intro h;omega
     ·intro h;exact absurd hx (h 0 (by omega))
    ·rw[H6 hx]
     have:=ih (i+1) k hk';rw[show i+1+k=i+(k+1) by omega] at this
     rw[this];constructor
     ·intro h j hj
      cases j with
      |zero=>exact hx
      |succ j=>exact h j (by omega)
     ·intro h j hj;exact h (j+1) (by omega)
 have e:(T2 0 l.length).all (fun j=>decide (ixS (l.getD j e0) l 0=(j:Int)))=dis l:=by
  unfold dis;rw[Bool.eq_iff_iff,List.all_eq_true,decide_eq_true_eq];constructor
  ·intro h
   refine T8.2 fun i j _ hj hij=>?_
   have h1:=h j (by simp[List.mem_range'];omega)
   simp only[decide_eq_true_eq] at h1;have hg:l.getD j e0=l[j]:=by simp[P4,hj]
   rw[hg] at h1;exact(hfi l 0 j hj).1 (by simpa using h1) i hij
  ·intro h j hj
   have hj':j<l.length:=by simp[List.mem_range'] at hj;omega
   have hg:l.getD j e0=l[j]:=by simp[P4,hj']
   simp only[decide_eq_true_eq,hg];have:=(hfi l 0 j hj').2 fun i hi=>T8.1 h i j (by omega) hj' hi
   simpa using this
 rw[e];cases dis l<;>rfl
theorem Hj(l:List ByteArray)(s:ByteArray):decide ((0:Int)<=ixS s l 0)=ju l s:=by
 rw[Bool.eq_iff_iff,decide_eq_true_eq,vt];have:=Oy s l 0;constructor
 ·intro h;exact Classical.byContradiction fun hn=>by have:=this.2 hn;omega
 ·intro h;exact Classical.byContradiction fun hn=>absurd h (this.1 (by omega))
theorem af1(l:List ByteArray)(s:ByteArray):decide (ixS s l 0<0)=!ju l s:=by
 rw[<-Hj];by_cases h:ixS s l 0<0
 ·rw[H7 h,H8 (by omega)];rfl
 ·rw[H8 h,H7 (by omega)];rfl
theorem Zg(l:List ByteArray)(hl:l.length<=maxLen)(s:ByteArray):rn ⟨262,0,0⟩ [.sl (l.map ag),.str s]=some (0,[.int (ixS s l 0)]):=by
 have hlp:∀ n i,i+n=l.length->(ixS s (l.drop i) i=-1/\rn ⟨262,0,1⟩ [.sl (l.map ag),.str s,.int (l.length:Int),.int (i:Int)]=some (0,[]))\/rn ⟨262,0,1⟩ [.sl (l.map ag),.str s,.int (l.length:Int),.int (i:Int)]=some (1,[.int (ixS s (l.drop i) i)]):=by
  intro n;induction n with
  |zero =>
   intro i hi;obtain rfl:i=l.length:=by omega
   rw[e262_0_1];simp only[B6,C1,D3,H4,H2,C6,ixS];exact .inl ⟨trivial,trivial⟩
  |succ n ih =>
   intro i hi;have hlt:i<l.length:=by omega
   rw[e262_0_1,B8 hlt];simp only[B6,C1,hlt,H3,H1,aq,B7,ab hlt,ae hlt hl,ag,nv0,nvS,dvI,dvB,dvS,dvL,B5,ixS];by_cases h:l[i]=s
   ·simp only[H7 h.symm,H1,H5 h];exact .inr trivial
   ·simp only[H8 (Ne.symm h),H2,H6 h];exact ih (i+1) (by omega)
 have h:=hlp l.length 0 (by omega)
 rw[D2] at h;simp only[C3] at h;rw[e262_0_0];simp only[B6];rcases h with ⟨h1,h2⟩ |h2
 ·rw[h2,h1];rfl
 ·rw[h2];rfl
theorem Vb(l:List ByteArray)(hl:l.length<=maxLen)(s:ByteArray):rn ⟨245,0,0⟩ [.sl (l.map ag),.str s]=some (0,[.bool (ju l s)]):=by
 rw[e245_0_0];simp only[Zg l hl,nv0,nvS,dvI,dvB,dvS,dvL,B5];rw[Hj]
theorem r219(l r:List ByteArray)(hl:l.length<=2097152)(hr:r.length<=maxLen):rn ⟨219,0,0⟩ [.sl (l.map ag),.sl (r.map ag)]=some (0,[.sl ((wo l r).map ag)]):=by
 have key:∀ n i (acc:List ByteArray),i+n=l.length->acc.length<=i->rn ⟨219,0,1⟩ [.sl (r.map ag),.sl (l.map ag),.int (l.length:Int),.int (i:Int),.sl (acc.map ag)]=some (0,[.sl ((acc++wo (l.drop i) r).map ag)]):=by
  intro n;induction n with
  |zero =>
   intro i acc hi ha;obtain rfl:i=l.length:=by omega
   rw[e219_0_1];simp only[B6,C1,D3,H4,H2,C6,wo,T5,G5]
  |succ n ih =>
   intro i acc hi ha;have hlt:i<l.length:=by omega
   rw[e219_0_1,B8 hlt];simp only[B6,C1,hlt,H3,H1,aq,B7,ab hlt,ae hlt (ba (by omega)),ag,nv0,nvS,dvI,dvB,dvS,dvL,B5,Vb r hr,C2,C5]
   unfold wo;rw[O7];cases hh:ju r l[i] with
   |true=>simp only[D0,H2,N6,if_false];exact ih (i+1) acc (by omega) (by omega)
   |false =>
    simp only[G7,H1,if_true];rw[nb (by omega)]
    have:=ih (i+1) (acc++[l[i]]) (by omega) (by simp;omega)
    rw[D6] at this;simp only[H1];simpa[wo,ag] using this
 have h:=key l.length 0 [] (by omega) (G9 _)
 rw[e219_0_0];simp only[C3,D4,D2,D8,B6] at h ⊢;simp only[h,nv0,nvS,dvI,dvB,dvS,dvL,B5,D5,H1,H2]
theorem r101(l r:List ByteArray)(hl:l.length<=2097152)(hr:r.length<=maxLen):rn ⟨101,0,0⟩ [.sl (l.map ag),.sl (r.map ag)]=some (0,[.sl ((wo l r).map ag)]):=by
 have key:∀ n i (acc:List ByteArray),i+n=l.length->acc.length<=i->rn ⟨101,0,1⟩ [.sl (l.map ag),.sl (r.map ag),.int (i:Int),.sl (acc.map ag)]=some (0,[.sl ((acc++wo (l.drop i) r).map ag)]):=by
  intro n;induction n with
  |zero =>
   intro i acc hi ha;obtain rfl:i=l.length:=by omega
   rw[e101_0_1];simp only[B6,C1,D3,H4,H2,C6,wo,T5,G5]
  |succ n ih =>
   intro i acc hi ha;have hlt:i<l.length:=by omega
   rw[e101_0_1,B8 hlt];simp only[B6,C1,hlt,H3,H1,aq,B7,ab hlt,ae hlt (ba (by omega)),ag,nv0,nvS,dvI,dvB,dvS,dvL,B5,r167 r hr,C2,C5]
   rw[af1];unfold wo;rw[O7];cases hh:ju r l[i] with
   |true=>simp only[D0,H2,N6,if_false];exact ih (i+1) acc (by omega) (by omega)
   |false =>
    simp only[G7,H1,if_true];rw[nb (by omega)]
    have:=ih (i+1) (acc++[l[i]]) (by omega) (by simp;omega)
    rw[D6] at this;simp only[H1];simpa[wo,ag] using this
 have h:=key l.length 0 [] (by omega) (G9 _)
 rw[e101_0_0];simp only[C3,D4,D2,D8] at h ⊢;simp only[h,nv0,nvS,dvI,dvB,dvS,dvL,B5,D5,H1,H2]
theorem r221(n:ByteArray)(a:List ByteArray)(r:ByteArray)(h:a.length<=1048576):rn ⟨221,0,0⟩ [.str n,.sl (a.map ag),.str r]=some (0,[.str n,.str r,.sl (a.map ag)]):=by
 rw[e221_0_0];have:=Ad (a.map ag) (by rw[B6];omega)
 simp only[this,nv0,nvS,dvI,dvB,dvS,dvL,B5]
theorem r157(so:aa)(ops:List OpM)(ho:qg ops)(s:ByteArray):rn ⟨157,0,0⟩ [.sl so,.sl (ops.map OpM.row),.str s]=some (0,kv (eg ops s)):=by
 have hm:=ho.l;have hl:∀ n i,i+n=ops.length->rn ⟨157,0,1⟩ [.str s,.sl (ops.map OpM.row),.int (ops.length:Int),.int (i:Int),.str e0,.str e0,.sl []]=match (ops.drop i).find? (fun o=>decide (o.n=s)) with |some o=>some (1,[.str o.n,.str o.r,.sl (o.a.map ag)]) |none=>some (0,[.str e0,.str e0,.sl []]):=by
  intro n;induction n with
  |zero =>
   intro i hi;obtain rfl:i=ops.length:=by omega
   rw[e157_0_1];simp only[B6,C1,D3,H4,H2,C6,S3]
  |succ n ih =>
   intro i hi;have hlt:i<ops.length:=by omega
   rw[e157_0_1,B8 hlt];have h1:=r221 ops[i].n ops[i].a ops[i].r (ho.a _ (C0 hlt));simp only[B6,C1,hlt,H3,H1,aq,B7,ab hlt,ae hlt (ba (by omega)),OpM.row,nv0,nvS,dvI,dvB,dvS,dvL,B5,P3,ih (i+1) (by omega),h1]
   by_cases hq:ops[i].n=s<;>simp[hq]
 have h:=hl ops.length 0 (by omega)
 rw[D2] at h;simp only[C3] at h;rw[e157_0_0];simp only[B6,r181,nv0,nvS,dvI,dvB,dvS,dvL,B5,h];unfold eg;cases isB s with
 |true=>rfl
 |false =>
  cases ops.find? (fun o=>decide (o.n=s))<;>rfl
theorem r106(so:aa)(ops:List OpM)(ho:qg ops)(s:ByteArray):rn ⟨106,0,0⟩ [.sl so,.sl (ops.map OpM.row),.str s]=some (0,kv (eg ops s)):=by
 have hm:=ho.l;have hl:∀ n i,i+n=ops.length->rn ⟨106,0,1⟩ [.str s,.int (i:Int),.sl so,.sl (ops.map OpM.row),.str e0,.str e0,.sl []]=match (ops.drop i).find? (fun o=>decide (o.n=s)) with |some o=>some (1,[.str o.n,.str o.r,.sl (o.a.map ag)]) |none=>some (0,[.str e0,.str e0,.sl []]):=by
  intro n;induction n with
  |zero =>
   intro i hi;obtain rfl:i=ops.length:=by omega
   rw[e106_0_1];simp only[B6,C1,D3,H4,H2,C6,S3]
  |succ n ih =>
   intro i hi;have hlt:i<ops.length:=by omega
   rw[e106_0_1,B8 hlt];have h1:ops[i].a.length<=1048576:=ho.a _ (C0 hlt);have h2:F5 (0+ops[i].a.length) M63=true:=nb (by omega)
   simp only[B6,C1,hlt,H3,H1,aq,B7,ab hlt,ae hlt (ba (by omega)),OpM.row,nv0,nvS,dvI,dvB,dvS,dvL,B5,P3,ih (i+1) (by omega),C5,h2,D8]
   by_cases hq:ops[i].n=s<;>simp[hq]
 have h:=hl ops.length 0 (by omega)
 rw[D2] at h;simp only[C3] at h;rw[e106_0_0];simp only[B6,r111,nv0,nvS,dvI,dvB,dvS,dvL,B5,h];unfold eg;cases isB s with
 |true=>rfl
 |false =>
  cases ops.find? (fun o=>decide (o.n=s))<;>rfl
theorem r96(so:aa)(ops:List OpM)(ho:qg ops)(vs:List VS)(hv:vs.length<=1099511627776):∀ t:Tm,Wt t->rn ⟨96,0,0⟩ [.sl so,.sl (ops.map OpM.row),.int t.k,.int t.n,.str t.s,.sl (t.as.map Tm.row),.sl (vs.map VS.row)]=some (0,[.str (ay ops vs t)]):=Tm.ind fun t ih h=>by
 have hlm:=h.l;have hvl:∀ n i,i+n=vs.length->rn ⟨96,0,2⟩ [.sl (vs.map VS.row),.int (vs.length:Int),.int (i:Int),.int t.k,.int t.n,.str t.s,.sl (t.as.map Tm.row)]=match (vs.drop i).find? (fun v=>decide (v.1=t.s)) with |some v=>some (1,[.str v.2]) |none=>some (0,[]):=by
  intro n;induction n with
  |zero =>
   intro i hi;obtain rfl:i=vs.length:=by omega
   rw[e96_0_2];simp only[B6,C1,D3,H4,H2,C6,S3]
  |succ n ih2 =>
   intro i hi;have hlt:i<vs.length:=by omega
   rw[e96_0_2,B8 hlt];simp only[B6,C1,hlt,H3,H1,aq,B7,ab hlt,ae hlt (ba hv),VS.row,nv0,nvS,dvI,dvB,dvS,dvL,B5,P3,ih2 (i+1) (by omega)]
   by_cases hq:vs[i].1=t.s<;>simp[hq]
 have hal:∀ o:OpM,o.a.length=t.as.length->∀ n i,i+n=t.as.length->rn ⟨96,0,4⟩ [.sl (vs.map VS.row),.sl (t.as.map Tm.row),.int (t.as.length:Int),.int (i:Int),.sl so,.sl (ops.map OpM.row),.str o.n,.str o.r,.sl (o.a.map ag)]=bif bq ops vs (t.as.drop i) (o.a.drop i) then some (0,[.str o.n,.str o.r,.sl (o.a.map ag)]) else some (1,[.str e0]):=by
  intro o hlen n;induction n with
  |zero =>
   intro i hi;obtain rfl:i=t.as.length:=by omega
   rw[e96_0_4];simp only[B6,C1,D3,H4,H2,C6,bq,H1]
  |succ n ih2 =>
   intro i hi;have hlt:i<t.as.length:=by omega
   have hlo:i<o.a.length:=by omega
   have h1:=ih _ (C0 hlt) (h.sub (C0 hlt));rw[e96_0_4,B8 hlt,B8 hlo];simp only[B6,C1,hlt,H3,H1,aq,B7,ab hlt,ae hlt hlm,hlo,ab hlo,Tm.row_eq,ag,nv0,nvS,dvI,dvB,dvS,dvL,B5,ih2 (i+1) (by omega),h1,bq]
   by_cases hq:ay ops vs t.as[i]=e0
   ·simp[hq]
   ·by_cases hq2:ay ops vs t.as[i]=o.a[i]
    ·have hq3:=hq;rw[hq2] at hq3
     simp[hq2,hq3]
    ·simp[hq,hq2]
 have hv0:=hvl vs.length 0 (by omega)
 have ha0:=fun o ho=>hal o ho t.as.length 0 (by omega)
 simp only[D2,C3] at hv0 ha0;rw[e96_0_0,cw];by_cases h3:t.k=3
 ·simp[h3]
 ·by_cases h1:t.k=1
  ·rw[H6 h3,H5 h1]
   simp only[h1] at hv0;simp only[B6,hv0,h1,H3,H1];unfold sc;cases vs.find? (fun v=>decide (v.1=t.s))<;>rfl
  ·rw[H6 h3,H6 h1]
   by_cases h2:t.k=2
   ·rw[H5 h2]
    simp only[B6,h2,H3,H1,if_true,r157 so ops ho,nv0,nvS,dvI,dvB,dvS,dvL,B5];cases hf:eg ops t.s with
    |none=>rfl
    |some o =>
     by_cases hlen:o.a.length=t.as.length
     ·simp only[kv,nv0,nvS,dvI,dvB,dvS,dvL,B5,B6,hlen,H3,ha0 o hlen]
      cases bq ops vs t.as o.a<;>rfl
     ·simp only[kv,nv0,nvS,dvI,dvB,dvS,dvL,B5,B6]
      have:¬((o.a.length:Int)=(t.as.length:Int)):=by omega
      simp[this,hlen]
   ·simp[h1,h2,h3]
theorem r105(vs:List VS)(hv:vs.length<=1099511627776)(s:ByteArray):rn ⟨105,0,0⟩ [.sl (vs.map VS.row),.str s]=some (0,[.str (sc vs s)]):=by
 have hvl:∀ n i,i+n=vs.length->rn ⟨105,0,1⟩ [.sl (vs.map VS.row),.str s,.int (i:Int)]=match (vs.drop i).find? (fun v=>decide (v.1=s)) with |some v=>some (1,[.str v.2]) |none=>some (0,[]):=by
  intro n;induction n with
  |zero =>
   intro i hi;obtain rfl:i=vs.length:=by omega
   rw[e105_0_1];simp only[B6,C1,D3,H4,H2,C6,S3]
  |succ n ih2 =>
   intro i hi;have hlt:i<vs.length:=by omega
   rw[e105_0_1,B8 hlt];simp only[B6,C1,hlt,H3,H1,aq,B7,ab hlt,ae hlt (ba hv),VS.row,nv0,nvS,dvI,dvB,dvS,dvL,B5,P3,ih2 (i+1) (by omega)]
   by_cases hq:vs[i].1=s<;>simp[hq]
 have hv0:=hvl vs.length 0 (by omega)
 simp only[D2,C3] at hv0;rw[e105_0_0];rw[hv0];unfold sc;cases vs.find? (fun v=>decide (v.1=s))<;>rfl
theorem r64(so:aa)(ops:List OpM)(ho:qg ops)(vs:List VS)(hv:vs.length<=1099511627776):∀ t:Tm,Wt t->rn ⟨64,0,0⟩ [.sl so,.sl (ops.map OpM.row),.int t.k,.int t.n,.str t.s,.sl (t.as.map Tm.row),.sl (vs.map VS.row)]=some (0,[.str (ay ops vs t)]):=Tm.ind fun t ih h=>by
 have hlm:=h.l;have hal:∀ o:OpM,o.a.length=t.as.length->∀ n i,i+n=t.as.length->rn ⟨64,0,2⟩ [.sl (vs.map VS.row),.int (i:Int),.sl so,.sl (ops.map OpM.row),.int t.k,.int t.n,.str t.s,.sl (t.as.map Tm.row),.str o.n,.str o.r,.sl (o.a.map ag)]=bif bq ops vs (t.as.drop i) (o.a.drop i) then some (0,[.str o.n,.str o.r,.sl (o.a.map ag)]) else some (1,[.str e0]):=by
  intro o hlen n;induction n with
  |zero =>
   intro i hi;obtain rfl:i=t.as.length:=by omega
   rw[e64_0_2];simp only[B6,C1,D3,H4,H2,C6,bq,H1]
  |succ n ih2 =>
   intro i hi;have hlt:i<t.as.length:=by omega
   have hlo:i<o.a.length:=by omega
   have h1:=ih _ (C0 hlt) (h.sub (C0 hlt));rw[e64_0_2,B8 hlt,B8 hlo];simp only[B6,C1,hlt,H3,H1,aq,B7,ab hlt,ae hlt hlm,hlo,ab hlo,Tm.row_eq,ag,nv0,nvS,dvI,dvB,dvS,dvL,B5,ih2 (i+1) (by omega),h1,bq]
   by_cases hq2:ay ops vs t.as[i]=o.a[i]
   ·by_cases hq:o.a[i]=e0
    ·simp[hq2,hq]
    ·simp[hq2,hq]
   ·simp[hq2]
 have ha0:=fun o ho=>hal o ho t.as.length 0 (by omega)
 simp only[D2,C3] at ha0;rw[e64_0_0,cw];by_cases h3:t.k=3
 ·simp[h3]
 ·by_cases h1:t.k=1
  ·rw[H6 h3,H5 h1]
   simp only[h1,H3,H1,r105 vs hv,nv0,nvS,dvI,dvB,dvS,dvL,B5];rfl
  ·rw[H6 h3,H6 h1]
   by_cases h2:t.k=2
   ·rw[H5 h2]
    simp only[h2,H3,H1,if_true,r106 so ops ho,nv0,nvS,dvI,dvB,dvS,dvL,B5];cases hf:eg ops t.s with
    |none=>rfl
    |some o =>
     by_cases hlen:o.a.length=t.as.length
     ·have:=ha0 o hlen
      rw[h2] at this;simp only[kv,nv0,nvS,dvI,dvB,dvS,dvL,B5,B6,hlen,H3,this];cases bq ops vs t.as o.a<;>rfl
     ·simp only[kv,nv0,nvS,dvI,dvB,dvS,dvL,B5,B6]
      have:¬((o.a.length:Int)=(t.as.length:Int)):=by omega
      simp[this,hlen]
   ·simp[h1,h2,h3]
theorem af2(so:aa)(ops:List OpM)(ho:qg ops):∀ t:Tm,∀ (x:ByteArray) (vs:List VS),Wt t->vs.length+t.nodes<=4194304->rn ⟨263,1,0⟩ [.sl so,.sl (ops.map OpM.row),.int t.k,.int t.n,.str t.s,.sl (t.as.map Tm.row),.str x,.sl (vs.map VS.row)]=some (0,Dg ops t x vs):=Tm.ind fun t ih x vs h hb=>by
 have hlm:=h.l;have hnd:=Tm.nodes_eq t;have hvl:∀ n i,i+n=vs.length->rn ⟨263,1,1⟩ [.str x,.int (vs.length:Int),.int (i:Int),.sl (vs.map VS.row),.int t.k,.int t.n,.str t.s,.sl (t.as.map Tm.row)]=match (vs.drop i).find? (fun v=>decide (v.1=t.s)) with |some v=>some (1,[.bool (decide (v.2=x)),.sl (vs.map VS.row)]) |none=>some (0,[.str x,.sl (vs.map VS.row),.int t.k,.int t.n,.str t.s,.sl (t.as.map Tm.row)]):=by
  intro n;induction n with
  |zero =>
   intro i hi;obtain rfl:i=vs.length:=by omega
   rw[e263_1_1];simp only[B6,C1,D3,H4,H2,C6,S3]
  |succ n ih2 =>
   intro i hi;have hlt:i<vs.length:=by omega
   rw[e263_1_1,B8 hlt];simp only[B6,C1,hlt,H3,H1,aq,B7,ab hlt,ae hlt (ba (by omega)),VS.row,nv0,nvS,dvI,dvB,dvS,dvL,B5,P3,ih2 (i+1) (by omega)]
   by_cases hq:vs[i].1=t.s<;>simp[hq]
 have hal:∀ (n1 n2:ByteArray) (a:List ByteArray),a.length<=1048576->∀ n i (vs:List VS),i+n=t.as.length->vs.length+((t.as.drop i).map Tm.nodes).sum<=4194304->rn ⟨263,1,3⟩ [.sl (t.as.map Tm.row),.int (t.as.length:Int),.int (i:Int),.sl (vs.map VS.row),.sl so,.sl (ops.map OpM.row),.str n1,.str n2,.sl (a.map ag)]=match fq ops (t.as.drop i) (a.drop i) vs with |some v=>some (0,[.sl (v.map VS.row)]) |none=>some (1,[.sl []]):=by
  intro n1 n2 a hal n;induction n with
  |zero =>
   intro i vs hi hb;obtain rfl:i=t.as.length:=by omega
   rw[e263_1_3];simp only[B6,C1,D3,H4,H2,C6,fq]
  |succ n ih2 =>
   intro i vs hi hb;have hlt:i<t.as.length:=by omega
   have hmem:=C0 hlt;rw[B8 hlt] at hb ⊢;simp only[C4,K1] at hb;rw[e263_1_3];by_cases hla:i<a.length
   ·have h1:=ih _ hmem a[i] vs (h.sub hmem) (by omega)
    rw[B8 hla];simp only[B6,C1,hlt,H3,H1,aq,B7,ab hlt,ae hlt hlm,hla,ab hla,Tm.row_eq,ag,nv0,nvS,dvI,dvB,dvS,dvL,B5,h1,fq,Dg];cases hq:iq ops t.as[i] a[i] vs with
    |none=>rfl
    |some v =>
     have hv:=kw ops _ _ _ _ hq;have h2:=ih2 (i+1) v (by omega) (by omega)
     simp only[nv0,nvS,dvI,dvB,dvS,dvL,B5,h2,D0,H2]
   ·have h1:=ih _ hmem e0 vs (h.sub hmem) (by omega)
    rw[show a.drop i=[] from O4 (by omega)]
    simp only[B6,C1,hlt,H3,H1,aq,B7,ab hlt,ae hlt hlm,hla,H4,H2,Tm.row_eq,ag,nv0,nvS,dvI,dvB,dvS,dvL,B5,h1,fq,Dg];cases hq:iq ops t.as[i] e0 vs with
    |none=>rfl
    |some v =>
     have hv:=kw ops _ _ _ _ hq;have h2:=ih2 (i+1) v (by omega) (by omega)
     rw[show a.drop (i+1)=[] from O4 (by omega)] at h2
     simp only[nv0,nvS,dvI,dvB,dvS,dvL,B5,h2,D0,H2]
 have hv0:=hvl vs.length 0 (by omega)
 have ha0:=fun n1 n2 a ha=>hal n1 n2 a ha t.as.length 0 vs (by omega) (by rw[D2];omega)
 simp only[D2,C3] at hv0 ha0;rw[e263_1_0];unfold Dg;rw[lr];by_cases h1:t.k=1
 ·rw[H5 h1,H5 h1]
  simp only[h1] at hv0;have hb2:F5 (vs.length+1) M63=true:=nb (by omega)
  simp only[B6,h1,H3,H1,hv0];cases hq:vs.find? (fun v=>decide (v.1=t.s)) with
  |none=>simp only[nv0,nvS,dvI,dvB,dvS,dvL,B5,D5,H1,H2,B6,C2,C5,D1,hb2,D6];rfl
  |some v =>
   simp only[nv0,nvS,dvI,dvB,dvS,dvL,B5,D5,H1,H2,show F4 1 0=false from rfl]
   by_cases hq2:v.2=x<;>simp[hq2]
 ·rw[H6 h1,H6 h1]
  by_cases h2:t.k=2
  ·simp only[B6,h2,H3,H1,if_true,r157 so ops ho,nv0,nvS,dvI,dvB,dvS,dvL,B5]
   cases hf:eg ops t.s with
   |none =>
    simp only[kv,nv0,nvS,dvI,dvB,dvS,dvL,B5];rw[show([]:aa)=([]:List ByteArray).map ag from rfl,ha0 e0 e0 [] (by simp)]
    cases fq ops t.as [] vs<;>rfl
   |some o =>
    have hok:o.ok:=By ho.a hf;simp only[kv,nv0,nvS,dvI,dvB,dvS,dvL,B5];rw[ha0 o.n o.r o.a hok];cases fq ops t.as o.a vs<;>rfl
  ·simp only[B6,h1,h2,H4,H2,if_false]
   rw[show([]:aa)=([]:List ByteArray).map ag from rfl,ha0 e0 e0 [] (by simp)]
   cases fq ops t.as [] vs<;>rfl
theorem af3(so:aa)(ops:List OpM)(ho:qg ops):∀ t:Tm,∀ (x:ByteArray) (vs:List VS),Wt t->vs.length+t.nodes<=4194304->rn ⟨252,1,0⟩ [.sl so,.sl (ops.map OpM.row),.int t.k,.int t.n,.str t.s,.sl (t.as.map Tm.row),.str x,.sl (vs.map VS.row)]=some (0,Dg ops t x vs):=Tm.ind fun t ih x vs h hb=>by
 have hlm:=h.l;have hnd:=Tm.nodes_eq t;have hvl:∀ n i,i+n=vs.length->rn ⟨252,1,1⟩ [.str x,.int (i:Int),.sl (vs.map VS.row),.int t.k,.int t.n,.str t.s,.sl (t.as.map Tm.row)]=match (vs.drop i).find? (fun v=>decide (v.1=t.s)) with |some v=>some (1,[.bool (decide (v.2=x)),.sl (vs.map VS.row)]) |none=>some (0,[.str x,.sl (vs.map VS.row),.int t.k,.int t.n,.str t.s,.sl (t.as.map Tm.row)]):=by
  intro n;induction n with
  |zero =>
   intro i hi;obtain rfl:i=vs.length:=by omega
   rw[e252_1_1];simp only[B6,C1,D3,H4,H2,C6,S3]
  |succ n ih2 =>
   intro i hi;have hlt:i<vs.length:=by omega
   rw[e252_1_1,B8 hlt];simp only[B6,C1,hlt,H3,H1,aq,B7,ab hlt,ae hlt (ba (by omega)),VS.row,nv0,nvS,dvI,dvB,dvS,dvL,B5,P3,ih2 (i+1) (by omega)]
   by_cases hq:vs[i].1=t.s<;>simp[hq]
 have hal:∀ (n1 n2:ByteArray) (a:List ByteArray),a.length<=1048576->∀ n i (vs:List VS),i+n=t.as.length->vs.length+((t.as.drop i).map Tm.nodes).sum<=4194304->rn ⟨252,1,3⟩ [.int (i:Int),.sl (vs.map VS.row),.sl so,.sl (ops.map OpM.row),.int t.k,.int t.n,.str t.s,.sl (t.as.map Tm.row),.str n1,.str n2,.sl (a.map ag)]=match fq ops (t.as.drop i) (a.drop i) vs with |some v=>some (0,[.sl (v.map VS.row)]) |none=>some (1,[.sl []]):=by
  intro n1 n2 a hal n;induction n with
  |zero =>
   intro i vs hi hb;obtain rfl:i=t.as.length:=by omega
   rw[e252_1_3];simp only[B6,C1,D3,H4,H2,C6,fq]
  |succ n ih2 =>
   intro i vs hi hb;have hlt:i<t.as.length:=by omega
   have hmem:=C0 hlt;rw[B8 hlt] at hb ⊢;simp only[C4,K1] at hb;rw[e252_1_3];by_cases hla:i<a.length
   ·have h1:=ih _ hmem a[i] vs (h.sub hmem) (by omega)
    rw[B8 hla];simp only[B6,C1,hlt,H3,H1,aq,B7,ab hlt,ae hlt hlm,hla,ab hla,Tm.row_eq,ag,nv0,nvS,dvI,dvB,dvS,dvL,B5,h1,fq,Dg];cases hq:iq ops t.as[i] a[i] vs with
    |none=>rfl
    |some v =>
     have hv:=kw ops _ _ _ _ hq;have h2:=ih2 (i+1) v (by omega) (by omega)
     simp only[nv0,nvS,dvI,dvB,dvS,dvL,B5,h2,D0,H2]
   ·have h1:=ih _ hmem e0 vs (h.sub hmem) (by omega)
    rw[show a.drop i=[] from O4 (by omega)]
    simp only[B6,C1,hlt,H3,H1,aq,B7,ab hlt,ae hlt hlm,hla,H4,H2,Tm.row_eq,ag,nv0,nvS,dvI,dvB,dvS,dvL,B5,h1,fq,Dg];cases hq:iq ops t.as[i] e0 vs with
    |none=>rfl
    |some v =>
     have hv:=kw ops _ _ _ _ hq;have h2:=ih2 (i+1) v (by omega) (by omega)
     rw[show a.drop (i+1)=[] from O4 (by omega)] at h2
     simp only[nv0,nvS,dvI,dvB,dvS,dvL,B5,h2,D0,H2]
 have hv0:=hvl vs.length 0 (by omega)
 have ha0:=fun n1 n2 a ha=>hal n1 n2 a ha t.as.length 0 vs (by omega) (by rw[D2];omega)
 simp only[D2,C3] at hv0 ha0;rw[e252_1_0];unfold Dg;rw[lr];by_cases h1:t.k=1
 ·rw[H5 h1,H5 h1]
  simp only[h1] at hv0;have hb2:F5 (vs.length+1) M63=true:=nb (by omega)
  simp only[B6,h1,H3,H1,hv0];cases hq:vs.find? (fun v=>decide (v.1=t.s)) with
  |none=>simp only[nv0,nvS,dvI,dvB,dvS,dvL,B5,D5,H1,H2,B6,C2,C5,D1,hb2,D6];rfl
  |some v =>
   simp only[nv0,nvS,dvI,dvB,dvS,dvL,B5,D5,H1,H2,show F4 1 0=false from rfl]
   by_cases hq2:v.2=x<;>simp[hq2]
 ·rw[H6 h1,H6 h1]
  by_cases h2:t.k=2
  ·simp only[h2] at ha0
   simp only[B6,h2,H3,H1,if_true,r106 so ops ho,nv0,nvS,dvI,dvB,dvS,dvL,B5];cases hf:eg ops t.s with
   |none =>
    simp only[kv,nv0,nvS,dvI,dvB,dvS,dvL,B5];rw[show([]:aa)=([]:List ByteArray).map ag from rfl,ha0 e0 e0 [] (by simp)]
    cases fq ops t.as [] vs<;>rfl
   |some o =>
    have hok:o.ok:=By ho.a hf;simp only[kv,nv0,nvS,dvI,dvB,dvS,dvL,B5];rw[ha0 o.n o.r o.a hok];cases fq ops t.as o.a vs<;>rfl
  ·simp only[B6,h1,h2,H4,H2,if_false]
   rw[show([]:aa)=([]:List ByteArray).map ag from rfl,ha0 e0 e0 [] (by simp)]
   cases fq ops t.as [] vs<;>rfl
theorem r247(so:aa)(ops:List OpM)(ho:qg ops)(t:Tm)(h:Wt t)(hn:t.nodes<=1048577)(x:ByteArray):rn ⟨247,0,0⟩ [.sl so,.sl (ops.map OpM.row),.int t.k,.int t.n,.str t.s,.sl (t.as.map Tm.row),.str x]=some (0,vu (qh ops t x)):=by
 have h1:=af2 so ops ho t x [] h (by simp;omega)
 rw[D4] at h1;rw[e247_0_0,h1];unfold Dg qh;cases hq:iq ops t x [] with
 |none=>rfl
 |some vs =>
  have hv:=kw ops _ _ _ _ hq;rw[C5] at hv;have h2:=r96 so ops ho vs (by omega) t h
  simp only[nv0,nvS,dvI,dvB,dvS,dvL,B5,h2];by_cases hx:x=e0
  ·simp[hx,vu]
  ·by_cases hs:ay ops vs t=x<;>simp[hx,hs,vu]
theorem r224(so:aa)(ops:List OpM)(ho:qg ops)(t:Tm)(h:Wt t)(hn:t.nodes<=1048577)(x:ByteArray):rn ⟨224,0,0⟩ [.sl so,.sl (ops.map OpM.row),.int t.k,.int t.n,.str t.s,.sl (t.as.map Tm.row),.str x]=some (0,vu (qh ops t x)):=by
 have h1:=af3 so ops ho t x [] h (by simp;omega)
 rw[D4] at h1;rw[e224_0_0,h1];unfold Dg qh;cases hq:iq ops t x [] with
 |none=>rfl
 |some vs =>
  have hv:=kw ops _ _ _ _ hq;rw[C5] at hv;have h2:=r64 so ops ho vs (by omega) t h
  simp only[nv0,nvS,dvI,dvB,dvS,dvL,B5,h2];by_cases hx:x=e0
  ·simp[hx,vu]
  ·by_cases hs:ay ops vs t=x<;>simp[hx,hs,vu]
def Hk(so:List ByteArray)(o:OpM):Bool:=ku o.n&&(!isB o.n&&(decide (o.a.length<=3)&&(o.a.all (fun x=>decide (x=dh)||ju so x)&&(decide (o.r=dh)||ju so o.r))))
theorem Kv(so:List ByteArray)(ops:List OpM):Bz so ops=(decide (so.length<=4)&&(dis so&&(decide (ops.length<=16)&&((so.all fun x=>ku x&&!decide (x=dh))&&(ops.all (Hk so)&&dis (ops.map (·.n))))))):=rfl
theorem r211(so:List ByteArray)(hso:so.length<=1048576)(hss:∀ x∈so,x.size<=maxLen)(ops:List OpM)(ho:qg ops)(hon:∀ o∈ops,o.n.size<=maxLen):rn ⟨211,0,0⟩ [.sl (so.map ag),.sl (ops.map OpM.row)]=some (0,[.bool (Bz so ops)]):=by
 have hm:=ho.l;have hl1:∀ n i,i+n=so.length->rn ⟨211,0,1⟩ [.sl (so.map ag),.int (so.length:Int),.int (i:Int),.sl (so.map ag),.sl (ops.map OpM.row)]=bif (so.drop i).all (fun x=>ku x&&!decide (x=dh)) then some (0,[.sl (so.map ag),.sl (ops.map OpM.row)]) else some (1,[]):=by
  intro n;induction n with
  |zero =>
   intro i hi;obtain rfl:i=so.length:=by omega
   rw[e211_0_1];simp only[B6,C1,D3,H4,H2,C6,K8,H1]
  |succ n ih =>
   intro i hi;have hlt:i<so.length:=by omega
   rw[e211_0_1,B8 hlt];have h1:=r244 so[i] (hss _ (C0 hlt));simp only[B6,C1,hlt,H3,H1,aq,B7,ab hlt,ae hlt (ba (by omega)),ag,nv0,nvS,dvI,dvB,dvS,dvL,B5,h1,ih (i+1) (by omega),J2]
   cases ku so[i]
   ·rfl
   ·by_cases hq:so[i]=dh<;>simp[hq]
 have hl5:∀ (o:OpM),o.a.length<=1048576->∀ (x0:aa) (x1 x2:Int) (x3:ByteArray) (x4:Bool) (x5:aa) (x6:Int) (x7:Bool) (x11 x12:aa) (x13:ByteArray) (x14:aa) (x15:ByteArray),∀ n i,i+n=(o.a++[o.r]).length->rn ⟨211,0,5⟩ [.sl x0,.int x1,.int x2,.str x3,.bool x4,.sl x5,.int x6,.bool x7,.int ((o.a++[o.r]).length:Int),.int (i:Int),.sl (so.map ag),.sl x11,.sl x12,.str x13,.sl x14,.str x15,.sl ((o.a++[o.r]).map ag)]=bif ((o.a++[o.r]).drop i).all (fun x=>decide (x=dh)||ju so x) then some (0,[.sl x0,.int x1,.int x2,.str x3,.bool x4,.sl x5,.int x6,.bool x7,.sl (so.map ag),.sl x11,.sl x12,.str x13,.sl x14,.str x15]) else some (1,[]):=by
  intro o hoa x0 x1 x2 x3 x4 x5 x6 x7 x11 x12 x13 x14 x15;have hL:(o.a++[o.r]).length<=1048577:=by simp;omega
  generalize o.a++[o.r]=l at hL ⊢;intro n;induction n with
  |zero =>
   intro i hi;obtain rfl:i=l.length:=by omega
   rw[e211_0_5];simp only[B6,C1,D3,H4,H2,C6,K8,H1]
  |succ n ih =>
   intro i hi;have hlt:i<l.length:=by omega
   rw[e211_0_5,B8 hlt];have h1:=Vb so (ba (by omega)) l[i]
   simp only[B6,C1,hlt,H3,H1,aq,B7,ab hlt,ae hlt (ba (by omega)),ag,nv0,nvS,dvI,dvB,dvS,dvL,B5,h1,ih (i+1) (by omega),J2]
   by_cases hq:l[i]=dh
   ·simp[hq]
   ·cases ju so l[i]<;>simp[hq]
 have hl3:∀ n i (acc:List ByteArray),i+n=ops.length->acc.length<=i->rn ⟨211,0,3⟩ [.sl (ops.map OpM.row),.int (ops.length:Int),.int (i:Int),.sl (so.map ag),.sl (ops.map OpM.row),.sl (acc.map ag)]=bif (ops.drop i).all (Hk so) then some (0,[.sl ((acc++(ops.drop i).map (·.n)).map ag)]) else some (1,[]):=by
  intro n;induction n with
  |zero =>
   intro i acc hi ha;obtain rfl:i=ops.length:=by omega
   rw[e211_0_3];simp only[B6,C1,D3,H4,H2,C6,K8,H1,D4,G5]
  |succ n ih =>
   intro i acc hi ha;have hlt:i<ops.length:=by omega
   have hmem:=C0 hlt;rw[e211_0_3,B8 hlt];have h1:=r244 ops[i].n (hon _ hmem);have hoa:ops[i].a.length<=1048576:=ho.a _ hmem;have h2:=Ad (ops[i].a.map ag) (by rw[B6];omega)
   have hb:F5 (ops[i].a.length+1) M63=true:=nb (by omega)
   have hb2:F5 (acc.length+1) M63=true:=nb (by omega)
   have h5:=fun x0 x1 x2 x3 x4 x5 x6 x7 x11 x12 x13 x14 x15=>hl5 ops[i] hoa x0 x1 x2 x3 x4 x5 x6 x7 x11 x12 x13 x14 x15 (ops[i].a++[ops[i].r]).length 0 (by omega)
   simp only[D2,C3,E6,C2,C5,D1,D6,C4,D4,ag] at h5;have h6:=ih (i+1) (acc++[ops[i].n]) (by omega) (by simp;omega)
   simp only[D6,C4,D4,ag] at h6;simp only[B6,C1,hlt,H3,H1,aq,B7,ab hlt,ae hlt (ba (by omega)),OpM.row,nv0,nvS,dvI,dvB,dvS,dvL,B5,h1,r181,h2,C2,C5,D1,hb,E6,J2]
   rw[show Hk so ops[i]=(ku ops[i].n&&(!isB ops[i].n&&(decide (ops[i].a.length<=3)&&(ops[i].a.all (fun x=>decide (x=dh)||ju so x)&&(decide (ops[i].r=dh)||ju so ops[i].r))))) from rfl]
   cases ku ops[i].n
   ·rfl
   ·cases isB ops[i].n
    ·by_cases h3:ops[i].a.length<=3
     ·have h3':¬((3:Int)<(ops[i].a.length:Int)):=by omega
      simp only[h3,h3',H3,H4,H1,H2,D0,G7,D9];rw[h5,List.all_append];simp only[J2,K8,K9];cases (ops[i].a.all (fun x=>decide (x=dh)||ju so x)&&(decide (ops[i].r=dh)||ju so ops[i].r)) with
      |false=>rfl
      |true =>
       simp only[H1,nv0,nvS,dvI,dvB,dvS,dvL,B5,D5,H1,H2,B6,hb2,ae hlt (ba (by omega)),h6,D9]
       simp only[D6,C4,E2,F2,D8,ag]
     ·have h3':((3:Int)<(ops[i].a.length:Int)):=by omega
      simp[h3,h3']
    ·rfl
 have h1:=hl1 so.length 0 (by omega)
 have h3:=hl3 ops.length 0 [] (by omega) (G9 _)
 simp only[D2,C3,D4,D8] at h1 h3;have hd:=r153 so (by omega)
 have hd2:=r153 (ops.map (·.n)) (by rw[B6];omega)
 rw[e211_0_0,Kv];simp only[B6,hd,nv0,nvS,dvI,dvB,dvS,dvL,B5];by_cases hs:so.length<=4
 ·have hs':¬((4:Int)<(so.length:Int)):=by omega
  simp only[hs,hs',H3,H4,H2,D9];cases dis so
  ·rfl
  ·by_cases hs2:ops.length<=16
   ·have hs2':¬((16:Int)<(ops.length:Int)):=by omega
    simp only[hs2,hs2',H3,H4,H2,D9,D0,h1];cases so.all (fun x=>ku x&&!decide (x=dh))
    ·rfl
    ·simp only[H1,nv0,nvS,dvI,dvB,dvS,dvL,B5,D5,H1,H2,B6,h3,D9]
     cases ops.all (Hk so)
     ·rfl
     ·simp only[H1,nv0,nvS,dvI,dvB,dvS,dvL,B5,D5,H1,H2,hd2,D9]
   ·have hs2':((16:Int)<(ops.length:Int)):=by omega
    simp[hs2,hs2']
 ·have hs':((4:Int)<(so.length:Int)):=by omega
  simp[hs,hs']
theorem r253(so:List ByteArray)(hso:so.length<=1048576)(ops:aa)(x:ByteArray):rn ⟨253,0,0⟩ [.sl (so.map ag),.sl ops,.str x]=some (0,[.bool (decide (x=dh)||ju so x)]):=by
 have h1:=r167 so (ba (by omega)) x
 rw[e253_0_0];simp only[h1,nv0,nvS,dvI,dvB,dvS,dvL,B5,Hj];by_cases hq:x=dh<;>simp[hq]
theorem r225(so:List ByteArray)(hso:so.length<=1048576)(ops:aa)(o:OpM)(hoa:o.a.length<=1048576)(hon:o.n.size<=maxLen):rn ⟨225,0,0⟩ [.sl (so.map ag),.sl ops,.str o.n,.sl (o.a.map ag),.str o.r]=some (0,[.bool (Hk so o)]):=by
 have hl:∀ n i,i+n=o.a.length->rn ⟨225,0,1⟩ [.int (i:Int),.sl (so.map ag),.sl ops,.str o.n,.sl (o.a.map ag),.str o.r]=bif (o.a.drop i).all (fun x=>decide (x=dh)||ju so x) then some (0,[.sl (so.map ag),.sl ops,.str o.n,.sl (o.a.map ag),.str o.r]) else some (1,[]):=by
  intro n;induction n with
  |zero =>
   intro i hi;obtain rfl:i=o.a.length:=by omega
   rw[e225_0_1];simp only[B6,C1,D3,H4,H2,C6,K8,H1]
  |succ n ih =>
   intro i hi;have hlt:i<o.a.length:=by omega
   rw[e225_0_1,B8 hlt];have h1:=r253 so hso ops o.a[i];simp only[B6,C1,hlt,H3,H1,aq,B7,ab hlt,ae hlt (ba (by omega)),ag,nv0,nvS,dvI,dvB,dvS,dvL,B5,h1,ih (i+1) (by omega),J2]
   cases (decide (o.a[i]=dh)||ju so o.a[i])<;>rfl
 have h:=hl o.a.length 0 (by omega)
 simp only[D2,C3] at h;have hn:=r222 o.n hon;rw[e225_0_0,h];unfold Hk;cases (o.a.all fun x=>decide (x=dh)||ju so x) with
 |false=>cases ku o.n<;>cases isB o.n<;>cases decide (o.a.length<=3)<;>rfl
 |true =>
  have i3:((o.a.length:Int)<=3)↔o.a.length<=3:=by omega
  simp only[H1,nv0,nvS,dvI,dvB,dvS,dvL,B5,D5,H1,H2,hn,r111,r253 so hso ops,B6,i3,D9];cases ku o.n<;>cases isB o.n<;>cases decide (o.a.length<=3)<;>rfl
theorem r160(so:List ByteArray)(hso:so.length<=1048576)(hss:∀ x∈so,x.size<=maxLen)(ops:List OpM)(ho:qg ops)(hon:∀ o∈ops,o.n.size<=maxLen):rn ⟨160,0,0⟩ [.sl (so.map ag),.sl (ops.map OpM.row)]=some (0,[.bool (Bz so ops)]):=by
 have hm:=ho.l;have hl1:∀ n i,i+n=so.length->rn ⟨160,0,1⟩ [.int (i:Int),.sl (so.map ag),.sl (ops.map OpM.row),.sl []]=bif (so.drop i).all (fun x=>ku x&&!decide (x=dh)) then some (0,[.sl (so.map ag),.sl (ops.map OpM.row),.sl []]) else some (1,[]):=by
  intro n;induction n with
  |zero =>
   intro i hi;obtain rfl:i=so.length:=by omega
   rw[e160_0_1];simp only[B6,C1,D3,H4,H2,C6,K8,H1]
  |succ n ih =>
   intro i hi;have hlt:i<so.length:=by omega
   rw[e160_0_1,B8 hlt];have h1:=r222 so[i] (hss _ (C0 hlt));simp only[B6,C1,hlt,H3,H1,aq,B7,ab hlt,ae hlt (ba (by omega)),ag,nv0,nvS,dvI,dvB,dvS,dvL,B5,h1,ih (i+1) (by omega),J2]
   cases ku so[i]
   ·rfl
   ·by_cases hq:so[i]=dh<;>simp[hq]
 have hl3:∀ n i (acc:List ByteArray),i+n=ops.length->acc.length<=i->rn ⟨160,0,3⟩ [.int (i:Int),.sl (so.map ag),.sl (ops.map OpM.row),.sl (acc.map ag)]=bif (ops.drop i).all (Hk so) then some (0,[.sl (so.map ag),.sl (ops.map OpM.row),.sl ((acc++(ops.drop i).map (·.n)).map ag)]) else some (1,[]):=by
  intro n;induction n with
  |zero =>
   intro i acc hi ha;obtain rfl:i=ops.length:=by omega
   rw[e160_0_3];simp only[B6,C1,D3,H4,H2,C6,K8,H1,D4,G5]
  |succ n ih =>
   intro i acc hi ha;have hlt:i<ops.length:=by omega
   have hmem:=C0 hlt;rw[e160_0_3,B8 hlt];have h1:=r225 so hso (ops.map OpM.row) ops[i] (ho.a _ hmem) (hon _ hmem);have hb2:F5 (acc.length+1) M63=true:=nb (by omega)
   have h6:=ih (i+1) (acc++[ops[i].n]) (by omega) (by simp;omega)
   simp only[D6,C4,D4,ag] at h6;simp only[B6,C1,hlt,H3,H1,aq,B7,ab hlt,ae hlt (ba (by omega)),OpM.row,nv0,nvS,dvI,dvB,dvS,dvL,B5,h1,C2,C5,D1,hb2,h6,J2]
   cases Hk so ops[i] with
   |false=>rfl
   |true=>simp only[D6,C4,E2,F2,D8,ag,D0,H2,H1,D9]
 have h1:=hl1 so.length 0 (by omega)
 have h3:=hl3 ops.length 0 [] (by omega) (G9 _)
 simp only[D2,C3,D4,D8] at h1 h3;have hd:=r161 so (ba (by omega))
 have hd2:=r161 (ops.map (·.n)) (by rw[B6];exact ba (by omega))
 rw[e160_0_0,Kv,h1];have i1:((so.length:Int)<=4)↔so.length<=4:=by omega
 have i2:((ops.length:Int)<=16)↔ops.length<=16:=by omega
 cases so.all (fun x=>ku x&&!decide (x=dh)) with
 |false=>cases decide (so.length<=4)<;>cases dis so<;>cases decide (ops.length<=16)<;>rfl
 |true =>
  simp only[H1,nv0,nvS,dvI,dvB,dvS,dvL,B5,D5,H1,H2,h3,D9];cases ops.all (Hk so) with
  |false=>cases decide (so.length<=4)<;>cases dis so<;>cases decide (ops.length<=16)<;>rfl
  |true =>
   simp only[H1,nv0,nvS,dvI,dvB,dvS,dvL,B5,D5,H1,H2,B6,hd,hd2,i1,i2,D9];cases decide (so.length<=4)<;>cases dis so<;>cases decide (ops.length<=16)<;>rfl
theorem r246:∀ t:Tm,Wt t->rn ⟨246,0,0⟩ [.int t.k,.int t.n,.str t.s,.sl (t.as.map Tm.row)]=some (0,[.bool (sd t)]):=Tm.ind fun t ih h=>by
 have hlm:=h.l;have hl:∀ n i,i+n=t.as.length->rn ⟨246,0,1⟩ [.sl (t.as.map Tm.row),.int (t.as.length:Int),.int (i:Int)]=bif kx (t.as.drop i) then some (0,[]) else some (1,[]):=by
  intro n;induction n with
  |zero =>
   intro i hi;obtain rfl:i=t.as.length:=by omega
   rw[e246_0_1];simp only[B6,C1,D3,H4,H2,C6,kx,H1]
  |succ n ih2 =>
   intro i hi;have hlt:i<t.as.length:=by omega
   rw[e246_0_1,B8 hlt];have h1:=ih _ (C0 hlt) (h.sub (C0 hlt));simp only[B6,C1,hlt,H3,H1,aq,B7,ab hlt,ae hlt hlm,Tm.row_eq,nv0,nvS,dvI,dvB,dvS,dvL,B5,h1,ih2 (i+1) (by omega),kx]
   cases sd t.as[i]<;>simp
 have h0:=hl t.as.length 0 (by omega)
 simp only[D2,C3] at h0;rw[e246_0_0,Jl];simp only[B6,h0,r181,nv0,nvS,dvI,dvB,dvS,dvL,B5];by_cases h2:t.k=2<;>cases isB t.s<;>cases kx t.as<;>simp[h2]<;>rfl
theorem r223:∀ t:Tm,Wt t->rn ⟨223,0,0⟩ [.int t.k,.int t.n,.str t.s,.sl (t.as.map Tm.row)]=some (0,[.bool (!sd t)]):=Tm.ind fun t ih h=>by
 have hlm:=h.l;have hl:∀ n i,i+n=t.as.length->rn ⟨223,0,1⟩ [.int (i:Int),.int t.k,.int t.n,.str t.s,.sl (t.as.map Tm.row)]=bif kx (t.as.drop i) then some (0,[.int t.k,.int t.n,.str t.s,.sl (t.as.map Tm.row)]) else some (1,[]):=by
  intro n;induction n with
  |zero =>
   intro i hi;obtain rfl:i=t.as.length:=by omega
   rw[e223_0_1];simp only[B6,C1,D3,H4,H2,C6,kx,H1]
  |succ n ih2 =>
   intro i hi;have hlt:i<t.as.length:=by omega
   rw[e223_0_1,B8 hlt];have h1:=ih _ (C0 hlt) (h.sub (C0 hlt));simp only[B6,C1,hlt,H3,H1,aq,B7,ab hlt,ae hlt hlm,Tm.row_eq,nv0,nvS,dvI,dvB,dvS,dvL,B5,h1,ih2 (i+1) (by omega),kx]
   cases sd t.as[i]<;>simp
 have h0:=hl t.as.length 0 (by omega)
 simp only[D2,C3] at h0;rw[e223_0_0,Jl,h0];cases kx t.as with
 |false=>cases (!(decide (t.k=2)&&isB t.s))<;>rfl
 |true =>
  simp only[H1,nv0,nvS,dvI,dvB,dvS,dvL,B5,D5,H1,H2,r111];by_cases h2:t.k=2<;>cases isB t.s<;>simp[h2]
theorem r156(t:Tm)(h:t.nodes<=1048577)(ns:List ByteArray)(hn:ns.length<=maxLen):rn ⟨156,0,0⟩ [.int t.k,.int t.n,.str t.s,.sl (t.as.map Tm.row),.sl (ns.map ag)]=some (0,[.bool (ge t ns)]):=by
 have h1:=r220 t h;have h2:=r219 t.names ns (by have:=br t;omega) hn
 rw[e156_0_0];simp only[h1,nv0,nvS,dvI,dvB,dvS,dvL,B5,h2,B6];have h3:=Me t.names ns;have i1:(((wo t.names ns).length:Int)=0)↔(wo t.names ns).length=0:=by omega
 simp only[i1];rw[h3];rfl
theorem r102(t:Tm)(h:t.nodes<=1048577):rn ⟨102,0,0⟩ [.int t.k,.int t.n,.str t.s,.sl (t.as.map Tm.row)]=some (0,[.sl ((bx t.names).map ag)]):=by
 have hn:=br t;have h1:=r169 t [] h (by simp;omega)
 have h2:=r168 t.names (by omega)
 rw[e102_0_0];rw[D8] at h1;simp only[h1,nv0,nvS,dvI,dvB,dvS,dvL,B5,h2]
theorem r158(k:Int):rn ⟨158,0,0⟩ [.int k]=some (0,[.bool (decide (1<=k)&&decide (k<=3))]):=by
 rw[e158_0_0];cases decide (1<=k)<;>rfl
theorem r97(so:aa)(ops:List OpM)(ho:qg ops)(vs:List VS)(hv:vs.length<=1099511627776)(ns:List ByteArray)(hn:ns.length<=maxLen)(hvn:∀ v∈vs,v.1∈ns)(gs:List Gu)(hg:gs.length<=1048576)(hgb:∀ g∈gs,GuB g):rn ⟨97,0,0⟩ [.sl so,.sl (ops.map OpM.row),.sl (gs.map Gu.row),.sl (vs.map VS.row),.sl (ns.map ag)]=some (0,[.bool (zb ops vs gs)]):=by
 have hl:∀ n i,i+n=gs.length->rn ⟨97,0,1⟩ [.sl (gs.map Gu.row),.sl (vs.map VS.row),.sl (ns.map ag),.sl (gs.map Gu.row),.int (gs.length:Int),.int (i:Int),.sl so,.sl (ops.map OpM.row)]=bif (gs.drop i).all (rx ops vs) then some (0,[.sl (gs.map Gu.row)]) else some (1,[]):=by
  intro n;induction n with
  |zero =>
   intro i hi;obtain rfl:i=gs.length:=by omega
   rw[e97_0_1];simp only[B6,C1,D3,H4,H2,C6,K8,H1]
  |succ n ih =>
   intro i hi;have hlt:i<gs.length:=by omega
   rw[e97_0_1,B8 hlt];have hb:=hgb _ (C0 hlt);have hw:rx ops vs gs[i]=true->_:=fun h=>Jn hvn h
   have h1:=r155 gs[i].l (J0 hb.ln (by decide)) hb.wl
   have h2:=r155 gs[i].r (J0 hb.rn (by decide)) hb.wr
   have h3:=r156 gs[i].l hb.ln ns hn;have h4:=r156 gs[i].r hb.rn ns hn;have h5:=r96 so ops ho vs hv gs[i].l hb.wl;have h6:=r96 so ops ho vs hv gs[i].r hb.wr;simp only[B6,C1,hlt,H3,H1,aq,B7,ab hlt,ae hlt (ba (by omega)),Gu.row,nv0,nvS,dvI,dvB,dvS,dvL,B5,h1,h2,h3,h4,h5,h6,r158,ih (i+1) (by omega),J2]
   unfold rx at hw ⊢;generalize (decide (1<=gs[i].k)&&decide (gs[i].k<=3))=bk at hw ⊢;generalize gs[i].l.valid=b1 at hw ⊢;generalize gs[i].r.valid=b2 at hw ⊢;generalize ge gs[i].l ns=w1 at hw ⊢;generalize ge gs[i].r ns=w2 at hw ⊢;generalize ay ops vs gs[i].l=s1 at hw ⊢;generalize ay ops vs gs[i].r=s2 at hw ⊢;cases bk
   ·rfl
   ·cases b1
    ·rfl
    ·cases b2
     ·rfl
     ·by_cases q1:s1=e0
      ·cases w1<;>cases w2<;>simp[q1]
      ·by_cases q2:s1=s2
       ·by_cases q3:gs[i].k=3
        ·by_cases q4:s1=dh
         ·have:=hw (by simp[q1,<-q2,q3,q4])
          simp[this.1,this.2,q1,<-q2,q3,q4]
         ·cases w1<;>cases w2<;>simp[q1,<-q2,q3,q4]
        ·have:=hw (by simp[q1,<-q2,q3])
         simp[this.1,this.2,q1,<-q2,q3]
       ·cases w1<;>cases w2<;>simp[q1,q2]
 have h0:=hl gs.length 0 (by omega)
 simp only[D2,C3] at h0;rw[e97_0_0];simp only[B6,h0,zb];cases gs.all (rx ops vs) with
 |false=>rfl
 |true =>
  have i1:((gs.length:Int)<=2)↔gs.length<=2:=by omega
  simp only[H1,nv0,nvS,dvI,dvB,dvS,dvL,B5,D5,H1,H2,B6,i1,D9]
theorem r104(k:Int):∃ s,rn ⟨104,0,0⟩ [.int k]=some (0,[.str s])/\decide (s=e0)=!(decide (1<=k)&&decide (k<=3)):=by
 rw[e104_0_0];simp only[rIn,nv0,nvS,dvI,dvB,dvS,dvL,B5];by_cases h1:1<=k
 ·by_cases h2:k<=3
  ·obtain h |h |h:k=1\/k=2\/k=3:=by omega
   all_goals subst h;exact⟨_,rfl,by decide⟩
  ·refine⟨e0,by simp[h1,h2],by simp[h1,h2]⟩
 ·refine⟨e0,by simp[h1],by simp[h1]⟩
theorem r63(so:aa)(ops:List OpM)(ho:qg ops)(vs:List VS)(hv:vs.length<=1099511627776)(g:Gu)(hb:GuB g):rn ⟨63,0,0⟩ [.sl so,.sl (ops.map OpM.row),.int g.k,.int (g.l).k,.int (g.l).n,.str (g.l).s,.sl ((g.l).as.map Tm.row),.int (g.r).k,.int (g.r).n,.str (g.r).s,.sl ((g.r).as.map Tm.row),.sl (vs.map VS.row)]=some (0,[.bool (rx ops vs g)]):=by
 have h1:=r100 g.l (J0 hb.ln (by decide)) hb.wl
 have h2:=r100 g.r (J0 hb.rn (by decide)) hb.wr
 have h5:=r64 so ops ho vs hv g.l hb.wl;have h6:=r64 so ops ho vs hv g.r hb.wr;obtain⟨s,h7,h8⟩:=r104 g.k;rw[e63_0_0];simp only[nv0,nvS,dvI,dvB,dvS,dvL,B5,h1,h2,h5,h6,h7,h8];unfold rx;generalize ay ops vs g.l=s1;generalize ay ops vs g.r=s2;cases (decide (1<=g.k)&&decide (g.k<=3))<;>cases g.l.valid<;>cases g.r.valid<;>try rfl
 by_cases q1:s1=e0
 ·simp[q1]
 ·by_cases q2:s2=s1
  ·by_cases q3:g.k=3<;>simp[q1,q2,q3]
  ·have q2':¬ s1=s2:=fun e=>q2 e.symm
   simp[q1,q2,q2']
theorem r212(so:aa)(ops:List OpM)(ho:qg ops)(r:RuM)(hb:RuB r):rn ⟨212,0,0⟩ [.sl so,.sl (ops.map OpM.row),.str r.n,.int (r.l).k,.int (r.l).n,.str (r.l).s,.sl ((r.l).as.map Tm.row),.int (r.r).k,.int (r.r).n,.str (r.r).s,.sl ((r.r).as.map Tm.row),.sl (r.g.map Gu.row)]=some (0,[.bool (jy ops r)]):=by
 have h1:=r244 r.n hb.n;have h2:=r155 r.l (J0 hb.ln (by decide)) hb.wl
 have h3:=r246 r.l hb.wl;have h4:=r155 r.r (J0 hb.rn (by decide)) hb.wr
 have h5:=r157 so ops ho r.l.s;have h7:=r220 r.l hb.ln;have hnl:=br r.l;have hln:=hb.ln;rw[e212_0_0];simp only[h1,h2,h3,h4,h5,nv0,nvS,dvI,dvB,dvS,dvL,B5];unfold jy;cases ku r.n<;>try rfl
 cases r.l.valid<;>try rfl
 by_cases q:r.l.k=2
 ·simp only[q,H3,D0,H2,D9]
  cases sd r.l<;>try rfl
  cases r.r.valid<;>try rfl
  cases hf:eg ops r.l.s with
  |none=>rfl
  |some o =>
   have h6:=r247 so ops ho r.l hb.wl hb.ln o.r;simp only[q] at h6 h7;simp only[kv,nv0,nvS,dvI,dvB,dvS,dvL,B5,h6,h7,D0,H2,D9];cases hi:qh ops r.l o.r with
   |none=>rfl
   |some vs =>
    have hvl:=Jm hi;have h8:=r96 so ops ho vs (by omega) r.r hb.wr
    have h9:=r156 r.r hb.rn r.l.names (ba (by omega))
    have h10:=r97 so ops ho vs (by omega) r.l.names (ba (by omega)) (Md hi) r.g hb.g hb.ga
    simp only[vu,nv0,nvS,dvI,dvB,dvS,dvL,B5,h8,h9,h10,D0,H2];by_cases q2:ay ops vs r.r=o.r
    ·cases ge r.r r.l.names<;>simp[q2]
    ·simp[q2]
 ·simp[q]
theorem r159(so:aa)(ops:List OpM)(ho:qg ops)(r:RuM)(hb:RuB r):rn ⟨159,0,0⟩ [.sl so,.sl (ops.map OpM.row),.str r.n,.int (r.l).k,.int (r.l).n,.str (r.l).s,.sl ((r.l).as.map Tm.row),.int (r.r).k,.int (r.r).n,.str (r.r).s,.sl ((r.r).as.map Tm.row),.sl (r.g.map Gu.row)]=some (0,[.bool (jy ops r)]):=by
 have h1:=r222 r.n hb.n;have h2:=r100 r.l (J0 hb.ln (by decide)) hb.wl
 have h3:=r223 r.l hb.wl;have h4:=r100 r.r (J0 hb.rn (by decide)) hb.wr
 have h5:=r106 so ops ho r.l.s;have h7:=r102 r.l hb.ln;have h9:=r102 r.r hb.rn;have hnl:=br r.l;have hnr:=br r.r;have hsl:=dl r.l.names;have hsr:=dl r.r.names;have hln:=hb.ln;have hrn:=hb.rn;have hgl:=hb.g;have h10:=r101 (bx r.r.names) (bx r.l.names) (by omega) (ba (by omega))
 have hl:∀ vs:List VS,vs.length<=1099511627776->∀ n i,i+n=r.g.length->rn ⟨159,0,1⟩ [.int (i:Int),.sl so,.sl (ops.map OpM.row),.str r.n,.int (r.l).k,.int (r.l).n,.str (r.l).s,.sl ((r.l).as.map Tm.row),.int (r.r).k,.int (r.r).n,.str (r.r).s,.sl ((r.r).as.map Tm.row),.sl (r.g.map Gu.row),.sl (vs.map VS.row)]=bif (r.g.drop i).all (rx ops vs) then some (0,[]) else some (1,[]):=by
  intro vs hv n;induction n with
  |zero =>
   intro i hi;obtain rfl:i=r.g.length:=by omega
   rw[e159_0_1];simp only[B6,C1,D3,H4,H2,C6,K8,H1]
  |succ n ih =>
   intro i hi;have hlt:i<r.g.length:=by omega
   rw[e159_0_1,B8 hlt];have h1:=r63 so ops ho vs hv r.g[i] (hb.ga _ (C0 hlt));simp only[B6,C1,hlt,H3,H1,aq,B7,ab hlt,ae hlt (ba (by omega)),Gu.row,nv0,nvS,dvI,dvB,dvS,dvL,B5,h1,ih (i+1) (by omega),J2]
   cases rx ops vs r.g[i]<;>simp
 rw[e159_0_0];simp only[h1,h2,h3,h4,h5,nv0,nvS,dvI,dvB,dvS,dvL,B5,B6];unfold jy;cases ku r.n<;>try rfl
 cases r.l.valid<;>try rfl
 by_cases q:r.l.k=2
 ·simp only[q,H3,D0,H2,D9,Bool.not_not]
  cases r.r.valid
  ·cases sd r.l<;>rfl
  ·cases sd r.l<;>try rfl
   simp only[D0,H2,D9];by_cases q5:r.g.length<=2
   ·have q5':¬((2:Int)<(r.g.length:Int)):=by omega
    cases hf:eg ops r.l.s with
    |none =>
     have h6:=r224 so ops ho r.l hb.wl hb.ln e0;have:qh ops r.l e0=none:=by unfold qh;cases iq ops r.l e0 []<;>simp
     rw[this] at h6;simp only[q] at h6;simp only[kv,nv0,nvS,dvI,dvB,dvS,dvL,B5,h6,q5',H4,H2,vu,G7,H1]
    |some o =>
     have h6:=r224 so ops ho r.l hb.wl hb.ln o.r;simp only[q] at h6 h7 hl;simp only[kv,nv0,nvS,dvI,dvB,dvS,dvL,B5,h6,q5',H4,H2];cases hi:qh ops r.l o.r with
     |none=>rfl
     |some vs =>
      have hvl:=Jm hi;have h8:=r64 so ops ho vs (by omega) r.r hb.wr
      have h11:=hl vs (by omega) r.g.length 0 (by omega)
      simp only[D2,C3] at h11;simp only[vu,nv0,nvS,dvI,dvB,dvS,dvL,B5,h8,h7,h9,h10,B6,h11,D0,H2];by_cases q2:ay ops vs r.r=o.r
      ·have hw:=ac5 r.r r.l
       cases hw2:ge r.r r.l.names with
       |true =>
        rw[hw2] at hw;have:(wo (bx r.r.names) (bx r.l.names)).length=0:=hw.2 rfl;simp only[q2,this,H3,D0,H2,C3,Int.lt_irrefl,H4,zb,q5,K9,D9];cases r.g.all (rx ops vs)<;>rfl
       |false =>
        rw[hw2] at hw;have:¬(wo (bx r.r.names) (bx r.l.names)).length=0:=fun h=>by have:=hw.1 h;simp at this
        have:0<(wo (bx r.r.names) (bx r.l.names)).length:=by omega
        simp[q2,this]
      ·simp[q2]
   ·have q5':((2:Int)<(r.g.length:Int)):=by omega
    simp only[q5',H3,H1,zb,q5,H4,P2];cases eg ops r.l.s with
    |none=>rfl
    |some o =>
     dsimp only;cases qh ops r.l o.r<;>rfl
 ·cases r.r.valid<;>simp[q]
def ye(l:List StM)(x:StM):Bool:=l.any fun y=>decide (y.o=x.o)&&decide (y.a=x.a)
theorem Zh(l:List StM)(hl:l.length<=maxLen)(x:StM):rn ⟨213,0,0⟩ [.sl (l.map StM.row),.str x.o,.int x.a]=some (0,[.bool (ye l x)]):=by
 have key:∀ n i,i+n=l.length->(ye (l.drop i) x=false/\rn ⟨248,0,1⟩ [.sl (l.map StM.row),.int (l.length:Int),.int (i:Int),.str x.o,.int x.a]=some (0,[]))\/(ye (l.drop i) x=true/\∃ j:Nat,rn ⟨248,0,1⟩ [.sl (l.map StM.row),.int (l.length:Int),.int (i:Int),.str x.o,.int x.a]=some (1,[.int (j:Int)])):=by
  intro n;induction n with
  |zero =>
   intro i hi;obtain rfl:i=l.length:=by omega
   rw[e248_0_1];simp only[B6,C1,D3,H4,H2,C6];exact .inl ⟨rfl,trivial⟩
  |succ n ih =>
   intro i hi;have hlt:i<l.length:=by omega
   rw[e248_0_1,B8 hlt];simp only[B6,C1,hlt,H3,H1,aq,B7,ab hlt,ae hlt hl,StM.row,nv0,nvS,dvI,dvB,dvS,dvL,B5,ye,S7];by_cases h1:l[i].o=x.o
   ·by_cases h2:l[i].a=x.a
    ·right
     refine⟨by simp[h1,h2],i,by simp[h1,h2]⟩
    ·have h2':¬ x.a=l[i].a:=fun e=>h2 e.symm
     have:=ih (i+1) (by omega)
     simpa[h1,h2,h2',ye] using this
   ·have h1':¬ x.o=l[i].o:=fun e=>h1 e.symm
    have:=ih (i+1) (by omega)
    simpa[h1,h1',ye] using this
 have h:=key l.length 0 (by omega)
 simp only[D2,C3] at h;rw[e213_0_0,e248_0_0];simp only[B6];rcases h with ⟨h1,h2⟩|⟨h1,j,h2⟩
 ·rw[h2,h1];rfl
 ·rw[h2,h1]
  simp only[nv0,nvS,dvI,dvB,dvS,dvL,B5,D5,H1,H2,show F4 1 0=false from rfl]
  have:(0:Int)<=(j:Int):=by omega
  simp[this]
theorem Oz(ops:List OpM)(s:StM):Mb ops s=match eg ops s.o with
 |none=>false
 |some o=>!isB s.o&&(decide (0<=s.a)&&decide (s.a<o.a.length)):=rfl
theorem Cw(ops:List OpM)(l:List StM){i:Nat}(h:i<l.length):ky ops (l.take i) (l.drop i)=(Mb ops l[i]&&(!ye (l.take i) l[i]&&ky ops (l.take (i+1)) (l.drop (i+1)))):=by
 rw[B8 h];simp only[ky,ye];rw[List.take_add_one,F6 h];rfl
theorem r152(d:DfM)(hb:DfB d):rn ⟨152,0,0⟩ [.sl (d.so.map ag),.sl (d.op.map OpM.row),.sl (d.ru.map RuM.row),.sl (d.st.map StM.row)]=some (0,[.bool d.valid]):=by
 have hrl:=hb.ru;have hsl:=hb.st;have hl1:∀ n i (acc:List ByteArray),i+n=d.ru.length->acc.length<=i->rn ⟨152,0,1⟩ [.sl (d.ru.map RuM.row),.int (d.ru.length:Int),.int (i:Int),.sl (d.so.map ag),.sl (d.op.map OpM.row),.sl (d.ru.map RuM.row),.sl (d.st.map StM.row),.sl (acc.map ag)]=bif (d.ru.drop i).all (jy d.op) then some (0,[.sl (d.so.map ag),.sl (d.op.map OpM.row),.sl (d.ru.map RuM.row),.sl (d.st.map StM.row),.sl ((acc++(d.ru.drop i).map (·.n)).map ag)]) else some (1,[]):=by
  intro n;induction n with
  |zero =>
   intro i acc hi ha;obtain rfl:i=d.ru.length:=by omega
   rw[e152_0_1];simp only[B6,C1,D3,H4,H2,C6,K8,H1,D4,G5]
  |succ n ih =>
   intro i acc hi ha;have hlt:i<d.ru.length:=by omega
   rw[e152_0_1,B8 hlt];have h1:=r212 (d.so.map ag) d.op hb.op d.ru[i] (hb.rua _ (C0 hlt));have hb2:F5 (acc.length+1) M63=true:=nb (by omega)
   have h6:=ih (i+1) (acc++[d.ru[i].n]) (by omega) (by simp;omega)
   simp only[D6,C4,D4,ag] at h6;simp only[B6,C1,hlt,H3,H1,aq,B7,ab hlt,ae hlt (ba (by omega)),RuM.row,nv0,nvS,dvI,dvB,dvS,dvL,B5,h1,C2,C5,D1,hb2,h6,J2]
   cases jy d.op d.ru[i] with
   |false=>rfl
   |true=>simp only[D6,C4,E2,F2,D8,ag,D0,H2,H1,D9]
 have hl3:∀ (x5 x7:aa) n i,i+n=d.st.length->rn ⟨152,0,3⟩ [.sl (d.st.map StM.row),.int (d.st.length:Int),.int (i:Int),.sl (d.so.map ag),.sl (d.op.map OpM.row),.sl x5,.sl (d.st.map StM.row),.sl x7]=bif ky d.op (d.st.take i) (d.st.drop i) then some (0,[.sl x7]) else some (1,[]):=by
  intro x5 x7 n;induction n with
  |zero =>
   intro i hi;obtain rfl:i=d.st.length:=by omega
   rw[e152_0_3];simp only[B6,C1,D3,H4,H2,C6,ky,H1]
  |succ n ih =>
   intro i hi;have hlt:i<d.st.length:=by omega
   rw[e152_0_3,Cw d.op d.st hlt,Oz];have h1:=r157 (d.so.map ag) d.op hb.op d.st[i].o;have h3:=Zh (d.st.take i) (ba (by rw[List.length_take];omega)) d.st[i]
   simp only[B6,C1,hlt,H3,H1,aq,B7,ab hlt,ae hlt (ba (by omega)),StM.row,nv0,nvS,dvI,dvB,dvS,dvL,B5,h1,r181,ih (i+1) (by omega)]
   cases hf:eg d.op d.st[i].o with
   |none=>rfl
   |some o =>
    simp only[kv,nv0,nvS,dvI,dvB,dvS,dvL,B5,B6,D0,H2];cases isB d.st[i].o
    ·by_cases q1:0<=d.st[i].a
     ·have q1':¬ d.st[i].a<0:=by omega
      by_cases q2:d.st[i].a<o.a.length
      ·have q2':¬(o.a.length:Int)<=d.st[i].a:=by omega
       have q3:(0:Int)<=(i:Int):=by omega
       have q4:(i:Int)<=(d.st.length:Int):=by omega
       simp only[q1,q1',q2,q2',q3,q4,Int.le_refl,H3,H4,H1,H2,K9,G7,D9,B7,show P1 0=0 from rfl,D2,<-List.map_take,h3,nv0,nvS,dvI,dvB,dvS,dvL,B5]
       cases ye (d.st.take i) d.st[i]<;>simp
      ·have q2':(o.a.length:Int)<=d.st[i].a:=by omega
       simp[q1,q1',q2,q2']
     ·have q1':d.st[i].a<0:=by omega
      simp[q1,q1']
    ·rfl
 have hd:=r153 (d.ru.map (·.n)) (by rw[B6];omega)
 have hg:=r211 d.so hb.so hb.sos d.op hb.op hb.opn;have h1:=hl1 d.ru.length 0 [] (by omega) (G9 _)
 have h3:=fun x5 x7=>hl3 x5 x7 d.st.length 0 (by omega)
 simp only[D2,U7,C3,D4,D8] at h1 h3;rw[e152_0_0];simp only[B6,hg,nv0,nvS,dvI,dvB,dvS,dvL,B5];unfold DfM.valid;cases Bz d.so d.op
 ·rfl
 ·by_cases q1:d.ru.length<=16
  ·have q1':¬((16:Int)<(d.ru.length:Int)):=by omega
   by_cases q2:d.st.length<=8
   ·have q2':¬((8:Int)<(d.st.length:Int)):=by omega
    simp only[q1,q1',q2,q2',H3,H4,H1,H2,D9,D0,h1];cases d.ru.all (jy d.op)
    ·rfl
    ·simp only[H1,nv0,nvS,dvI,dvB,dvS,dvL,B5,D5,H1,H2,B6,h3,D9]
     cases ky d.op [] d.st
     ·rfl
     ·simp only[H1,nv0,nvS,dvI,dvB,dvS,dvL,B5,D5,H1,H2,hd,D9]
   ·have q2':((8:Int)<(d.st.length:Int)):=by omega
    simp[q1,q1',q2,q2']
  ·have q1':((16:Int)<(d.ru.length:Int)):=by omega
   simp[q1,q1']
theorem r162(d:DfM)(hb:DfB d):rn ⟨162,0,0⟩ [.sl (d.so.map ag),.sl (d.op.map OpM.row),.sl (d.ru.map RuM.row),.sl (d.st.map StM.row)]=some (0,[.bool (ky d.op [] d.st&&decide (d.st.length<=8))]):=by
 have hsl:=hb.st;have hl3:∀ (x0:Nat),x0<=d.st.length->∀ (x:StM) (x2:ByteArray) (x3:Bool) (x4 x5 x6:Int) (x7 x8:Bool) (x15 x16:ByteArray) (x17:aa),∀ n j,j+n=x0->rn ⟨162,0,3⟩ [.int (x0:Int),.int (j:Int),.str x2,.bool x3,.int x4,.int x5,.int x6,.bool x7,.bool x8,.sl (d.so.map ag),.sl (d.op.map OpM.row),.sl (d.ru.map RuM.row),.sl (d.st.map StM.row),.str x.o,.int x.a,.str x15,.str x16,.sl x17]=bif ye ((d.st.take x0).drop j) x then some (1,[]) else some (0,[.int (x0:Int),.str x2,.bool x3,.int x4,.int x5,.int x6,.bool x7,.bool x8,.sl (d.so.map ag),.sl (d.op.map OpM.row),.sl (d.ru.map RuM.row),.sl (d.st.map StM.row),.str x.o,.int x.a,.str x15,.str x16,.sl x17]):=by
  intro x0 hx0 x x2 x3 x4 x5 x6 x7 x8 x15 x16 x17 n;induction n with
  |zero =>
   intro j hj;obtain rfl:j=x0:=by omega
   rw[e162_0_3];have:((d.st.take j).drop j)=[]:=O4 (by rw[List.length_take];omega)
   simp only[this,Int.lt_irrefl,H4,H2,ye,List.any_nil]
  |succ n ih =>
   intro j hj;have hlt0:j<(d.st.take x0).length:=by rw[List.length_take];omega
   have hlt:j<d.st.length:=by omega
   have hltx:j<x0:=by omega
   rw[e162_0_3,B8 hlt0,List.getElem_take];simp only[B6,C1,hlt,H3,H1,aq,B7,ab hlt,ae hlt (ba (by omega)),hltx,StM.row,nv0,nvS,dvI,dvB,dvS,dvL,B5,ih (j+1) (by omega)]
   simp only[ye,S7];by_cases h1:d.st[j].o=x.o
   ·by_cases h2:d.st[j].a=x.a<;>simp[h1,h2]
   ·simp[h1]
 have hl1:∀ n i,i+n=d.st.length->rn ⟨162,0,1⟩ [.int (i:Int),.sl (d.so.map ag),.sl (d.op.map OpM.row),.sl (d.ru.map RuM.row),.sl (d.st.map StM.row)]=bif ky d.op (d.st.take i) (d.st.drop i) then some (0,[.sl (d.so.map ag),.sl (d.op.map OpM.row),.sl (d.ru.map RuM.row),.sl (d.st.map StM.row)]) else some (1,[]):=by
  intro n;induction n with
  |zero =>
   intro i hi;obtain rfl:i=d.st.length:=by omega
   rw[e162_0_1];simp only[B6,C1,D3,H4,H2,C6,ky,H1]
  |succ n ih =>
   intro i hi;have hlt:i<d.st.length:=by omega
   rw[e162_0_1,Cw d.op d.st hlt,Oz];have h1:=r106 (d.so.map ag) d.op hb.op d.st[i].o;have h3:=fun x2 x3 x4 x5 x6 x7 x8 x15 x16 x17=>hl3 i (by omega) d.st[i] x2 x3 x4 x5 x6 x7 x8 x15 x16 x17 i 0 (by omega)
   simp only[D2,C3] at h3;simp only[B6,C1,hlt,H3,H1,aq,B7,ab hlt,ae hlt (ba (by omega)),StM.row,nv0,nvS,dvI,dvB,dvS,dvL,B5,h1,r111,rIn]
   cases hf:eg d.op d.st[i].o with
   |none=>rfl
   |some o =>
    have hoa:o.a.length<=1048576:=By hb.op.a hf;simp only[kv,nv0,nvS,dvI,dvB,dvS,dvL,B5,B6,D0,H2];rw[IntWalk.i64_in _ (by omega)]
    cases isB d.st[i].o
    ·by_cases q1:0<=d.st[i].a
     ·by_cases q2:d.st[i].a<o.a.length
      ·have q2':d.st[i].a<=(o.a.length:Int)-1:=by omega
       simp only[q1,q2,q2',H3,H1,H2,K9,G7,D0,D9,h3];cases ye (d.st.take i) d.st[i] with
       |true=>rfl
       |false=>simp only[H2,nv0,nvS,dvI,dvB,dvS,dvL,B5,D5,H1,H2,ae hlt (ba (by omega)),ih (i+1) (by omega),G7,D9]
      ·have q2':¬ d.st[i].a<=(o.a.length:Int)-1:=by omega
       simp[q1,q2,q2']
     ·simp[q1]
    ·rfl
 have h1:=hl1 d.st.length 0 (by omega)
 simp only[D2,U7,C3] at h1;rw[e162_0_0,h1];have i1:((d.st.length:Int)<=8)↔d.st.length<=8:=by omega
 cases ky d.op [] d.st with
 |false=>rfl
 |true=>simp only[H1,nv0,nvS,dvI,dvB,dvS,dvL,B5,D5,H1,H2,B6,i1,D9]
theorem r98(d:DfM)(hb:DfB d):rn ⟨98,0,0⟩ [.sl (d.so.map ag),.sl (d.op.map OpM.row),.sl (d.ru.map RuM.row),.sl (d.st.map StM.row)]=some (0,[.bool d.valid]):=by
 have hrl:=hb.ru;have hl1:∀ n i (acc:List ByteArray),i+n=d.ru.length->acc.length<=i->rn ⟨98,0,1⟩ [.int (i:Int),.sl (d.so.map ag),.sl (d.op.map OpM.row),.sl (d.ru.map RuM.row),.sl (d.st.map StM.row),.sl (acc.map ag)]=bif (d.ru.drop i).all (jy d.op) then some (0,[.sl (d.so.map ag),.sl (d.op.map OpM.row),.sl (d.ru.map RuM.row),.sl (d.st.map StM.row),.sl ((acc++(d.ru.drop i).map (·.n)).map ag)]) else some (1,[]):=by
  intro n;induction n with
  |zero =>
   intro i acc hi ha;obtain rfl:i=d.ru.length:=by omega
   rw[e98_0_1];simp only[B6,C1,D3,H4,H2,C6,K8,H1,D4,G5]
  |succ n ih =>
   intro i acc hi ha;have hlt:i<d.ru.length:=by omega
   rw[e98_0_1,B8 hlt];have h1:=r159 (d.so.map ag) d.op hb.op d.ru[i] (hb.rua _ (C0 hlt));have hb2:F5 (acc.length+1) M63=true:=nb (by omega)
   have h6:=ih (i+1) (acc++[d.ru[i].n]) (by omega) (by simp;omega)
   simp only[D6,C4,D4,ag] at h6;simp only[B6,C1,hlt,H3,H1,aq,B7,ab hlt,ae hlt (ba (by omega)),RuM.row,nv0,nvS,dvI,dvB,dvS,dvL,B5,h1,C2,C5,D1,hb2,h6,J2]
   cases jy d.op d.ru[i] with
   |false=>rfl
   |true=>simp only[D6,C4,E2,F2,D8,ag,D0,H2,H1,D9]
 have hd:=r161 (d.ru.map (·.n)) (by rw[B6];exact ba (by omega))
 have hg:=r160 d.so hb.so hb.sos d.op hb.op hb.opn;have hs:=r162 d hb;have h1:=hl1 d.ru.length 0 [] (by omega) (G9 _)
 simp only[D2,C3,D4,D8] at h1;have i1:((d.ru.length:Int)<=16)↔d.ru.length<=16:=by omega
 rw[e98_0_0,h1];unfold DfM.valid;cases d.ru.all (jy d.op) with
 |false=>cases Bz d.so d.op<;>cases decide (d.ru.length<=16)<;>cases decide (d.st.length<=8)<;>rfl
 |true =>
  simp only[H1,nv0,nvS,dvI,dvB,dvS,dvL,B5,D5,H1,H2,B6,hd,hg,hs,i1,D9];cases Bz d.so d.op<;>cases decide (d.ru.length<=16)<;>cases decide (d.st.length<=8)<;>cases ky d.op [] d.st<;>cases dis (d.ru.map (·.n))<;>rfl
theorem r95(vars:List ByteArray)(hv:vars.length<=1048576):rn ⟨95,0,0⟩ [.sl (vars.map ag)]=some (0,[.sl ((wv vars).map VS.row)]):=by
 have hl:∀ n i (acc:List VS),i+n=vars.length->acc.length<=i->rn ⟨95,0,1⟩ [.sl (vars.map ag),.int (vars.length:Int),.int (i:Int),.sl (acc.map VS.row)]=some (0,[.sl ((acc++wv (vars.drop i)).map VS.row)]):=by
  intro n;induction n with
  |zero =>
   intro i acc hi ha;obtain rfl:i=vars.length:=by omega
   rw[e95_0_1];simp only[B6,C1,D3,H4,H2,C6,wv,D4,G5]
  |succ n ih =>
   intro i acc hi ha;have hlt:i<vars.length:=by omega
   rw[e95_0_1,B8 hlt];have hb2:F5 (acc.length+1) M63=true:=nb (by omega)
   have h6:=ih (i+1) (acc++[(vars[i],dh)]) (by omega) (by simp;omega)
   simp only[D6,C4,D4,VS.row] at h6;simp only[B6,C1,hlt,H3,H1,aq,B7,ab hlt,ae hlt (ba (by omega)),ag,nv0,nvS,dvI,dvB,dvS,dvL,B5,C2,C5,D1,hb2,h6]
   simp only[wv,D6,C4,E2,F2,D8,VS.row]
 have h:=hl vars.length 0 [] (by omega) (G9 _)
 simp only[D2,C3,D4,D8] at h;rw[e95_0_0];simp only[B6,h,nv0,nvS,dvI,dvB,dvS,dvL,B5,D5,H1,H2]
theorem r62(vars:List ByteArray)(hv:vars.length<=1048576):rn ⟨62,0,0⟩ [.sl (vars.map ag)]=some (0,[.sl ((wv vars).map VS.row)]):=by
 have hl:∀ n i (acc:List VS),i+n=vars.length->acc.length<=i->rn ⟨62,0,1⟩ [.sl (vars.map ag),.int (i:Int),.sl (acc.map VS.row)]=some (0,[.sl ((acc++wv (vars.drop i)).map VS.row)]):=by
  intro n;induction n with
  |zero =>
   intro i acc hi ha;obtain rfl:i=vars.length:=by omega
   rw[e62_0_1];simp only[B6,C1,D3,H4,H2,C6,wv,D4,G5]
  |succ n ih =>
   intro i acc hi ha;have hlt:i<vars.length:=by omega
   rw[e62_0_1,B8 hlt];have hb2:F5 (acc.length+1) M63=true:=nb (by omega)
   have h6:=ih (i+1) (acc++[(vars[i],dh)]) (by omega) (by simp;omega)
   simp only[D6,C4,D4,VS.row] at h6;simp only[B6,C1,hlt,H3,H1,aq,B7,ab hlt,ae hlt (ba (by omega)),ag,nv0,nvS,dvI,dvB,dvS,dvL,B5,C2,C5,D1,hb2,h6]
   simp only[wv,D6,C4,E2,F2,D8,VS.row]
 have h:=hl vars.length 0 [] (by omega) (G9 _)
 simp only[D2,C3,D4,D8] at h;rw[e62_0_0];simp only[h,nv0,nvS,dvI,dvB,dvS,dvL,B5,D5,H1,H2]
theorem r94(d:DfM)(hb:DfB d)(vars:List ByteArray)(hv:vars.length<=1048576)(hvs:∀ x∈vars,x.size<=maxLen)(t:Tm)(hw:Wt t)(hn:t.nodes<=1048577):rn ⟨94,0,0⟩ [.sl (d.so.map ag),.sl (d.op.map OpM.row),.sl (d.ru.map RuM.row),.sl (d.st.map StM.row),.sl (vars.map ag),.int t.k,.int t.n,.str t.s,.sl (t.as.map Tm.row),.sl []]=some (0,[.bool (jq d vars t)]):=by
 have hl1:∀ n i,i+n=vars.length->rn ⟨94,0,1⟩ [.sl (vars.map ag),.int (vars.length:Int),.int (i:Int),.sl (d.so.map ag),.sl (d.op.map OpM.row),.sl (d.ru.map RuM.row),.sl (d.st.map StM.row),.sl (vars.map ag),.int t.k,.int t.n,.str t.s,.sl (t.as.map Tm.row),.sl []]=bif (vars.drop i).all rr then some (0,[.sl (d.so.map ag),.sl (d.op.map OpM.row),.sl (d.ru.map RuM.row),.sl (d.st.map StM.row),.sl (vars.map ag),.int t.k,.int t.n,.str t.s,.sl (t.as.map Tm.row),.sl []]) else some (1,[]):=by
  intro n;induction n with
  |zero =>
   intro i hi;obtain rfl:i=vars.length:=by omega
   rw[e94_0_1];simp only[B6,C1,D3,H4,H2,C6,K8,H1]
  |succ n ih =>
   intro i hi;have hlt:i<vars.length:=by omega
   rw[e94_0_1,B8 hlt];have h1:=r154 vars[i] (hvs _ (C0 hlt));simp only[B6,C1,hlt,H3,H1,aq,B7,ab hlt,ae hlt (ba (by omega)),ag,nv0,nvS,dvI,dvB,dvS,dvL,B5,h1,ih (i+1) (by omega),J2]
   cases rr vars[i]<;>rfl
 have h1:=hl1 vars.length 0 (by omega)
 simp only[D2,C3] at h1;have hl3:∀ a b c:aa,∀ k n:Int,∀ s:ByteArray,rn ⟨94,0,3⟩ [.sl [],.int 0,.int 0,.sl a,.int k,.int n,.str s,.sl b,.sl c]=some (0,[]):=fun a b c k n s=>by
  rw[e94_0_3];rfl
 have h2:=r152 d hb;have h3:=r153 vars hv;have h4:=r155 t (by omega) hw
 have h5:=r156 t hn vars (ba (by omega))
 have h6:=r95 vars hv;have h7:=r96 (d.so.map ag) d.op hb.op (wv vars) (by unfold wv;rw[B6];omega) t hw
 rw[e94_0_0];simp only[B6,h2,h3,nv0,nvS,dvI,dvB,dvS,dvL,B5];unfold jq;cases d.valid
 ·rfl
 ·by_cases q1:vars.length<=3
  ·have q1':¬((3:Int)<(vars.length:Int)):=by omega
   simp only[q1,q1',H3,H4,H2,D9,D0];cases dis vars
   ·rfl
   ·simp only[D0,H2,h1,D9]
    cases vars.all rr
    ·rfl
    ·simp only[H1,nv0,nvS,dvI,dvB,dvS,dvL,B5,D5,H1,H2,h4,h5,h6,h7,D9]
     cases t.valid
     ·rfl
     ·cases ge t vars
      ·rfl
      ·by_cases q2:ay d.op (wv vars) t=e0
       ·simp[q2]
       ·simp only[q2,D0,G7,H2,H4,C5,C3,hl3,nv0,nvS,dvI,dvB,dvS,dvL,B5,D5,H1,H2,D9]
  ·have q1':((3:Int)<(vars.length:Int)):=by omega
   simp[q1,q1']
theorem r99(vars:List ByteArray)(hv:vars.length<=1048576)(hvs:∀ x∈vars,x.size<=maxLen):rn ⟨99,0,0⟩ [.sl (vars.map ag)]=some (0,[.bool (decide (vars.length<=3)&&(dis vars&&vars.all rr))]):=by
 have hl1:∀ n i,i+n=vars.length->rn ⟨99,0,1⟩ [.sl (vars.map ag),.int (i:Int)]=bif (vars.drop i).all rr then some (0,[.sl (vars.map ag)]) else some (1,[]):=by
  intro n;induction n with
  |zero =>
   intro i hi;obtain rfl:i=vars.length:=by omega
   rw[e99_0_1];simp only[B6,C1,D3,H4,H2,C6,K8,H1]
  |succ n ih =>
   intro i hi;have hlt:i<vars.length:=by omega
   rw[e99_0_1,B8 hlt];have h1:=r163 vars[i] (hvs _ (C0 hlt));simp only[B6,C1,hlt,H3,H1,aq,B7,ab hlt,ae hlt (ba (by omega)),ag,nv0,nvS,dvI,dvB,dvS,dvL,B5,h1,ih (i+1) (by omega),J2]
   cases rr vars[i]<;>rfl
 have h1:=hl1 vars.length 0 (by omega)
 simp only[D2,C3] at h1;have h3:=r161 vars (ba (by omega))
 have i1:((vars.length:Int)<=3)↔vars.length<=3:=by omega
 rw[e99_0_0,h1];cases vars.all rr with
 |false=>cases decide (vars.length<=3)<;>cases dis vars<;>rfl
 |true =>
  simp only[H1,nv0,nvS,dvI,dvB,dvS,dvL,B5,D5,H1,H2,B6,i1,h3,K9];cases decide (vars.length<=3)<;>rfl
theorem r61(d:DfM)(hb:DfB d)(vars:List ByteArray)(hv:vars.length<=1048576)(hvs:∀ x∈vars,x.size<=maxLen)(t:Tm)(hw:Wt t)(hn:t.nodes<=1048577):rn ⟨61,0,0⟩ [.sl (d.so.map ag),.sl (d.op.map OpM.row),.sl (d.ru.map RuM.row),.sl (d.st.map StM.row),.sl (vars.map ag),.int t.k,.int t.n,.str t.s,.sl (t.as.map Tm.row),.sl []]=some (0,[.bool (jq d vars t)]):=by
 have hl1:∀ a:List D,rn ⟨61,0,1⟩ [.int 0,.sl (d.so.map ag),.sl (d.op.map OpM.row),.sl (d.ru.map RuM.row),.sl (d.st.map StM.row),.sl (vars.map ag),.int t.k,.int t.n,.str t.s,.sl (t.as.map Tm.row),.sl []]=some (0,[.sl (d.so.map ag),.sl (d.op.map OpM.row),.sl (d.ru.map RuM.row),.sl (d.st.map StM.row),.sl (vars.map ag),.int t.k,.int t.n,.str t.s,.sl (t.as.map Tm.row),.sl []]):=fun _=>by
  rw[e61_0_1];rfl
 have h1:=hl1 [];have h2:=r98 d hb;have h3:=r99 vars hv hvs;have h4:=r100 t (by omega) hw
 have hnt:=br t;have hsl:=dl t.names;have h5:=r102 t hn;have h5':=r101 (bx t.names) vars (by omega) (ba (by omega))
 have h6:=r62 vars hv;have h7:=r64 (d.so.map ag) d.op hb.op (wv vars) (by unfold wv;rw[B6];omega) t hw
 rw[e61_0_0];simp only[B6,h1,h2,h3,h4,h5,h5',h6,h7,nv0,nvS,dvI,dvB,dvS,dvL,B5,D5,H1,H2];unfold jq;cases d.valid<;>try rfl
 cases decide (vars.length<=3)<;>try rfl
 cases dis vars<;>try rfl
 cases vars.all rr<;>try rfl
 cases t.valid<;>try rfl
 have hw:=Nt t vars;cases hw2:ge t vars with
 |true =>
  rw[hw2] at hw;have:(wo (bx t.names) vars).length=0:=hw.2 rfl;simp[this]
 |false =>
  rw[hw2] at hw;have:¬(wo (bx t.names) vars).length=0:=fun h=>by have:=hw.1 h;simp at this
  have:0<(wo (bx t.names) vars).length:=by omega
  simp[this]
theorem r60(c:ClM)(hb:ClB c):rn ⟨60,0,0⟩ c.row=some (0,[.bool c.valid]):=by
 unfold ClM.row;have h1:=r94 c.d hb.d c.v hb.v hb.vs c.l hb.wl hb.ln;have h2:=r94 c.d hb.d c.v hb.v hb.vs c.r hb.wr hb.rn;have h3:=r95 c.v hb.v;have hv:=hb.v;have hl:(wv c.v).length<=1099511627776:=by unfold wv;rw[B6];omega
 have h4:=r96 (c.d.so.map ag) c.d.op hb.d.op (wv c.v) hl c.l hb.wl;have h5:=r96 (c.d.so.map ag) c.d.op hb.d.op (wv c.v) hl c.r hb.wr;have h6:=r97 (c.d.so.map ag) c.d.op hb.d.op (wv c.v) hl c.v (ba (by omega)) (Tb c.v) c.g hb.g hb.ga
 rw[e60_0_0];simp only[h1,h2,h3,h4,h5,h6,nv0,nvS,dvI,dvB,dvS,dvL,B5];unfold ClM.valid;cases jq c.d c.v c.l<;>try rfl
 cases jq c.d c.v c.r<;>try rfl
 cases decide (ay c.d.op (wv c.v) c.l=ay c.d.op (wv c.v) c.r)<;>rfl
theorem r36(c:ClM)(hb:ClB c):rn ⟨36,0,0⟩ c.row=some (0,[.bool c.valid]):=by
 unfold ClM.row;have h1:=r61 c.d hb.d c.v hb.v hb.vs c.l hb.wl hb.ln;have h2:=r61 c.d hb.d c.v hb.v hb.vs c.r hb.wr hb.rn;have h3:=r62 c.v hb.v;have hv:=hb.v;have hg:=hb.g;have hl:(wv c.v).length<=1099511627776:=by unfold wv;rw[B6];omega
 have h4:=r64 (c.d.so.map ag) c.d.op hb.d.op (wv c.v) hl c.l hb.wl;have h5:=r64 (c.d.so.map ag) c.d.op hb.d.op (wv c.v) hl c.r hb.wr;have hlp:∀ n i,i+n=c.g.length->rn ⟨36,0,1⟩ (.int (i:Int)::(c.row++[.sl ((wv c.v).map VS.row)]))=bif (c.g.drop i).all (rx c.d.op (wv c.v)) then some (0,c.row++[.sl ((wv c.v).map VS.row)]) else some (1,[]):=by
  unfold ClM.row;simp only[F2,D8];intro n;induction n with
  |zero =>
   intro i hi;obtain rfl:i=c.g.length:=by omega
   rw[e36_0_1];simp only[B6,C1,D3,H4,H2,C6,K8,H1]
  |succ n ih =>
   intro i hi;have hlt:i<c.g.length:=by omega
   rw[e36_0_1,B8 hlt];have h1:=r63 (c.d.so.map ag) c.d.op hb.d.op (wv c.v) hl c.g[i] (hb.ga _ (C0 hlt));simp only[B6,C1,hlt,H3,H1,aq,B7,ab hlt,ae hlt (ba (by omega)),Gu.row,nv0,nvS,dvI,dvB,dvS,dvL,B5,h1,ih (i+1) (by omega),J2]
   cases rx c.d.op (wv c.v) c.g[i]<;>simp
 have h6:=hlp c.g.length 0 (by omega)
 unfold ClM.row at h6;simp only[D2,C3,F2,D8] at h6;rw[e36_0_0];simp only[h1,h2,h3,h6,nv0,nvS,dvI,dvB,dvS,dvL,B5,B6];unfold ClM.valid zb;cases jq c.d c.v c.l<;>try rfl
 cases jq c.d c.v c.r<;>try rfl
 by_cases q:c.g.length<=2
 ·have q':¬((2:Int)<(c.g.length:Int)):=by omega
  simp only[q,q',H3,H4,H2,D0,D9,K9];cases c.g.all (rx c.d.op (wv c.v)) with
  |false=>simp only[P2];rfl
  |true=>simp only[H1,nv0,nvS,dvI,dvB,dvS,dvL,B5,D5,H1,H2,h4,h5,K9]
 ·have q':((2:Int)<(c.g.length:Int)):=by omega
  simp[q,q']
theorem Zi(xs:aa)(h:xs.length<=274877906944):rn ⟨260,0,0⟩ [.sl xs]=some (0,[.sl xs]):=by
 rw[e260_0_0];have hb:F5 (([]:aa).length+xs.length) M63=true:=E9 (by unfold M63;simpa using h)
 rw[hb];cases xs with
 |nil=>simp[sj]
 |cons x xs=>rfl
theorem r239(a b c:aa)(st:List StM)(hst:st.length<=1048576)(s:ByteArray):rn ⟨239,0,0⟩ [.sl a,.sl b,.sl c,.sl (st.map StM.row),.str s]=some (0,[.sl ((lb st s).map am)]):=by
 have key:∀ n i (acc:List Int),i+n=st.length->acc.length<=i->rn ⟨239,0,1⟩ [.str s,.sl (st.map StM.row),.int (st.length:Int),.int (i:Int),.sl (acc.map am)]=some (0,[.sl ((acc++lb (st.drop i) s).map am)]):=by
  intro n;induction n with
  |zero =>
   intro i acc hi ha;obtain rfl:i=st.length:=by omega
   rw[e239_0_1];simp only[B6,C1,D3,H4,H2,C6,lb,T5,D4,G5]
  |succ n ih =>
   intro i acc hi ha;have hlt:i<st.length:=by omega
   rw[e239_0_1,B8 hlt,Er];have hb2:F5 (acc.length+1) M63=true:=nb (by omega)
   have h1:=ih (i+1) (acc++[st[i].a]) (by omega) (by simp;omega)
   have h2:=ih (i+1) acc (by omega) (by omega)
   simp only[D6,C4,D4,am] at h1 h2;simp only[B6,C1,hlt,H3,H1,aq,B7,ab hlt,ae hlt (ba (by omega)),StM.row,nv0,nvS,dvI,dvB,dvS,dvL,B5,C2,C5,D1,hb2,am]
   by_cases hq:st[i].o=s
   ·simp only[hq,H3,H1,if_true,h1,D6,C4,E2,F2,D8,am]
   ·simp only[hq,H4,H2,if_false,h2,D6,am]
 have h:=key st.length 0 [] (by omega) (G9 _)
 rw[e239_0_0];simp only[C3,D4,D2,D8,B6] at h ⊢;simp only[h,nv0,nvS,dvI,dvB,dvS,dvL,B5,D5,H1,H2]
theorem r171(a b c:aa)(st:List StM)(hst:st.length<=1048576)(s:ByteArray):rn ⟨171,0,0⟩ [.sl a,.sl b,.sl c,.sl (st.map StM.row),.str s]=some (0,[.sl ((lb st s).map am)]):=by
 have key:∀ n i (acc:List Int),i+n=st.length->acc.length<=i->rn ⟨171,0,1⟩ [.str s,.int (i:Int),.sl a,.sl b,.sl c,.sl (st.map StM.row),.sl (acc.map am)]=some (0,[.sl ((acc++lb (st.drop i) s).map am)]):=by
  intro n;induction n with
  |zero =>
   intro i acc hi ha;obtain rfl:i=st.length:=by omega
   rw[e171_0_1];simp only[B6,C1,D3,H4,H2,C6,lb,T5,D4,G5]
  |succ n ih =>
   intro i acc hi ha;have hlt:i<st.length:=by omega
   rw[e171_0_1,B8 hlt,Er];have hb2:F5 (acc.length+1) M63=true:=nb (by omega)
   have h1:=ih (i+1) (acc++[st[i].a]) (by omega) (by simp;omega)
   have h2:=ih (i+1) acc (by omega) (by omega)
   simp only[D6,C4,D4,am] at h1 h2;simp only[B6,C1,hlt,H3,H1,aq,B7,ab hlt,ae hlt (ba (by omega)),StM.row,nv0,nvS,dvI,dvB,dvS,dvL,B5,C2,C5,D1,hb2,am]
   by_cases hq:st[i].o=s
   ·simp only[hq,H3,H1,if_true,h1,D6,C4,E2,F2,D8,am]
   ·simp only[hq,H4,H2,if_false,h2,D6,am]
 have h:=key st.length 0 [] (by omega) (G9 _)
 rw[e171_0_0];simp only[C3,D4,D2,D8] at h ⊢;simp only[h,nv0,nvS,dvI,dvB,dvS,dvL,B5,D5,H1,H2]
theorem r200(d:DfM)(hb:DfB d)(t:Tm):rn ⟨200,0,0⟩ [.sl (d.so.map ag),.sl (d.op.map OpM.row),.sl (d.ru.map RuM.row),.sl (d.st.map StM.row),.int t.k,.int t.n,.str t.s,.sl (t.as.map Tm.row)]=some (0,[.sl ((stL d.st t).map am)]):=by
 have h:=fun a b c=>r239 a b c d.st hb.st t.s
 rw[e200_0_0];unfold stL;by_cases hk:t.k=2
 ·simp only[h,hk,nv0,nvS,dvI,dvB,dvS,dvL,B5,if_true,H3,D0,H2]
 ·simp[hk]
theorem r202(t u:Tm)(p:List Int)(hp:p.length<=1048576)(h:atT t p=some u):rn ⟨202,0,0⟩ [.int t.k,.int t.n,.str t.s,.sl (t.as.map Tm.row),.sl (p.map am)]=some (0,[.int u.k,.int u.n,.str u.s,.sl (u.as.map Tm.row),.bool true]):=by
 have key:∀ n i (t:Tm),i+n=p.length->atT t (p.drop i)=some u->rn ⟨202,0,1⟩ [.sl (p.map am),.int (p.length:Int),.int (i:Int),.int t.k,.int t.n,.str t.s,.sl (t.as.map Tm.row),.int 0,.int 0,.str e0,.sl []]=some (0,[.int u.k,.int u.n,.str u.s,.sl (u.as.map Tm.row),.int 0,.int 0,.str e0,.sl []]):=by
  intro n;induction n with
  |zero =>
   intro i t hi h;obtain rfl:i=p.length:=by omega
   rw[C6] at h;simp only[atT,C9.injEq] at h;subst h;rw[e202_0_1];simp only[B6,C1,D3,H4,H2,C6]
  |succ n ih =>
   intro i t hi h;have hlt:i<p.length:=by omega
   rw[B8 hlt] at h;obtain⟨hm,h0,h1⟩:=cr h;have h2:=ih (i+1) _ (by omega) h1
   rw[e202_0_1];generalize hj:p[i]=j at hm h0 h1 h2;obtain⟨m,rfl⟩:∃ m:Nat,j=(m:Int):=⟨j.toNat,by omega⟩
   rw[B7] at hm;simp only[B7] at h2;have q1:¬((m:Int)<0):=by omega
   have q2:¬((t.as.length:Int)<=(m:Int)):=by omega
   simp only[B6,C1,hlt,H3,H1,aq,B7,ab hlt,ae hlt (ba (by omega)),hm,hj,q1,q2,H4,H2,ab hm,Tm.row_eq,am,nv0,nvS,dvI,dvB,dvS,dvL,B5]
   exact h2
 have h1:=key p.length 0 t (by omega) (by rw[D2];exact h)
 simp only[C3] at h1;rw[e202_0_0];simp only[B6,h1,nv0,nvS,dvI,dvB,dvS,dvL,B5,D5,H1,H2]
theorem r174(t u:Tm)(hn:t.nodes<=1048577)(p:List Int)(hp:p.length<=1048576)(h:atT t p=some u):rn ⟨174,0,0⟩ [.int t.k,.int t.n,.str t.s,.sl (t.as.map Tm.row),.sl (p.map am)]=some (0,[.int u.k,.int u.n,.str u.s,.bool true,.sl (u.as.map Tm.row)]):=by
 have key:∀ n i (t:Tm),i+n=p.length->t.nodes<=1048577->atT t (p.drop i)=some u->rn ⟨174,0,1⟩ [.sl (p.map am),.int (i:Int),.int t.k,.int t.n,.str t.s,.sl (t.as.map Tm.row),.int 0,.int 0,.str e0,.sl []]=some (0,[.int u.k,.int u.n,.str u.s,.sl (u.as.map Tm.row),.int 0,.int 0,.str e0,.sl []]):=by
  intro n;induction n with
  |zero =>
   intro i t hi _ h;obtain rfl:i=p.length:=by omega
   rw[C6] at h;simp only[atT,C9.injEq] at h;subst h;rw[e174_0_1];simp only[B6,C1,D3,H4,H2,C6]
  |succ n ih =>
   intro i t hi hn h;have hlt:i<p.length:=by omega
   rw[B8 hlt] at h;obtain⟨hm,h0,h1⟩:=cr h;have hls:=dg (xs:=t.as);have hnd:=Tm.nodes_eq t;have hmn:=ei (f:=Tm.nodes) (C0 hm);have h2:=ih (i+1) _ (by omega) (by omega) h1
   rw[e174_0_1];generalize hj:p[i]=j at hm h0 h1 h2 hmn;obtain⟨m,rfl⟩:∃ m:Nat,j=(m:Int):=⟨j.toNat,by omega⟩
   rw[B7] at hm;simp only[B7] at h2;have q2:(m:Int)<=(t.as.length:Int)-1:=by omega
   have hw:IntKind.i64.wrap ((t.as.length:Int)-1)=(t.as.length:Int)-1:=IntWalk.i64_in _ (by omega)
   simp only[B6,C1,hlt,H3,H1,aq,B7,ab hlt,ae hlt (ba (by omega)),hm,hj,hw,rIn,h0,q2,K9,D0,H2,ab hm,Tm.row_eq,am,nv0,nvS,dvI,dvB,dvS,dvL,B5]
   exact h2
 have h1:=key p.length 0 t (by omega) hn (by rw[D2];exact h)
 have hun:=ji p t u h;have h3:=r65 u (ak u (by omega))
 simp only[C3] at h1;rw[e174_0_0];simp only[h1,h3,nv0,nvS,dvI,dvB,dvS,dvL,B5,D5,H1,H2]
theorem r241(t w:Tm)(hn:t.nodes<=1048577)(m:Nat)(hm:m<t.as.length):rn ⟨241,0,0⟩ [.int t.k,.int t.n,.str t.s,.sl (t.as.map Tm.row),.int (m:Int),.int w.k,.int w.n,.str w.s,.sl (w.as.map Tm.row)]=some (0,[.int t.k,.int t.n,.str t.s,.sl ((t.as.set m w).map Tm.row)]):=by
 have hls:=dg (xs:=t.as);have hnd:=Tm.nodes_eq t;have h1:=Zi (t.as.map Tm.row) (by rw[B6];omega)
 rw[e241_0_0];simp only[h1,nv0,nvS,dvI,dvB,dvS,dvL,B5,B6,aq,hm,H3,H1,B7,Od hm]
theorem r204(w:Tm):∀ (p:List Int) (t u:Tm),t.nodes<=1048577->p.length<=1048576->atT t p=some u->rn ⟨204,0,0⟩ [.int t.k,.int t.n,.str t.s,.sl (t.as.map Tm.row),.sl (p.map am),.int w.k,.int w.n,.str w.s,.sl (w.as.map Tm.row)]=some (0,[.int (cu t p w).k,.int (cu t p w).n,.str (cu t p w).s,.sl ((cu t p w).as.map Tm.row)])
 | [],t,u,hn,hp,h=>by
  rw[e204_0_0];simp[cu]
 |j::p,t,u,hn,hp,h=>by
  obtain⟨hm,h0,h1⟩:=cr h;have hls:=dg (xs:=t.as);have hnd:=Tm.nodes_eq t;have hmn:=ei (f:=Tm.nodes) (C0 hm);have h2:=r204 w p _ u (by omega) (by simp only[C2] at hp;omega) h1
  have ht:=Ep j p;rw[e204_0_0];simp only[cu,dif_pos hm];obtain⟨m,rfl⟩:∃ m:Nat,j=(m:Int):=⟨j.toNat,by omega⟩
  simp only[B7] at hm h2 ⊢;have h3:=r241 t (cu t.as[m] p w) hn m hm;have q0:rowAt (((m:Int)::p).map am) 0=[.int (m:Int)]:=rfl;have q1:inb 0 (((m:Int)::p).map am).length=true:=by simp[inb]
  have q2:¬(((((m:Int)::p).map am).length:Nat):Int)=0:=by simp;omega
  have q3:(1:Int)<=((((m:Int)::p).map am).length:Nat):=by simp only[B6,C2];omega
  have hm':m<(t.as.map Tm.row).length:=by rw[B6];exact hm
  have q4:(0:Int)<=1:=by decide
  simp only[q0,q1,q2,q3,q4,ht,show P1 0=0 from rfl,Int.le_refl,nv0,nvS,dvI,dvB,dvS,dvL,B5,aq,hm',ab hm,Tm.row_eq,H3,H4,H1,H2,K9,B7,h2,h3]
  rfl
theorem r176(w:Tm)(hw:w.nodes<=1048577):∀ (p:List Int) (t u:Tm),t.nodes<=1048577->p.length<=1048576->atT t p=some u->rn ⟨176,0,0⟩ [.int t.k,.int t.n,.str t.s,.sl (t.as.map Tm.row),.sl (p.map am),.int w.k,.int w.n,.str w.s,.sl (w.as.map Tm.row)]=some (0,[.int (cu t p w).k,.int (cu t p w).n,.str (cu t p w).s,.sl ((cu t p w).as.map Tm.row)])
 | [],t,u,hn,hp,h=>by
  have h3:=r65 w (ak w hw);rw[e176_0_0];simp only[D4,C5,C3,H3,H1,h3,nv0,nvS,dvI,dvB,dvS,dvL,B5,cu]
 |j::p,t,u,hn,hp,h=>by
  obtain⟨hm,h0,h1⟩:=cr h;have hls:=dg (xs:=t.as);have hnd:=Tm.nodes_eq t;have hmn:=ei (f:=Tm.nodes) (C0 hm);have h2:=r176 w hw p _ u (by omega) (by simp only[C2] at hp;omega) h1
  have h3:=r65 t (ak t hn);have ht:=Ep j p;rw[e176_0_0];simp only[cu,dif_pos hm];obtain⟨m,rfl⟩:∃ m:Nat,j=(m:Int):=⟨j.toNat,by omega⟩
  simp only[B7] at hm h2 ⊢;have q0:rowAt (((m:Int)::p).map am) 0=[.int (m:Int)]:=rfl;have q1:inb 0 (((m:Int)::p).map am).length=true:=by simp[inb]
  have q2:¬(((((m:Int)::p).map am).length:Nat):Int)=0:=by simp;omega
  have q3:(1:Int)<=((((m:Int)::p).map am).length:Nat):=by simp only[B6,C2];omega
  have hm':m<(t.as.map Tm.row).length:=by rw[B6];exact hm
  have q4:(0:Int)<=1:=by decide
  have q5:=Od hm (cu t.as[m] p w);simp only[q0,q1,q2,q3,q4,ht,show P1 0=0 from rfl,Int.le_refl,nv0,nvS,dvI,dvB,dvS,dvL,B5,aq,hm',H3,H4,H1,H2,K9,B7,h3]
  rw[ab hm] at q5 ⊢;simp only[Tm.row_eq,nv0,nvS,dvI,dvB,dvS,dvL,B5] at q5 ⊢;simp only[h2,nv0,nvS,dvI,dvB,dvS,dvL,B5,q5];rfl
theorem mI2:∀ t u:Tm,∀ l:List Bnd,au u->(∀ b∈l,au b.2)->l.length+t.nodes<=1048576->rn ⟨206,2,0⟩ [.int t.k,.int t.n,.str t.s,.sl (t.as.map Tm.row),.int u.k,.int u.n,.str u.s,.sl (u.as.map Tm.row),.sl (l.map Bnd.row)]=some (0,foI (mT t u l) (if t.k=1 then l.map Bnd.row else [])):=Tm.ind fun t ih u l hu hl hb=>by
 have hnd:=Tm.nodes_eq t;have hls:=dg (xs:=t.as);have hlp:t.as.length=u.as.length->∀ n i (l:List Bnd),i+n=t.as.length->(∀ b∈l,au b.2)->l.length+((t.as.drop i).map Tm.nodes).sum<=1048576->rn ⟨206,2,1⟩ [.int (t.as.length:Int),.int (i:Int),.sl (l.map Bnd.row),.int t.k,.int t.n,.str t.s,.sl (t.as.map Tm.row),.int u.k,.int u.n,.str u.s,.sl (u.as.map Tm.row)]=match mTs (t.as.drop i) (u.as.drop i) l with
  |some l'=>some (0,[.sl (l'.map Bnd.row)])
  |none=>some (1,[.sl []]):=by
  intro hlen n;induction n with
  |zero =>
   intro i l hi hl hb;obtain rfl:i=t.as.length:=by omega
   rw[e206_2_1];simp only[B6,C1,D3,H4,H2,C6,mTs]
  |succ n ih2 =>
   intro i l hi hl hb;have hlt:i<t.as.length:=by omega
   have hlu:i<u.as.length:=by omega
   rw[B8 hlt] at hb ⊢;rw[B8 hlu];simp only[C4,K1] at hb;have hm:=C0 hlt;have hmu:=C0 hlu;have h1:=ih _ hm u.as[i] l (hu.sub hmu) hl (by omega)
   rw[e206_2_1];simp only[B6,C1,hlt,H3,H1,aq,B7,ab hlt,ae hlt (ba (by omega)),hlu,ab hlu,Tm.row_eq,nv0,nvS,dvI,dvB,dvS,dvL,B5,h1,mTs]
   cases hq:mT t.as[i] u.as[i] l with
   |none=>rfl
   |some l1 =>
    have hl1:=kz au (fun t a h ha=>h.sub ha) _ _ l l1 (hu.sub hmu) hl hq
    have hn1:=xo _ _ _ _ hq;have h2:=ih2 (i+1) l1 (by omega) hl1 (by omega)
    simp only[foI,nv0,nvS,dvI,dvB,dvS,dvL,B5,D0,H2,h2]
 have h0:=fun h=>hlp h t.as.length 0 l (by omega) hl (by rw[D2];omega)
 simp only[D2,C3] at h0;rw[e206_2_0,Jo];by_cases h1:t.k=1
 ·have hbd:=r184 l (by omega) t.s
  have hb2:F5 (l.length+1) M63=true:=nb (by omega)
  simp only[h1,H3,H1,if_true,hbd];cases hq:bnd l t.s with
  |some v =>
   have he:=r129 v u (vz hl hq);simp only[nv0,nvS,dvI,dvB,dvS,dvL,B5,H1,he];cases eqb v.row u.row<;>rfl
  |none =>
   simp only[nv0,nvS,dvI,dvB,dvS,dvL,B5,H2,B6,C2,C5,D1,hb2,H1,foI,D6,C4,D4,gq]
 ·simp only[h1,H4,H2,if_false]
  by_cases e1:t.k=u.k
  ·rw[H7 e1,H5 e1]
   by_cases e2:t.n=u.n
   ·rw[H7 e2,H5 e2]
    by_cases e3:t.s=u.s
    ·rw[H7 e3,H5 e3]
     by_cases e4:t.as.length=u.as.length
     ·have e4':((t.as.map Tm.row).length:Int)=((u.as.map Tm.row).length:Int):=by simp[e4]
      rw[H7 e4',H5 e4];simp only[D0,H2,B6,h0 e4];cases mTs t.as u.as l<;>rfl
     ·have e4':¬((t.as.map Tm.row).length:Int)=((u.as.map Tm.row).length:Int):=by simp;omega
      rw[H8 e4',H6 e4];rfl
    ·rw[H8 e3,H6 e3];rfl
   ·rw[H8 e2,H6 e2];rfl
  ·rw[H8 e1,H6 e1];rfl
theorem mI1:∀ t u:Tm,∀ l:List Bnd,au u->(∀ b∈l,au b.2)->l.length+t.nodes<=1048576->rn ⟨206,1,0⟩ [.int t.k,.int t.n,.str t.s,.sl (t.as.map Tm.row),.int u.k,.int u.n,.str u.s,.sl (u.as.map Tm.row),.sl (l.map Bnd.row)]=some (0,foI (mT t u l) (if t.k=1 then l.map Bnd.row else [])):=fun t u l hu hl hb=>by
 have ih:=fun (a:Tm) (_:a∈t.as)=>mI2 a
 have hnd:=Tm.nodes_eq t;have hls:=dg (xs:=t.as);have hlp:t.as.length=u.as.length->∀ n i (l:List Bnd),i+n=t.as.length->(∀ b∈l,au b.2)->l.length+((t.as.drop i).map Tm.nodes).sum<=1048576->rn ⟨206,1,1⟩ [.int (t.as.length:Int),.int (i:Int),.sl (l.map Bnd.row),.int t.k,.int t.n,.str t.s,.sl (t.as.map Tm.row),.int u.k,.int u.n,.str u.s,.sl (u.as.map Tm.row)]=match mTs (t.as.drop i) (u.as.drop i) l with
  |some l'=>some (0,[.sl (l'.map Bnd.row)])
  |none=>some (1,[.sl []]):=by
  intro hlen n;induction n with
  |zero =>
   intro i l hi hl hb;obtain rfl:i=t.as.length:=by omega
   rw[e206_1_1];simp only[B6,C1,D3,H4,H2,C6,mTs]
  |succ n ih2 =>
   intro i l hi hl hb;have hlt:i<t.as.length:=by omega
   have hlu:i<u.as.length:=by omega
   rw[B8 hlt] at hb ⊢;rw[B8 hlu];simp only[C4,K1] at hb;have hm:=C0 hlt;have hmu:=C0 hlu;have h1:=ih _ hm u.as[i] l (hu.sub hmu) hl (by omega)
   rw[e206_1_1];simp only[B6,C1,hlt,H3,H1,aq,B7,ab hlt,ae hlt (ba (by omega)),hlu,ab hlu,Tm.row_eq,nv0,nvS,dvI,dvB,dvS,dvL,B5,h1,mTs]
   cases hq:mT t.as[i] u.as[i] l with
   |none=>rfl
   |some l1 =>
    have hl1:=kz au (fun t a h ha=>h.sub ha) _ _ l l1 (hu.sub hmu) hl hq
    have hn1:=xo _ _ _ _ hq;have h2:=ih2 (i+1) l1 (by omega) hl1 (by omega)
    simp only[foI,nv0,nvS,dvI,dvB,dvS,dvL,B5,D0,H2,h2]
 have h0:=fun h=>hlp h t.as.length 0 l (by omega) hl (by rw[D2];omega)
 simp only[D2,C3] at h0;rw[e206_1_0,Jo];by_cases h1:t.k=1
 ·have hbd:=r184 l (by omega) t.s
  have hb2:F5 (l.length+1) M63=true:=nb (by omega)
  simp only[h1,H3,H1,if_true,hbd];cases hq:bnd l t.s with
  |some v =>
   have he:=r129 v u (vz hl hq);simp only[nv0,nvS,dvI,dvB,dvS,dvL,B5,H1,he];cases eqb v.row u.row<;>rfl
  |none =>
   simp only[nv0,nvS,dvI,dvB,dvS,dvL,B5,H2,B6,C2,C5,D1,hb2,H1,foI,D6,C4,D4,gq]
 ·simp only[h1,H4,H2,if_false]
  by_cases e1:t.k=u.k
  ·rw[H7 e1,H5 e1]
   by_cases e2:t.n=u.n
   ·rw[H7 e2,H5 e2]
    by_cases e3:t.s=u.s
    ·rw[H7 e3,H5 e3]
     by_cases e4:t.as.length=u.as.length
     ·have e4':((t.as.map Tm.row).length:Int)=((u.as.map Tm.row).length:Int):=by simp[e4]
      rw[H7 e4',H5 e4];simp only[D0,H2,B6,h0 e4];cases mTs t.as u.as l<;>rfl
     ·have e4':¬((t.as.map Tm.row).length:Int)=((u.as.map Tm.row).length:Int):=by simp;omega
      rw[H8 e4',H6 e4];rfl
    ·rw[H8 e3,H6 e3];rfl
   ·rw[H8 e2,H6 e2];rfl
  ·rw[H8 e1,H6 e1];rfl
theorem mS:∀ t u:Tm,∀ l:List Bnd,au u->(∀ b∈l,au b.2)->l.length+t.nodes<=1048576->(∀ l',mT t u l=some l'->rn ⟨209,1,0⟩ [.int t.k,.int t.n,.str t.s,.sl (t.as.map Tm.row),.int u.k,.int u.n,.str u.s,.sl (u.as.map Tm.row),.sl (l.map Bnd.row)]=some (0,[.bool true,.sl (l'.map Bnd.row)]))/\(mT t u l=none->(∃ X,rn ⟨209,1,0⟩ [.int t.k,.int t.n,.str t.s,.sl (t.as.map Tm.row),.int u.k,.int u.n,.str u.s,.sl (u.as.map Tm.row),.sl (l.map Bnd.row)]=some (0,[.bool false,.sl X]))\/rn ⟨209,1,0⟩ [.int t.k,.int t.n,.str t.s,.sl (t.as.map Tm.row),.int u.k,.int u.n,.str u.s,.sl (u.as.map Tm.row),.sl (l.map Bnd.row)]=some (1,[])):=Tm.ind fun t ih u l hu hl hb=>by
 have hnd:=Tm.nodes_eq t;have hls:=dg (xs:=t.as);have hlp:t.as.length=u.as.length->∀ n i (l:List Bnd),i+n=t.as.length->(∀ b∈l,au b.2)->l.length+((t.as.drop i).map Tm.nodes).sum<=1048576->rn ⟨209,1,1⟩ [.int (i:Int),.sl (l.map Bnd.row),.int t.k,.int t.n,.str t.s,.sl (t.as.map Tm.row),.int u.k,.int u.n,.str u.s,.sl (u.as.map Tm.row)]=match mTs (t.as.drop i) (u.as.drop i) l with
  |some l'=>some (0,[.sl (l'.map Bnd.row)])
  |none=>some (1,[]):=by
  intro hlen n;induction n with
  |zero =>
   intro i l hi hl hb;obtain rfl:i=t.as.length:=by omega
   rw[e209_1_1];simp only[B6,C1,D3,H4,H2,C6,mTs]
  |succ n ih2 =>
   intro i l hi hl hb;have hlt:i<t.as.length:=by omega
   have hlu:i<u.as.length:=by omega
   rw[B8 hlt] at hb ⊢;rw[B8 hlu];simp only[C4,K1] at hb;have hm:=C0 hlt;have hmu:=C0 hlu;obtain⟨h1,h1'⟩:=ih _ hm u.as[i] l (hu.sub hmu) hl (by omega)
   rw[e209_1_1];simp only[B6,C1,hlt,H3,H1,aq,B7,ab hlt,ae hlt (ba (by omega)),hlu,ab hlu,Tm.row_eq,nv0,nvS,dvI,dvB,dvS,dvL,B5,mTs]
   cases hq:mT t.as[i] u.as[i] l with
   |none =>
    rcases h1' hq with ⟨X,e⟩ |e
    ·rw[e];rfl
    ·rw[e];rfl
   |some l1 =>
    have hl1:=kz au (fun t a h ha=>h.sub ha) _ _ l l1 (hu.sub hmu) hl hq
    have hn1:=xo _ _ _ _ hq;have h2:=ih2 (i+1) l1 (by omega) hl1 (by omega)
    simp only[h1 l1 hq,nv0,nvS,dvI,dvB,dvS,dvL,B5,D5,H1,H2,D0,h2]
 have h0:=fun h=>hlp h t.as.length 0 l (by omega) hl (by rw[D2];omega)
 simp only[D2,C3] at h0;rw[e209_1_0,Jo];by_cases h1:t.k=1
 ·have hbd:=r115 l (by omega) hl t.s
  have hb2:F5 (l.length+1) M63=true:=nb (by omega)
  have hcp:=r65 u hu;simp only[h1,H3,H1,if_true,hbd];cases hq:bnd l t.s with
  |some v =>
   have he:=r68 v u (vz hl hq);simp only[nv0,nvS,dvI,dvB,dvS,dvL,B5,H1,he];cases eqb v.row u.row with
   |true=>exact⟨fun l' h=>by simp only[if_true,C9.injEq] at h;subst h;rfl,fun h=>by simp at h⟩
   |false=>exact⟨fun l' h=>by simp at h,fun _=>.inl ⟨_,rfl⟩⟩
  |none =>
   refine⟨fun l' h=>?_,fun h=>by simp at h⟩
   simp only[C9.injEq] at h;subst h;simp only[nv0,nvS,dvI,dvB,dvS,dvL,B5,H2,hcp,B6,C2,C5,D1,hb2,H1,D6,C4,D4,gq]
 ·simp only[h1,H4,H2,if_false]
  by_cases e1:t.k=u.k
  ·rw[H7 e1,H5 e1]
   by_cases e2:t.n=u.n
   ·rw[H7 e2,H5 e2]
    by_cases e3:t.s=u.s
    ·rw[H7 e3,H5 e3]
     by_cases e4:t.as.length=u.as.length
     ·have e4':((t.as.map Tm.row).length:Int)=((u.as.map Tm.row).length:Int):=by simp[e4]
      rw[H7 e4',H5 e4];simp only[D0,H2,h0 e4];cases mTs t.as u.as l with
      |none=>exact⟨fun l' h=>by simp at h,fun _=>.inr rfl⟩
      |some l2=>exact⟨fun l' h=>by simp only[C9.injEq] at h;subst h;rfl,fun h=>by simp at h⟩
     ·have e4':¬((t.as.map Tm.row).length:Int)=((u.as.map Tm.row).length:Int):=by simp;omega
      rw[H8 e4',H6 e4];exact⟨fun l' h=>by simp at h,fun _=>.inl ⟨_,rfl⟩⟩
    ·rw[H8 e3,H6 e3];exact⟨fun l' h=>by simp at h,fun _=>.inl ⟨_,rfl⟩⟩
   ·rw[H8 e2,H6 e2];exact⟨fun l' h=>by simp at h,fun _=>.inl ⟨_,rfl⟩⟩
  ·rw[H8 e1,H6 e1];exact⟨fun l' h=>by simp at h,fun _=>.inl ⟨_,rfl⟩⟩
theorem r210(l:List Bnd)(hl:l.length<=1048576)(hs:∀ b∈l,au b.2)(ns:List ByteArray)(hn:ns.length<=1048577):rn ⟨210,0,0⟩ [.sl (l.map Bnd.row),.sl (ns.map ag)]=some (0,[.sl ((rsB l (bx ns)).map Bnd.row)]):=by
 have h1:=r168 ns (by omega)
 have hsl:=dl ns;rw[e210_0_0,h1];generalize bx ns=ms at hsl ⊢;have key:∀ n i (acc:List Bnd),i+n=ms.length->acc.length<=i->rn ⟨210,0,1⟩ [.sl (l.map Bnd.row),.int (i:Int),.sl (acc.map Bnd.row),.sl (ms.map ag)]=some (0,[.sl ((acc++rsB l (ms.drop i)).map Bnd.row)]):=by
  intro n;induction n with
  |zero =>
   intro i acc hi ha;obtain rfl:i=ms.length:=by omega
   rw[e210_0_1];simp only[B6,C1,D3,H4,H2,C6,rsB,List.filterMap_nil,G5]
  |succ n ih =>
   intro i acc hi ha;have hlt:i<ms.length:=by omega
   rw[e210_0_1,B8 hlt,Jt];have hbd:=r115 l hl hs ms[i];have hb2:F5 (acc.length+1) M63=true:=nb (by omega)
   simp only[B6,C1,hlt,H3,H1,aq,B7,ab hlt,ae hlt (ba (by omega)),ag,nv0,nvS,dvI,dvB,dvS,dvL,B5,hbd]
   cases hq:bnd l ms[i] with
   |none =>
    have h2:=ih (i+1) acc (by omega) (by omega)
    simp only[nv0,nvS,dvI,dvB,dvS,dvL,B5,H2,h2]
   |some v =>
    have h2:=ih (i+1) (acc++[(ms[i],v)]) (by omega) (by simp;omega)
    simp only[D6,C4,D4,gq,ag] at h2;simp only[nv0,nvS,dvI,dvB,dvS,dvL,B5,H1,C2,C5,D1,hb2,h2,D6,C4,E2,F2,D8,gq]
 have h:=key ms.length 0 [] (by omega) (G9 _)
 simp only[C3,D4,D2,D8] at h;simp only[h,nv0,nvS,dvI,dvB,dvS,dvL,B5,D5,H1,H2]
theorem r151(t u:Tm)(ht:t.nodes<=1048576)(hu:au u):rn ⟨151,0,0⟩ [.int t.k,.int t.n,.str t.s,.sl (t.as.map Tm.row),.int u.k,.int u.n,.str u.s,.sl (u.as.map Tm.row)]=some (0,foI ((mT t u []).map fun l=>rsB l (bx (bx t.names))) []):=by
 obtain⟨h1,h2⟩:=mS t u [] hu (by simp) (by simpa using ht)
 have h3:=r102 t (by omega)
 have hnl:=br t;have hsl:=dl t.names;rw[e151_0_0];simp only[D4] at h1 h2;cases hq:mT t u [] with
 |none =>
  rcases h2 hq with ⟨X,e⟩ |e
  ·rw[e];rfl
  ·rw[e];rfl
 |some l =>
  have hls:=kz au (fun t a h ha=>h.sub ha) t u [] l hu (by simp) hq
  have hln:=xo _ _ _ _ hq;simp only[C5] at hln;have h4:=r210 l (by omega) hls (bx t.names) (by omega)
  simp only[h1 l hq,nv0,nvS,dvI,dvB,dvS,dvL,B5,D5,H1,H2,D0,h3,h4,K2,foI]
theorem ah6(l:List Bnd)(hl:l.length<=1048576)(hs:∀ b∈l,b.2.nodes<=60)(gs:List Gu)(hg:gs.length<=1048576)(h:∀ g∈gs,g.l.nodes<=60/\g.r.nodes<=60):rn ⟨121,0,0⟩ [.sl (l.map Bnd.row),.sl (gs.map Gu.row)]=some (0,[.bool (gs.all fun g=>holds (du l g))]):=by
 have hss:∀ b∈l,au b.2:=fun b hb=>ak _ (by have:=hs b hb;omega)
 rw[e121_0_0];have hf:=Jd (F:=fun i=>rn ⟨121,0,1⟩ [.sl (l.map Bnd.row),.sl (gs.map Gu.row),.int (gs.map Gu.row).length,.int (i:Int)]) (xs:=gs) (p:=fun g=>holds (du l g)) (A:=some (0,[])) (B:=some (1,[])) (fun i hi=>?_) ?_
 ·simp only[C3] at hf
  rw[hf];cases gs.all fun g=>holds (du l g)<;>rfl
 ·have hgi:=h _ (C0 hi)
  have a1:=r179 l hl hss gs[i] ⟨by omega,by omega⟩
  have a2:=r178 (du l gs[i]) (Es hs hgi.1 hgi.2);rw[e121_0_1];simp only[B7,ab hi,Hi,B6,aq,hi,C1,H3,H1,nv0,nvS,dvI,dvB,dvS,dvL,B5,ae hi (by unfold maxLen;omega),a1,a2]
  cases holds (du l gs[i])<;>rfl
 ·rw[e121_0_1]
  simp
theorem r231(d:DfM)(hd:DfG d)(i:Nat)(hi:i<d.ru.length)(u:Tm)(hu:u.nodes<=60):rn ⟨231,0,0⟩ [.sl (d.so.map ag),.sl (d.op.map OpM.row),.sl (d.ru.map RuM.row),.sl (d.st.map StM.row),.int (i:Int),.int u.k,.int u.n,.str u.s,.sl (u.as.map Tm.row)]=some (0,frR (gi d.ru[i] u)):=by
 have hr:=hd.ru (C0 hi);have hln:=az hr.lv;have hrn:=az hr.rv;have h1:=mI1 d.ru[i].l u [] (ak u (by omega)) (by simp) (by simp;omega)
 rw[e231_0_0];simp only[D4] at h1;simp only[B6,aq,hi,H3,H1,B7,ab hi,RuM.row,nv0,nvS,dvI,dvB,dvS,dvL,B5,h1];unfold gi;cases hq:mT d.ru[i].l u [] with
 |none=>rfl
 |some l =>
  have hls:=kz (fun t=>t.nodes<=60) (fun t a h ha=>na t a h ha) _ u [] l hu (by simp) hq
  have hln2:=xo _ _ _ _ hq;simp only[C5] at hln2;have hss:∀ b∈l,au b.2:=fun b hb=>ak _ (by have:=hls b hb;omega)
  have h2:=ah6 l (by omega) hls d.ru[i].g hr.b.g (fun g hg=>⟨az (hr.gl g hg).1,az (hr.gl g hg).2⟩)
  have h3:=r125 l (by omega) hss d.ru[i].r (ak _ (by omega))
  have h4:=r124 (aS l d.ru[i].r) (mu hss _ (ak _ (by omega)))
  simp only[foI,nv0,nvS,dvI,dvB,dvS,dvL,B5,D0,H2,h2,h3,h4];cases d.ru[i].g.all fun g=>holds (du l g)<;>rfl
theorem r175{ops:List OpM}(r:RuM)(hr:RuG ops r)(u:Tm)(hu:u.nodes<=60):rn ⟨175,0,0⟩ [.str r.n,.int (r.l).k,.int (r.l).n,.str (r.l).s,.sl ((r.l).as.map Tm.row),.int (r.r).k,.int (r.r).n,.str (r.r).s,.sl ((r.r).as.map Tm.row),.sl (r.g.map Gu.row),.int u.k,.int u.n,.str u.s,.sl (u.as.map Tm.row)]=some (0,[.bool (gi r u).isSome,.sl ((fiL r u).map Bnd.row)]):=by
 have hln:=az hr.lv;have hrn:=az hr.rv;have hgl:=hr.b.g;have h1:=r151 r.l u (by omega) (ak u (by omega))
 have hL:(∀ b∈fiL r u,b.2.nodes<=60)/\(fiL r u).length<=1048576:=by
  unfold fiL;cases hq:mT r.l u [] with
  |none=>exact⟨by simp,by simp⟩
  |some l =>
   have hls:=kz (fun t=>t.nodes<=60) (fun t a h ha=>na t a h ha) _ u [] l hu (by simp) hq
   have h1:=dl r.l.names;have h2:=dl (bx r.l.names);have h3:=br r.l;have h4:=Oe l (bx (bx r.l.names));exact⟨fun b hb=>Og (P:=fun t=>t.nodes<=60) hls _ b hb,by show(rsB l _).length<=_;omega⟩
 have hss:∀ b∈fiL r u,au b.2:=fun b hb=>ak _ (by have:=hL.1 b hb;omega)
 have e:rn ⟨151,0,0⟩ [.int (r.l).k,.int (r.l).n,.str (r.l).s,.sl ((r.l).as.map Tm.row),.int u.k,.int u.n,.str u.s,.sl (u.as.map Tm.row)]=some (0,[.bool (mT r.l u []).isSome,.sl ((fiL r u).map Bnd.row)]):=by
  rw[h1];unfold fiL;cases mT r.l u []<;>rfl
 have key:∀ n i (b:Bool),i+n=r.g.length->rn ⟨175,0,1⟩ [.bool b,.int (i:Int),.str r.n,.int (r.l).k,.int (r.l).n,.str (r.l).s,.sl ((r.l).as.map Tm.row),.int (r.r).k,.int (r.r).n,.str (r.r).s,.sl ((r.r).as.map Tm.row),.sl (r.g.map Gu.row),.sl ((fiL r u).map Bnd.row)]=some (0,[.bool (b&&(r.g.drop i).all fun g=>holds (du (fiL r u) g)),.sl ((fiL r u).map Bnd.row)]):=by
  intro n;induction n with
  |zero =>
   intro i b hi;obtain rfl:i=r.g.length:=by omega
   rw[e175_0_1];simp only[B6,C1,D3,H4,H2,C6,K8,K9]
  |succ n ih =>
   intro i b hi;have hlt:i<r.g.length:=by omega
   have hgi:=hr.gl _ (C0 hlt);have g1:=az hgi.1;have g2:=az hgi.2;have a1:=r108 (fiL r u) hL.2 hss r.g[i] ⟨by omega,by omega⟩
   have a2:=r107 (du (fiL r u) r.g[i]) (Es hL.1 g1 g2);rw[e175_0_1,B8 hlt];cases b with
   |false=>simp[hlt]
   |true =>
    simp only[B6,C1,hlt,H3,H1,aq,B7,ab hlt,ae hlt (ba (by omega)),Hi,nv0,nvS,dvI,dvB,dvS,dvL,B5,a1,a2,ih (i+1) _ (by omega),J2,D9]
 have h2:=fun b=>key r.g.length 0 b (by omega)
 simp only[D2,C3] at h2;rw[e175_0_0];simp only[e,nv0,nvS,dvI,dvB,dvS,dvL,B5,D5,H1,H2,h2];rw[Ju];cases ((mT r.l u []).isSome&&r.g.all fun g=>holds (du (fiL r u) g))<;>rfl
theorem r201(d:DfM)(hd:DfG d)(u:Tm)(hu:u.nodes<=60):rn ⟨201,0,0⟩ [.sl (d.so.map ag),.sl (d.op.map OpM.row),.sl (d.ru.map RuM.row),.sl (d.st.map StM.row),.int u.k,.int u.n,.str u.s,.sl (u.as.map Tm.row)]=some (0,[.int (Mg (pc d.ru u))]):=by
 have hrl:=hd.b.ru;have key:∀ n i,i+n=d.ru.length->rn ⟨201,0,1⟩ [.int (d.ru.length:Int),.int (i:Int),.sl (d.so.map ag),.sl (d.op.map OpM.row),.sl (d.ru.map RuM.row),.sl (d.st.map StM.row),.int u.k,.int u.n,.str u.s,.sl (u.as.map Tm.row)]=match (d.ru.drop i).findIdx? (fun r=>(gi r u).isSome) with
  |some j=>some (1,[.int ((i+j:Nat):Int)])
  |none=>some (0,[]):=by
  intro n;induction n with
  |zero =>
   intro i hi;obtain rfl:i=d.ru.length:=by omega
   rw[e201_0_1];simp only[B6,C1,D3,H4,H2,C6,V4]
  |succ n ih =>
   intro i hi;have hlt:i<d.ru.length:=by omega
   have h1:=r231 d hd i hlt u hu;have h2:=ih (i+1) (by omega)
   rw[e201_0_1,B8 hlt,List.findIdx?_cons];simp only[C1,hlt,H3,H1,h1,ae hlt (ba (by omega)),h2]
   cases gi d.ru[i] u with
   |some w=>rfl
   |none =>
    simp only[frR,nv0,nvS,dvI,dvB,dvS,dvL,B5,H2,Option.isSome_none,N6,if_false];cases (d.ru.drop (i+1)).findIdx? (fun r=>(gi r u).isSome) with
    |none=>rfl
    |some j=>simp only[K2,show i+(j+1)=i+1+j by omega]
 have h:=key d.ru.length 0 (by omega)
 simp only[D2,C3,D1] at h;rw[e201_0_0];simp only[B6,h];unfold pc;cases d.ru.findIdx? (fun r=>(gi r u).isSome)<;>rfl
theorem r172(d:DfM)(hd:DfG d)(u:Tm)(hu:u.nodes<=60):rn ⟨172,0,0⟩ [.sl (d.so.map ag),.sl (d.op.map OpM.row),.sl (d.ru.map RuM.row),.sl (d.st.map StM.row),.int u.k,.int u.n,.str u.s,.sl (u.as.map Tm.row)]=some (0,[.int (Mg (pc d.ru u))]):=by
 have hrl:=hd.b.ru;have key:∀ n i,i+n=d.ru.length->rn ⟨172,0,1⟩ [.int (i:Int),.sl (d.so.map ag),.sl (d.op.map OpM.row),.sl (d.ru.map RuM.row),.sl (d.st.map StM.row),.int u.k,.int u.n,.str u.s,.sl (u.as.map Tm.row)]=match (d.ru.drop i).findIdx? (fun r=>(gi r u).isSome) with
  |some j=>some (1,[.int ((i+j:Nat):Int)])
  |none=>some (0,[]):=by
  intro n;induction n with
  |zero =>
   intro i hi;obtain rfl:i=d.ru.length:=by omega
   rw[e172_0_1];simp only[B6,C1,D3,H4,H2,C6,V4]
  |succ n ih =>
   intro i hi;have hlt:i<d.ru.length:=by omega
   have h1:=r175 d.ru[i] (hd.ru (C0 hlt)) u hu;have h2:=ih (i+1) (by omega)
   rw[e172_0_1,B8 hlt,List.findIdx?_cons];simp only[B6,C1,hlt,H3,H1,aq,B7,ab hlt,ae hlt (ba (by omega)),RuM.row,nv0,nvS,dvI,dvB,dvS,dvL,B5,h1,h2]
   cases gi d.ru[i] u with
   |some w=>rfl
   |none =>
    simp only[H2,Option.isSome_none,N6,if_false];cases (d.ru.drop (i+1)).findIdx? (fun r=>(gi r u).isSome) with
    |none=>rfl
    |some j=>simp only[K2,show i+(j+1)=i+1+j by omega]
 have h:=key d.ru.length 0 (by omega)
 simp only[D2,C3,D1] at h;rw[e172_0_0];simp only[h];unfold pc;cases d.ru.findIdx? (fun r=>(gi r u).isSome)<;>rfl
theorem r139(d:DfM)(hd:DfG d):∀ t:Tm,Gt d.op t->t.nodes<=60->∀ acc:List Int,acc.length+t.nodes<=1048576->rn ⟨139,0,0⟩ [.sl (d.so.map ag),.sl (d.op.map OpM.row),.sl (d.ru.map RuM.row),.sl (d.st.map StM.row),.int t.k,.int t.n,.str t.s,.sl (t.as.map Tm.row),.sl (acc.map am)]=some (0,nrR (nx d t) acc):=Tm.ind fun t ih ht hn acc hac=>by
 have hnd:=Tm.nodes_eq t;have hls:=dg (xs:=t.as);have hst:=hd.b.st;have hql:=Yh d.st t;have hlp:∀ n i,i+n=(stL d.st t).length->rn ⟨139,0,1⟩ [.int ((stL d.st t).length:Int),.int (i:Int),.sl (acc.map am),.sl (d.so.map ag),.sl (d.op.map OpM.row),.sl (d.ru.map RuM.row),.sl (d.st.map StM.row),.int t.k,.int t.n,.str t.s,.sl (t.as.map Tm.row),.int 0,.sl ((stL d.st t).map am),.sl []]=match lu ((stL d.st t).drop i) (t.as.map (nx d)) with
  |some x=>some (1,[.int (x.1:Int),.sl ((acc++x.2).map am)])
  |none=>some (0,[.sl (acc.map am),.sl (d.so.map ag),.sl (d.op.map OpM.row),.sl (d.ru.map RuM.row),.sl (d.st.map StM.row),.int t.k,.int t.n,.str t.s,.sl (t.as.map Tm.row),.int 0,.sl []]):=by
  have hq:∀ j∈stL d.st t,0<=j/\j.toNat<t.as.length:=fun j hj=>Td hd ht hj
  generalize stL d.st t=q at hql hq ⊢;intro n;induction n with
  |zero =>
   intro i hi;obtain rfl:i=q.length:=by omega
   rw[e139_0_1];simp only[B6,C1,D3,H4,H2,C6,Cb]
  |succ n ih2 =>
   intro i hi;have hlt:i<q.length:=by omega
   obtain⟨h0,hm⟩:=hq _ (C0 hlt);rw[B8 hlt];rw[e139_0_1];generalize hj:q[i]=j at h0 hm ⊢;obtain⟨m,rfl⟩:∃ m:Nat,j=(m:Int):=⟨j.toNat,by omega⟩
   rw[B7] at hm;have hmm:=C0 hm;have hms:=ei (f:=Tm.nodes) hmm;have h1:=ih _ hmm (ht.sub hmm) (by omega) (acc++[(m:Int)]) (by simp;omega)
   have h2:=Hh (acc.map am) (by rw[B6];omega)
   have hb2:F5 (acc.length+1) M63=true:=nb (by omega)
   simp only[D6,C4,D4,am] at h1;rw[Et hm];simp only[B6,C1,hlt,H3,H1,aq,B7,ab hlt,ae hlt (ba (by omega)),hj,hm,ab hm,Tm.row_eq,am,nv0,nvS,dvI,dvB,dvS,dvL,B5,C2,C5,D1,hb2]
   simp only[h2,nv0,nvS,dvI,dvB,dvS,dvL,B5,B6,hb2,H1,h1];have h3:=ih2 (i+1) (by omega)
   cases nx d t.as[m] with
   |some x=>simp only[nrR,nv0,nvS,dvI,dvB,dvS,dvL,B5,H1,E2,F2,D8]
   |none=>simp only[nrR,nv0,nvS,dvI,dvB,dvS,dvL,B5,H2,h3]
 have h0:=hlp (stL d.st t).length 0 (by omega)
 simp only[D2,C3] at h0;have h1:=r200 d hd.b t;have h2:=r201 d hd t hn;rw[e139_0_0,Oc,h1];simp only[nv0,nvS,dvI,dvB,dvS,dvL,B5,B6,h0];cases lu (stL d.st t) (t.as.map (nx d)) with
 |some x=>rfl
 |none =>
  simp only[nv0,nvS,dvI,dvB,dvS,dvL,B5,D5,H1,H2,h2];cases pc d.ru t with
  |none=>rfl
  |some i =>
   have q:¬((i:Int)<0):=by omega
   simp only[Mg,q,H4,H2,K2,nrR,G5]
theorem r109(d:DfM)(hd:DfG d):∀ t:Tm,Gt d.op t->t.nodes<=60->rn ⟨109,0,0⟩ [.sl (d.so.map ag),.sl (d.op.map OpM.row),.sl (d.ru.map RuM.row),.sl (d.st.map StM.row),.int t.k,.int t.n,.str t.s,.sl (t.as.map Tm.row)]=some (0,nrS (nx d t)):=Tm.ind fun t ih ht hn=>by
 have hnd:=Tm.nodes_eq t;have hls:=dg (xs:=t.as);have hst:=hd.b.st;have hql:=Js d.st t.s;have hlp:∀ n i,i+n=(lb d.st t.s).length->rn ⟨109,0,1⟩ [.int (i:Int),.sl (d.so.map ag),.sl (d.op.map OpM.row),.sl (d.ru.map RuM.row),.sl (d.st.map StM.row),.int t.k,.int t.n,.str t.s,.sl (t.as.map Tm.row),.int 0,.sl ((lb d.st t.s).map am),.sl []]=match lu (if t.k=2 then (lb d.st t.s).drop i else []) (t.as.map (nx d)) with
  |some x=>some (1,[.int (x.1:Int),.sl (x.2.map am)])
  |none=>some (0,[.sl (d.so.map ag),.sl (d.op.map OpM.row),.sl (d.ru.map RuM.row),.sl (d.st.map StM.row),.int t.k,.int t.n,.str t.s,.sl (t.as.map Tm.row),.int 0,.sl []]):=by
  by_cases hk:t.k=2
  ·have hq:∀ j∈lb d.st t.s,0<=j/\j.toNat<t.as.length:=fun j hj=>Td hd ht (by unfold stL;rw[H5 hk];exact hj)
   generalize lb d.st t.s=q at hql hq ⊢;intro n;simp only[H5 hk];induction n with
   |zero =>
    intro i hi;obtain rfl:i=q.length:=by omega
    rw[e109_0_1];simp only[B6,C1,D3,H4,H2,C6,Cb]
   |succ n ih2 =>
    intro i hi;have hlt:i<q.length:=by omega
    obtain⟨h0,hm⟩:=hq _ (C0 hlt);rw[B8 hlt];rw[e109_0_1];generalize hj:q[i]=j at h0 hm ⊢;obtain⟨m,rfl⟩:∃ m:Nat,j=(m:Int):=⟨j.toNat,by omega⟩
    rw[B7] at hm;have hmm:=C0 hm;have hms:=ei (f:=Tm.nodes) hmm;have h1:=ih _ hmm (ht.sub hmm) (by omega)
    have q2:(m:Int)<=(t.as.length:Int)-1:=by omega
    have hw:IntKind.i64.wrap ((t.as.length:Int)-1)=(t.as.length:Int)-1:=IntWalk.i64_in _ (by omega)
    have h3:=ih2 (i+1) (by omega)
    rw[Et hm,H7 hk];simp only[B6,C1,hlt,H3,H1,aq,B7,ab hlt,ae hlt (ba (by omega)),hj,hm,hw,h0,q2,rIn,K9,D0,H2,ab hm,Tm.row_eq,am,nv0,nvS,dvI,dvB,dvS,dvL,B5,h1]
    cases hx:nx d t.as[m] with
    |some x =>
     obtain⟨u,_,_,hu,_⟩:=vy d _ x.1 x.2 hx;have hun:=ji x.2 _ u hu;have hb2:F5 (0+1+x.2.length) M63=true:=nb (by omega)
     simp only[nrS,nv0,nvS,dvI,dvB,dvS,dvL,B5,H1,C2,C5,B6,hb2,F2,D8,C4,am]
    |none=>simp only[nrS,nv0,nvS,dvI,dvB,dvS,dvL,B5,H2,h3]
  ·intro n i hi
   rw[H6 hk,Cb,e109_0_1,H8 hk];cases decide ((i:Int)<(((lb d.st t.s).map am).length:Int))<;>rfl
 have h0:=hlp (lb d.st t.s).length 0 (by omega)
 simp only[D2,C3] at h0;have h1:=fun a b c=>r171 a b c d.st hd.b.st t.s
 have h2:=r172 d hd t hn;have hmx:∀ x:Option Nat,rn ⟨173,0,0⟩ [.int (Mg x),.int 0]=some (0,[.int ((x.getD 0:Nat):Int)]):=fun x=>by
  rw[e173_0_0];cases x with
  |none=>rfl
  |some i =>
   by_cases hi:(0:Int)<Mg (some i)
   ·rw[H7 hi];rfl
   ·rw[H8 hi]
    simp only[Mg] at hi;obtain rfl:i=0:=by omega
    rfl
 rw[e109_0_0,Oc,h1];simp only[nv0,nvS,dvI,dvB,dvS,dvL,B5,h0];have e:(if t.k=2 then lb d.st t.s else [])=stL d.st t:=rfl
 rw[e];cases lu (stL d.st t) (t.as.map (nx d)) with
 |some x=>rfl
 |none =>
  simp only[nv0,nvS,dvI,dvB,dvS,dvL,B5,D5,H1,H2,h2,hmx];cases pc d.ru t with
  |none=>rfl
  |some i =>
   have q:(0:Int)<=(i:Int):=by omega
   simp only[Mg,q,H3,K2,nrS,Q0,D4]
theorem r186(d:DfM)(hd:DfG d)(t:Tm)(ht:Gt d.op t)(hn:t.nodes<=60)(i:Nat)(p:List Int)(hx:nx d t=some (i,p)):rn ⟨186,0,0⟩ [.sl (d.so.map ag),.sl (d.op.map OpM.row),.sl (d.ru.map RuM.row),.sl (d.st.map StM.row),.int t.k,.int t.n,.str t.s,.sl (t.as.map Tm.row),.int (i:Int),.sl (p.map am)]=some (0,[.int (cd d t i p).k,.int (cd d t i p).n,.str (cd d t i p).s,.sl ((cd d t i p).as.map Tm.row),.bool (cd d t i p).valid]):=by
 obtain⟨u,r,w,h1,h2,h3,e,hu,hun,hw,hwn,hg,hgn,hp,hr⟩:=mz hd ht hn hx;obtain⟨hi,hri⟩:=E5.1 h2;have a1:=r202 t u p (by omega) h1
 have a2:=r231 d hd i hi u hun;rw[hri,h3] at a2;have a3:=r204 w p t u (by omega) (by omega) h1
 have a4:=r155 (cd d t i p) (by omega) hg.w
 rw[<-e] at a3;rw[e186_0_0];simp only[a1,a2,frR,nv0,nvS,dvI,dvB,dvS,dvL,B5,a3,a4]
theorem r110(d:DfM)(hd:DfG d)(t:Tm)(ht:Gt d.op t)(hn:t.nodes<=60)(i:Nat)(p:List Int)(hx:nx d t=some (i,p)):rn ⟨110,0,0⟩ [.sl (d.so.map ag),.sl (d.op.map OpM.row),.sl (d.ru.map RuM.row),.sl (d.st.map StM.row),.int t.k,.int t.n,.str t.s,.sl (t.as.map Tm.row),.int (i:Int),.sl (p.map am)]=some (0,[.int (cd d t i p).k,.int (cd d t i p).n,.str (cd d t i p).s,.bool (cd d t i p).valid,.sl ((cd d t i p).as.map Tm.row)]):=by
 obtain⟨u,r,w,h1,h2,h3,e,hu,hun,hw,hwn,hg,hgn,hp,hr⟩:=mz hd ht hn hx;obtain⟨hi,hri⟩:=E5.1 h2;have hrn:=az hr.rv;have hln:=az hr.lv;have a1:=r174 t u (by omega) p (by omega) h1
 have a2:=r175 r hr u hun;have e3:=Ju r u;rw[h3] at e3;split at e3
 ·simp only[C9.injEq] at e3
  have hL:(∀ b∈fiL r u,b.2.nodes<=60)/\(fiL r u).length<=1048576:=by
   unfold fiL;cases hq:mT r.l u [] with
   |none=>exact⟨by simp,by simp⟩
   |some l =>
    have hls:=kz (fun t=>t.nodes<=60) (fun t a h ha=>na t a h ha) _ u [] l hun (by simp) hq
    have h1:=dl r.l.names;have h2:=dl (bx r.l.names);have h3:=br r.l;have h4:=Oe l (bx (bx r.l.names));exact⟨fun b hb=>Og (P:=fun t=>t.nodes<=60) hls _ b hb,by show(rsB l _).length<=_;omega⟩
  have hss:∀ b∈fiL r u,au b.2:=fun b hb=>ak _ (by have:=hL.1 b hb;omega)
  have a3:=r70 (fiL r u) hL.2 hss r.r (ak _ (by omega))
  have a4:=r69 (aS (fiL r u) r.r) (mu hss _ (ak _ (by omega)))
  rw[<-e3] at a4;have a5:=r176 w (by omega) p t u (by omega) (by omega) h1
  have a6:=r100 (cd d t i p) (by omega) hg.w
  rw[<-e] at a5;rw[e110_0_0];subst hri;rw[h3] at a2;simp only[a1,B6,aq,hi,H3,H1,B7,ab hi,RuM.row,nv0,nvS,dvI,dvB,dvS,dvL,B5,a2,a3,a4,a5,a6,O5]
 ·simp at e3
theorem r185(d:DfM)(hb:DfB d)(t:Tm)(hw:Wt t)(hn:t.nodes<=2097152):rn ⟨185,0,0⟩ [.sl (d.so.map ag),.sl (d.op.map OpM.row),.sl (d.ru.map RuM.row),.sl (d.st.map StM.row),.int t.k,.int t.n,.str t.s,.sl (t.as.map Tm.row)]=some (0,[.bool (cfg d t)]):=by
 have h1:=r152 d hb;have h2:=r155 t (by omega) hw
 have h4:=r96 (d.so.map ag) d.op hb.op [] (by simp) t hw
 simp only[D4] at h4;rw[e185_0_0,e230_0_0];simp only[h1,h2,nv0,nvS,dvI,dvB,dvS,dvL,B5];unfold cfg;cases d.valid<;>try rfl
 cases hv:t.valid with
 |false=>rfl
 |true =>
  have h3:=r228 t (by have:=az hv;omega)
  simp only[h3,h4,nv0,nvS,dvI,dvB,dvS,dvL,B5,H1,D9];cases isG t<;>rfl
theorem r196(d:DfM)(hb:DfB d)(t:Tm)(hw:Wt t)(hn:t.nodes<=2097152):rn ⟨196,0,0⟩ [.sl (d.so.map ag),.sl (d.op.map OpM.row),.sl (d.ru.map RuM.row),.sl (d.st.map StM.row),.int t.k,.int t.n,.str t.s,.sl (t.as.map Tm.row)]=some (0,[.bool (cfg d t)]):=by
 have h1:=r98 d hb;have h2:=r100 t (by omega) hw
 have h4:=r64 (d.so.map ag) d.op hb.op [] (by simp) t hw
 simp only[D4] at h4;rw[e196_0_0];simp only[h1,h2,nv0,nvS,dvI,dvB,dvS,dvL,B5];unfold cfg;cases d.valid<;>try rfl
 cases hv:t.valid with
 |false=>rfl
 |true =>
  have h3:=r170 t (by have:=az hv;omega)
  simp only[h3,h4,nv0,nvS,dvI,dvB,dvS,dvL,B5,H1,D9];cases isG t<;>rfl
theorem r233(d:DfM)(hb:DfB d)(t:Tm)(hw:Wt t)(hn:t.nodes<=2097152)(f:Int):rn ⟨233,0,0⟩ [.sl (d.so.map ag),.sl (d.op.map OpM.row),.sl (d.ru.map RuM.row),.sl (d.st.map StM.row),.int t.k,.int t.n,.str t.s,.sl (t.as.map Tm.row),.int f]=some (0,[.bool (cfg d t&&(decide (0<=f)&&decide (f<=200)))]):=by
 have h1:=r196 d hb t hw hn;rw[e233_0_0];simp only[h1,rIn,nv0,nvS,dvI,dvB,dvS,dvL,B5];cases cfg d t<;>rfl
theorem ah7(d:DfM)(hd:DfG d):∀ (n:Nat) (t:Tm) (S:List Tm) (R:List (Nat×List Int)) (f:Nat),Gt d.op t->t.nodes<=60->R.length+n=f->f<=200->S.length<=R.length+1->rn ⟨126,0,1⟩ [.int (f:Int),.sl (d.so.map ag),.sl (d.op.map OpM.row),.sl (d.ru.map RuM.row),.sl (d.st.map StM.row),.int 0,.int 0,.int 0,.str e0,.int 0,.int t.k,.int t.n,.str t.s,.sl (S.map Tm.row),.sl (R.map qj),.sl [],.sl (t.as.map Tm.row)]=some (0,[.int (dz d n t).o,.int (dz d n t).t.k,.int (dz d n t).t.n,.str (dz d n t).t.s,.int ((R.length+(dz d n t).rd.length:Nat):Int),.sl ((S++(dz d n t).st).map Tm.row),.sl ((R++(dz d n t).rd).map qj),.sl ((dz d n t).t.as.map Tm.row)]):=by
 intro n;induction n with
 |zero =>
  intro t S R f ht hn hR hf hS;have h1:=r139 d hd t ht hn [] (by simp;omega)
  have h2:=r118 t (ak t (by omega))
  simp only[D4] at h1;have e1:((R.length:Int)=(f:Int)):=by omega
  rw[e126_0_1];cases hx:nx d t with
  |none =>
   rw[hx] at h1;simp only[h1,nrR,nv0,nvS,dvI,dvB,dvS,dvL,B5,G7,H1,show decide ((1:Int)=0)=false from rfl,h2,B6,kd hx,G5,C5,N5]
  |some x =>
   rw[hx] at h1;simp only[h1,nrR,nv0,nvS,dvI,dvB,dvS,dvL,B5,D0,G7,H1,H2,show decide ((2:Int)=0)=false from rfl,h2,B6,e1,H3,rb hx,G5,C5,N5]
 |succ n ih =>
  intro t S R f ht hn hR hf hS;have h1:=r139 d hd t ht hn [] (by simp;omega)
  have h2:=r118 t (ak t (by omega))
  simp only[D4] at h1;have e1:¬((R.length:Int)=(f:Int)):=by omega
  rw[e126_0_1];cases hx:nx d t with
  |none =>
   rw[hx] at h1;simp only[h1,nrR,nv0,nvS,dvI,dvB,dvS,dvL,B5,G7,H1,show decide ((1:Int)=0)=false from rfl,h2,B6,kd hx,G5,C5,N5]
  |some x =>
   rw[hx] at h1;have h3:=r186 d hd t ht hn x.1 x.2 hx;obtain⟨_,_,_,_,_,_,_,_,_,_,_,hg,hgn,_⟩:=mz hd ht hn hx;cases hv:(cd d t x.1 x.2).valid with
   |false =>
    rw[hv] at h3;simp only[h1,nrR,D8,h3,nv0,nvS,dvI,dvB,dvS,dvL,B5,D0,G7,H1,H2,show decide ((3:Int)=0)=false from rfl,h2,B6,e1,H4,Cd hx hv,G5,C5,N5]
   |true =>
    rw[hv] at h3;have h4:=r118 (cd d t x.1 x.2) (ak _ (by omega))
    have h5:=ih (cd d t x.1 x.2) (S++[cd d t x.1 x.2]) (R++[x]) f hg (az hv) (by simp;omega) hf (by simp;omega)
    simp only[D6,C4,D4,Tm.row_eq,qj,E6,C2,C5,D1] at h5;have ea:R.length+1+(dz d n (cd d t x.1 x.2)).rd.length=R.length+((dz d n (cd d t x.1 x.2)).rd.length+1):=by omega
    have b1:F5 (S.length+1) M63=true:=nb (by omega)
    have b2:F5 (R.length+1) M63=true:=nb (by omega)
    simp only[h1,nrR,D8,h3,nv0,nvS,dvI,dvB,dvS,dvL,B5,D0,G7,H1,H2,H3,h4,B6,e1,H4,C2,C5,D1,b1,b2,h5,wa hx hv,E6];simp only[D6,C4,D4,Tm.row_eq,qj,E2,F2,D8,C2,ea]
theorem r126(d:DfM)(hb:DfB d)(t:Tm)(hw:Wt t)(hn:t.nodes<=2097152)(f:Int):rn ⟨126,0,0⟩ [.sl (d.so.map ag),.sl (d.op.map OpM.row),.sl (d.ru.map RuM.row),.sl (d.st.map StM.row),.int t.k,.int t.n,.str t.s,.sl (t.as.map Tm.row),.int f]=some (0,Mh (jv d t f) t):=by
 have h1:=r185 d hb t hw hn;rw[e126_0_0];unfold jv;by_cases f1:0<=f
 ·by_cases f2:f<=200
  ·have q1:¬ f<0:=by omega
   have q2:¬ 200<f:=by omega
   simp only[q1,q2,H4,H2,h1,nv0,nvS,dvI,dvB,dvS,dvL,B5];cases hc:cfg d t with
   |false=>simp[Mh]
   |true =>
    obtain⟨hd,ht,hn60⟩:=Cc hb hw hc;have h2:=r118 t (ak t (by omega))
    have h3:=ah7 d hd f.toNat t [t] [] f.toNat ht hn60 (by simp) (by omega) (by simp)
    have ef:((f.toNat:Nat):Int)=f:=by omega
    simp only[ef,C4,D4,Tm.row_eq,C5,D1,D8] at h3;rw[H5 ⟨f1,f2,rfl⟩];simp only[D0,H2,h2,nv0,nvS,dvI,dvB,dvS,dvL,B5,h3,D5,H1,H2,Mh,F2,D8,C4,Tm.row_eq]
  ·have q1:¬ f<0:=by omega
   have q2:200<f:=by omega
   rw[H6 (by omega)]
   simp only[q1,q2,H3,H4,H1,H2,Mh]
 ·have q1:f<0:=by omega
  rw[H6 (by omega)]
  simp only[q1,H3,H1,Mh]
theorem ah8(d:DfM)(hd:DfG d):∀ (n:Nat) (t:Tm) (S:List Tm) (R:List (Nat×List Int)) (f:Nat),Gt d.op t->t.nodes<=60->R.length+n=f->f<=200->S.length<=R.length->rn ⟨67,0,1⟩ [.int (f:Int),.sl (d.so.map ag),.sl (d.op.map OpM.row),.sl (d.ru.map RuM.row),.sl (d.st.map StM.row),.int 1,.int t.k,.int t.n,.str t.s,.int (R.length:Int),.sl (t.as.map Tm.row),.sl (R.map qj),.sl (S.map Tm.row)]=some (0,[.int (dz d n t).o,.int (dz d n t).t.k,.int (dz d n t).t.n,.str (dz d n t).t.s,.int ((R.length+(dz d n t).rd.length:Nat):Int),.sl ((dz d n t).t.as.map Tm.row),.sl ((R++(dz d n t).rd).map qj),.sl ((S++t::(dz d n t).st).map Tm.row)]):=by
 intro n;induction n with
 |zero =>
  intro t S R f ht hn hR hf hS;have h1:=r109 d hd t ht hn;have e1:((R.length:Int)=(f:Int)):=by omega
  have b1:F5 (S.length+1) M63=true:=nb (by omega)
  have hi:inb (S.length:Int) (S.length+1)=true:=by simp[inb];omega
  have ho:=Ce (S.map Tm.row) t.k t.n 0 0 t.s ⟨#[]⟩ (t.as.map Tm.row) [];rw[B6] at ho;rw[e67_0_1];cases hx:nx d t with
  |none =>
   rw[hx] at h1;simp only[h1,nrS,nv0,nvS,dvI,dvB,dvS,dvL,B5,G7,H1,B6,E6,C2,C5,D1,b1,hi,B7,ho,kd hx,G5,N5,D6,C4,D4,Tm.row_eq]
  |some x =>
   rw[hx] at h1;simp only[h1,nrS,nv0,nvS,dvI,dvB,dvS,dvL,B5,D0,H1,H2,B6,E6,C2,C5,D1,b1,hi,B7,ho,e1,H3,rb hx,G5,N5,D6,C4,D4,Tm.row_eq]
 |succ n ih =>
  intro t S R f ht hn hR hf hS;have h1:=r109 d hd t ht hn;have e1:¬((R.length:Int)=(f:Int)):=by omega
  have b1:F5 (S.length+1) M63=true:=nb (by omega)
  have b2:F5 (R.length+1) M63=true:=nb (by omega)
  have hi:inb (S.length:Int) (S.length+1)=true:=by simp[inb];omega
  have ho:=Ce (S.map Tm.row) t.k t.n 0 0 t.s ⟨#[]⟩ (t.as.map Tm.row) [];have hw:IntKind.i64.wrap ((R.length:Int)+1)=((R.length+1:Nat):Int):=IntWalk.i64_in _ (by omega)
  rw[B6] at ho;rw[e67_0_1];cases hx:nx d t with
  |none =>
   rw[hx] at h1;simp only[h1,nrS,nv0,nvS,dvI,dvB,dvS,dvL,B5,G7,H1,B6,E6,C2,C5,D1,b1,hi,B7,ho,kd hx,G5,N5,D6,C4,D4,Tm.row_eq]
  |some x =>
   rw[hx] at h1;have h3:=r110 d hd t ht hn x.1 x.2 hx;obtain⟨_,_,_,_,_,_,_,_,_,_,_,hg,hgn,_⟩:=mz hd ht hn hx;cases hv:(cd d t x.1 x.2).valid with
   |false =>
    rw[hv] at h3;simp only[h1,nrS,h3,nv0,nvS,dvI,dvB,dvS,dvL,B5,D0,G7,H1,H2,B6,E6,C2,C5,D1,b1,hi,B7,ho,e1,H4,Cd hx hv,G5,N5,D6,C4,D4,Tm.row_eq]
   |true =>
    rw[hv] at h3;have h5:=ih (cd d t x.1 x.2) (S++[t]) (R++[x]) f hg (az hv) (by simp;omega) hf (by simp;omega)
    simp only[D6,C4,D4,Tm.row_eq,qj,E6,C2,C5,D1] at h5;have ea:R.length+1+(dz d n (cd d t x.1 x.2)).rd.length=R.length+((dz d n (cd d t x.1 x.2)).rd.length+1):=by omega
    simp only[h1,nrS,h3,nv0,nvS,dvI,dvB,dvS,dvL,B5,D0,H1,H2,B6,E6,C2,C5,D1,b1,b2,hi,hw,B7,ho,e1,H4,h5,wa hx hv];simp only[D6,C4,D4,Tm.row_eq,qj,E2,F2,D8,C2,ea]
theorem r67(d:DfM)(hb:DfB d)(t:Tm)(hw:Wt t)(f:Int)(f1:0<=f)(f2:f<=200)(hc:cfg d t=true):rn ⟨67,0,0⟩ [.sl (d.so.map ag),.sl (d.op.map OpM.row),.sl (d.ru.map RuM.row),.sl (d.st.map StM.row),.int t.k,.int t.n,.str t.s,.sl (t.as.map Tm.row),.int f]=some (0,Yi (dz d f.toNat t) t):=by
 obtain⟨hd,ht,hn60⟩:=Cc hb hw hc;have h2:=r65 t (ak t (by omega))
 have h3:=ah8 d hd f.toNat t [] [] f.toNat ht hn60 (by simp) (by omega) (by simp)
 have ef:((f.toNat:Nat):Int)=f:=by omega
 simp only[ef,D4,C5,D1,D8,C3] at h3;rw[e67_0_0];simp only[h2,nv0,nvS,dvI,dvB,dvS,dvL,B5,h3,D5,H1,H2,Yi]
theorem r78(d:DfM)(hb:DfB d)(t:Tm)(hw:Wt t)(hn:t.nodes<=2097152)(f:Int):rn ⟨78,0,0⟩ [.sl (d.so.map ag),.sl (d.op.map OpM.row),.sl (d.ru.map RuM.row),.sl (d.st.map StM.row),.int t.k,.int t.n,.str t.s,.sl (t.as.map Tm.row),.int f]=some (0,rtD (jv d t f)):=by
 have h1:=r126 d hb t hw hn f;rw[e78_0_0,h1];cases jv d t f<;>rfl
theorem r197(d:DfM)(hb:DfB d)(t:Tm)(hw:Wt t)(hn:t.nodes<=2097152)(f:Int):rn ⟨197,0,0⟩ [.sl (d.so.map ag),.sl (d.op.map OpM.row),.sl (d.ru.map RuM.row),.sl (d.st.map StM.row),.int t.k,.int t.n,.str t.s,.sl (t.as.map Tm.row),.int f]=some (0,rtD (jv d t f)):=by
 have h1:=r233 d hb t hw hn f;rw[e197_0_0,h1,Yj];cases hc:(cfg d t&&(decide (0<=f)&&decide (f<=200))) with
 |false=>rfl
 |true =>
  simp only[B9,decide_eq_true_eq] at hc;have h2:=r67 d hb t hw f hc.2.1 hc.2.2 hc.1;simp only[nv0,nvS,dvI,dvB,dvS,dvL,B5,D0,H2,H1,h2,Yi,rtD]
theorem r79(d:DfM)(hb:DfB d)(t:Tm)(hw:Wt t)(hn:t.nodes<=2097152)(g:Tm)(f:Int):rn ⟨79,0,0⟩ [.sl (d.so.map ag),.sl (d.op.map OpM.row),.sl (d.ru.map RuM.row),.sl (d.st.map StM.row),.int t.k,.int t.n,.str t.s,.sl (t.as.map Tm.row),.int g.k,.int g.n,.str g.s,.sl (g.as.map Tm.row),.int f]=some (0,[.bool (xv (jv d t f) t g)]):=by
 have h1:=r126 d hb t hw hn f;have key:∀ l:List Tm,l.length<=1048576->(∀ x∈l,au x)->rn ⟨127,0,0⟩ [.sl (l.map Tm.row),.int g.k,.int g.n,.str g.s,.sl (g.as.map Tm.row)]=some (0,[.bool (l.any fun x=>eqb x.row g.row),.int g.k,.int g.n,.str g.s,.sl (g.as.map Tm.row)]):=by
  intro l hl hs;have hlp:∀ n i,i+n=l.length->(((l.drop i).any fun x=>eqb x.row g.row)=false/\rn ⟨187,0,1⟩ [.sl (l.map Tm.row),.int (l.length:Int),.int (i:Int),.int g.k,.int g.n,.str g.s,.sl (g.as.map Tm.row)]=some (0,[.int g.k,.int g.n,.str g.s,.sl (g.as.map Tm.row)]))\/(((l.drop i).any fun x=>eqb x.row g.row)=true/\∃ j:Nat,rn ⟨187,0,1⟩ [.sl (l.map Tm.row),.int (l.length:Int),.int (i:Int),.int g.k,.int g.n,.str g.s,.sl (g.as.map Tm.row)]=some (1,[.int (j:Int),.int g.k,.int g.n,.str g.s,.sl (g.as.map Tm.row)])):=by
   intro n;induction n with
   |zero =>
    intro i hi;obtain rfl:i=l.length:=by omega
    rw[e187_0_1];simp only[B6,C1,D3,H4,H2,C6];exact .inl ⟨rfl,trivial⟩
   |succ n ih =>
    intro i hi;have hlt:i<l.length:=by omega
    have he:=r129 l[i] g (hs _ (C0 hlt));rw[e187_0_1,B8 hlt];simp only[S7];generalize eqb l[i].row g.row=b at he ⊢;have:=ih (i+1) (by omega)
    generalize ((l.drop (i+1)).any fun x=>eqb x.row g.row)=A at this ⊢
    simp only[B6,C1,hlt,H3,H1,aq,B7,ab hlt,ae hlt (ba (by omega)),Tm.row_eq,nv0,nvS,dvI,dvB,dvS,dvL,B5,e128_0_0,he]
    cases b with
    |true=>exact .inr ⟨rfl,i,by simp⟩
    |false=>simpa using this
  have h:=hlp l.length 0 (by omega)
  simp only[D2,C3] at h;rw[e127_0_0,e187_0_0];simp only[B6];rcases h with ⟨q1,q2⟩|⟨q1,j,q2⟩
  ·rw[q2,q1];rfl
  ·rw[q2,q1]
   have:(0:Int)<=(j:Int):=by omega
   simp only[nv0,nvS,dvI,dvB,dvS,dvL,B5,D5,H1,H2,show F4 1 0=false from rfl,this,H3]
 rw[e79_0_0,h1];cases hr:jv d t f with
 |none =>
  have h2:=key [] (by simp) (by simp)
  simp only[D4] at h2;simp only[Mh,nv0,nvS,dvI,dvB,dvS,dvL,B5,h2,xv,List.any_nil]
 |some r =>
  obtain⟨gd,hn60⟩:=xu hb hw hr;have h2:=key (t::r.st) (by have:=gd.sl;simp;omega) (fun x hx=>by
   rcases E1.1 hx with e |hx
   ·subst e;exact ak _ (by omega)
   ·exact ak _ (by have:=(gd.s x hx).2;omega))
  simp only[Mh,nv0,nvS,dvI,dvB,dvS,dvL,B5,h2,xv]
theorem r77(vars:List ByteArray)(t:Tm)(h:au t)(cs:aa)(c:Int):rn ⟨77,0,0⟩ [.sl (vars.map ag),.int t.k,.int t.n,.str t.s,.sl (t.as.map Tm.row),.sl cs,.int c]=some (0,[.int (S.instR vars t c).k,.int (S.instR vars t c).n,.str (S.instR vars t c).s,.bool (isC vars.length c),.sl ((S.instR vars t c).as.map Tm.row)]):=by
 have e1:=r123 vars.length c;have e2:=r122 vars c;have e3:=r125 (bn vars c) (nc vars c) (fh vars c) t h;have e4:=r124 _ (mu (fh vars c) t h);rw[e77_0_0];simp only[B6,e1,nv0,nvS,dvI,dvB,dvS,dvL,B5];unfold S.instR;cases hc:isC vars.length c with
 |false=>rfl
 |true=>simp only[D0,H2,e2,e3,e4,nv0,nvS,dvI,dvB,dvS,dvL,B5,if_true];rfl
theorem r72(vars:List ByteArray)(t:Tm)(h:au t)(cs:aa)(c:Int):rn ⟨72,0,0⟩ [.sl (vars.map ag),.int t.k,.int t.n,.str t.s,.sl (t.as.map Tm.row),.sl cs,.int c]=some (0,[.int (S.instR vars t c).k,.int (S.instR vars t c).n,.str (S.instR vars t c).s,.bool (isC vars.length c),.sl ((S.instR vars t c).as.map Tm.row)]):=by
 have e1:=r103 vars.length;have e2:=r39 vars t h c;rw[e72_0_0];simp only[B6,e1,nv0,nvS,dvI,dvB,dvS,dvL,B5,rIn,Zf];unfold S.instR;cases hc:isC vars.length c with
 |false=>rfl
 |true=>simp only[D0,H2,e2,nv0,nvS,dvI,dvB,dvS,dvL,B5,if_true]
theorem r80(vars:List ByteArray)(l t:Tm)(h:au t)(gs:aa)(c:Int):rn ⟨80,0,0⟩ [.sl (vars.map ag),.int l.k,.int l.n,.str l.s,.sl (l.as.map Tm.row),.int t.k,.int t.n,.str t.s,.sl (t.as.map Tm.row),.sl gs,.int c]=some (0,[.int (S.instR vars t c).k,.int (S.instR vars t c).n,.str (S.instR vars t c).s,.sl ((S.instR vars t c).as.map Tm.row)]):=by
 have e1:=r77 vars t h [] c;rw[e80_0_0];simp only[e1,nv0,nvS,dvI,dvB,dvS,dvL,B5]
theorem r40(vars:List ByteArray)(l t:Tm)(h:au t)(gs:aa)(c:Int):rn ⟨40,0,0⟩ [.sl (vars.map ag),.int l.k,.int l.n,.str l.s,.sl (l.as.map Tm.row),.int t.k,.int t.n,.str t.s,.sl (t.as.map Tm.row),.sl gs,.int c]=some (0,[.int (S.instR vars t c).k,.int (S.instR vars t c).n,.str (S.instR vars t c).s,.sl ((S.instR vars t c).as.map Tm.row)]):=by
 have e1:=r72 vars t h [] c;rw[e40_0_0];simp only[e1,nv0,nvS,dvI,dvB,dvS,dvL,B5]
theorem r45(c:ClM)(hb:ClB c)(i:Int):rn ⟨45,0,0⟩ [.sl (c.d.so.map ag),.sl (c.d.op.map OpM.row),.sl (c.d.ru.map RuM.row),.sl (c.d.st.map StM.row),.sl (c.v.map ag),.int (c.l).k,.int (c.l).n,.str (c.l).s,.sl ((c.l).as.map Tm.row),.int (c.r).k,.int (c.r).n,.str (c.r).s,.sl ((c.r).as.map Tm.row),.sl (c.g.map Gu.row),.int i]=some (0,[.bool (wc c.d (S.instR c.v c.l i) (S.instR c.v c.r i))]):=by
 have hls:=ak _ hb.ln;have hrs:=ak _ hb.rn;have hnl:=S.instR_nodes (vars:=c.v) (t:=c.l) i;have hln:=hb.ln;have hw:=qk (vars:=c.v) hb.wl i;have h1:=r77 c.v c.l hls [] i;have h2:=r78 c.d hb.d _ hw (by omega) 200
 have h3:=r80 c.v c.l c.r hrs (c.g.map Gu.row) i;have h4:=r79 c.d hb.d _ hw (by omega) (S.instR c.v c.r i) 200
 rw[e45_0_0];simp only[h1,nv0,nvS,dvI,dvB,dvS,dvL,B5,h2,h3,h4];unfold wc;cases jv c.d (S.instR c.v c.l i) 200 with
 |none=>rfl
 |some r =>
  simp only[rtD,nv0,nvS,dvI,dvB,dvS,dvL,B5];cases decide (r.o=1)<;>rfl
theorem r32(c:ClM)(hb:ClB c):rn ⟨32,0,0⟩ c.row=some (0,Tj (tq c)):=by
 have h1:=r60 c hb;have h2:=r44 c.v hb.v c.l c.r (ak _ hb.ln) c.g hb.g (fun g hg=>⟨(hb.ga g hg).ln,(hb.ga g hg).rn⟩)
 have hal:=S.allC_len c.v c.g;have hlp:∀ n i,i+n=(dk c.v c.g).length->rn ⟨32,0,1⟩ [.int ((dk c.v c.g).length:Int),.int (i:Int),.sl (c.d.so.map ag),.sl (c.d.op.map OpM.row),.sl (c.d.ru.map RuM.row),.sl (c.d.st.map StM.row),.sl (c.v.map ag),.int (c.l).k,.int (c.l).n,.str (c.l).s,.sl ((c.l).as.map Tm.row),.int (c.r).k,.int (c.r).n,.str (c.r).s,.sl ((c.r).as.map Tm.row),.sl (c.g.map Gu.row),.sl ((dk c.v c.g).map S.nRow)]=match ((dk c.v c.g).drop i).find? (fun (j:Nat)=>wc c.d (S.instR c.v c.l (j:Int)) (S.instR c.v c.r (j:Int))) with
  |some k=>some (1,[.int (k:Int)])
  |none=>some (0,[]):=by
  generalize dk c.v c.g=cs at hal ⊢;intro n;induction n with
  |zero =>
   intro i hi;obtain rfl:i=cs.length:=by omega
   rw[e32_0_1];simp only[B6,C1,D3,H4,H2,C6,S3]
  |succ n ih =>
   intro i hi;have hlt:i<cs.length:=by omega
   have h3:=r45 c hb (cs[i]:Int);rw[e32_0_1,B8 hlt,P3];simp only[B6,C1,hlt,H3,H1,aq,B7,ab hlt,ae hlt (ba (by omega)),S.nRow,nv0,nvS,dvI,dvB,dvS,dvL,B5,h3,ih (i+1) (by omega)]
   cases wc c.d (S.instR c.v c.l (cs[i]:Int)) (S.instR c.v c.r (cs[i]:Int))<;>rfl
 have h0:=hlp (dk c.v c.g).length 0 (by omega)
 simp only[D2,C3] at h0;unfold ClM.row at h1 ⊢;rw[e32_0_0];simp only[h1,nv0,nvS,dvI,dvB,dvS,dvL,B5,h2,B6,h0];unfold tq;cases c.valid with
 |false=>rfl
 |true =>
  simp only[D0,H2,if_true];cases (dk c.v c.g).find? (fun (j:Nat)=>wc c.d (S.instR c.v c.l (j:Int)) (S.instR c.v c.r (j:Int)))<;>rfl
theorem r38(d:DfM)(hb:DfB d)(t:Tm)(hw:Wt t)(hc:cfg d t=true)(g:Tm):rn ⟨38,0,0⟩ [.sl (d.so.map ag),.sl (d.op.map OpM.row),.sl (d.ru.map RuM.row),.sl (d.st.map StM.row),.int t.k,.int t.n,.str t.s,.sl (t.as.map Tm.row),.int g.k,.int g.n,.str g.s,.sl (g.as.map Tm.row)]=some (0,[.bool (wc d t g)]):=by
 have h1:=r67 d hb t hw 200 (by decide) (by decide) hc
 obtain⟨hd,ht,hn⟩:=Cc hb hw hc;have hr:=Ti hc;obtain⟨gd,_⟩:=xu hb hw hr;have key:∀ l:List Tm,l.length<=1048576->(∀ x∈l,au x)->∀ (o k n:Int) (s:ByteArray) (m:Int) (a b:aa),∀ j i,i+j=l.length->rn ⟨38,0,1⟩ [.int (i:Int),.int g.k,.int g.n,.str g.s,.sl (g.as.map Tm.row),.int o,.int k,.int n,.str s,.int m,.sl a,.sl b,.sl (l.map Tm.row)]=bif ((l.drop i).any fun x=>eqb x.row g.row) then some (1,[]) else some (0,[.int o,.int k,.int n,.str s,.int m,.sl a,.sl b,.sl (l.map Tm.row)]):=by
  intro l hl hs o k n s m a b j;induction j with
  |zero =>
   intro i hi;obtain rfl:i=l.length:=by omega
   rw[e38_0_1];simp only[B6,C1,D3,H4,H2,C6,List.any_nil,H2]
  |succ j ih =>
   intro i hi;have hlt:i<l.length:=by omega
   have he:=r68 l[i] g (hs _ (C0 hlt));rw[e38_0_1,B8 hlt];simp only[S7];generalize eqb l[i].row g.row=b' at he ⊢;have:=ih (i+1) (by omega)
   generalize ((l.drop (i+1)).any fun x=>eqb x.row g.row)=A at this ⊢
   simp only[B6,C1,hlt,H3,H1,aq,B7,ab hlt,ae hlt (ba (by omega)),Tm.row_eq,nv0,nvS,dvI,dvB,dvS,dvL,B5,he,this]
   cases b'<;>simp
 have hk:=fun o k n s m a b=>key (t::(dz d 200 t).st) (by have:=gd.sl;simp;omega) (fun x hx=>by
  rcases E1.1 hx with e |hx
  ·subst e;exact ak _ (by omega)
  ·exact ak _ (by have:=(gd.s x hx).2;omega)) o k n s m a b _ 0 (D1 _)
 simp only[C3,D2] at hk;rw[e38_0_0,h1];unfold wc;rw[hr];simp only[Yi,show P1 200=200 from rfl,nv0,nvS,dvI,dvB,dvS,dvL,B5,hk,xv]
 cases (t::(dz d 200 t).st).any fun x=>eqb x.row g.row with
 |true=>rw[D0,P2];rfl
 |false=>simp only[H2,nv0,nvS,dvI,dvB,dvS,dvL,B5,D5,H1,H2,G7,K9]
theorem r13(c:ClM)(hb:ClB c):rn ⟨13,0,0⟩ c.row=some (0,Tj (tq c)):=by
 have h1:=r36 c hb;have h2:=r37 c.v hb.v c.l c.r (ak _ hb.ln) c.g hb.g (fun g hg=>⟨(hb.ga g hg).ln,(hb.ga g hg).rn⟩)
 have hal:=S.allC_len c.v c.g;have hlp:c.valid=true->∀ n i,i+n=(dk c.v c.g).length->rn ⟨13,0,1⟩ [.int (i:Int),.sl (c.d.so.map ag),.sl (c.d.op.map OpM.row),.sl (c.d.ru.map RuM.row),.sl (c.d.st.map StM.row),.sl (c.v.map ag),.int (c.l).k,.int (c.l).n,.str (c.l).s,.sl ((c.l).as.map Tm.row),.int (c.r).k,.int (c.r).n,.str (c.r).s,.sl ((c.r).as.map Tm.row),.sl (c.g.map Gu.row),.int c.l.k,.int c.l.n,.str c.l.s,.sl (c.v.map ag),.sl (c.l.as.map Tm.row),.sl ((dk c.v c.g).map S.nRow)]=match ((dk c.v c.g).drop i).find? (fun (j:Nat)=>wc c.d (S.instR c.v c.l (j:Int)) (S.instR c.v c.r (j:Int))) with
  |some k=>some (1,[.int (k:Int)])
  |none=>some (0,[]):=by
  intro hv;simp only[ClM.valid,B9] at hv;have hC:∀ j∈dk c.v c.g,isC c.v.length (j:Int)=true:=fun j hj=>Cf hj
  generalize dk c.v c.g=cs at hal hC ⊢;intro n;induction n with
  |zero =>
   intro i hi;obtain rfl:i=cs.length:=by omega
   rw[e13_0_1];simp only[B6,C1,D3,H4,H2,C6,S3]
  |succ n ih =>
   intro i hi;have hlt:i<cs.length:=by omega
   have hc:=hC _ (C0 hlt);have h3:=r39 c.v c.l (ak _ hb.ln) (cs[i]:Int);rw[<-lx hc] at h3;have h4:=r40 c.v c.l c.r (ak _ hb.rn) (c.g.map Gu.row) (cs[i]:Int);have hcf:cfg c.d (S.instR c.v c.l (cs[i]:Int))=true:=by rw[lx hc];exact wb hv.1 hc
   have h5:=r38 c.d hb.d _ (qk hb.wl (cs[i]:Int)) hcf (S.instR c.v c.r (cs[i]:Int));rw[e13_0_1,B8 hlt,P3];simp only[B6,C1,hlt,H3,H1,aq,B7,ab hlt,ae hlt (ba (by omega)),S.nRow,nv0,nvS,dvI,dvB,dvS,dvL,B5,h3,h4,h5,ih (i+1) (by omega)]
   cases wc c.d (S.instR c.v c.l (cs[i]:Int)) (S.instR c.v c.r (cs[i]:Int))<;>rfl
 unfold ClM.row at h1 ⊢;rw[e13_0_0];simp only[h1,nv0,nvS,dvI,dvB,dvS,dvL,B5,h2];unfold tq;cases hv:c.valid with
 |false=>rfl
 |true =>
  have h0:=hlp hv (dk c.v c.g).length 0 (by omega)
  simp only[D2,C3] at h0;simp only[D0,H2,if_true,h0];cases (dk c.v c.g).find? (fun (j:Nat)=>wc c.d (S.instR c.v c.l (j:Int)) (S.instR c.v c.r (j:Int)))<;>rfl
theorem ah9(d:DfM)(hb:DfB d)(vars:List ByteArray)(hv:vars.length<=1048576)(hvs:∀ x∈vars,x.size<=maxLen)(t:Tm)(hw:Wt t)(hn:t.nodes<=1048577)(cs:List Int)(hcs:cs.length<=1048576):rn ⟨61,0,0⟩ [.sl (d.so.map ag),.sl (d.op.map OpM.row),.sl (d.ru.map RuM.row),.sl (d.st.map StM.row),.sl (vars.map ag),.int t.k,.int t.n,.str t.s,.sl (t.as.map Tm.row),.sl (cs.map am)]=some (0,[.bool (Cg d vars t cs)]):=by
 have hl1:∀ n i,i+n=cs.length->rn ⟨61,0,1⟩ [.int (i:Int),.sl (d.so.map ag),.sl (d.op.map OpM.row),.sl (d.ru.map RuM.row),.sl (d.st.map StM.row),.sl (vars.map ag),.int t.k,.int t.n,.str t.s,.sl (t.as.map Tm.row),.sl (cs.map am)]=bif lc vars.length (prv cs i) (cs.drop i) then some (0,[.sl (d.so.map ag),.sl (d.op.map OpM.row),.sl (d.ru.map RuM.row),.sl (d.st.map StM.row),.sl (vars.map ag),.int t.k,.int t.n,.str t.s,.sl (t.as.map Tm.row),.sl (cs.map am)]) else some (1,[]):=by
  intro n;induction n with
  |zero =>
   intro i hi;obtain rfl:i=cs.length:=by omega
   rw[e61_0_1];simp only[B6,C1,D3,H4,H2,C6,lc,H1]
  |succ n ih =>
   intro i hi;have hlt:i<cs.length:=by omega
   have h1:=r103 vars.length;have hp:prv cs (i+1)=some cs[i]:=by simp[prv,hlt]
   have h2:=ih (i+1) (by omega)
   rw[hp] at h2;rw[e61_0_1,B8 hlt];simp only[B6,C1,hlt,H3,H1,aq,B7,ab hlt,ae hlt (ba (by omega)),am,nv0,nvS,dvI,dvB,dvS,dvL,B5,h1,rIn,Zf,lc,h2]
   cases isC vars.length cs[i] with
   |false=>rfl
   |true =>
    rcases i with _ |j
    ·simp[prv]
    ·have hj:j<cs.length:=by omega
     have q1:(0:Int)<((j+1:Nat):Int):=by omega
     have hw:IntKind.i64.wrap (((j+1:Nat):Int)-1)=(j:Int):=by rw[IntWalk.i64_in _ (by omega)];omega
     simp only[q1,hw,aq,hj,H3,H1,H2,D0,D9,B7,ab hj,am,nv0,nvS,dvI,dvB,dvS,dvL,B5,prv,F6 hj];by_cases q:cs[j+1]<=cs[j]<;>simp[q]
 have h1:=hl1 cs.length 0 (by omega)
 simp only[D2,C3,prv] at h1;have h2:=r98 d hb;have h3:=r99 vars hv hvs;have h4:=r100 t (by omega) hw
 have hnt:=br t;have hsl:=dl t.names;have h5:=r102 t hn;have h5':=r101 (bx t.names) vars (by omega) (ba (by omega))
 have h6:=r62 vars hv;have h7:=r64 (d.so.map ag) d.op hb.op (wv vars) (by unfold wv;rw[B6];omega) t hw
 rw[e61_0_0];simp only[B6,h1,h2,h3,h4,h5,h5',h6,h7,nv0,nvS,dvI,dvB,dvS,dvL,B5,D5,H1,H2];unfold Cg jq;cases d.valid<;>try rfl
 cases decide (vars.length<=3)<;>try rfl
 cases dis vars<;>try rfl
 cases vars.all rr<;>try rfl
 cases t.valid<;>try rfl
 have hw:=Nt t vars;cases hw2:ge t vars with
 |true =>
  rw[hw2] at hw;have:(wo (bx t.names) vars).length=0:=hw.2 rfl;cases lc vars.length none cs with
  |false=>simp[this];rfl
  |true =>
   simp only[this,C3,Int.lt_irrefl,H4,H2,H1,D0,nv0,nvS,dvI,dvB,dvS,dvL,B5,D5,H1,H2,h6,h7];simp
 |false =>
  rw[hw2] at hw;have:¬(wo (bx t.names) vars).length=0:=fun h=>by have:=hw.1 h;simp at this
  have:0<(wo (bx t.names) vars).length:=by omega
  simp[this]
theorem af4(l:List Int)(hl:l.length<=maxLen)(x:Int):rn ⟨43,0,0⟩ [.sl (l.map am),.int x]=some (0,[.bool (nq l x)]):=by
 have key:∀ n i,i+n=l.length->(nq (l.drop i) x=false/\rn ⟨74,0,1⟩ [.sl (l.map am),.int x,.int (l.length:Int),.int (i:Int)]=some (0,[]))\/(nq (l.drop i) x=true/\∃ j:Nat,rn ⟨74,0,1⟩ [.sl (l.map am),.int x,.int (l.length:Int),.int (i:Int)]=some (1,[.int (j:Int)])):=by
  intro n;induction n with
  |zero =>
   intro i hi;obtain rfl:i=l.length:=by omega
   rw[e74_0_1];simp only[B6,C1,D3,H4,H2,C6];exact .inl ⟨rfl,trivial⟩
  |succ n ih =>
   intro i hi;have hlt:i<l.length:=by omega
   have:=ih (i+1) (by omega)
   rw[e74_0_1,B8 hlt];simp only[B6,C1,hlt,H3,H1,aq,B7,ab hlt,ae hlt hl,am,nv0,nvS,dvI,dvB,dvS,dvL,B5,nq,S7];by_cases h1:l[i]=x
   ·right
    refine⟨by simp[h1],i,by simp[h1]⟩
   ·have h1':¬ x=l[i]:=fun e=>h1 e.symm
    simpa[h1,h1',nq] using this
 have h:=key l.length 0 (by omega)
 simp only[D2,C3] at h;rw[e43_0_0,e74_0_0];simp only[B6];rcases h with ⟨h1,h2⟩|⟨h1,j,h2⟩
 ·rw[h2,h1];rfl
 ·rw[h2,h1]
  simp only[nv0,nvS,dvI,dvB,dvS,dvL,B5,D5,H1,H2,show F4 1 0=false from rfl]
  have:(0:Int)<=(j:Int):=by omega
  simp[this]
theorem r46(l:List Int)(hl:l.length<=maxLen)(x:Int):rn ⟨46,0,0⟩ [.sl (l.map am),.int x]=some (0,[.bool (nq l x)]):=by
 have key:∀ n i,i+n=l.length->rn ⟨46,0,1⟩ [.sl (l.map am),.int x,.int (i:Int)]=bif nq (l.drop i) x then some (1,[]) else some (0,[]):=by
  intro n;induction n with
  |zero =>
   intro i hi;obtain rfl:i=l.length:=by omega
   rw[e46_0_1];simp only[B6,C1,D3,H4,H2,C6,nq,List.any_nil,H2]
  |succ n ih =>
   intro i hi;have hlt:i<l.length:=by omega
   rw[e46_0_1,B8 hlt];simp only[B6,C1,hlt,H3,H1,aq,B7,ab hlt,ae hlt hl,am,nv0,nvS,dvI,dvB,dvS,dvL,B5,ih (i+1) (by omega)]
   simp only[nq,S7];by_cases h1:l[i]=x<;>simp[h1]
 have h:=key l.length 0 (by omega)
 simp only[D2,C3] at h;rw[e46_0_0,h];cases nq l x<;>rfl
theorem atI(t:Tm)(p:List Int)(hp:p.length<=1048576):rn ⟨202,0,0⟩ [.int t.k,.int t.n,.str t.s,.sl (t.as.map Tm.row),.sl (p.map am)]=some (0,[.int (atO t p).k,.int (atO t p).n,.str (atO t p).s,.sl ((atO t p).as.map Tm.row),.bool (atT t p).isSome]):=by
 have key:∀ n i (t:Tm),i+n=p.length->rn ⟨202,0,1⟩ [.sl (p.map am),.int (p.length:Int),.int (i:Int),.int t.k,.int t.n,.str t.s,.sl (t.as.map Tm.row),.int 0,.int 0,.str e0,.sl []]=match atT t (p.drop i) with
  |some u=>some (0,[.int u.k,.int u.n,.str u.s,.sl (u.as.map Tm.row),.int 0,.int 0,.str e0,.sl []])
  |none=>some (1,[.int 0,.int 0,.str e0,.sl []]):=by
  intro n;induction n with
  |zero =>
   intro i t hi;obtain rfl:i=p.length:=by omega
   rw[e202_0_1];simp only[B6,C1,D3,H4,H2,C6,atT]
  |succ n ih =>
   intro i t hi;have hlt:i<p.length:=by omega
   rw[e202_0_1,B8 hlt];generalize hj:p[i]=j;by_cases h0:j<0
   ·have e:atT t (j::p.drop (i+1))=none:=by
     simp only[atT];split
     ·rw[H6 (by omega)]
     ·rfl
    rw[e];simp only[B6,C1,hlt,H3,H1,aq,B7,ab hlt,ae hlt (ba (by omega)),hj,am,nv0,nvS,dvI,dvB,dvS,dvL,B5,h0]
   ·obtain⟨m,rfl⟩:∃ m:Nat,j=(m:Int):=⟨j.toNat,by omega⟩
    by_cases hm:m<t.as.length
    ·have h2:=ih (i+1) t.as[m] (by omega)
     have e:atT t ((m:Int)::p.drop (i+1))=atT t.as[m] (p.drop (i+1)):=by
      simp only[atT,B7,dif_pos hm];rw[H5 (by omega)]
     have q2:¬((t.as.length:Int)<=(m:Int)):=by omega
     rw[e,<-h2];simp only[B6,C1,hlt,H3,H1,aq,B7,ab hlt,ae hlt (ba (by omega)),hm,hj,h0,q2,H4,H2,ab hm,Tm.row_eq,am,nv0,nvS,dvI,dvB,dvS,dvL,B5]
    ·have e:atT t ((m:Int)::p.drop (i+1))=none:=by simp only[atT,B7,dif_neg hm]
     have q2:(t.as.length:Int)<=(m:Int):=by omega
     rw[e];simp only[B6,C1,hlt,H3,H1,aq,B7,ab hlt,ae hlt (ba (by omega)),hj,h0,q2,H4,H2,am,nv0,nvS,dvI,dvB,dvS,dvL,B5]
 have h1:=key p.length 0 t (by omega)
 simp only[C3,D2] at h1;rw[e202_0_0];simp only[B6,h1];unfold atO;cases atT t p<;>rfl
theorem atS(t:Tm)(hn:t.nodes<=1048577)(p:List Int)(hp:p.length<=1048576):rn ⟨174,0,0⟩ [.int t.k,.int t.n,.str t.s,.sl (t.as.map Tm.row),.sl (p.map am)]=some (0,[.int (atO t p).k,.int (atO t p).n,.str (atO t p).s,.bool (atT t p).isSome,.sl ((atO t p).as.map Tm.row)]):=by
 have key:∀ n i (t:Tm),i+n=p.length->t.nodes<=1048577->rn ⟨174,0,1⟩ [.sl (p.map am),.int (i:Int),.int t.k,.int t.n,.str t.s,.sl (t.as.map Tm.row),.int 0,.int 0,.str e0,.sl []]=match atT t (p.drop i) with
  |some u=>some (0,[.int u.k,.int u.n,.str u.s,.sl (u.as.map Tm.row),.int 0,.int 0,.str e0,.sl []])
  |none=>some (1,[.int 0,.int 0,.str e0,.sl []]):=by
  intro n;induction n with
  |zero =>
   intro i t hi _;obtain rfl:i=p.length:=by omega
   rw[e174_0_1];simp only[B6,C1,D3,H4,H2,C6,atT]
  |succ n ih =>
   intro i t hi hn;have hlt:i<p.length:=by omega
   have hls:=dg (xs:=t.as);have hnd:=Tm.nodes_eq t;have hw:IntKind.i64.wrap ((t.as.length:Int)-1)=(t.as.length:Int)-1:=IntWalk.i64_in _ (by omega)
   rw[e174_0_1,B8 hlt];generalize hj:p[i]=j;by_cases h0:0<=j
   ·obtain⟨m,rfl⟩:∃ m:Nat,j=(m:Int):=⟨j.toNat,by omega⟩
    by_cases hm:m<t.as.length
    ·have hmn:=ei (f:=Tm.nodes) (C0 hm)
     have h2:=ih (i+1) t.as[m] (by omega) (by omega)
     have e:atT t ((m:Int)::p.drop (i+1))=atT t.as[m] (p.drop (i+1)):=by
      simp only[atT,B7,dif_pos hm];rw[H5 (by omega)]
     have q2:(m:Int)<=(t.as.length:Int)-1:=by omega
     rw[e,<-h2];simp only[B6,C1,hlt,H3,H1,aq,B7,ab hlt,ae hlt (ba (by omega)),hm,hj,hw,rIn,h0,q2,K9,D0,H2,ab hm,Tm.row_eq,am,nv0,nvS,dvI,dvB,dvS,dvL,B5]
    ·have e:atT t ((m:Int)::p.drop (i+1))=none:=by simp only[atT,B7,dif_neg hm]
     have q2:¬(m:Int)<=(t.as.length:Int)-1:=by omega
     rw[e];simp only[B6,C1,hlt,H3,H1,aq,B7,ab hlt,ae hlt (ba (by omega)),hj,hw,rIn,h0,q2,H4,P2,G7,am,nv0,nvS,dvI,dvB,dvS,dvL,B5]
   ·have e:atT t (j::p.drop (i+1))=none:=by
     simp only[atT];split<;>simp[h0]
    rw[e];simp only[B6,C1,hlt,H3,H1,aq,B7,ab hlt,ae hlt (ba (by omega)),hj,hw,rIn,h0,H4,N4,G7,am,nv0,nvS,dvI,dvB,dvS,dvL,B5]
 have h1:=key p.length 0 t (by omega) hn
 simp only[C3,D2] at h1;rw[e174_0_0,h1];unfold atO;cases ha:atT t p with
 |none=>rfl
 |some u =>
  have hun:=ji p t u ha;have h3:=r65 u (ak u (by omega))
  simp only[nv0,nvS,dvI,dvB,dvS,dvL,B5,D5,H1,H2,h3,Q0,O5]
theorem aj3:∀ t:Tm,∀ p:List Int,p.length+t.nodes<=1048576->rn ⟨240,0,0⟩ [.int t.k,.int t.n,.str t.s,.sl (t.as.map Tm.row),.sl (p.map am)]=some (0,[.sl ((gr t p).map qm)]):=Tm.ind fun t ih p hp=>by
 have hnd:=Tm.nodes_eq t;have hls:=dg (xs:=t.as);have hlp:∀ n i (acc:List (List Int)),i+n=t.as.length->acc.length+((t.as.drop i).map Tm.nodes).sum<=1048576->rn ⟨240,0,1⟩ [.sl (p.map am),.sl (t.as.map Tm.row),.int (t.as.length:Int),.int (i:Int),.sl (acc.map qm)]=some (0,[.sl ((acc++pg (t.as.drop i) p i).map qm)]):=by
  intro n;induction n with
  |zero =>
   intro i acc hi _;obtain rfl:i=t.as.length:=by omega
   rw[e240_0_1];simp only[B6,C1,D3,H4,H2,C6,pg,G5]
  |succ n ih2 =>
   intro i acc hi hb;have hlt:i<t.as.length:=by omega
   have hm:=C0 hlt;have hmn:=ei (f:=Tm.nodes) hm;have h1:=ih _ hm (p++[(i:Int)]) (by simp;omega)
   have h2:=Hh (p.map am) (by rw[B6];omega)
   have hl:=ql t.as[i] (p++[(i:Int)]);rw[B8 hlt,C4,K1] at hb;have h3:=ih2 (i+1) (acc++gr t.as[i] (p++[(i:Int)])) (by omega) (by rw[E6,hl];omega)
   have b1:F5 (p.length+1) M63=true:=nb (by omega)
   have b2:F5 (acc.length+t.as[i].nodes) M63=true:=nb (by omega)
   rw[Ev hlt,<-E2,<-h3];simp only[D6,C4,D4,am] at h1 h2 ⊢;rw[e240_0_1];simp only[B6,C1,hlt,H3,H1,aq,B7,ab hlt,ae hlt (ba (by omega)),Tm.row_eq,nv0,nvS,dvI,dvB,dvS,dvL,B5,h2,C2,C5,D1,b1,h1,hl,b2]
 have h1:=hlp t.as.length 0 [p] (by omega) (by simp only[D2,C2,C5];omega)
 simp only[C3,D2,C4,D4,F2,D8] at h1;rw[e240_0_0,nr];simp only[qm] at h1 ⊢;simp only[B6,h1,nv0,nvS,dvI,dvB,dvS,dvL,B5,D5,H1,H2,C4];rfl
theorem r203(t:Tm)(h:t.nodes<=1048576):rn ⟨203,0,0⟩ [.int t.k,.int t.n,.str t.s,.sl (t.as.map Tm.row)]=some (0,[.sl ((gr t []).map qm)]):=by
 have h1:=aj3 t [] (by simpa using h)
 rw[D4] at h1;rw[e203_0_0];simp only[h1,nv0,nvS,dvI,dvB,dvS,dvL,B5]
theorem aj4:∀ t:Tm,∀ (p:List Int) (acc:List (List Int)),p.length+t.nodes<=1048576->acc.length+t.nodes<=1048576->rn ⟨273,1,0⟩ [.int t.k,.int t.n,.str t.s,.sl (t.as.map Tm.row),.sl (p.map am),.sl (acc.map qm)]=some (0,[.sl ((acc++gr t p).map qm)]):=Tm.ind fun t ih p acc hp ha=>by
 have hnd:=Tm.nodes_eq t;have hls:=dg (xs:=t.as);have hlp:∀ n i (acc:List (List Int)),i+n=t.as.length->acc.length+((t.as.drop i).map Tm.nodes).sum<=1048576->rn ⟨273,1,1⟩ [.sl (p.map am),.int (i:Int),.sl (acc.map qm),.int t.k,.int t.n,.str t.s,.sl (t.as.map Tm.row)]=some (0,[.sl ((acc++pg (t.as.drop i) p i).map qm)]):=by
  intro n;induction n with
  |zero =>
   intro i acc hi _;obtain rfl:i=t.as.length:=by omega
   rw[e273_1_1];simp only[B6,C1,D3,H4,H2,C6,pg,G5]
  |succ n ih2 =>
   intro i acc hi hb;have hlt:i<t.as.length:=by omega
   have hm:=C0 hlt;have hmn:=ei (f:=Tm.nodes) hm;have hl:=ql t.as[i] (p++[(i:Int)]);rw[B8 hlt,C4,K1] at hb;have h1:=ih _ hm (p++[(i:Int)]) acc (by simp;omega) (by omega)
   have h3:=ih2 (i+1) (acc++gr t.as[i] (p++[(i:Int)])) (by omega) (by rw[E6,hl];omega)
   have b0:F5 (0+p.length) M63=true:=nb (by omega)
   have b1:F5 (p.length+1) M63=true:=nb (by omega)
   rw[Ev hlt,<-E2,<-h3];simp only[D6,C4,D4,am] at h1 ⊢;rw[e273_1_1];simp only[B6,C1,hlt,H3,H1,aq,B7,ab hlt,ae hlt (ba (by omega)),Tm.row_eq,nv0,nvS,dvI,dvB,dvS,dvL,B5,C2,C5,D1,b1,b0,D8,h1,show F5 p.length M63=true from by simpa using b0]
 have h1:=hlp t.as.length 0 (acc++[p]) (by omega) (by simp only[D2,E6,C2,C5];omega)
 have b0:F5 p.length M63=true:=by simpa using nb (n:=p.length) (m:=0) (by omega)
 have b1:F5 (acc.length+1) M63=true:=nb (by omega)
 simp only[C3,D2,D6,C4,D4] at h1;rw[e273_1_0,nr];simp only[qm] at h1 ⊢;simp only[B6,C2,C5,D1,D8,b0,b1,H1,h1,nv0,nvS,dvI,dvB,dvS,dvL,B5,D5,H1,H2,D6,C4,E2,F2];rfl
theorem r261(t:Tm)(h:t.nodes<=1048576):rn ⟨261,0,0⟩ [.int t.k,.int t.n,.str t.s,.sl (t.as.map Tm.row)]=some (0,[.sl ((gr t []).map qm)]):=by
 have h1:=aj4 t [] [] (by simpa using h) (by simpa using h)
 rw[D4,D4] at h1;rw[e261_0_0];simp only[h1,nv0,nvS,dvI,dvB,dvS,dvL,B5,D8]
theorem Pa{F:Nat->R}{a b:List Int}(hlen:a.length=b.length){A B:R}(hs:∀ i (hi:i<a.length),F i=bif decide (a[i]=b[i]'(by omega)) then F (i+1) else B)(he:F a.length=A):F 0=bif decide (a=b) then A else B:=by
 have key:∀ n i,i+n=a.length->F i=bif decide (a.drop i=b.drop i) then A else B:=by
  intro n;induction n with
  |zero =>
   intro i hi;obtain rfl:i=a.length:=by omega
   rw[he,C6,O4 (by omega)];rfl
  |succ n ih =>
   intro i hi;have hlt:i<a.length:=by omega
   rw[hs i hlt,ih (i+1) (by omega),B8 hlt,B8 (show i<b.length by omega)]
   by_cases h1:a[i]=b[i]'(by omega)
   ·simp only[h1,R5.injEq,true_and,H3,H1]
   ·simp only[h1,R5.injEq,false_and,H4,H2]
 simpa using key a.length 0 (by omega)
theorem Zj(a b:List Int)(ha:a.length<=1048576):rn ⟨88,0,0⟩ [.sl (a.map am),.sl (b.map am)]=some (0,[.bool (decide (a=b))]):=by
 rw[e88_0_0];simp only[B6];by_cases hlen:a.length=b.length
 ·have hf:=Pa (F:=fun i=>rn ⟨88,0,1⟩ [.sl (a.map am),.sl (b.map am),.int (a.length:Int),.int (i:Int)]) hlen (A:=some (0,[])) (B:=some (1,[])) (fun i hi=>by
   have hi':i<b.length:=by omega
   rw[e88_0_1];simp only[B6,C1,hi,H3,H1,aq,B7,ab hi,ae hi (ba (by omega)),hi',ab hi',am,nv0,nvS,dvI,dvB,dvS,dvL,B5]
   by_cases h1:a[i]=b[i]<;>simp[h1]) (by
   rw[e88_0_1];simp only[B6,C1,D3,H4,H2,C6])
  simp only[C3] at hf;have e:((a.length:Int)=(b.length:Int)):=by omega
  simp only[e,H3,D0,H2];rw[<-e,hf];cases decide (a=b)<;>rfl
 ·have e:¬((a.length:Int)=(b.length:Int)):=by omega
  have:¬ a=b:=fun h=>hlen (by rw[h])
  simp[e,this]
theorem r142(r r':Int)(a b:List Int)(ha:a.length<=1048576):rn ⟨142,0,0⟩ [.int r,.sl (a.map am),.int r',.sl (b.map am)]=some (0,[.bool (decide (r=r')&&decide (a=b))]):=by
 have h1:=Zj a b ha;rw[e142_0_0];by_cases e:r=r'
 ·simp only[e,H3,H1,h1,nv0,nvS,dvI,dvB,dvS,dvL,B5,D9]
 ·simp only[e,H4,H2,N4]
theorem r55(a b:List Int)(ha:a.length<=1048576):rn ⟨55,0,0⟩ [.sl (a.map am),.sl (b.map am)]=some (0,[.bool (decide (a=b))]):=by
 rw[e55_0_0];simp only[B6];by_cases hlen:a.length=b.length
 ·have hf:=Pa (F:=fun i=>rn ⟨55,0,1⟩ [.sl (a.map am),.sl (b.map am),.int (i:Int)]) hlen (A:=some (0,[])) (B:=some (1,[])) (fun i hi=>by
   have hi':i<b.length:=by omega
   rw[e55_0_1];simp only[B6,C1,hi,H3,H1,aq,B7,ab hi,ae hi (ba (by omega)),hi',ab hi',am,nv0,nvS,dvI,dvB,dvS,dvL,B5]
   by_cases h1:a[i]=b[i]<;>simp[h1]) (by
   rw[e55_0_1];simp only[B6,C1,D3,H4,H2,C6])
  simp only[C3] at hf;have e:((a.length:Int)=(b.length:Int)):=by omega
  simp only[e,H3,D0,H2];rw[hf];cases decide (a=b)<;>rfl
 ·have e:¬((a.length:Int)=(b.length:Int)):=by omega
  have:¬ a=b:=fun h=>hlen (by rw[h])
  simp[e,this]
end Go.Q.S
end
