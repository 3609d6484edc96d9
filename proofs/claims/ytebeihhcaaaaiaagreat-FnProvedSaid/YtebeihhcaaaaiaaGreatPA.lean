/- The functions of this seat, as that machine runs them, part 1. -/
import Derived.Test.YtebeihhcaaaaiaaGreatQC
import Derived.Test.YtebeihhcaaaaiaaGreatfyX2
import Derived.Test.YtebeihhcaaaaiaaGreatMA
set_option linter.unusedVariables false
set_option linter.unusedSimpArgs false
open Bool renaming and_eq_true->B9,not_true->D4,true_and->E4,not_false->J6,and_true->K8,false_eq_true->N3,and_self->Q2,false_and->Q4,and_false->U3
open Int renaming toNat_natCast->B7,ofNat_lt->C0,natCast_zero->C3,toNat->O8,tdiv_eq_ediv_of_nonneg->R6
open List renaming length_map->B6,drop_eq_getElem_cons->B8,getElem_mem->C1,length_cons->C2,map_cons->C4,length_nil->C5,drop_length->C8,map_nil->D1,drop_zero->D2,map_append->D5,nil_append->D8,getD_cons_zero->D9,getD_cons_succ->E0,append_assoc->E2,length_append->E6,cons_append->F4,getElem?_eq_getElem->F7,length_eq_zero_iff->F9,append_nil->G8,all_cons->J1,sum_cons->K1,all_nil->K5,map_map->K9,filter_cons->O0,getD->O5,drop_eq_nil_of_le->O7,drop_succ_cons->P6,find?_cons->P8,cons->Q5,getElem_map->R3,range'->S5,getElem_cons_zero->S7,filter_nil->S8,find?_nil->T0,pairwise_iff_getElem->T2,take_zero->T8,findIdx?_nil->U4
open Nat renaming zero_add->D0,lt_irrefl->D3,beq_refl->D7,le_refl->E7,ble_eq_true_of_le->E8,beq->E9,ble->F5,le_trans->G7,zero_le->J0,blt->J7,add_zero->O2,mul_le_mul->U1
open Option renaming bind_some->B5,some->C9,map_some->K6,isSome_some->O4,getD_some->O6
section
namespace Go.Q.S
open Go Go.Q Go.Proofs
theorem yw(xs:aa)(h:xs.length<=274877906944):rn ⟨117,0,0⟩ [.sl xs]=some (0,[.sl xs]):=by
 rw[e117_0_0];have hb:F5 (([]:aa).length+xs.length) M63=true:=E8 (by unfold M63;simpa using h)
 rw[hb];cases xs with
 |nil=>simp[rk]
 |cons x xs=>rfl
theorem Fu(xs:aa)(h:xs.length<=274877906944):rn ⟨119,0,0⟩ [.sl xs]=some (0,[.sl xs]):=by
 rw[e119_0_0];have hb:F5 (([]:aa).length+xs.length) M63=true:=E8 (by unfold M63;simpa using h)
 rw[hb];cases xs with
 |nil=>simp[rk]
 |cons x xs=>rfl
theorem ac2(ls:List D):rn ⟨249,0,0⟩ ls=Cp 0 ls:=by rw[rn_eq];rfl
theorem ac3(ls:List D):rn ⟨250,0,0⟩ ls=Cq 0 ls:=by rw[rn_eq];rfl
theorem r214(l:List ByteArray)(h:l.length<=274877906944):rn ⟨214,0,0⟩ [.sl (l.map ag)]=some (0,[.sl ((bw l).map ag)]):=by
 rw[e214_0_0,yw _ (by simpa using h)]
 simp only[we,yg,yh,yi,yj,yk,yl,ym,yn,yo,ne,nf,ng,nj,nk,nn,np,nq,nr,nu,nv,nz,oa,oc,od,oe,dI,dB,dS,dL,B5];rw[ac2,Rq 0 l (by omega)]
 simp only[we,yg,yh,yi,yj,yk,yl,ym,yn,yo,ne,nf,ng,nj,nk,nn,np,nq,nr,nu,nv,nz,oa,oc,od,oe,dI,dB,dS,dL,B5];rw[ac3,Rr 0 _ (by simp;omega),Fc]
 simp only[we,yg,yh,yi,yj,yk,yl,ym,yn,yo,ne,nf,ng,nj,nk,nn,np,nq,nr,nu,nv,nz,oa,oc,od,oe,dI,dB,dS,dL,B5];rw[Ic];rfl
theorem r168(l:List ByteArray)(h:l.length<=1073741824):rn ⟨168,0,0⟩ [.sl (l.map ag)]=some (0,[.sl ((bw l).map ag)]):=by
 rw[e168_0_0,Ie];unfold bw;generalize hks:l.map toK=ks;have hk:ks.length<=1073741824:=by rw[<-hks];simpa using h
 have hin:∀ (i:Nat) (hi:i<ks.length) (acc:List Ky),acc.length<=1073741824->∀ n a,a+n=acc.length->rn ⟨168,0,3⟩ [.sl (ks.map fk),.int (i:Int),.int (a:Int),.sl (acc.map fk)] =
  some (0,[.sl (ks.map fk),.int (i:Int),.int ((a+ldK ks[i] (acc.drop a):Nat):Int),.sl (acc.map fk)]):=by
  intro i hi acc hacc n;induction n with
  |zero =>
   intro a ha;have:a=acc.length:=by omega
   subst this;rw[e168_0_3];simp[ldK]
  |succ n ih =>
   intro a ha;have hlt:a<acc.length:=by omega
   rw[e168_0_3,Rt _ _ _ hlt];simp only[B7,ab hi,ab hlt,B6,aq,hi,hlt,C0,H3,H1,we,yg,yh,yi,yj,yk,yl,ym,yn,yo,ne,nf,ng,nj,nk,nn,np,nq,nr,nu,nv,nz,oa,oc,od,oe,dI,dB,dS,dL,B5,qi,ag,Wp,ae hlt (by unfold maxLen;omega)]
   by_cases hx:acc[a]<ks[i]
   ·rw[H5 hx,H7 hx,H1,ih (a+1) (by omega)]
    have e:a+1+ldK ks[i] (acc.drop (a+1))=a+(ldK ks[i] (acc.drop (a+1))+1):=by omega
    rw[e]
   ·rw[H6 hx,H8 hx,H2];rfl
 have hout:∀ n (i:Nat) (acc:List Ky),i+n=ks.length->acc.length<=i->rn ⟨168,0,1⟩ [.sl (ks.map fk),.int (i:Int),.sl (acc.map fk)]=some (0,[.sl ((qs (ks.drop i) acc).map fk)]):=by
  intro n;induction n with
  |zero =>
   intro i acc hi ha;have:i=ks.length:=by omega
   subst this;rw[e168_0_1];simp[qs]
  |succ n ih =>
   intro i acc hi ha;have hlt:i<ks.length:=by omega
   have hI:=hin i hlt acc (by omega) acc.length 0 (by omega)
   rw[D2,D0] at hI;rw[e168_0_1];have hc:ldK ks[i] acc<=acc.length:=Rs _ _;have hz:((0:Nat):Int)=0:=rfl;rw[hz] at hI;rw[hI,B8 hlt];have hins:=Mo ks[i] acc;have hil:(kf ks[i] acc).length<=i+1:=by
    rw[hins];split
    ·omega
    ·simp;omega
   have ih':=ih (i+1) (kf ks[i] acc) (by omega) hil
   simp only[B6,C0,hlt,H3,H1,we,yg,yh,yi,yj,yk,yl,ym,yn,yo,ne,nf,ng,nj,nk,nn,np,nq,nr,nu,nv,nz,oa,oc,od,oe,dI,dB,dS,dL,B5,D7,B7,ae hlt (by unfold maxLen;omega),qs] at ih' ⊢
   rw[<-ih'];generalize hcc:ldK ks[i] acc=c at hc hins ⊢;have h0:(0:Int)<=(c:Int):=by omega
   have h3:(c:Int)<=(acc.length:Int):=by omega
   have hb2:F5 (([]:aa).length+(List.drop (O8 0) (List.take c (acc.map fk))).length) M63=true:=E8 (by unfold M63;simp;omega)
   have hb3:∀ z:aa,z.length=1->F5 (([]++List.drop (O8 0) (List.take c (acc.map fk)):aa).length+z.length) M63=true:=fun z hz=>E8 (by unfold M63;simp[hz];omega)
   have hb4:∀ z:aa,z.length=1->F5 ((([]++List.drop (O8 0) (List.take c (acc.map fk)):aa)++z).length+(List.drop c (List.take acc.length (acc.map fk))).length) M63=true:=fun z hz=>E8 (by unfold M63;simp[hz];omega)
   have hfin:([]++List.drop (O8 0) (List.take c (acc.map fk)):aa)++[fk ks[i]]++List.drop c (List.take acc.length (acc.map fk))=(List.take c acc++[ks[i]]++List.drop c acc).map fk:=by
    simp[List.map_take,List.map_drop,List.take_of_length_le]
   simp only[ab hlt,aq,hlt,H3,H1];by_cases h1:c<acc.length
   ·simp only[H7 h1,H1,ab h1,we,yg,yh,yi,yj,yk,yl,ym,yn,yo,ne,nf,ng,nj,nk,nn,np,nq,nr,nu,nv,nz,oa,oc,od,oe,dI,dB,dS,dL,B5,qi,ag,Wo]
    rw[F7 h1] at hins;by_cases h2:acc[c]=ks[i]
    ·rw[H7 h2,H1,hins,H5 (by rw[h2])]
    ·rw[H8 h2,H2,hins,H6 (by simpa using h2)]
     simp only[h0,h3,Int.le_refl,H3,Q2,H1];rw[hb2,hb3 _ rfl,hb4 _ rfl];simp only[H1];rw[<-hfin];rfl
   ·simp only[H8 h1,H2]
    rw[List.getElem?_eq_none (by omega)] at hins
    rw[hins,H6 (by simp)]
    simp only[h0,h3,Int.le_refl,H3,Q2,H1];rw[hb2];simp only[H1,ab hlt,we,yg,yh,yi,yj,yk,yl,ym,yn,yo,ne,nf,ng,nj,nk,nn,np,nq,nr,nu,nv,nz,oa,oc,od,oe,dI,dB,dS,dL,B5,qi,ag];rw[hb3 _ rfl,hb4 _ rfl];simp only[H1];rw[<-hfin];rfl
 have:=hout ks.length 0 [] (by omega) (J0 _)
 simp only[C3,D1,D2] at this;rw[this];simp only[we,yg,yh,yi,yj,yk,yl,ym,yn,yo,ne,nf,ng,nj,nk,nn,np,nq,nr,nu,nv,nz,oa,oc,od,oe,dI,dB,dS,dL,B5,D7,H1];rw[Ic]
theorem r118:∀ t:Tm,au t->rn ⟨118,0,0⟩ [.int t.k,.int t.n,.str t.s,.sl (t.as.map Tm.row)]=some (0,[.int t.k,.int t.n,.str t.s,.sl (t.as.map Tm.row)]):=Tm.ind fun t ih h=>by
 have hl:=h.len;show rn _ _=_
 rw[e118_0_0];have hf:=jg (F:=fun i acc=>rn ⟨118,0,1⟩ [.sl (t.as.map Tm.row),.int ((t.as.map Tm.row)).length,.int (i:Int),.int 0,.int 0,.str (⟨#[]⟩:ByteArray),.int t.k,.int t.n,.str t.s,.sl [],.sl acc]) (xs:=t.as) Tm.row (K:=fun acc=>some (0,[.int (0),.int (0),.str ((⟨#[]⟩:ByteArray)),.int (t.k),.int (t.n),.str (t.s),.sl ([]),.sl (acc)])) (fun i hi acc ha=>?_) (fun acc=>?_)
 ·simp only[C3] at hf;rw[hf];rfl
 ·have hc:=ih _ (C1 hi) (h.sub (C1 hi))
  rw[e118_0_1];simp only[B7,ab hi,Tm.row_eq,B6,aq,hi,C0,H3,H1,nth,D9,E0,D.I,D.S,D.L,D.B,ae hi (by unfold maxLen;omega),hc,B5,C2,C5]
  rw[show F5 (acc.length+(0+1)) M63=true from E8 (by unfold M63;omega)]
  rfl
 ·skip
  rw[e118_0_1];simp
theorem r65:∀ t:Tm,au t->rn ⟨65,0,0⟩ [.int t.k,.int t.n,.str t.s,.sl (t.as.map Tm.row)]=some (0,[.int t.k,.int t.n,.str t.s,.sl (t.as.map Tm.row)]):=Tm.ind fun t ih h=>by
 have hl:=h.len;show rn _ _=_
 rw[e65_0_0];have hf:=jg (F:=fun i acc=>rn ⟨65,0,1⟩ [.int (i:Int),.int t.k,.int t.n,.str t.s,.sl (t.as.map Tm.row),.int 0,.int 0,.str (⟨#[]⟩:ByteArray),.sl acc,.sl []]) (xs:=t.as) Tm.row (K:=fun acc=>some (0,[.int (t.k),.int (t.n),.str (t.s),.sl ((t.as.map Tm.row)),.int (0),.int (0),.str ((⟨#[]⟩:ByteArray)),.sl (acc),.sl ([])])) (fun i hi acc ha=>?_) (fun acc=>?_)
 ·simp only[C3] at hf;rw[hf];rfl
 ·have hc:=ih _ (C1 hi) (h.sub (C1 hi))
  rw[e65_0_1];simp only[B7,ab hi,Tm.row_eq,B6,aq,hi,C0,H3,H1,nth,D9,E0,D.I,D.S,D.L,D.B,ae hi (by unfold maxLen;omega),hc,B5,C2,C5]
  rw[show F5 (acc.length+(0+1)) M63=true from E8 (by unfold M63;omega)]
  rfl
 ·skip
  rw[e65_0_1];simp
theorem r182(t:Tm):rn ⟨182,0,0⟩ [.int t.k,.int t.n,.str t.s,.sl (t.as.map Tm.row)]=some (0,[.bool (isW t)]):=by
 show rn _ _=_
 rw[e182_0_0];simp only[B6];unfold isW;have e:decide ((t.as.length:Int)=0)=decide (t.as.length=0):=by simp
 rw[e];cases decide (t.k=3)<;>cases decide (0<=t.n)<;>cases decide (t.n<4)<;>cases decide (t.s=⟨#[]⟩)<;>cases decide (t.as.length=0)<;>rfl
theorem r35(a b c:Int):rn ⟨35,0,0⟩ [.int a,.int b,.int c]=some (0,[.bool (decide (b<=a)&&decide (a<=c))]):=by
 show rn _ _=_
 rw[e35_0_0];cases decide (b<=a)<;>rfl
theorem r112(t:Tm):rn ⟨112,0,0⟩ [.int t.k,.int t.n,.str t.s,.sl (t.as.map Tm.row)]=some (0,[.bool (isW t)]):=by
 show rn _ _=_
 rw[e112_0_0];have hc:=r35 t.n 0 3;simp only[hc,B5,nth,D9,E0,D.I,D.S,D.L,D.B,B6];unfold isW;have e:decide ((t.as.length:Int)=0)=decide (t.as.length=0):=by simp
 have e2:decide (t.n<=3)=decide (t.n<4):=decide_eq_decide.2 (by omega)
 rw[e,e2];cases decide (t.k=3)<;>cases decide (0<=t.n)<;>cases decide (t.n<4)<;>cases decide (t.s=⟨#[]⟩)<;>cases decide (t.as.length=0)<;>rfl
theorem r181(s:ByteArray):rn ⟨181,0,0⟩ [.str s]=some (0,[.bool (isB s)]):=by
 show rn _ _=_
 rw[e181_0_0];unfold isB Cv wb Ks;cases decide (s=(⟨#[112,108,117,115]⟩:ByteArray))<;>cases decide (s=(⟨#[109,105,110,117,115]⟩:ByteArray))<;>cases decide (s=(⟨#[116,105,109,101,115]⟩:ByteArray))<;>rfl
theorem r111(s:ByteArray):rn ⟨111,0,0⟩ [.str s]=some (0,[.bool (isB s)]):=by
 show rn _ _=_
 rw[e111_0_0];unfold isB Cv wb Ks;cases decide (s=(⟨#[112,108,117,115]⟩:ByteArray))<;>cases decide (s=(⟨#[109,105,110,117,115]⟩:ByteArray))<;>cases decide (s=(⟨#[116,105,109,101,115]⟩:ByteArray))<;>rfl
theorem r183(s:ByteArray){a b:Int}(ha:0<=a)(ha':a<4)(hb:0<=b)(hb':b<4):rn ⟨183,0,0⟩ [.str s,.int a,.int b]=some (0,[.int (cmp s a b)]):=by
 show rn _ _=_
 rw[e183_0_0];unfold cmp Cv wb;have h4:(!decide ((4:Int)=0))=true:=rfl;simp only[h4,H1];obtain rfl |rfl |rfl |rfl:a=0\/a=1\/a=2\/a=3:=by omega
 all_goals
  obtain rfl |rfl |rfl |rfl:b=0\/b=1\/b=2\/b=3:=by omega
  all_goals
   by_cases h1:s=(⟨#[112,108,117,115]⟩:ByteArray)
   ·simp only[h1,H3,H1,if_true];rfl
   ·by_cases h2:s=(⟨#[109,105,110,117,115]⟩:ByteArray)
    ·simp only[h1,h2,H3,H4,H1,H2,if_true,if_false];rfl
    ·simp only[h1,h2,H4,H2,if_false];rfl
theorem r114(s:ByteArray){a b:Int}(ha:0<=a)(ha':a<4)(hb:0<=b)(hb':b<4):rn ⟨114,0,0⟩ [.str s,.int a,.int b]=some (0,[.int (cmp s a b)]):=by
 show rn _ _=_
 rw[e114_0_0];unfold cmp Cv wb;have h4:(!decide ((4:Int)=0))=true:=rfl;simp only[h4,H1];obtain rfl |rfl |rfl |rfl:a=0\/a=1\/a=2\/a=3:=by omega
 all_goals
  obtain rfl |rfl |rfl |rfl:b=0\/b=1\/b=2\/b=3:=by omega
  all_goals
   by_cases h1:s=(⟨#[112,108,117,115]⟩:ByteArray)
   ·simp only[h1,H3,H1,if_true];rfl
   ·by_cases h2:s=(⟨#[109,105,110,117,115]⟩:ByteArray)
    ·simp only[h1,h2,H3,H4,H1,H2,if_true,if_false];rfl
    ·simp only[h1,h2,H4,H2,if_false];rfl
theorem r184(l:List Bnd)(hl:l.length<=1048576)(s:ByteArray):rn ⟨184,0,0⟩ [.sl (l.map Bnd.row),.str s]=match bnd l s with
 |some t=>some (0,[.int t.k,.int t.n,.str t.s,.sl (t.as.map Tm.row),.bool true])
 |none=>some (0,[.int 0,.int 0,.str ⟨#[]⟩,.sl [],.bool false]):=by
 show rn _ _=_
 rw[e184_0_0];have hf:=Cw (F:=fun i=>rn ⟨184,0,1⟩ [.str s,.sl (l.map Bnd.row),.int ((l.map Bnd.row)).length,.int (i:Int),.int 0,.int 0,.str (⟨#[]⟩:ByteArray),.sl []]) (xs:=l) (p:=fun b=>decide (b.1=s)) (A:=some (0,[.int (0),.int (0),.str ((⟨#[]⟩:ByteArray)),.sl ([])])) (B:=fun i b=>some (1,[.int b.2.k,.int b.2.n,.str b.2.s,.sl (b.2.as.map Tm.row)])) (fun i hi=>?_) ?_
 ·simp only[C3] at hf
  rw[Hw];rcases hf with ⟨h1,h2⟩|⟨i,hi,h1,h2⟩
  ·rw[h1,h2];rfl
  ·rw[h1,h2];rfl
 ·skip
  rw[e184_0_1];simp only[B7,ab hi,gc,B6,aq,hi,C0,H3,H1,nth,D9,E0,D.I,D.S,D.L,D.B,ae hi (by unfold maxLen;omega)]
 ·skip
  rw[e184_0_1];simp
theorem r177(l:List Bnd)(hl:l.length<=1048576)(s:ByteArray):(bnd l s=none/\rn ⟨177,0,0⟩ [.sl (l.map Bnd.row),.str s]=some (0,[.int (-1)]))\/∃ i,∃ hi:i<l.length,bnd l s=some l[i].2/\rn ⟨177,0,0⟩ [.sl (l.map Bnd.row),.str s]=some (0,[.int (i:Int)]):=by
 have hf:=Cw (F:=fun i=>rn ⟨177,0,1⟩ [.sl (l.map Bnd.row),.str s,.int (i:Int)]) (xs:=l) (p:=fun b=>decide (b.1=s)) (A:=some (0,[])) (B:=fun i b=>some (1,[.int (i:Int)])) (fun i hi=>?_) ?_
 ·simp only[C3] at hf
  rw[Hw];rcases hf with ⟨h1,h2⟩|⟨i,hi,h1,h2⟩
  ·left
   refine⟨by rw[h1];rfl,?_⟩
   show rn _ _=_
   rw[e177_0_0];rw[h2];rfl
  ·right
   refine⟨i,hi,by rw[h1];rfl,?_⟩
   show rn _ _=_
   rw[e177_0_0];rw[h2];rfl
 ·skip
  rw[e177_0_1];simp only[B7,ab hi,gc,B6,aq,hi,C0,H3,H1,nth,D9,E0,D.I,D.S,D.L,D.B,ae hi (by unfold maxLen;omega)]
 ·skip
  rw[e177_0_1];simp
theorem r115(l:List Bnd)(hl:l.length<=1048576)(hs:∀ b∈l,au b.2)(s:ByteArray):rn ⟨115,0,0⟩ [.sl (l.map Bnd.row),.str s]=match bnd l s with
 |some t=>some (0,[.int t.k,.int t.n,.str t.s,.bool true,.sl (t.as.map Tm.row)])
 |none=>some (0,[.int 0,.int 0,.str ⟨#[]⟩,.bool false,.sl []]):=by
 show rn _ _=_
 rw[e115_0_0];rcases r177 l hl s with ⟨h1,h2⟩|⟨i,hi,h1,h2⟩
 ·skip
  rw[h1,h2];rfl
 ·skip
  have hc:=r65 l[i].2 (hs _ (C1 hi));rw[h1,h2];have hn:¬((i:Int)<0):=by omega
  simp only[B5,nth,D9,E0,D.I,D.S,D.L,D.B,B7,ab hi,gc,B6,aq,hi,hn,H3,H4,H1,H2,hc]
theorem r125(l:List Bnd)(hl:l.length<=1048576)(hs:∀ b∈l,au b.2):∀ t:Tm,au t->rn ⟨125,0,0⟩ [.sl (l.map Bnd.row),.int t.k,.int t.n,.str t.s,.sl (t.as.map Tm.row)]=some (0,[.int (aS l t).k,.int (aS l t).n,.str (aS l t).s,.sl ((aS l t).as.map Tm.row)]):=Tm.ind fun t ih h=>by
 have hlt:=h.len;show rn _ _=_
 rw[e125_0_0];have hf:=jg (F:=fun i acc=>rn ⟨125,0,1⟩ [.sl (l.map Bnd.row),.sl (t.as.map Tm.row),.int ((t.as.map Tm.row)).length,.int (i:Int),.int 0,.int 0,.str (⟨#[]⟩:ByteArray),.int t.k,.int t.n,.str t.s,.sl [],.sl acc]) (xs:=t.as) (fun x=>(aS l x).row) (K:=fun acc=>some (0,[.int (0),.int (0),.str ((⟨#[]⟩:ByteArray)),.int (t.k),.int (t.n),.str (t.s),.sl ([]),.sl (acc)])) (fun i hi acc ha=>?_) (fun acc=>?_)
 ·simp only[C3] at hf
  have hb:=r184 l hl t.s;rw[eo];by_cases hk:t.k=1
  ·rw[H5 hk]
   cases hq:bnd l t.s with
   |none =>
    rw[hq] at hb;simp only at hb;simp only[H7 hk,H1,hb,B5,nth,D9,E0,D.I,D.S,D.L,D.B,H2,hf];simp[Tm.k,Tm.n,Tm.s,Tm.as,Function.comp_def]
   |some u =>
    rw[hq] at hb;simp only at hb;obtain⟨b,hbm,rfl⟩:=dr hq;have hcp:=r118 b.2 (hs b hbm);simp only[H7 hk,H1,hb,B5,nth,D9,E0,D.I,D.S,D.L,D.B,hcp]
  ·rw[H6 hk]
   simp only[H8 hk,H2,hf,B5,nth,D9,E0,D.I,D.S,D.L,D.B];simp[Tm.k,Tm.n,Tm.s,Tm.as,Function.comp_def]
 ·have hc:=ih _ (C1 hi) (h.sub (C1 hi))
  rw[e125_0_1];simp only[B7,ab hi,Tm.row_eq,B6,aq,hi,C0,H3,H1,nth,D9,E0,D.I,D.S,D.L,D.B,ae hi (by unfold maxLen;omega),hc,B5,C2,C5]
  rw[show F5 (acc.length+(0+1)) M63=true from E8 (by unfold M63;omega)]
  rfl
 ·skip
  rw[e125_0_1];simp
theorem r70(l:List Bnd)(hl:l.length<=1048576)(hs:∀ b∈l,au b.2):∀ t:Tm,au t->rn ⟨70,0,0⟩ [.sl (l.map Bnd.row),.int t.k,.int t.n,.str t.s,.sl (t.as.map Tm.row)]=some (0,[.int (aS l t).k,.int (aS l t).n,.str (aS l t).s,.sl ((aS l t).as.map Tm.row)]):=Tm.ind fun t ih h=>by
 have hlt:=h.len;show rn _ _=_
 rw[e70_0_0];have hf:=jg (F:=fun i acc=>rn ⟨70,0,1⟩ [.sl (l.map Bnd.row),.int (i:Int),.int t.k,.int t.n,.str t.s,.sl (t.as.map Tm.row),.int 0,.int 0,.str (⟨#[]⟩:ByteArray),.int t.k,.int t.n,.str t.s,.sl [],.sl acc]) (xs:=t.as) (fun x=>(aS l x).row) (K:=fun acc=>some (0,[.int (0),.int (0),.str ((⟨#[]⟩:ByteArray)),.int (t.k),.int (t.n),.str (t.s),.sl ([]),.sl (acc)])) (fun i hi acc ha=>?_) (fun acc=>?_)
 ·simp only[C3] at hf
  have hb:=r115 l hl hs t.s;rw[eo];by_cases hk:t.k=1
  ·rw[H5 hk]
   cases hq:bnd l t.s with
   |none =>
    rw[hq] at hb;simp only at hb;simp only[H7 hk,H1,hb,B5,nth,D9,E0,D.I,D.S,D.L,D.B,H2,hf];simp[Tm.k,Tm.n,Tm.s,Tm.as,Function.comp_def]
   |some u =>
    rw[hq] at hb;simp only at hb;obtain⟨b,hbm,rfl⟩:=dr hq;have hcp:=r118 b.2 (hs b hbm);simp only[H7 hk,H1,hb,B5,nth,D9,E0,D.I,D.S,D.L,D.B,hcp]
  ·rw[H6 hk]
   simp only[H8 hk,H2,hf,B5,nth,D9,E0,D.I,D.S,D.L,D.B];simp[Tm.k,Tm.n,Tm.s,Tm.as,Function.comp_def]
 ·have hc:=ih _ (C1 hi) (h.sub (C1 hi))
  rw[e70_0_1];simp only[B7,ab hi,Tm.row_eq,B6,aq,hi,C0,H3,H1,nth,D9,E0,D.I,D.S,D.L,D.B,ae hi (by unfold maxLen;omega),hc,B5,C2,C5]
  rw[show F5 (acc.length+(0+1)) M63=true from E8 (by unfold M63;omega)]
  rfl
 ·skip
  rw[e70_0_1];simp
theorem r124:∀ t:Tm,au t->rn ⟨124,0,0⟩ [.int t.k,.int t.n,.str t.s,.sl (t.as.map Tm.row)]=some (0,[.int (rW t).k,.int (rW t).n,.str (rW t).s,.sl ((rW t).as.map Tm.row)]):=Tm.ind fun t ih h=>by
 have hlt:=h.len;show rn _ _=_
 rw[e124_0_0];have hf:=jg (F:=fun i acc=>rn ⟨124,0,1⟩ [.sl (t.as.map Tm.row),.int ((t.as.map Tm.row)).length,.int (i:Int),.int 0,.int 0,.str (⟨#[]⟩:ByteArray),.int t.k,.int t.n,.str t.s,.sl [],.sl acc]) (xs:=t.as) (fun x=>(rW x).row) (K:=fun acc=>some (0,[.int (0),.int (0),.str ((⟨#[]⟩:ByteArray)),.int (t.k),.int (t.n),.str (t.s),.sl ([]),.sl (acc)])) (fun i hi acc ha=>?_) (fun acc=>?_)
 ·simp only[C3] at hf
  have e:t.as.map (fun x=>(rW x).row)=(t.as.map rW).map Tm.row:=by simp[Function.comp_def]
  rw[e] at hf;rw[jf];generalize t.as.map rW=us at hf ⊢;have hB:=r181 t.s;rw[hf];simp only[B5,D7,H1,nth,D9,E0,D.I,D.S,D.L,D.B,hB,B6];by_cases h1:t.k=2
  case neg =>
   simp only[H8 h1,H2];unfold rW1;split
   ·rw[H6 (fun h=>h1 h.1)];rfl
   ·rfl
  by_cases h2:t.n=0
  case neg =>
   simp only[H7 h1,H8 h2,H1,H2];unfold rW1;split
   ·rw[H6 (fun h=>h2 h.2.1)];rfl
   ·rfl
  simp only[H7 h1,H7 h2,H1];cases h3:isB t.s with
  |false =>
   simp only[H2];unfold rW1;split
   ·rw[H6 (fun h=>by rw[h3] at h;exact absurd h.2.2.1 (by decide))];rfl
   ·rfl
  |true =>
   simp only[H1]
   match us with
   | []=>rfl
   | [x]=>rfl
   |x::y::z::zs =>
    have:¬(((x::y::z::zs).length:Int)=2):=by simp only[C2];omega
    simp only[H8 this,H2];rfl
   | [x,y] =>
    have hx:=r182 x;have hy:=r182 y;have l2:decide ((([x,y]:List Tm).length:Int)=2)=true:=rfl;have i0:inb 0 ([x,y]:List Tm).length=true:=rfl;have i1:inb 1 ([x,y]:List Tm).length=true:=rfl;have r0:rowAt (([x,y]:List Tm).map Tm.row) (O8 0)=x.row:=rfl;have r1:rowAt (([x,y]:List Tm).map Tm.row) (O8 1)=y.row:=rfl;simp only[l2,i0,i1,r0,r1,H1,Tm.row_eq,nth,D9,E0,D.I,D.S,D.L,D.B,hx,hy,B5];unfold rW1;simp only;cases h4:isW x with
    |false=>simp only[H2];rw[H6 (fun h=>by simp at h)];rfl
    |true =>
     cases h5:isW y with
     |false=>simp only[H1,H2];rw[H6 (fun h=>by simp at h)];rfl
     |true =>
      have b1:=h4;have b2:=h5;simp only[isW,B9,decide_eq_true_eq] at b1 b2;have hcm:=r183 t.s b1.2.1 b1.2.2.1 b2.2.1 b2.2.2.1;simp only[H1,hcm,B5,nth,D9,E0,D.I,D.S,D.L,D.B];rw[H5 ⟨h1,h2,h3,trivial,trivial⟩];rfl
 ·have hc:=ih _ (C1 hi) (h.sub (C1 hi))
  rw[e124_0_1];simp only[B7,ab hi,Tm.row_eq,B6,aq,hi,C0,H3,H1,nth,D9,E0,D.I,D.S,D.L,D.B,ae hi (by unfold maxLen;omega),hc,B5,C2,C5]
  rw[show F5 (acc.length+(0+1)) M63=true from E8 (by unfold M63;omega)]
  rfl
 ·skip
  rw[e124_0_1];simp
theorem r113(n:Int):rn ⟨113,0,0⟩ [.int n]=some (0,[.int 3,.int n,.str ⟨#[]⟩,.sl []]):=by
 show rn _ _=_
 rw[e113_0_0]
theorem r69:∀ t:Tm,au t->rn ⟨69,0,0⟩ [.int t.k,.int t.n,.str t.s,.sl (t.as.map Tm.row)]=some (0,[.int (rW t).k,.int (rW t).n,.str (rW t).s,.sl ((rW t).as.map Tm.row)]):=Tm.ind fun t ih h=>by
 have hlt:=h.len;show rn _ _=_
 rw[e69_0_0];have hf:=jg (F:=fun i acc=>rn ⟨69,0,1⟩ [.int (i:Int),.int t.k,.int t.n,.str t.s,.sl (t.as.map Tm.row),.int 0,.int 0,.str (⟨#[]⟩:ByteArray),.int t.k,.int t.n,.str t.s,.sl [],.sl acc]) (xs:=t.as) (fun x=>(rW x).row) (K:=fun acc=>some (0,[.int (t.k),.int (t.n),.str (t.s),.sl ((t.as.map Tm.row)),.int (0),.int (0),.str ((⟨#[]⟩:ByteArray)),.int (t.k),.int (t.n),.str (t.s),.sl ([]),.sl (acc)])) (fun i hi acc ha=>?_) (fun acc=>?_)
 ·simp only[C3] at hf
  have e:t.as.map (fun x=>(rW x).row)=(t.as.map rW).map Tm.row:=by simp[Function.comp_def]
  rw[e] at hf;rw[jf];generalize t.as.map rW=us at hf ⊢;have hB:=r111 t.s;rw[hf];simp only[B5,D7,H1,nth,D9,E0,D.I,D.S,D.L,D.B,hB,B6];by_cases h1:t.k=2
  case neg =>
   simp only[H8 h1,H2];unfold rW1;split
   ·rw[H6 (fun h=>h1 h.1)];rfl
   ·rfl
  by_cases h2:t.n=0
  case neg =>
   simp only[H7 h1,H8 h2,H1,H2];unfold rW1;split
   ·rw[H6 (fun h=>h2 h.2.1)];rfl
   ·rfl
  simp only[H7 h1,H7 h2,H1];cases h3:isB t.s with
  |false =>
   simp only[H2];unfold rW1;split
   ·rw[H6 (fun h=>by rw[h3] at h;exact absurd h.2.2.1 (by decide))];rfl
   ·rfl
  |true =>
   simp only[H1]
   match us with
   | []=>rfl
   | [x]=>rfl
   |x::y::z::zs =>
    have:¬(((x::y::z::zs).length:Int)=2):=by simp only[C2];omega
    simp only[H8 this,H2];rfl
   | [x,y] =>
    have hx:=r112 x;have hy:=r112 y;have l2:decide ((([x,y]:List Tm).length:Int)=2)=true:=rfl;have i0:inb 0 ([x,y]:List Tm).length=true:=rfl;have i1:inb 1 ([x,y]:List Tm).length=true:=rfl;have r0:rowAt (([x,y]:List Tm).map Tm.row) (O8 0)=x.row:=rfl;have r1:rowAt (([x,y]:List Tm).map Tm.row) (O8 1)=y.row:=rfl;simp only[l2,i0,i1,r0,r1,H1,Tm.row_eq,nth,D9,E0,D.I,D.S,D.L,D.B,hx,hy,B5];unfold rW1;simp only;cases h4:isW x with
    |false=>simp only[H2];rw[H6 (fun h=>by simp at h)];rfl
    |true =>
     cases h5:isW y with
     |false=>simp only[H1,H2];rw[H6 (fun h=>by simp at h)];rfl
     |true =>
      have b1:=h4;have b2:=h5;simp only[isW,B9,decide_eq_true_eq] at b1 b2;have hcm:=r114 t.s b1.2.1 b1.2.2.1 b2.2.1 b2.2.2.1;have hwd:=r113 (cmp t.s x.n y.n);simp only[H1,hcm,B5,nth,D9,E0,D.I,D.S,D.L,D.B,hwd];rw[H5 ⟨h1,h2,h3,trivial,trivial⟩];rfl
 ·have hc:=ih _ (C1 hi) (h.sub (C1 hi))
  rw[e69_0_1];simp only[B7,ab hi,Tm.row_eq,B6,aq,hi,C0,H3,H1,nth,D9,E0,D.I,D.S,D.L,D.B,ae hi (by unfold maxLen;omega),hc,B5,C2,C5]
  rw[show F5 (acc.length+(0+1)) M63=true from E8 (by unfold M63;omega)]
  rfl
 ·skip
  rw[e69_0_1];simp
theorem r120(n:Nat):rn ⟨120,0,0⟩ [.int (n:Int)]=some (0,[.int (gh n)]):=by
 show rn _ _=_
 rw[e120_0_0];have hn:¬((n:Int)<0):=by omega
 simp only[H8 hn,H2];have st:∀ x a:Int,0<x->rn ⟨120,0,1⟩ [.int x,.int a]=rn ⟨120,0,1⟩ [.int (IntKind.i64.wrap (x-1)),.int (IntKind.i64.wrap (a*4))]:=fun x a h=>by
  rw[e120_0_1];rw[H7 h];rfl
 have fi:∀ a:Int,rn ⟨120,0,1⟩ [.int 0,.int a]=some (0,[.int a]):=fun a=>by
  rw[e120_0_1];rfl
 by_cases h3:3<n
 ·rw[ug h3,H7 (by omega:(3:Int)<(n:Int))];rfl
 ·rw[H8 (by omega:¬(3:Int)<(n:Int))]
  simp only[H2];obtain rfl |rfl |rfl |rfl:n=0\/n=1\/n=2\/n=3:=by omega
  ·show(rn ⟨120,0,1⟩ [.int 0,.int 1]).bind _=_
   rw[fi];rfl
  ·show(rn ⟨120,0,1⟩ [.int 1,.int 1]).bind _=_
   rw[st 1 1 (by decide)]
   show(rn ⟨120,0,1⟩ [.int 0,.int 4]).bind _=_
   rw[fi];rfl
  ·show(rn ⟨120,0,1⟩ [.int 2,.int 1]).bind _=_
   rw[st 2 1 (by decide)]
   show(rn ⟨120,0,1⟩ [.int 1,.int 4]).bind _=_
   rw[st 1 4 (by decide)]
   show(rn ⟨120,0,1⟩ [.int 0,.int 16]).bind _=_
   rw[fi];rfl
  ·show(rn ⟨120,0,1⟩ [.int 3,.int 1]).bind _=_
   rw[st 3 1 (by decide)]
   show(rn ⟨120,0,1⟩ [.int 2,.int 4]).bind _=_
   rw[st 2 4 (by decide)]
   show(rn ⟨120,0,1⟩ [.int 1,.int 16]).bind _=_
   rw[st 1 16 (by decide)]
   show(rn ⟨120,0,1⟩ [.int 0,.int 64]).bind _=_
   rw[fi];rfl
theorem r103(n:Nat):rn ⟨103,0,0⟩ [.int (n:Int)]=some (0,[.int (gh n)]):=by
 show rn _ _=_
 rw[e103_0_0];have hi:=r35 (n:Int) 0 3;simp only[hi,B5,nth,D9,E0,D.I,D.S,D.L,D.B];rw[H7 (by omega:(0:Int)<=(n:Int)),E4]
 have st:∀ x a i:Int,i<x->rn ⟨103,0,1⟩ [.int x,.int a,.int i]=rn ⟨103,0,1⟩ [.int x,.int (IntKind.i64.wrap (a*4)),.int (IntKind.i64.wrap (i+1))]:=fun x a i h=>by
  rw[e103_0_1];rw[H7 h];rfl
 have fi:∀ x a:Int,rn ⟨103,0,1⟩ [.int x,.int a,.int x]=some (0,[.int a]):=fun x a=>by
  rw[e103_0_1];rw[H8 (by omega)];rfl
 by_cases h3:3<n
 ·rw[ug h3,H8 (by omega:¬(n:Int)<=(3:Int))];rfl
 ·rw[H7 (by omega:(n:Int)<=(3:Int))]
  simp only[D4,H2];obtain rfl |rfl |rfl |rfl:n=0\/n=1\/n=2\/n=3:=by omega
  ·show(rn ⟨103,0,1⟩ [.int 0,.int 1,.int 0]).bind _=_
   rw[fi];rfl
  ·show(rn ⟨103,0,1⟩ [.int 1,.int 1,.int 0]).bind _=_
   rw[st 1 1 0 (by decide)]
   show(rn ⟨103,0,1⟩ [.int 1,.int 4,.int 1]).bind _=_
   rw[fi];rfl
  ·show(rn ⟨103,0,1⟩ [.int 2,.int 1,.int 0]).bind _=_
   rw[st 2 1 0 (by decide)]
   show(rn ⟨103,0,1⟩ [.int 2,.int 4,.int 1]).bind _=_
   rw[st 2 4 1 (by decide)]
   show(rn ⟨103,0,1⟩ [.int 2,.int 16,.int 2]).bind _=_
   rw[fi];rfl
  ·show(rn ⟨103,0,1⟩ [.int 3,.int 1,.int 0]).bind _=_
   rw[st 3 1 0 (by decide)]
   show(rn ⟨103,0,1⟩ [.int 3,.int 4,.int 1]).bind _=_
   rw[st 3 4 1 (by decide)]
   show(rn ⟨103,0,1⟩ [.int 3,.int 16,.int 2]).bind _=_
   rw[st 3 16 2 (by decide)]
   show(rn ⟨103,0,1⟩ [.int 3,.int 64,.int 3]).bind _=_
   rw[fi];rfl
theorem Xm(n:Nat)(c:Int):(decide (0<=c)&&decide (c<=IntKind.i64.wrap (gh n-1)))=isC n c:=by
 have h:=mv n;rw[IntWalk.i64_in _ (by omega)]
 unfold isC;have:decide (c<=gh n-1)=decide (c<gh n):=decide_eq_decide.2 (by omega)
 rw[this]
theorem r123(n:Nat)(c:Int):rn ⟨123,0,0⟩ [.int (n:Int),.int c]=some (0,[.bool (isC n c)]):=by
 show rn _ _=_
 rw[e123_0_0];have hc:=r120 n;simp only[hc,B5,nth,D9,E0,D.I,D.S,D.L,D.B];unfold isC;cases decide (0<=c)<;>rfl
theorem rv0(a b c:Int):rn ⟨229,1,0⟩ [.sl []]=some (0,[.sl []]):=by
 show rn _ _=_
 rw[e229_1_0];show(rn ⟨229,1,1⟩ [.int 0,.int (-1),.sl []]).bind _=_
 rw[e229_1_1];rfl
theorem rv1(a b c:Int):rn ⟨229,1,0⟩ [.sl [[D.int a]]]=some (0,[.sl [[D.int a]]]):=by
 show rn _ _=_
 rw[e229_1_0];show(rn ⟨229,1,1⟩ [.int 0,.int (0),.sl [[D.int a]]]).bind _=_
 rw[e229_1_1];rfl
theorem rv2(a b c:Int):rn ⟨229,1,0⟩ [.sl [[D.int a],[D.int b]]]=some (0,[.sl [[D.int b],[D.int a]]]):=by
 show rn _ _=_
 rw[e229_1_0];show(rn ⟨229,1,1⟩ [.int 0,.int (1),.sl [[D.int a],[D.int b]]]).bind _=_
 rw[e229_1_1];show(rn ⟨229,1,1⟩ [.int 1,.int 0,.sl [[D.int b],[D.int a]]]).bind _=_
 rw[e229_1_1];rfl
theorem rv3(a b c:Int):rn ⟨229,1,0⟩ [.sl [[D.int a],[D.int b],[D.int c]]]=some (0,[.sl [[D.int c],[D.int b],[D.int a]]]):=by
 show rn _ _=_
 rw[e229_1_0];show(rn ⟨229,1,1⟩ [.int 0,.int (2),.sl [[D.int a],[D.int b],[D.int c]]]).bind _=_
 rw[e229_1_1];show(rn ⟨229,1,1⟩ [.int 1,.int 1,.sl [[D.int c],[D.int b],[D.int a]]]).bind _=_
 rw[e229_1_1];rfl
theorem r180(n:Nat)(c:Int):rn ⟨180,0,0⟩ [.int (n:Int),.int c]=some (0,[.sl ((vals n c).map al)]):=by
 show rn _ _=_
 rw[e180_0_0];have hi:=r123 n c;simp only[hi,B5,nth,D9,E0,D.I,D.S,D.L,D.B];unfold vals;cases hq:isC n c with
 |false=>rfl
 |true =>
  obtain⟨hn,h0,h64⟩:=lc hq;have e1:c.tdiv 4=c / 4:=R6 h0;have w1:IntKind.i64.wrap (c.tdiv 4)=c.tdiv 4:=by rw[e1];exact IntWalk.i64_in _ (by omega)
  have h1:0<=c.tdiv 4:=by rw[e1];omega
  have e2:(c.tdiv 4).tdiv 4=c / 4 / 4:=by rw[R6 h1,e1]
  have w2:IntKind.i64.wrap ((c.tdiv 4).tdiv 4)=(c.tdiv 4).tdiv 4:=by rw[e2];exact IntWalk.i64_in _ (by omega)
  have st:∀ (x a:Int) (acc:aa),0<x->acc.length<=10->rn ⟨180,0,1⟩ [.int x,.int a,.sl acc]=rn ⟨180,0,1⟩ [.int (IntKind.i64.wrap (x-1)),.int (IntKind.i64.wrap (a.tdiv 4)),.sl (acc++[[.int (a.tmod 4)]])]:=fun x a acc h hl=>by
   rw[e180_0_1];rw[H7 h];simp only[C2,C5];rw[show F5 (acc.length+(0+1)) M63=true from E8 (by unfold M63;omega)]
   rfl
  have fi:∀ (a:Int) (acc:aa),rn ⟨180,0,1⟩ [.int 0,.int a,.sl acc]=some (0,[.sl acc]):=fun a acc=>by
   rw[e180_0_1];rfl
  simp only[D4,H2,if_true];obtain rfl |rfl |rfl |rfl:n=0\/n=1\/n=2\/n=3:=by omega
  ·show(rn ⟨180,0,1⟩ [.int 0,.int c,.sl []]).bind _=_
   rw[fi];have hv:=rv0 0 0 0;show((rn ⟨229,1,0⟩ [.sl []]).bind _:R)=_
   rw[hv];rfl
  ·show(rn ⟨180,0,1⟩ [.int 1,.int c,.sl []]).bind _=_
   rw[st 1 c [] (by decide) (by decide)]
   rw[w1];show(rn ⟨180,0,1⟩ [.int 0,.int (c.tdiv 4),.sl [[.int (c.tmod 4)]]]).bind _=_
   rw[fi];have hv:=rv1 (c.tmod 4) 0 0;show((rn ⟨229,1,0⟩ [.sl [[.int (c.tmod 4)]]]).bind _:R)=_
   rw[hv];rfl
  ·show(rn ⟨180,0,1⟩ [.int 2,.int c,.sl []]).bind _=_
   rw[st 2 c [] (by decide) (by decide),w1]
   show(rn ⟨180,0,1⟩ [.int 1,.int (c.tdiv 4),.sl [[.int (c.tmod 4)]]]).bind _=_
   rw[st 1 _ _ (by decide) (by simp),w2]
   show(rn ⟨180,0,1⟩ [.int 0,.int ((c.tdiv 4).tdiv 4),.sl [[.int (c.tmod 4)],[.int ((c.tdiv 4).tmod 4)]]]).bind _=_
   rw[fi];have hv:=rv2 (c.tmod 4) ((c.tdiv 4).tmod 4) 0;show((rn ⟨229,1,0⟩ [.sl [[.int (c.tmod 4)],[.int ((c.tdiv 4).tmod 4)]]]).bind _:R)=_
   rw[hv];rfl
  ·show(rn ⟨180,0,1⟩ [.int 3,.int c,.sl []]).bind _=_
   rw[st 3 c [] (by decide) (by decide),w1]
   show(rn ⟨180,0,1⟩ [.int 2,.int (c.tdiv 4),.sl [[.int (c.tmod 4)]]]).bind _=_
   rw[st 2 _ _ (by decide) (by simp),w2]
   show(rn ⟨180,0,1⟩ [.int 1,.int ((c.tdiv 4).tdiv 4),.sl [[.int (c.tmod 4)],[.int ((c.tdiv 4).tmod 4)]]]).bind _=_
   rw[st 1 _ _ (by decide) (by simp)]
   show(rn ⟨180,0,1⟩ [.int 0,.int _,.sl [[.int (c.tmod 4)],[.int ((c.tdiv 4).tmod 4)],[.int (((c.tdiv 4).tdiv 4).tmod 4)]]]).bind _=_
   rw[fi];have hv:=rv3 (c.tmod 4) ((c.tdiv 4).tmod 4) (((c.tdiv 4).tdiv 4).tmod 4);show((rn ⟨229,1,0⟩ [.sl [[.int (c.tmod 4)],[.int ((c.tdiv 4).tmod 4)],[.int (((c.tdiv 4).tdiv 4).tmod 4)]]]).bind _:R)=_
   rw[hv];rfl
theorem r116(n:Nat)(c:Int):rn ⟨116,0,0⟩ [.int (n:Int),.int c]=some (0,[.sl ((vals n c).map al)]):=by
 show rn _ _=_
 rw[e116_0_0];have hi:=r103 n;have hj:=r35 c 0 (IntKind.i64.wrap (gh n-1));rw[Xm] at hj;simp only[hi,hj,B5,nth,D9,E0,D.I,D.S,D.L,D.B];unfold vals;cases hq:isC n c with
 |false=>rfl
 |true =>
  obtain⟨hn,h0,h64⟩:=lc hq;have e1:c.tdiv 4=c / 4:=R6 h0;have w1:IntKind.i64.wrap (c.tdiv 4)=c.tdiv 4:=by rw[e1];exact IntWalk.i64_in _ (by omega)
  have h1:0<=c.tdiv 4:=by rw[e1];omega
  have e2:(c.tdiv 4).tdiv 4=c / 4 / 4:=by rw[R6 h1,e1]
  have w2:IntKind.i64.wrap ((c.tdiv 4).tdiv 4)=(c.tdiv 4).tdiv 4:=by rw[e2];exact IntWalk.i64_in _ (by omega)
  have fi:∀ (a:Int) (acc:aa),rn ⟨116,0,1⟩ [.int a,.int (-1),.sl acc]=some (0,[.sl acc]):=fun a acc=>by
   rw[e116_0_1];rfl
  simp only[D4,H2,if_true];obtain rfl |rfl |rfl |rfl:n=0\/n=1\/n=2\/n=3:=by omega
  ·show(rn ⟨116,0,1⟩ [.int c,.int (-1),.sl []]).bind _=_
   rw[fi];rfl
  ·show(rn ⟨116,0,1⟩ [.int c,.int 0,.sl [[.int 0]]]).bind _=_
   rw[e116_0_1];show(rn ⟨116,0,1⟩ [.int (IntKind.i64.wrap (c.tdiv 4)),.int (-1),.sl [[.int (c.tmod 4)]]]).bind _=_
   rw[fi];rfl
  ·show(rn ⟨116,0,1⟩ [.int c,.int 1,.sl [[.int 0],[.int 0]]]).bind _=_
   rw[e116_0_1];show(rn ⟨116,0,1⟩ [.int (IntKind.i64.wrap (c.tdiv 4)),.int 0,.sl [[.int 0],[.int (c.tmod 4)]]]).bind _=_
   rw[w1];rw[e116_0_1];show(rn ⟨116,0,1⟩ [.int (IntKind.i64.wrap ((c.tdiv 4).tdiv 4)),.int (-1),.sl [[.int ((c.tdiv 4).tmod 4)],[.int (c.tmod 4)]]]).bind _=_
   rw[fi];rfl
  ·show(rn ⟨116,0,1⟩ [.int c,.int 2,.sl [[.int 0],[.int 0],[.int 0]]]).bind _=_
   rw[e116_0_1];show(rn ⟨116,0,1⟩ [.int (IntKind.i64.wrap (c.tdiv 4)),.int 1,.sl [[.int 0],[.int 0],[.int (c.tmod 4)]]]).bind _=_
   rw[w1];rw[e116_0_1];show(rn ⟨116,0,1⟩ [.int (IntKind.i64.wrap ((c.tdiv 4).tdiv 4)),.int 0,.sl [[.int 0],[.int ((c.tdiv 4).tmod 4)],[.int (c.tmod 4)]]]).bind _=_
   rw[w2];rw[e116_0_1];show(rn ⟨116,0,1⟩ [.int _,.int (-1),.sl [[.int (((c.tdiv 4).tdiv 4).tmod 4)],[.int ((c.tdiv 4).tmod 4)],[.int (c.tmod 4)]]]).bind _=_
   rw[fi];rfl
theorem r122(vars:List ByteArray)(c:Int):rn ⟨122,0,0⟩ [.sl (vars.map ag),.int c]=some (0,[.sl ((bo vars c).map Bnd.row)]):=by
 show rn _ _=_
 rw[e122_0_0];have hv:=r180 vars.length c;have hle:=uf vars.length c;have hle3:(vals vars.length c).length<=3:=by
  by_cases hC:isC vars.length c=true
  ·have:=(lc hC).1;omega
  ·unfold vals;rw[H6 hC];simp
 have hz:(vars.zip (vals vars.length c)).length=(vals vars.length c).length:=by simp;omega
 have hf:=jg (F:=fun i acc=>rn ⟨122,0,1⟩ [.sl (vars.map ag),.int (((vals vars.length c).map al).length),.int (i:Int),.sl acc,.sl ((vals vars.length c).map al)]) (xs:=vars.zip (vals vars.length c)) (fun p=>[.str p.1,.int 3,.int p.2,.str ⟨#[]⟩,.sl []]) (K:=fun acc=>some (0,[.sl (acc)])) (fun i hi acc ha=>?_) (fun acc=>?_)
 ·simp only[C3] at hf
  simp only[B6];rw[hv];simp only[B5,nth,D9,E0,D.I,D.S,D.L,D.B];first
   |rw[hf]
   |(simp only[B6] at hf ⊢;rw[hf])
  simp only[B5,D7,H1,nth,D9,E0,D.I,D.S,D.L,D.B];unfold bo;rw[K9];rfl
 ·have hi1:i<vars.length:=by rw[List.length_zip] at hi;omega
  have hi2:i<(vals vars.length c).length:=by rw[List.length_zip] at hi;omega
  rw[e122_0_1];simp only[B7,ab hi1,ab hi2,ag,al,B6,aq,hi1,hi2,C0,H3,H1,nth,D9,E0,D.I,D.S,D.L,D.B,ae hi2 (by unfold maxLen;omega),C2,C5,B5]
  rw[show F5 (acc.length+(0+1)) M63=true from E8 (by unfold M63;omega)]
  rw[List.getElem_zip];rfl
 ·skip
  rw[e122_0_1];simp[hz]
theorem r71(vars:List ByteArray)(c:Int):rn ⟨71,0,0⟩ [.sl (vars.map ag),.int c]=some (0,[.sl ((bo vars c).map Bnd.row)]):=by
 show rn _ _=_
 rw[e71_0_0];have hv:=r116 vars.length c;have hle:=uf vars.length c;have hle3:(vals vars.length c).length<=3:=by
  by_cases hC:isC vars.length c=true
  ·have:=(lc hC).1;omega
  ·unfold vals;rw[H6 hC];simp
 have hz:(vars.zip (vals vars.length c)).length=(vals vars.length c).length:=by simp;omega
 have hf:=jg (F:=fun i acc=>rn ⟨71,0,1⟩ [.sl (vars.map ag),.int (i:Int),.sl acc,.sl ((vals vars.length c).map al)]) (xs:=vars.zip (vals vars.length c)) (fun p=>[.str p.1,.int 3,.int p.2,.str ⟨#[]⟩,.sl []]) (K:=fun acc=>some (0,[.sl (acc)])) (fun i hi acc ha=>?_) (fun acc=>?_)
 ·simp only[C3] at hf
  simp only[B6];rw[hv];simp only[B5,nth,D9,E0,D.I,D.S,D.L,D.B];first
   |rw[hf]
   |(simp only[B6] at hf ⊢;rw[hf])
  simp only[B5,D7,H1,nth,D9,E0,D.I,D.S,D.L,D.B];unfold bo;rw[K9];rfl
 ·have hi1:i<vars.length:=by rw[List.length_zip] at hi;omega
  have hi2:i<(vals vars.length c).length:=by rw[List.length_zip] at hi;omega
  rw[e71_0_1];have hw:=r113 ((vals vars.length c)[i]);simp only[B7,ab hi1,ab hi2,ag,al,B6,aq,hi1,hi2,C0,H3,H1,nth,D9,E0,D.I,D.S,D.L,D.B,ae hi2 (by unfold maxLen;omega),C2,C5,B5,hw]
  rw[show F5 (acc.length+(0+1)) M63=true from E8 (by unfold M63;omega)]
  rw[List.getElem_zip];rfl
 ·skip
  rw[e71_0_1];simp[hz]
theorem r39(vars:List ByteArray)(t:Tm)(ht:au t)(c:Int):rn ⟨39,0,0⟩ [.sl (vars.map ag),.int t.k,.int t.n,.str t.s,.sl (t.as.map Tm.row),.int c]=some (0,[.int (dh vars t c).k,.int (dh vars t c).n,.str (dh vars t c).s,.sl ((dh vars t c).as.map Tm.row)]):=by
 show rn _ _=_
 rw[e39_0_0];have hl:(bo vars c).length<=1048576:=by
  have:=uf vars.length c;by_cases hC:isC vars.length c=true
  ·have:=(lc hC).1;unfold bo;simp;omega
  ·unfold bo vals;rw[H6 hC];simp
 have h1:=r71 vars c;have h2:=r70 (bo vars c) hl (er vars c) t ht;have h3:=r69 (aS (bo vars c) t) (md (er vars c) t ht);simp only[h1,h2,h3,B5,nth,D9,E0,D.I,D.S,D.L,D.B];rfl
theorem mi(vars:List ByteArray)(c:Int):(bo vars c).length<=1048576:=by
 have:=uf vars.length c;by_cases hC:isC vars.length c=true
 ·have:=(lc hC).1;unfold bo;simp;omega
 ·unfold bo vals;rw[H6 hC];simp
theorem r220:∀ t:Tm,t.nodes<=1048577->rn ⟨220,0,0⟩ [.int t.k,.int t.n,.str t.s,.sl (t.as.map Tm.row)]=some (0,[.sl (t.names.map ag)]):=Tm.ind fun t ih h=>by
 have hnd:=Tm.nodes_eq t;have hsm:=Dc t;have hlt:=cu (xs:=t.as);show rn _ _=_
 rw[e220_0_0];have hf:=fun a0:aa=>fun ha0:a0.length<=1=>Hz (F:=fun i acc=>rn ⟨220,0,1⟩ [.sl (t.as.map Tm.row),.int (t.as.map Tm.row).length,.int (i:Int),.sl acc]) (xs:=t.as) (fun a=>a.names.map ag) a0 (K:=fun acc=>some (0,[.sl acc])) (fun i hi acc ha=>by
  have hc:=ih _ (C1 hi) (by have:=dt (f:=Tm.nodes) (C1 hi);omega)
  rw[e220_0_1];simp only[B7,ab hi,Tm.row_eq,B6,aq,hi,C0,H3,H1,nth,D9,E0,D.I,D.S,D.L,D.B,ae hi (by unfold maxLen;omega),B5,hc]
  rw[E6,B6] at ha;rw[show F5 (acc.length+t.as[i].names.length) M63=true from E8 (by unfold M63;omega)]
  rfl) (fun acc=>by
  rw[e220_0_1];simp)
 simp only[C3] at hf;rw[si];by_cases hk:t.k=1
 ·rw[H5 hk,H7 hk]
  have h1:=hf [ag t.s] (by simp)
  simp only[ag] at h1;simp only[H1,ag];rw[h1];rfl
 ·rw[H6 hk,H8 hk]
  have h1:=hf [] (by simp)
  simp only[H2];rw[h1];rfl
theorem r228(t:Tm)(h:t.nodes<=1048577):rn ⟨228,0,0⟩ [.int t.k,.int t.n,.str t.s,.sl (t.as.map Tm.row)]=some (0,[.bool (isG t)]):=by
 show rn _ _=_
 rw[e228_0_0];have hc:=r220 t h;simp only[hc,B5,nth,D9,E0,D.I,D.S,D.L,D.B,B6];rfl
theorem r169:∀ t:Tm,∀ a0:aa,t.nodes<=1048577->a0.length+t.names.length<=1073741824->rn ⟨169,1,0⟩ [.int t.k,.int t.n,.str t.s,.sl (t.as.map Tm.row),.sl a0]=some (0,[.sl (a0++t.names.map ag)]):=Tm.ind fun t ih a0 h h'=>by
 have hnd:=Tm.nodes_eq t;have hsm:=Dc t;have hlt:=cu (xs:=t.as);show rn _ _=_
 rw[e169_1_0];have hf:=fun a1:aa=>fun ha1:a1.length+(t.as.flatMap fun a=>a.names.map ag).length<=1073741824=>Hz (F:=fun i acc=>rn ⟨169,1,1⟩ [.int (i:Int),.sl acc,.int t.k,.int t.n,.str t.s,.sl (t.as.map Tm.row)]) (xs:=t.as) (fun a=>a.names.map ag) a1 (K:=fun acc=>some (0,[.sl acc])) (fun i hi acc ha=>by
  rw[E6] at ha;have hx:t.as[i].nodes<=(t.as.map Tm.nodes).sum:=dt (f:=Tm.nodes) (C1 hi);have hc:=ih _ (C1 hi) acc (by omega) (by rw[B6] at ha;omega)
  rw[e169_1_1];simp only[B7,ab hi,Tm.row_eq,B6,aq,hi,C0,H3,H1,nth,D9,E0,D.I,D.S,D.L,D.B,ae hi (by unfold maxLen;omega),B5,hc]) (fun acc=>by
  rw[e169_1_1];simp)
 simp only[C3] at hf;have hle:t.names.length=(if t.k=1 then [ag t.s] else []).length+(t.as.flatMap fun a=>a.names.map ag).length:=by
  rw[<-E6,<-si,B6]
 rw[si];by_cases hk:t.k=1
 ·rw[H5 hk] at hle
  rw[H5 hk,H7 hk];have h1:=hf (a0++[ag t.s]) (by rw[E6];omega)
  simp only[ag] at h1;simp only[H1,ag,C2,C5];rw[show F5 (a0.length+(0+1)) M63=true from E8 (by unfold M63;omega)]
  simp only[H1];rw[h1,E2];rfl
 ·rw[H6 hk] at hle
  rw[H6 hk,H8 hk];have h1:=hf a0 (by rw[C5] at hle;omega)
  simp only[H2];rw[h1];rfl
theorem r170(t:Tm)(h:t.nodes<=1048577):rn ⟨170,0,0⟩ [.int t.k,.int t.n,.str t.s,.sl (t.as.map Tm.row)]=some (0,[.bool (isG t)]):=by
 show rn _ _=_
 rw[e170_0_0];have hc:=r169 t [] h (by have:=bq t;simp;omega)
 simp only[hc,B5,nth,D9,E0,D.I,D.S,D.L,D.B,D8,B6];rfl
theorem r68:∀ t:Tm,∀ u:Tm,au t->rn ⟨68,0,0⟩ [.int t.k,.int t.n,.str t.s,.sl (t.as.map Tm.row),.int u.k,.int u.n,.str u.s,.sl (u.as.map Tm.row)]=some (0,[.bool (eqb t.row u.row)]):=Tm.ind fun t ih u h=>by
 have hlt:=h.len;show rn _ _=_
 rw[e68_0_0];have hq:eqb t.row u.row=(decide (t.k=u.k)&&(decide (t.n=u.n)&&(decide (t.s=u.s)&&eqb (t.as.map Tm.row) (u.as.map Tm.row)))):=by
  rw[Tm.row_eq t,Tm.row_eq u];simp only[Aa,Ey,Mf,Mg,Rh,K8]
 rw[hq];try simp only[B6]
 by_cases l0:u.as.length≠t.as.length
 ·rw[H8 (by omega:¬(t.as.length:Int)=(u.as.length:Int)),Mi (fun h=>l0 (by simpa using h.symm))]
  cases decide (t.k=u.k)<;>cases decide (t.n=u.n)<;>cases decide (t.s=u.s)<;>rfl
 have l0:=Classical.not_not.1 l0;rw[H7 (by omega:(t.as.length:Int)=(u.as.length:Int))]
 have hf:=Mh (F:=fun i=>rn ⟨68,0,1⟩ [.int (i:Int),.int t.k,.int t.n,.str t.s,.sl (t.as.map Tm.row),.int u.k,.int u.n,.str u.s,.sl (u.as.map Tm.row)]) (xs:=t.as.map Tm.row) (ys:=u.as.map Tm.row) (A:=some (0,[])) (B:=some (1,[])) (by simpa using l0) (fun i hi=>?_) ?_
 ·simp only[C3] at hf
  rw[hf];cases decide (t.k=u.k)<;>cases decide (t.n=u.n)<;>cases decide (t.s=u.s)<;>cases eqb (t.as.map Tm.row) (u.as.map Tm.row)<;>rfl
 ·have hi:i<t.as.length:=by simpa using hi
  have hi2:i<u.as.length:=by omega
  have hc:=ih _ (C1 hi) u.as[i] (h.sub (C1 hi));rw[e68_0_1];rw[R3,R3];generalize eqb t.as[i].row u.as[i].row=z at hc ⊢;simp only[B7,ab hi,ab hi2,Tm.row_eq,B6,aq,hi,hi2,C0,H3,H1,nth,D9,E0,D.I,D.S,D.L,D.B,ae hi (by unfold maxLen;omega),B5,hc]
  cases z<;>rfl
 ·skip
  rw[e68_0_1];simp
theorem r129:∀ t:Tm,∀ u:Tm,au t->rn ⟨129,0,0⟩ [.int t.k,.int t.n,.str t.s,.sl (t.as.map Tm.row),.int u.k,.int u.n,.str u.s,.sl (u.as.map Tm.row)]=some (0,[.bool (eqb t.row u.row)]):=Tm.ind fun t ih u h=>by
 have hlt:=h.len;show rn _ _=_
 rw[e129_0_0];have hq:eqb t.row u.row=(decide (t.k=u.k)&&(decide (t.n=u.n)&&(decide (t.s=u.s)&&eqb (t.as.map Tm.row) (u.as.map Tm.row)))):=by
  rw[Tm.row_eq t,Tm.row_eq u];simp only[Aa,Ey,Mf,Mg,Rh,K8]
 rw[hq];try simp only[B6]
 have hl:rn ⟨188,0,0⟩ [.sl (t.as.map Tm.row),.sl (u.as.map Tm.row)]=some (0,[.bool (eqb (t.as.map Tm.row) (u.as.map Tm.row))]):=by
  rw[e188_0_0];simp only[B6];by_cases l0:u.as.length≠t.as.length
  ·rw[H8 (by omega:¬(t.as.length:Int)=(u.as.length:Int)),Mi (fun h=>l0 (by simpa using h.symm))];rfl
  have l0:=Classical.not_not.1 l0;rw[H7 (by omega:(t.as.length:Int)=(u.as.length:Int))]
  have hf:=Mh (F:=fun i=>rn ⟨188,0,1⟩ [.sl (u.as.map Tm.row),.sl (t.as.map Tm.row),.int ((t.as.map Tm.row)).length,.int (i:Int)]) (xs:=t.as.map Tm.row) (ys:=u.as.map Tm.row) (A:=some (0,[])) (B:=some (1,[])) (by simpa using l0) (fun i hi=>?_) ?_
  ·simp only[C3,B6] at hf
   rw[hf];cases eqb (t.as.map Tm.row) (u.as.map Tm.row)<;>rfl
  ·have hi:i<t.as.length:=by simpa using hi
   have hi2:i<u.as.length:=by omega
   have hc:=ih _ (C1 hi) u.as[i] (h.sub (C1 hi));rw[e188_0_1];rw[R3,R3];generalize eqb t.as[i].row u.as[i].row=z at hc ⊢;simp only[B7,ab hi,ab hi2,Tm.row_eq,B6,aq,hi,hi2,C0,H3,H1,nth,D9,E0,D.I,D.S,D.L,D.B,ae hi (by unfold maxLen;omega),B5,hc]
   cases z<;>rfl
  ·skip
   rw[e188_0_1];simp
 simp only[hl,B5,nth,D9,E0,D.I,D.S,D.L,D.B];cases decide (t.k=u.k)<;>cases decide (t.n=u.n)<;>cases decide (t.s=u.s)<;>rfl
theorem r178(g:Gu)(h:g.ok):rn ⟨178,0,0⟩ [.int g.k,.int g.l.k,.int g.l.n,.str g.l.s,.sl (g.l.as.map Tm.row),.int g.r.k,.int g.r.n,.str g.r.s,.sl (g.r.as.map Tm.row)]=some (0,[.bool (holds g)]):=by
 show rn _ _=_
 rw[e178_0_0];obtain⟨hl,hr⟩:=h;have sl:=ao _ hl;have sr:=ao _ hr;have hl':=G7 (gi g.l) hl;have hr':=G7 (gi g.r) hr;have a1:=r228 g.l hl;have a2:=r228 g.r hr;have b1:=r124 g.l sl;have b2:=r124 g.r sr;have c1:=r129 (rW g.l) (rW g.r) (Ac _ sl);have d1:=r182 (rW g.l);have d2:=r182 (rW g.r);simp only[a1,a2,b1,b2,c1,d1,d2,B5,nth,D9,E0,D.I,D.S,D.L,D.B];unfold holds;cases isG g.l
 ·rfl
 cases isG g.r
 ·rfl
 simp only[D4,H2,E4];by_cases k1:g.k=1
 ·rw[H5 k1,H7 k1];rfl
 rw[H6 k1,H8 k1];by_cases k2:g.k=2
 ·rw[H5 k2,H7 k2];rfl
 rw[H6 k2,H8 k2];by_cases k3:g.k=3
 ·rw[H5 k3,H7 k3]
  cases isW (rW g.l)<;>cases isW (rW g.r)<;>rfl
 ·rw[H6 k3,H8 k3];rfl
theorem r107(g:Gu)(h:g.ok):rn ⟨107,0,0⟩ [.int g.k,.int g.l.k,.int g.l.n,.str g.l.s,.sl (g.l.as.map Tm.row),.int g.r.k,.int g.r.n,.str g.r.s,.sl (g.r.as.map Tm.row)]=some (0,[.bool (holds g)]):=by
 show rn _ _=_
 rw[e107_0_0];obtain⟨hl,hr⟩:=h;have sl:=ao _ hl;have sr:=ao _ hr;have hl':=G7 (gi g.l) hl;have hr':=G7 (gi g.r) hr;have a1:=r170 (rW g.l) hl';have a2:=r170 (rW g.r) hr';have b1:=r69 g.l sl;have b2:=r69 g.r sr;have c1:=r68 (rW g.l) (rW g.r) (Ac _ sl);have d1:=r112 (rW g.l);have d2:=r112 (rW g.r);simp only[a1,a2,b1,b2,c1,d1,d2,B5,nth,D9,E0,D.I,D.S,D.L,D.B];unfold holds;rw[Ro,Ro];cases isG g.l
 ·rfl
 cases isG g.r
 ·rfl
 simp only[D4,H2,E4];by_cases k1:g.k=1
 ·rw[H5 k1,H7 k1];rfl
 rw[H6 k1,H8 k1];by_cases k2:g.k=2
 ·rw[H5 k2,H7 k2];rfl
 rw[H6 k2,H8 k2];by_cases k3:g.k=3
 ·rw[H5 k3,H7 k3]
  cases isW (rW g.l)<;>cases isW (rW g.r)<;>rfl
 ·rw[H6 k3,H8 k3];rfl
theorem r179(l:List Bnd)(hl:l.length<=1048576)(hs:∀ b∈l,au b.2)(g:Gu)(h:g.ok):rn ⟨179,0,0⟩ [.sl (l.map Bnd.row),.int g.k,.int g.l.k,.int g.l.n,.str g.l.s,.sl (g.l.as.map Tm.row),.int g.r.k,.int g.r.n,.str g.r.s,.sl (g.r.as.map Tm.row)]=some (0,[.int (di l g).k,.int (di l g).l.k,.int (di l g).l.n,.str (di l g).l.s,.int (di l g).r.k,.int (di l g).r.n,.str (di l g).r.s,.sl ((di l g).l.as.map Tm.row),.sl ((di l g).r.as.map Tm.row)]):=by
 show rn _ _=_
 rw[e179_0_0];have a1:=r125 l hl hs g.l (ao _ h.1);have a2:=r125 l hl hs g.r (ao _ h.2);simp only[a1,a2,B5,nth,D9,E0,D.I,D.S,D.L,D.B];rfl
theorem r108(l:List Bnd)(hl:l.length<=1048576)(hs:∀ b∈l,au b.2)(g:Gu)(h:g.ok):rn ⟨108,0,0⟩ [.sl (l.map Bnd.row),.int g.k,.int g.l.k,.int g.l.n,.str g.l.s,.sl (g.l.as.map Tm.row),.int g.r.k,.int g.r.n,.str g.r.s,.sl (g.r.as.map Tm.row)]=some (0,[.int (di l g).k,.int (di l g).l.k,.int (di l g).l.n,.str (di l g).l.s,.int (di l g).r.k,.int (di l g).r.n,.str (di l g).r.s,.sl ((di l g).l.as.map Tm.row),.sl ((di l g).r.as.map Tm.row)]):=by
 show rn _ _=_
 rw[e108_0_0];have a1:=r70 l hl hs g.l (ao _ h.1);have a2:=r70 l hl hs g.r (ao _ h.2);simp only[a1,a2,B5,nth,D9,E0,D.I,D.S,D.L,D.B];rfl
theorem Fv(g:Gu):g.row=[.int g.k,.int g.l.k,.int g.l.n,.str g.l.s,.sl (g.l.as.map Tm.row),.int g.r.k,.int g.r.n,.str g.r.s,.sl (g.r.as.map Tm.row)]:=rfl
theorem r121(l:List Bnd)(hl:l.length<=1048576)(hs:∀ b∈l,b.2.nodes=1)(gs:List Gu)(hg:gs.length<=1048576)(h:∀ g∈gs,g.ok):rn ⟨121,0,0⟩ [.sl (l.map Bnd.row),.sl (gs.map Gu.row)]=some (0,[.bool (gs.all fun g=>holds (di l g))]):=by
 have hss:∀ b∈l,au b.2:=fun b hb=>ao _ (by rw[hs b hb];decide)
 show rn _ _=_
 rw[e121_0_0];have hf:=Hy (F:=fun i=>rn ⟨121,0,1⟩ [.sl (l.map Bnd.row),.sl (gs.map Gu.row),.int (gs.map Gu.row).length,.int (i:Int)]) (xs:=gs) (p:=fun g=>holds (di l g)) (A:=some (0,[])) (B:=some (1,[])) (fun i hi=>?_) ?_
 ·simp only[C3] at hf
  rw[hf];cases gs.all fun g=>holds (di l g)<;>rfl
 ·have hgi:=h _ (C1 hi)
  have a1:=r179 l hl hss gs[i] hgi;have a2:=r178 (di l gs[i]) (Ml hs hgi);rw[e121_0_1];simp only[B7,ab hi,Fv,B6,aq,hi,C0,H3,H1,nth,D9,E0,D.I,D.S,D.L,D.B,ae hi (by unfold maxLen;omega),B5,a1,a2]
  cases holds (di l gs[i])<;>rfl
 ·skip
  rw[e121_0_1];simp
theorem Jr(n:Nat):((gh n).toNat:Int)=gh n/\(gh n).toNat<=64:=by have:=mv n;omega
theorem r76(vars:List ByteArray)(gs:List Gu)(hg:gs.length<=1048576)(h:∀ g∈gs,g.ok):rn ⟨76,0,0⟩ [.sl (vars.map ag),.sl (gs.map Gu.row)]=some (0,[.sl ((kr vars gs).map nRow)]):=by
 have hN:=Jr vars.length;show rn _ _=_
 rw[e76_0_0];have hf:=xu (F:=fun i acc=>rn ⟨76,0,1⟩ [.sl (vars.map ag),.sl (gs.map Gu.row),.int (i:Int),.sl acc]) (N:=(gh vars.length).toNat) (p:=fun c=>qg vars gs (c:Int)) (g:=nRow) (K:=fun acc=>some (0,[.sl acc])) (fun i acc hi ha=>?_) (fun acc=>?_)
 ·simp only[C3] at hf
  rw[hf];rfl
 ·have a1:=r120 vars.length
  have a2:=r122 vars (i:Int);have a3:=r121 (bo vars (i:Int)) (mi ..) (pj _ _) gs hg h;rw[e76_0_1];simp only[B6,a1,a2,a3,B5,nth,D9,E0,D.I,D.S,D.L,D.B];rw[H7 (by omega:(i:Int)<gh vars.length)]
  simp only[H1,C2,C5,ae hi (by unfold maxLen;omega)]
  rw[show F5 (acc.length+(0+1)) M63=true from E8 (by unfold M63;omega)]
  unfold qg;cases gs.all fun g=>holds (di (bo vars (i:Int)) g)<;>rfl
 ·have a1:=r120 vars.length
  rw[e76_0_1];simp only[B6,a1,B5,nth,D9,E0,D.I,D.S,D.L,D.B];rw[H8 (by omega:¬((gh vars.length).toNat:Int)<gh vars.length)];rfl
theorem r66(vars:List ByteArray)(gs:List Gu)(hg:gs.length<=1048576)(h:∀ g∈gs,g.ok):rn ⟨66,0,0⟩ [.sl (vars.map ag),.sl (gs.map Gu.row)]=some (0,[.sl ((kr vars gs).map nRow)]):=by
 have hN:=Jr vars.length;have a1:=r103 vars.length;have hin:∀ (c:Int) (acc:aa),rn ⟨66,0,3⟩ [.sl (vars.map ag),.sl (gs.map Gu.row),.int (gh vars.length),.int c,.bool true,.int 0,.sl acc]=some (0,[.sl (vars.map ag),.sl (gs.map Gu.row),.int (gh vars.length),.int c,.bool (qg vars gs c),.sl acc]):=fun c acc=>by
  have hf:=Ov (F:=fun i b=>rn ⟨66,0,3⟩ [.sl (vars.map ag),.sl (gs.map Gu.row),.int (gh vars.length),.int c,.bool b,.int (i:Int),.sl acc]) (xs:=gs) (p:=fun g=>holds (di (bo vars c) g)) (A:=fun b=>some (0,[.sl (vars.map ag),.sl (gs.map Gu.row),.int (gh vars.length),.int c,.bool b,.sl acc])) (fun i hi b=>?_) (fun b=>?_)
  ·simp only[C3] at hf
   rw[hf];rfl
  ·have hss:∀ b∈bo vars c,au b.2:=er vars c
   have hgi:=h _ (C1 hi);have b1:=r71 vars c;have b2:=r108 (bo vars c) (mi ..) hss gs[i] hgi;have b3:=r107 (di (bo vars c) gs[i]) (Ml (pj _ _) hgi);rw[e66_0_3];simp only[B7,ab hi,Fv,B6,aq,hi,C0,H3,H1,nth,D9,E0,D.I,D.S,D.L,D.B,ae hi (by unfold maxLen;omega),B5,b1,b2,b3]
   cases b<;>rfl
  ·skip
   rw[e66_0_3];simp
 show rn _ _=_
 rw[e66_0_0];have hf:=xu (F:=fun i acc=>rn ⟨66,0,1⟩ [.sl (vars.map ag),.sl (gs.map Gu.row),.int (gh vars.length),.int (i:Int),.sl acc]) (N:=(gh vars.length).toNat) (p:=fun c=>qg vars gs (c:Int)) (g:=nRow) (K:=fun acc=>some (0,[.sl acc])) (fun i acc hi ha=>?_) (fun acc=>?_)
 ·simp only[C3] at hf a1
  simp only[B6,a1,B5,nth,D9,E0,D.I,D.S,D.L,D.B];rw[hf];rfl
 ·skip
  rw[e66_0_1];rw[H7 (by omega:(i:Int)<gh vars.length),hin]
  simp only[H1,B5,D7,nth,D9,E0,D.I,D.S,D.L,D.B,C2,C5,ae hi (by unfold maxLen;omega)]
  rw[show F5 (acc.length+(0+1)) M63=true from E8 (by unfold M63;omega)]
  cases qg vars gs (i:Int)<;>rfl
 ·skip
  rw[e66_0_1];rw[H8 (by omega:¬((gh vars.length).toNat:Int)<gh vars.length)];rfl
theorem r75(vs cs0 cs:aa)(t:Tm)(h:au t)(h1:vs.length<=274877906944)(h2:cs.length<=274877906944):rn ⟨75,0,0⟩ [.sl vs,.int t.k,.int t.n,.str t.s,.sl (t.as.map Tm.row),.sl cs0,.sl cs]=some (0,[.int t.k,.int t.n,.str t.s,.sl vs,.sl (t.as.map Tm.row),.sl cs]):=by
 rw[e75_0_0];simp only[yw vs h1,Fu cs h2,r118 t h,we,yg,yh,yi,yj,yk,yl,ym,yn,yo,ne,nf,ng,nj,nk,nn,np,nq,nr,nu,nv,nz,oa,oc,od,oe,dI,dB,dS,dL,B5]
theorem r44(vars:List ByteArray)(hv:vars.length<=1048576)(l r:Tm)(h:au l)(gs:List Gu)(hg:gs.length<=1048576)(hk:∀ g∈gs,g.ok):rn ⟨44,0,0⟩ [.sl (vars.map ag),.int l.k,.int l.n,.str l.s,.sl (l.as.map Tm.row),.int r.k,.int r.n,.str r.s,.sl (r.as.map Tm.row),.sl (gs.map Gu.row)] =
 some (0,[.int l.k,.int l.n,.str l.s,.sl (vars.map ag),.sl (l.as.map Tm.row),.sl ((kr vars gs).map nRow)]):=by
 have hc:(kr vars gs).length<=274877906944:=by
  unfold kr;refine G7 (List.length_filter_le _ _) ?_;have:=(mv vars.length).2;simp;omega
 rw[e44_0_0];simp only[r76 vars gs hg hk,we,yg,yh,yi,yj,yk,yl,ym,yn,yo,ne,nf,ng,nj,nk,nn,np,nq,nr,nu,nv,nz,oa,oc,od,oe,dI,dB,dS,dL,B5];rw[r75 _ _ _ l h (by simp;omega) (by simpa using hc)]
 simp only[we,yg,yh,yi,yj,yk,yl,ym,yn,yo,ne,nf,ng,nj,nk,nn,np,nq,nr,nu,nv,nz,oa,oc,od,oe,dI,dB,dS,dL,B5]
theorem r37(vars:List ByteArray)(hv:vars.length<=1048576)(l r:Tm)(h:au l)(gs:List Gu)(hg:gs.length<=1048576)(hk:∀ g∈gs,g.ok):rn ⟨37,0,0⟩ [.sl (vars.map ag),.int l.k,.int l.n,.str l.s,.sl (l.as.map Tm.row),.int r.k,.int r.n,.str r.s,.sl (r.as.map Tm.row),.sl (gs.map Gu.row)] =
 some (0,[.int l.k,.int l.n,.str l.s,.sl (vars.map ag),.sl (l.as.map Tm.row),.sl ((kr vars gs).map nRow)]):=by
 rw[e37_0_0];rw[show F5 (([]:aa).length+(vars.map ag).length) M63=true from E8 (by unfold M63;simp;omega)]
 simp only[r65 l h,r66 vars gs hg hk,H1,we,yg,yh,yi,yj,yk,yl,ym,yn,yo,ne,nf,ng,nj,nk,nn,np,nq,nr,nu,nv,nz,oa,oc,od,oe,dI,dB,dS,dL,B5,D8]
theorem qlt(a c:Nat):decide ((c:Int)<(a:Int))=!decide (a<=c):=by by_cases h:a<=c<;>simp[h]<;>omega
theorem qle(a c:Nat):decide ((c:Int)<=(a:Int))=decide (c<=a):=by by_cases h:c<=a<;>simp[h]<;>omega
theorem bc{n:Nat}(h:n<=1099511627776):n<=maxLen:=by unfold maxLen;omega
theorem nb{n m:Nat}(h:n+m<=274877906944):F5 (n+m) M63=true:=E8 h
theorem r251(c:Nat):rn ⟨251,0,0⟩ [.int (c:Int)]=some (0,[.bool (decide (97<=c)&&decide (c<=122))]):=by
 rw[e251_0_0,show decide ((97:Int)<=(c:Int))=decide (97<=c) from qle c 97,show decide ((c:Int)<=122)=decide (c<=122) from qle 122 c]
 cases decide (97<=c)<;>rfl
theorem r254(c:Nat):rn ⟨254,0,0⟩ [.int (c:Int)]=some (0,[.bool (decide (48<=c)&&decide (c<=57))]):=by
 rw[e254_0_0,show decide ((48:Int)<=(c:Int))=decide (48<=c) from qle c 48,show decide ((c:Int)<=57)=decide (c<=57) from qle 57 c]
 cases decide (48<=c)<;>rfl
theorem rIn(a b c:Int):rn ⟨35,0,0⟩ [.int a,.int b,.int c]=some (0,[.bool (decide (b<=a)&&decide (a<=c))]):=r35 a b c
theorem r215(s:ByteArray)(hs:s.size<=maxLen)(lo hi:Nat):rn ⟨215,0,0⟩ [.str s,.int (lo:Int),.int (hi:Int)]=some (0,[.bool (Dd lo hi s.data.toList)]):=by
 have hz:=qj s;have hl:∀ n i,i+n=s.data.toList.length->rn ⟨215,0,1⟩ [.str s,.int (i:Int)]=bif (s.data.toList.drop i).all Bv then some (0,[]) else some (1,[]):=by
  intro n;induction n with
  |zero =>
   intro i hi;obtain rfl:i=s.data.toList.length:=by omega
   rw[e215_0_1];simp only[hz,B6,C0,D3,H4,H2,C8,K5,H1]
  |succ n ih =>
   intro i hi;have hlt:i<s.data.toList.length:=by omega
   rw[e215_0_1,B8 hlt];simp only[hz,C0,hlt,H3,H1,aq,B7,ae hlt (by omega),pm hlt,J1,ih (i+1) (by omega),Bv]
   generalize s.data.toList[i].toNat=c;rw[show decide ((c:Int)<97)=!decide (97<=c) from qlt 97 c,show decide ((c:Int)<48)=!decide (48<=c) from qlt 48 c,show decide ((57:Int)<(c:Int))=!decide (c<=57) from qlt c 57,show decide ((122:Int)<(c:Int))=!decide (c<=122) from qlt c 122]
   cases decide (97<=c)<;>cases decide (c<=122)<;>cases decide (48<=c)<;>cases decide (c<=57)<;>simp
 have h1:=hl (s.data.toList.length-1) 1;rw[e215_0_0];have hg:∀ h:0<s.data.toList.length,s.get! 0=s.data.toList[0]:=fun h=>pm h
 rw[hz] at hs;rw[hz];generalize s.data.toList=l at hs hz hl h1 hg ⊢;cases l with
 |nil=>rfl
 |cons b r =>
  have e0:=hg (by simp)
  have e1:=h1 (by simp;omega)
  simp only[P6,D2] at e1;rw[show((1:Nat):Int)=1 from rfl] at e1
  have hn:¬(((b::r).length:Nat):Int)<1:=by simp only[C2];omega
  have hi0:inb 0 (b::r).length=true:=by simp[inb]
  rw[show decide ((8:Int)<(((b::r).length:Nat):Int))=!decide ((b::r).length<=8) from qlt _ 8]
  simp only[H8 hn,H2,hi0,H1,show O8 0=0 from rfl,e0,S7,e1,Dd]
  rw[qlt lo b.toNat,qlt b.toNat hi];cases decide ((b::r).length<=8)<;>cases decide (lo<=b.toNat)<;>cases decide (b.toNat<=hi)<;>cases r.all Bv<;>first |rfl |(simp;done) |(simp;rfl)
theorem r244(s:ByteArray)(hs:s.size<=maxLen):rn ⟨244,0,0⟩ [.str s]=some (0,[.bool (kh s)]):=by
 have h:=r215 s hs 97 122;rw[e244_0_0];simp only[show((97:Nat):Int)=97 from rfl,show((122:Nat):Int)=122 from rfl] at h
 simp only[h,nv0,nvS,dvI,dvB,dvS,dvL,B5];rfl
theorem r154(s:ByteArray)(hs:s.size<=maxLen):rn ⟨154,0,0⟩ [.str s]=some (0,[.bool (qt s)]):=by
 have h:=r215 s hs 65 90;rw[e154_0_0];simp only[show((65:Nat):Int)=65 from rfl,show((90:Nat):Int)=90 from rfl] at h
 simp only[h,nv0,nvS,dvI,dvB,dvS,dvL,B5];rfl
theorem r226(s:ByteArray)(hs:s.size<=maxLen):rn ⟨226,0,0⟩ [.str s]=some (0,[.bool ((s.data.toList.drop 1).all Bv&&(decide (1<=s.data.toList.length)&&decide (s.data.toList.length<=8)))]):=by
 have hz:=qj s;have hl:∀ n i,i+n=s.data.toList.length->rn ⟨226,0,1⟩ [.str s,.int (i:Int)]=bif (s.data.toList.drop i).all Bv then some (0,[.str s]) else some (1,[]):=by
  intro n;induction n with
  |zero =>
   intro i hi;obtain rfl:i=s.data.toList.length:=by omega
   rw[e226_0_1];simp only[hz,B6,C0,D3,H4,H2,C8,K5,H1]
  |succ n ih =>
   intro i hi;have hlt:i<s.data.toList.length:=by omega
   rw[e226_0_1,B8 hlt];simp only[hz,C0,hlt,H3,H1,aq,B7,ae hlt (by omega),pm hlt,J1,ih (i+1) (by omega),Bv,r251,r254,nv0,nvS,dvI,dvB,dvS,dvL,B5]
   generalize s.data.toList[i].toNat=c;cases decide (97<=c)<;>cases decide (c<=122)<;>cases decide (48<=c)<;>cases decide (c<=57)<;>simp
 rw[e226_0_0];have hlen:decide ((1:Int)<=(s.data.toList.length:Int))=decide (1<=s.data.toList.length):=qle s.data.toList.length 1;have hlen8:decide ((s.data.toList.length:Int)<=8)=decide (s.data.toList.length<=8):=qle 8 s.data.toList.length;by_cases h0:s.data.toList.length=0
 ·have e:rn ⟨226,0,1⟩ [.str s,.int 1]=some (0,[.str s]):=by
   rw[e226_0_1];rw[H8 (show ¬(1:Int)<(s.size:Int) by rw[hz];omega)];rfl
  simp only[e,nv0,nvS,dvI,dvB,dvS,dvL,B5,D7,H1,H2,rIn,hz,hlen,hlen8];have:s.data.toList=[]:=F9.1 h0;rw[this];rfl
 ·have h1:=hl (s.data.toList.length-1) 1 (by omega)
  rw[show((1:Nat):Int)=1 from rfl] at h1
  rw[h1];cases (s.data.toList.drop 1).all Bv with
  |true=>simp only[nv0,nvS,dvI,dvB,dvS,dvL,B5,D7,H1,H2,rIn,hz,hlen,hlen8,E4]
  |false=>rfl
theorem r222(s:ByteArray)(hs:s.size<=maxLen):rn ⟨222,0,0⟩ [.str s]=some (0,[.bool (kh s)]):=by
 have hr:=r226 s hs;have hz:=qj s;rw[e222_0_0];have he:decide (s=(⟨#[]⟩:ByteArray))=decide (s.data.toList=[]):=decide_eq_decide.2 (If s);have hg:∀ h:0<s.data.toList.length,s.get! 0=s.data.toList[0]:=fun h=>pm h
 rw[he,hz];unfold kh;generalize s.data.toList=l at hr hz hg ⊢;cases l with
 |nil=>rfl
 |cons b r =>
  have e0:=hg (by simp)
  have hi0:inb 0 (r.length+1)=true:=by simp[inb]
  simp only[show O8 0=0 from rfl,e0,S7,C2,hi0,H1,H8 (List.cons_ne_nil b r),J6,r251,nv0,nvS,dvI,dvB,dvS,dvL,B5,hr,Dd,P6,D2,C2]
  have:decide (1<=r.length+1)=true:=by simp
  rw[this];cases decide (97<=b.toNat)<;>cases decide (b.toNat<=122)<;>cases r.all Bv<;>cases decide (r.length+1<=8)<;>rfl
theorem r163(s:ByteArray)(hs:s.size<=maxLen):rn ⟨163,0,0⟩ [.str s]=some (0,[.bool (qt s)]):=by
 have hr:=r226 s hs;have hz:=qj s;rw[e163_0_0];have he:decide (s=(⟨#[]⟩:ByteArray))=decide (s.data.toList=[]):=decide_eq_decide.2 (If s);have hg:∀ h:0<s.data.toList.length,s.get! 0=s.data.toList[0]:=fun h=>pm h
 rw[he,hz];unfold qt;generalize s.data.toList=l at hr hz hg ⊢;cases l with
 |nil=>rfl
 |cons b r =>
  have e0:=hg (by simp)
  have hi0:inb 0 (r.length+1)=true:=by simp[inb]
  simp only[show O8 0=0 from rfl,e0,S7,C2,hi0,H1,H8 (List.cons_ne_nil b r),J6,nv0,nvS,dvI,dvB,dvS,dvL,B5,hr,Dd,P6,D2,C2]
  have:decide (1<=r.length+1)=true:=by simp
  rw[this,show decide ((65:Int)<=(b.toNat:Int))=decide (65<=b.toNat) from qle b.toNat 65,show decide ((b.toNat:Int)<=90)=decide (b.toNat<=90) from qle 90 b.toNat]
  cases decide (65<=b.toNat)<;>cases decide (b.toNat<=90)<;>cases r.all Bv<;>cases decide (r.length+1<=8)<;>rfl
theorem r216:∀ t:Tm,t.nodes<=2097152->rn ⟨216,0,0⟩ [.int t.k,.int t.n,.str t.s,.sl (t.as.map Tm.row)]=some (0,[.int (t.nodes:Int)]):=Tm.ind fun t ih h=>by
 have hnd:=Tm.nodes_eq t;have hls:=cu (xs:=t.as);have hl:∀ n i (c:Nat),i+n=t.as.length->c+((t.as.drop i).map Tm.nodes).sum<=2097152->rn ⟨216,0,1⟩ [.int (c:Int),.sl (t.as.map Tm.row),.int (t.as.length:Int),.int (i:Int)]=some (0,[.int ((c+((t.as.drop i).map Tm.nodes).sum:Nat):Int)]):=by
  intro n;induction n with
  |zero =>
   intro i c hi hc;obtain rfl:i=t.as.length:=by omega
   rw[e216_0_1];simp only[B6,C0,D3,H4,H2,C8,D1,List.sum_nil,O2]
  |succ n ih2 =>
   intro i c hi hc;have hlt:i<t.as.length:=by omega
   rw[B8 hlt] at hc ⊢;simp only[C4,K1] at hc ⊢;rw[e216_0_1];have h1:=ih _ (C1 hlt) (by omega)
   simp only[B6,C0,hlt,H3,H1,aq,B7,ab hlt,ae hlt (bc (by omega)),Tm.row_eq,nv0,nvS,dvI,dvB,dvS,dvL,B5,h1]
   rw[IntWalk.i64_in _ (by omega),show((c:Int)+(t.as[i].nodes:Int))=((c+t.as[i].nodes:Nat):Int) by omega,ih2 (i+1) _ (by omega) (by omega),Nat.add_assoc]
 rw[e216_0_0];have:=hl t.as.length 0 1 (by omega) (by rw[D2];omega)
 rw[D2,<-hnd] at this;simp only[B6,show((1:Nat):Int)=1 from rfl,C3] at this ⊢
 simp only[this,nv0,nvS,dvI,dvB,dvS,dvL,B5,D7,H1,H2]
theorem ac4(a b:Nat):(bif decide (b<a) then (a:Int) else (b:Int))=((max b a:Nat):Int):=by
 by_cases h:b<a
 ·rw[H7 h,H1];omega
 ·rw[H8 h,H2];omega
theorem r217:∀ t:Tm,t.nodes<=2097152->rn ⟨217,0,0⟩ [.int t.k,.int t.n,.str t.s,.sl (t.as.map Tm.row)]=some (0,[.int (t.depth:Int)]):=Tm.ind fun t ih h=>by
 have hnd:=Tm.nodes_eq t;have hls:=cu (xs:=t.as);have hdn:=Tm.depth_nodes t;have hde:=Tm.depth_eq t;have hl:∀ n i (c:Nat),i+n=t.as.length->rn ⟨217,0,1⟩ [.int (c:Int),.sl (t.as.map Tm.row),.int (t.as.length:Int),.int (i:Int)]=some (0,[.int ((max c (Tm.depthL (t.as.drop i)):Nat):Int)]):=by
  intro n;induction n with
  |zero =>
   intro i c hi;obtain rfl:i=t.as.length:=by omega
   rw[e217_0_1];simp only[B6,C0,D3,H4,H2,C8,Tm.depthL,Nat.max_zero]
  |succ n ih2 =>
   intro i c hi;have hlt:i<t.as.length:=by omega
   rw[B8 hlt];have hm:=dt (f:=Tm.nodes) (C1 hlt);have h1:=ih _ (C1 hlt) (by omega)
   rw[e217_0_1];simp only[B6,C0,hlt,H3,H1,aq,B7,ab hlt,ae hlt (bc (by omega)),Tm.row_eq,nv0,nvS,dvI,dvB,dvS,dvL,B5,h1]
   rw[ac4,ih2 (i+1) _ (by omega)]
   simp only[Tm.depthL,Nat.max_assoc]
 rw[e217_0_0];have:=hl t.as.length 0 0 (by omega)
 rw[D2,Nat.zero_max] at this;simp only[B6,C3] at this ⊢;simp only[this,nv0,nvS,dvI,dvB,dvS,dvL,B5,D7,H1,H2];rw[IntWalk.i64_in _ (by omega),hde];rfl
theorem r173(a b:Nat):rn ⟨173,0,0⟩ [.int (a:Int),.int (b:Int)]=some (0,[.int ((max a b:Nat):Int)]):=by
 rw[e173_0_0];by_cases h:(b:Int)<(a:Int)
 ·rw[H7 h,H1,show max a b=a by omega]
 ·rw[H8 h,H2,show max a b=b by omega]
theorem r165:∀ t:Tm,t.nodes<=2097152->rn ⟨165,0,0⟩ [.int t.k,.int t.n,.str t.s,.sl (t.as.map Tm.row)]=some (0,[.int (t.depth:Int)]):=Tm.ind fun t ih h=>by
 have hnd:=Tm.nodes_eq t;have hls:=cu (xs:=t.as);have hdn:=Tm.depth_nodes t;have hde:=Tm.depth_eq t;have hl:∀ n i (c:Nat),i+n=t.as.length->rn ⟨165,0,1⟩ [.int (c:Int),.int (i:Int),.int t.k,.int t.n,.str t.s,.sl (t.as.map Tm.row)]=some (0,[.int ((max c (Tm.depthL (t.as.drop i)):Nat):Int)]):=by
  intro n;induction n with
  |zero =>
   intro i c hi;obtain rfl:i=t.as.length:=by omega
   rw[e165_0_1];simp only[B6,C0,D3,H4,H2,C8,Tm.depthL,Nat.max_zero]
  |succ n ih2 =>
   intro i c hi;have hlt:i<t.as.length:=by omega
   rw[B8 hlt];have hm:=dt (f:=Tm.nodes) (C1 hlt);have h1:=ih _ (C1 hlt) (by omega)
   rw[e165_0_1];simp only[B6,C0,hlt,H3,H1,aq,B7,ab hlt,ae hlt (bc (by omega)),Tm.row_eq,nv0,nvS,dvI,dvB,dvS,dvL,B5,h1,r173]
   have h2:=ih2 (i+1) (max c t.as[i].depth) (by omega)
   rw[h2];simp only[Tm.depthL,Nat.max_assoc]
 rw[e165_0_0];have:=hl t.as.length 0 0 (by omega)
 rw[D2,Nat.zero_max] at this;simp only[C3] at this ⊢;simp only[this,nv0,nvS,dvI,dvB,dvS,dvL,B5,D7,H1,H2];rw[IntWalk.i64_in _ (by omega),hde];rfl
def oh(n left:Nat):Int:=if n<=left then ((left-n:Nat):Int) else -1
theorem Dv{a b c:Nat}(h:a<=c):oh b (c-a)=oh (a+b) c:=by
 unfold oh;by_cases hb:b<=c-a
 ·rw[H5 hb,H5 (by omega),Nat.sub_sub]
 ·rw[H6 hb,H6 (by omega)]
theorem r164:∀ t:Tm,∀ left:Nat,t.nodes<=2097152->left<=1048576->rn ⟨164,0,0⟩ [.int t.k,.int t.n,.str t.s,.sl (t.as.map Tm.row),.int (left:Int)]=some (0,[.int (oh t.nodes left)]):=Tm.ind fun t ih left h hle=>by
 have hnd:=Tm.nodes_eq t;have hls:=cu (xs:=t.as);have hl:∀ n i (c:Nat),i+n=t.as.length->c<=1048576->rn ⟨164,0,1⟩ [.int (c:Int),.int (i:Int),.int t.k,.int t.n,.str t.s,.sl (t.as.map Tm.row)]=some (0,[.int (oh ((t.as.drop i).map Tm.nodes).sum c)]):=by
  intro n;induction n with
  |zero =>
   intro i c hi hc;obtain rfl:i=t.as.length:=by omega
   rw[e164_0_1];simp only[B6,C0,D3,H4,H2,C8,D1,List.sum_nil,oh,J0,if_true,Nat.sub_zero]
  |succ n ih2 =>
   intro i c hi hc;have hlt:i<t.as.length:=by omega
   rw[B8 hlt];rw[e164_0_1];have h1:=ih _ (C1 hlt) c (by have:=dt (f:=Tm.nodes) (C1 hlt);omega) hc
   have hc0:(0:Int)<=(c:Int):=by omega
   simp only[B6,C0,hlt,H3,H1,aq,B7,ab hlt,ae hlt (bc (by omega)),Tm.row_eq,nv0,nvS,dvI,dvB,dvS,dvL,B5,h1,hc0]
   simp only[C4,K1];by_cases hq:t.as[i].nodes<=c
   ·have e:oh t.as[i].nodes c=((c-t.as[i].nodes:Nat):Int):=H5 hq
    rw[e,ih2 (i+1) _ (by omega) (by omega),Dv hq]
   ·have e:oh t.as[i].nodes c=-1:=H6 hq
    have e2:oh (t.as[i].nodes+((t.as.drop (i+1)).map Tm.nodes).sum) c=-1:=H6 (by omega)
    rw[e,e2,e164_0_1];have hneg:¬(0:Int)<=-1:=by decide
    simp only[hneg,H4,H2];cases decide (((i+1:Nat):Int)<((t.as.map Tm.row).length:Int))<;>rfl
 rw[e164_0_0,IntWalk.i64_in _ (by omega)]
 by_cases hz:left=0
 ·subst hz
  have e:oh t.nodes 0=-1:=H6 (by omega)
  have hneg:¬(0:Int)<=-1:=by decide
  have e2:rn ⟨164,0,1⟩ [.int (((0:Nat):Int)-1),.int 0,.int t.k,.int t.n,.str t.s,.sl (t.as.map Tm.row)]=some (0,[.int (-1)]):=by
   rw[e164_0_1];simp only[show(((0:Nat):Int)-1)=-1 from rfl,hneg,H4,H2]
   cases decide ((0:Int)<((t.as.map Tm.row).length:Int))<;>rfl
  rw[e2,e];rfl
 ·have:=hl t.as.length 0 (left-1) (by omega) (by omega)
  rw[D2] at this;rw[show(left:Int)-1=((left-1:Nat):Int) by omega]
  simp only[C3] at this;simp only[this,nv0,nvS,dvI,dvB,dvS,dvL,B5,D7,H1,H2];rw[Dv (by omega),hnd]
theorem r218:∀ t:Tm,Wt t->rn ⟨218,0,0⟩ [.int t.k,.int t.n,.str t.s,.sl (t.as.map Tm.row)]=some (0,[.bool t.areN]):=Tm.ind fun t ih h=>by
 have hlm:=h.l;have hl:∀ n i,i+n=t.as.length->rn ⟨218,0,2⟩ [.sl (t.as.map Tm.row),.int (t.as.length:Int),.int (i:Int)]=bif Tm.areNL (t.as.drop i) then some (0,[]) else some (1,[]):=by
  intro n;induction n with
  |zero =>
   intro i hi;obtain rfl:i=t.as.length:=by omega
   rw[e218_0_2];simp only[B6,C0,D3,H4,H2,C8,Tm.areNL,H1]
  |succ n ih2 =>
   intro i hi;have hlt:i<t.as.length:=by omega
   rw[e218_0_2,B8 hlt];have h1:=ih _ (C1 hlt) (h.sub (C1 hlt));simp only[B6,C0,hlt,H3,H1,aq,B7,ab hlt,ae hlt hlm,Tm.row_eq,nv0,nvS,dvI,dvB,dvS,dvL,B5,h1,ih2 (i+1) (by omega),Tm.areNL]
   cases t.as[i].areN<;>simp
 have h0:=hl t.as.length 0 (by omega)
 rw[D2] at h0;rw[e218_0_0,Tm.areN_eq];simp only[B6,C3] at h0 ⊢;simp only[h0,r154 t.s h.s,r182 t,r244 t.s h.s,nv0,nvS,dvI,dvB,dvS,dvL,B5];unfold Tm.nodeN;have hz:decide ((t.as.length:Int)=0)=decide (t.as.length=0):=by simp
 by_cases h1:t.k=1
 ·rw[H7 h1,H5 h1,hz]
  by_cases h2:t.as.length=0
  ·have:t.as=[]:=F9.1 h2
   rw[H7 h2,this];simp only[Tm.areNL,H1,K8,E4];cases decide (t.n=0)<;>cases qt t.s<;>rfl
  ·rw[H8 h2]
   cases decide (t.n=0)<;>rfl
 ·rw[H8 h1,H6 h1]
  by_cases h3:t.k=3
  ·rw[H7 h3,H5 h3]
   cases hw:isW t with
   |false=>rfl
   |true =>
    have:t.as=[]:=by simp only[isW,B9,decide_eq_true_eq] at hw;exact F9.1 hw.2.2.2.2
    rw[this];rfl
  ·rw[H8 h3,H6 h3]
   by_cases h2:t.k=2
   ·rw[H7 h2,H5 h2]
    cases decide (t.n=0)<;>cases kh t.s<;>cases Tm.areNL t.as<;>rfl
   ·rw[H8 h2,H6 h2];rfl
theorem r227(t:Tm)(h:Wt t):rn ⟨227,0,0⟩ [.int t.k,.int t.n,.str t.s,.sl (t.as.map Tm.row)]=some (0,[.bool t.nodeN]):=by
 rw[e227_0_0];have hz:decide ((t.as.length:Int)=0)=decide (t.as.length=0):=by simp
 simp only[B6,r163 t.s h.s,r222 t.s h.s,nv0,nvS,dvI,dvB,dvS,dvL,B5,rIn,hz];unfold Tm.nodeN;by_cases h1:t.k=1
 ·rw[H7 h1,H5 h1]
  cases decide (t.n=0)<;>cases qt t.s<;>cases decide (t.as.length=0)<;>rfl
 ·rw[H8 h1,H6 h1]
  by_cases h2:t.k=2
  ·rw[H7 h2,H6 (by omega),H5 h2]
   cases decide (t.n=0)<;>cases kh t.s<;>rfl
  ·rw[H8 h2]
   by_cases h3:t.k=3
   ·rw[H7 h3,H5 h3]
    unfold isW;have e2:decide (t.n<=3)=decide (t.n<4):=decide_eq_decide.2 (by omega)
    rw[H7 h3,e2];cases decide (t.s=(⟨#[]⟩:ByteArray))<;>cases decide (0<=t.n)<;>cases decide (t.n<4)<;>cases decide (t.as.length=0)<;>rfl
   ·rw[H8 h3,H6 h3,H6 h2];rfl
theorem r166:∀ t:Tm,Wt t->rn ⟨166,0,0⟩ [.int t.k,.int t.n,.str t.s,.sl (t.as.map Tm.row)]=some (0,[.bool t.areN]):=Tm.ind fun t ih h=>by
 have hlm:=h.l;have hl:∀ n i,i+n=t.as.length->rn ⟨166,0,1⟩ [.int (i:Int),.int t.k,.int t.n,.str t.s,.sl (t.as.map Tm.row)]=bif Tm.areNL (t.as.drop i) then some (0,[.int t.k,.int t.n,.str t.s,.sl (t.as.map Tm.row)]) else some (1,[]):=by
  intro n;induction n with
  |zero =>
   intro i hi;obtain rfl:i=t.as.length:=by omega
   rw[e166_0_1];simp only[B6,C0,D3,H4,H2,C8,Tm.areNL,H1]
  |succ n ih2 =>
   intro i hi;have hlt:i<t.as.length:=by omega
   rw[e166_0_1,B8 hlt];have h1:=ih _ (C1 hlt) (h.sub (C1 hlt));simp only[B6,C0,hlt,H3,H1,aq,B7,ab hlt,ae hlt hlm,Tm.row_eq,nv0,nvS,dvI,dvB,dvS,dvL,B5,h1,ih2 (i+1) (by omega),Tm.areNL]
   cases t.as[i].areN<;>simp
 have h0:=hl t.as.length 0 (by omega)
 rw[D2] at h0;rw[e166_0_0,Tm.areN_eq];simp only[C3] at h0 ⊢;rw[h0];cases Tm.areNL t.as with
 |true=>simp only[H1,nv0,nvS,dvI,dvB,dvS,dvL,B5,D7,H1,H2,r227 t h,K8]
 |false=>rw[U3];rfl
theorem r155(t:Tm)(hn:t.nodes<=2097152)(h:Wt t):rn ⟨155,0,0⟩ [.int t.k,.int t.n,.str t.s,.sl (t.as.map Tm.row)]=some (0,[.bool t.valid]):=by
 rw[e155_0_0];simp only[r216 t hn,r217 t hn,r218 t h,nv0,nvS,dvI,dvB,dvS,dvL,B5];unfold Tm.valid;have i1:((t.nodes:Int)<=60)↔t.nodes<=60:=by omega
 have i2:((t.depth:Int)<=16)↔t.depth<=16:=by omega
 by_cases h1:t.nodes<=60<;>by_cases h2:t.depth<=16<;>simp[h1,h2,i1,i2]
theorem r100(t:Tm)(hn:t.nodes<=2097152)(h:Wt t):rn ⟨100,0,0⟩ [.int t.k,.int t.n,.str t.s,.sl (t.as.map Tm.row)]=some (0,[.bool t.valid]):=by
 rw[e100_0_0];have h1:=r164 t 60 hn (by omega)
 rw[show((60:Nat):Int)=60 from rfl] at h1
 simp only[h1,r165 t hn,r166 t h,nv0,nvS,dvI,dvB,dvS,dvL,B5];have i0:((0:Int)<=oh t.nodes 60)↔t.nodes<=60:=by
  unfold oh;split<;>omega
 unfold Tm.valid;have i2:((t.depth:Int)<=16)↔t.depth<=16:=by omega
 by_cases h1:t.nodes<=60<;>by_cases h2:t.depth<=16<;>simp[h1,h2,i0,i2]
theorem r153(l:List ByteArray)(h:l.length<=1048576):rn ⟨153,0,0⟩ [.sl (l.map ag)]=some (0,[.bool (dis l)]):=by
 rw[e153_0_0];simp only[r214 l (by omega),nv0,nvS,dvI,dvB,dvS,dvL,B5,B6]
 congr 4
 unfold dis;exact decide_eq_decide.2 (by rw[<-Ru];omega)
def ixS(s:ByteArray):List ByteArray->Nat->Int
 | [],_=>-1
 |x::r,i=>if x=s then (i:Int) else ixS s r (i+1)
theorem Nr(s:ByteArray):∀ (l:List ByteArray) (i:Nat),ixS s l i<0↔s∉l
 | [],i=>by simp[ixS]
 |x::r,i=>by
  unfold ixS;by_cases h:x=s
  ·rw[H5 h];simp[h]
  ·rw[H6 h,Nr s r];simp[Ne.symm h]
theorem r167(l:List ByteArray)(hl:l.length<=maxLen)(s:ByteArray):rn ⟨167,0,0⟩ [.sl (l.map ag),.str s]=some (0,[.int (ixS s l 0)]):=by
 have hlp:∀ n i,i+n=l.length->(ixS s (l.drop i) i=-1/\rn ⟨167,0,1⟩ [.sl (l.map ag),.str s,.int (i:Int)]=some (0,[]))\/rn ⟨167,0,1⟩ [.sl (l.map ag),.str s,.int (i:Int)]=some (1,[.int (ixS s (l.drop i) i)]):=by
  intro n;induction n with
  |zero =>
   intro i hi;obtain rfl:i=l.length:=by omega
   rw[e167_0_1];simp only[B6,C0,D3,H4,H2,C8,ixS];exact .inl ⟨trivial,trivial⟩
  |succ n ih =>
   intro i hi;have hlt:i<l.length:=by omega
   rw[e167_0_1,B8 hlt];simp only[B6,C0,hlt,H3,H1,aq,B7,ab hlt,ae hlt hl,ag,nv0,nvS,dvI,dvB,dvS,dvL,B5,ixS];by_cases h:l[i]=s
   ·simp only[H7 h,H1,H5 h];exact .inr trivial
   ·simp only[H8 h,H2,H6 h];exact ih (i+1) (by omega)
 have h:=hlp l.length 0 (by omega)
 rw[D2] at h;simp only[C3] at h;rw[e167_0_0];rcases h with ⟨h1,h2⟩ |h2
 ·rw[h2,h1];rfl
 ·rw[h2];rfl
theorem r161(l:List ByteArray)(hl:l.length<=maxLen):rn ⟨161,0,0⟩ [.sl (l.map ag)]=some (0,[.bool (dis l)]):=by
 have key:∀ n i,i+n=l.length->rn ⟨161,0,1⟩ [.sl (l.map ag),.int (i:Int)]=bif (S5 i n).all (fun j=>decide (ixS (l.getD j e0) l 0=(j:Int))) then some (0,[]) else some (1,[]):=by
  intro n;induction n with
  |zero =>
   intro i hi;obtain rfl:i=l.length:=by omega
   rw[e161_0_1];simp only[B6,C0,D3,H4,H2,C8];rfl
  |succ n ih =>
   intro i hi;have hlt:i<l.length:=by omega
   rw[e161_0_1,List.range'_succ];have hg:l.getD i e0=l[i]:=by simp[O5,hlt]
   simp only[B6,C0,hlt,H3,H1,aq,B7,ab hlt,ae hlt hl,ag,nv0,nvS,dvI,dvB,dvS,dvL,B5,r167 l hl,ih (i+1) (by omega),J1,hg]
   by_cases hq:ixS l[i] l 0=(i:Int)
   ·simp[hq]
   ·simp[hq]
 have h:=key l.length 0 (by omega)
 rw[e161_0_0];simp only[C3] at h;rw[h];have hfi:∀ (m:List ByteArray) (i k:Nat) (hk:k<m.length),ixS m[k] m i=((i+k:Nat):Int)↔∀ j (hj:j<k),m[j]≠m[k]:=by
  intro m;induction m with
  |nil=>intro i k hk;simp at hk
  |cons x m ih =>
   intro i k hk;cases k with
   |zero=>simp[ixS]
   |succ k =>
    have hk':k<m.length:=by simpa using hk
    simp only[List.getElem_cons_succ,ixS];by_cases hx:x=m[k]
    ·rw[H5 hx]
     constructor
     ·intro h;omega
     ·intro h;exact absurd hx (h 0 (by omega))
    ·rw[H6 hx]
     have:=ih (i+1) k hk';rw[show i+1+k=i+(k+1) by omega] at this
     rw[this];constructor
     ·intro h j hj
      cases j with
      |zero=>exact hx
      |succ j=>exact h j (by omega)
     ·intro h j hj;exact h (j+1) (by omega)
 have e:(S5 0 l.length).all (fun j=>decide (ixS (l.getD j e0) l 0=(j:Int)))=dis l:=by
  unfold dis;rw[Bool.eq_iff_iff,List.all_eq_true,decide_eq_true_eq];constructor
  ·intro h
   refine T2.2 fun i j _ hj hij=>?_
   have h1:=h j (by simp[List.mem_range'];omega)
   simp only[decide_eq_true_eq] at h1;have hg:l.getD j e0=l[j]:=by simp[O5,hj]
   rw[hg] at h1;exact(hfi l 0 j hj).1 (by simpa using h1) i hij
  ·intro h j hj
   have hj':j<l.length:=by simp[List.mem_range'] at hj;omega
   have hg:l.getD j e0=l[j]:=by simp[O5,hj']
   simp only[decide_eq_true_eq,hg];have:=(hfi l 0 j hj').2 fun i hi=>T2.1 h i j (by omega) hj' hi
   simpa using this
 rw[e];cases dis l<;>rfl
theorem Fw(l:List ByteArray)(s:ByteArray):decide ((0:Int)<=ixS s l 0)=jk l s:=by
 rw[Bool.eq_iff_iff,decide_eq_true_eq,uo];have:=Nr s l 0;constructor
 ·intro h;exact Classical.byContradiction fun hn=>by have:=this.2 hn;omega
 ·intro h;exact Classical.byContradiction fun hn=>absurd h (this.1 (by omega))
theorem aa3(l:List ByteArray)(s:ByteArray):decide (ixS s l 0<0)=!jk l s:=by
 rw[<-Fw];by_cases h:ixS s l 0<0
 ·rw[H7 h,H8 (by omega)];rfl
 ·rw[H8 h,H7 (by omega)];rfl
theorem Xn(l:List ByteArray)(hl:l.length<=maxLen)(s:ByteArray):rn ⟨262,0,0⟩ [.sl (l.map ag),.str s]=some (0,[.int (ixS s l 0)]):=by
 have hlp:∀ n i,i+n=l.length->(ixS s (l.drop i) i=-1/\rn ⟨262,0,1⟩ [.sl (l.map ag),.str s,.int (l.length:Int),.int (i:Int)]=some (0,[]))\/rn ⟨262,0,1⟩ [.sl (l.map ag),.str s,.int (l.length:Int),.int (i:Int)]=some (1,[.int (ixS s (l.drop i) i)]):=by
  intro n;induction n with
  |zero =>
   intro i hi;obtain rfl:i=l.length:=by omega
   rw[e262_0_1];simp only[B6,C0,D3,H4,H2,C8,ixS];exact .inl ⟨trivial,trivial⟩
  |succ n ih =>
   intro i hi;have hlt:i<l.length:=by omega
   rw[e262_0_1,B8 hlt];simp only[B6,C0,hlt,H3,H1,aq,B7,ab hlt,ae hlt hl,ag,nv0,nvS,dvI,dvB,dvS,dvL,B5,ixS];by_cases h:l[i]=s
   ·simp only[H7 h.symm,H1,H5 h];exact .inr trivial
   ·simp only[H8 (Ne.symm h),H2,H6 h];exact ih (i+1) (by omega)
 have h:=hlp l.length 0 (by omega)
 rw[D2] at h;simp only[C3] at h;rw[e262_0_0];simp only[B6];rcases h with ⟨h1,h2⟩ |h2
 ·rw[h2,h1];rfl
 ·rw[h2];rfl
theorem Tj(l:List ByteArray)(hl:l.length<=maxLen)(s:ByteArray):rn ⟨245,0,0⟩ [.sl (l.map ag),.str s]=some (0,[.bool (jk l s)]):=by
 rw[e245_0_0];simp only[Xn l hl,nv0,nvS,dvI,dvB,dvS,dvL,B5];rw[Fw]
theorem r219(l r:List ByteArray)(hl:l.length<=2097152)(hr:r.length<=maxLen):rn ⟨219,0,0⟩ [.sl (l.map ag),.sl (r.map ag)]=some (0,[.sl ((wo l r).map ag)]):=by
 have key:∀ n i (acc:List ByteArray),i+n=l.length->acc.length<=i->rn ⟨219,0,1⟩ [.sl (r.map ag),.sl (l.map ag),.int (l.length:Int),.int (i:Int),.sl (acc.map ag)]=some (0,[.sl ((acc++wo (l.drop i) r).map ag)]):=by
  intro n;induction n with
  |zero =>
   intro i acc hi ha;obtain rfl:i=l.length:=by omega
   rw[e219_0_1];simp only[B6,C0,D3,H4,H2,C8,wo,S8,G8]
  |succ n ih =>
   intro i acc hi ha;have hlt:i<l.length:=by omega
   rw[e219_0_1,B8 hlt];simp only[B6,C0,hlt,H3,H1,aq,B7,ab hlt,ae hlt (bc (by omega)),ag,nv0,nvS,dvI,dvB,dvS,dvL,B5,Tj r hr,C2,C5]
   unfold wo;rw[O0];cases hh:jk r l[i] with
   |true=>simp only[D4,H2,N3,if_false];exact ih (i+1) acc (by omega) (by omega)
   |false =>
    simp only[J6,H1,if_true];rw[nb (by omega)]
    have:=ih (i+1) (acc++[l[i]]) (by omega) (by simp;omega)
    rw[D5] at this;simp only[H1];simpa[wo,ag] using this
 have h:=key l.length 0 [] (by omega) (J0 _)
 rw[e219_0_0];simp only[C3,D1,D2,D8,B6] at h ⊢;simp only[h,nv0,nvS,dvI,dvB,dvS,dvL,B5,D7,H1,H2]
theorem r101(l r:List ByteArray)(hl:l.length<=2097152)(hr:r.length<=maxLen):rn ⟨101,0,0⟩ [.sl (l.map ag),.sl (r.map ag)]=some (0,[.sl ((wo l r).map ag)]):=by
 have key:∀ n i (acc:List ByteArray),i+n=l.length->acc.length<=i->rn ⟨101,0,1⟩ [.sl (l.map ag),.sl (r.map ag),.int (i:Int),.sl (acc.map ag)]=some (0,[.sl ((acc++wo (l.drop i) r).map ag)]):=by
  intro n;induction n with
  |zero =>
   intro i acc hi ha;obtain rfl:i=l.length:=by omega
   rw[e101_0_1];simp only[B6,C0,D3,H4,H2,C8,wo,S8,G8]
  |succ n ih =>
   intro i acc hi ha;have hlt:i<l.length:=by omega
   rw[e101_0_1,B8 hlt];simp only[B6,C0,hlt,H3,H1,aq,B7,ab hlt,ae hlt (bc (by omega)),ag,nv0,nvS,dvI,dvB,dvS,dvL,B5,r167 r hr,C2,C5]
   rw[aa3];unfold wo;rw[O0];cases hh:jk r l[i] with
   |true=>simp only[D4,H2,N3,if_false];exact ih (i+1) acc (by omega) (by omega)
   |false =>
    simp only[J6,H1,if_true];rw[nb (by omega)]
    have:=ih (i+1) (acc++[l[i]]) (by omega) (by simp;omega)
    rw[D5] at this;simp only[H1];simpa[wo,ag] using this
 have h:=key l.length 0 [] (by omega) (J0 _)
 rw[e101_0_0];simp only[C3,D1,D2,D8] at h ⊢;simp only[h,nv0,nvS,dvI,dvB,dvS,dvL,B5,D7,H1,H2]
theorem r221(n:ByteArray)(a:List ByteArray)(r:ByteArray)(h:a.length<=1048576):rn ⟨221,0,0⟩ [.str n,.sl (a.map ag),.str r]=some (0,[.str n,.str r,.sl (a.map ag)]):=by
 rw[e221_0_0];have:=yw (a.map ag) (by rw[B6];omega)
 simp only[this,nv0,nvS,dvI,dvB,dvS,dvL,B5]
theorem r157(so:aa)(ops:List OpM)(ho:pn ops)(s:ByteArray):rn ⟨157,0,0⟩ [.sl so,.sl (ops.map OpM.row),.str s]=some (0,kj (dp ops s)):=by
 have hm:=ho.l;have hl:∀ n i,i+n=ops.length->rn ⟨157,0,1⟩ [.str s,.sl (ops.map OpM.row),.int (ops.length:Int),.int (i:Int),.str e0,.str e0,.sl []]=match (ops.drop i).find? (fun o=>decide (o.n=s)) with |some o=>some (1,[.str o.n,.str o.r,.sl (o.a.map ag)]) |none=>some (0,[.str e0,.str e0,.sl []]):=by
  intro n;induction n with
  |zero =>
   intro i hi;obtain rfl:i=ops.length:=by omega
   rw[e157_0_1];simp only[B6,C0,D3,H4,H2,C8,T0]
  |succ n ih =>
   intro i hi;have hlt:i<ops.length:=by omega
   rw[e157_0_1,B8 hlt];have h1:=r221 ops[i].n ops[i].a ops[i].r (ho.a _ (C1 hlt));simp only[B6,C0,hlt,H3,H1,aq,B7,ab hlt,ae hlt (bc (by omega)),OpM.row,nv0,nvS,dvI,dvB,dvS,dvL,B5,P8,ih (i+1) (by omega),h1]
   by_cases hq:ops[i].n=s<;>simp[hq]
 have h:=hl ops.length 0 (by omega)
 rw[D2] at h;simp only[C3] at h;rw[e157_0_0];simp only[B6,r181,nv0,nvS,dvI,dvB,dvS,dvL,B5,h];unfold dp;cases isB s with
 |true=>rfl
 |false =>
  cases ops.find? (fun o=>decide (o.n=s))<;>rfl
theorem r106(so:aa)(ops:List OpM)(ho:pn ops)(s:ByteArray):rn ⟨106,0,0⟩ [.sl so,.sl (ops.map OpM.row),.str s]=some (0,kj (dp ops s)):=by
 have hm:=ho.l;have hl:∀ n i,i+n=ops.length->rn ⟨106,0,1⟩ [.str s,.int (i:Int),.sl so,.sl (ops.map OpM.row),.str e0,.str e0,.sl []]=match (ops.drop i).find? (fun o=>decide (o.n=s)) with |some o=>some (1,[.str o.n,.str o.r,.sl (o.a.map ag)]) |none=>some (0,[.str e0,.str e0,.sl []]):=by
  intro n;induction n with
  |zero =>
   intro i hi;obtain rfl:i=ops.length:=by omega
   rw[e106_0_1];simp only[B6,C0,D3,H4,H2,C8,T0]
  |succ n ih =>
   intro i hi;have hlt:i<ops.length:=by omega
   rw[e106_0_1,B8 hlt];have h1:ops[i].a.length<=1048576:=ho.a _ (C1 hlt);have h2:F5 (0+ops[i].a.length) M63=true:=nb (by omega)
   simp only[B6,C0,hlt,H3,H1,aq,B7,ab hlt,ae hlt (bc (by omega)),OpM.row,nv0,nvS,dvI,dvB,dvS,dvL,B5,P8,ih (i+1) (by omega),C5,h2,D8]
   by_cases hq:ops[i].n=s<;>simp[hq]
 have h:=hl ops.length 0 (by omega)
 rw[D2] at h;simp only[C3] at h;rw[e106_0_0];simp only[B6,r111,nv0,nvS,dvI,dvB,dvS,dvL,B5,h];unfold dp;cases isB s with
 |true=>rfl
 |false =>
  cases ops.find? (fun o=>decide (o.n=s))<;>rfl
theorem r96(so:aa)(ops:List OpM)(ho:pn ops)(vs:List VS)(hv:vs.length<=1099511627776):∀ t:Tm,Wt t->rn ⟨96,0,0⟩ [.sl so,.sl (ops.map OpM.row),.int t.k,.int t.n,.str t.s,.sl (t.as.map Tm.row),.sl (vs.map VS.row)]=some (0,[.str (ax ops vs t)]):=Tm.ind fun t ih h=>by
 have hlm:=h.l;have hvl:∀ n i,i+n=vs.length->rn ⟨96,0,2⟩ [.sl (vs.map VS.row),.int (vs.length:Int),.int (i:Int),.int t.k,.int t.n,.str t.s,.sl (t.as.map Tm.row)]=match (vs.drop i).find? (fun v=>decide (v.1=t.s)) with |some v=>some (1,[.str v.2]) |none=>some (0,[]):=by
  intro n;induction n with
  |zero =>
   intro i hi;obtain rfl:i=vs.length:=by omega
   rw[e96_0_2];simp only[B6,C0,D3,H4,H2,C8,T0]
  |succ n ih2 =>
   intro i hi;have hlt:i<vs.length:=by omega
   rw[e96_0_2,B8 hlt];simp only[B6,C0,hlt,H3,H1,aq,B7,ab hlt,ae hlt (bc hv),VS.row,nv0,nvS,dvI,dvB,dvS,dvL,B5,P8,ih2 (i+1) (by omega)]
   by_cases hq:vs[i].1=t.s<;>simp[hq]
 have hal:∀ o:OpM,o.a.length=t.as.length->∀ n i,i+n=t.as.length->rn ⟨96,0,4⟩ [.sl (vs.map VS.row),.sl (t.as.map Tm.row),.int (t.as.length:Int),.int (i:Int),.sl so,.sl (ops.map OpM.row),.str o.n,.str o.r,.sl (o.a.map ag)]=bif bn ops vs (t.as.drop i) (o.a.drop i) then some (0,[.str o.n,.str o.r,.sl (o.a.map ag)]) else some (1,[.str e0]):=by
  intro o hlen n;induction n with
  |zero =>
   intro i hi;obtain rfl:i=t.as.length:=by omega
   rw[e96_0_4];simp only[B6,C0,D3,H4,H2,C8,bn,H1]
  |succ n ih2 =>
   intro i hi;have hlt:i<t.as.length:=by omega
   have hlo:i<o.a.length:=by omega
   have h1:=ih _ (C1 hlt) (h.sub (C1 hlt));rw[e96_0_4,B8 hlt,B8 hlo];simp only[B6,C0,hlt,H3,H1,aq,B7,ab hlt,ae hlt hlm,hlo,ab hlo,Tm.row_eq,ag,nv0,nvS,dvI,dvB,dvS,dvL,B5,ih2 (i+1) (by omega),h1,bn]
   by_cases hq:ax ops vs t.as[i]=e0
   ·simp[hq]
   ·by_cases hq2:ax ops vs t.as[i]=o.a[i]
    ·have hq3:=hq;rw[hq2] at hq3
     simp[hq2,hq3]
    ·simp[hq,hq2]
 have hv0:=hvl vs.length 0 (by omega)
 have ha0:=fun o ho=>hal o ho t.as.length 0 (by omega)
 simp only[D2,C3] at hv0 ha0;rw[e96_0_0,ck];by_cases h3:t.k=3
 ·simp[h3]
 ·by_cases h1:t.k=1
  ·rw[H6 h3,H5 h1]
   simp only[h1] at hv0;simp only[B6,hv0,h1,H3,H1];unfold rb;cases vs.find? (fun v=>decide (v.1=t.s))<;>rfl
  ·rw[H6 h3,H6 h1]
   by_cases h2:t.k=2
   ·rw[H5 h2]
    simp only[B6,h2,H3,H1,if_true,r157 so ops ho,nv0,nvS,dvI,dvB,dvS,dvL,B5];cases hf:dp ops t.s with
    |none=>rfl
    |some o =>
     by_cases hlen:o.a.length=t.as.length
     ·simp only[kj,nv0,nvS,dvI,dvB,dvS,dvL,B5,B6,hlen,H3,ha0 o hlen]
      cases bn ops vs t.as o.a<;>rfl
     ·simp only[kj,nv0,nvS,dvI,dvB,dvS,dvL,B5,B6]
      have:¬((o.a.length:Int)=(t.as.length:Int)):=by omega
      simp[this,hlen]
   ·simp[h1,h2,h3]
theorem r105(vs:List VS)(hv:vs.length<=1099511627776)(s:ByteArray):rn ⟨105,0,0⟩ [.sl (vs.map VS.row),.str s]=some (0,[.str (rb vs s)]):=by
 have hvl:∀ n i,i+n=vs.length->rn ⟨105,0,1⟩ [.sl (vs.map VS.row),.str s,.int (i:Int)]=match (vs.drop i).find? (fun v=>decide (v.1=s)) with |some v=>some (1,[.str v.2]) |none=>some (0,[]):=by
  intro n;induction n with
  |zero =>
   intro i hi;obtain rfl:i=vs.length:=by omega
   rw[e105_0_1];simp only[B6,C0,D3,H4,H2,C8,T0]
  |succ n ih2 =>
   intro i hi;have hlt:i<vs.length:=by omega
   rw[e105_0_1,B8 hlt];simp only[B6,C0,hlt,H3,H1,aq,B7,ab hlt,ae hlt (bc hv),VS.row,nv0,nvS,dvI,dvB,dvS,dvL,B5,P8,ih2 (i+1) (by omega)]
   by_cases hq:vs[i].1=s<;>simp[hq]
 have hv0:=hvl vs.length 0 (by omega)
 simp only[D2,C3] at hv0;rw[e105_0_0];rw[hv0];unfold rb;cases vs.find? (fun v=>decide (v.1=s))<;>rfl
theorem r64(so:aa)(ops:List OpM)(ho:pn ops)(vs:List VS)(hv:vs.length<=1099511627776):∀ t:Tm,Wt t->rn ⟨64,0,0⟩ [.sl so,.sl (ops.map OpM.row),.int t.k,.int t.n,.str t.s,.sl (t.as.map Tm.row),.sl (vs.map VS.row)]=some (0,[.str (ax ops vs t)]):=Tm.ind fun t ih h=>by
 have hlm:=h.l;have hal:∀ o:OpM,o.a.length=t.as.length->∀ n i,i+n=t.as.length->rn ⟨64,0,2⟩ [.sl (vs.map VS.row),.int (i:Int),.sl so,.sl (ops.map OpM.row),.int t.k,.int t.n,.str t.s,.sl (t.as.map Tm.row),.str o.n,.str o.r,.sl (o.a.map ag)]=bif bn ops vs (t.as.drop i) (o.a.drop i) then some (0,[.str o.n,.str o.r,.sl (o.a.map ag)]) else some (1,[.str e0]):=by
  intro o hlen n;induction n with
  |zero =>
   intro i hi;obtain rfl:i=t.as.length:=by omega
   rw[e64_0_2];simp only[B6,C0,D3,H4,H2,C8,bn,H1]
  |succ n ih2 =>
   intro i hi;have hlt:i<t.as.length:=by omega
   have hlo:i<o.a.length:=by omega
   have h1:=ih _ (C1 hlt) (h.sub (C1 hlt));rw[e64_0_2,B8 hlt,B8 hlo];simp only[B6,C0,hlt,H3,H1,aq,B7,ab hlt,ae hlt hlm,hlo,ab hlo,Tm.row_eq,ag,nv0,nvS,dvI,dvB,dvS,dvL,B5,ih2 (i+1) (by omega),h1,bn]
   by_cases hq2:ax ops vs t.as[i]=o.a[i]
   ·by_cases hq:o.a[i]=e0
    ·simp[hq2,hq]
    ·simp[hq2,hq]
   ·simp[hq2]
 have ha0:=fun o ho=>hal o ho t.as.length 0 (by omega)
 simp only[D2,C3] at ha0;rw[e64_0_0,ck];by_cases h3:t.k=3
 ·simp[h3]
 ·by_cases h1:t.k=1
  ·rw[H6 h3,H5 h1]
   simp only[h1,H3,H1,r105 vs hv,nv0,nvS,dvI,dvB,dvS,dvL,B5];rfl
  ·rw[H6 h3,H6 h1]
   by_cases h2:t.k=2
   ·rw[H5 h2]
    simp only[h2,H3,H1,if_true,r106 so ops ho,nv0,nvS,dvI,dvB,dvS,dvL,B5];cases hf:dp ops t.s with
    |none=>rfl
    |some o =>
     by_cases hlen:o.a.length=t.as.length
     ·have:=ha0 o hlen
      rw[h2] at this;simp only[kj,nv0,nvS,dvI,dvB,dvS,dvL,B5,B6,hlen,H3,this];cases bn ops vs t.as o.a<;>rfl
     ·simp only[kj,nv0,nvS,dvI,dvB,dvS,dvL,B5,B6]
      have:¬((o.a.length:Int)=(t.as.length:Int)):=by omega
      simp[this,hlen]
   ·simp[h1,h2,h3]
theorem aa4(so:aa)(ops:List OpM)(ho:pn ops):∀ t:Tm,∀ (x:ByteArray) (vs:List VS),Wt t->vs.length+t.nodes<=4194304->rn ⟨263,1,0⟩ [.sl so,.sl (ops.map OpM.row),.int t.k,.int t.n,.str t.s,.sl (t.as.map Tm.row),.str x,.sl (vs.map VS.row)]=some (0,Bw ops t x vs):=Tm.ind fun t ih x vs h hb=>by
 have hlm:=h.l;have hnd:=Tm.nodes_eq t;have hvl:∀ n i,i+n=vs.length->rn ⟨263,1,1⟩ [.str x,.int (vs.length:Int),.int (i:Int),.sl (vs.map VS.row),.int t.k,.int t.n,.str t.s,.sl (t.as.map Tm.row)]=match (vs.drop i).find? (fun v=>decide (v.1=t.s)) with |some v=>some (1,[.bool (decide (v.2=x)),.sl (vs.map VS.row)]) |none=>some (0,[.str x,.sl (vs.map VS.row),.int t.k,.int t.n,.str t.s,.sl (t.as.map Tm.row)]):=by
  intro n;induction n with
  |zero =>
   intro i hi;obtain rfl:i=vs.length:=by omega
   rw[e263_1_1];simp only[B6,C0,D3,H4,H2,C8,T0]
  |succ n ih2 =>
   intro i hi;have hlt:i<vs.length:=by omega
   rw[e263_1_1,B8 hlt];simp only[B6,C0,hlt,H3,H1,aq,B7,ab hlt,ae hlt (bc (by omega)),VS.row,nv0,nvS,dvI,dvB,dvS,dvL,B5,P8,ih2 (i+1) (by omega)]
   by_cases hq:vs[i].1=t.s<;>simp[hq]
 have hal:∀ (n1 n2:ByteArray) (a:List ByteArray),a.length<=1048576->∀ n i (vs:List VS),i+n=t.as.length->vs.length+((t.as.drop i).map Tm.nodes).sum<=4194304->rn ⟨263,1,3⟩ [.sl (t.as.map Tm.row),.int (t.as.length:Int),.int (i:Int),.sl (vs.map VS.row),.sl so,.sl (ops.map OpM.row),.str n1,.str n2,.sl (a.map ag)]=match fa ops (t.as.drop i) (a.drop i) vs with |some v=>some (0,[.sl (v.map VS.row)]) |none=>some (1,[.sl []]):=by
  intro n1 n2 a hal n;induction n with
  |zero =>
   intro i vs hi hb;obtain rfl:i=t.as.length:=by omega
   rw[e263_1_3];simp only[B6,C0,D3,H4,H2,C8,fa]
  |succ n ih2 =>
   intro i vs hi hb;have hlt:i<t.as.length:=by omega
   have hmem:=C1 hlt;rw[B8 hlt] at hb ⊢;simp only[C4,K1] at hb;rw[e263_1_3];by_cases hla:i<a.length
   ·have h1:=ih _ hmem a[i] vs (h.sub hmem) (by omega)
    rw[B8 hla];simp only[B6,C0,hlt,H3,H1,aq,B7,ab hlt,ae hlt hlm,hla,ab hla,Tm.row_eq,ag,nv0,nvS,dvI,dvB,dvS,dvL,B5,h1,fa,Bw];cases hq:gy ops t.as[i] a[i] vs with
    |none=>rfl
    |some v =>
     have hv:=kk ops _ _ _ _ hq;have h2:=ih2 (i+1) v (by omega) (by omega)
     simp only[nv0,nvS,dvI,dvB,dvS,dvL,B5,h2,D4,H2]
   ·have h1:=ih _ hmem e0 vs (h.sub hmem) (by omega)
    rw[show a.drop i=[] from O7 (by omega)]
    simp only[B6,C0,hlt,H3,H1,aq,B7,ab hlt,ae hlt hlm,hla,H4,H2,Tm.row_eq,ag,nv0,nvS,dvI,dvB,dvS,dvL,B5,h1,fa,Bw];cases hq:gy ops t.as[i] e0 vs with
    |none=>rfl
    |some v =>
     have hv:=kk ops _ _ _ _ hq;have h2:=ih2 (i+1) v (by omega) (by omega)
     rw[show a.drop (i+1)=[] from O7 (by omega)] at h2
     simp only[nv0,nvS,dvI,dvB,dvS,dvL,B5,h2,D4,H2]
 have hv0:=hvl vs.length 0 (by omega)
 have ha0:=fun n1 n2 a ha=>hal n1 n2 a ha t.as.length 0 vs (by omega) (by rw[D2];omega)
 simp only[D2,C3] at hv0 ha0;rw[e263_1_0];unfold Bw;rw[kz];by_cases h1:t.k=1
 ·rw[H5 h1,H5 h1]
  simp only[h1] at hv0;have hb2:F5 (vs.length+1) M63=true:=nb (by omega)
  simp only[B6,h1,H3,H1,hv0];cases hq:vs.find? (fun v=>decide (v.1=t.s)) with
  |none=>simp only[nv0,nvS,dvI,dvB,dvS,dvL,B5,D7,H1,H2,B6,C2,C5,D0,hb2,D5];rfl
  |some v =>
   simp only[nv0,nvS,dvI,dvB,dvS,dvL,B5,D7,H1,H2,show E9 1 0=false from rfl]
   by_cases hq2:v.2=x<;>simp[hq2]
 ·rw[H6 h1,H6 h1]
  by_cases h2:t.k=2
  ·simp only[B6,h2,H3,H1,if_true,r157 so ops ho,nv0,nvS,dvI,dvB,dvS,dvL,B5]
   cases hf:dp ops t.s with
   |none =>
    simp only[kj,nv0,nvS,dvI,dvB,dvS,dvL,B5];rw[show([]:aa)=([]:List ByteArray).map ag from rfl,ha0 e0 e0 [] (by simp)]
    cases fa ops t.as [] vs<;>rfl
   |some o =>
    have hok:o.ok:=Ai ho.a hf;simp only[kj,nv0,nvS,dvI,dvB,dvS,dvL,B5];rw[ha0 o.n o.r o.a hok];cases fa ops t.as o.a vs<;>rfl
  ·simp only[B6,h1,h2,H4,H2,if_false]
   rw[show([]:aa)=([]:List ByteArray).map ag from rfl,ha0 e0 e0 [] (by simp)]
   cases fa ops t.as [] vs<;>rfl
theorem aa5(so:aa)(ops:List OpM)(ho:pn ops):∀ t:Tm,∀ (x:ByteArray) (vs:List VS),Wt t->vs.length+t.nodes<=4194304->rn ⟨252,1,0⟩ [.sl so,.sl (ops.map OpM.row),.int t.k,.int t.n,.str t.s,.sl (t.as.map Tm.row),.str x,.sl (vs.map VS.row)]=some (0,Bw ops t x vs):=Tm.ind fun t ih x vs h hb=>by
 have hlm:=h.l;have hnd:=Tm.nodes_eq t;have hvl:∀ n i,i+n=vs.length->rn ⟨252,1,1⟩ [.str x,.int (i:Int),.sl (vs.map VS.row),.int t.k,.int t.n,.str t.s,.sl (t.as.map Tm.row)]=match (vs.drop i).find? (fun v=>decide (v.1=t.s)) with |some v=>some (1,[.bool (decide (v.2=x)),.sl (vs.map VS.row)]) |none=>some (0,[.str x,.sl (vs.map VS.row),.int t.k,.int t.n,.str t.s,.sl (t.as.map Tm.row)]):=by
  intro n;induction n with
  |zero =>
   intro i hi;obtain rfl:i=vs.length:=by omega
   rw[e252_1_1];simp only[B6,C0,D3,H4,H2,C8,T0]
  |succ n ih2 =>
   intro i hi;have hlt:i<vs.length:=by omega
   rw[e252_1_1,B8 hlt];simp only[B6,C0,hlt,H3,H1,aq,B7,ab hlt,ae hlt (bc (by omega)),VS.row,nv0,nvS,dvI,dvB,dvS,dvL,B5,P8,ih2 (i+1) (by omega)]
   by_cases hq:vs[i].1=t.s<;>simp[hq]
 have hal:∀ (n1 n2:ByteArray) (a:List ByteArray),a.length<=1048576->∀ n i (vs:List VS),i+n=t.as.length->vs.length+((t.as.drop i).map Tm.nodes).sum<=4194304->rn ⟨252,1,3⟩ [.int (i:Int),.sl (vs.map VS.row),.sl so,.sl (ops.map OpM.row),.int t.k,.int t.n,.str t.s,.sl (t.as.map Tm.row),.str n1,.str n2,.sl (a.map ag)]=match fa ops (t.as.drop i) (a.drop i) vs with |some v=>some (0,[.sl (v.map VS.row)]) |none=>some (1,[.sl []]):=by
  intro n1 n2 a hal n;induction n with
  |zero =>
   intro i vs hi hb;obtain rfl:i=t.as.length:=by omega
   rw[e252_1_3];simp only[B6,C0,D3,H4,H2,C8,fa]
  |succ n ih2 =>
   intro i vs hi hb;have hlt:i<t.as.length:=by omega
   have hmem:=C1 hlt;rw[B8 hlt] at hb ⊢;simp only[C4,K1] at hb;rw[e252_1_3];by_cases hla:i<a.length
   ·have h1:=ih _ hmem a[i] vs (h.sub hmem) (by omega)
    rw[B8 hla];simp only[B6,C0,hlt,H3,H1,aq,B7,ab hlt,ae hlt hlm,hla,ab hla,Tm.row_eq,ag,nv0,nvS,dvI,dvB,dvS,dvL,B5,h1,fa,Bw];cases hq:gy ops t.as[i] a[i] vs with
    |none=>rfl
    |some v =>
     have hv:=kk ops _ _ _ _ hq;have h2:=ih2 (i+1) v (by omega) (by omega)
     simp only[nv0,nvS,dvI,dvB,dvS,dvL,B5,h2,D4,H2]
   ·have h1:=ih _ hmem e0 vs (h.sub hmem) (by omega)
    rw[show a.drop i=[] from O7 (by omega)]
    simp only[B6,C0,hlt,H3,H1,aq,B7,ab hlt,ae hlt hlm,hla,H4,H2,Tm.row_eq,ag,nv0,nvS,dvI,dvB,dvS,dvL,B5,h1,fa,Bw];cases hq:gy ops t.as[i] e0 vs with
    |none=>rfl
    |some v =>
     have hv:=kk ops _ _ _ _ hq;have h2:=ih2 (i+1) v (by omega) (by omega)
     rw[show a.drop (i+1)=[] from O7 (by omega)] at h2
     simp only[nv0,nvS,dvI,dvB,dvS,dvL,B5,h2,D4,H2]
 have hv0:=hvl vs.length 0 (by omega)
 have ha0:=fun n1 n2 a ha=>hal n1 n2 a ha t.as.length 0 vs (by omega) (by rw[D2];omega)
 simp only[D2,C3] at hv0 ha0;rw[e252_1_0];unfold Bw;rw[kz];by_cases h1:t.k=1
 ·rw[H5 h1,H5 h1]
  simp only[h1] at hv0;have hb2:F5 (vs.length+1) M63=true:=nb (by omega)
  simp only[B6,h1,H3,H1,hv0];cases hq:vs.find? (fun v=>decide (v.1=t.s)) with
  |none=>simp only[nv0,nvS,dvI,dvB,dvS,dvL,B5,D7,H1,H2,B6,C2,C5,D0,hb2,D5];rfl
  |some v =>
   simp only[nv0,nvS,dvI,dvB,dvS,dvL,B5,D7,H1,H2,show E9 1 0=false from rfl]
   by_cases hq2:v.2=x<;>simp[hq2]
 ·rw[H6 h1,H6 h1]
  by_cases h2:t.k=2
  ·simp only[h2] at ha0
   simp only[B6,h2,H3,H1,if_true,r106 so ops ho,nv0,nvS,dvI,dvB,dvS,dvL,B5];cases hf:dp ops t.s with
   |none =>
    simp only[kj,nv0,nvS,dvI,dvB,dvS,dvL,B5];rw[show([]:aa)=([]:List ByteArray).map ag from rfl,ha0 e0 e0 [] (by simp)]
    cases fa ops t.as [] vs<;>rfl
   |some o =>
    have hok:o.ok:=Ai ho.a hf;simp only[kj,nv0,nvS,dvI,dvB,dvS,dvL,B5];rw[ha0 o.n o.r o.a hok];cases fa ops t.as o.a vs<;>rfl
  ·simp only[B6,h1,h2,H4,H2,if_false]
   rw[show([]:aa)=([]:List ByteArray).map ag from rfl,ha0 e0 e0 [] (by simp)]
   cases fa ops t.as [] vs<;>rfl
theorem r247(so:aa)(ops:List OpM)(ho:pn ops)(t:Tm)(h:Wt t)(hn:t.nodes<=1048577)(x:ByteArray):rn ⟨247,0,0⟩ [.sl so,.sl (ops.map OpM.row),.int t.k,.int t.n,.str t.s,.sl (t.as.map Tm.row),.str x]=some (0,uq (po ops t x)):=by
 have h1:=aa4 so ops ho t x [] h (by simp;omega)
 rw[D1] at h1;rw[e247_0_0,h1];unfold Bw po;cases hq:gy ops t x [] with
 |none=>rfl
 |some vs =>
  have hv:=kk ops _ _ _ _ hq;rw[C5] at hv;have h2:=r96 so ops ho vs (by omega) t h
  simp only[nv0,nvS,dvI,dvB,dvS,dvL,B5,h2];by_cases hx:x=e0
  ·simp[hx,uq]
  ·by_cases hs:ax ops vs t=x<;>simp[hx,hs,uq]
theorem r224(so:aa)(ops:List OpM)(ho:pn ops)(t:Tm)(h:Wt t)(hn:t.nodes<=1048577)(x:ByteArray):rn ⟨224,0,0⟩ [.sl so,.sl (ops.map OpM.row),.int t.k,.int t.n,.str t.s,.sl (t.as.map Tm.row),.str x]=some (0,uq (po ops t x)):=by
 have h1:=aa5 so ops ho t x [] h (by simp;omega)
 rw[D1] at h1;rw[e224_0_0,h1];unfold Bw po;cases hq:gy ops t x [] with
 |none=>rfl
 |some vs =>
  have hv:=kk ops _ _ _ _ hq;rw[C5] at hv;have h2:=r64 so ops ho vs (by omega) t h
  simp only[nv0,nvS,dvI,dvB,dvS,dvL,B5,h2];by_cases hx:x=e0
  ·simp[hx,uq]
  ·by_cases hs:ax ops vs t=x<;>simp[hx,hs,uq]
def Fy(so:List ByteArray)(o:OpM):Bool:=kh o.n&&(!isB o.n&&(decide (o.a.length<=3)&&(o.a.all (fun x=>decide (x=cw)||jk so x)&&(decide (o.r=cw)||jk so o.r))))
theorem Js(so:List ByteArray)(ops:List OpM):Aj so ops=(decide (so.length<=4)&&(dis so&&(decide (ops.length<=16)&&((so.all fun x=>kh x&&!decide (x=cw))&&(ops.all (Fy so)&&dis (ops.map (·.n))))))):=rfl
theorem r211(so:List ByteArray)(hso:so.length<=1048576)(hss:∀ x∈so,x.size<=maxLen)(ops:List OpM)(ho:pn ops)(hon:∀ o∈ops,o.n.size<=maxLen):rn ⟨211,0,0⟩ [.sl (so.map ag),.sl (ops.map OpM.row)]=some (0,[.bool (Aj so ops)]):=by
 have hm:=ho.l;have hl1:∀ n i,i+n=so.length->rn ⟨211,0,1⟩ [.sl (so.map ag),.int (so.length:Int),.int (i:Int),.sl (so.map ag),.sl (ops.map OpM.row)]=bif (so.drop i).all (fun x=>kh x&&!decide (x=cw)) then some (0,[.sl (so.map ag),.sl (ops.map OpM.row)]) else some (1,[]):=by
  intro n;induction n with
  |zero =>
   intro i hi;obtain rfl:i=so.length:=by omega
   rw[e211_0_1];simp only[B6,C0,D3,H4,H2,C8,K5,H1]
  |succ n ih =>
   intro i hi;have hlt:i<so.length:=by omega
   rw[e211_0_1,B8 hlt];have h1:=r244 so[i] (hss _ (C1 hlt));simp only[B6,C0,hlt,H3,H1,aq,B7,ab hlt,ae hlt (bc (by omega)),ag,nv0,nvS,dvI,dvB,dvS,dvL,B5,h1,ih (i+1) (by omega),J1]
   cases kh so[i]
   ·rfl
   ·by_cases hq:so[i]=cw<;>simp[hq]
 have hl5:∀ (o:OpM),o.a.length<=1048576->∀ (x0:aa) (x1 x2:Int) (x3:ByteArray) (x4:Bool) (x5:aa) (x6:Int) (x7:Bool) (x11 x12:aa) (x13:ByteArray) (x14:aa) (x15:ByteArray),∀ n i,i+n=(o.a++[o.r]).length->rn ⟨211,0,5⟩ [.sl x0,.int x1,.int x2,.str x3,.bool x4,.sl x5,.int x6,.bool x7,.int ((o.a++[o.r]).length:Int),.int (i:Int),.sl (so.map ag),.sl x11,.sl x12,.str x13,.sl x14,.str x15,.sl ((o.a++[o.r]).map ag)]=bif ((o.a++[o.r]).drop i).all (fun x=>decide (x=cw)||jk so x) then some (0,[.sl x0,.int x1,.int x2,.str x3,.bool x4,.sl x5,.int x6,.bool x7,.sl (so.map ag),.sl x11,.sl x12,.str x13,.sl x14,.str x15]) else some (1,[]):=by
  intro o hoa x0 x1 x2 x3 x4 x5 x6 x7 x11 x12 x13 x14 x15;have hL:(o.a++[o.r]).length<=1048577:=by simp;omega
  generalize o.a++[o.r]=l at hL ⊢;intro n;induction n with
  |zero =>
   intro i hi;obtain rfl:i=l.length:=by omega
   rw[e211_0_5];simp only[B6,C0,D3,H4,H2,C8,K5,H1]
  |succ n ih =>
   intro i hi;have hlt:i<l.length:=by omega
   rw[e211_0_5,B8 hlt];have h1:=Tj so (bc (by omega)) l[i]
   simp only[B6,C0,hlt,H3,H1,aq,B7,ab hlt,ae hlt (bc (by omega)),ag,nv0,nvS,dvI,dvB,dvS,dvL,B5,h1,ih (i+1) (by omega),J1]
   by_cases hq:l[i]=cw
   ·simp[hq]
   ·cases jk so l[i]<;>simp[hq]
 have hl3:∀ n i (acc:List ByteArray),i+n=ops.length->acc.length<=i->rn ⟨211,0,3⟩ [.sl (ops.map OpM.row),.int (ops.length:Int),.int (i:Int),.sl (so.map ag),.sl (ops.map OpM.row),.sl (acc.map ag)]=bif (ops.drop i).all (Fy so) then some (0,[.sl ((acc++(ops.drop i).map (·.n)).map ag)]) else some (1,[]):=by
  intro n;induction n with
  |zero =>
   intro i acc hi ha;obtain rfl:i=ops.length:=by omega
   rw[e211_0_3];simp only[B6,C0,D3,H4,H2,C8,K5,H1,D1,G8]
  |succ n ih =>
   intro i acc hi ha;have hlt:i<ops.length:=by omega
   have hmem:=C1 hlt;rw[e211_0_3,B8 hlt];have h1:=r244 ops[i].n (hon _ hmem);have hoa:ops[i].a.length<=1048576:=ho.a _ hmem;have h2:=yw (ops[i].a.map ag) (by rw[B6];omega)
   have hb:F5 (ops[i].a.length+1) M63=true:=nb (by omega)
   have hb2:F5 (acc.length+1) M63=true:=nb (by omega)
   have h5:=fun x0 x1 x2 x3 x4 x5 x6 x7 x11 x12 x13 x14 x15=>hl5 ops[i] hoa x0 x1 x2 x3 x4 x5 x6 x7 x11 x12 x13 x14 x15 (ops[i].a++[ops[i].r]).length 0 (by omega)
   simp only[D2,C3,E6,C2,C5,D0,D5,C4,D1,ag] at h5;have h6:=ih (i+1) (acc++[ops[i].n]) (by omega) (by simp;omega)
   simp only[D5,C4,D1,ag] at h6;simp only[B6,C0,hlt,H3,H1,aq,B7,ab hlt,ae hlt (bc (by omega)),OpM.row,nv0,nvS,dvI,dvB,dvS,dvL,B5,h1,r181,h2,C2,C5,D0,hb,E6,J1]
   rw[show Fy so ops[i]=(kh ops[i].n&&(!isB ops[i].n&&(decide (ops[i].a.length<=3)&&(ops[i].a.all (fun x=>decide (x=cw)||jk so x)&&(decide (ops[i].r=cw)||jk so ops[i].r))))) from rfl]
   cases kh ops[i].n
   ·rfl
   ·cases isB ops[i].n
    ·by_cases h3:ops[i].a.length<=3
     ·have h3':¬((3:Int)<(ops[i].a.length:Int)):=by omega
      simp only[h3,h3',H3,H4,H1,H2,D4,J6,E4];rw[h5,List.all_append];simp only[J1,K5,K8];cases (ops[i].a.all (fun x=>decide (x=cw)||jk so x)&&(decide (ops[i].r=cw)||jk so ops[i].r)) with
      |false=>rfl
      |true =>
       simp only[H1,nv0,nvS,dvI,dvB,dvS,dvL,B5,D7,H1,H2,B6,hb2,ae hlt (bc (by omega)),h6,E4]
       simp only[D5,C4,E2,F4,D8,ag]
     ·have h3':((3:Int)<(ops[i].a.length:Int)):=by omega
      simp[h3,h3']
    ·rfl
 have h1:=hl1 so.length 0 (by omega)
 have h3:=hl3 ops.length 0 [] (by omega) (J0 _)
 simp only[D2,C3,D1,D8] at h1 h3;have hd:=r153 so (by omega)
 have hd2:=r153 (ops.map (·.n)) (by rw[B6];omega)
 rw[e211_0_0,Js];simp only[B6,hd,nv0,nvS,dvI,dvB,dvS,dvL,B5];by_cases hs:so.length<=4
 ·have hs':¬((4:Int)<(so.length:Int)):=by omega
  simp only[hs,hs',H3,H4,H2,E4];cases dis so
  ·rfl
  ·by_cases hs2:ops.length<=16
   ·have hs2':¬((16:Int)<(ops.length:Int)):=by omega
    simp only[hs2,hs2',H3,H4,H2,E4,D4,h1];cases so.all (fun x=>kh x&&!decide (x=cw))
    ·rfl
    ·simp only[H1,nv0,nvS,dvI,dvB,dvS,dvL,B5,D7,H1,H2,B6,h3,E4]
     cases ops.all (Fy so)
     ·rfl
     ·simp only[H1,nv0,nvS,dvI,dvB,dvS,dvL,B5,D7,H1,H2,hd2,E4]
   ·have hs2':((16:Int)<(ops.length:Int)):=by omega
    simp[hs2,hs2']
 ·have hs':((4:Int)<(so.length:Int)):=by omega
  simp[hs,hs']
theorem r253(so:List ByteArray)(hso:so.length<=1048576)(ops:aa)(x:ByteArray):rn ⟨253,0,0⟩ [.sl (so.map ag),.sl ops,.str x]=some (0,[.bool (decide (x=cw)||jk so x)]):=by
 have h1:=r167 so (bc (by omega)) x
 rw[e253_0_0];simp only[h1,nv0,nvS,dvI,dvB,dvS,dvL,B5,Fw];by_cases hq:x=cw<;>simp[hq]
theorem r225(so:List ByteArray)(hso:so.length<=1048576)(ops:aa)(o:OpM)(hoa:o.a.length<=1048576)(hon:o.n.size<=maxLen):rn ⟨225,0,0⟩ [.sl (so.map ag),.sl ops,.str o.n,.sl (o.a.map ag),.str o.r]=some (0,[.bool (Fy so o)]):=by
 have hl:∀ n i,i+n=o.a.length->rn ⟨225,0,1⟩ [.int (i:Int),.sl (so.map ag),.sl ops,.str o.n,.sl (o.a.map ag),.str o.r]=bif (o.a.drop i).all (fun x=>decide (x=cw)||jk so x) then some (0,[.sl (so.map ag),.sl ops,.str o.n,.sl (o.a.map ag),.str o.r]) else some (1,[]):=by
  intro n;induction n with
  |zero =>
   intro i hi;obtain rfl:i=o.a.length:=by omega
   rw[e225_0_1];simp only[B6,C0,D3,H4,H2,C8,K5,H1]
  |succ n ih =>
   intro i hi;have hlt:i<o.a.length:=by omega
   rw[e225_0_1,B8 hlt];have h1:=r253 so hso ops o.a[i];simp only[B6,C0,hlt,H3,H1,aq,B7,ab hlt,ae hlt (bc (by omega)),ag,nv0,nvS,dvI,dvB,dvS,dvL,B5,h1,ih (i+1) (by omega),J1]
   cases (decide (o.a[i]=cw)||jk so o.a[i])<;>rfl
 have h:=hl o.a.length 0 (by omega)
 simp only[D2,C3] at h;have hn:=r222 o.n hon;rw[e225_0_0,h];unfold Fy;cases (o.a.all fun x=>decide (x=cw)||jk so x) with
 |false=>cases kh o.n<;>cases isB o.n<;>cases decide (o.a.length<=3)<;>rfl
 |true =>
  have i3:((o.a.length:Int)<=3)↔o.a.length<=3:=by omega
  simp only[H1,nv0,nvS,dvI,dvB,dvS,dvL,B5,D7,H1,H2,hn,r111,r253 so hso ops,B6,i3,E4];cases kh o.n<;>cases isB o.n<;>cases decide (o.a.length<=3)<;>rfl
theorem r160(so:List ByteArray)(hso:so.length<=1048576)(hss:∀ x∈so,x.size<=maxLen)(ops:List OpM)(ho:pn ops)(hon:∀ o∈ops,o.n.size<=maxLen):rn ⟨160,0,0⟩ [.sl (so.map ag),.sl (ops.map OpM.row)]=some (0,[.bool (Aj so ops)]):=by
 have hm:=ho.l;have hl1:∀ n i,i+n=so.length->rn ⟨160,0,1⟩ [.int (i:Int),.sl (so.map ag),.sl (ops.map OpM.row),.sl []]=bif (so.drop i).all (fun x=>kh x&&!decide (x=cw)) then some (0,[.sl (so.map ag),.sl (ops.map OpM.row),.sl []]) else some (1,[]):=by
  intro n;induction n with
  |zero =>
   intro i hi;obtain rfl:i=so.length:=by omega
   rw[e160_0_1];simp only[B6,C0,D3,H4,H2,C8,K5,H1]
  |succ n ih =>
   intro i hi;have hlt:i<so.length:=by omega
   rw[e160_0_1,B8 hlt];have h1:=r222 so[i] (hss _ (C1 hlt));simp only[B6,C0,hlt,H3,H1,aq,B7,ab hlt,ae hlt (bc (by omega)),ag,nv0,nvS,dvI,dvB,dvS,dvL,B5,h1,ih (i+1) (by omega),J1]
   cases kh so[i]
   ·rfl
   ·by_cases hq:so[i]=cw<;>simp[hq]
 have hl3:∀ n i (acc:List ByteArray),i+n=ops.length->acc.length<=i->rn ⟨160,0,3⟩ [.int (i:Int),.sl (so.map ag),.sl (ops.map OpM.row),.sl (acc.map ag)]=bif (ops.drop i).all (Fy so) then some (0,[.sl (so.map ag),.sl (ops.map OpM.row),.sl ((acc++(ops.drop i).map (·.n)).map ag)]) else some (1,[]):=by
  intro n;induction n with
  |zero =>
   intro i acc hi ha;obtain rfl:i=ops.length:=by omega
   rw[e160_0_3];simp only[B6,C0,D3,H4,H2,C8,K5,H1,D1,G8]
  |succ n ih =>
   intro i acc hi ha;have hlt:i<ops.length:=by omega
   have hmem:=C1 hlt;rw[e160_0_3,B8 hlt];have h1:=r225 so hso (ops.map OpM.row) ops[i] (ho.a _ hmem) (hon _ hmem);have hb2:F5 (acc.length+1) M63=true:=nb (by omega)
   have h6:=ih (i+1) (acc++[ops[i].n]) (by omega) (by simp;omega)
   simp only[D5,C4,D1,ag] at h6;simp only[B6,C0,hlt,H3,H1,aq,B7,ab hlt,ae hlt (bc (by omega)),OpM.row,nv0,nvS,dvI,dvB,dvS,dvL,B5,h1,C2,C5,D0,hb2,h6,J1]
   cases Fy so ops[i] with
   |false=>rfl
   |true=>simp only[D5,C4,E2,F4,D8,ag,D4,H2,H1,E4]
 have h1:=hl1 so.length 0 (by omega)
 have h3:=hl3 ops.length 0 [] (by omega) (J0 _)
 simp only[D2,C3,D1,D8] at h1 h3;have hd:=r161 so (bc (by omega))
 have hd2:=r161 (ops.map (·.n)) (by rw[B6];exact bc (by omega))
 rw[e160_0_0,Js,h1];have i1:((so.length:Int)<=4)↔so.length<=4:=by omega
 have i2:((ops.length:Int)<=16)↔ops.length<=16:=by omega
 cases so.all (fun x=>kh x&&!decide (x=cw)) with
 |false=>cases decide (so.length<=4)<;>cases dis so<;>cases decide (ops.length<=16)<;>rfl
 |true =>
  simp only[H1,nv0,nvS,dvI,dvB,dvS,dvL,B5,D7,H1,H2,h3,E4];cases ops.all (Fy so) with
  |false=>cases decide (so.length<=4)<;>cases dis so<;>cases decide (ops.length<=16)<;>rfl
  |true =>
   simp only[H1,nv0,nvS,dvI,dvB,dvS,dvL,B5,D7,H1,H2,B6,hd,hd2,i1,i2,E4];cases decide (so.length<=4)<;>cases dis so<;>cases decide (ops.length<=16)<;>rfl
theorem r246:∀ t:Tm,Wt t->rn ⟨246,0,0⟩ [.int t.k,.int t.n,.str t.s,.sl (t.as.map Tm.row)]=some (0,[.bool (re t)]):=Tm.ind fun t ih h=>by
 have hlm:=h.l;have hl:∀ n i,i+n=t.as.length->rn ⟨246,0,1⟩ [.sl (t.as.map Tm.row),.int (t.as.length:Int),.int (i:Int)]=bif km (t.as.drop i) then some (0,[]) else some (1,[]):=by
  intro n;induction n with
  |zero =>
   intro i hi;obtain rfl:i=t.as.length:=by omega
   rw[e246_0_1];simp only[B6,C0,D3,H4,H2,C8,km,H1]
  |succ n ih2 =>
   intro i hi;have hlt:i<t.as.length:=by omega
   rw[e246_0_1,B8 hlt];have h1:=ih _ (C1 hlt) (h.sub (C1 hlt));simp only[B6,C0,hlt,H3,H1,aq,B7,ab hlt,ae hlt hlm,Tm.row_eq,nv0,nvS,dvI,dvB,dvS,dvL,B5,h1,ih2 (i+1) (by omega),km]
   cases re t.as[i]<;>simp
 have h0:=hl t.as.length 0 (by omega)
 simp only[D2,C3] at h0;rw[e246_0_0,Ih];simp only[B6,h0,r181,nv0,nvS,dvI,dvB,dvS,dvL,B5];by_cases h2:t.k=2<;>cases isB t.s<;>cases km t.as<;>simp[h2]<;>rfl
theorem r223:∀ t:Tm,Wt t->rn ⟨223,0,0⟩ [.int t.k,.int t.n,.str t.s,.sl (t.as.map Tm.row)]=some (0,[.bool (!re t)]):=Tm.ind fun t ih h=>by
 have hlm:=h.l;have hl:∀ n i,i+n=t.as.length->rn ⟨223,0,1⟩ [.int (i:Int),.int t.k,.int t.n,.str t.s,.sl (t.as.map Tm.row)]=bif km (t.as.drop i) then some (0,[.int t.k,.int t.n,.str t.s,.sl (t.as.map Tm.row)]) else some (1,[]):=by
  intro n;induction n with
  |zero =>
   intro i hi;obtain rfl:i=t.as.length:=by omega
   rw[e223_0_1];simp only[B6,C0,D3,H4,H2,C8,km,H1]
  |succ n ih2 =>
   intro i hi;have hlt:i<t.as.length:=by omega
   rw[e223_0_1,B8 hlt];have h1:=ih _ (C1 hlt) (h.sub (C1 hlt));simp only[B6,C0,hlt,H3,H1,aq,B7,ab hlt,ae hlt hlm,Tm.row_eq,nv0,nvS,dvI,dvB,dvS,dvL,B5,h1,ih2 (i+1) (by omega),km]
   cases re t.as[i]<;>simp
 have h0:=hl t.as.length 0 (by omega)
 simp only[D2,C3] at h0;rw[e223_0_0,Ih,h0];cases km t.as with
 |false=>cases (!(decide (t.k=2)&&isB t.s))<;>rfl
 |true =>
  simp only[H1,nv0,nvS,dvI,dvB,dvS,dvL,B5,D7,H1,H2,r111];by_cases h2:t.k=2<;>cases isB t.s<;>simp[h2]
theorem r156(t:Tm)(h:t.nodes<=1048577)(ns:List ByteArray)(hn:ns.length<=maxLen):rn ⟨156,0,0⟩ [.int t.k,.int t.n,.str t.s,.sl (t.as.map Tm.row),.sl (ns.map ag)]=some (0,[.bool (fo t ns)]):=by
 have h1:=r220 t h;have h2:=r219 t.names ns (by have:=bq t;omega) hn
 rw[e156_0_0];simp only[h1,nv0,nvS,dvI,dvB,dvS,dvL,B5,h2,B6];have h3:=Kx t.names ns;have i1:(((wo t.names ns).length:Int)=0)↔(wo t.names ns).length=0:=by omega
 simp only[i1];rw[h3];rfl
theorem r102(t:Tm)(h:t.nodes<=1048577):rn ⟨102,0,0⟩ [.int t.k,.int t.n,.str t.s,.sl (t.as.map Tm.row)]=some (0,[.sl ((bw t.names).map ag)]):=by
 have hn:=bq t;have h1:=r169 t [] h (by simp;omega)
 have h2:=r168 t.names (by omega)
 rw[e102_0_0];rw[D8] at h1;simp only[h1,nv0,nvS,dvI,dvB,dvS,dvL,B5,h2]
theorem r158(k:Int):rn ⟨158,0,0⟩ [.int k]=some (0,[.bool (decide (1<=k)&&decide (k<=3))]):=by
 rw[e158_0_0];cases decide (1<=k)<;>rfl
theorem r97(so:aa)(ops:List OpM)(ho:pn ops)(vs:List VS)(hv:vs.length<=1099511627776)(ns:List ByteArray)(hn:ns.length<=maxLen)(hvn:∀ v∈vs,v.1∈ns)(gs:List Gu)(hg:gs.length<=1048576)(hgb:∀ g∈gs,GuB g):rn ⟨97,0,0⟩ [.sl so,.sl (ops.map OpM.row),.sl (gs.map Gu.row),.sl (vs.map VS.row),.sl (ns.map ag)]=some (0,[.bool (xv ops vs gs)]):=by
 have hl:∀ n i,i+n=gs.length->rn ⟨97,0,1⟩ [.sl (gs.map Gu.row),.sl (vs.map VS.row),.sl (ns.map ag),.sl (gs.map Gu.row),.int (gs.length:Int),.int (i:Int),.sl so,.sl (ops.map OpM.row)]=bif (gs.drop i).all (qu ops vs) then some (0,[.sl (gs.map Gu.row)]) else some (1,[]):=by
  intro n;induction n with
  |zero =>
   intro i hi;obtain rfl:i=gs.length:=by omega
   rw[e97_0_1];simp only[B6,C0,D3,H4,H2,C8,K5,H1]
  |succ n ih =>
   intro i hi;have hlt:i<gs.length:=by omega
   rw[e97_0_1,B8 hlt];have hb:=hgb _ (C1 hlt);have hw:qu ops vs gs[i]=true->_:=fun h=>Ij hvn h
   have h1:=r155 gs[i].l (G7 hb.ln (by decide)) hb.wl
   have h2:=r155 gs[i].r (G7 hb.rn (by decide)) hb.wr
   have h3:=r156 gs[i].l hb.ln ns hn;have h4:=r156 gs[i].r hb.rn ns hn;have h5:=r96 so ops ho vs hv gs[i].l hb.wl;have h6:=r96 so ops ho vs hv gs[i].r hb.wr;simp only[B6,C0,hlt,H3,H1,aq,B7,ab hlt,ae hlt (bc (by omega)),Gu.row,nv0,nvS,dvI,dvB,dvS,dvL,B5,h1,h2,h3,h4,h5,h6,r158,ih (i+1) (by omega),J1]
   unfold qu at hw ⊢;generalize (decide (1<=gs[i].k)&&decide (gs[i].k<=3))=bk at hw ⊢;generalize gs[i].l.valid=b1 at hw ⊢;generalize gs[i].r.valid=b2 at hw ⊢;generalize fo gs[i].l ns=w1 at hw ⊢;generalize fo gs[i].r ns=w2 at hw ⊢;generalize ax ops vs gs[i].l=s1 at hw ⊢;generalize ax ops vs gs[i].r=s2 at hw ⊢;cases bk
   ·rfl
   ·cases b1
    ·rfl
    ·cases b2
     ·rfl
     ·by_cases q1:s1=e0
      ·cases w1<;>cases w2<;>simp[q1]
      ·by_cases q2:s1=s2
       ·by_cases q3:gs[i].k=3
        ·by_cases q4:s1=cw
         ·have:=hw (by simp[q1,<-q2,q3,q4])
          simp[this.1,this.2,q1,<-q2,q3,q4]
         ·cases w1<;>cases w2<;>simp[q1,<-q2,q3,q4]
        ·have:=hw (by simp[q1,<-q2,q3])
         simp[this.1,this.2,q1,<-q2,q3]
       ·cases w1<;>cases w2<;>simp[q1,q2]
 have h0:=hl gs.length 0 (by omega)
 simp only[D2,C3] at h0;rw[e97_0_0];simp only[B6,h0,xv];cases gs.all (qu ops vs) with
 |false=>rfl
 |true =>
  have i1:((gs.length:Int)<=2)↔gs.length<=2:=by omega
  simp only[H1,nv0,nvS,dvI,dvB,dvS,dvL,B5,D7,H1,H2,B6,i1,E4]
theorem r104(k:Int):∃ s,rn ⟨104,0,0⟩ [.int k]=some (0,[.str s])/\decide (s=e0)=!(decide (1<=k)&&decide (k<=3)):=by
 rw[e104_0_0];simp only[rIn,nv0,nvS,dvI,dvB,dvS,dvL,B5];by_cases h1:1<=k
 ·by_cases h2:k<=3
  ·obtain h |h |h:k=1\/k=2\/k=3:=by omega
   all_goals subst h;exact⟨_,rfl,by decide⟩
  ·refine⟨e0,by simp[h1,h2],by simp[h1,h2]⟩
 ·refine⟨e0,by simp[h1],by simp[h1]⟩
theorem r63(so:aa)(ops:List OpM)(ho:pn ops)(vs:List VS)(hv:vs.length<=1099511627776)(g:Gu)(hb:GuB g):rn ⟨63,0,0⟩ [.sl so,.sl (ops.map OpM.row),.int g.k,.int (g.l).k,.int (g.l).n,.str (g.l).s,.sl ((g.l).as.map Tm.row),.int (g.r).k,.int (g.r).n,.str (g.r).s,.sl ((g.r).as.map Tm.row),.sl (vs.map VS.row)]=some (0,[.bool (qu ops vs g)]):=by
 have h1:=r100 g.l (G7 hb.ln (by decide)) hb.wl
 have h2:=r100 g.r (G7 hb.rn (by decide)) hb.wr
 have h5:=r64 so ops ho vs hv g.l hb.wl;have h6:=r64 so ops ho vs hv g.r hb.wr;obtain⟨s,h7,h8⟩:=r104 g.k;rw[e63_0_0];simp only[nv0,nvS,dvI,dvB,dvS,dvL,B5,h1,h2,h5,h6,h7,h8];unfold qu;generalize ax ops vs g.l=s1;generalize ax ops vs g.r=s2;cases (decide (1<=g.k)&&decide (g.k<=3))<;>cases g.l.valid<;>cases g.r.valid<;>try rfl
 by_cases q1:s1=e0
 ·simp[q1]
 ·by_cases q2:s2=s1
  ·by_cases q3:g.k=3<;>simp[q1,q2,q3]
  ·have q2':¬ s1=s2:=fun e=>q2 e.symm
   simp[q1,q2,q2']
theorem r212(so:aa)(ops:List OpM)(ho:pn ops)(r:RuM)(hb:RuB r):rn ⟨212,0,0⟩ [.sl so,.sl (ops.map OpM.row),.str r.n,.int (r.l).k,.int (r.l).n,.str (r.l).s,.sl ((r.l).as.map Tm.row),.int (r.r).k,.int (r.r).n,.str (r.r).s,.sl ((r.r).as.map Tm.row),.sl (r.g.map Gu.row)]=some (0,[.bool (jm ops r)]):=by
 have h1:=r244 r.n hb.n;have h2:=r155 r.l (G7 hb.ln (by decide)) hb.wl
 have h3:=r246 r.l hb.wl;have h4:=r155 r.r (G7 hb.rn (by decide)) hb.wr
 have h5:=r157 so ops ho r.l.s;have h7:=r220 r.l hb.ln;have hnl:=bq r.l;have hln:=hb.ln;rw[e212_0_0];simp only[h1,h2,h3,h4,h5,nv0,nvS,dvI,dvB,dvS,dvL,B5];unfold jm;cases kh r.n<;>try rfl
 cases r.l.valid<;>try rfl
 by_cases q:r.l.k=2
 ·simp only[q,H3,D4,H2,E4]
  cases re r.l<;>try rfl
  cases r.r.valid<;>try rfl
  cases hf:dp ops r.l.s with
  |none=>rfl
  |some o =>
   have h6:=r247 so ops ho r.l hb.wl hb.ln o.r;simp only[q] at h6 h7;simp only[kj,nv0,nvS,dvI,dvB,dvS,dvL,B5,h6,h7,D4,H2,E4];cases hi:po ops r.l o.r with
   |none=>rfl
   |some vs =>
    have hvl:=Ii hi;have h8:=r96 so ops ho vs (by omega) r.r hb.wr
    have h9:=r156 r.r hb.rn r.l.names (bc (by omega))
    have h10:=r97 so ops ho vs (by omega) r.l.names (bc (by omega)) (Kw hi) r.g hb.g hb.ga
    simp only[uq,nv0,nvS,dvI,dvB,dvS,dvL,B5,h8,h9,h10,D4,H2];by_cases q2:ax ops vs r.r=o.r
    ·cases fo r.r r.l.names<;>simp[q2]
    ·simp[q2]
 ·simp[q]
theorem r159(so:aa)(ops:List OpM)(ho:pn ops)(r:RuM)(hb:RuB r):rn ⟨159,0,0⟩ [.sl so,.sl (ops.map OpM.row),.str r.n,.int (r.l).k,.int (r.l).n,.str (r.l).s,.sl ((r.l).as.map Tm.row),.int (r.r).k,.int (r.r).n,.str (r.r).s,.sl ((r.r).as.map Tm.row),.sl (r.g.map Gu.row)]=some (0,[.bool (jm ops r)]):=by
 have h1:=r222 r.n hb.n;have h2:=r100 r.l (G7 hb.ln (by decide)) hb.wl
 have h3:=r223 r.l hb.wl;have h4:=r100 r.r (G7 hb.rn (by decide)) hb.wr
 have h5:=r106 so ops ho r.l.s;have h7:=r102 r.l hb.ln;have h9:=r102 r.r hb.rn;have hnl:=bq r.l;have hnr:=bq r.r;have hsl:=cy r.l.names;have hsr:=cy r.r.names;have hln:=hb.ln;have hrn:=hb.rn;have hgl:=hb.g;have h10:=r101 (bw r.r.names) (bw r.l.names) (by omega) (bc (by omega))
 have hl:∀ vs:List VS,vs.length<=1099511627776->∀ n i,i+n=r.g.length->rn ⟨159,0,1⟩ [.int (i:Int),.sl so,.sl (ops.map OpM.row),.str r.n,.int (r.l).k,.int (r.l).n,.str (r.l).s,.sl ((r.l).as.map Tm.row),.int (r.r).k,.int (r.r).n,.str (r.r).s,.sl ((r.r).as.map Tm.row),.sl (r.g.map Gu.row),.sl (vs.map VS.row)]=bif (r.g.drop i).all (qu ops vs) then some (0,[]) else some (1,[]):=by
  intro vs hv n;induction n with
  |zero =>
   intro i hi;obtain rfl:i=r.g.length:=by omega
   rw[e159_0_1];simp only[B6,C0,D3,H4,H2,C8,K5,H1]
  |succ n ih =>
   intro i hi;have hlt:i<r.g.length:=by omega
   rw[e159_0_1,B8 hlt];have h1:=r63 so ops ho vs hv r.g[i] (hb.ga _ (C1 hlt));simp only[B6,C0,hlt,H3,H1,aq,B7,ab hlt,ae hlt (bc (by omega)),Gu.row,nv0,nvS,dvI,dvB,dvS,dvL,B5,h1,ih (i+1) (by omega),J1]
   cases qu ops vs r.g[i]<;>simp
 rw[e159_0_0];simp only[h1,h2,h3,h4,h5,nv0,nvS,dvI,dvB,dvS,dvL,B5,B6];unfold jm;cases kh r.n<;>try rfl
 cases r.l.valid<;>try rfl
 by_cases q:r.l.k=2
 ·simp only[q,H3,D4,H2,E4,Bool.not_not]
  cases r.r.valid
  ·cases re r.l<;>rfl
  ·cases re r.l<;>try rfl
   simp only[D4,H2,E4];by_cases q5:r.g.length<=2
   ·have q5':¬((2:Int)<(r.g.length:Int)):=by omega
    cases hf:dp ops r.l.s with
    |none =>
     have h6:=r224 so ops ho r.l hb.wl hb.ln e0;have:po ops r.l e0=none:=by unfold po;cases gy ops r.l e0 []<;>simp
     rw[this] at h6;simp only[q] at h6;simp only[kj,nv0,nvS,dvI,dvB,dvS,dvL,B5,h6,q5',H4,H2,uq,J6,H1]
    |some o =>
     have h6:=r224 so ops ho r.l hb.wl hb.ln o.r;simp only[q] at h6 h7 hl;simp only[kj,nv0,nvS,dvI,dvB,dvS,dvL,B5,h6,q5',H4,H2];cases hi:po ops r.l o.r with
     |none=>rfl
     |some vs =>
      have hvl:=Ii hi;have h8:=r64 so ops ho vs (by omega) r.r hb.wr
      have h11:=hl vs (by omega) r.g.length 0 (by omega)
      simp only[D2,C3] at h11;simp only[uq,nv0,nvS,dvI,dvB,dvS,dvL,B5,h8,h7,h9,h10,B6,h11,D4,H2];by_cases q2:ax ops vs r.r=o.r
      ·have hw:=Zf r.r r.l
       cases hw2:fo r.r r.l.names with
       |true =>
        rw[hw2] at hw;have:(wo (bw r.r.names) (bw r.l.names)).length=0:=hw.2 rfl;simp only[q2,this,H3,D4,H2,C3,Int.lt_irrefl,H4,xv,q5,K8,E4];cases r.g.all (qu ops vs)<;>rfl
       |false =>
        rw[hw2] at hw;have:¬(wo (bw r.r.names) (bw r.l.names)).length=0:=fun h=>by have:=hw.1 h;simp at this
        have:0<(wo (bw r.r.names) (bw r.l.names)).length:=by omega
        simp[q2,this]
      ·simp[q2]
   ·have q5':((2:Int)<(r.g.length:Int)):=by omega
    simp only[q5',H3,H1,xv,q5,H4,U3];cases dp ops r.l.s with
    |none=>rfl
    |some o =>
     dsimp only;cases po ops r.l o.r<;>rfl
 ·cases r.r.valid<;>simp[q]
def wx(l:List StM)(x:StM):Bool:=l.any fun y=>decide (y.o=x.o)&&decide (y.a=x.a)
theorem Xo(l:List StM)(hl:l.length<=maxLen)(x:StM):rn ⟨213,0,0⟩ [.sl (l.map StM.row),.str x.o,.int x.a]=some (0,[.bool (wx l x)]):=by
 have key:∀ n i,i+n=l.length->(wx (l.drop i) x=false/\rn ⟨248,0,1⟩ [.sl (l.map StM.row),.int (l.length:Int),.int (i:Int),.str x.o,.int x.a]=some (0,[]))\/(wx (l.drop i) x=true/\∃ j:Nat,rn ⟨248,0,1⟩ [.sl (l.map StM.row),.int (l.length:Int),.int (i:Int),.str x.o,.int x.a]=some (1,[.int (j:Int)])):=by
  intro n;induction n with
  |zero =>
   intro i hi;obtain rfl:i=l.length:=by omega
   rw[e248_0_1];simp only[B6,C0,D3,H4,H2,C8];exact .inl ⟨rfl,trivial⟩
  |succ n ih =>
   intro i hi;have hlt:i<l.length:=by omega
   rw[e248_0_1,B8 hlt];simp only[B6,C0,hlt,H3,H1,aq,B7,ab hlt,ae hlt hl,StM.row,nv0,nvS,dvI,dvB,dvS,dvL,B5,wx,List.any_cons];by_cases h1:l[i].o=x.o
   ·by_cases h2:l[i].a=x.a
    ·right
     refine⟨by simp[h1,h2],i,by simp[h1,h2]⟩
    ·have h2':¬ x.a=l[i].a:=fun e=>h2 e.symm
     have:=ih (i+1) (by omega)
     simpa[h1,h2,h2',wx] using this
   ·have h1':¬ x.o=l[i].o:=fun e=>h1 e.symm
    have:=ih (i+1) (by omega)
    simpa[h1,h1',wx] using this
 have h:=key l.length 0 (by omega)
 simp only[D2,C3] at h;rw[e213_0_0,e248_0_0];simp only[B6];rcases h with ⟨h1,h2⟩|⟨h1,j,h2⟩
 ·rw[h2,h1];rfl
 ·rw[h2,h1]
  simp only[nv0,nvS,dvI,dvB,dvS,dvL,B5,D7,H1,H2,show E9 1 0=false from rfl]
  have:(0:Int)<=(j:Int):=by omega
  simp[this]
theorem Ns(ops:List OpM)(s:StM):Ox ops s=match dp ops s.o with
 |none=>false
 |some o=>!isB s.o&&(decide (0<=s.a)&&decide (s.a<o.a.length)):=rfl
theorem Bj(ops:List OpM)(l:List StM){i:Nat}(h:i<l.length):kn ops (l.take i) (l.drop i)=(Ox ops l[i]&&(!wx (l.take i) l[i]&&kn ops (l.take (i+1)) (l.drop (i+1)))):=by
 rw[B8 h];simp only[kn,wx];rw[List.take_add_one,F7 h];rfl
theorem r152(d:DfM)(hb:DfB d):rn ⟨152,0,0⟩ [.sl (d.so.map ag),.sl (d.op.map OpM.row),.sl (d.ru.map RuM.row),.sl (d.st.map StM.row)]=some (0,[.bool d.valid]):=by
 have hrl:=hb.ru;have hsl:=hb.st;have hl1:∀ n i (acc:List ByteArray),i+n=d.ru.length->acc.length<=i->rn ⟨152,0,1⟩ [.sl (d.ru.map RuM.row),.int (d.ru.length:Int),.int (i:Int),.sl (d.so.map ag),.sl (d.op.map OpM.row),.sl (d.ru.map RuM.row),.sl (d.st.map StM.row),.sl (acc.map ag)]=bif (d.ru.drop i).all (jm d.op) then some (0,[.sl (d.so.map ag),.sl (d.op.map OpM.row),.sl (d.ru.map RuM.row),.sl (d.st.map StM.row),.sl ((acc++(d.ru.drop i).map (·.n)).map ag)]) else some (1,[]):=by
  intro n;induction n with
  |zero =>
   intro i acc hi ha;obtain rfl:i=d.ru.length:=by omega
   rw[e152_0_1];simp only[B6,C0,D3,H4,H2,C8,K5,H1,D1,G8]
  |succ n ih =>
   intro i acc hi ha;have hlt:i<d.ru.length:=by omega
   rw[e152_0_1,B8 hlt];have h1:=r212 (d.so.map ag) d.op hb.op d.ru[i] (hb.rua _ (C1 hlt));have hb2:F5 (acc.length+1) M63=true:=nb (by omega)
   have h6:=ih (i+1) (acc++[d.ru[i].n]) (by omega) (by simp;omega)
   simp only[D5,C4,D1,ag] at h6;simp only[B6,C0,hlt,H3,H1,aq,B7,ab hlt,ae hlt (bc (by omega)),RuM.row,nv0,nvS,dvI,dvB,dvS,dvL,B5,h1,C2,C5,D0,hb2,h6,J1]
   cases jm d.op d.ru[i] with
   |false=>rfl
   |true=>simp only[D5,C4,E2,F4,D8,ag,D4,H2,H1,E4]
 have hl3:∀ (x5 x7:aa) n i,i+n=d.st.length->rn ⟨152,0,3⟩ [.sl (d.st.map StM.row),.int (d.st.length:Int),.int (i:Int),.sl (d.so.map ag),.sl (d.op.map OpM.row),.sl x5,.sl (d.st.map StM.row),.sl x7]=bif kn d.op (d.st.take i) (d.st.drop i) then some (0,[.sl x7]) else some (1,[]):=by
  intro x5 x7 n;induction n with
  |zero =>
   intro i hi;obtain rfl:i=d.st.length:=by omega
   rw[e152_0_3];simp only[B6,C0,D3,H4,H2,C8,kn,H1]
  |succ n ih =>
   intro i hi;have hlt:i<d.st.length:=by omega
   rw[e152_0_3,Bj d.op d.st hlt,Ns];have h1:=r157 (d.so.map ag) d.op hb.op d.st[i].o;have h3:=Xo (d.st.take i) (bc (by rw[List.length_take];omega)) d.st[i]
   simp only[B6,C0,hlt,H3,H1,aq,B7,ab hlt,ae hlt (bc (by omega)),StM.row,nv0,nvS,dvI,dvB,dvS,dvL,B5,h1,r181,ih (i+1) (by omega)]
   cases hf:dp d.op d.st[i].o with
   |none=>rfl
   |some o =>
    simp only[kj,nv0,nvS,dvI,dvB,dvS,dvL,B5,B6,D4,H2];cases isB d.st[i].o
    ·by_cases q1:0<=d.st[i].a
     ·have q1':¬ d.st[i].a<0:=by omega
      by_cases q2:d.st[i].a<o.a.length
      ·have q2':¬(o.a.length:Int)<=d.st[i].a:=by omega
       have q3:(0:Int)<=(i:Int):=by omega
       have q4:(i:Int)<=(d.st.length:Int):=by omega
       simp only[q1,q1',q2,q2',q3,q4,Int.le_refl,H3,H4,H1,H2,K8,J6,E4,B7,show O8 0=0 from rfl,D2,<-List.map_take,h3,nv0,nvS,dvI,dvB,dvS,dvL,B5]
       cases wx (d.st.take i) d.st[i]<;>simp
      ·have q2':(o.a.length:Int)<=d.st[i].a:=by omega
       simp[q1,q1',q2,q2']
     ·have q1':d.st[i].a<0:=by omega
      simp[q1,q1']
    ·rfl
 have hd:=r153 (d.ru.map (·.n)) (by rw[B6];omega)
 have hg:=r211 d.so hb.so hb.sos d.op hb.op hb.opn;have h1:=hl1 d.ru.length 0 [] (by omega) (J0 _)
 have h3:=fun x5 x7=>hl3 x5 x7 d.st.length 0 (by omega)
 simp only[D2,T8,C3,D1,D8] at h1 h3;rw[e152_0_0];simp only[B6,hg,nv0,nvS,dvI,dvB,dvS,dvL,B5];unfold DfM.valid;cases Aj d.so d.op
 ·rfl
 ·by_cases q1:d.ru.length<=16
  ·have q1':¬((16:Int)<(d.ru.length:Int)):=by omega
   by_cases q2:d.st.length<=8
   ·have q2':¬((8:Int)<(d.st.length:Int)):=by omega
    simp only[q1,q1',q2,q2',H3,H4,H1,H2,E4,D4,h1];cases d.ru.all (jm d.op)
    ·rfl
    ·simp only[H1,nv0,nvS,dvI,dvB,dvS,dvL,B5,D7,H1,H2,B6,h3,E4]
     cases kn d.op [] d.st
     ·rfl
     ·simp only[H1,nv0,nvS,dvI,dvB,dvS,dvL,B5,D7,H1,H2,hd,E4]
   ·have q2':((8:Int)<(d.st.length:Int)):=by omega
    simp[q1,q1',q2,q2']
  ·have q1':((16:Int)<(d.ru.length:Int)):=by omega
   simp[q1,q1']
theorem r162(d:DfM)(hb:DfB d):rn ⟨162,0,0⟩ [.sl (d.so.map ag),.sl (d.op.map OpM.row),.sl (d.ru.map RuM.row),.sl (d.st.map StM.row)]=some (0,[.bool (kn d.op [] d.st&&decide (d.st.length<=8))]):=by
 have hsl:=hb.st;have hl3:∀ (x0:Nat),x0<=d.st.length->∀ (x:StM) (x2:ByteArray) (x3:Bool) (x4 x5 x6:Int) (x7 x8:Bool) (x15 x16:ByteArray) (x17:aa),∀ n j,j+n=x0->rn ⟨162,0,3⟩ [.int (x0:Int),.int (j:Int),.str x2,.bool x3,.int x4,.int x5,.int x6,.bool x7,.bool x8,.sl (d.so.map ag),.sl (d.op.map OpM.row),.sl (d.ru.map RuM.row),.sl (d.st.map StM.row),.str x.o,.int x.a,.str x15,.str x16,.sl x17]=bif wx ((d.st.take x0).drop j) x then some (1,[]) else some (0,[.int (x0:Int),.str x2,.bool x3,.int x4,.int x5,.int x6,.bool x7,.bool x8,.sl (d.so.map ag),.sl (d.op.map OpM.row),.sl (d.ru.map RuM.row),.sl (d.st.map StM.row),.str x.o,.int x.a,.str x15,.str x16,.sl x17]):=by
  intro x0 hx0 x x2 x3 x4 x5 x6 x7 x8 x15 x16 x17 n;induction n with
  |zero =>
   intro j hj;obtain rfl:j=x0:=by omega
   rw[e162_0_3];have:((d.st.take j).drop j)=[]:=O7 (by rw[List.length_take];omega)
   simp only[this,Int.lt_irrefl,H4,H2,wx,List.any_nil]
  |succ n ih =>
   intro j hj;have hlt0:j<(d.st.take x0).length:=by rw[List.length_take];omega
   have hlt:j<d.st.length:=by omega
   have hltx:j<x0:=by omega
   rw[e162_0_3,B8 hlt0,List.getElem_take];simp only[B6,C0,hlt,H3,H1,aq,B7,ab hlt,ae hlt (bc (by omega)),hltx,StM.row,nv0,nvS,dvI,dvB,dvS,dvL,B5,ih (j+1) (by omega)]
   simp only[wx,List.any_cons];by_cases h1:d.st[j].o=x.o
   ·by_cases h2:d.st[j].a=x.a<;>simp[h1,h2]
   ·simp[h1]
 have hl1:∀ n i,i+n=d.st.length->rn ⟨162,0,1⟩ [.int (i:Int),.sl (d.so.map ag),.sl (d.op.map OpM.row),.sl (d.ru.map RuM.row),.sl (d.st.map StM.row)]=bif kn d.op (d.st.take i) (d.st.drop i) then some (0,[.sl (d.so.map ag),.sl (d.op.map OpM.row),.sl (d.ru.map RuM.row),.sl (d.st.map StM.row)]) else some (1,[]):=by
  intro n;induction n with
  |zero =>
   intro i hi;obtain rfl:i=d.st.length:=by omega
   rw[e162_0_1];simp only[B6,C0,D3,H4,H2,C8,kn,H1]
  |succ n ih =>
   intro i hi;have hlt:i<d.st.length:=by omega
   rw[e162_0_1,Bj d.op d.st hlt,Ns];have h1:=r106 (d.so.map ag) d.op hb.op d.st[i].o;have h3:=fun x2 x3 x4 x5 x6 x7 x8 x15 x16 x17=>hl3 i (by omega) d.st[i] x2 x3 x4 x5 x6 x7 x8 x15 x16 x17 i 0 (by omega)
   simp only[D2,C3] at h3;simp only[B6,C0,hlt,H3,H1,aq,B7,ab hlt,ae hlt (bc (by omega)),StM.row,nv0,nvS,dvI,dvB,dvS,dvL,B5,h1,r111,rIn]
   cases hf:dp d.op d.st[i].o with
   |none=>rfl
   |some o =>
    have hoa:o.a.length<=1048576:=Ai hb.op.a hf;simp only[kj,nv0,nvS,dvI,dvB,dvS,dvL,B5,B6,D4,H2];rw[IntWalk.i64_in _ (by omega)]
    cases isB d.st[i].o
    ·by_cases q1:0<=d.st[i].a
     ·by_cases q2:d.st[i].a<o.a.length
      ·have q2':d.st[i].a<=(o.a.length:Int)-1:=by omega
       simp only[q1,q2,q2',H3,H1,H2,K8,J6,D4,E4,h3];cases wx (d.st.take i) d.st[i] with
       |true=>rfl
       |false=>simp only[H2,nv0,nvS,dvI,dvB,dvS,dvL,B5,D7,H1,H2,ae hlt (bc (by omega)),ih (i+1) (by omega),J6,E4]
      ·have q2':¬ d.st[i].a<=(o.a.length:Int)-1:=by omega
       simp[q1,q2,q2']
     ·simp[q1]
    ·rfl
 have h1:=hl1 d.st.length 0 (by omega)
 simp only[D2,T8,C3] at h1;rw[e162_0_0,h1];have i1:((d.st.length:Int)<=8)↔d.st.length<=8:=by omega
 cases kn d.op [] d.st with
 |false=>rfl
 |true=>simp only[H1,nv0,nvS,dvI,dvB,dvS,dvL,B5,D7,H1,H2,B6,i1,E4]
theorem r98(d:DfM)(hb:DfB d):rn ⟨98,0,0⟩ [.sl (d.so.map ag),.sl (d.op.map OpM.row),.sl (d.ru.map RuM.row),.sl (d.st.map StM.row)]=some (0,[.bool d.valid]):=by
 have hrl:=hb.ru;have hl1:∀ n i (acc:List ByteArray),i+n=d.ru.length->acc.length<=i->rn ⟨98,0,1⟩ [.int (i:Int),.sl (d.so.map ag),.sl (d.op.map OpM.row),.sl (d.ru.map RuM.row),.sl (d.st.map StM.row),.sl (acc.map ag)]=bif (d.ru.drop i).all (jm d.op) then some (0,[.sl (d.so.map ag),.sl (d.op.map OpM.row),.sl (d.ru.map RuM.row),.sl (d.st.map StM.row),.sl ((acc++(d.ru.drop i).map (·.n)).map ag)]) else some (1,[]):=by
  intro n;induction n with
  |zero =>
   intro i acc hi ha;obtain rfl:i=d.ru.length:=by omega
   rw[e98_0_1];simp only[B6,C0,D3,H4,H2,C8,K5,H1,D1,G8]
  |succ n ih =>
   intro i acc hi ha;have hlt:i<d.ru.length:=by omega
   rw[e98_0_1,B8 hlt];have h1:=r159 (d.so.map ag) d.op hb.op d.ru[i] (hb.rua _ (C1 hlt));have hb2:F5 (acc.length+1) M63=true:=nb (by omega)
   have h6:=ih (i+1) (acc++[d.ru[i].n]) (by omega) (by simp;omega)
   simp only[D5,C4,D1,ag] at h6;simp only[B6,C0,hlt,H3,H1,aq,B7,ab hlt,ae hlt (bc (by omega)),RuM.row,nv0,nvS,dvI,dvB,dvS,dvL,B5,h1,C2,C5,D0,hb2,h6,J1]
   cases jm d.op d.ru[i] with
   |false=>rfl
   |true=>simp only[D5,C4,E2,F4,D8,ag,D4,H2,H1,E4]
 have hd:=r161 (d.ru.map (·.n)) (by rw[B6];exact bc (by omega))
 have hg:=r160 d.so hb.so hb.sos d.op hb.op hb.opn;have hs:=r162 d hb;have h1:=hl1 d.ru.length 0 [] (by omega) (J0 _)
 simp only[D2,C3,D1,D8] at h1;have i1:((d.ru.length:Int)<=16)↔d.ru.length<=16:=by omega
 rw[e98_0_0,h1];unfold DfM.valid;cases d.ru.all (jm d.op) with
 |false=>cases Aj d.so d.op<;>cases decide (d.ru.length<=16)<;>cases decide (d.st.length<=8)<;>rfl
 |true =>
  simp only[H1,nv0,nvS,dvI,dvB,dvS,dvL,B5,D7,H1,H2,B6,hd,hg,hs,i1,E4];cases Aj d.so d.op<;>cases decide (d.ru.length<=16)<;>cases decide (d.st.length<=8)<;>cases kn d.op [] d.st<;>cases dis (d.ru.map (·.n))<;>rfl
theorem r95(vars:List ByteArray)(hv:vars.length<=1048576):rn ⟨95,0,0⟩ [.sl (vars.map ag)]=some (0,[.sl ((wv vars).map VS.row)]):=by
 have hl:∀ n i (acc:List VS),i+n=vars.length->acc.length<=i->rn ⟨95,0,1⟩ [.sl (vars.map ag),.int (vars.length:Int),.int (i:Int),.sl (acc.map VS.row)]=some (0,[.sl ((acc++wv (vars.drop i)).map VS.row)]):=by
  intro n;induction n with
  |zero =>
   intro i acc hi ha;obtain rfl:i=vars.length:=by omega
   rw[e95_0_1];simp only[B6,C0,D3,H4,H2,C8,wv,D1,G8]
  |succ n ih =>
   intro i acc hi ha;have hlt:i<vars.length:=by omega
   rw[e95_0_1,B8 hlt];have hb2:F5 (acc.length+1) M63=true:=nb (by omega)
   have h6:=ih (i+1) (acc++[(vars[i],cw)]) (by omega) (by simp;omega)
   simp only[D5,C4,D1,VS.row] at h6;simp only[B6,C0,hlt,H3,H1,aq,B7,ab hlt,ae hlt (bc (by omega)),ag,nv0,nvS,dvI,dvB,dvS,dvL,B5,C2,C5,D0,hb2,h6]
   simp only[wv,D5,C4,E2,F4,D8,VS.row]
 have h:=hl vars.length 0 [] (by omega) (J0 _)
 simp only[D2,C3,D1,D8] at h;rw[e95_0_0];simp only[B6,h,nv0,nvS,dvI,dvB,dvS,dvL,B5,D7,H1,H2]
theorem r62(vars:List ByteArray)(hv:vars.length<=1048576):rn ⟨62,0,0⟩ [.sl (vars.map ag)]=some (0,[.sl ((wv vars).map VS.row)]):=by
 have hl:∀ n i (acc:List VS),i+n=vars.length->acc.length<=i->rn ⟨62,0,1⟩ [.sl (vars.map ag),.int (i:Int),.sl (acc.map VS.row)]=some (0,[.sl ((acc++wv (vars.drop i)).map VS.row)]):=by
  intro n;induction n with
  |zero =>
   intro i acc hi ha;obtain rfl:i=vars.length:=by omega
   rw[e62_0_1];simp only[B6,C0,D3,H4,H2,C8,wv,D1,G8]
  |succ n ih =>
   intro i acc hi ha;have hlt:i<vars.length:=by omega
   rw[e62_0_1,B8 hlt];have hb2:F5 (acc.length+1) M63=true:=nb (by omega)
   have h6:=ih (i+1) (acc++[(vars[i],cw)]) (by omega) (by simp;omega)
   simp only[D5,C4,D1,VS.row] at h6;simp only[B6,C0,hlt,H3,H1,aq,B7,ab hlt,ae hlt (bc (by omega)),ag,nv0,nvS,dvI,dvB,dvS,dvL,B5,C2,C5,D0,hb2,h6]
   simp only[wv,D5,C4,E2,F4,D8,VS.row]
 have h:=hl vars.length 0 [] (by omega) (J0 _)
 simp only[D2,C3,D1,D8] at h;rw[e62_0_0];simp only[h,nv0,nvS,dvI,dvB,dvS,dvL,B5,D7,H1,H2]
theorem r94(d:DfM)(hb:DfB d)(vars:List ByteArray)(hv:vars.length<=1048576)(hvs:∀ x∈vars,x.size<=maxLen)(t:Tm)(hw:Wt t)(hn:t.nodes<=1048577):rn ⟨94,0,0⟩ [.sl (d.so.map ag),.sl (d.op.map OpM.row),.sl (d.ru.map RuM.row),.sl (d.st.map StM.row),.sl (vars.map ag),.int t.k,.int t.n,.str t.s,.sl (t.as.map Tm.row),.sl []]=some (0,[.bool (jn d vars t)]):=by
 have hl1:∀ n i,i+n=vars.length->rn ⟨94,0,1⟩ [.sl (vars.map ag),.int (vars.length:Int),.int (i:Int),.sl (d.so.map ag),.sl (d.op.map OpM.row),.sl (d.ru.map RuM.row),.sl (d.st.map StM.row),.sl (vars.map ag),.int t.k,.int t.n,.str t.s,.sl (t.as.map Tm.row),.sl []]=bif (vars.drop i).all qt then some (0,[.sl (d.so.map ag),.sl (d.op.map OpM.row),.sl (d.ru.map RuM.row),.sl (d.st.map StM.row),.sl (vars.map ag),.int t.k,.int t.n,.str t.s,.sl (t.as.map Tm.row),.sl []]) else some (1,[]):=by
  intro n;induction n with
  |zero =>
   intro i hi;obtain rfl:i=vars.length:=by omega
   rw[e94_0_1];simp only[B6,C0,D3,H4,H2,C8,K5,H1]
  |succ n ih =>
   intro i hi;have hlt:i<vars.length:=by omega
   rw[e94_0_1,B8 hlt];have h1:=r154 vars[i] (hvs _ (C1 hlt));simp only[B6,C0,hlt,H3,H1,aq,B7,ab hlt,ae hlt (bc (by omega)),ag,nv0,nvS,dvI,dvB,dvS,dvL,B5,h1,ih (i+1) (by omega),J1]
   cases qt vars[i]<;>rfl
 have h1:=hl1 vars.length 0 (by omega)
 simp only[D2,C3] at h1;have hl3:∀ a b c:aa,∀ k n:Int,∀ s:ByteArray,rn ⟨94,0,3⟩ [.sl [],.int 0,.int 0,.sl a,.int k,.int n,.str s,.sl b,.sl c]=some (0,[]):=fun a b c k n s=>by
  rw[e94_0_3];rfl
 have h2:=r152 d hb;have h3:=r153 vars hv;have h4:=r155 t (by omega) hw
 have h5:=r156 t hn vars (bc (by omega))
 have h6:=r95 vars hv;have h7:=r96 (d.so.map ag) d.op hb.op (wv vars) (by unfold wv;rw[B6];omega) t hw
 rw[e94_0_0];simp only[B6,h2,h3,nv0,nvS,dvI,dvB,dvS,dvL,B5];unfold jn;cases d.valid
 ·rfl
 ·by_cases q1:vars.length<=3
  ·have q1':¬((3:Int)<(vars.length:Int)):=by omega
   simp only[q1,q1',H3,H4,H2,E4,D4];cases dis vars
   ·rfl
   ·simp only[D4,H2,h1,E4]
    cases vars.all qt
    ·rfl
    ·simp only[H1,nv0,nvS,dvI,dvB,dvS,dvL,B5,D7,H1,H2,h4,h5,h6,h7,E4]
     cases t.valid
     ·rfl
     ·cases fo t vars
      ·rfl
      ·by_cases q2:ax d.op (wv vars) t=e0
       ·simp[q2]
       ·simp only[q2,D4,J6,H2,H4,C5,C3,hl3,nv0,nvS,dvI,dvB,dvS,dvL,B5,D7,H1,H2,E4]
  ·have q1':((3:Int)<(vars.length:Int)):=by omega
   simp[q1,q1']
theorem r99(vars:List ByteArray)(hv:vars.length<=1048576)(hvs:∀ x∈vars,x.size<=maxLen):rn ⟨99,0,0⟩ [.sl (vars.map ag)]=some (0,[.bool (decide (vars.length<=3)&&(dis vars&&vars.all qt))]):=by
 have hl1:∀ n i,i+n=vars.length->rn ⟨99,0,1⟩ [.sl (vars.map ag),.int (i:Int)]=bif (vars.drop i).all qt then some (0,[.sl (vars.map ag)]) else some (1,[]):=by
  intro n;induction n with
  |zero =>
   intro i hi;obtain rfl:i=vars.length:=by omega
   rw[e99_0_1];simp only[B6,C0,D3,H4,H2,C8,K5,H1]
  |succ n ih =>
   intro i hi;have hlt:i<vars.length:=by omega
   rw[e99_0_1,B8 hlt];have h1:=r163 vars[i] (hvs _ (C1 hlt));simp only[B6,C0,hlt,H3,H1,aq,B7,ab hlt,ae hlt (bc (by omega)),ag,nv0,nvS,dvI,dvB,dvS,dvL,B5,h1,ih (i+1) (by omega),J1]
   cases qt vars[i]<;>rfl
 have h1:=hl1 vars.length 0 (by omega)
 simp only[D2,C3] at h1;have h3:=r161 vars (bc (by omega))
 have i1:((vars.length:Int)<=3)↔vars.length<=3:=by omega
 rw[e99_0_0,h1];cases vars.all qt with
 |false=>cases decide (vars.length<=3)<;>cases dis vars<;>rfl
 |true =>
  simp only[H1,nv0,nvS,dvI,dvB,dvS,dvL,B5,D7,H1,H2,B6,i1,h3,K8];cases decide (vars.length<=3)<;>rfl
theorem r61(d:DfM)(hb:DfB d)(vars:List ByteArray)(hv:vars.length<=1048576)(hvs:∀ x∈vars,x.size<=maxLen)(t:Tm)(hw:Wt t)(hn:t.nodes<=1048577):rn ⟨61,0,0⟩ [.sl (d.so.map ag),.sl (d.op.map OpM.row),.sl (d.ru.map RuM.row),.sl (d.st.map StM.row),.sl (vars.map ag),.int t.k,.int t.n,.str t.s,.sl (t.as.map Tm.row),.sl []]=some (0,[.bool (jn d vars t)]):=by
 have hl1:∀ a:List D,rn ⟨61,0,1⟩ [.int 0,.sl (d.so.map ag),.sl (d.op.map OpM.row),.sl (d.ru.map RuM.row),.sl (d.st.map StM.row),.sl (vars.map ag),.int t.k,.int t.n,.str t.s,.sl (t.as.map Tm.row),.sl []]=some (0,[.sl (d.so.map ag),.sl (d.op.map OpM.row),.sl (d.ru.map RuM.row),.sl (d.st.map StM.row),.sl (vars.map ag),.int t.k,.int t.n,.str t.s,.sl (t.as.map Tm.row),.sl []]):=fun _=>by
  rw[e61_0_1];rfl
 have h1:=hl1 [];have h2:=r98 d hb;have h3:=r99 vars hv hvs;have h4:=r100 t (by omega) hw
 have hnt:=bq t;have hsl:=cy t.names;have h5:=r102 t hn;have h5':=r101 (bw t.names) vars (by omega) (bc (by omega))
 have h6:=r62 vars hv;have h7:=r64 (d.so.map ag) d.op hb.op (wv vars) (by unfold wv;rw[B6];omega) t hw
 rw[e61_0_0];simp only[B6,h1,h2,h3,h4,h5,h5',h6,h7,nv0,nvS,dvI,dvB,dvS,dvL,B5,D7,H1,H2];unfold jn;cases d.valid<;>try rfl
 cases decide (vars.length<=3)<;>try rfl
 cases dis vars<;>try rfl
 cases vars.all qt<;>try rfl
 cases t.valid<;>try rfl
 have hw:=Mp t vars;cases hw2:fo t vars with
 |true =>
  rw[hw2] at hw;have:(wo (bw t.names) vars).length=0:=hw.2 rfl;simp[this]
 |false =>
  rw[hw2] at hw;have:¬(wo (bw t.names) vars).length=0:=fun h=>by have:=hw.1 h;simp at this
  have:0<(wo (bw t.names) vars).length:=by omega
  simp[this]
theorem r60(c:ClM)(hb:ClB c):rn ⟨60,0,0⟩ c.row=some (0,[.bool c.valid]):=by
 unfold ClM.row;have h1:=r94 c.d hb.d c.v hb.v hb.vs c.l hb.wl hb.ln;have h2:=r94 c.d hb.d c.v hb.v hb.vs c.r hb.wr hb.rn;have h3:=r95 c.v hb.v;have hv:=hb.v;have hl:(wv c.v).length<=1099511627776:=by unfold wv;rw[B6];omega
 have h4:=r96 (c.d.so.map ag) c.d.op hb.d.op (wv c.v) hl c.l hb.wl;have h5:=r96 (c.d.so.map ag) c.d.op hb.d.op (wv c.v) hl c.r hb.wr;have h6:=r97 (c.d.so.map ag) c.d.op hb.d.op (wv c.v) hl c.v (bc (by omega)) (Rv c.v) c.g hb.g hb.ga
 rw[e60_0_0];simp only[h1,h2,h3,h4,h5,h6,nv0,nvS,dvI,dvB,dvS,dvL,B5];unfold ClM.valid;cases jn c.d c.v c.l<;>try rfl
 cases jn c.d c.v c.r<;>try rfl
 cases decide (ax c.d.op (wv c.v) c.l=ax c.d.op (wv c.v) c.r)<;>rfl
theorem r36(c:ClM)(hb:ClB c):rn ⟨36,0,0⟩ c.row=some (0,[.bool c.valid]):=by
 unfold ClM.row;have h1:=r61 c.d hb.d c.v hb.v hb.vs c.l hb.wl hb.ln;have h2:=r61 c.d hb.d c.v hb.v hb.vs c.r hb.wr hb.rn;have h3:=r62 c.v hb.v;have hv:=hb.v;have hg:=hb.g;have hl:(wv c.v).length<=1099511627776:=by unfold wv;rw[B6];omega
 have h4:=r64 (c.d.so.map ag) c.d.op hb.d.op (wv c.v) hl c.l hb.wl;have h5:=r64 (c.d.so.map ag) c.d.op hb.d.op (wv c.v) hl c.r hb.wr;have hlp:∀ n i,i+n=c.g.length->rn ⟨36,0,1⟩ (.int (i:Int)::(c.row++[.sl ((wv c.v).map VS.row)]))=bif (c.g.drop i).all (qu c.d.op (wv c.v)) then some (0,c.row++[.sl ((wv c.v).map VS.row)]) else some (1,[]):=by
  unfold ClM.row;simp only[F4,D8];intro n;induction n with
  |zero =>
   intro i hi;obtain rfl:i=c.g.length:=by omega
   rw[e36_0_1];simp only[B6,C0,D3,H4,H2,C8,K5,H1]
  |succ n ih =>
   intro i hi;have hlt:i<c.g.length:=by omega
   rw[e36_0_1,B8 hlt];have h1:=r63 (c.d.so.map ag) c.d.op hb.d.op (wv c.v) hl c.g[i] (hb.ga _ (C1 hlt));simp only[B6,C0,hlt,H3,H1,aq,B7,ab hlt,ae hlt (bc (by omega)),Gu.row,nv0,nvS,dvI,dvB,dvS,dvL,B5,h1,ih (i+1) (by omega),J1]
   cases qu c.d.op (wv c.v) c.g[i]<;>simp
 have h6:=hlp c.g.length 0 (by omega)
 unfold ClM.row at h6;simp only[D2,C3,F4,D8] at h6;rw[e36_0_0];simp only[h1,h2,h3,h6,nv0,nvS,dvI,dvB,dvS,dvL,B5,B6];unfold ClM.valid xv;cases jn c.d c.v c.l<;>try rfl
 cases jn c.d c.v c.r<;>try rfl
 by_cases q:c.g.length<=2
 ·have q':¬((2:Int)<(c.g.length:Int)):=by omega
  simp only[q,q',H3,H4,H2,D4,E4,K8];cases c.g.all (qu c.d.op (wv c.v)) with
  |false=>simp only[U3];rfl
  |true=>simp only[H1,nv0,nvS,dvI,dvB,dvS,dvL,B5,D7,H1,H2,h4,h5,K8]
 ·have q':((2:Int)<(c.g.length:Int)):=by omega
  simp[q,q']
theorem Xp(xs:aa)(h:xs.length<=274877906944):rn ⟨260,0,0⟩ [.sl xs]=some (0,[.sl xs]):=by
 rw[e260_0_0];have hb:F5 (([]:aa).length+xs.length) M63=true:=E8 (by unfold M63;simpa using h)
 rw[hb];cases xs with
 |nil=>simp[rk]
 |cons x xs=>rfl
theorem r239(a b c:aa)(st:List StM)(hst:st.length<=1048576)(s:ByteArray):rn ⟨239,0,0⟩ [.sl a,.sl b,.sl c,.sl (st.map StM.row),.str s]=some (0,[.sl ((kt st s).map al)]):=by
 have key:∀ n i (acc:List Int),i+n=st.length->acc.length<=i->rn ⟨239,0,1⟩ [.str s,.sl (st.map StM.row),.int (st.length:Int),.int (i:Int),.sl (acc.map al)]=some (0,[.sl ((acc++kt (st.drop i) s).map al)]):=by
  intro n;induction n with
  |zero =>
   intro i acc hi ha;obtain rfl:i=st.length:=by omega
   rw[e239_0_1];simp only[B6,C0,D3,H4,H2,C8,kt,S8,D1,G8]
  |succ n ih =>
   intro i acc hi ha;have hlt:i<st.length:=by omega
   rw[e239_0_1,B8 hlt,Dg];have hb2:F5 (acc.length+1) M63=true:=nb (by omega)
   have h1:=ih (i+1) (acc++[st[i].a]) (by omega) (by simp;omega)
   have h2:=ih (i+1) acc (by omega) (by omega)
   simp only[D5,C4,D1,al] at h1 h2;simp only[B6,C0,hlt,H3,H1,aq,B7,ab hlt,ae hlt (bc (by omega)),StM.row,nv0,nvS,dvI,dvB,dvS,dvL,B5,C2,C5,D0,hb2,al]
   by_cases hq:st[i].o=s
   ·simp only[hq,H3,H1,if_true,h1,D5,C4,E2,F4,D8,al]
   ·simp only[hq,H4,H2,if_false,h2,D5,al]
 have h:=key st.length 0 [] (by omega) (J0 _)
 rw[e239_0_0];simp only[C3,D1,D2,D8,B6] at h ⊢;simp only[h,nv0,nvS,dvI,dvB,dvS,dvL,B5,D7,H1,H2]
theorem r171(a b c:aa)(st:List StM)(hst:st.length<=1048576)(s:ByteArray):rn ⟨171,0,0⟩ [.sl a,.sl b,.sl c,.sl (st.map StM.row),.str s]=some (0,[.sl ((kt st s).map al)]):=by
 have key:∀ n i (acc:List Int),i+n=st.length->acc.length<=i->rn ⟨171,0,1⟩ [.str s,.int (i:Int),.sl a,.sl b,.sl c,.sl (st.map StM.row),.sl (acc.map al)]=some (0,[.sl ((acc++kt (st.drop i) s).map al)]):=by
  intro n;induction n with
  |zero =>
   intro i acc hi ha;obtain rfl:i=st.length:=by omega
   rw[e171_0_1];simp only[B6,C0,D3,H4,H2,C8,kt,S8,D1,G8]
  |succ n ih =>
   intro i acc hi ha;have hlt:i<st.length:=by omega
   rw[e171_0_1,B8 hlt,Dg];have hb2:F5 (acc.length+1) M63=true:=nb (by omega)
   have h1:=ih (i+1) (acc++[st[i].a]) (by omega) (by simp;omega)
   have h2:=ih (i+1) acc (by omega) (by omega)
   simp only[D5,C4,D1,al] at h1 h2;simp only[B6,C0,hlt,H3,H1,aq,B7,ab hlt,ae hlt (bc (by omega)),StM.row,nv0,nvS,dvI,dvB,dvS,dvL,B5,C2,C5,D0,hb2,al]
   by_cases hq:st[i].o=s
   ·simp only[hq,H3,H1,if_true,h1,D5,C4,E2,F4,D8,al]
   ·simp only[hq,H4,H2,if_false,h2,D5,al]
 have h:=key st.length 0 [] (by omega) (J0 _)
 rw[e171_0_0];simp only[C3,D1,D2,D8] at h ⊢;simp only[h,nv0,nvS,dvI,dvB,dvS,dvL,B5,D7,H1,H2]
theorem r200(d:DfM)(hb:DfB d)(t:Tm):rn ⟨200,0,0⟩ [.sl (d.so.map ag),.sl (d.op.map OpM.row),.sl (d.ru.map RuM.row),.sl (d.st.map StM.row),.int t.k,.int t.n,.str t.s,.sl (t.as.map Tm.row)]=some (0,[.sl ((stL d.st t).map al)]):=by
 have h:=fun a b c=>r239 a b c d.st hb.st t.s
 rw[e200_0_0];unfold stL;by_cases hk:t.k=2
 ·simp only[h,hk,nv0,nvS,dvI,dvB,dvS,dvL,B5,if_true,H3,D4,H2]
 ·simp[hk]
theorem r174(t u:Tm)(hn:t.nodes<=1048577)(p:List Int)(hp:p.length<=1048576)(h:atT t p=some u):rn ⟨174,0,0⟩ [.int t.k,.int t.n,.str t.s,.sl (t.as.map Tm.row),.sl (p.map al)]=some (0,[.int u.k,.int u.n,.str u.s,.bool true,.sl (u.as.map Tm.row)]):=by
 have key:∀ n i (t:Tm),i+n=p.length->t.nodes<=1048577->atT t (p.drop i)=some u->rn ⟨174,0,1⟩ [.sl (p.map al),.int (i:Int),.int t.k,.int t.n,.str t.s,.sl (t.as.map Tm.row),.int 0,.int 0,.str e0,.sl []]=some (0,[.int u.k,.int u.n,.str u.s,.sl (u.as.map Tm.row),.int 0,.int 0,.str e0,.sl []]):=by
  intro n;induction n with
  |zero =>
   intro i t hi _ h;obtain rfl:i=p.length:=by omega
   rw[C8] at h;simp only[atT,C9.injEq] at h;subst h;rw[e174_0_1];simp only[B6,C0,D3,H4,H2,C8]
  |succ n ih =>
   intro i t hi hn h;have hlt:i<p.length:=by omega
   rw[B8 hlt] at h;obtain⟨hm,h0,h1⟩:=cz h;have hls:=cu (xs:=t.as);have hnd:=Tm.nodes_eq t;have hmn:=dt (f:=Tm.nodes) (C1 hm);have h2:=ih (i+1) _ (by omega) (by omega) h1
   rw[e174_0_1];generalize hj:p[i]=j at hm h0 h1 h2 hmn;obtain⟨m,rfl⟩:∃ m:Nat,j=(m:Int):=⟨j.toNat,by omega⟩
   rw[B7] at hm;simp only[B7] at h2;have q2:(m:Int)<=(t.as.length:Int)-1:=by omega
   have hw:IntKind.i64.wrap ((t.as.length:Int)-1)=(t.as.length:Int)-1:=IntWalk.i64_in _ (by omega)
   simp only[B6,C0,hlt,H3,H1,aq,B7,ab hlt,ae hlt (bc (by omega)),hm,hj,hw,rIn,h0,q2,K8,D4,H2,ab hm,Tm.row_eq,al,nv0,nvS,dvI,dvB,dvS,dvL,B5]
   exact h2
 have h1:=key p.length 0 t (by omega) hn (by rw[D2];exact h)
 have hun:=iy p t u h;have h3:=r65 u (ao u (by omega))
 simp only[C3] at h1;rw[e174_0_0];simp only[h1,h3,nv0,nvS,dvI,dvB,dvS,dvL,B5,D7,H1,H2]
theorem r241(t w:Tm)(hn:t.nodes<=1048577)(m:Nat)(hm:m<t.as.length):rn ⟨241,0,0⟩ [.int t.k,.int t.n,.str t.s,.sl (t.as.map Tm.row),.int (m:Int),.int w.k,.int w.n,.str w.s,.sl (w.as.map Tm.row)]=some (0,[.int t.k,.int t.n,.str t.s,.sl ((t.as.set m w).map Tm.row)]):=by
 have hls:=cu (xs:=t.as);have hnd:=Tm.nodes_eq t;have h1:=Xp (t.as.map Tm.row) (by rw[B6];omega)
 rw[e241_0_0];simp only[h1,nv0,nvS,dvI,dvB,dvS,dvL,B5,B6,aq,hm,H3,H1,B7,Mz hm]
theorem r204(w:Tm):∀ (p:List Int) (t u:Tm),t.nodes<=1048577->p.length<=1048576->atT t p=some u->rn ⟨204,0,0⟩ [.int t.k,.int t.n,.str t.s,.sl (t.as.map Tm.row),.sl (p.map al),.int w.k,.int w.n,.str w.s,.sl (w.as.map Tm.row)]=some (0,[.int (ee t p w).k,.int (ee t p w).n,.str (ee t p w).s,.sl ((ee t p w).as.map Tm.row)])
 | [],t,u,hn,hp,h=>by
  rw[e204_0_0];simp[ee]
 |j::p,t,u,hn,hp,h=>by
  obtain⟨hm,h0,h1⟩:=cz h;have hls:=cu (xs:=t.as);have hnd:=Tm.nodes_eq t;have hmn:=dt (f:=Tm.nodes) (C1 hm);have h2:=r204 w p _ u (by omega) (by simp only[C2] at hp;omega) h1
  have ht:=Df j p;rw[e204_0_0];simp only[ee,dif_pos hm];obtain⟨m,rfl⟩:∃ m:Nat,j=(m:Int):=⟨j.toNat,by omega⟩
  simp only[B7] at hm h2 ⊢;have h3:=r241 t (ee t.as[m] p w) hn m hm;have q0:rowAt (((m:Int)::p).map al) 0=[.int (m:Int)]:=rfl;have q1:inb 0 (((m:Int)::p).map al).length=true:=by simp[inb]
  have q2:¬(((((m:Int)::p).map al).length:Nat):Int)=0:=by simp;omega
  have q3:(1:Int)<=((((m:Int)::p).map al).length:Nat):=by simp only[B6,C2];omega
  have hm':m<(t.as.map Tm.row).length:=by rw[B6];exact hm
  have q4:(0:Int)<=1:=by decide
  simp only[q0,q1,q2,q3,q4,ht,show O8 0=0 from rfl,Int.le_refl,nv0,nvS,dvI,dvB,dvS,dvL,B5,aq,hm',ab hm,Tm.row_eq,H3,H4,H1,H2,K8,B7,h2,h3]
  rfl
theorem r176(w:Tm)(hw:w.nodes<=1048577):∀ (p:List Int) (t u:Tm),t.nodes<=1048577->p.length<=1048576->atT t p=some u->rn ⟨176,0,0⟩ [.int t.k,.int t.n,.str t.s,.sl (t.as.map Tm.row),.sl (p.map al),.int w.k,.int w.n,.str w.s,.sl (w.as.map Tm.row)]=some (0,[.int (ee t p w).k,.int (ee t p w).n,.str (ee t p w).s,.sl ((ee t p w).as.map Tm.row)])
 | [],t,u,hn,hp,h=>by
  have h3:=r65 w (ao w hw);rw[e176_0_0];simp only[D1,C5,C3,H3,H1,h3,nv0,nvS,dvI,dvB,dvS,dvL,B5,ee]
 |j::p,t,u,hn,hp,h=>by
  obtain⟨hm,h0,h1⟩:=cz h;have hls:=cu (xs:=t.as);have hnd:=Tm.nodes_eq t;have hmn:=dt (f:=Tm.nodes) (C1 hm);have h2:=r176 w hw p _ u (by omega) (by simp only[C2] at hp;omega) h1
  have h3:=r65 t (ao t hn);have ht:=Df j p;rw[e176_0_0];simp only[ee,dif_pos hm];obtain⟨m,rfl⟩:∃ m:Nat,j=(m:Int):=⟨j.toNat,by omega⟩
  simp only[B7] at hm h2 ⊢;have q0:rowAt (((m:Int)::p).map al) 0=[.int (m:Int)]:=rfl;have q1:inb 0 (((m:Int)::p).map al).length=true:=by simp[inb]
  have q2:¬(((((m:Int)::p).map al).length:Nat):Int)=0:=by simp;omega
  have q3:(1:Int)<=((((m:Int)::p).map al).length:Nat):=by simp only[B6,C2];omega
  have hm':m<(t.as.map Tm.row).length:=by rw[B6];exact hm
  have q4:(0:Int)<=1:=by decide
  have q5:=Mz hm (ee t.as[m] p w);simp only[q0,q1,q2,q3,q4,ht,show O8 0=0 from rfl,Int.le_refl,nv0,nvS,dvI,dvB,dvS,dvL,B5,aq,hm',H3,H4,H1,H2,K8,B7,h3]
  rw[ab hm] at q5 ⊢;simp only[Tm.row_eq,nv0,nvS,dvI,dvB,dvS,dvL,B5] at q5 ⊢;simp only[h2,nv0,nvS,dvI,dvB,dvS,dvL,B5,q5];rfl
theorem mI2:∀ t u:Tm,∀ l:List Bnd,au u->(∀ b∈l,au b.2)->l.length+t.nodes<=1048576->rn ⟨206,2,0⟩ [.int t.k,.int t.n,.str t.s,.sl (t.as.map Tm.row),.int u.k,.int u.n,.str u.s,.sl (u.as.map Tm.row),.sl (l.map Bnd.row)]=some (0,foI (mT t u l) (if t.k=1 then l.map Bnd.row else [])):=Tm.ind fun t ih u l hu hl hb=>by
 have hnd:=Tm.nodes_eq t;have hls:=cu (xs:=t.as);have hlp:t.as.length=u.as.length->∀ n i (l:List Bnd),i+n=t.as.length->(∀ b∈l,au b.2)->l.length+((t.as.drop i).map Tm.nodes).sum<=1048576->rn ⟨206,2,1⟩ [.int (t.as.length:Int),.int (i:Int),.sl (l.map Bnd.row),.int t.k,.int t.n,.str t.s,.sl (t.as.map Tm.row),.int u.k,.int u.n,.str u.s,.sl (u.as.map Tm.row)]=match mTs (t.as.drop i) (u.as.drop i) l with
  |some l'=>some (0,[.sl (l'.map Bnd.row)])
  |none=>some (1,[.sl []]):=by
  intro hlen n;induction n with
  |zero =>
   intro i l hi hl hb;obtain rfl:i=t.as.length:=by omega
   rw[e206_2_1];simp only[B6,C0,D3,H4,H2,C8,mTs]
  |succ n ih2 =>
   intro i l hi hl hb;have hlt:i<t.as.length:=by omega
   have hlu:i<u.as.length:=by omega
   rw[B8 hlt] at hb ⊢;rw[B8 hlu];simp only[C4,K1] at hb;have hm:=C1 hlt;have hmu:=C1 hlu;have h1:=ih _ hm u.as[i] l (hu.sub hmu) hl (by omega)
   rw[e206_2_1];simp only[B6,C0,hlt,H3,H1,aq,B7,ab hlt,ae hlt (bc (by omega)),hlu,ab hlu,Tm.row_eq,nv0,nvS,dvI,dvB,dvS,dvL,B5,h1,mTs]
   cases hq:mT t.as[i] u.as[i] l with
   |none=>rfl
   |some l1 =>
    have hl1:=ko au (fun t a h ha=>h.sub ha) _ _ l l1 (hu.sub hmu) hl hq
    have hn1:=wh _ _ _ _ hq;have h2:=ih2 (i+1) l1 (by omega) hl1 (by omega)
    simp only[foI,nv0,nvS,dvI,dvB,dvS,dvL,B5,D4,H2,h2]
 have h0:=fun h=>hlp h t.as.length 0 l (by omega) hl (by rw[D2];omega)
 simp only[D2,C3] at h0;rw[e206_2_0,Mq];by_cases h1:t.k=1
 ·have hbd:=r184 l (by omega) t.s
  have hb2:F5 (l.length+1) M63=true:=nb (by omega)
  simp only[h1,H3,H1,if_true,hbd];cases hq:bnd l t.s with
  |some v =>
   have he:=r129 v u (uw hl hq);simp only[nv0,nvS,dvI,dvB,dvS,dvL,B5,H1,he];cases eqb v.row u.row<;>rfl
  |none =>
   simp only[nv0,nvS,dvI,dvB,dvS,dvL,B5,H2,B6,C2,C5,D0,hb2,H1,foI,D5,C4,D1,gc]
 ·simp only[h1,H4,H2,if_false]
  by_cases e1:t.k=u.k
  ·rw[H7 e1,H5 e1]
   by_cases e2:t.n=u.n
   ·rw[H7 e2,H5 e2]
    by_cases e3:t.s=u.s
    ·rw[H7 e3,H5 e3]
     by_cases e4:t.as.length=u.as.length
     ·have e4':((t.as.map Tm.row).length:Int)=((u.as.map Tm.row).length:Int):=by simp[e4]
      rw[H7 e4',H5 e4];simp only[D4,H2,B6,h0 e4];cases mTs t.as u.as l<;>rfl
     ·have e4':¬((t.as.map Tm.row).length:Int)=((u.as.map Tm.row).length:Int):=by simp;omega
      rw[H8 e4',H6 e4];rfl
    ·rw[H8 e3,H6 e3];rfl
   ·rw[H8 e2,H6 e2];rfl
  ·rw[H8 e1,H6 e1];rfl
theorem mI1:∀ t u:Tm,∀ l:List Bnd,au u->(∀ b∈l,au b.2)->l.length+t.nodes<=1048576->rn ⟨206,1,0⟩ [.int t.k,.int t.n,.str t.s,.sl (t.as.map Tm.row),.int u.k,.int u.n,.str u.s,.sl (u.as.map Tm.row),.sl (l.map Bnd.row)]=some (0,foI (mT t u l) (if t.k=1 then l.map Bnd.row else [])):=fun t u l hu hl hb=>by
 have ih:=fun (a:Tm) (_:a∈t.as)=>mI2 a
 have hnd:=Tm.nodes_eq t;have hls:=cu (xs:=t.as);have hlp:t.as.length=u.as.length->∀ n i (l:List Bnd),i+n=t.as.length->(∀ b∈l,au b.2)->l.length+((t.as.drop i).map Tm.nodes).sum<=1048576->rn ⟨206,1,1⟩ [.int (t.as.length:Int),.int (i:Int),.sl (l.map Bnd.row),.int t.k,.int t.n,.str t.s,.sl (t.as.map Tm.row),.int u.k,.int u.n,.str u.s,.sl (u.as.map Tm.row)]=match mTs (t.as.drop i) (u.as.drop i) l with
  |some l'=>some (0,[.sl (l'.map Bnd.row)])
  |none=>some (1,[.sl []]):=by
  intro hlen n;induction n with
  |zero =>
   intro i l hi hl hb;obtain rfl:i=t.as.length:=by omega
   rw[e206_1_1];simp only[B6,C0,D3,H4,H2,C8,mTs]
  |succ n ih2 =>
   intro i l hi hl hb;have hlt:i<t.as.length:=by omega
   have hlu:i<u.as.length:=by omega
   rw[B8 hlt] at hb ⊢;rw[B8 hlu];simp only[C4,K1] at hb;have hm:=C1 hlt;have hmu:=C1 hlu;have h1:=ih _ hm u.as[i] l (hu.sub hmu) hl (by omega)
   rw[e206_1_1];simp only[B6,C0,hlt,H3,H1,aq,B7,ab hlt,ae hlt (bc (by omega)),hlu,ab hlu,Tm.row_eq,nv0,nvS,dvI,dvB,dvS,dvL,B5,h1,mTs]
   cases hq:mT t.as[i] u.as[i] l with
   |none=>rfl
   |some l1 =>
    have hl1:=ko au (fun t a h ha=>h.sub ha) _ _ l l1 (hu.sub hmu) hl hq
    have hn1:=wh _ _ _ _ hq;have h2:=ih2 (i+1) l1 (by omega) hl1 (by omega)
    simp only[foI,nv0,nvS,dvI,dvB,dvS,dvL,B5,D4,H2,h2]
 have h0:=fun h=>hlp h t.as.length 0 l (by omega) hl (by rw[D2];omega)
 simp only[D2,C3] at h0;rw[e206_1_0,Mq];by_cases h1:t.k=1
 ·have hbd:=r184 l (by omega) t.s
  have hb2:F5 (l.length+1) M63=true:=nb (by omega)
  simp only[h1,H3,H1,if_true,hbd];cases hq:bnd l t.s with
  |some v =>
   have he:=r129 v u (uw hl hq);simp only[nv0,nvS,dvI,dvB,dvS,dvL,B5,H1,he];cases eqb v.row u.row<;>rfl
  |none =>
   simp only[nv0,nvS,dvI,dvB,dvS,dvL,B5,H2,B6,C2,C5,D0,hb2,H1,foI,D5,C4,D1,gc]
 ·simp only[h1,H4,H2,if_false]
  by_cases e1:t.k=u.k
  ·rw[H7 e1,H5 e1]
   by_cases e2:t.n=u.n
   ·rw[H7 e2,H5 e2]
    by_cases e3:t.s=u.s
    ·rw[H7 e3,H5 e3]
     by_cases e4:t.as.length=u.as.length
     ·have e4':((t.as.map Tm.row).length:Int)=((u.as.map Tm.row).length:Int):=by simp[e4]
      rw[H7 e4',H5 e4];simp only[D4,H2,B6,h0 e4];cases mTs t.as u.as l<;>rfl
     ·have e4':¬((t.as.map Tm.row).length:Int)=((u.as.map Tm.row).length:Int):=by simp;omega
      rw[H8 e4',H6 e4];rfl
    ·rw[H8 e3,H6 e3];rfl
   ·rw[H8 e2,H6 e2];rfl
  ·rw[H8 e1,H6 e1];rfl
theorem mS:∀ t u:Tm,∀ l:List Bnd,au u->(∀ b∈l,au b.2)->l.length+t.nodes<=1048576->(∀ l',mT t u l=some l'->rn ⟨209,1,0⟩ [.int t.k,.int t.n,.str t.s,.sl (t.as.map Tm.row),.int u.k,.int u.n,.str u.s,.sl (u.as.map Tm.row),.sl (l.map Bnd.row)]=some (0,[.bool true,.sl (l'.map Bnd.row)]))/\(mT t u l=none->(∃ X,rn ⟨209,1,0⟩ [.int t.k,.int t.n,.str t.s,.sl (t.as.map Tm.row),.int u.k,.int u.n,.str u.s,.sl (u.as.map Tm.row),.sl (l.map Bnd.row)]=some (0,[.bool false,.sl X]))\/rn ⟨209,1,0⟩ [.int t.k,.int t.n,.str t.s,.sl (t.as.map Tm.row),.int u.k,.int u.n,.str u.s,.sl (u.as.map Tm.row),.sl (l.map Bnd.row)]=some (1,[])):=Tm.ind fun t ih u l hu hl hb=>by
 have hnd:=Tm.nodes_eq t;have hls:=cu (xs:=t.as);have hlp:t.as.length=u.as.length->∀ n i (l:List Bnd),i+n=t.as.length->(∀ b∈l,au b.2)->l.length+((t.as.drop i).map Tm.nodes).sum<=1048576->rn ⟨209,1,1⟩ [.int (i:Int),.sl (l.map Bnd.row),.int t.k,.int t.n,.str t.s,.sl (t.as.map Tm.row),.int u.k,.int u.n,.str u.s,.sl (u.as.map Tm.row)]=match mTs (t.as.drop i) (u.as.drop i) l with
  |some l'=>some (0,[.sl (l'.map Bnd.row)])
  |none=>some (1,[]):=by
  intro hlen n;induction n with
  |zero =>
   intro i l hi hl hb;obtain rfl:i=t.as.length:=by omega
   rw[e209_1_1];simp only[B6,C0,D3,H4,H2,C8,mTs]
  |succ n ih2 =>
   intro i l hi hl hb;have hlt:i<t.as.length:=by omega
   have hlu:i<u.as.length:=by omega
   rw[B8 hlt] at hb ⊢;rw[B8 hlu];simp only[C4,K1] at hb;have hm:=C1 hlt;have hmu:=C1 hlu;obtain⟨h1,h1'⟩:=ih _ hm u.as[i] l (hu.sub hmu) hl (by omega)
   rw[e209_1_1];simp only[B6,C0,hlt,H3,H1,aq,B7,ab hlt,ae hlt (bc (by omega)),hlu,ab hlu,Tm.row_eq,nv0,nvS,dvI,dvB,dvS,dvL,B5,mTs]
   cases hq:mT t.as[i] u.as[i] l with
   |none =>
    rcases h1' hq with ⟨X,e⟩ |e
    ·rw[e];rfl
    ·rw[e];rfl
   |some l1 =>
    have hl1:=ko au (fun t a h ha=>h.sub ha) _ _ l l1 (hu.sub hmu) hl hq
    have hn1:=wh _ _ _ _ hq;have h2:=ih2 (i+1) l1 (by omega) hl1 (by omega)
    simp only[h1 l1 hq,nv0,nvS,dvI,dvB,dvS,dvL,B5,D7,H1,H2,D4,h2]
 have h0:=fun h=>hlp h t.as.length 0 l (by omega) hl (by rw[D2];omega)
 simp only[D2,C3] at h0;rw[e209_1_0,Mq];by_cases h1:t.k=1
 ·have hbd:=r115 l (by omega) hl t.s
  have hb2:F5 (l.length+1) M63=true:=nb (by omega)
  have hcp:=r65 u hu;simp only[h1,H3,H1,if_true,hbd];cases hq:bnd l t.s with
  |some v =>
   have he:=r68 v u (uw hl hq);simp only[nv0,nvS,dvI,dvB,dvS,dvL,B5,H1,he];cases eqb v.row u.row with
   |true=>exact⟨fun l' h=>by simp only[if_true,C9.injEq] at h;subst h;rfl,fun h=>by simp at h⟩
   |false=>exact⟨fun l' h=>by simp at h,fun _=>.inl ⟨_,rfl⟩⟩
  |none =>
   refine⟨fun l' h=>?_,fun h=>by simp at h⟩
   simp only[C9.injEq] at h;subst h;simp only[nv0,nvS,dvI,dvB,dvS,dvL,B5,H2,hcp,B6,C2,C5,D0,hb2,H1,D5,C4,D1,gc]
 ·simp only[h1,H4,H2,if_false]
  by_cases e1:t.k=u.k
  ·rw[H7 e1,H5 e1]
   by_cases e2:t.n=u.n
   ·rw[H7 e2,H5 e2]
    by_cases e3:t.s=u.s
    ·rw[H7 e3,H5 e3]
     by_cases e4:t.as.length=u.as.length
     ·have e4':((t.as.map Tm.row).length:Int)=((u.as.map Tm.row).length:Int):=by simp[e4]
      rw[H7 e4',H5 e4];simp only[D4,H2,h0 e4];cases mTs t.as u.as l with
      |none=>exact⟨fun l' h=>by simp at h,fun _=>.inr rfl⟩
      |some l2=>exact⟨fun l' h=>by simp only[C9.injEq] at h;subst h;rfl,fun h=>by simp at h⟩
     ·have e4':¬((t.as.map Tm.row).length:Int)=((u.as.map Tm.row).length:Int):=by simp;omega
      rw[H8 e4',H6 e4];exact⟨fun l' h=>by simp at h,fun _=>.inl ⟨_,rfl⟩⟩
    ·rw[H8 e3,H6 e3];exact⟨fun l' h=>by simp at h,fun _=>.inl ⟨_,rfl⟩⟩
   ·rw[H8 e2,H6 e2];exact⟨fun l' h=>by simp at h,fun _=>.inl ⟨_,rfl⟩⟩
  ·rw[H8 e1,H6 e1];exact⟨fun l' h=>by simp at h,fun _=>.inl ⟨_,rfl⟩⟩
theorem r210(l:List Bnd)(hl:l.length<=1048576)(hs:∀ b∈l,au b.2)(ns:List ByteArray)(hn:ns.length<=1048577):rn ⟨210,0,0⟩ [.sl (l.map Bnd.row),.sl (ns.map ag)]=some (0,[.sl ((rsB l (bw ns)).map Bnd.row)]):=by
 have h1:=r168 ns (by omega)
 have hsl:=cy ns;rw[e210_0_0,h1];generalize bw ns=ms at hsl ⊢;have key:∀ n i (acc:List Bnd),i+n=ms.length->acc.length<=i->rn ⟨210,0,1⟩ [.sl (l.map Bnd.row),.int (i:Int),.sl (acc.map Bnd.row),.sl (ms.map ag)]=some (0,[.sl ((acc++rsB l (ms.drop i)).map Bnd.row)]):=by
  intro n;induction n with
  |zero =>
   intro i acc hi ha;obtain rfl:i=ms.length:=by omega
   rw[e210_0_1];simp only[B6,C0,D3,H4,H2,C8,rsB,List.filterMap_nil,G8]
  |succ n ih =>
   intro i acc hi ha;have hlt:i<ms.length:=by omega
   rw[e210_0_1,B8 hlt,Ip];have hbd:=r115 l hl hs ms[i];have hb2:F5 (acc.length+1) M63=true:=nb (by omega)
   simp only[B6,C0,hlt,H3,H1,aq,B7,ab hlt,ae hlt (bc (by omega)),ag,nv0,nvS,dvI,dvB,dvS,dvL,B5,hbd]
   cases hq:bnd l ms[i] with
   |none =>
    have h2:=ih (i+1) acc (by omega) (by omega)
    simp only[nv0,nvS,dvI,dvB,dvS,dvL,B5,H2,h2]
   |some v =>
    have h2:=ih (i+1) (acc++[(ms[i],v)]) (by omega) (by simp;omega)
    simp only[D5,C4,D1,gc,ag] at h2;simp only[nv0,nvS,dvI,dvB,dvS,dvL,B5,H1,C2,C5,D0,hb2,h2,D5,C4,E2,F4,D8,gc]
 have h:=key ms.length 0 [] (by omega) (J0 _)
 simp only[C3,D1,D2,D8] at h;simp only[h,nv0,nvS,dvI,dvB,dvS,dvL,B5,D7,H1,H2]
theorem r151(t u:Tm)(ht:t.nodes<=1048576)(hu:au u):rn ⟨151,0,0⟩ [.int t.k,.int t.n,.str t.s,.sl (t.as.map Tm.row),.int u.k,.int u.n,.str u.s,.sl (u.as.map Tm.row)]=some (0,foI ((mT t u []).map fun l=>rsB l (bw (bw t.names))) []):=by
 obtain⟨h1,h2⟩:=mS t u [] hu (by simp) (by simpa using ht)
 have h3:=r102 t (by omega)
 have hnl:=bq t;have hsl:=cy t.names;rw[e151_0_0];simp only[D1] at h1 h2;cases hq:mT t u [] with
 |none =>
  rcases h2 hq with ⟨X,e⟩ |e
  ·rw[e];rfl
  ·rw[e];rfl
 |some l =>
  have hls:=ko au (fun t a h ha=>h.sub ha) t u [] l hu (by simp) hq
  have hln:=wh _ _ _ _ hq;simp only[C5] at hln;have h4:=r210 l (by omega) hls (bw t.names) (by omega)
  simp only[h1 l hq,nv0,nvS,dvI,dvB,dvS,dvL,B5,D7,H1,H2,D4,h3,h4,K6,foI]
theorem ac5(l:List Bnd)(hl:l.length<=1048576)(hs:∀ b∈l,b.2.nodes<=60)(gs:List Gu)(hg:gs.length<=1048576)(h:∀ g∈gs,g.l.nodes<=60/\g.r.nodes<=60):rn ⟨121,0,0⟩ [.sl (l.map Bnd.row),.sl (gs.map Gu.row)]=some (0,[.bool (gs.all fun g=>holds (di l g))]):=by
 have hss:∀ b∈l,au b.2:=fun b hb=>ao _ (by have:=hs b hb;omega)
 rw[e121_0_0];have hf:=Hy (F:=fun i=>rn ⟨121,0,1⟩ [.sl (l.map Bnd.row),.sl (gs.map Gu.row),.int (gs.map Gu.row).length,.int (i:Int)]) (xs:=gs) (p:=fun g=>holds (di l g)) (A:=some (0,[])) (B:=some (1,[])) (fun i hi=>?_) ?_
 ·simp only[C3] at hf
  rw[hf];cases gs.all fun g=>holds (di l g)<;>rfl
 ·have hgi:=h _ (C1 hi)
  have a1:=r179 l hl hss gs[i] ⟨by omega,by omega⟩
  have a2:=r178 (di l gs[i]) (Dh hs hgi.1 hgi.2);rw[e121_0_1];simp only[B7,ab hi,Fv,B6,aq,hi,C0,H3,H1,nv0,nvS,dvI,dvB,dvS,dvL,B5,ae hi (by unfold maxLen;omega),a1,a2]
  cases holds (di l gs[i])<;>rfl
 ·rw[e121_0_1]
  simp
theorem r231(d:DfM)(hd:DfG d)(i:Nat)(hi:i<d.ru.length)(u:Tm)(hu:u.nodes<=60):rn ⟨231,0,0⟩ [.sl (d.so.map ag),.sl (d.op.map OpM.row),.sl (d.ru.map RuM.row),.sl (d.st.map StM.row),.int (i:Int),.int u.k,.int u.n,.str u.s,.sl (u.as.map Tm.row)]=some (0,frR (gb d.ru[i] u)):=by
 have hr:=hd.ru (C1 hi);have hln:=az hr.lv;have hrn:=az hr.rv;have h1:=mI1 d.ru[i].l u [] (ao u (by omega)) (by simp) (by simp;omega)
 rw[e231_0_0];simp only[D1] at h1;simp only[B6,aq,hi,H3,H1,B7,ab hi,RuM.row,nv0,nvS,dvI,dvB,dvS,dvL,B5,h1];unfold gb;cases hq:mT d.ru[i].l u [] with
 |none=>rfl
 |some l =>
  have hls:=ko (fun t=>t.nodes<=60) (fun t a h ha=>mh t a h ha) _ u [] l hu (by simp) hq
  have hln2:=wh _ _ _ _ hq;simp only[C5] at hln2;have hss:∀ b∈l,au b.2:=fun b hb=>ao _ (by have:=hls b hb;omega)
  have h2:=ac5 l (by omega) hls d.ru[i].g hr.b.g (fun g hg=>⟨az (hr.gl g hg).1,az (hr.gl g hg).2⟩)
  have h3:=r125 l (by omega) hss d.ru[i].r (ao _ (by omega))
  have h4:=r124 (aS l d.ru[i].r) (md hss _ (ao _ (by omega)))
  simp only[foI,nv0,nvS,dvI,dvB,dvS,dvL,B5,D4,H2,h2,h3,h4];cases d.ru[i].g.all fun g=>holds (di l g)<;>rfl
theorem r175{ops:List OpM}(r:RuM)(hr:RuG ops r)(u:Tm)(hu:u.nodes<=60):rn ⟨175,0,0⟩ [.str r.n,.int (r.l).k,.int (r.l).n,.str (r.l).s,.sl ((r.l).as.map Tm.row),.int (r.r).k,.int (r.r).n,.str (r.r).s,.sl ((r.r).as.map Tm.row),.sl (r.g.map Gu.row),.int u.k,.int u.n,.str u.s,.sl (u.as.map Tm.row)]=some (0,[.bool (gb r u).isSome,.sl ((fiL r u).map Bnd.row)]):=by
 have hln:=az hr.lv;have hrn:=az hr.rv;have hgl:=hr.b.g;have h1:=r151 r.l u (by omega) (ao u (by omega))
 have hL:(∀ b∈fiL r u,b.2.nodes<=60)/\(fiL r u).length<=1048576:=by
  unfold fiL;cases hq:mT r.l u [] with
  |none=>exact⟨by simp,by simp⟩
  |some l =>
   have hls:=ko (fun t=>t.nodes<=60) (fun t a h ha=>mh t a h ha) _ u [] l hu (by simp) hq
   have h1:=cy r.l.names;have h2:=cy (bw r.l.names);have h3:=bq r.l;have h4:=Na l (bw (bw r.l.names));exact⟨fun b hb=>Nb (P:=fun t=>t.nodes<=60) hls _ b hb,by show(rsB l _).length<=_;omega⟩
 have hss:∀ b∈fiL r u,au b.2:=fun b hb=>ao _ (by have:=hL.1 b hb;omega)
 have e:rn ⟨151,0,0⟩ [.int (r.l).k,.int (r.l).n,.str (r.l).s,.sl ((r.l).as.map Tm.row),.int u.k,.int u.n,.str u.s,.sl (u.as.map Tm.row)]=some (0,[.bool (mT r.l u []).isSome,.sl ((fiL r u).map Bnd.row)]):=by
  rw[h1];unfold fiL;cases mT r.l u []<;>rfl
 have key:∀ n i (b:Bool),i+n=r.g.length->rn ⟨175,0,1⟩ [.bool b,.int (i:Int),.str r.n,.int (r.l).k,.int (r.l).n,.str (r.l).s,.sl ((r.l).as.map Tm.row),.int (r.r).k,.int (r.r).n,.str (r.r).s,.sl ((r.r).as.map Tm.row),.sl (r.g.map Gu.row),.sl ((fiL r u).map Bnd.row)]=some (0,[.bool (b&&(r.g.drop i).all fun g=>holds (di (fiL r u) g)),.sl ((fiL r u).map Bnd.row)]):=by
  intro n;induction n with
  |zero =>
   intro i b hi;obtain rfl:i=r.g.length:=by omega
   rw[e175_0_1];simp only[B6,C0,D3,H4,H2,C8,K5,K8]
  |succ n ih =>
   intro i b hi;have hlt:i<r.g.length:=by omega
   have hgi:=hr.gl _ (C1 hlt);have g1:=az hgi.1;have g2:=az hgi.2;have a1:=r108 (fiL r u) hL.2 hss r.g[i] ⟨by omega,by omega⟩
   have a2:=r107 (di (fiL r u) r.g[i]) (Dh hL.1 g1 g2);rw[e175_0_1,B8 hlt];cases b with
   |false=>simp[hlt]
   |true =>
    simp only[B6,C0,hlt,H3,H1,aq,B7,ab hlt,ae hlt (bc (by omega)),Fv,nv0,nvS,dvI,dvB,dvS,dvL,B5,a1,a2,ih (i+1) _ (by omega),J1,E4]
 have h2:=fun b=>key r.g.length 0 b (by omega)
 simp only[D2,C3] at h2;rw[e175_0_0];simp only[e,nv0,nvS,dvI,dvB,dvS,dvL,B5,D7,H1,H2,h2];rw[Iq];cases ((mT r.l u []).isSome&&r.g.all fun g=>holds (di (fiL r u) g))<;>rfl
theorem r201(d:DfM)(hd:DfG d)(u:Tm)(hu:u.nodes<=60):rn ⟨201,0,0⟩ [.sl (d.so.map ag),.sl (d.op.map OpM.row),.sl (d.ru.map RuM.row),.sl (d.st.map StM.row),.int u.k,.int u.n,.str u.s,.sl (u.as.map Tm.row)]=some (0,[.int (La (pq d.ru u))]):=by
 have hrl:=hd.b.ru;have key:∀ n i,i+n=d.ru.length->rn ⟨201,0,1⟩ [.int (d.ru.length:Int),.int (i:Int),.sl (d.so.map ag),.sl (d.op.map OpM.row),.sl (d.ru.map RuM.row),.sl (d.st.map StM.row),.int u.k,.int u.n,.str u.s,.sl (u.as.map Tm.row)]=match (d.ru.drop i).findIdx? (fun r=>(gb r u).isSome) with
  |some j=>some (1,[.int ((i+j:Nat):Int)])
  |none=>some (0,[]):=by
  intro n;induction n with
  |zero =>
   intro i hi;obtain rfl:i=d.ru.length:=by omega
   rw[e201_0_1];simp only[B6,C0,D3,H4,H2,C8,U4]
  |succ n ih =>
   intro i hi;have hlt:i<d.ru.length:=by omega
   have h1:=r231 d hd i hlt u hu;have h2:=ih (i+1) (by omega)
   rw[e201_0_1,B8 hlt,List.findIdx?_cons];simp only[C0,hlt,H3,H1,h1,ae hlt (bc (by omega)),h2]
   cases gb d.ru[i] u with
   |some w=>rfl
   |none =>
    simp only[frR,nv0,nvS,dvI,dvB,dvS,dvL,B5,H2,Option.isSome_none,N3,if_false];cases (d.ru.drop (i+1)).findIdx? (fun r=>(gb r u).isSome) with
    |none=>rfl
    |some j=>simp only[K6,show i+(j+1)=i+1+j by omega]
 have h:=key d.ru.length 0 (by omega)
 simp only[D2,C3,D0] at h;rw[e201_0_0];simp only[B6,h];unfold pq;cases d.ru.findIdx? (fun r=>(gb r u).isSome)<;>rfl
theorem r172(d:DfM)(hd:DfG d)(u:Tm)(hu:u.nodes<=60):rn ⟨172,0,0⟩ [.sl (d.so.map ag),.sl (d.op.map OpM.row),.sl (d.ru.map RuM.row),.sl (d.st.map StM.row),.int u.k,.int u.n,.str u.s,.sl (u.as.map Tm.row)]=some (0,[.int (La (pq d.ru u))]):=by
 have hrl:=hd.b.ru;have key:∀ n i,i+n=d.ru.length->rn ⟨172,0,1⟩ [.int (i:Int),.sl (d.so.map ag),.sl (d.op.map OpM.row),.sl (d.ru.map RuM.row),.sl (d.st.map StM.row),.int u.k,.int u.n,.str u.s,.sl (u.as.map Tm.row)]=match (d.ru.drop i).findIdx? (fun r=>(gb r u).isSome) with
  |some j=>some (1,[.int ((i+j:Nat):Int)])
  |none=>some (0,[]):=by
  intro n;induction n with
  |zero =>
   intro i hi;obtain rfl:i=d.ru.length:=by omega
   rw[e172_0_1];simp only[B6,C0,D3,H4,H2,C8,U4]
  |succ n ih =>
   intro i hi;have hlt:i<d.ru.length:=by omega
   have h1:=r175 d.ru[i] (hd.ru (C1 hlt)) u hu;have h2:=ih (i+1) (by omega)
   rw[e172_0_1,B8 hlt,List.findIdx?_cons];simp only[B6,C0,hlt,H3,H1,aq,B7,ab hlt,ae hlt (bc (by omega)),RuM.row,nv0,nvS,dvI,dvB,dvS,dvL,B5,h1,h2]
   cases gb d.ru[i] u with
   |some w=>rfl
   |none =>
    simp only[H2,Option.isSome_none,N3,if_false];cases (d.ru.drop (i+1)).findIdx? (fun r=>(gb r u).isSome) with
    |none=>rfl
    |some j=>simp only[K6,show i+(j+1)=i+1+j by omega]
 have h:=key d.ru.length 0 (by omega)
 simp only[D2,C3,D0] at h;rw[e172_0_0];simp only[h];unfold pq;cases d.ru.findIdx? (fun r=>(gb r u).isSome)<;>rfl
theorem r139(d:DfM)(hd:DfG d):∀ t:Tm,Gt d.op t->t.nodes<=60->∀ acc:List Int,acc.length+t.nodes<=1048576->rn ⟨139,0,0⟩ [.sl (d.so.map ag),.sl (d.op.map OpM.row),.sl (d.ru.map RuM.row),.sl (d.st.map StM.row),.int t.k,.int t.n,.str t.s,.sl (t.as.map Tm.row),.sl (acc.map al)]=some (0,nrR (nx d t) acc):=Tm.ind fun t ih ht hn acc hac=>by
 have hnd:=Tm.nodes_eq t;have hls:=cu (xs:=t.as);have hst:=hd.b.st;have hql:=Ws d.st t;have hlp:∀ n i,i+n=(stL d.st t).length->rn ⟨139,0,1⟩ [.int ((stL d.st t).length:Int),.int (i:Int),.sl (acc.map al),.sl (d.so.map ag),.sl (d.op.map OpM.row),.sl (d.ru.map RuM.row),.sl (d.st.map StM.row),.int t.k,.int t.n,.str t.s,.sl (t.as.map Tm.row),.int 0,.sl ((stL d.st t).map al),.sl []]=match og ((stL d.st t).drop i) (t.as.map (nx d)) with
  |some x=>some (1,[.int (x.1:Int),.sl ((acc++x.2).map al)])
  |none=>some (0,[.sl (acc.map al),.sl (d.so.map ag),.sl (d.op.map OpM.row),.sl (d.ru.map RuM.row),.sl (d.st.map StM.row),.int t.k,.int t.n,.str t.s,.sl (t.as.map Tm.row),.int 0,.sl []]):=by
  have hq:∀ j∈stL d.st t,0<=j/\j.toNat<t.as.length:=fun j hj=>Ry hd ht hj
  generalize stL d.st t=q at hql hq ⊢;intro n;induction n with
  |zero =>
   intro i hi;obtain rfl:i=q.length:=by omega
   rw[e139_0_1];simp only[B6,C0,D3,H4,H2,C8,Am]
  |succ n ih2 =>
   intro i hi;have hlt:i<q.length:=by omega
   obtain⟨h0,hm⟩:=hq _ (C1 hlt);rw[B8 hlt];rw[e139_0_1];generalize hj:q[i]=j at h0 hm ⊢;obtain⟨m,rfl⟩:∃ m:Nat,j=(m:Int):=⟨j.toNat,by omega⟩
   rw[B7] at hm;have hmm:=C1 hm;have hms:=dt (f:=Tm.nodes) hmm;have h1:=ih _ hmm (ht.sub hmm) (by omega) (acc++[(m:Int)]) (by simp;omega)
   have h2:=Fu (acc.map al) (by rw[B6];omega)
   have hb2:F5 (acc.length+1) M63=true:=nb (by omega)
   simp only[D5,C4,D1,al] at h1;rw[Di hm];simp only[B6,C0,hlt,H3,H1,aq,B7,ab hlt,ae hlt (bc (by omega)),hj,hm,ab hm,Tm.row_eq,al,nv0,nvS,dvI,dvB,dvS,dvL,B5,C2,C5,D0,hb2]
   simp only[h2,nv0,nvS,dvI,dvB,dvS,dvL,B5,B6,hb2,H1,h1];have h3:=ih2 (i+1) (by omega)
   cases nx d t.as[m] with
   |some x=>simp only[nrR,nv0,nvS,dvI,dvB,dvS,dvL,B5,H1,E2,F4,D8]
   |none=>simp only[nrR,nv0,nvS,dvI,dvB,dvS,dvL,B5,H2,h3]
 have h0:=hlp (stL d.st t).length 0 (by omega)
 simp only[D2,C3] at h0;have h1:=r200 d hd.b t;have h2:=r201 d hd t hn;rw[e139_0_0,Rx,h1];simp only[nv0,nvS,dvI,dvB,dvS,dvL,B5,B6,h0];cases og (stL d.st t) (t.as.map (nx d)) with
 |some x=>rfl
 |none =>
  simp only[nv0,nvS,dvI,dvB,dvS,dvL,B5,D7,H1,H2,h2];cases pq d.ru t with
  |none=>rfl
  |some i =>
   have q:¬((i:Int)<0):=by omega
   simp only[La,q,H4,H2,K6,nrR,G8]
theorem r109(d:DfM)(hd:DfG d):∀ t:Tm,Gt d.op t->t.nodes<=60->rn ⟨109,0,0⟩ [.sl (d.so.map ag),.sl (d.op.map OpM.row),.sl (d.ru.map RuM.row),.sl (d.st.map StM.row),.int t.k,.int t.n,.str t.s,.sl (t.as.map Tm.row)]=some (0,nrS (nx d t)):=Tm.ind fun t ih ht hn=>by
 have hnd:=Tm.nodes_eq t;have hls:=cu (xs:=t.as);have hst:=hd.b.st;have hql:=Io d.st t.s;have hlp:∀ n i,i+n=(kt d.st t.s).length->rn ⟨109,0,1⟩ [.int (i:Int),.sl (d.so.map ag),.sl (d.op.map OpM.row),.sl (d.ru.map RuM.row),.sl (d.st.map StM.row),.int t.k,.int t.n,.str t.s,.sl (t.as.map Tm.row),.int 0,.sl ((kt d.st t.s).map al),.sl []]=match og (if t.k=2 then (kt d.st t.s).drop i else []) (t.as.map (nx d)) with
  |some x=>some (1,[.int (x.1:Int),.sl (x.2.map al)])
  |none=>some (0,[.sl (d.so.map ag),.sl (d.op.map OpM.row),.sl (d.ru.map RuM.row),.sl (d.st.map StM.row),.int t.k,.int t.n,.str t.s,.sl (t.as.map Tm.row),.int 0,.sl []]):=by
  by_cases hk:t.k=2
  ·have hq:∀ j∈kt d.st t.s,0<=j/\j.toNat<t.as.length:=fun j hj=>Ry hd ht (by unfold stL;rw[H5 hk];exact hj)
   generalize kt d.st t.s=q at hql hq ⊢;intro n;simp only[H5 hk];induction n with
   |zero =>
    intro i hi;obtain rfl:i=q.length:=by omega
    rw[e109_0_1];simp only[B6,C0,D3,H4,H2,C8,Am]
   |succ n ih2 =>
    intro i hi;have hlt:i<q.length:=by omega
    obtain⟨h0,hm⟩:=hq _ (C1 hlt);rw[B8 hlt];rw[e109_0_1];generalize hj:q[i]=j at h0 hm ⊢;obtain⟨m,rfl⟩:∃ m:Nat,j=(m:Int):=⟨j.toNat,by omega⟩
    rw[B7] at hm;have hmm:=C1 hm;have hms:=dt (f:=Tm.nodes) hmm;have h1:=ih _ hmm (ht.sub hmm) (by omega)
    have q2:(m:Int)<=(t.as.length:Int)-1:=by omega
    have hw:IntKind.i64.wrap ((t.as.length:Int)-1)=(t.as.length:Int)-1:=IntWalk.i64_in _ (by omega)
    have h3:=ih2 (i+1) (by omega)
    rw[Di hm,H7 hk];simp only[B6,C0,hlt,H3,H1,aq,B7,ab hlt,ae hlt (bc (by omega)),hj,hm,hw,h0,q2,rIn,K8,D4,H2,ab hm,Tm.row_eq,al,nv0,nvS,dvI,dvB,dvS,dvL,B5,h1]
    cases hx:nx d t.as[m] with
    |some x =>
     obtain⟨u,_,_,hu,_⟩:=yt d _ x.1 x.2 hx;have hun:=iy x.2 _ u hu;have hb2:F5 (0+1+x.2.length) M63=true:=nb (by omega)
     simp only[nrS,nv0,nvS,dvI,dvB,dvS,dvL,B5,H1,C2,C5,B6,hb2,F4,D8,C4,al]
    |none=>simp only[nrS,nv0,nvS,dvI,dvB,dvS,dvL,B5,H2,h3]
  ·intro n i hi
   rw[H6 hk,Am,e109_0_1,H8 hk];cases decide ((i:Int)<(((kt d.st t.s).map al).length:Int))<;>rfl
 have h0:=hlp (kt d.st t.s).length 0 (by omega)
 simp only[D2,C3] at h0;have h1:=fun a b c=>r171 a b c d.st hd.b.st t.s
 have h2:=r172 d hd t hn;have hmx:∀ x:Option Nat,rn ⟨173,0,0⟩ [.int (La x),.int 0]=some (0,[.int ((x.getD 0:Nat):Int)]):=fun x=>by
  rw[e173_0_0];cases x with
  |none=>rfl
  |some i =>
   by_cases hi:(0:Int)<La (some i)
   ·rw[H7 hi];rfl
   ·rw[H8 hi]
    simp only[La] at hi;obtain rfl:i=0:=by omega
    rfl
 rw[e109_0_0,Rx,h1];simp only[nv0,nvS,dvI,dvB,dvS,dvL,B5,h0];have e:(if t.k=2 then kt d.st t.s else [])=stL d.st t:=rfl
 rw[e];cases og (stL d.st t) (t.as.map (nx d)) with
 |some x=>rfl
 |none =>
  simp only[nv0,nvS,dvI,dvB,dvS,dvL,B5,D7,H1,H2,h2,hmx];cases pq d.ru t with
  |none=>rfl
  |some i =>
   have q:(0:Int)<=(i:Int):=by omega
   simp only[La,q,H3,K6,nrS,O6,D1]
theorem r110(d:DfM)(hd:DfG d)(t:Tm)(ht:Gt d.op t)(hn:t.nodes<=60)(i:Nat)(p:List Int)(hx:nx d t=some (i,p)):rn ⟨110,0,0⟩ [.sl (d.so.map ag),.sl (d.op.map OpM.row),.sl (d.ru.map RuM.row),.sl (d.st.map StM.row),.int t.k,.int t.n,.str t.s,.sl (t.as.map Tm.row),.int (i:Int),.sl (p.map al)]=some (0,[.int (eg d t i p).k,.int (eg d t i p).n,.str (eg d t i p).s,.bool (eg d t i p).valid,.sl ((eg d t i p).as.map Tm.row)]):=by
 obtain⟨u,r,w,h1,h2,h3,e,hu,hun,hw,hwn,hg,hgn,hp,hr⟩:=wj hd ht hn hx;obtain⟨hi,hri⟩:=List.getElem?_eq_some_iff.1 h2;have hrn:=az hr.rv;have hln:=az hr.lv;have a1:=r174 t u (by omega) p (by omega) h1
 have a2:=r175 r hr u hun;have e3:=Iq r u;rw[h3] at e3;split at e3
 ·simp only[C9.injEq] at e3
  have hL:(∀ b∈fiL r u,b.2.nodes<=60)/\(fiL r u).length<=1048576:=by
   unfold fiL;cases hq:mT r.l u [] with
   |none=>exact⟨by simp,by simp⟩
   |some l =>
    have hls:=ko (fun t=>t.nodes<=60) (fun t a h ha=>mh t a h ha) _ u [] l hun (by simp) hq
    have h1:=cy r.l.names;have h2:=cy (bw r.l.names);have h3:=bq r.l;have h4:=Na l (bw (bw r.l.names));exact⟨fun b hb=>Nb (P:=fun t=>t.nodes<=60) hls _ b hb,by show(rsB l _).length<=_;omega⟩
  have hss:∀ b∈fiL r u,au b.2:=fun b hb=>ao _ (by have:=hL.1 b hb;omega)
  have a3:=r70 (fiL r u) hL.2 hss r.r (ao _ (by omega))
  have a4:=r69 (aS (fiL r u) r.r) (md hss _ (ao _ (by omega)))
  rw[<-e3] at a4;have a5:=r176 w (by omega) p t u (by omega) (by omega) h1
  have a6:=r100 (eg d t i p) (by omega) hg.w
  rw[<-e] at a5;rw[e110_0_0];subst hri;rw[h3] at a2;simp only[a1,B6,aq,hi,H3,H1,B7,ab hi,RuM.row,nv0,nvS,dvI,dvB,dvS,dvL,B5,a2,a3,a4,a5,a6,O4]
 ·simp at e3
theorem r196(d:DfM)(hb:DfB d)(t:Tm)(hw:Wt t)(hn:t.nodes<=2097152):rn ⟨196,0,0⟩ [.sl (d.so.map ag),.sl (d.op.map OpM.row),.sl (d.ru.map RuM.row),.sl (d.st.map StM.row),.int t.k,.int t.n,.str t.s,.sl (t.as.map Tm.row)]=some (0,[.bool (cfg d t)]):=by
 have h1:=r98 d hb;have h2:=r100 t (by omega) hw
 have h4:=r64 (d.so.map ag) d.op hb.op [] (by simp) t hw
 simp only[D1] at h4;rw[e196_0_0];simp only[h1,h2,nv0,nvS,dvI,dvB,dvS,dvL,B5];unfold cfg;cases d.valid<;>try rfl
 cases hv:t.valid with
 |false=>rfl
 |true =>
  have h3:=r170 t (by have:=az hv;omega)
  simp only[h3,h4,nv0,nvS,dvI,dvB,dvS,dvL,B5,H1,E4];cases isG t<;>rfl
theorem r233(d:DfM)(hb:DfB d)(t:Tm)(hw:Wt t)(hn:t.nodes<=2097152)(f:Int):rn ⟨233,0,0⟩ [.sl (d.so.map ag),.sl (d.op.map OpM.row),.sl (d.ru.map RuM.row),.sl (d.st.map StM.row),.int t.k,.int t.n,.str t.s,.sl (t.as.map Tm.row),.int f]=some (0,[.bool (cfg d t&&(decide (0<=f)&&decide (f<=200)))]):=by
 have h1:=r196 d hb t hw hn;rw[e233_0_0];simp only[h1,rIn,nv0,nvS,dvI,dvB,dvS,dvL,B5];cases cfg d t<;>rfl
theorem ac6(d:DfM)(hd:DfG d):∀ (n:Nat) (t:Tm) (S:List Tm) (R:List (Nat×List Int)) (f:Nat),Gt d.op t->t.nodes<=60->R.length+n=f->f<=200->S.length<=R.length->rn ⟨67,0,1⟩ [.int (f:Int),.sl (d.so.map ag),.sl (d.op.map OpM.row),.sl (d.ru.map RuM.row),.sl (d.st.map StM.row),.int 1,.int t.k,.int t.n,.str t.s,.int (R.length:Int),.sl (t.as.map Tm.row),.sl (R.map Dj),.sl (S.map Tm.row)]=some (0,[.int (gn d n t).o,.int (gn d n t).t.k,.int (gn d n t).t.n,.str (gn d n t).t.s,.int ((R.length+(gn d n t).rd.length:Nat):Int),.sl ((gn d n t).t.as.map Tm.row),.sl ((R++(gn d n t).rd).map Dj),.sl ((S++t::(gn d n t).st).map Tm.row)]):=by
 intro n;induction n with
 |zero =>
  intro t S R f ht hn hR hf hS;have h1:=r109 d hd t ht hn;have e1:((R.length:Int)=(f:Int)):=by omega
  have b1:F5 (S.length+1) M63=true:=nb (by omega)
  have hi:inb (S.length:Int) (S.length+1)=true:=by simp[inb];omega
  have ho:=Ao (S.map Tm.row) t.k t.n 0 0 t.s ⟨#[]⟩ (t.as.map Tm.row) [];rw[B6] at ho;rw[e67_0_1];cases hx:nx d t with
  |none =>
   rw[hx] at h1;simp only[h1,nrS,nv0,nvS,dvI,dvB,dvS,dvL,B5,J6,H1,B6,E6,C2,C5,D0,b1,hi,B7,ho,qk hx,G8,O2,D5,C4,D1,Tm.row_eq]
  |some x =>
   rw[hx] at h1;simp only[h1,nrS,nv0,nvS,dvI,dvB,dvS,dvL,B5,D4,H1,H2,B6,E6,C2,C5,D0,b1,hi,B7,ho,e1,H3,Dk hx,G8,O2,D5,C4,D1,Tm.row_eq]
 |succ n ih =>
  intro t S R f ht hn hR hf hS;have h1:=r109 d hd t ht hn;have e1:¬((R.length:Int)=(f:Int)):=by omega
  have b1:F5 (S.length+1) M63=true:=nb (by omega)
  have b2:F5 (R.length+1) M63=true:=nb (by omega)
  have hi:inb (S.length:Int) (S.length+1)=true:=by simp[inb];omega
  have ho:=Ao (S.map Tm.row) t.k t.n 0 0 t.s ⟨#[]⟩ (t.as.map Tm.row) [];have hw:IntKind.i64.wrap ((R.length:Int)+1)=((R.length+1:Nat):Int):=IntWalk.i64_in _ (by omega)
  rw[B6] at ho;rw[e67_0_1];cases hx:nx d t with
  |none =>
   rw[hx] at h1;simp only[h1,nrS,nv0,nvS,dvI,dvB,dvS,dvL,B5,J6,H1,B6,E6,C2,C5,D0,b1,hi,B7,ho,qk hx,G8,O2,D5,C4,D1,Tm.row_eq]
  |some x =>
   rw[hx] at h1;have h3:=r110 d hd t ht hn x.1 x.2 hx;obtain⟨_,_,_,_,_,_,_,_,_,_,_,hg,hgn,_⟩:=wj hd ht hn hx;cases hv:(eg d t x.1 x.2).valid with
   |false =>
    rw[hv] at h3;simp only[h1,nrS,h3,nv0,nvS,dvI,dvB,dvS,dvL,B5,D4,J6,H1,H2,B6,E6,C2,C5,D0,b1,hi,B7,ho,e1,H4,Ir hx hv,G8,O2,D5,C4,D1,Tm.row_eq]
   |true =>
    rw[hv] at h3;have h5:=ih (eg d t x.1 x.2) (S++[t]) (R++[x]) f hg (az hv) (by simp;omega) hf (by simp;omega)
    simp only[D5,C4,D1,Tm.row_eq,Dj,E6,C2,C5,D0] at h5;have ea:R.length+1+(gn d n (eg d t x.1 x.2)).rd.length=R.length+((gn d n (eg d t x.1 x.2)).rd.length+1):=by omega
    simp only[h1,nrS,h3,nv0,nvS,dvI,dvB,dvS,dvL,B5,D4,H1,H2,B6,E6,C2,C5,D0,b1,b2,hi,hw,B7,ho,e1,H4,h5,Nc hx hv];simp only[D5,C4,D1,Tm.row_eq,Dj,E2,F4,D8,C2,ea]
theorem r67(d:DfM)(hb:DfB d)(t:Tm)(hw:Wt t)(f:Int)(f1:0<=f)(f2:f<=200)(hc:cfg d t=true):rn ⟨67,0,0⟩ [.sl (d.so.map ag),.sl (d.op.map OpM.row),.sl (d.ru.map RuM.row),.sl (d.st.map StM.row),.int t.k,.int t.n,.str t.s,.sl (t.as.map Tm.row),.int f]=some (0,Zi (gn d f.toNat t) t):=by
 obtain⟨hd,ht,hn60⟩:=Lb hb hw hc;have h2:=r65 t (ao t (by omega))
 have h3:=ac6 d hd f.toNat t [] [] f.toNat ht hn60 (by simp) (by omega) (by simp)
 have ef:((f.toNat:Nat):Int)=f:=by omega
 simp only[ef,D1,C5,D0,D8,C3] at h3;rw[e67_0_0];simp only[h2,nv0,nvS,dvI,dvB,dvS,dvL,B5,h3,D7,H1,H2,Zi]
theorem r197(d:DfM)(hb:DfB d)(t:Tm)(hw:Wt t)(hn:t.nodes<=2097152)(f:Int):rn ⟨197,0,0⟩ [.sl (d.so.map ag),.sl (d.op.map OpM.row),.sl (d.ru.map RuM.row),.sl (d.st.map StM.row),.int t.k,.int t.n,.str t.s,.sl (t.as.map Tm.row),.int f]=some (0,rtD (wk d t f)):=by
 have h1:=r233 d hb t hw hn f;rw[e197_0_0,h1,Wu];cases hc:(cfg d t&&(decide (0<=f)&&decide (f<=200))) with
 |false=>rfl
 |true =>
  simp only[B9,decide_eq_true_eq] at hc;have h2:=r67 d hb t hw f hc.2.1 hc.2.2 hc.1;simp only[nv0,nvS,dvI,dvB,dvS,dvL,B5,D4,H2,H1,h2,Zi,rtD]
theorem r77(vars:List ByteArray)(t:Tm)(h:au t)(cs:aa)(c:Int):rn ⟨77,0,0⟩ [.sl (vars.map ag),.int t.k,.int t.n,.str t.s,.sl (t.as.map Tm.row),.sl cs,.int c]=some (0,[.int (S.instR vars t c).k,.int (S.instR vars t c).n,.str (S.instR vars t c).s,.bool (isC vars.length c),.sl ((S.instR vars t c).as.map Tm.row)]):=by
 have e1:=r123 vars.length c;have e2:=r122 vars c;have e3:=r125 (bo vars c) (mi vars c) (er vars c) t h;have e4:=r124 _ (md (er vars c) t h);rw[e77_0_0];simp only[B6,e1,nv0,nvS,dvI,dvB,dvS,dvL,B5];unfold S.instR;cases hc:isC vars.length c with
 |false=>rfl
 |true=>simp only[D4,H2,e2,e3,e4,nv0,nvS,dvI,dvB,dvS,dvL,B5,if_true];rfl
theorem r72(vars:List ByteArray)(t:Tm)(h:au t)(cs:aa)(c:Int):rn ⟨72,0,0⟩ [.sl (vars.map ag),.int t.k,.int t.n,.str t.s,.sl (t.as.map Tm.row),.sl cs,.int c]=some (0,[.int (S.instR vars t c).k,.int (S.instR vars t c).n,.str (S.instR vars t c).s,.bool (isC vars.length c),.sl ((S.instR vars t c).as.map Tm.row)]):=by
 have e1:=r103 vars.length;have e2:=r39 vars t h c;rw[e72_0_0];simp only[B6,e1,nv0,nvS,dvI,dvB,dvS,dvL,B5,rIn,Xm];unfold S.instR;cases hc:isC vars.length c with
 |false=>rfl
 |true=>simp only[D4,H2,e2,nv0,nvS,dvI,dvB,dvS,dvL,B5,if_true]
theorem r80(vars:List ByteArray)(l t:Tm)(h:au t)(gs:aa)(c:Int):rn ⟨80,0,0⟩ [.sl (vars.map ag),.int l.k,.int l.n,.str l.s,.sl (l.as.map Tm.row),.int t.k,.int t.n,.str t.s,.sl (t.as.map Tm.row),.sl gs,.int c]=some (0,[.int (S.instR vars t c).k,.int (S.instR vars t c).n,.str (S.instR vars t c).s,.sl ((S.instR vars t c).as.map Tm.row)]):=by
 have e1:=r77 vars t h [] c;rw[e80_0_0];simp only[e1,nv0,nvS,dvI,dvB,dvS,dvL,B5]
theorem r40(vars:List ByteArray)(l t:Tm)(h:au t)(gs:aa)(c:Int):rn ⟨40,0,0⟩ [.sl (vars.map ag),.int l.k,.int l.n,.str l.s,.sl (l.as.map Tm.row),.int t.k,.int t.n,.str t.s,.sl (t.as.map Tm.row),.sl gs,.int c]=some (0,[.int (S.instR vars t c).k,.int (S.instR vars t c).n,.str (S.instR vars t c).s,.sl ((S.instR vars t c).as.map Tm.row)]):=by
 have e1:=r72 vars t h [] c;rw[e40_0_0];simp only[e1,nv0,nvS,dvI,dvB,dvS,dvL,B5]
theorem ac7(d:DfM)(hb:DfB d)(vars:List ByteArray)(hv:vars.length<=1048576)(hvs:∀ x∈vars,x.size<=maxLen)(t:Tm)(hw:Wt t)(hn:t.nodes<=1048577)(cs:List Int)(hcs:cs.length<=1048576):rn ⟨61,0,0⟩ [.sl (d.so.map ag),.sl (d.op.map OpM.row),.sl (d.ru.map RuM.row),.sl (d.st.map StM.row),.sl (vars.map ag),.int t.k,.int t.n,.str t.s,.sl (t.as.map Tm.row),.sl (cs.map al)]=some (0,[.bool (Aq d vars t cs)]):=by
 have hl1:∀ n i,i+n=cs.length->rn ⟨61,0,1⟩ [.int (i:Int),.sl (d.so.map ag),.sl (d.op.map OpM.row),.sl (d.ru.map RuM.row),.sl (d.st.map StM.row),.sl (vars.map ag),.int t.k,.int t.n,.str t.s,.sl (t.as.map Tm.row),.sl (cs.map al)]=bif kq vars.length (prv cs i) (cs.drop i) then some (0,[.sl (d.so.map ag),.sl (d.op.map OpM.row),.sl (d.ru.map RuM.row),.sl (d.st.map StM.row),.sl (vars.map ag),.int t.k,.int t.n,.str t.s,.sl (t.as.map Tm.row),.sl (cs.map al)]) else some (1,[]):=by
  intro n;induction n with
  |zero =>
   intro i hi;obtain rfl:i=cs.length:=by omega
   rw[e61_0_1];simp only[B6,C0,D3,H4,H2,C8,kq,H1]
  |succ n ih =>
   intro i hi;have hlt:i<cs.length:=by omega
   have h1:=r103 vars.length;have hp:prv cs (i+1)=some cs[i]:=by simp[prv,hlt]
   have h2:=ih (i+1) (by omega)
   rw[hp] at h2;rw[e61_0_1,B8 hlt];simp only[B6,C0,hlt,H3,H1,aq,B7,ab hlt,ae hlt (bc (by omega)),al,nv0,nvS,dvI,dvB,dvS,dvL,B5,h1,rIn,Xm,kq,h2]
   cases isC vars.length cs[i] with
   |false=>rfl
   |true =>
    rcases i with _ |j
    ·simp[prv]
    ·have hj:j<cs.length:=by omega
     have q1:(0:Int)<((j+1:Nat):Int):=by omega
     have hw:IntKind.i64.wrap (((j+1:Nat):Int)-1)=(j:Int):=by rw[IntWalk.i64_in _ (by omega)];omega
     simp only[q1,hw,aq,hj,H3,H1,H2,D4,E4,B7,ab hj,al,nv0,nvS,dvI,dvB,dvS,dvL,B5,prv,F7 hj];by_cases q:cs[j+1]<=cs[j]<;>simp[q]
 have h1:=hl1 cs.length 0 (by omega)
 simp only[D2,C3,prv] at h1;have h2:=r98 d hb;have h3:=r99 vars hv hvs;have h4:=r100 t (by omega) hw
 have hnt:=bq t;have hsl:=cy t.names;have h5:=r102 t hn;have h5':=r101 (bw t.names) vars (by omega) (bc (by omega))
 have h6:=r62 vars hv;have h7:=r64 (d.so.map ag) d.op hb.op (wv vars) (by unfold wv;rw[B6];omega) t hw
 rw[e61_0_0];simp only[B6,h1,h2,h3,h4,h5,h5',h6,h7,nv0,nvS,dvI,dvB,dvS,dvL,B5,D7,H1,H2];unfold Aq jn;cases d.valid<;>try rfl
 cases decide (vars.length<=3)<;>try rfl
 cases dis vars<;>try rfl
 cases vars.all qt<;>try rfl
 cases t.valid<;>try rfl
 have hw:=Mp t vars;cases hw2:fo t vars with
 |true =>
  rw[hw2] at hw;have:(wo (bw t.names) vars).length=0:=hw.2 rfl;cases kq vars.length none cs with
  |false=>simp[this];rfl
  |true =>
   simp only[this,C3,Int.lt_irrefl,H4,H2,H1,D4,nv0,nvS,dvI,dvB,dvS,dvL,B5,D7,H1,H2,h6,h7];simp
 |false =>
  rw[hw2] at hw;have:¬(wo (bw t.names) vars).length=0:=fun h=>by have:=hw.1 h;simp at this
  have:0<(wo (bw t.names) vars).length:=by omega
  simp[this]
theorem r46(l:List Int)(hl:l.length<=maxLen)(x:Int):rn ⟨46,0,0⟩ [.sl (l.map al),.int x]=some (0,[.bool (Lc l x)]):=by
 have key:∀ n i,i+n=l.length->rn ⟨46,0,1⟩ [.sl (l.map al),.int x,.int (i:Int)]=bif Lc (l.drop i) x then some (1,[]) else some (0,[]):=by
  intro n;induction n with
  |zero =>
   intro i hi;obtain rfl:i=l.length:=by omega
   rw[e46_0_1];simp only[B6,C0,D3,H4,H2,C8,Lc,List.any_nil,H2]
  |succ n ih =>
   intro i hi;have hlt:i<l.length:=by omega
   rw[e46_0_1,B8 hlt];simp only[B6,C0,hlt,H3,H1,aq,B7,ab hlt,ae hlt hl,al,nv0,nvS,dvI,dvB,dvS,dvL,B5,ih (i+1) (by omega)]
   simp only[Lc,List.any_cons];by_cases h1:l[i]=x<;>simp[h1]
 have h:=key l.length 0 (by omega)
 simp only[D2,C3] at h;rw[e46_0_0,h];cases Lc l x<;>rfl
theorem atI(t:Tm)(p:List Int)(hp:p.length<=1048576):rn ⟨202,0,0⟩ [.int t.k,.int t.n,.str t.s,.sl (t.as.map Tm.row),.sl (p.map al)]=some (0,[.int (atO t p).k,.int (atO t p).n,.str (atO t p).s,.sl ((atO t p).as.map Tm.row),.bool (atT t p).isSome]):=by
 have key:∀ n i (t:Tm),i+n=p.length->rn ⟨202,0,1⟩ [.sl (p.map al),.int (p.length:Int),.int (i:Int),.int t.k,.int t.n,.str t.s,.sl (t.as.map Tm.row),.int 0,.int 0,.str e0,.sl []]=match atT t (p.drop i) with
  |some u=>some (0,[.int u.k,.int u.n,.str u.s,.sl (u.as.map Tm.row),.int 0,.int 0,.str e0,.sl []])
  |none=>some (1,[.int 0,.int 0,.str e0,.sl []]):=by
  intro n;induction n with
  |zero =>
   intro i t hi;obtain rfl:i=p.length:=by omega
   rw[e202_0_1];simp only[B6,C0,D3,H4,H2,C8,atT]
  |succ n ih =>
   intro i t hi;have hlt:i<p.length:=by omega
   rw[e202_0_1,B8 hlt];generalize hj:p[i]=j;by_cases h0:j<0
   ·have e:atT t (j::p.drop (i+1))=none:=by
     simp only[atT];split
     ·rw[H6 (by omega)]
     ·rfl
    rw[e];simp only[B6,C0,hlt,H3,H1,aq,B7,ab hlt,ae hlt (bc (by omega)),hj,al,nv0,nvS,dvI,dvB,dvS,dvL,B5,h0]
   ·obtain⟨m,rfl⟩:∃ m:Nat,j=(m:Int):=⟨j.toNat,by omega⟩
    by_cases hm:m<t.as.length
    ·have h2:=ih (i+1) t.as[m] (by omega)
     have e:atT t ((m:Int)::p.drop (i+1))=atT t.as[m] (p.drop (i+1)):=by
      simp only[atT,B7,dif_pos hm];rw[H5 (by omega)]
     have q2:¬((t.as.length:Int)<=(m:Int)):=by omega
     rw[e,<-h2];simp only[B6,C0,hlt,H3,H1,aq,B7,ab hlt,ae hlt (bc (by omega)),hm,hj,h0,q2,H4,H2,ab hm,Tm.row_eq,al,nv0,nvS,dvI,dvB,dvS,dvL,B5]
    ·have e:atT t ((m:Int)::p.drop (i+1))=none:=by simp only[atT,B7,dif_neg hm]
     have q2:(t.as.length:Int)<=(m:Int):=by omega
     rw[e];simp only[B6,C0,hlt,H3,H1,aq,B7,ab hlt,ae hlt (bc (by omega)),hj,h0,q2,H4,H2,al,nv0,nvS,dvI,dvB,dvS,dvL,B5]
 have h1:=key p.length 0 t (by omega)
 simp only[C3,D2] at h1;rw[e202_0_0];simp only[B6,h1];unfold atO;cases atT t p<;>rfl
theorem atS(t:Tm)(hn:t.nodes<=1048577)(p:List Int)(hp:p.length<=1048576):rn ⟨174,0,0⟩ [.int t.k,.int t.n,.str t.s,.sl (t.as.map Tm.row),.sl (p.map al)]=some (0,[.int (atO t p).k,.int (atO t p).n,.str (atO t p).s,.bool (atT t p).isSome,.sl ((atO t p).as.map Tm.row)]):=by
 have key:∀ n i (t:Tm),i+n=p.length->t.nodes<=1048577->rn ⟨174,0,1⟩ [.sl (p.map al),.int (i:Int),.int t.k,.int t.n,.str t.s,.sl (t.as.map Tm.row),.int 0,.int 0,.str e0,.sl []]=match atT t (p.drop i) with
  |some u=>some (0,[.int u.k,.int u.n,.str u.s,.sl (u.as.map Tm.row),.int 0,.int 0,.str e0,.sl []])
  |none=>some (1,[.int 0,.int 0,.str e0,.sl []]):=by
  intro n;induction n with
  |zero =>
   intro i t hi _;obtain rfl:i=p.length:=by omega
   rw[e174_0_1];simp only[B6,C0,D3,H4,H2,C8,atT]
  |succ n ih =>
   intro i t hi hn;have hlt:i<p.length:=by omega
   have hls:=cu (xs:=t.as);have hnd:=Tm.nodes_eq t;have hw:IntKind.i64.wrap ((t.as.length:Int)-1)=(t.as.length:Int)-1:=IntWalk.i64_in _ (by omega)
   rw[e174_0_1,B8 hlt];generalize hj:p[i]=j;by_cases h0:0<=j
   ·obtain⟨m,rfl⟩:∃ m:Nat,j=(m:Int):=⟨j.toNat,by omega⟩
    by_cases hm:m<t.as.length
    ·have hmn:=dt (f:=Tm.nodes) (C1 hm)
     have h2:=ih (i+1) t.as[m] (by omega) (by omega)
     have e:atT t ((m:Int)::p.drop (i+1))=atT t.as[m] (p.drop (i+1)):=by
      simp only[atT,B7,dif_pos hm];rw[H5 (by omega)]
     have q2:(m:Int)<=(t.as.length:Int)-1:=by omega
     rw[e,<-h2];simp only[B6,C0,hlt,H3,H1,aq,B7,ab hlt,ae hlt (bc (by omega)),hm,hj,hw,rIn,h0,q2,K8,D4,H2,ab hm,Tm.row_eq,al,nv0,nvS,dvI,dvB,dvS,dvL,B5]
    ·have e:atT t ((m:Int)::p.drop (i+1))=none:=by simp only[atT,B7,dif_neg hm]
     have q2:¬(m:Int)<=(t.as.length:Int)-1:=by omega
     rw[e];simp only[B6,C0,hlt,H3,H1,aq,B7,ab hlt,ae hlt (bc (by omega)),hj,hw,rIn,h0,q2,H4,U3,J6,al,nv0,nvS,dvI,dvB,dvS,dvL,B5]
   ·have e:atT t (j::p.drop (i+1))=none:=by
     simp only[atT];split<;>simp[h0]
    rw[e];simp only[B6,C0,hlt,H3,H1,aq,B7,ab hlt,ae hlt (bc (by omega)),hj,hw,rIn,h0,H4,Q4,J6,al,nv0,nvS,dvI,dvB,dvS,dvL,B5]
 have h1:=key p.length 0 t (by omega) hn
 simp only[C3,D2] at h1;rw[e174_0_0,h1];unfold atO;cases ha:atT t p with
 |none=>rfl
 |some u =>
  have hun:=iy p t u ha;have h3:=r65 u (ao u (by omega))
  simp only[nv0,nvS,dvI,dvB,dvS,dvL,B5,D7,H1,H2,h3,O6,O4]
theorem ad5:∀ t:Tm,∀ p:List Int,p.length+t.nodes<=1048576->rn ⟨240,0,0⟩ [.int t.k,.int t.n,.str t.s,.sl (t.as.map Tm.row),.sl (p.map al)]=some (0,[.sl ((gd t p).map pt)]):=Tm.ind fun t ih p hp=>by
 have hnd:=Tm.nodes_eq t;have hls:=cu (xs:=t.as);have hlp:∀ n i (acc:List (List Int)),i+n=t.as.length->acc.length+((t.as.drop i).map Tm.nodes).sum<=1048576->rn ⟨240,0,1⟩ [.sl (p.map al),.sl (t.as.map Tm.row),.int (t.as.length:Int),.int (i:Int),.sl (acc.map pt)]=some (0,[.sl ((acc++oj (t.as.drop i) p i).map pt)]):=by
  intro n;induction n with
  |zero =>
   intro i acc hi _;obtain rfl:i=t.as.length:=by omega
   rw[e240_0_1];simp only[B6,C0,D3,H4,H2,C8,oj,G8]
  |succ n ih2 =>
   intro i acc hi hb;have hlt:i<t.as.length:=by omega
   have hm:=C1 hlt;have hmn:=dt (f:=Tm.nodes) hm;have h1:=ih _ hm (p++[(i:Int)]) (by simp;omega)
   have h2:=Fu (p.map al) (by rw[B6];omega)
   have hl:=pr t.as[i] (p++[(i:Int)]);rw[B8 hlt,C4,K1] at hb;have h3:=ih2 (i+1) (acc++gd t.as[i] (p++[(i:Int)])) (by omega) (by rw[E6,hl];omega)
   have b1:F5 (p.length+1) M63=true:=nb (by omega)
   have b2:F5 (acc.length+t.as[i].nodes) M63=true:=nb (by omega)
   rw[Dm hlt,<-E2,<-h3];simp only[D5,C4,D1,al] at h1 h2 ⊢;rw[e240_0_1];simp only[B6,C0,hlt,H3,H1,aq,B7,ab hlt,ae hlt (bc (by omega)),Tm.row_eq,nv0,nvS,dvI,dvB,dvS,dvL,B5,h2,C2,C5,D0,b1,h1,hl,b2]
 have h1:=hlp t.as.length 0 [p] (by omega) (by simp only[D2,C2,C5];omega)
 simp only[C3,D2,C4,D1,F4,D8] at h1;rw[e240_0_0,mw];simp only[pt] at h1 ⊢;simp only[B6,h1,nv0,nvS,dvI,dvB,dvS,dvL,B5,D7,H1,H2,C4];rfl
theorem r203(t:Tm)(h:t.nodes<=1048576):rn ⟨203,0,0⟩ [.int t.k,.int t.n,.str t.s,.sl (t.as.map Tm.row)]=some (0,[.sl ((gd t []).map pt)]):=by
 have h1:=ad5 t [] (by simpa using h)
 rw[D1] at h1;rw[e203_0_0];simp only[h1,nv0,nvS,dvI,dvB,dvS,dvL,B5]
theorem ad6:∀ t:Tm,∀ (p:List Int) (acc:List (List Int)),p.length+t.nodes<=1048576->acc.length+t.nodes<=1048576->rn ⟨273,1,0⟩ [.int t.k,.int t.n,.str t.s,.sl (t.as.map Tm.row),.sl (p.map al),.sl (acc.map pt)]=some (0,[.sl ((acc++gd t p).map pt)]):=Tm.ind fun t ih p acc hp ha=>by
 have hnd:=Tm.nodes_eq t;have hls:=cu (xs:=t.as);have hlp:∀ n i (acc:List (List Int)),i+n=t.as.length->acc.length+((t.as.drop i).map Tm.nodes).sum<=1048576->rn ⟨273,1,1⟩ [.sl (p.map al),.int (i:Int),.sl (acc.map pt),.int t.k,.int t.n,.str t.s,.sl (t.as.map Tm.row)]=some (0,[.sl ((acc++oj (t.as.drop i) p i).map pt)]):=by
  intro n;induction n with
  |zero =>
   intro i acc hi _;obtain rfl:i=t.as.length:=by omega
   rw[e273_1_1];simp only[B6,C0,D3,H4,H2,C8,oj,G8]
  |succ n ih2 =>
   intro i acc hi hb;have hlt:i<t.as.length:=by omega
   have hm:=C1 hlt;have hmn:=dt (f:=Tm.nodes) hm;have hl:=pr t.as[i] (p++[(i:Int)]);rw[B8 hlt,C4,K1] at hb;have h1:=ih _ hm (p++[(i:Int)]) acc (by simp;omega) (by omega)
   have h3:=ih2 (i+1) (acc++gd t.as[i] (p++[(i:Int)])) (by omega) (by rw[E6,hl];omega)
   have b0:F5 (0+p.length) M63=true:=nb (by omega)
   have b1:F5 (p.length+1) M63=true:=nb (by omega)
   rw[Dm hlt,<-E2,<-h3];simp only[D5,C4,D1,al] at h1 ⊢;rw[e273_1_1];simp only[B6,C0,hlt,H3,H1,aq,B7,ab hlt,ae hlt (bc (by omega)),Tm.row_eq,nv0,nvS,dvI,dvB,dvS,dvL,B5,C2,C5,D0,b1,b0,D8,h1,show F5 p.length M63=true from by simpa using b0]
 have h1:=hlp t.as.length 0 (acc++[p]) (by omega) (by simp only[D2,E6,C2,C5];omega)
 have b0:F5 p.length M63=true:=by simpa using nb (n:=p.length) (m:=0) (by omega)
 have b1:F5 (acc.length+1) M63=true:=nb (by omega)
 simp only[C3,D2,D5,C4,D1] at h1;rw[e273_1_0,mw];simp only[pt] at h1 ⊢;simp only[B6,C2,C5,D0,D8,b0,b1,H1,h1,nv0,nvS,dvI,dvB,dvS,dvL,B5,D7,H1,H2,D5,C4,E2,F4];rfl
theorem r261(t:Tm)(h:t.nodes<=1048576):rn ⟨261,0,0⟩ [.int t.k,.int t.n,.str t.s,.sl (t.as.map Tm.row)]=some (0,[.sl ((gd t []).map pt)]):=by
 have h1:=ad6 t [] [] (by simpa using h) (by simpa using h)
 rw[D1,D1] at h1;rw[e261_0_0];simp only[h1,nv0,nvS,dvI,dvB,dvS,dvL,B5,D8]
theorem Nt{F:Nat->R}{a b:List Int}(hlen:a.length=b.length){A B:R}(hs:∀ i (hi:i<a.length),F i=bif decide (a[i]=b[i]'(by omega)) then F (i+1) else B)(he:F a.length=A):F 0=bif decide (a=b) then A else B:=by
 have key:∀ n i,i+n=a.length->F i=bif decide (a.drop i=b.drop i) then A else B:=by
  intro n;induction n with
  |zero =>
   intro i hi;obtain rfl:i=a.length:=by omega
   rw[he,C8,O7 (by omega)];rfl
  |succ n ih =>
   intro i hi;have hlt:i<a.length:=by omega
   rw[hs i hlt,ih (i+1) (by omega),B8 hlt,B8 (show i<b.length by omega)]
   by_cases h1:a[i]=b[i]'(by omega)
   ·simp only[h1,Q5.injEq,true_and,H3,H1]
   ·simp only[h1,Q5.injEq,false_and,H4,H2]
 simpa using key a.length 0 (by omega)
theorem Xq(a b:List Int)(ha:a.length<=1048576):rn ⟨88,0,0⟩ [.sl (a.map al),.sl (b.map al)]=some (0,[.bool (decide (a=b))]):=by
 rw[e88_0_0];simp only[B6];by_cases hlen:a.length=b.length
 ·have hf:=Nt (F:=fun i=>rn ⟨88,0,1⟩ [.sl (a.map al),.sl (b.map al),.int (a.length:Int),.int (i:Int)]) hlen (A:=some (0,[])) (B:=some (1,[])) (fun i hi=>by
   have hi':i<b.length:=by omega
   rw[e88_0_1];simp only[B6,C0,hi,H3,H1,aq,B7,ab hi,ae hi (bc (by omega)),hi',ab hi',al,nv0,nvS,dvI,dvB,dvS,dvL,B5]
   by_cases h1:a[i]=b[i]<;>simp[h1]) (by
   rw[e88_0_1];simp only[B6,C0,D3,H4,H2,C8])
  simp only[C3] at hf;have e:((a.length:Int)=(b.length:Int)):=by omega
  simp only[e,H3,D4,H2];rw[<-e,hf];cases decide (a=b)<;>rfl
 ·have e:¬((a.length:Int)=(b.length:Int)):=by omega
  have:¬ a=b:=fun h=>hlen (by rw[h])
  simp[e,this]
theorem r142(r r':Int)(a b:List Int)(ha:a.length<=1048576):rn ⟨142,0,0⟩ [.int r,.sl (a.map al),.int r',.sl (b.map al)]=some (0,[.bool (decide (r=r')&&decide (a=b))]):=by
 have h1:=Xq a b ha;rw[e142_0_0];by_cases e:r=r'
 ·simp only[e,H3,H1,h1,nv0,nvS,dvI,dvB,dvS,dvL,B5,E4]
 ·simp only[e,H4,H2,Q4]
theorem r55(a b:List Int)(ha:a.length<=1048576):rn ⟨55,0,0⟩ [.sl (a.map al),.sl (b.map al)]=some (0,[.bool (decide (a=b))]):=by
 rw[e55_0_0];simp only[B6];by_cases hlen:a.length=b.length
 ·have hf:=Nt (F:=fun i=>rn ⟨55,0,1⟩ [.sl (a.map al),.sl (b.map al),.int (i:Int)]) hlen (A:=some (0,[])) (B:=some (1,[])) (fun i hi=>by
   have hi':i<b.length:=by omega
   rw[e55_0_1];simp only[B6,C0,hi,H3,H1,aq,B7,ab hi,ae hi (bc (by omega)),hi',ab hi',al,nv0,nvS,dvI,dvB,dvS,dvL,B5]
   by_cases h1:a[i]=b[i]<;>simp[h1]) (by
   rw[e55_0_1];simp only[B6,C0,D3,H4,H2,C8])
  simp only[C3] at hf;have e:((a.length:Int)=(b.length:Int)):=by omega
  simp only[e,H3,D4,H2];rw[hf];cases decide (a=b)<;>rfl
 ·have e:¬((a.length:Int)=(b.length:Int)):=by omega
  have:¬ a=b:=fun h=>hlen (by rw[h])
  simp[e,this]
theorem b63{n:Nat}(h:n<=4194304):F5 (n+1) M63=true:=nb (by omega)
theorem Tk(l u r t:Tm)(hl:l.nodes<=60)(xr:Int)(xat gs:aa)(nm:ByteArray)(ps:List (List Int))(hps:ps.length<=60)(hpl:∀ p∈ps,p.length<=1048576):∀ n i (acc:List Bnd),i+n=ps.length->acc.length<=i →
 rn ⟨143,0,1⟩ [.int (ps.length:Int),.int (i:Int),.int t.k,.int t.n,.str t.s,.sl (t.as.map Tm.row),.int xr,.sl xat,.int 0,.int 0,.str e0,.str nm,.int l.k,.int l.n,.str l.s,.sl (l.as.map Tm.row),.int r.k,.int r.n,.str r.s,.sl (r.as.map Tm.row),.sl gs,.int u.k,.int u.n,.str u.s,.sl (u.as.map Tm.row),.sl (acc.map Bnd.row),.sl (ps.map pt),.sl []]=some (0,[.int t.k,.int t.n,.str t.s,.sl (t.as.map Tm.row),.int xr,.sl xat,.int 0,.int 0,.str e0,.str nm,.int l.k,.int l.n,.str l.s,.sl (l.as.map Tm.row),.int r.k,.int r.n,.str r.s,.sl (r.as.map Tm.row),.sl gs,.sl ((acc++(ps.drop i).filterMap (cB1 l u)).map Bnd.row),.sl []]):=by
 intro n;induction n with
 |zero =>
  intro i acc hi _;obtain rfl:i=ps.length:=by omega
  rw[e143_0_1];simp only[B6,C0,D3,H4,H2,C8,List.filterMap_nil,G8]
 |succ n ih =>
  intro i acc hi ha;have hlt:i<ps.length:=by omega
  have hp:=hpl _ (C1 hlt);have h1:=atI l ps[i] hp;have h2:=atI u ps[i] hp;have b1:F5 (acc.length+1) M63=true:=b63 (by omega)
  rw[B8 hlt,List.filterMap_cons,e143_0_1];simp only[B6,C0,hlt,H3,H1,aq,B7,ab hlt,ae hlt (bc (by omega)),pt,nv0,nvS,dvI,dvB,dvS,dvL,B5,h1,h2,C2,C5,D0,b1]
  by_cases hk:(atO l ps[i]).k=1
  ·have e:cB1 l u ps[i]=some ((atO l ps[i]).s,atO u ps[i]):=by rw[cB1,H5 hk]
   have h3:=ih (i+1) (acc++[((atO l ps[i]).s,atO u ps[i])]) (by omega) (by simp;omega)
   simp only[D5,C4,D1,gc,E2,F4,D8,pt] at h3;simp only[hk,e,H3,H1,E2,D5,C4,F4,D8,gc];exact h3
  ·have e:cB1 l u ps[i]=none:=by rw[cB1,H6 hk]
   have h3:=ih (i+1) acc (by omega) (by omega)
   simp only[hk,e,H4,H2];exact h3
theorem ad7(d:DfM)(hd:DfG d)(t:Tm)(hw:Wt t)(hn:t.nodes<=60)(i:Nat)(hi:i<d.ru.length)(p:List Int)(hp:p.length<=60)(hat:∃ u,atT t p=some u):rn ⟨143,0,0⟩ [.sl (d.so.map ag),.sl (d.op.map OpM.row),.sl (d.ru.map RuM.row),.sl (d.st.map StM.row),.int t.k,.int t.n,.str t.s,.sl (t.as.map Tm.row),.int (i:Int),.sl (p.map al)]=some (0,[.int (bT d t (some (i,p))).k,.int (bT d t (some (i,p))).n,.str (bT d t (some (i,p))).s,.bool (dv d t (i,p)).valid,.sl ((bT d t (some (i,p))).as.map Tm.row)]):=by
 have hr:=hd.ru (C1 hi);have hln:=az hr.lv;have hrn:=az hr.rv;obtain⟨u,hu⟩:=hat;have hpl:=pr d.ru[i].l [];have hun:=iz t p (by decide) hn
 have hbn:∀ b∈jo d.ru[i].l (atO t p),b.2.nodes<=60:=Au (P:=fun t=>t.nodes<=60) fun q=>iz (atO t p) q (by decide) hun
 have hbs:∀ b∈jo d.ru[i].l (atO t p),au b.2:=fun b hb=>ao _ (by have:=hbn b hb;omega)
 have hbl:(jo d.ru[i].l (atO t p)).length<=60:=G7 (List.length_filterMap_le ..) (by omega)
 have a1:=iw (m:=60) (by decide) hbn d.ru[i].r
 have a2:=gi (aS (jo d.ru[i].l (atO t p)) d.ru[i].r);have a3:=mg (rW (aS (jo d.ru[i].l (atO t p)) d.ru[i].r)) p t;have a5:t.nodes*(p.length+1)<=60*61:=U1 hn (by omega)
 have e2:dv d t (i,p)=rW (ee t p (aS (jo d.ru[i].l (atO t p)) d.ru[i].r)):=by
  simp only[dv,F7 hi]
 obtain⟨c1,c2⟩:=Le hd hw hn (x:=(i,p)) hp;have h1:=atI t p (by omega)
 have h2:=r203 d.ru[i].l (by omega)
 have h3:=Tk d.ru[i].l (atO t p) d.ru[i].r t hln (i:Int) (p.map al) (d.ru[i].g.map Gu.row) d.ru[i].n (gd d.ru[i].l []) (by omega) (fun q hq=>by have:=Iv d.ru[i].l [] q hq;simp at this;omega) _ 0 [] (D0 _) (E7 _)
 rw[hpl] at h3;simp only[D2,D8,C3,D1] at h3;have h4:=r125 _ (by omega) hbs d.ru[i].r (ao _ (by omega))
 have h5:=r124 (aS (jo d.ru[i].l (atO t p)) d.ru[i].r) (ao _ (by omega))
 have h6:=r204 (rW (aS (jo d.ru[i].l (atO t p)) d.ru[i].r)) p t u (by omega) (by omega) hu
 have h7:=r124 (ee t p (rW (aS (jo d.ru[i].l (atO t p)) d.ru[i].r))) (ao _ (by omega))
 rw[Sj,<-e2] at h7;have h8:=r155 (dv d t (i,p)) (by omega) c1
 unfold jo at h4 h5 h6 h7;rw[e143_0_0];simp only[h1,h2,nv0,nvS,dvI,dvB,dvS,dvL,B5,aq,B6,hi,H3,H1,B7,ab hi,RuM.row,hpl,h3,D7,H1,H2,h4,h5,h6,h7,h8];have hb:bT d t (some (i,p))=if (dv d t (i,p)).valid=true then dv d t (i,p) else tm0:=rfl
 rw[hb];cases (dv d t (i,p)).valid<;>rfl
theorem r242(l u:Tm)(hl:l.nodes<=60)(hu:u.nodes<=60):rn ⟨242,0,0⟩ [.int l.k,.int l.n,.str l.s,.sl (l.as.map Tm.row),.int u.k,.int u.n,.str u.s,.sl (u.as.map Tm.row)]=some (0,[.sl ((my l u (gd l []) []).map Bnd.row)]):=by
 have hpl:=pr l [];have hps:∀ p∈gd l [],p.length<=1048576:=fun q hq=>by have:=Iv l [] q hq;simp at this;omega
 have h2:=r261 l (by omega)
 have hlp:∀ n i (acc:List Bnd),i+n=(gd l []).length->acc.length<=i->(∀ b∈acc,au b.2)->rn ⟨242,0,1⟩ [.int (i:Int),.int l.k,.int l.n,.str l.s,.sl (l.as.map Tm.row),.int u.k,.int u.n,.str u.s,.sl (u.as.map Tm.row),.sl (acc.map Bnd.row),.sl ((gd l []).map pt)]=some (0,[.sl ((my l u ((gd l []).drop i) acc).map Bnd.row)]):=by
  generalize gd l []=ps at hpl hps ⊢;intro n;induction n with
  |zero =>
   intro i acc hi _ _;obtain rfl:i=ps.length:=by omega
   rw[e242_0_1];simp only[B6,C0,D3,H4,H2,C8,my]
  |succ n ih =>
   intro i acc hi ha hs;have hlt:i<ps.length:=by omega
   have hp:=hps _ (C1 hlt);have h1:=atS l (by omega) ps[i] hp
   have h2:=atS u (by omega) ps[i] hp
   have b1:F5 (acc.length+1) M63=true:=b63 (by omega)
   have hun:=iz u ps[i] (by decide) hu
   rw[B8 hlt,e242_0_1];simp only[my,B6,C0,hlt,H3,H1,aq,B7,ab hlt,ae hlt (bc (by omega)),pt,nv0,nvS,dvI,dvB,dvS,dvL,B5,h1,h2,C2,C5,D0,b1]
   have h4:=ih (i+1) acc (by omega) (by omega) hs
   by_cases hk:(atO l ps[i]).k=1
   ·have h3:=ih (i+1) (acc++[((atO l ps[i]).s,atO u ps[i])]) (by omega) (by simp;omega) (fun b hb=>by
     rcases List.mem_append.1 hb with hb |hb
     ·exact hs b hb
     ·simp only[List.mem_singleton] at hb;subst hb;exact ao _ (show(atO u ps[i]).nodes<=1048577 by omega))
    simp only[D5,C4,D1,gc,pt] at h3 h4;simp only[hk,H3,H1,gc];rcases r177 acc (by omega) (atO l ps[i]).s with ⟨e,h5⟩|⟨j,hj,e,h5⟩
    ·simp only[h5,nv0,nvS,dvI,dvB,dvS,dvL,B5,e,show decide ((-1:Int)<0)=true from rfl,H1,and_self,if_true]
     exact h3
    ·have q:¬((j:Int)<0):=by omega
     simp only[h5,nv0,nvS,dvI,dvB,dvS,dvL,B5,e,q,H4,H2,reduceCtorEq,and_false,if_false];exact h4
   ·simp only[hk,H4,H2,false_and,if_false]
    exact h4
 have h3:=hlp _ 0 [] (D0 _) (E7 _) (by simp)
 simp only[D2,C3,D1] at h3;rw[e242_0_0];simp only[h2,nv0,nvS,dvI,dvB,dvS,dvL,B5,h3,D7,H1,H2]
theorem r205(d:DfM)(hd:DfG d)(v cs:aa)(t:Tm)(hw:Wt t)(hn:t.nodes<=60)(i:Nat)(hi:i<d.ru.length)(p:List Int)(hp:p.length<=60)(hat:∃ u,atT t p=some u):rn ⟨205,0,0⟩ [.sl (d.so.map ag),.sl (d.op.map OpM.row),.sl (d.ru.map RuM.row),.sl (d.st.map StM.row),.sl v,.int t.k,.int t.n,.str t.s,.sl (t.as.map Tm.row),.sl cs,.int (i:Int),.sl (p.map al)]=some (0,[.int (dv d t (i,p)).k,.int (dv d t (i,p)).n,.str (dv d t (i,p)).s,.sl ((dv d t (i,p)).as.map Tm.row)]):=by
 have hr:=hd.ru (C1 hi);have hln:=az hr.lv;have hrn:=az hr.rv;obtain⟨u,hu⟩:=hat;have hpl:=pr d.ru[i].l [];have hun:=iz t p (by decide) hn
 have hbn:∀ b∈my d.ru[i].l (atO t p) (gd d.ru[i].l []) [],b.2.nodes<=60:=Ix (P:=fun t=>t.nodes<=60) (fun q=>iz (atO t p) q (by decide) hun) _ [] (by simp)
 have hbs:∀ b∈my d.ru[i].l (atO t p) (gd d.ru[i].l []) [],au b.2:=fun b hb=>ao _ (by have:=hbn b hb;omega)
 have hbl:=Iy d.ru[i].l (atO t p) (gd d.ru[i].l []) [];have a1:=iw (m:=60) (by decide) hbn d.ru[i].r
 have a3:=mg (aS (my d.ru[i].l (atO t p) (gd d.ru[i].l []) []) d.ru[i].r) p t;have a5:t.nodes*(p.length+1)<=60*61:=U1 hn (by omega)
 have e2:dv d t (i,p)=rW (ee t p (aS (my d.ru[i].l (atO t p) (gd d.ru[i].l []) []) d.ru[i].r)):=by
  simp only[dv,F7 hi,Wx]
 have h1:=atS t (by omega) p (by omega)
 have h2:=r242 d.ru[i].l (atO t p) hln hun;have h4:=r70 _ (by simp at hbl;omega) hbs d.ru[i].r (ao _ (by omega))
 have h6:=r176 (aS (my d.ru[i].l (atO t p) (gd d.ru[i].l []) []) d.ru[i].r) (by omega) p t u (by omega) (by omega) hu
 have h7:=r69 (ee t p (aS (my d.ru[i].l (atO t p) (gd d.ru[i].l []) []) d.ru[i].r)) (ao _ (by omega))
 rw[<-e2] at h7;rw[e205_0_0];simp only[h1,nv0,nvS,dvI,dvB,dvS,dvL,B5,aq,B6,hi,H3,H1,B7,ab hi,RuM.row,h2,h4,h6,h7]
theorem r149(d:DfM)(hd:DfG d)(v:List ByteArray)(hv:v.length<=1048576)(cs:aa)(t:Tm)(hw:Wt t)(hn:t.nodes<=60)(x:Bk)(hx:BkG d t x):rn ⟨149,0,0⟩ [.sl (d.so.map ag),.sl (d.op.map OpM.row),.sl (d.ru.map RuM.row),.sl (d.st.map StM.row),.sl (v.map ag),.int t.k,.int t.n,.str t.s,.sl (t.as.map Tm.row),.sl cs,.int (bR x),.bool x.isSome,.sl ((bP x).map al)]=some (0,[.int (bK d t x),.int (bR x),.int (bT d t x).k,.int (bT d t x).n,.str (bT d t x).s,.sl ((bP x).map al),.sl (v.map ag),.sl ((bT d t x).as.map Tm.row),.sl []]):=by
 have b1:F5 v.length M63=true:=by simpa using nb (n:=v.length) (m:=0) (by omega)
 have h1:=r65 t (ao t (by omega))
 rw[e149_0_0];simp only[C5,D0,B6,b1,H1,h1,nv0,nvS,dvI,dvB,dvS,dvL,B5,D8];cases x with
 |none=>rfl
 |some y =>
  obtain⟨y1,y2,y3⟩:=hx.i y rfl;have h2:=r205 d hd (v.map ag) cs t hw hn y.1 y1 y.2 y2 y3;obtain⟨c1,c2⟩:=Le hd hw hn (x:=y) y2;have h3:=r100 (dv d t y) (by omega) c1
  simp only[bR,bP,O4,D4,H2,h2,nv0,nvS,dvI,dvB,dvS,dvL,B5,h3];have hb:bT d t (some y)=if (dv d t y).valid=true then dv d t y else tm0:=rfl
  have hk:bK d t (some y)=if (dv d t y).valid=true then 2 else 3:=rfl
  rw[hb,hk];cases (dv d t y).valid<;>rfl
theorem Dw(out:List (Bk×List Int))(x:Bk):By out x=match (out.drop 0).findIdx? (fun b=>decide (b.1=x)) with |some i=>((0+i:Nat):Int) |none=>-1:=by
 unfold By Fi;rw[D2];cases out.findIdx? fun b=>decide (b.1=x) with
 |none=>rfl
 |some i=>simp
theorem ac8(d:DfM)(v:List ByteArray)(t:Tm)(out:List (Bk×List Int))(ho:out.length<=1048576)(hp:∀ b∈out,(bP b.1).length<=1048576)(x:Bk):∃ w1 w2 w3,rn ⟨140,0,0⟩ [.sl (out.map (bj d v t)),.bool x.isSome,.int (bR x),.sl ((bP x).map al)]=some (0,[.int (By out x),.bool w1,.int w2,.sl w3])/\w1=x.isSome/\w2=bR x/\w3=(bP x).map al:=by
 have hlp:∀ n i,i+n=out.length->rn ⟨140,0,1⟩ [.sl (out.map (bj d v t)),.int (out.length:Int),.int (i:Int),.bool x.isSome,.int (bR x),.sl ((bP x).map al)]=match (out.drop i).findIdx? (fun b=>decide (b.1=x)) with
  |some j=>some (1,[.int ((i+j:Nat):Int),.bool x.isSome,.int (bR x),.sl ((bP x).map al)])
  |none=>some (0,[.bool x.isSome,.int (bR x),.sl ((bP x).map al)]):=by
  intro n;induction n with
  |zero =>
   intro i hi;obtain rfl:i=out.length:=by omega
   rw[e140_0_1];simp only[B6,C0,D3,H4,H2,C8,U4]
  |succ n ih =>
   intro i hi;have hlt:i<out.length:=by omega
   have h2:=r142 (bR out[i].1) (bR x) (bP out[i].1) (bP x) (hp _ (C1 hlt));have h1:rn ⟨141,0,0⟩ [.int (bK d t out[i].1),.int (bR out[i].1),.sl ((bP out[i].1).map al),.sl (v.map ag),.int (bT d t out[i].1).k,.int (bT d t out[i].1).n,.str (bT d t out[i].1).s,.sl ((bT d t out[i].1).as.map Tm.row),.sl (out[i].2.map al),.bool x.isSome,.int (bR x),.sl ((bP x).map al)]=some (0,[.bool (decide (out[i].1=x)),.bool x.isSome,.int (bR x),.sl ((bP x).map al)]):=by
    rw[e141_0_0,<-Yl d t];simp only[h2,nv0,nvS,dvI,dvB,dvS,dvL,B5];cases (decide (bK d t out[i].1=1)==!x.isSome)<;>rfl
   rw[Dn _ _ hlt,e140_0_1];simp only[B6,C0,hlt,H3,H1,aq,B7,ab hlt,ae hlt (bc (by omega)),bj,nv0,nvS,dvI,dvB,dvS,dvL,B5,h1]
   have h3:=ih (i+1) (by omega)
   cases decide (out[i].1=x) with
   |true=>rfl
   |false =>
    simp only[H2,N3,if_false,h3];cases (out.drop (i+1)).findIdx? (fun b=>decide (b.1=x)) with
    |none=>rfl
    |some j=>simp only[K6,show i+1+j=i+(j+1) by omega]
 have h1:=hlp out.length 0 (D0 _);rw[C3] at h1;rw[e140_0_0,Dw];simp only[B6,h1];cases (out.drop 0).findIdx? (fun b=>decide (b.1=x)) with
 |none=>exact⟨_,_,_,rfl,rfl,rfl,rfl⟩
 |some j=>exact⟨_,_,_,rfl,rfl,rfl,rfl⟩
theorem r148(d:DfM)(v:List ByteArray)(t:Tm)(out:List (Bk×List Int))(ho:out.length<=1048576)(hp:∀ b∈out,(bP b.1).length<=1048576)(x:Bk):rn ⟨148,0,0⟩ [.sl (out.map (bj d v t)),.int (bR x),.sl ((bP x).map al),.bool x.isSome]=some (0,[.int (By out x)]):=by
 have hlp:∀ n i,i+n=out.length->rn ⟨148,0,1⟩ [.sl (out.map (bj d v t)),.bool x.isSome,.int (i:Int),.int (bR x),.sl ((bP x).map al)]=match (out.drop i).findIdx? (fun b=>decide (b.1=x)) with
  |some j=>some (1,[.int ((i+j:Nat):Int)])
  |none=>some (0,[]):=by
  intro n;induction n with
  |zero =>
   intro i hi;obtain rfl:i=out.length:=by omega
   rw[e148_0_1];simp only[B6,C0,D3,H4,H2,C8,U4]
  |succ n ih =>
   intro i hi;have hlt:i<out.length:=by omega
   have h2:=r55 (bP out[i].1) (bP x) (hp _ (C1 hlt));have h3:=ih (i+1) (by omega)
   have hno:∀ y,x=some y->¬ bK d t (some y)=1:=fun y _=>by
    show ¬(if (dv d t y).valid=true then (2:Int) else 3)=1
    by_cases q:(dv d t y).valid=true<;>simp[q]
   have h4:(match (match (out.drop (i+1)).findIdx? (fun b=>decide (b.1=x)) with |some j=>some (j+1) |none=>none) with |some j=>some (1,[D.int ((i+j:Nat):Int)]) |none=>some (0,[]))=rn ⟨148,0,1⟩ [.sl (out.map (bj d v t)),.bool x.isSome,.int ((i+1:Nat):Int),.int (bR x),.sl ((bP x).map al)]:=by
    rw[ih (i+1) (by omega)]
    cases (out.drop (i+1)).findIdx? (fun b=>decide (b.1=x)) with
    |none=>rfl
    |some j=>simp only[show i+1+j=i+(j+1) by omega]
   have h5:(bif !(x.isSome==decide (bK d t out[i].1=1)) then bif !x.isSome then some (1,[D.int (i:Int)]) else bif decide (bR out[i].1=bR x) then bif decide (bP out[i].1=bP x) then some (1,[.int (i:Int)]) else rn ⟨148,0,1⟩ [.sl (out.map (bj d v t)),.bool x.isSome,.int ((i+1:Nat):Int),.int (bR x),.sl ((bP x).map al)] else rn ⟨148,0,1⟩ [.sl (out.map (bj d v t)),.bool x.isSome,.int ((i+1:Nat):Int),.int (bR x),.sl ((bP x).map al)] else rn ⟨148,0,1⟩ [.sl (out.map (bj d v t)),.bool x.isSome,.int ((i+1:Nat):Int),.int (bR x),.sl ((bP x).map al)])=match (if decide (out[i].1=x)=true then some 0 else ((out.drop (i+1)).findIdx? (fun b=>decide (b.1=x))).map (·+1)) with
    |some j=>some (1,[.int ((i+j:Nat):Int)])
    |none=>some (0,[]):=by
    rw[<-Yl d t out[i].1 x];rw[<-h4];generalize (out.drop (i+1)).findIdx? (fun b=>decide (b.1=x))=F
    generalize hg:out[i].1=y;cases x with
    |none =>
     cases y with
     |none=>simp[bK,bR,bP]
     |some z =>
      have:¬ bK d t (some z)=1:=by
       show ¬(if (dv d t z).valid=true then (2:Int) else 3)=1
       by_cases q:(dv d t z).valid=true<;>simp[q]
      simp only[this,H4,Option.isSome_none];cases F<;>rfl
    |some w =>
     cases y with
     |none=>cases F<;>simp[bK]
     |some z =>
      have:¬ bK d t (some z)=1:=by
       show ¬(if (dv d t z).valid=true then (2:Int) else 3)=1
       by_cases q:(dv d t z).valid=true<;>simp[q]
      simp only[this,H4,O4];cases decide (bR (some z)=bR (some w))<;>cases decide (bP (some z)=bP (some w))<;>cases F<;>rfl
   rw[Dn _ _ hlt,<-h5,e148_0_1];simp only[B6,C0,hlt,H3,H1,aq,B7,ab hlt,ae hlt (bc (by omega)),bj,nv0,nvS,dvI,dvB,dvS,dvL,B5,h2]
 have h1:=hlp out.length 0 (D0 _);rw[C3] at h1;rw[e148_0_0,Dw];simp only[h1];cases (out.drop 0).findIdx? (fun b=>decide (b.1=x))<;>rfl
theorem Xr(d:DfM)(hb:DfB d)(v:List ByteArray)(hv:v.length<=1048576)(t:Tm)(hw:Wt t)(cs:List Int)(hcl:cs.length<=1048576)(hs:jn d v t=true)(hcs:∀ c∈cs,isC v.length c=true):∀ n i (out:List (Bk×List Int)),i+n=cs.length->BrB i out->(∀ b∈out,BkG d t b.1) →
 rn ⟨83,0,1⟩ [.sl (cs.map al),.int (cs.length:Int),.int (i:Int),.sl (d.so.map ag),.sl (d.op.map OpM.row),.sl (d.ru.map RuM.row),.sl (d.st.map StM.row),.sl (v.map ag),.int t.k,.int t.n,.str t.s,.sl (t.as.map Tm.row),.sl (cs.map al),.sl (out.map (bj d v t))]=some (0,[.sl ((brF d v t (cs.drop i) out).map (bj d v t))]):=by
 intro n;induction n with
 |zero =>
  intro i out hi _ _;obtain rfl:i=cs.length:=by omega
  rw[e83_0_1];simp only[B6,C0,D3,H4,H2,C8,brF]
 |succ n ih =>
  intro i out hi ho hk;have hlt:i<cs.length:=by omega
  have hc:=hcs _ (C1 hlt);obtain⟨hd,htn,hg,hgn,hx⟩:=Av hb hw hs hc;have hol:=ho.l;have hpl:∀ b∈out,(bP b.1).length<=1048576:=fun b hb'=>by
   have h1:=(hk b hb').i;cases hq:b.1 with
   |none=>exact J0 _
   |some y=>have:=(h1 y hq).2.1;show y.2.length<=_;omega
  have h1:=r77 v t (ao t (by omega)) (cs.map al) cs[i]
  rw[yu hc] at h1;have h2:=r139 d hd (dh v t cs[i]) hg hgn [] (by simp;omega)
  rw[Zk,D1] at h2;obtain⟨w1,w2,w3,h3,rfl,rfl,rfl⟩:=ac8 d v t out (by omega) hpl (nx d (dh v t cs[i]))
  have h4:=r75 (v.map ag) (cs.map al) [[.int cs[i]]] t (ao t (by omega)) (by rw[B6];omega) (by simp)
  have hob:=Ld ho (nx d (dh v t cs[i])) cs[i];have hkb:∀ b∈qv out (nx d (dh v t cs[i])) cs[i],BkG d t b.1:=Lh hk hx;rw[B8 hlt,e83_0_1];simp only[brF,B6,C0,hlt,H3,H1,aq,B7,ab hlt,ae hlt (bc (by omega)),al,nv0,nvS,dvI,dvB,dvS,dvL,B5,h1,h2,h3]
  have h5:=ih (i+1) _ (by omega) hob hkb
  generalize nx d (dh v t cs[i])=x at hx h3 h5 ⊢;generalize hc0:cs[i]=c at h4 h5 ⊢;cases hf:Fi out x with
  |some j =>
   obtain⟨hj,hjx⟩:=Nh hf;have e8:(nth (rowAt (out.map (bj d v t)) j) 8).L=out[j].2.map al:=by rw[ab hj];rfl
   have hset:=Lf (d:=d) (v:=v) (t:=t) hj (out[j].2.map al++[[.int c]]) (out[j].2++[c]) (by simp[al])
   have hlen:=Lg (d:=d) (v:=v) (t:=t) hj;have b1:F5 (out[j].2.length+1) M63=true:=b63 (by have:=ho.c _ (C1 hj);omega)
   have b2:J7 j out.length=true:=E8 hj;have b3:decide ((0:Int)<=(j:Int))=true:=by simp
   rw[Do hf hj] at h5 ⊢;simp only[By,hf,b3,H1,aq,hlen,B6,hj,H3,B7,b2,e8,C2,C5,D0,b1,D7,Q2,hset,h5]
  |none =>
   have b1:F5 (out.length+1) M63=true:=b63 (by omega)
   rw[Dp hf] at h5 ⊢;simp only[D5,C4,D1] at h5 ⊢;simp only[By,hf,show decide ((0:Int)<=-1)=false from rfl,H2,h4,nv0,nvS,dvI,dvB,dvS,dvL,B5,C2,C5,D0,b1,B6]
   cases x with
   |none=>exact h5
   |some y =>
    obtain⟨y1,y2,y3⟩:=hx.i y rfl;have h6:=ad7 d hd t hw htn y.1 y1 y.2 y2 y3;simp only[bR,bP,O4,H1,h6,nv0,nvS,dvI,dvB,dvS,dvL,B5];have hk1:bK d t (some y)=if (dv d t y).valid=true then 2 else 3:=rfl
    cases hvv:(dv d t (y.1,y.2)).valid with
    |true =>
     have hk2:bK d t (some y)=2:=by rw[hk1,H5 hvv]
     simp only[bj,hk2] at h5;exact h5
    |false =>
     have hk2:bK d t (some y)=3:=by rw[hk1,H6 (by show ¬(dv d t (y.1,y.2)).valid=true;rw[hvv];simp)]
     simp only[bj,hk2] at h5;exact h5
theorem r83(s:SyM)(hs:SyB s)(h:Aq s.d s.v s.t s.c=true):rn ⟨83,0,0⟩ s.row=some (0,[.sl ((brL s).map (bj s.d s.v s.t))]):=by
 have h':=h;simp only[Aq,B9] at h';have h1:=Xr s.d hs.d s.v hs.v s.t hs.w s.c hs.c h'.1 (cm s.c none h'.2) s.c.length 0 [] (D0 _) ⟨E7 _,by simp⟩ (by simp)
 simp only[C3,D1,D2] at h1;unfold SyM.row brL;rw[e83_0_0,H5 h];simp only[B6,h1,nv0,nvS,dvI,dvB,dvS,dvL,B5,D7,H1,H2]
theorem Xs(s:SyM)(hs:SyB s)(h:Aq s.d s.v s.t s.c=true):∀ n i (out:List (Bk×List Int)),i+n=s.c.length->BrB i out->(∀ b∈out,BkG s.d s.t b.1) →
 rn ⟨87,0,1⟩ [.int (i:Int),.sl (s.d.so.map ag),.sl (s.d.op.map OpM.row),.sl (s.d.ru.map RuM.row),.sl (s.d.st.map StM.row),.sl (s.v.map ag),.int s.t.k,.int s.t.n,.str s.t.s,.sl (s.t.as.map Tm.row),.sl (s.c.map al),.sl (out.map (bj s.d s.v s.t))]=some (0,[.sl ((brF s.d s.v s.t (s.c.drop i) out).map (bj s.d s.v s.t))]):=by
 have h0:=ac7 s.d hs.d s.v hs.v hs.vs s.t hs.w hs.n s.c hs.c;have h':=h;simp only[Aq,B9] at h';have hcs:=cm s.c none h'.2;have hb:=hs.d;have hv:=hs.v;have hw:=hs.w;have hcl:=hs.c;have hsy:=h'.1;obtain⟨d,v,t,cs⟩:=s;simp only at h h0 hcs hb hv hw hcl hsy ⊢;intro n;induction n with
 |zero =>
  intro i out hi _ _;obtain rfl:i=cs.length:=by omega
  rw[e87_0_1];simp only[B6,C0,D3,H4,H2,C8,brF]
 |succ n ih =>
  intro i out hi ho hk;have hlt:i<cs.length:=by omega
  have hc:=hcs _ (C1 hlt);obtain⟨hd,htn,hg,hgn,hx⟩:=Av hb hw hsy hc;have hol:=ho.l;have hpl:∀ b∈out,(bP b.1).length<=1048576:=fun b hb'=>by
   have h1:=(hk b hb').i;cases hq:b.1 with
   |none=>exact J0 _
   |some y=>have:=(h1 y hq).2.1;show y.2.length<=_;omega
  have h1:=r39 v t (ao t (by omega)) cs[i]
  have h2:=r109 d hd (dh v t cs[i]) hg hgn;rw[Zl] at h2;have h3:=r148 d v t out (by omega) hpl (nx d (dh v t cs[i]))
  have h4:=r149 d hd v hv (cs.map al) t hw htn (nx d (dh v t cs[i])) hx;have hob:=Ld ho (nx d (dh v t cs[i])) cs[i];have hkb:∀ b∈qv out (nx d (dh v t cs[i])) cs[i],BkG d t b.1:=Lh hk hx;have h5:=ih (i+1) _ (by omega) hob hkb
  rw[B8 hlt,e87_0_1];simp only[brF,B6,C0,hlt,H3,H1,aq,B7,ab hlt,ae hlt (bc (by omega)),h0,h,al,nv0,nvS,dvI,dvB,dvS,dvL,B5,h1,h2,h3,h4]
  generalize nx d (dh v t cs[i])=x at hx h5 ⊢;generalize hc0:cs[i]=c at h5 ⊢;cases hf:Fi out x with
  |some j =>
   obtain⟨hj,hjx⟩:=Nh hf;have e8:(nth (rowAt (out.map (bj d v t)) j) 8).L=out[j].2.map al:=by rw[ab hj];rfl
   have hset:=Lf (d:=d) (v:=v) (t:=t) hj (out[j].2.map al++[[.int c]]) (out[j].2++[c]) (by simp[al])
   have hlen:=Lg (d:=d) (v:=v) (t:=t) hj;have b1:F5 (out[j].2.length+1) M63=true:=b63 (by have:=ho.c _ (C1 hj);omega)
   have b2:J7 j out.length=true:=E8 hj;have b3:¬((j:Int)<0):=by omega
   rw[Do hf hj] at h5 ⊢;simp only[By,hf,b3,H4,H2,H1,aq,hlen,B6,hj,H3,B7,b2,e8,C2,C5,D0,b1,D7,Q2,hset,h5]
  |none =>
   have b1:F5 (out.length+1) M63=true:=b63 (by omega)
   have hj:out.length<(out++[(x,([]:List Int))]).length:=by simp
   have hr:out.map (bj d v t)++[[.int (bK d t x),.int (bR x),.sl ((bP x).map al),.sl (v.map ag),.int (bT d t x).k,.int (bT d t x).n,.str (bT d t x).s,.sl ((bT d t x).as.map Tm.row),.sl []]]=(out++[(x,([]:List Int))]).map (bj d v t):=by rw[D5];rfl
   have e0:(out++[(x,([]:List Int))])[out.length]=(x,[]):=by simp
   have e8:(nth (rowAt ((out++[(x,([]:List Int))]).map (bj d v t)) out.length) 8).L=[]:=by rw[ab hj,e0];rfl
   have hset:=Lf (d:=d) (v:=v) (t:=t) hj [[.int c]] [c] rfl;rw[e0,Sk] at hset;have hlen:=Lg (d:=d) (v:=v) (t:=t) hj;have b2:J7 out.length (out.length+1)=true:=E8 (E7 _);have b4:out.length<out.length+1:=Nat.lt_succ_self _;have b5:F5 1 M63=true:=rfl;rw[Dp hf] at h5 ⊢;simp only[By,hf,show decide ((-1:Int)<0)=true from rfl,H1,hr,aq,hlen,B6,E6,C2,C5,D0,B7,b1,b2,b4,b5,H3,e8,D8,D7,Q2,hset,h5]
theorem r87(s:SyM)(hs:SyB s):rn ⟨87,0,0⟩ s.row=some (0,[.sl ((brL s).map (bj s.d s.v s.t))]):=by
 cases h:Aq s.d s.v s.t s.c with
 |true =>
  have h1:=Xs s hs h s.c.length 0 [] (D0 _) ⟨E7 _,by simp⟩ (by simp)
  simp only[C3,D1,D2] at h1;unfold SyM.row brL;rw[e87_0_0,H5 h];simp only[h1,nv0,nvS,dvI,dvB,dvS,dvL,B5,D7,H1,H2]
 |false =>
  have h0:=ac7 s.d hs.d s.v hs.v hs.vs s.t hs.w hs.n s.c hs.c;have h1:rn ⟨87,0,1⟩ [.int 0,.sl (s.d.so.map ag),.sl (s.d.op.map OpM.row),.sl (s.d.ru.map RuM.row),.sl (s.d.st.map StM.row),.sl (s.v.map ag),.int (s.t).k,.int (s.t).n,.str (s.t).s,.sl ((s.t).as.map Tm.row),.sl (s.c.map al),.sl []]=some (0,[.sl []]):=by
   rw[e87_0_1];simp only[h0,h,nv0,nvS,dvI,dvB,dvS,dvL,B5,H2];cases decide ((0:Int)<((s.c.map al).length:Nat))<;>rfl
  unfold SyM.row brL;rw[e87_0_0,h];simp only[h1,nv0,nvS,dvI,dvB,dvS,dvL,B5,D7,H1,H2];rfl
end Go.Q.S
end
