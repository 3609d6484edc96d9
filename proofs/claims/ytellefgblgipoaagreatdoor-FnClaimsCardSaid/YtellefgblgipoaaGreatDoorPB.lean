/- The functions of this seat, as that machine runs them, part 2. -/
import Derived.Test.YtellefgblgipoaaGreatDoorPA
import Derived.Test.YtellefgblgipoaaGreatDoorMA
import Derived.Test.YtellefgblgipoaaGreatDoorQD
import Derived.Test.YtellefgblgipoaaGreatDoorfcX2
import Derived.Test.YtellefgblgipoaaGreatDoorChecked
set_option linter.unusedVariables false
set_option linter.unusedSimpArgs false
open Bool renaming and_eq_true->B7,not_true->D8,true_and->F6,not_false->J4,false_eq_true->K6,and_false->R4
open Int renaming toNat_natCast->B9,ofNat_lt->C0,natCast_zero->C6,tmod->O0,toNat->O1
open List renaming length_map->B6,drop_eq_getElem_cons->B8,getElem_mem->C1,map_cons->C2,length_cons->C5,length_nil->C8,drop_length->C9,mem_append->D0,map_nil->D2,mem_cons->D4,drop_zero->D5,all_eq_true->D9,map_append->E0,length_append->E9,mem_map->F2,mem_singleton->F8,sum_cons->J6,map_map->K5,not_mem_nil->K9
open Nat renaming lt_irrefl->D7,zero_add->E1,beq_refl->E2,beq->E5,ble_eq_true_of_le->F4,le_trans->F5,ble->F9,le_refl->G6
open Option renaming bind_some->B5,some->C7
section
namespace Go.Q.S
open Go Go.Q Go.Proofs
open Go.Q.D renaming int->i,sl->s,str->t,bool->b
open Go.Q renaming nth->g,rowAt->p
open Int renaming toNat->z
open Go.IntKind renaming wrap->w
open Decidable renaming decide->d
open Nat renaming beq->q,ble->l
open _root_.ByteArray renaming mk->m
noncomputable section
abbrev CF:=Key->List D->R
abbrev EV:=(c:CF)->OkC H Tryz.prog c->En H Tryz.prog
def Rh:EV:=fun c hc=>⟨⟨247,0,0⟩,pI fun x0=>pS fun x1=>pI fun x2=>pB fun x3=>pE ((c ⟨247,0,1⟩ [i x0,i x2,t x1,i x2,b x3,i 0,i 0,t (m #[]),s []]).bind fun r1=>bif q r1.1 0 then bif d ((0:Int)<=(g r1.2 1).I)&&(d (((g r1.2 1).I:Int)<=(g r1.2 3).I)&&d (((g r1.2 3).I:Int)<=(g r1.2 2).S.size)) then (c ⟨133,0,0⟩ [t ((g r1.2 2).S.extract (z (g r1.2 1).I) (z (g r1.2 3).I))]).bind fun r2=>bif (g r2.2 0).B then (c ⟨255,0,0⟩ [t (m #[40]),t (g r1.2 2).S,i (g r1.2 3).I,b (g r1.2 4).B]).bind fun r3=>bif !(g r3.2 0).B then some (0,[i 1,i 0,t ((g r1.2 2).S.extract (z (g r1.2 1).I) (z (g r1.2 3).I)),t (g r3.2 1).S,i (g r3.2 2).I,b (g r3.2 3).B,s []]) else (c ⟨247,0,4⟩ [i (g r1.2 0).I,i 0,t (g r3.2 1).S,i (w .i64 ((g r3.2 2).I+1)),b (g r3.2 3).B,i (g r1.2 5).I,i (g r1.2 6).I,t (g r1.2 7).S,i 1,i 0,t ((g r1.2 2).S.extract (z (g r1.2 1).I) (z (g r1.2 3).I)),s (g r1.2 8).L,s []]).bind fun r4=>bif q r4.1 0 then some (0,[i (g r4.2 6).I,i (g r4.2 7).I,t (g r4.2 8).S,t (g r4.2 0).S,i (g r4.2 1).I,b (g r4.2 2).B,s (g r4.2 10).L]) else none else bif d (((((g r1.2 2).S.extract (z (g r1.2 1).I) (z (g r1.2 3).I)).size):Int)=1) then bif inb 0 ((g r1.2 2).S.extract (z (g r1.2 1).I) (z (g r1.2 3).I)).size then (c ⟨205,0,0⟩ [i ((((g r1.2 2).S.extract (z (g r1.2 1).I) (z (g r1.2 3).I)).get! (z 0)).toNat)]).bind fun r5=>bif (g r5.2 0).B then bif inb 0 ((g r1.2 2).S.extract (z (g r1.2 1).I) (z (g r1.2 3).I)).size then (c ⟨97,0,0⟩ [i (w .i64 ((w .i64 ((((g r1.2 2).S.extract (z (g r1.2 1).I) (z (g r1.2 3).I)).get! (z 0)).toNat))-48))]).bind fun r6=>(c ⟨255,0,0⟩ [t (m #[40]),t (g r1.2 2).S,i (g r1.2 3).I,b (g r1.2 4).B]).bind fun r7=>bif !(g r7.2 0).B then some (0,[i (g r6.2 0).I,i (g r6.2 1).I,t (g r6.2 2).S,t (g r7.2 1).S,i (g r7.2 2).I,b (g r7.2 3).B,s (g r6.2 3).L]) else (c ⟨247,0,4⟩ [i (g r1.2 0).I,i 0,t (g r7.2 1).S,i (w .i64 ((g r7.2 2).I+1)),b (g r7.2 3).B,i (g r1.2 5).I,i (g r1.2 6).I,t (g r1.2 7).S,i (g r6.2 0).I,i (g r6.2 1).I,t (g r6.2 2).S,s (g r1.2 8).L,s (g r6.2 3).L]).bind fun r8=>bif q r8.1 0 then some (0,[i (g r8.2 6).I,i (g r8.2 7).I,t (g r8.2 8).S,t (g r8.2 0).S,i (g r8.2 1).I,b (g r8.2 2).B,s (g r8.2 10).L]) else none else none else (c ⟨255,0,0⟩ [t (m #[40]),t (g r1.2 2).S,i (g r1.2 3).I,b (g r1.2 4).B]).bind fun r9=>bif !(g r9.2 0).B then some (0,[i 2,i 0,t ((g r1.2 2).S.extract (z (g r1.2 1).I) (z (g r1.2 3).I)),t (g r9.2 1).S,i (g r9.2 2).I,b (g r9.2 3).B,s []]) else (c ⟨247,0,4⟩ [i (g r1.2 0).I,i 0,t (g r9.2 1).S,i (w .i64 ((g r9.2 2).I+1)),b (g r9.2 3).B,i (g r1.2 5).I,i (g r1.2 6).I,t (g r1.2 7).S,i 2,i 0,t ((g r1.2 2).S.extract (z (g r1.2 1).I) (z (g r1.2 3).I)),s (g r1.2 8).L,s []]).bind fun r10=>bif q r10.1 0 then some (0,[i (g r10.2 6).I,i (g r10.2 7).I,t (g r10.2 8).S,t (g r10.2 0).S,i (g r10.2 1).I,b (g r10.2 2).B,s (g r10.2 10).L]) else none else none else (c ⟨255,0,0⟩ [t (m #[40]),t (g r1.2 2).S,i (g r1.2 3).I,b (g r1.2 4).B]).bind fun r11=>bif !(g r11.2 0).B then some (0,[i 2,i 0,t ((g r1.2 2).S.extract (z (g r1.2 1).I) (z (g r1.2 3).I)),t (g r11.2 1).S,i (g r11.2 2).I,b (g r11.2 3).B,s []]) else (c ⟨247,0,4⟩ [i (g r1.2 0).I,i 0,t (g r11.2 1).S,i (w .i64 ((g r11.2 2).I+1)),b (g r11.2 3).B,i (g r1.2 5).I,i (g r1.2 6).I,t (g r1.2 7).S,i 2,i 0,t ((g r1.2 2).S.extract (z (g r1.2 1).I) (z (g r1.2 3).I)),s (g r1.2 8).L,s []]).bind fun r12=>bif q r12.1 0 then some (0,[i (g r12.2 6).I,i (g r12.2 7).I,t (g r12.2 8).S,t (g r12.2 0).S,i (g r12.2 1).I,b (g r12.2 2).B,s (g r12.2 10).L]) else none else none else none),Sd.en hc (.I fun _=>.S fun _=>.I fun _=>.B fun _=>.E (by kernel_rfl))⟩
def Ri:EV:=fun c hc=>⟨⟨247,0,1⟩,pI fun x0=>pI fun x1=>pS fun x2=>pI fun x3=>pB fun x4=>pI fun x5=>pI fun x6=>pS fun x7=>pL fun x8=>pE (bif d (x3<(x2).size) then bif inb x3 (x2).size then bif !d (((((x2).get! (z x3)).toNat):Int)=40) then bif inb x3 (x2).size then bif !d (((((x2).get! (z x3)).toNat):Int)=41) then bif inb x3 (x2).size then bif !d (((((x2).get! (z x3)).toNat):Int)=44) then bif inb x3 (x2).size then bif !d (((((x2).get! (z x3)).toNat):Int)=32) then c ⟨247,0,1⟩ [i x0,i x1,t x2,i (w .i64 (x3+1)),b x4,i x5,i x6,t x7,s x8] else some (0,[i x0,i x1,t x2,i x3,b x4,i x5,i x6,t x7,s x8]) else none else some (0,[i x0,i x1,t x2,i x3,b x4,i x5,i x6,t x7,s x8]) else none else some (0,[i x0,i x1,t x2,i x3,b x4,i x5,i x6,t x7,s x8]) else none else some (0,[i x0,i x1,t x2,i x3,b x4,i x5,i x6,t x7,s x8]) else none else some (0,[i x0,i x1,t x2,i x3,b x4,i x5,i x6,t x7,s x8])),Sd.en hc (.I fun _=>.I fun _=>.S fun _=>.I fun _=>.B fun _=>.I fun _=>.I fun _=>.S fun _=>.L fun _=>.E (by kernel_rfl))⟩
def Rj:EV:=fun c hc=>⟨⟨247,0,4⟩,pI fun x0=>pI fun x1=>pS fun x2=>pI fun x3=>pB fun x4=>pI fun x5=>pI fun x6=>pS fun x7=>pI fun x8=>pI fun x9=>pS fun x10=>pL fun x11=>pL fun x12=>pE (bif !x4 then bif d ((16:Int)<x0) then some (0,[t x2,i x3,b true,i x5,i x6,t x7,i x8,i x9,t x10,s x11,s x12]) else bif d ((60:Int)<x1) then some (0,[t x2,i x3,b true,i x5,i x6,t x7,i x8,i x9,t x10,s x11,s x12]) else (c ⟨247,0,0⟩ [i (w .i64 (x0+1)),t x2,i x3,b x4]).bind fun r1=>bif l (x12.length+(([[i (g r1.2 0).I,i (g r1.2 1).I,t (g r1.2 2).S,s (g r1.2 6).L]]:aa)).length) M63 then (c ⟨255,0,0⟩ [t (m #[41]),t (g r1.2 3).S,i (g r1.2 4).I,b (g r1.2 5).B]).bind fun r2=>bif (g r2.2 0).B then some (0,[t (g r2.2 1).S,i (w .i64 ((g r2.2 2).I+1)),b (g r2.2 3).B,i x5,i x6,t x7,i x8,i x9,t x10,s x11,s (x12++([[i (g r1.2 0).I,i (g r1.2 1).I,t (g r1.2 2).S,s (g r1.2 6).L]]:aa))]) else bif (g r2.2 3).B then c ⟨247,0,4⟩ [i x0,i (w .i64 (x1+1)),t (g r2.2 1).S,i (w .i64 ((g r2.2 2).I+2)),b true,i x5,i x6,t x7,i x8,i x9,t x10,s x11,s (x12++([[i (g r1.2 0).I,i (g r1.2 1).I,t (g r1.2 2).S,s (g r1.2 6).L]]:aa))] else (c ⟨255,0,0⟩ [t (m #[44,32]),t (g r2.2 1).S,i (g r2.2 2).I,b (g r2.2 3).B]).bind fun r3=>c ⟨247,0,4⟩ [i x0,i (w .i64 (x1+1)),t (g r3.2 1).S,i (w .i64 ((g r3.2 2).I+2)),b (!(g r3.2 0).B),i x5,i x6,t x7,i x8,i x9,t x10,s x11,s (x12++([[i (g r1.2 0).I,i (g r1.2 1).I,t (g r1.2 2).S,s (g r1.2 6).L]]:aa))] else none else some (0,[t x2,i x3,b x4,i x5,i x6,t x7,i x8,i x9,t x10,s x11,s x12])),Sd.en hc (.I fun _=>.I fun _=>.S fun _=>.I fun _=>.B fun _=>.I fun _=>.I fun _=>.S fun _=>.I fun _=>.I fun _=>.S fun _=>.L fun _=>.L fun _=>.E (by kernel_rfl))⟩
def Rk:EV:=fun c hc=>⟨⟨233,0,0⟩,pS fun x0=>pS fun x1=>pE ((c ⟨233,0,1⟩ [t x0,t x1,i 0]).bind fun r1=>bif q r1.1 0 then some (0,[t (g r1.2 0).S,t (m #[]),b false]) else bif q r1.1 1 then some (0,[t (g r1.2 0).S,t (g r1.2 1).S,b true]) else none),Sd.en hc (.S fun _=>.S fun _=>.E (by kernel_rfl))⟩
def Rm:EV:=fun c hc=>⟨⟨233,0,1⟩,pS fun x0=>pS fun x1=>pI fun x2=>pE (bif d (((w .i64 (x2+(x1).size)):Int)<=(x0).size) then bif d ((0:Int)<=x2)&&(d (x2<=w .i64 (x2+(x1).size))&&d ((w .i64 (x2+(x1).size):Int)<=(x0).size)) then bif d (((x0).extract (z x2) (z (w .i64 (x2+(x1).size))))=x1) then bif d ((0:Int)<=0)&&(d ((0:Int)<=x2)&&d (x2<=(x0).size)) then bif d ((0:Int)<=w .i64 (x2+(x1).size))&&(d ((w .i64 (x2+(x1).size):Int)<=((x0).size:Nat))&&d ((((x0).size:Nat):Int)<=(x0).size)) then some (1,[t ((x0).extract (z 0) (z x2)),t ((x0).extract (z (w .i64 (x2+(x1).size))) (z ((x0).size:Nat)))]) else none else none else c ⟨233,0,1⟩ [t x0,t x1,i (w .i64 (x2+1))] else none else some (0,[t x0])),Sd.en hc (.S fun _=>.S fun _=>.I fun _=>.E (by kernel_rfl))⟩
def Rn:EV:=fun c hc=>⟨⟨187,0,0⟩,pS fun x0=>pI fun x1=>pE ((c ⟨187,0,1⟩ [t x0,i x1,i 0,i 0,s ([]:aa)]).bind fun r1=>bif q r1.1 0 then some (0,[s (g r1.2 0).L]) else none),Sd.en hc (.S fun _=>.I fun _=>.E (by kernel_rfl))⟩
def Ro:EV:=fun c hc=>⟨⟨187,0,1⟩,pS fun x0=>pI fun x1=>pI fun x2=>pI fun x3=>pL fun x4=>pE (bif d (x3<=(x0).size) then bif d (x3=(x0).size) then bif d ((0:Int)<=x2)&&(d (x2<=x3)&&d (x3<=(x0).size)) then bif l (x4.length+(([[t ((x0).extract (z x2) (z x3))]]:aa)).length) M63 then c ⟨187,0,1⟩ [t x0,i x1,i (w .i64 (x3+1)),i (w .i64 (x3+1)),s (x4++([[t ((x0).extract (z x2) (z x3))]]:aa))] else none else none else bif inb x3 (x0).size then bif d (((((x0).get! (z x3)).toNat):Int)=x1) then bif d ((0:Int)<=x2)&&(d (x2<=x3)&&d (x3<=(x0).size)) then bif l (x4.length+(([[t ((x0).extract (z x2) (z x3))]]:aa)).length) M63 then c ⟨187,0,1⟩ [t x0,i x1,i (w .i64 (x3+1)),i (w .i64 (x3+1)),s (x4++([[t ((x0).extract (z x2) (z x3))]]:aa))] else none else none else c ⟨187,0,1⟩ [t x0,i x1,i x2,i (w .i64 (x3+1)),s x4] else none else some (0,[s x4])),Sd.en hc (.S fun _=>.I fun _=>.I fun _=>.I fun _=>.L fun _=>.E (by kernel_rfl))⟩
def Rp:EV:=fun c hc=>⟨⟨142,0,0⟩,pI fun x0=>pI fun x1=>pS fun x2=>pL fun x3=>pE (bif d (x0=3) then (c ⟨159,0,0⟩ [i x1]).bind fun r1=>some (0,[t (g r1.2 0).S]) else (c ⟨142,0,1⟩ [t x2,i 0,i x0,i x1,t x2,s x3]).bind fun r2=>bif q r2.1 0 then bif d ((0:Int)<(g r2.2 4).L.length) then bif d ((g r2.2 0).S.size+(m #[41]).size<=am) then some (0,[t ((g r2.2 0).S++(m #[41]))]) else none else some (0,[t (g r2.2 0).S]) else none),Sd.en hc (.I fun _=>.I fun _=>.S fun _=>.L fun _=>.E (by kernel_rfl))⟩
def Rq:EV:=fun c hc=>⟨⟨142,0,1⟩,pS fun x0=>pI fun x1=>pI fun x2=>pI fun x3=>pS fun x4=>pL fun x5=>pE (bif d (x1<x5.length) then bif d (x1=0) then bif d (x0.size+(m #[40]).size<=am) then bif inb x1 x5.length then (c ⟨142,0,0⟩ [i (g (p x5 (z x1)) 0).I,i (g (p x5 (z x1)) 1).I,t (g (p x5 (z x1)) 2).S,s (g (p x5 (z x1)) 3).L]).bind fun r1=>bif d ((x0++(m #[40])).size+(g r1.2 0).S.size<=am) then c ⟨142,0,1⟩ [t ((x0++(m #[40]))++(g r1.2 0).S),i (w .i64 (x1+1)),i x2,i x3,t x4,s x5] else none else none else none else bif d (x0.size+(m #[44,32]).size<=am) then bif inb x1 x5.length then (c ⟨142,0,0⟩ [i (g (p x5 (z x1)) 0).I,i (g (p x5 (z x1)) 1).I,t (g (p x5 (z x1)) 2).S,s (g (p x5 (z x1)) 3).L]).bind fun r2=>bif d ((x0++(m #[44,32])).size+(g r2.2 0).S.size<=am) then c ⟨142,0,1⟩ [t ((x0++(m #[44,32]))++(g r2.2 0).S),i (w .i64 (x1+1)),i x2,i x3,t x4,s x5] else none else none else none else some (0,[t x0,i x2,i x3,t x4,s x5])),Sd.en hc (.S fun _=>.I fun _=>.I fun _=>.I fun _=>.S fun _=>.L fun _=>.E (by kernel_rfl))⟩
def Rr:EV:=fun c hc=>⟨⟨255,0,0⟩,pS fun x0=>pS fun x1=>pI fun x2=>pB fun x3=>pE (bif d (((w .i64 (x2+(x0).size)):Int)<=(x1).size) then bif d ((0:Int)<=x2)&&(d (x2<=w .i64 (x2+(x0).size))&&d ((w .i64 (x2+(x0).size):Int)<=(x1).size)) then some (0,[b (d (((x1).extract (z x2) (z (w .i64 (x2+(x0).size))))=x0)),t x1,i x2,b x3]) else none else some (0,[b false,t x1,i x2,b x3])),Sd.en hc (.S fun _=>.S fun _=>.I fun _=>.B fun _=>.E (by kernel_rfl))⟩
def Rs:EV:=fun c hc=>⟨⟨180,0,0⟩,pS fun x0=>pE ((c ⟨180,0,1⟩ [t x0,i 1]).bind fun r1=>bif q r1.1 0 then (c ⟨41,0,0⟩ [i ((g r1.2 0).S.size),i 1,i 8]).bind fun r2=>some (0,[b (g r2.2 0).B]) else bif q r1.1 1 then some (0,[b false]) else none),Sd.en hc (.S fun _=>.E (by kernel_rfl))⟩
def Rt:EV:=fun c hc=>⟨⟨180,0,1⟩,pS fun x0=>pI fun x1=>pE (bif d (x1<(x0).size) then bif inb x1 (x0).size then (c ⟨202,0,0⟩ [i (((x0).get! (z x1)).toNat)]).bind fun r1=>bif !(g r1.2 0).B then bif inb x1 (x0).size then (c ⟨205,0,0⟩ [i (((x0).get! (z x1)).toNat)]).bind fun r2=>bif !(g r2.2 0).B then some (1,[]) else c ⟨180,0,1⟩ [t x0,i (w .i64 (x1+1))] else none else c ⟨180,0,1⟩ [t x0,i (w .i64 (x1+1))] else none else some (0,[t x0])),Sd.en hc (.S fun _=>.I fun _=>.E (by kernel_rfl))⟩
def Ru:EV:=fun c hc=>⟨⟨202,0,0⟩,pI fun x0=>pE (bif d ((97:Int)<=x0) then some (0,[b (d (x0<=122))]) else some (0,[b false])),Sd.en hc (.I fun _=>.E (by kernel_rfl))⟩
def Rv:EV:=fun c hc=>⟨⟨205,0,0⟩,pI fun x0=>pE (bif d ((48:Int)<=x0) then some (0,[b (d (x0<=57))]) else some (0,[b false])),Sd.en hc (.I fun _=>.E (by kernel_rfl))⟩
def Vc:EV:=fun c hc=>⟨⟨38,0,0⟩,pS fun x0=>pI fun x1=>pI fun x2=>pS fun x3=>pL fun x4=>pI fun x5=>pI fun x6=>pS fun x7=>pL fun x8=>pL fun x9=>pE (bif d ((m #[114,117,108,101,32]).size+x0.size<=am) then bif d (((m #[114,117,108,101,32])++x0).size+(m #[58,32]).size<=am) then (c ⟨79,0,0⟩ [i x1,i x2,t x3,s x4]).bind fun r1=>bif d ((((m #[114,117,108,101,32])++x0)++(m #[58,32])).size+(g r1.2 0).S.size<=am) then bif d (((((m #[114,117,108,101,32])++x0)++(m #[58,32]))++(g r1.2 0).S).size+(m #[32,61,62,32]).size<=am) then (c ⟨79,0,0⟩ [i x5,i x6,t x7,s x8]).bind fun r2=>bif d ((((((m #[114,117,108,101,32])++x0)++(m #[58,32]))++(g r1.2 0).S)++(m #[32,61,62,32])).size+(g r2.2 0).S.size<=am) then (c ⟨38,0,1⟩ [t ((((((m #[114,117,108,101,32])++x0)++(m #[58,32]))++(g r1.2 0).S)++(m #[32,61,62,32]))++(g r2.2 0).S),i 0,t x0,i x1,i x2,t x3,s x4,i x5,i x6,t x7,s x8,s x9]).bind fun r3=>bif q r3.1 0 then some (0,[t (g r3.2 0).S]) else none else none else none else none else none else none),Sd.en hc (.S fun _=>.I fun _=>.I fun _=>.S fun _=>.L fun _=>.I fun _=>.I fun _=>.S fun _=>.L fun _=>.L fun _=>.E (by kernel_rfl))⟩
def Vd:EV:=fun c hc=>⟨⟨38,0,1⟩,pS fun x0=>pI fun x1=>pS fun x2=>pI fun x3=>pI fun x4=>pS fun x5=>pL fun x6=>pI fun x7=>pI fun x8=>pS fun x9=>pL fun x10=>pL fun x11=>pE (bif d (x1<x11.length) then bif d (x1=0) then bif d (x0.size+(m #[32,105,102,32]).size<=am) then bif inb x1 x11.length then (c ⟨80,0,0⟩ [i (g (p x11 (z x1)) 0).I,i (g (p x11 (z x1)) 1).I,i (g (p x11 (z x1)) 2).I,t (g (p x11 (z x1)) 3).S,s (g (p x11 (z x1)) 4).L,i (g (p x11 (z x1)) 5).I,i (g (p x11 (z x1)) 6).I,t (g (p x11 (z x1)) 7).S,s (g (p x11 (z x1)) 8).L]).bind fun r1=>bif d ((x0++(m #[32,105,102,32])).size+(g r1.2 0).S.size<=am) then c ⟨38,0,1⟩ [t ((x0++(m #[32,105,102,32]))++(g r1.2 0).S),i (w .i64 (x1+1)),t x2,i x3,i x4,t x5,s x6,i x7,i x8,t x9,s x10,s x11] else none else none else none else bif d (x0.size+(m #[32,38,32]).size<=am) then bif inb x1 x11.length then (c ⟨80,0,0⟩ [i (g (p x11 (z x1)) 0).I,i (g (p x11 (z x1)) 1).I,i (g (p x11 (z x1)) 2).I,t (g (p x11 (z x1)) 3).S,s (g (p x11 (z x1)) 4).L,i (g (p x11 (z x1)) 5).I,i (g (p x11 (z x1)) 6).I,t (g (p x11 (z x1)) 7).S,s (g (p x11 (z x1)) 8).L]).bind fun r2=>bif d ((x0++(m #[32,38,32])).size+(g r2.2 0).S.size<=am) then c ⟨38,0,1⟩ [t ((x0++(m #[32,38,32]))++(g r2.2 0).S),i (w .i64 (x1+1)),t x2,i x3,i x4,t x5,s x6,i x7,i x8,t x9,s x10,s x11] else none else none else none else some (0,[t x0])),Sd.en hc (.S fun _=>.I fun _=>.S fun _=>.I fun _=>.I fun _=>.S fun _=>.L fun _=>.I fun _=>.I fun _=>.S fun _=>.L fun _=>.L fun _=>.E (by kernel_rfl))⟩
def Ve:EV:=fun c hc=>⟨⟨41,0,0⟩,pI fun x0=>pI fun x1=>pI fun x2=>pE (bif d (x1<=x0) then some (0,[b (d (x0<=x2))]) else some (0,[b false])),Sd.en hc (.I fun _=>.I fun _=>.I fun _=>.E (by kernel_rfl))⟩
def Vf:EV:=fun c hc=>⟨⟨73,0,0⟩,pI fun x0=>pE ((c ⟨41,0,0⟩ [i x0,i 1,i 3]).bind fun r1=>bif !(g r1.2 0).B then some (0,[t (m #[])]) else bif inb x0 (([[t (m #[])],[t (m #[32,61,61,32])],[t (m #[32,33,61,32])],[t (m #[32,60,32])]]:aa)).length then some (0,[t (g (p ([[t (m #[])],[t (m #[32,61,61,32])],[t (m #[32,33,61,32])],[t (m #[32,60,32])]]:aa) (z x0)) 0).S]) else none),Sd.en hc (.I fun _=>.E (by kernel_rfl))⟩
def Vg:EV:=fun c hc=>⟨⟨79,0,0⟩,pI fun x0=>pI fun x1=>pS fun x2=>pL fun x3=>pE ((c ⟨70,0,0⟩ [i x0,i x1,t x2,s x3]).bind fun r1=>bif !(g r1.2 0).B then some (0,[t (m #[])]) else (c ⟨142,0,0⟩ [i x0,i x1,t x2,s x3]).bind fun r2=>some (0,[t (g r2.2 0).S])),Sd.en hc (.I fun _=>.I fun _=>.S fun _=>.L fun _=>.E (by kernel_rfl))⟩
def Vh:EV:=fun c hc=>⟨⟨80,0,0⟩,pI fun x0=>pI fun x1=>pI fun x2=>pS fun x3=>pL fun x4=>pI fun x5=>pI fun x6=>pS fun x7=>pL fun x8=>pE ((c ⟨79,0,0⟩ [i x1,i x2,t x3,s x4]).bind fun r1=>(c ⟨79,0,0⟩ [i x5,i x6,t x7,s x8]).bind fun r2=>(c ⟨73,0,0⟩ [i x0]).bind fun r3=>bif d ((g r1.2 0).S=(m #[])) then some (0,[t (m #[])]) else bif d ((g r2.2 0).S=(m #[])) then some (0,[t (m #[])]) else bif d ((g r3.2 0).S=(m #[])) then some (0,[t (m #[])]) else bif d ((g r1.2 0).S.size+(g r3.2 0).S.size<=am) then bif d (((g r1.2 0).S++(g r3.2 0).S).size+(g r2.2 0).S.size<=am) then some (0,[t (((g r1.2 0).S++(g r3.2 0).S)++(g r2.2 0).S)]) else none else none),Sd.en hc (.I fun _=>.I fun _=>.I fun _=>.S fun _=>.L fun _=>.I fun _=>.I fun _=>.S fun _=>.L fun _=>.E (by kernel_rfl))⟩
def Vi:EV:=fun c hc=>⟨⟨97,0,0⟩,pI fun x0=>pE (some (0,[i 3,i x0,t (m #[]),s []])),Sd.en hc (.I fun _=>.E (by kernel_rfl))⟩
def Rw:EV:=fun c hc=>⟨⟨101,0,0⟩,pE ((c ⟨163,0,0⟩ [i 3]).bind fun r1=>(c ⟨162,0,0⟩ [t (g r1.2 0).S]).bind fun r2=>some (0,[s (g r2.2 1).L,s (g r2.2 2).L,s (g r2.2 3).L,s (g r2.2 4).L])),Sd.en hc (.E (by kernel_rfl))⟩
def Rx:EV:=fun c hc=>⟨⟨133,0,0⟩,pS fun x0=>pE (bif !d (x0=(m #[])) then bif inb 0 (x0).size then bif d ((65:Int)<=(((x0).get! (z 0)).toNat)) then bif inb 0 (x0).size then bif d (((((x0).get! (z 0)).toNat):Int)<=90) then (c ⟨180,0,0⟩ [t x0]).bind fun r1=>some (0,[b (g r1.2 0).B]) else some (0,[b false]) else none else some (0,[b false]) else none else some (0,[b false])),Sd.en hc (.S fun _=>.E (by kernel_rfl))⟩
def Ry:EV:=fun c hc=>⟨⟨159,0,0⟩,pI fun x0=>pE (bif d (x0=0) then some (0,[t (m #[48])]) else (c ⟨159,0,1⟩ [i x0,b (d (x0<0)),t (m #[])]).bind fun r1=>bif q r1.1 0 then bif (g r1.2 0).B then bif d ((m #[45]).size+(g r1.2 1).S.size<=am) then some (0,[t ((m #[45])++(g r1.2 1).S)]) else none else some (0,[t (g r1.2 1).S]) else none),Sd.en hc (.I fun _=>.E (by kernel_rfl))⟩
def Rz:EV:=fun c hc=>⟨⟨159,0,1⟩,pI fun x0=>pB fun x1=>pS fun x2=>pE (bif !d (x0=0) then bif !d ((10:Int)=0) then bif d (((O0 x0 10):Int)<0) then bif d ((eh ([[i (IntKind.u8.wrap (w .i64 (48+(w .i64 (0-(O0 x0 10))))))]]:aa)).size+x2.size<=am) then bif !d ((10:Int)=0) then c ⟨159,0,1⟩ [i (w .i64 (Int.tdiv x0 10)),b x1,t ((eh ([[i (IntKind.u8.wrap (w .i64 (48+(w .i64 (0-(O0 x0 10))))))]]:aa))++x2)] else none else none else bif d ((eh ([[i (IntKind.u8.wrap (w .i64 (48+(O0 x0 10))))]]:aa)).size+x2.size<=am) then bif !d ((10:Int)=0) then c ⟨159,0,1⟩ [i (w .i64 (Int.tdiv x0 10)),b x1,t ((eh ([[i (IntKind.u8.wrap (w .i64 (48+(O0 x0 10))))]]:aa))++x2)] else none else none else none else some (0,[b x1,t x2])),Sd.en hc (.I fun _=>.B fun _=>.S fun _=>.E (by kernel_rfl))⟩
def Sa:EV:=fun c hc=>⟨⟨162,0,0⟩,pS fun x0=>pE ((c ⟨187,0,0⟩ [t x0,i 10]).bind fun r1=>bif inb (w .i64 ((g r1.2 0).L.length-1)) (g r1.2 0).L.length then bif d ((g (p (g r1.2 0).L (z (w .i64 ((g r1.2 0).L.length-1)))) 0).S=(m #[])) then bif d ((0:Int)<=0)&&(d ((0:Int)<=w .i64 ((g r1.2 0).L.length-1))&&d ((w .i64 ((g r1.2 0).L.length-1):Int)<=(g r1.2 0).L.length)) then (c ⟨162,0,1⟩ [t x0,s (((g r1.2 0).L.take (z (w .i64 ((g r1.2 0).L.length-1)))).drop (z 0)),i 0,s [],s [],s [],s [],s [],s [],s [],s []]).bind fun r2=>bif q r2.1 0 then (c ⟨189,0,0⟩ [s (g r2.2 6).L,s (g r2.2 7).L,s (g r2.2 8).L,s (g r2.2 9).L]).bind fun r3=>bif !d ((g r3.2 0).S=(g r2.2 0).S) then some (0,[i (g r2.2 1).L.length,s [],s [],s [],s []]) else some (0,[i (-1),s (g r2.2 6).L,s (g r2.2 7).L,s (g r2.2 8).L,s (g r2.2 9).L]) else bif q r2.1 1 then some (0,[i (g r2.2 0).I,s (g r2.2 1).L,s (g r2.2 2).L,s (g r2.2 3).L,s (g r2.2 4).L]) else none else none else (c ⟨162,0,1⟩ [t x0,s (g r1.2 0).L,i 0,s [],s [],s [],s [],s [],s [],s [],s []]).bind fun r4=>bif q r4.1 0 then (c ⟨189,0,0⟩ [s (g r4.2 6).L,s (g r4.2 7).L,s (g r4.2 8).L,s (g r4.2 9).L]).bind fun r5=>bif !d ((g r5.2 0).S=(g r4.2 0).S) then some (0,[i (g r4.2 1).L.length,s [],s [],s [],s []]) else some (0,[i (-1),s (g r4.2 6).L,s (g r4.2 7).L,s (g r4.2 8).L,s (g r4.2 9).L]) else bif q r4.1 1 then some (0,[i (g r4.2 0).I,s (g r4.2 1).L,s (g r4.2 2).L,s (g r4.2 3).L,s (g r4.2 4).L]) else none else none),Sd.en hc (.S fun _=>.E (by kernel_rfl))⟩
def Sb:EV:=fun c hc=>⟨⟨162,0,1⟩,pS fun x0=>pL fun x1=>pI fun x2=>pL fun x3=>pL fun x4=>pL fun x5=>pL fun x6=>pL fun x7=>pL fun x8=>pL fun x9=>pL fun x10=>pE (bif d (x2<x1.length) then bif inb x2 x1.length then (c ⟨188,1,0⟩ [t (g (p x1 (z x2)) 0).S,s x7,s x8,s x9,s x10]).bind fun r1=>bif !(g r1.2 0).B then some (1,[i x2,s [],s [],s [],s []]) else c ⟨162,0,1⟩ [t x0,s x1,i (w .i64 (x2+1)),s x3,s x4,s x5,s x6,s (g r1.2 1).L,s (g r1.2 2).L,s (g r1.2 3).L,s (g r1.2 4).L] else none else some (0,[t x0,s x1,s x3,s x4,s x5,s x6,s x7,s x8,s x9,s x10])),Sd.en hc (.S fun _=>.L fun _=>.I fun _=>.L fun _=>.L fun _=>.L fun _=>.L fun _=>.L fun _=>.L fun _=>.L fun _=>.L fun _=>.E (by kernel_rfl))⟩
def Sc:EV:=fun c hc=>⟨⟨163,0,0⟩,pI fun x0=>pE ((c ⟨190,0,0⟩ [i x0]).bind fun r1=>bif d (((g r1.2 0).L.length:Int)=0) then some (0,[t (m #[])]) else (c ⟨191,0,0⟩ [s (g r1.2 0).L,t (m #[10])]).bind fun r2=>bif d ((g r2.2 0).S.size+(m #[10]).size<=am) then some (0,[t ((g r2.2 0).S++(m #[10]))]) else none),Sd.en hc (.I fun _=>.E (by kernel_rfl))⟩
def Se:EV:=fun c hc=>⟨⟨176,0,0⟩,pS fun x0=>pE (bif !d (x0=(m #[])) then bif inb 0 (x0).size then (c ⟨202,0,0⟩ [i (((x0).get! (z 0)).toNat)]).bind fun r1=>bif (g r1.2 0).B then (c ⟨180,0,0⟩ [t x0]).bind fun r2=>some (0,[b (g r2.2 0).B]) else some (0,[b false]) else none else some (0,[b false])),Sd.en hc (.S fun _=>.E (by kernel_rfl))⟩
def Sf:EV:=fun c hc=>⟨⟨188,1,0⟩,pS fun x0=>pL fun x1=>pL fun x2=>pL fun x3=>pL fun x4=>pE ((c ⟨187,0,0⟩ [t x0,i 32]).bind fun r1=>bif inb 0 (g r1.2 0).L.length then bif d ((g (p (g r1.2 0).L (z 0)) 0).S=(m #[115,111,114,116])) then bif d ((0:Int)<=1)&&(d ((1:Int)<=((g r1.2 0).L.length:Nat))&&d ((((g r1.2 0).L.length:Nat):Int)<=(g r1.2 0).L.length)) then (c ⟨191,0,0⟩ [s (((g r1.2 0).L.take (z ((g r1.2 0).L.length:Nat))).drop (z 1)),t (m #[32])]).bind fun r2=>bif l (x1.length+(([[t (g r2.2 0).S]]:aa)).length) M63 then some (0,[b true,s (x1++([[t (g r2.2 0).S]]:aa)),s x2,s x3,s x4]) else none else none else bif d ((g (p (g r1.2 0).L (z 0)) 0).S=(m #[111,112])) then (c ⟨210,0,0⟩ [s (g r1.2 0).L]).bind fun r3=>bif l (x2.length+(([[t (g r3.2 0).S,s (g r3.2 2).L,t (g r3.2 1).S]]:aa)).length) M63 then some (0,[b true,s x1,s (x2++([[t (g r3.2 0).S,s (g r3.2 2).L,t (g r3.2 1).S]]:aa)),s x3,s x4]) else none else bif d ((g (p (g r1.2 0).L (z 0)) 0).S=(m #[115,116,114,105,99,116])) then bif inb (w .i64 ((g r1.2 0).L.length-1)) (g r1.2 0).L.length then (c ⟨211,0,0⟩ [t (g (p (g r1.2 0).L (z (w .i64 ((g r1.2 0).L.length-1)))) 0).S]).bind fun r4=>(c ⟨212,0,0⟩ [i 1,i (w .i64 ((g r1.2 0).L.length-1))]).bind fun r5=>bif inb (g r5.2 0).I (g r1.2 0).L.length then bif l (x4.length+(([[t (g (p (g r1.2 0).L (z (g r5.2 0).I)) 0).S,i (g r4.2 0).I]]:aa)).length) M63 then some (0,[b true,s x1,s x2,s x3,s (x4++([[t (g (p (g r1.2 0).L (z (g r5.2 0).I)) 0).S,i (g r4.2 0).I]]:aa))]) else none else none else none else bif d ((g (p (g r1.2 0).L (z 0)) 0).S=(m #[114,117,108,101])) then (c ⟨213,0,0⟩ [t x0]).bind fun r6=>bif l (x3.length+(([[t (g r6.2 0).S,i (g r6.2 1).I,i (g r6.2 2).I,t (g r6.2 3).S,s (g r6.2 8).L,i (g r6.2 4).I,i (g r6.2 5).I,t (g r6.2 6).S,s (g r6.2 9).L,s (g r6.2 10).L]]:aa)).length) M63 then some (0,[b (g r6.2 7).B,s x1,s x2,s (x3++([[t (g r6.2 0).S,i (g r6.2 1).I,i (g r6.2 2).I,t (g r6.2 3).S,s (g r6.2 8).L,i (g r6.2 4).I,i (g r6.2 5).I,t (g r6.2 6).S,s (g r6.2 9).L,s (g r6.2 10).L]]:aa)),s x4]) else none else some (0,[b false,s x1,s x2,s x3,s x4]) else none),Sd.en hc (.S fun _=>.L fun _=>.L fun _=>.L fun _=>.L fun _=>.E (by kernel_rfl))⟩
def Sg:EV:=fun c hc=>⟨⟨189,0,0⟩,pL fun x0=>pL fun x1=>pL fun x2=>pL fun x3=>pE ((c ⟨68,0,0⟩ [s x0,s x1,s x2,s x3]).bind fun r1=>bif !(g r1.2 0).B then some (0,[t (m #[])]) else (c ⟨189,0,1⟩ [t (m #[]),i 0,s x0,s x1,s x2,s x3]).bind fun r2=>bif q r2.1 0 then (c ⟨189,0,3⟩ [t (g r2.2 0).S,i 0,s (g r2.2 1).L,s (g r2.2 2).L,s (g r2.2 3).L,s (g r2.2 4).L]).bind fun r3=>bif q r3.1 0 then (c ⟨189,0,7⟩ [t (g r3.2 0).S,i 0,s (g r3.2 1).L,s (g r3.2 2).L,s (g r3.2 3).L,s (g r3.2 4).L]).bind fun r4=>bif q r4.1 0 then (c ⟨189,0,9⟩ [t (g r4.2 0).S,i 0,s (g r4.2 1).L,s (g r4.2 2).L,s (g r4.2 3).L,s (g r4.2 4).L]).bind fun r5=>bif q r5.1 0 then some (0,[t (g r5.2 0).S]) else none else none else none else none),Sd.en hc (.L fun _=>.L fun _=>.L fun _=>.L fun _=>.E (by kernel_rfl))⟩
def Si:EV:=fun c hc=>⟨⟨189,0,1⟩,pS fun x0=>pI fun x1=>pL fun x2=>pL fun x3=>pL fun x4=>pL fun x5=>pE (bif d (x1<x2.length) then bif d (x0.size+(m #[115,111,114,116,32]).size<=am) then bif inb x1 x2.length then bif d ((x0++(m #[115,111,114,116,32])).size+(g (p x2 (z x1)) 0).S.size<=am) then bif d (((x0++(m #[115,111,114,116,32]))++(g (p x2 (z x1)) 0).S).size+(m #[10]).size<=am) then c ⟨189,0,1⟩ [t (((x0++(m #[115,111,114,116,32]))++(g (p x2 (z x1)) 0).S)++(m #[10])),i (w .i64 (x1+1)),s x2,s x3,s x4,s x5] else none else none else none else none else some (0,[t x0,s x2,s x3,s x4,s x5])),Sd.en hc (.S fun _=>.I fun _=>.L fun _=>.L fun _=>.L fun _=>.L fun _=>.E (by kernel_rfl))⟩
def Sj:EV:=fun c hc=>⟨⟨189,0,3⟩,pS fun x0=>pI fun x1=>pL fun x2=>pL fun x3=>pL fun x4=>pL fun x5=>pE (bif d (x1<x3.length) then bif inb x1 x3.length then bif d (x0.size+(m #[111,112,32]).size<=am) then bif d ((x0++(m #[111,112,32])).size+(g (p x3 (z x1)) 0).S.size<=am) then (c ⟨189,0,5⟩ [t ((x0++(m #[111,112,32]))++(g (p x3 (z x1)) 0).S),i x1,i 0,s x2,s x3,s x4,s x5,t (g (p x3 (z x1)) 0).S,s (g (p x3 (z x1)) 1).L,t (g (p x3 (z x1)) 2).S]).bind fun r1=>bif q r1.1 0 then bif d ((g r1.2 0).S.size+(m #[32,58,32]).size<=am) then bif d (((g r1.2 0).S++(m #[32,58,32])).size+(g r1.2 8).S.size<=am) then bif d ((((g r1.2 0).S++(m #[32,58,32]))++(g r1.2 8).S).size+(m #[10]).size<=am) then c ⟨189,0,3⟩ [t ((((g r1.2 0).S++(m #[32,58,32]))++(g r1.2 8).S)++(m #[10])),i (w .i64 ((g r1.2 1).I+1)),s (g r1.2 2).L,s (g r1.2 3).L,s (g r1.2 4).L,s (g r1.2 5).L] else none else none else none else none else none else none else none else some (0,[t x0,s x2,s x3,s x4,s x5])),Sd.en hc (.S fun _=>.I fun _=>.L fun _=>.L fun _=>.L fun _=>.L fun _=>.E (by kernel_rfl))⟩
def Sk:EV:=fun c hc=>⟨⟨189,0,5⟩,pS fun x0=>pI fun x1=>pI fun x2=>pL fun x3=>pL fun x4=>pL fun x5=>pL fun x6=>pS fun x7=>pL fun x8=>pS fun x9=>pE (bif d (x2<x8.length) then bif d (x0.size+(m #[32]).size<=am) then bif inb x2 x8.length then bif d ((x0++(m #[32])).size+(g (p x8 (z x2)) 0).S.size<=am) then c ⟨189,0,5⟩ [t ((x0++(m #[32]))++(g (p x8 (z x2)) 0).S),i x1,i (w .i64 (x2+1)),s x3,s x4,s x5,s x6,t x7,s x8,t x9] else none else none else none else some (0,[t x0,i x1,s x3,s x4,s x5,s x6,t x7,s x8,t x9])),Sd.en hc (.S fun _=>.I fun _=>.I fun _=>.L fun _=>.L fun _=>.L fun _=>.L fun _=>.S fun _=>.L fun _=>.S fun _=>.E (by kernel_rfl))⟩
def Sl:EV:=fun c hc=>⟨⟨189,0,7⟩,pS fun x0=>pI fun x1=>pL fun x2=>pL fun x3=>pL fun x4=>pL fun x5=>pE (bif d (x1<x5.length) then bif d (x0.size+(m #[115,116,114,105,99,116,32]).size<=am) then bif inb x1 x5.length then bif d ((x0++(m #[115,116,114,105,99,116,32])).size+(g (p x5 (z x1)) 0).S.size<=am) then bif d (((x0++(m #[115,116,114,105,99,116,32]))++(g (p x5 (z x1)) 0).S).size+(m #[32]).size<=am) then bif inb x1 x5.length then (c ⟨159,0,0⟩ [i (g (p x5 (z x1)) 1).I]).bind fun r1=>bif d ((((x0++(m #[115,116,114,105,99,116,32]))++(g (p x5 (z x1)) 0).S)++(m #[32])).size+(g r1.2 0).S.size<=am) then bif d (((((x0++(m #[115,116,114,105,99,116,32]))++(g (p x5 (z x1)) 0).S)++(m #[32]))++(g r1.2 0).S).size+(m #[10]).size<=am) then c ⟨189,0,7⟩ [t (((((x0++(m #[115,116,114,105,99,116,32]))++(g (p x5 (z x1)) 0).S)++(m #[32]))++(g r1.2 0).S)++(m #[10])),i (w .i64 (x1+1)),s x2,s x3,s x4,s x5] else none else none else none else none else none else none else none else some (0,[t x0,s x2,s x3,s x4,s x5])),Sd.en hc (.S fun _=>.I fun _=>.L fun _=>.L fun _=>.L fun _=>.L fun _=>.E (by kernel_rfl))⟩
def Sm:EV:=fun c hc=>⟨⟨189,0,9⟩,pS fun x0=>pI fun x1=>pL fun x2=>pL fun x3=>pL fun x4=>pL fun x5=>pE (bif d (x1<x4.length) then bif inb x1 x4.length then (c ⟨38,0,0⟩ [t (g (p x4 (z x1)) 0).S,i (g (p x4 (z x1)) 1).I,i (g (p x4 (z x1)) 2).I,t (g (p x4 (z x1)) 3).S,s (g (p x4 (z x1)) 4).L,i (g (p x4 (z x1)) 5).I,i (g (p x4 (z x1)) 6).I,t (g (p x4 (z x1)) 7).S,s (g (p x4 (z x1)) 8).L,s (g (p x4 (z x1)) 9).L]).bind fun r1=>bif d (x0.size+(g r1.2 0).S.size<=am) then bif d ((x0++(g r1.2 0).S).size+(m #[10]).size<=am) then c ⟨189,0,9⟩ [t ((x0++(g r1.2 0).S)++(m #[10])),i (w .i64 (x1+1)),s x2,s x3,s x4,s x5] else none else none else none else some (0,[t x0])),Sd.en hc (.S fun _=>.I fun _=>.L fun _=>.L fun _=>.L fun _=>.L fun _=>.E (by kernel_rfl))⟩
def Sn:EV:=fun c hc=>⟨⟨190,0,0⟩,pI fun x0=>pE (bif d (x0=1) then some (0,[s ([[t (m #[115,111,114,116,32,101])],[t (m #[111,112,32,110,117,109,32,119,111,114,100,32,58,32,101])],[t (m #[111,112,32,97,100,100,32,101,32,101,32,58,32,101])],[t (m #[111,112,32,109,117,108,32,101,32,101,32,58,32,101])],[t (m #[111,112,32,105,102,122,32,101,32,101,32,101,32,58,32,101])],[t (m #[115,116,114,105,99,116,32,97,100,100,32,48])],[t (m #[115,116,114,105,99,116,32,97,100,100,32,49])],[t (m #[115,116,114,105,99,116,32,109,117,108,32,48])],[t (m #[115,116,114,105,99,116,32,109,117,108,32,49])],[t (m #[115,116,114,105,99,116,32,105,102,122,32,48])],[t (m #[114,117,108,101,32,97,100,100,58,32,97,100,100,40,110,117,109,40,78,41,44,32,110,117,109,40,77,41,41,32,61,62,32,110,117,109,40,112,108,117,115,40,78,44,32,77,41,41])],[t (m #[114,117,108,101,32,109,117,108,58,32,109,117,108,40,110,117,109,40,78,41,44,32,110,117,109,40,77,41,41,32,61,62,32,110,117,109,40,116,105,109,101,115,40,78,44,32,77,41,41])],[t (m #[114,117,108,101,32,122,101,114,111,58,32,105,102,122,40,110,117,109,40,48,41,44,32,88,44,32,89,41,32,61,62,32,88])],[t (m #[114,117,108,101,32,111,116,104,101,114,58,32,105,102,122,40,110,117,109,40,78,41,44,32,88,44,32,89,41,32,61,62,32,89,32,105,102,32,48,32,60,32,78])]]:aa)]) else bif d (x0=2) then some (0,[s ([[t (m #[115,111,114,116,32,101])],[t (m #[115,111,114,116,32,105])],[t (m #[115,111,114,116,32,115])],[t (m #[115,111,114,116,32,99])],[t (m #[111,112,32,110,117,109,32,119,111,114,100,32,58,32,101])],[t (m #[111,112,32,97,100,100,32,101,32,101,32,58,32,101])],[t (m #[111,112,32,109,117,108,32,101,32,101,32,58,32,101])],[t (m #[111,112,32,104,97,108,116,32,58,32,105])],[t (m #[111,112,32,112,117,115,104,32,119,111,114,100,32,105,32,58,32,105])],[t (m #[111,112,32,115,117,109,32,105,32,58,32,105])],[t (m #[111,112,32,112,114,111,100,32,105,32,58,32,105])],[t (m #[111,112,32,110,105,108,32,58,32,115])],[t (m #[111,112,32,99,111,110,115,32,119,111,114,100,32,115,32,58,32,115])],[t (m #[111,112,32,114,117,110,32,105,32,115,32,58,32,99])],[t (m #[111,112,32,99,111,109,112,32,101,32,105,32,58,32,105])],[t (m #[115,116,114,105,99,116,32,99,111,109,112,32,49])],[t (m #[115,116,114,105,99,116,32,114,117,110,32,48])],[t (m #[114,117,108,101,32,108,105,116,58,32,99,111,109,112,40,110,117,109,40,78,41,44,32,73,41,32,61,62,32,112,117,115,104,40,78,44,32,73,41])],[t (m #[114,117,108,101,32,99,115,117,109,58,32,99,111,109,112,40,97,100,100,40,88,44,32,89,41,44,32,73,41,32,61,62,32,99,111,109,112,40,88,44,32,99,111,109,112,40,89,44,32,115,117,109,40,73,41,41,41])],[t (m #[114,117,108,101,32,99,112,114,111,100,58,32,99,111,109,112,40,109,117,108,40,88,44,32,89,41,44,32,73,41,32,61,62,32,99,111,109,112,40,88,44,32,99,111,109,112,40,89,44,32,112,114,111,100,40,73,41,41,41])],[t (m #[114,117,108,101,32,112,117,115,104,58,32,114,117,110,40,112,117,115,104,40,78,44,32,73,41,44,32,83,41,32,61,62,32,114,117,110,40,73,44,32,99,111,110,115,40,78,44,32,83,41,41])],[t (m #[114,117,108,101,32,115,117,109,58,32,114,117,110,40,115,117,109,40,73,41,44,32,99,111,110,115,40,78,44,32,99,111,110,115,40,77,44,32,83,41,41,41,32,61,62,32,114,117,110,40,73,44,32,99,111,110,115,40,112,108,117,115,40,77,44,32,78,41,44,32,83,41,41])],[t (m #[114,117,108,101,32,112,114,111,100,58,32,114,117,110,40,112,114,111,100,40,73,41,44,32,99,111,110,115,40,78,44,32,99,111,110,115,40,77,44,32,83,41,41,41,32,61,62,32,114,117,110,40,73,44,32,99,111,110,115,40,116,105,109,101,115,40,77,44,32,78,41,44,32,83,41,41])]]:aa)]) else bif d (x0=3) then some (0,[s ([[t (m #[115,111,114,116,32,99])],[t (m #[111,112,32,108,111,111,112,32,119,111,114,100,32,119,111,114,100,32,58,32,99])],[t (m #[111,112,32,100,111,110,101,32,119,111,114,100,32,58,32,99])],[t (m #[114,117,108,101,32,116,117,114,110,58,32,108,111,111,112,40,78,44,32,77,41,32,61,62,32,108,111,111,112,40,109,105,110,117,115,40,78,44,32,49,41,44,32,112,108,117,115,40,77,44,32,49,41,41,32,105,102,32,48,32,60,32,78])],[t (m #[114,117,108,101,32,101,110,100,58,32,108,111,111,112,40,48,44,32,77,41,32,61,62,32,100,111,110,101,40,77,41])]]:aa)]) else some (0,[s ([]:aa)])),Sd.en hc (.I fun _=>.E (by kernel_rfl))⟩
def So:EV:=fun c hc=>⟨⟨191,0,0⟩,pL fun x0=>pS fun x1=>pE ((c ⟨191,0,1⟩ [s x0,t x1,i 0,s ([]:aa)]).bind fun r1=>bif q r1.1 0 then some (0,[t (eh (g r1.2 0).L)]) else none),Sd.en hc (.L fun _=>.S fun _=>.E (by kernel_rfl))⟩
def Sp:EV:=fun c hc=>⟨⟨191,0,1⟩,pL fun x0=>pS fun x1=>pI fun x2=>pL fun x3=>pE (bif d (x2<x0.length) then bif d ((0:Int)<x2) then bif l (x3.length+(jr x1).length) M63 then bif inb x2 x0.length then bif l ((x3++(jr x1)).length+(jr (g (p x0 (z x2)) 0).S).length) M63 then c ⟨191,0,1⟩ [s x0,t x1,i (w .i64 (x2+1)),s ((x3++(jr x1))++(jr (g (p x0 (z x2)) 0).S))] else none else none else none else bif inb x2 x0.length then bif l (x3.length+(jr (g (p x0 (z x2)) 0).S).length) M63 then c ⟨191,0,1⟩ [s x0,t x1,i (w .i64 (x2+1)),s (x3++(jr (g (p x0 (z x2)) 0).S))] else none else none else some (0,[s x3])),Sd.en hc (.L fun _=>.S fun _=>.I fun _=>.L fun _=>.E (by kernel_rfl))⟩
def Sq:EV:=fun c hc=>⟨⟨210,0,0⟩,pL fun x0=>pE ((c ⟨210,0,1⟩ [s x0,i 1,t (m #[]),t (m #[]),t (m #[]),t (m #[]),s [],s []]).bind fun r1=>bif q r1.1 0 then some (0,[t (g r1.2 2).S,t (g r1.2 3).S,s (g r1.2 5).L]) else bif q r1.1 1 then some (0,[t (g r1.2 0).S,t (g r1.2 1).S,s (g r1.2 2).L]) else none),Sd.en hc (.L fun _=>.E (by kernel_rfl))⟩
def Sr:EV:=fun c hc=>⟨⟨210,0,1⟩,pL fun x0=>pI fun x1=>pS fun x2=>pS fun x3=>pS fun x4=>pS fun x5=>pL fun x6=>pL fun x7=>pE (bif d (x1<x0.length) then bif d (x1=1) then bif inb x1 x0.length then c ⟨210,0,1⟩ [s x0,i (w .i64 (x1+1)),t x2,t x3,t (g (p x0 (z x1)) 0).S,t x5,s x6,s x7] else none else bif inb x1 x0.length then bif d ((g (p x0 (z x1)) 0).S=(m #[58])) then bif d (x1=(w .i64 (x0.length-2))) then bif inb (w .i64 (x1+1)) x0.length then some (1,[t x4,t (g (p x0 (z (w .i64 (x1+1)))) 0).S,s x7]) else none else bif inb x1 x0.length then bif l (x7.length+(([[t (g (p x0 (z x1)) 0).S]]:aa)).length) M63 then c ⟨210,0,1⟩ [s x0,i (w .i64 (x1+1)),t x2,t x3,t x4,t x5,s x6,s (x7++([[t (g (p x0 (z x1)) 0).S]]:aa))] else none else none else bif inb x1 x0.length then bif l (x7.length+(([[t (g (p x0 (z x1)) 0).S]]:aa)).length) M63 then c ⟨210,0,1⟩ [s x0,i (w .i64 (x1+1)),t x2,t x3,t x4,t x5,s x6,s (x7++([[t (g (p x0 (z x1)) 0).S]]:aa))] else none else none else none else some (0,[t x2,t x3,t x4,t x5,s x6,s x7])),Sd.en hc (.L fun _=>.I fun _=>.S fun _=>.S fun _=>.S fun _=>.S fun _=>.L fun _=>.L fun _=>.E (by kernel_rfl))⟩
def Ss:EV:=fun c hc=>⟨⟨211,0,0⟩,pS fun x0=>pE ((c ⟨232,0,0⟩ [t x0,i 6]).bind fun r1=>bif !(g r1.2 1).B then some (0,[i 0,b false]) else bif d (((g r1.2 0).I:Int)<0) then some (0,[i 0,b false]) else some (0,[i (g r1.2 0).I,b true])),Sd.en hc (.S fun _=>.E (by kernel_rfl))⟩
def Su:EV:=fun c hc=>⟨⟨212,0,0⟩,pI fun x0=>pI fun x1=>pE (bif d (x0<x1) then some (0,[i x0]) else some (0,[i x1])),Sd.en hc (.I fun _=>.I fun _=>.E (by kernel_rfl))⟩
def Sv:EV:=fun c hc=>⟨⟨213,0,0⟩,pS fun x0=>pE (bif d (((x0).size:Int)<5) then some (0,[t (m #[]),i 0,i 0,t (m #[]),i 0,i 0,t (m #[]),b false,s [],s [],s []]) else bif d ((0:Int)<=0)&&(d ((0:Int)<=5)&&d ((5:Int)<=(x0).size)) then bif !d (((x0).extract (z 0) (z 5))=(m #[114,117,108,101,32])) then some (0,[t (m #[]),i 0,i 0,t (m #[]),i 0,i 0,t (m #[]),b false,s [],s [],s []]) else bif d ((0:Int)<=5)&&(d ((5:Int)<=((x0).size:Nat))&&d ((((x0).size:Nat):Int)<=(x0).size)) then (c ⟨233,0,0⟩ [t ((x0).extract (z 5) (z ((x0).size:Nat))),t (m #[58,32])]).bind fun r1=>(c ⟨233,0,0⟩ [t (g r1.2 1).S,t (m #[32,61,62,32])]).bind fun r2=>(c ⟨233,0,0⟩ [t (g r2.2 1).S,t (m #[32,105,102,32])]).bind fun r3=>(c ⟨234,0,0⟩ [t (g r2.2 0).S]).bind fun r4=>(c ⟨234,0,0⟩ [t (g r3.2 0).S]).bind fun r5=>bif !(g r1.2 2).B then some (0,[t (m #[]),i 0,i 0,t (m #[]),i 0,i 0,t (m #[]),b false,s [],s [],s []]) else bif !(g r2.2 2).B then some (0,[t (m #[]),i 0,i 0,t (m #[]),i 0,i 0,t (m #[]),b false,s [],s [],s []]) else bif !(g r4.2 3).B then some (0,[t (m #[]),i 0,i 0,t (m #[]),i 0,i 0,t (m #[]),b false,s [],s [],s []]) else bif !(g r5.2 3).B then some (0,[t (m #[]),i 0,i 0,t (m #[]),i 0,i 0,t (m #[]),b false,s [],s [],s []]) else (c ⟨176,0,0⟩ [t (g r1.2 0).S]).bind fun r6=>bif !(g r6.2 0).B then some (0,[t (m #[]),i 0,i 0,t (m #[]),i 0,i 0,t (m #[]),b false,s [],s [],s []]) else bif (g r3.2 2).B then (c ⟨235,0,0⟩ [t (g r3.2 1).S,t (m #[32,38,32])]).bind fun r7=>(c ⟨213,0,1⟩ [i 0,t (m #[]),i 0,i 0,t (m #[]),i 0,i 0,t (m #[]),t (g r1.2 0).S,i (g r4.2 0).I,i (g r4.2 1).I,t (g r4.2 2).S,i (g r5.2 0).I,i (g r5.2 1).I,t (g r5.2 2).S,s (g r7.2 0).L,s [],s [],s [],s (g r4.2 4).L,s (g r5.2 4).L,s []]).bind fun r8=>bif q r8.1 0 then some (0,[t (g r8.2 7).S,i (g r8.2 8).I,i (g r8.2 9).I,t (g r8.2 10).S,i (g r8.2 11).I,i (g r8.2 12).I,t (g r8.2 13).S,b true,s (g r8.2 17).L,s (g r8.2 18).L,s (g r8.2 19).L]) else bif q r8.1 1 then some (0,[t (g r8.2 0).S,i (g r8.2 1).I,i (g r8.2 2).I,t (g r8.2 3).S,i (g r8.2 4).I,i (g r8.2 5).I,t (g r8.2 6).S,b false,s (g r8.2 7).L,s (g r8.2 8).L,s (g r8.2 9).L]) else none else some (0,[t (g r1.2 0).S,i (g r4.2 0).I,i (g r4.2 1).I,t (g r4.2 2).S,i (g r5.2 0).I,i (g r5.2 1).I,t (g r5.2 2).S,b true,s (g r4.2 4).L,s (g r5.2 4).L,s []]) else none else none),Sd.en hc (.S fun _=>.E (by kernel_rfl))⟩
def Sw:EV:=fun c hc=>⟨⟨213,0,1⟩,pI fun x0=>pS fun x1=>pI fun x2=>pI fun x3=>pS fun x4=>pI fun x5=>pI fun x6=>pS fun x7=>pS fun x8=>pI fun x9=>pI fun x10=>pS fun x11=>pI fun x12=>pI fun x13=>pS fun x14=>pL fun x15=>pL fun x16=>pL fun x17=>pL fun x18=>pL fun x19=>pL fun x20=>pL fun x21=>pE (bif d (x0<x15.length) then bif inb x0 x15.length then (c ⟨236,0,0⟩ [t (g (p x15 (z x0)) 0).S]).bind fun r1=>bif !(g r1.2 7).B then some (1,[t (m #[]),i 0,i 0,t (m #[]),i 0,i 0,t (m #[]),s [],s [],s []]) else bif l (x21.length+(([[i (g r1.2 0).I,i (g r1.2 1).I,i (g r1.2 2).I,t (g r1.2 3).S,s (g r1.2 8).L,i (g r1.2 4).I,i (g r1.2 5).I,t (g r1.2 6).S,s (g r1.2 9).L]]:aa)).length) M63 then c ⟨213,0,1⟩ [i (w .i64 (x0+1)),t x1,i x2,i x3,t x4,i x5,i x6,t x7,t x8,i x9,i x10,t x11,i x12,i x13,t x14,s x15,s x16,s x17,s x18,s x19,s x20,s (x21++([[i (g r1.2 0).I,i (g r1.2 1).I,i (g r1.2 2).I,t (g r1.2 3).S,s (g r1.2 8).L,i (g r1.2 4).I,i (g r1.2 5).I,t (g r1.2 6).S,s (g r1.2 9).L]]:aa))] else none else none else some (0,[t x1,i x2,i x3,t x4,i x5,i x6,t x7,t x8,i x9,i x10,t x11,i x12,i x13,t x14,s x16,s x17,s x18,s x19,s x20,s x21])),Sd.en hc (.I fun _=>.S fun _=>.I fun _=>.I fun _=>.S fun _=>.I fun _=>.I fun _=>.S fun _=>.S fun _=>.I fun _=>.I fun _=>.S fun _=>.I fun _=>.I fun _=>.S fun _=>.L fun _=>.L fun _=>.L fun _=>.L fun _=>.L fun _=>.L fun _=>.L fun _=>.E (by kernel_rfl))⟩
def Sx:EV:=fun c hc=>⟨⟨232,0,0⟩,pS fun x0=>pI fun x1=>pE (bif d ((0:Int)<(x0).size) then bif inb 0 (x0).size then bif d (((((x0).get! (z 0)).toNat):Int)=45) then bif d ((0:Int)<=1)&&(d ((1:Int)<=((x0).size:Nat))&&d ((((x0).size:Nat):Int)<=(x0).size)) then bif d (((((x0).extract (z 1) (z ((x0).size:Nat))).size):Int)<1) then some (0,[i 0,b false]) else bif d (x1<(((x0).extract (z 1) (z ((x0).size:Nat))).size)) then some (0,[i 0,b false]) else (c ⟨232,0,1⟩ [t x0,b (d (((((x0).get! (z 0)).toNat):Int)=45)),t ((x0).extract (z 1) (z ((x0).size:Nat))),i 0,i 0]).bind fun r1=>bif q r1.1 0 then bif (g r1.2 1).B then (c ⟨159,0,0⟩ [i (w .i64 (0-(g r1.2 2).I))]).bind fun r2=>bif !d ((g r2.2 0).S=(g r1.2 0).S) then some (0,[i 0,b false]) else some (0,[i (w .i64 (0-(g r1.2 2).I)),b true]) else (c ⟨159,0,0⟩ [i (g r1.2 2).I]).bind fun r3=>bif !d ((g r3.2 0).S=(g r1.2 0).S) then some (0,[i 0,b false]) else some (0,[i (g r1.2 2).I,b true]) else bif q r1.1 1 then some (0,[i (g r1.2 0).I,b false]) else none else none else bif d (((x0).size:Int)<1) then some (0,[i 0,b false]) else bif d (x1<(x0).size) then some (0,[i 0,b false]) else (c ⟨232,0,1⟩ [t x0,b (d (((((x0).get! (z 0)).toNat):Int)=45)),t x0,i 0,i 0]).bind fun r4=>bif q r4.1 0 then bif (g r4.2 1).B then (c ⟨159,0,0⟩ [i (w .i64 (0-(g r4.2 2).I))]).bind fun r5=>bif !d ((g r5.2 0).S=(g r4.2 0).S) then some (0,[i 0,b false]) else some (0,[i (w .i64 (0-(g r4.2 2).I)),b true]) else (c ⟨159,0,0⟩ [i (g r4.2 2).I]).bind fun r6=>bif !d ((g r6.2 0).S=(g r4.2 0).S) then some (0,[i 0,b false]) else some (0,[i (g r4.2 2).I,b true]) else bif q r4.1 1 then some (0,[i (g r4.2 0).I,b false]) else none else none else bif d (((x0).size:Int)<1) then some (0,[i 0,b false]) else bif d (x1<(x0).size) then some (0,[i 0,b false]) else (c ⟨232,0,1⟩ [t x0,b false,t x0,i 0,i 0]).bind fun r7=>bif q r7.1 0 then bif (g r7.2 1).B then (c ⟨159,0,0⟩ [i (w .i64 (0-(g r7.2 2).I))]).bind fun r8=>bif !d ((g r8.2 0).S=(g r7.2 0).S) then some (0,[i 0,b false]) else some (0,[i (w .i64 (0-(g r7.2 2).I)),b true]) else (c ⟨159,0,0⟩ [i (g r7.2 2).I]).bind fun r9=>bif !d ((g r9.2 0).S=(g r7.2 0).S) then some (0,[i 0,b false]) else some (0,[i (g r7.2 2).I,b true]) else bif q r7.1 1 then some (0,[i (g r7.2 0).I,b false]) else none),Sd.en hc (.S fun _=>.I fun _=>.E (by kernel_rfl))⟩
def Sy:EV:=fun c hc=>⟨⟨232,0,1⟩,pS fun x0=>pB fun x1=>pS fun x2=>pI fun x3=>pI fun x4=>pE (bif d (x4<(x2).size) then bif inb x4 (x2).size then bif d (((((x2).get! (z x4)).toNat):Int)<48) then some (1,[i 0]) else bif inb x4 (x2).size then bif d ((57:Int)<(((x2).get! (z x4)).toNat)) then some (1,[i 0]) else bif inb x4 (x2).size then c ⟨232,0,1⟩ [t x0,b x1,t x2,i (w .i64 ((w .i64 (10*x3))+(w .i64 (IntKind.u8.wrap ((((x2).get! (z x4)).toNat)-48))))),i (w .i64 (x4+1))] else none else none else none else some (0,[t x0,b x1,i x3])),Sd.en hc (.S fun _=>.B fun _=>.S fun _=>.I fun _=>.I fun _=>.E (by kernel_rfl))⟩
def Sz:EV:=fun c hc=>⟨⟨234,0,0⟩,pS fun x0=>pE (bif d ((600:Int)<(x0).size) then some (0,[i 0,i 0,t (m #[]),b false,s []]) else (c ⟨247,0,0⟩ [i 1,t x0,i 0,b false]).bind fun r1=>bif (g r1.2 5).B then some (0,[i 0,i 0,t (m #[]),b false,s []]) else bif d (x0=(m #[])) then some (0,[i 0,i 0,t (m #[]),b false,s []]) else (c ⟨79,0,0⟩ [i (g r1.2 0).I,i (g r1.2 1).I,t (g r1.2 2).S,s (g r1.2 6).L]).bind fun r2=>bif !d ((g r2.2 0).S=x0) then some (0,[i 0,i 0,t (m #[]),b false,s []]) else some (0,[i (g r1.2 0).I,i (g r1.2 1).I,t (g r1.2 2).S,b true,s (g r1.2 6).L])),Sd.en hc (.S fun _=>.E (by kernel_rfl))⟩
def Ta:EV:=fun c hc=>⟨⟨235,0,0⟩,pS fun x0=>pS fun x1=>pE ((c ⟨235,0,1⟩ [t x0,t x1,s ([]:aa)]).bind fun r1=>bif q r1.1 0 then some (0,[s (g r1.2 0).L]) else none),Sd.en hc (.S fun _=>.S fun _=>.E (by kernel_rfl))⟩
def Tb:EV:=fun c hc=>⟨⟨235,0,1⟩,pS fun x0=>pS fun x1=>pL fun x2=>pE ((c ⟨233,0,0⟩ [t x0,t x1]).bind fun r1=>bif l (x2.length+(([[t (g r1.2 0).S]]:aa)).length) M63 then bif !(g r1.2 2).B then some (0,[s (x2++([[t (g r1.2 0).S]]:aa))]) else c ⟨235,0,1⟩ [t (g r1.2 1).S,t x1,s (x2++([[t (g r1.2 0).S]]:aa))] else none),Sd.en hc (.S fun _=>.S fun _=>.L fun _=>.E (by kernel_rfl))⟩
def Tc:EV:=fun c hc=>⟨⟨236,0,0⟩,pS fun x0=>pE ((c ⟨236,0,1⟩ [t x0,i 1,i 0,i 0,i 0,t (m #[]),i 0,i 0,t (m #[]),s [],s []]).bind fun r1=>bif q r1.1 0 then some (0,[i 0,i 0,i 0,t (m #[]),i 0,i 0,t (m #[]),b false,s [],s []]) else bif q r1.1 1 then some (0,[i (g r1.2 0).I,i (g r1.2 1).I,i (g r1.2 2).I,t (g r1.2 3).S,i (g r1.2 4).I,i (g r1.2 5).I,t (g r1.2 6).S,b true,s (g r1.2 7).L,s (g r1.2 8).L]) else none),Sd.en hc (.S fun _=>.E (by kernel_rfl))⟩
def Td:EV:=fun c hc=>⟨⟨236,0,1⟩,pS fun x0=>pI fun x1=>pI fun x2=>pI fun x3=>pI fun x4=>pS fun x5=>pI fun x6=>pI fun x7=>pS fun x8=>pL fun x9=>pL fun x10=>pE (bif d (x1<=3) then (c ⟨73,0,0⟩ [i x1]).bind fun r1=>(c ⟨233,0,0⟩ [t x0,t (g r1.2 0).S]).bind fun r2=>bif !(g r2.2 2).B then c ⟨236,0,1⟩ [t x0,i (w .i64 (x1+1)),i x2,i x3,i x4,t x5,i x6,i x7,t x8,s x9,s x10] else (c ⟨234,0,0⟩ [t (g r2.2 0).S]).bind fun r3=>(c ⟨234,0,0⟩ [t (g r2.2 1).S]).bind fun r4=>bif (g r3.2 3).B then bif (g r4.2 3).B then some (1,[i x1,i (g r3.2 0).I,i (g r3.2 1).I,t (g r3.2 2).S,i (g r4.2 0).I,i (g r4.2 1).I,t (g r4.2 2).S,s (g r3.2 4).L,s (g r4.2 4).L]) else c ⟨236,0,1⟩ [t x0,i (w .i64 (x1+1)),i x2,i x3,i x4,t x5,i x6,i x7,t x8,s x9,s x10] else c ⟨236,0,1⟩ [t x0,i (w .i64 (x1+1)),i x2,i x3,i x4,t x5,i x6,i x7,t x8,s x9,s x10] else some (0,[i x2,i x3,i x4,t x5,i x6,i x7,t x8,s x9,s x10])),Sd.en hc (.S fun _=>.I fun _=>.I fun _=>.I fun _=>.I fun _=>.S fun _=>.I fun _=>.I fun _=>.S fun _=>.L fun _=>.L fun _=>.E (by kernel_rfl))⟩
def oT:En H Tryz.prog:=⟨⟨70,0,0⟩,orc (lpT.map fun t=>[.int t.k,.int t.n,.str t.s,.sl (t.as.map Tm.row)]),fun l r h=>Rc (fun x hx=>by
 obtain ⟨t,ht,rfl⟩:=F2.1 hx;have hw:=Xk t ht;have hv:=D9.1 (show lpT.all Tm.valid=true from by kernel_rfl) t ht
 have h1:=r70 t (by have:=hw.n; omega) hw.w
 rw [hv] at h1;exact h1) h⟩
def oD:En H Tryz.prog:=⟨⟨68,0,0⟩,orc [[.sl (ij.so.map ai),.sl (ij.op.map OpM.row),.sl (ij.ru.map RuM.row),.sl (ij.st.map StM.row)]],fun l r h=>Rc (fun x hx=>by
 rw [F8.1 hx];have h1:=r68 ij ph.b;rw [show ij.valid=true from by kernel_rfl] at h1
 exact h1) h⟩
def tb (c:CF) (hc:OkC H Tryz.prog c):List (En H Tryz.prog):=oT::oD::[Rh,Ri,Rj,Rk,Rm,Rn,Ro,Rp,Rq,Rr,Rs,Rt,Ru,Rv,Vc,Vd,Ve,Vf,Vg,Vh,Vi,Rw,Rx,Ry,Rz,Sa,Sb,Sc,Se,Sf,Sg,Si,Sj,Sk,Sl,Sm,Sn,So,Sp,Sq,Sr,Ss,Su,Sv,Sw,Sx,Sy,Sz,Ta,Tb,Tc,Td].map fun f=>f c hc
theorem qd:rn ⟨101,0,0⟩ []=some (0,[.sl (ij.so.map ai),.sl (ij.op.map OpM.row),.sl (ij.ru.map RuM.row),.sl (ij.st.map StM.row)]):=(evE tb 2000).2 _ _ _ (by kernel_rfl)
end
end Go.Q.S
end
section
namespace Go.Q.S
open Go Go.Q Go.Proofs
theorem Ev {code:aa} (hl:code.length<=1048576):∀ (d:Nat) (g:Bool) (i:Nat) (h:Int),d<=64->ak (rn ⟨161,0,0⟩ [.str (⟨#[119,111,114,100]⟩:ByteArray),.int (d:Int),.bool g,.sl code,.int (i:Int),.int h]) (DTk code 8 (4 ^ d)):=by
 intro d;induction d with
 | zero =>
  intro g i h hd;rw [e161_0_0];rw [H7 (rfl:(⟨#[119,111,114,100]⟩:ByteArray)=(⟨#[119,111,114,100]⟩:ByteArray)),H8 (by decide:¬(1:Int)<((0:Nat):Int))]
  simp only [H1,H2];repeat' (first
   | refine ak.ite (fun _=>?_) (fun _=>?_)
   | (refine ak.bind (de hl _ _ (by decide) (by decide)) ?_; rintro _ ⟨b,i,h,rfl⟩; simp only [nv0,nvS,dvI,dvB,dvS,dvL,B5])
   | (refine ak.bind (bh hl _ _ (by decide) (by decide)) ?_; rintro _ ⟨b,i,h,_,_,rfl⟩; simp only [nv0,nvS,dvI,dvB,dvS,dvL,B5])
   | (refine ak.bind (iu hl _ _ (by decide) (by decide) 8 (by decide)) ?_; rintro _ ⟨b,i,h,_,rfl⟩; simp only [nv0,nvS,dvI,dvB,dvS,dvL,B5])
   | (simp only [r92,r97,r156,r156b,nv0,nvS,dvI,dvB,dvS,dvL,B5]))
  all_goals (first | exact lfV (by assumption) (by decide) | exact lfW (by assumption) (by omega) (by decide))
 | succ d ih =>
  intro g i h hd;have hp:4 ^ (d+1)=4*4 ^ d:=by omega
  have h1:1<=4 ^ d:=Nat.one_le_pow _ _ (by decide)
  rw [e161_0_0];rw [H7 (rfl:(⟨#[119,111,114,100]⟩:ByteArray)=(⟨#[119,111,114,100]⟩:ByteArray))];simp only [H1,zw (show d<=64 by omega)]
  repeat' (first
   | (refine ak.bind (ih _ _ _ (by omega)) ?_; rintro _ ⟨t,i,h,_,_,rfl⟩; simp only [nv0,nvS,dvI,dvB,dvS,dvL,B5])
   | refine ak.ite (fun _=>?_) (fun _=>?_)
   | (refine ak.bind (de hl _ _ (by decide) (by decide)) ?_; rintro _ ⟨b,i,h,rfl⟩; simp only [nv0,nvS,dvI,dvB,dvS,dvL,B5])
   | (refine ak.bind (bh hl _ _ (by decide) (by decide)) ?_; rintro _ ⟨b,i,h,_,_,rfl⟩; simp only [nv0,nvS,dvI,dvB,dvS,dvL,B5])
   | (refine ak.bind (iu hl _ _ (by decide) (by decide) 8 (by decide)) ?_; rintro _ ⟨b,i,h,_,rfl⟩; simp only [nv0,nvS,dvI,dvB,dvS,dvL,B5])
   | (simp only [r92,r97,r156,r156b,r94,r95,nv0,nvS,dvI,dvB,dvS,dvL,B5]))
  all_goals (first | exact lfV (by assumption) (by omega) | exact lfW (by assumption) (by omega) (by omega) | exact lf2 (by assumption) (by assumption) (by assumption) (by omega))
theorem Vj {code:aa} (hl:code.length<=1048576) {s:ByteArray} (hs:s≠(⟨#[119,111,114,100]⟩:ByteArray)):∀ (d:Nat) (g:Bool) (i:Nat) (h:Int),d<=64->ak (rn ⟨161,0,0⟩ [.str s,.int (d:Int),.bool g,.sl code,.int (i:Int),.int h]) (DTk code 8 (8*4 ^ d)):=by
 have hE:(⟨#[101]⟩:ByteArray)≠(⟨#[119,111,114,100]⟩:ByteArray):=by decide
 have hW1:∀ g i h,ak (rn ⟨161,0,0⟩ [.str (⟨#[119,111,114,100]⟩:ByteArray),.int 1,.bool g,.sl code,.int ((i:Nat):Int),.int h]) (DTk code 8 4):=fun g i h=>Ev hl 1 g i h (by decide)
 intro d;induction d generalizing s with
 | zero =>
  intro g i h hd;rw [e161_0_0];rw [H8 hs,H7 (by decide:((0:Nat):Int)<2)]
  simp only [H1,H2];repeat' (first
   | (refine ak.bind (hW1 _ _ _) ?_; rintro _ ⟨t,i,h,_,_,rfl⟩; simp only [nv0,nvS,dvI,dvB,dvS,dvL,B5])
   | refine ak.ite (fun _=>?_) (fun _=>?_)
   | (refine ak.bind (de hl _ _ (by decide) (by decide)) ?_; rintro _ ⟨b,i,h,rfl⟩; simp only [nv0,nvS,dvI,dvB,dvS,dvL,B5])
   | (refine ak.bind (bh hl _ _ (by decide) (by decide)) ?_; rintro _ ⟨b,i,h,_,_,rfl⟩; simp only [nv0,nvS,dvI,dvB,dvS,dvL,B5])
   | (refine ak.bind (iu hl _ _ (by decide) (by decide) 8 (by decide)) ?_; rintro _ ⟨b,i,h,_,rfl⟩; simp only [nv0,nvS,dvI,dvB,dvS,dvL,B5])
   | (simp only [r92,r97,r156,r156b,r94,r95,nv0,nvS,dvI,dvB,dvS,dvL,B5]))
  all_goals (first | exact lfV (by assumption) (by decide) | exact lfC (by assumption) (by decide) | exact lf1 (by first | assumption | decide) (by assumption) (by omega))
 | succ d ih =>
  intro g i h hd;have hp:4 ^ (d+1)=4*4 ^ d:=by omega
  have h1:1<=4 ^ d:=Nat.one_le_pow _ _ (by decide)
  rw [e161_0_0];rw [H8 hs];simp only [H2,zw (show d<=64 by omega)]
  repeat' (first
   | (refine ak.bind (hW1 _ _ _) ?_; rintro _ ⟨t,i,h,_,_,rfl⟩; simp only [nv0,nvS,dvI,dvB,dvS,dvL,B5])
   | (refine ak.bind (ih hE _ _ _ (by omega)) ?_; rintro _ ⟨t,i,h,_,_,rfl⟩; simp only [nv0,nvS,dvI,dvB,dvS,dvL,B5])
   | (refine ak.bind (Ev hl d _ _ _ (by omega)) ?_; rintro _ ⟨t,i,h,_,_,rfl⟩; simp only [nv0,nvS,dvI,dvB,dvS,dvL,B5])
   | refine ak.ite (fun _=>?_) (fun _=>?_)
   | (refine ak.bind (de hl _ _ (by decide) (by decide)) ?_; rintro _ ⟨b,i,h,rfl⟩; simp only [nv0,nvS,dvI,dvB,dvS,dvL,B5])
   | (refine ak.bind (bh hl _ _ (by decide) (by decide)) ?_; rintro _ ⟨b,i,h,_,_,rfl⟩; simp only [nv0,nvS,dvI,dvB,dvS,dvL,B5])
   | (refine ak.bind (iu hl _ _ (by decide) (by decide) 8 (by decide)) ?_; rintro _ ⟨b,i,h,_,rfl⟩; simp only [nv0,nvS,dvI,dvB,dvS,dvL,B5])
   | (simp only [r92,r97,r156,r156b,r94,r95,nv0,nvS,dvI,dvB,dvS,dvL,B5]))
  all_goals (first | exact lfV (by assumption) (by omega) | exact lfC (by assumption) (by omega) | exact lf1 (by first | assumption | decide) (by assumption) (by omega) | exact lf2 (by first | assumption | decide) (by assumption) (by assumption) (by omega))
theorem DTk.mono {code:aa} {k m m':Nat} {x:Nat×List D} (h:DTk code k m x) (hm:m<=m'):DTk code k m' x:=by
 obtain ⟨t,i,h',h1,h2,e⟩:=h;exact ⟨t,i,h',h1,F5 h2 hm,e⟩
theorem Tf {code:aa} (hl:code.length<=1048576) (d:Nat) (k:Int) (e:(d:Int)=k) (m:Nat) (hm:4 ^ d<=m) (hd:d<=64) (g:Bool) (i:Nat) (h:Int):ak (rn ⟨161,0,0⟩ [.str (⟨#[119,111,114,100]⟩:ByteArray),.int k,.bool g,.sl code,.int (i:Int),.int h]) (DTk code 8 m):=by
 subst e;exact ak.mono (Ev hl d g i h hd) fun x hx=>hx.mono hm
theorem Ii {code:aa} (hl:code.length<=1048576) (d:Nat) (k:Int) (e:(d:Int)=k) (m:Nat) (hm:8*4 ^ d<=m) (hd:d<=64) (g:Bool) (i:Nat) (h:Int):ak (rn ⟨161,0,0⟩ [.str (⟨#[101]⟩:ByteArray),.int k,.bool g,.sl code,.int (i:Int),.int h]) (DTk code 8 m):=by
 subst e;exact ak.mono (Vj hl (by decide) d g i h hd) fun x hx=>hx.mono hm
def DW (code:aa) (m:Nat) (x:Nat×List D):Prop:=∃ t:Tm,∃ i':Nat,∃ h':Int,Wn m t/\x=(0,[.int t.k,.int t.n,.str t.s,.sl code,.int (i':Int),.int h',.sl (t.as.map Tm.row)])
theorem Lu {code:aa} (hl:code.length<=1048576) (i:Nat) (h:Int):ak (rn ⟨51,0,0⟩ [.sl code,.int (i:Int),.int h]) (DW code 60):=by
 have key:∀ (n j:Nat) (t:Tm) (i:Nat) (h:Int) (m:Nat),j+n=16->Wn m t->∃ u:Tm,Wn (m+n) u/\rn ⟨51,0,2⟩ [.int (j:Int),.sl code,.int (i:Int),.int h,.int 0,.int 0,.str ⟨#[]⟩,.int t.k,.int t.n,.str t.s,.sl [],.sl (t.as.map Tm.row)]=some (0,[.sl code,.int (i:Int),.int h,.int 0,.int 0,.str ⟨#[]⟩,.int u.k,.int u.n,.str u.s,.sl [],.sl (u.as.map Tm.row)]):=by
  intro n;induction n with
  | zero =>
   intro j t i h m hj ht;rw [e51_0_2,H8 (by omega:¬(j:Int)<16)]
   exact ⟨t,ht,rfl⟩
  | succ n ih =>
   intro j t i h m hj ht;rw [e51_0_2,H7 (by omega:(j:Int)<16)]
   have ew:IntKind.i64.wrap ((j:Int)+1)=((j+1:Nat):Int):=by rw [IntWalk.i64_in _ (by omega)]; omega
   simp only [H1,r94,nv0,nvS,dvI,dvB,dvS,dvL,B5,ew];obtain ⟨u,hu,e⟩:=ih (j+1) (tO (⟨#[103]⟩:ByteArray) t) i h (m+1) (by omega) (mj (by decide) ht)
   exact ⟨u,hu.mono (by omega),e⟩
 rw [e51_0_0];refine ak.bind (bh hl _ _ (by decide) (by decide)) ?_
 rintro _ ⟨b1,i,h,hb0,hb1,rfl⟩
 simp only [nv0,nvS,dvI,dvB,dvS,dvL,B5];refine ak.bind (de hl _ _ (by decide) (by decide)) ?_
 rintro _ ⟨g,i,h,rfl⟩
 simp only [nv0,nvS,dvI,dvB,dvS,dvL,B5];have e:∃ d:Nat,IntKind.i64.wrap (1+b1)=(d:Int)/\d<=4:=⟨(1+b1).toNat,by rw [IntWalk.i64_in _ (by omega)]; omega,by omega⟩
 obtain ⟨d,e,hd2⟩:=e;rw [e];refine ak.bind (Vb hl d g _ _ (by omega)) ?_
 rintro _ ⟨t,i,h,ht,htn,rfl⟩
 have hq:2 ^ (d+1)<=2 ^ 5:=Nat.pow_le_pow_right (by decide) (by omega)
 have hq8:(2:Nat) ^ 5=32:=rfl;have hw:Wn 31 t:=ht.wn (by decide) (by omega)
 have hal:t.as.length<=2:=by
  cases ht with
  | var _=>simp [Tm.as]
  | word _ _=>simp [Tm.as]
  | app _ h _=>exact h
 have hk:-1000<=t.k/\t.k<=1000/\-1000<=t.n/\t.n<=1000/\t.s.size<=1000:=by
  cases ht with
  | var h=>refine ⟨?_,?_,?_,?_,?_⟩ <;> simp [Tm.k,Tm.n,Tm.s]; omega
  | word h0 h1=>exact ⟨by show (-1000:Int)<=3; decide,by show (3:Int)<=1000; decide,by simp only [Tm.n]; omega,by simp only [Tm.n]; omega,by show (⟨#[]⟩:ByteArray).size<=1000; decide⟩
  | app h _ _=>refine ⟨?_,?_,?_,?_,?_⟩ <;> simp [Tm.k,Tm.n,Tm.s]; omega
 obtain ⟨k1,k2,k3,k4,k5⟩:=hk;have hsub:∀ a∈t.as,Wt a:=fun a ha=>hw.w.sub ha
 have hnod:∀ (k n:Int) (s:ByteArray),(Tm.mk k n s t.as).nodes<=31:=fun k n s=>by have:=hw.n; rw [Tm.nodes_eq] at this ⊢; exact this
 simp only [nv0,nvS,dvI,dvB,dvS,dvL,B5];refine ak.bind (bh hl _ _ (by decide) (by decide)) ?_
 rintro _ ⟨c,i,h,hc0,hc1,rfl⟩
 simp only [nv0,nvS,dvI,dvB,dvS,dvL,B5];refine ak.ite (fun _=>?_) (fun _=>?_)
 · refine ak.bind (bh hl _ _ (by decide) (by decide)) ?_
   rintro _ ⟨b,i,h,b0,b1,rfl⟩
   exact ak.ret ⟨.mk b t.n t.s t.as,i,h,⟨np (by omega) (by omega) k3 k4 k5 (by omega) hsub,F5 (hnod _ _ _) (by decide)⟩,rfl⟩
 refine ak.ite (fun _=>?_) (fun _=>?_)
 · refine ak.bind (Rg hl _ _ (by decide) (by decide) (by decide)) ?_
   rintro _ ⟨b,i,h,b0,b1,rfl⟩
   exact ak.ret ⟨.mk t.k b t.s t.as,i,h,⟨np k1 k2 b0 b1 k5 (by omega) hsub,F5 (hnod _ _ _) (by decide)⟩,rfl⟩
 refine ak.ite (fun _=>?_) (fun _=>?_)
 · refine ak.bind (iu hl _ _ (by decide) (by decide) 8 (by decide)) ?_
   rintro _ ⟨s,i,h,hs,rfl⟩
   exact ak.ret ⟨.mk t.k t.n s t.as,i,h,⟨np k1 k2 k3 k4 (by omega) (by omega) hsub,F5 (hnod _ _ _) (by decide)⟩,rfl⟩
 refine ak.ite (fun _=>?_) (fun _=>?_)
 · have hb63:F9 (t.as.length+1) M63=true:=nb (by omega)
   simp only [r97,nv0,nvS,dvI,dvB,dvS,dvL,B5,B6,C5,C8,E1,hb63,H1];refine ak.ret ⟨.mk t.k t.n t.s (t.as++[tW 1]),i,h,⟨np k1 k2 k3 k4 k5 (by simp; omega) (fun a ha=>?_),?_⟩,?_⟩
   · rcases D0.1 ha with ha | ha
     · exact hsub a ha
     · rw [F8.1 ha]; exact (rm (by decide) (by decide)).w
   · have:=hw.n
     rw [Tm.nodes_eq] at this ⊢;have h1:(tW 1).nodes=1:=by simp [tW,Tm.nodes,Tm.nodesL]
     simp only [Tm.as_mk,E0,C2,D2,List.sum_append,J6,List.sum_nil,h1];omega
   · simp only [Tm.k_mk,Tm.s_mk,Tm.as_mk,E0,C2,D2,tW,Tm.row,Tm.rows]; rfl
 refine ak.ite (fun _=>?_) (fun _=>?_)
 · obtain ⟨u,hu,e⟩:=key 16 0 t i h 31 rfl hw
   simp only [C6] at e;simp only [e,nv0,nvS,dvI,dvB,dvS,dvL,B5,E2,H1,H2];exact ak.ret ⟨u,i,h,hu.mono (by decide),rfl⟩
 · exact ak.ret ⟨t,i,h,hw.mono (by decide),rfl⟩
def DGu (code:aa) (x:Nat×List D):Prop:=∃ g:Gu,∃ i':Nat,∃ h':Int,GuW g/\x=(0,[.int g.k,.int g.l.k,.int g.l.n,.str g.l.s,.int g.r.k,.int g.r.n,.str g.r.s,.sl code,.int (i':Int),.int h',.sl (g.l.as.map Tm.row),.sl (g.r.as.map Tm.row)])
theorem gb {code:aa} (hl:code.length<=1048576) (i:Nat) (h:Int):ak (rn ⟨106,0,0⟩ [.sl code,.int (i:Int),.int h]) (DGu code):=by
 rw [e106_0_0];refine ak.bind (de hl _ _ (by decide) (by decide)) ?_
 rintro _ ⟨g,i,h,rfl⟩
 simp only [nv0,nvS,dvI,dvB,dvS,dvL,B5];refine ak.bind (bh hl _ _ (by decide) (by decide)) ?_
 rintro _ ⟨b,i,h,b0,b1,rfl⟩
 simp only [nv0,nvS,dvI,dvB,dvS,dvL,B5];have ew:IntKind.i64.wrap (1+b)=1+b:=IntWalk.i64_in _ (by omega)
 rw [ew];refine ak.bind (Tf hl 3 _ rfl 64 (by decide) (by decide) _ _ _) ?_
 rintro _ ⟨t,i,h,ht,htn,rfl⟩
 simp only [nv0,nvS,dvI,dvB,dvS,dvL,B5];refine ak.bind (Tf hl 2 _ rfl 64 (by decide) (by decide) _ _ _) ?_
 rintro _ ⟨u,i,h,hu,hun,rfl⟩
 simp only [nv0,nvS,dvI,dvB,dvS,dvL,B5];refine ak.bind (de hl _ _ (by decide) (by decide)) ?_
 rintro _ ⟨q,i,h,rfl⟩
 simp only [nv0,nvS,dvI,dvB,dvS,dvL,B5];refine ak.ite (fun _=>?_) (fun _=>?_)
 · refine ak.bind (Ii hl 2 _ rfl 128 (by decide) (by decide) _ _ _) ?_
   rintro _ ⟨t',i,h,ht',htn',rfl⟩
   simp only [nv0,nvS,dvI,dvB,dvS,dvL,B5];refine ak.bind (Ii hl 2 _ rfl 128 (by decide) (by decide) _ _ _) ?_
   rintro _ ⟨u',i,h,hu',hun',rfl⟩
   exact ak.ret ⟨⟨1+b,t',u'⟩,i,h,⟨⟨by show 0<=1+b; omega,by show 1+b<=5; omega⟩,ht'.wn (by decide) (by show t'.nodes<=_; omega),hu'.wn (by decide) (by show u'.nodes<=_; omega)⟩,rfl⟩
 · exact ak.ret ⟨⟨1+b,t,u⟩,i,h,⟨⟨by show 0<=1+b; omega,by show 1+b<=5; omega⟩,ht.wn (by decide) (by show t.nodes<=_; omega),hu.wn (by decide) (by show u.nodes<=_; omega)⟩,rfl⟩
theorem vV (s:ByteArray):rn ⟨92,0,0⟩ [.str s]=some (0,[.int (tV s).k,.int (tV s).n,.str (tV s).s,.sl ((tV s).as.map Tm.row)]):=r92 s
theorem vC (s:ByteArray):rn ⟨156,1,0⟩ [.str s,.sl []]=some (0,[.int (tC s).k,.int (tC s).n,.str (tC s).s,.sl ((tC s).as.map Tm.row)]):=r156b s []
theorem vW (n:Int):rn ⟨97,0,0⟩ [.int n]=some (0,[.int (tW n).k,.int (tW n).n,.str (tW n).s,.sl ((tW n).as.map Tm.row)]):=r97 n
theorem vO (s:ByteArray) (t:Tm):rn ⟨94,0,0⟩ [.str s,.int t.k,.int t.n,.str t.s,.sl (t.as.map Tm.row)]=some (0,[.int (tO s t).k,.int (tO s t).n,.str (tO s t).s,.sl ((tO s t).as.map Tm.row)]):=r94 s t
theorem vP (s:ByteArray) (t u:Tm):rn ⟨95,0,0⟩ [.str s,.int t.k,.int t.n,.str t.s,.sl (t.as.map Tm.row),.int u.k,.int u.n,.str u.s,.sl (u.as.map Tm.row)]=some (0,[.int (tP s t u).k,.int (tP s t u).n,.str (tP s t u).s,.sl ((tP s t u).as.map Tm.row)]):=r95 s t u
def DRu (code:aa) (s:ByteArray) (x:Nat×List D):Prop:=∃ r:RuM,∃ i':Nat,∃ h':Int,r.n=s/\RuW r/\x=(0,[.str r.n,.int r.l.k,.int r.l.n,.str r.l.s,.int (r.r).k,.int (r.r).n,.str (r.r).s,.sl ((r.r).as.map Tm.row),.sl code,.int (i':Int),.int h',.sl (r.l.as.map Tm.row),.sl (r.g.map Gu.row)])
theorem Vk {code:aa} (hl:code.length<=1048576) (s:ByteArray) (hs:s.size<=1000) (i:Nat) (h:Int):ak (rn ⟨158,0,0⟩ [.str s,.sl code,.int (i:Int),.int h]) (DRu code s):=by
 have W:∀ {m:Nat} {t:Tm},Wn m t->m<=3000->Wn 3000 t:=fun h hm=>h.mono hm
 have x1:Wn 1 (tV (⟨#[88]⟩:ByteArray)):=Aq (by decide)
 have n1:Wn 1 (tV (⟨#[78]⟩:ByteArray)):=Aq (by decide)
 have y1:Wn 1 (tV (⟨#[89]⟩:ByteArray)):=Aq (by decide)
 have m1:Wn 1 (tV (⟨#[77]⟩:ByteArray)):=Aq (by decide)
 have a1:Wn 1 (tC (⟨#[97]⟩:ByteArray)):=Qy (by decide)
 have b1:Wn 1 (tC (⟨#[98]⟩:ByteArray)):=Qy (by decide)
 rw [e158_0_0];simp only [vV,nv0,nvS,dvI,dvB,dvS,dvL,B5];refine ak.bind (bh hl _ _ (by decide) (by decide)) ?_
 rintro _ ⟨b,i,h,b0,b1',rfl⟩
 simp only [vV,vO,vP,vW,vC,nv0,nvS,dvI,dvB,dvS,dvL,B5];refine ak.ite (fun _=>?_) (fun _=>?_)
 · skip
   refine ak.bind (de hl _ _ (by decide) (by decide)) ?_
   rintro _ ⟨q,i,h,rfl⟩
   simp only [nv0,nvS,dvI,dvB,dvS,dvL,B5];refine ak.ite (fun _=>?_) (fun _=>?_)
   · refine ak.bind (gb hl _ _) ?_
     rintro _ ⟨g,i,h,hg,rfl⟩
     have hb63:F9 1 M63=true:=by decide
     simp only [nv0,nvS,dvI,dvB,dvS,dvL,B5,C5,C8,E1,hb63,H1];exact ak.ret ⟨⟨s,tO (⟨#[103]⟩:ByteArray) (tV (⟨#[88]⟩:ByteArray)),tV (⟨#[88]⟩:ByteArray),[g]⟩,i,h,rfl,⟨hs,W (mj (by decide) x1) (by decide),W x1 (by decide),by simp,by simp [hg]⟩,rfl⟩
   · exact ak.ret ⟨⟨s,tO (⟨#[103]⟩:ByteArray) (tV (⟨#[88]⟩:ByteArray)),tV (⟨#[88]⟩:ByteArray),[]⟩,i,h,rfl,⟨hs,W (mj (by decide) x1) (by decide),W x1 (by decide),by simp,by simp⟩,rfl⟩
 refine ak.ite (fun _=>?_) (fun _=>?_)
 · skip
   have hp:=pi hl i h [tV (⟨#[88]⟩:ByteArray),tV (⟨#[89]⟩:ByteArray),tC (⟨#[97]⟩:ByteArray)] (by decide) (by decide)
   simp only [C2,D2,Tm.row_eq] at hp;refine ak.bind hp ?_
   rintro _ ⟨t,i,h,ht,rfl⟩
   have hw:Wn 3000 t:=by
    simp only [D4,K9,or_false] at ht;rcases ht with rfl | rfl | rfl
    · exact W x1 (by decide)
    · exact W y1 (by decide)
    · exact W a1 (by decide)
   simp only [nv0,nvS,dvI,dvB,dvS,dvL,B5];refine ak.bind (de hl _ _ (by decide) (by decide)) ?_
   rintro _ ⟨q,i,h,rfl⟩
   simp only [nv0,nvS,dvI,dvB,dvS,dvL,B5];refine ak.ite (fun _=>?_) (fun _=>?_)
   · refine ak.bind (gb hl _ _) ?_
     rintro _ ⟨g,i,h,hg,rfl⟩
     have hb63:F9 1 M63=true:=by decide
     simp only [nv0,nvS,dvI,dvB,dvS,dvL,B5,C5,C8,E1,hb63,H1];exact ak.ret ⟨⟨s,tP (⟨#[102]⟩:ByteArray) (tV (⟨#[88]⟩:ByteArray)) (tV (⟨#[89]⟩:ByteArray)),t,[g]⟩,i,h,rfl,⟨hs,W (ft (by decide) x1 y1) (by decide),hw,by simp,by simp [hg]⟩,rfl⟩
   · exact ak.ret ⟨⟨s,tP (⟨#[102]⟩:ByteArray) (tV (⟨#[88]⟩:ByteArray)) (tV (⟨#[89]⟩:ByteArray)),t,[]⟩,i,h,rfl,⟨hs,W (ft (by decide) x1 y1) (by decide),hw,by simp,by simp⟩,rfl⟩
 refine ak.ite (fun _=>?_) (fun _=>?_)
 · skip
   have hg0:GuW ⟨3,tW 0,tV (⟨#[78]⟩:ByteArray)⟩:=⟨by show (0:Int)<=3/\(3:Int)<=5; decide,W (rm (by decide) (by decide)) (by decide),W n1 (by decide)⟩
   refine ak.bind (de hl _ _ (by decide) (by decide)) ?_
   rintro _ ⟨q,i,h,rfl⟩
   simp only [nv0,nvS,dvI,dvB,dvS,dvL,B5];refine ak.ite (fun _=>?_) (fun _=>?_)
   · refine ak.bind (gb hl _ _) ?_
     rintro _ ⟨g,i,h,hg,rfl⟩
     have hb63:F9 (1+1) M63=true:=by decide
     simp only [nv0,nvS,dvI,dvB,dvS,dvL,B5,C5,C8,E1,hb63,H1];exact ak.ret ⟨⟨s,tP (⟨#[104]⟩:ByteArray) (tV (⟨#[88]⟩:ByteArray)) (tV (⟨#[78]⟩:ByteArray)),tP (⟨#[104]⟩:ByteArray) (tV (⟨#[88]⟩:ByteArray)) (tP (⟨#[109,105,110,117,115]⟩:ByteArray) (tV (⟨#[78]⟩:ByteArray)) (tW 1)),[⟨3,tW 0,tV (⟨#[78]⟩:ByteArray)⟩,g]⟩,i,h,rfl,⟨hs,W (ft (by decide) x1 n1) (by decide),W (ft (by decide) x1 (ft (by decide) n1 (rm (by decide) (by decide)))) (by decide),by simp,by simp [hg,hg0]⟩,rfl⟩
   · exact ak.ret ⟨⟨s,tP (⟨#[104]⟩:ByteArray) (tV (⟨#[88]⟩:ByteArray)) (tV (⟨#[78]⟩:ByteArray)),tP (⟨#[104]⟩:ByteArray) (tV (⟨#[88]⟩:ByteArray)) (tP (⟨#[109,105,110,117,115]⟩:ByteArray) (tV (⟨#[78]⟩:ByteArray)) (tW 1)),[⟨3,tW 0,tV (⟨#[78]⟩:ByteArray)⟩]⟩,i,h,rfl,⟨hs,W (ft (by decide) x1 n1) (by decide),W (ft (by decide) x1 (ft (by decide) n1 (rm (by decide) (by decide)))) (by decide),by simp,by simp [hg0]⟩,rfl⟩
 refine ak.ite (fun _=>?_) (fun _=>?_)
 · skip
   refine ak.bind (de hl _ _ (by decide) (by decide)) ?_
   rintro _ ⟨q,i,h,rfl⟩
   simp only [nv0,nvS,dvI,dvB,dvS,dvL,B5];refine ak.ite (fun _=>?_) (fun _=>?_)
   · refine ak.bind (gb hl _ _) ?_
     rintro _ ⟨g,i,h,hg,rfl⟩
     have hb63:F9 1 M63=true:=by decide
     simp only [nv0,nvS,dvI,dvB,dvS,dvL,B5,C5,C8,E1,hb63,H1];exact ak.ret ⟨⟨s,tP (⟨#[104]⟩:ByteArray) (tV (⟨#[88]⟩:ByteArray)) (tW 0),tV (⟨#[88]⟩:ByteArray),[g]⟩,i,h,rfl,⟨hs,W (ft (by decide) x1 (rm (by decide) (by decide))) (by decide),W x1 (by decide),by simp,by simp [hg]⟩,rfl⟩
   · exact ak.ret ⟨⟨s,tP (⟨#[104]⟩:ByteArray) (tV (⟨#[88]⟩:ByteArray)) (tW 0),tV (⟨#[88]⟩:ByteArray),[]⟩,i,h,rfl,⟨hs,W (ft (by decide) x1 (rm (by decide) (by decide))) (by decide),W x1 (by decide),by simp,by simp⟩,rfl⟩
 refine ak.ite (fun _=>?_) (fun _=>?_)
 · skip
   refine ak.bind (iu hl _ _ (by decide) (by decide) 8 (by decide)) ?_
   rintro _ ⟨z,i,h,hz,rfl⟩
   simp only [vV,vO,vP,vW,vC,nv0,nvS,dvI,dvB,dvS,dvL,B5];refine ak.bind (de hl _ _ (by decide) (by decide)) ?_
   rintro _ ⟨q,i,h,rfl⟩
   simp only [nv0,nvS,dvI,dvB,dvS,dvL,B5];refine ak.ite (fun _=>?_) (fun _=>?_)
   · refine ak.bind (gb hl _ _) ?_
     rintro _ ⟨g,i,h,hg,rfl⟩
     have hb63:F9 1 M63=true:=by decide
     simp only [nv0,nvS,dvI,dvB,dvS,dvL,B5,C5,C8,E1,hb63,H1];exact ak.ret ⟨⟨s,tP (⟨#[102]⟩:ByteArray) (tO (⟨#[110,117,109]⟩:ByteArray) (tV (⟨#[78]⟩:ByteArray))) (tO (⟨#[110,117,109]⟩:ByteArray) (tV (⟨#[77]⟩:ByteArray))),tO (⟨#[110,117,109]⟩:ByteArray) (tP z (tV (⟨#[78]⟩:ByteArray)) (tV (⟨#[77]⟩:ByteArray))),[g]⟩,i,h,rfl,⟨hs,W (ft (by decide) (mj (by decide) n1) (mj (by decide) m1)) (by decide),W (mj (by decide) (ft (by omega) n1 m1)) (by decide),by simp,by simp [hg]⟩,rfl⟩
   · exact ak.ret ⟨⟨s,tP (⟨#[102]⟩:ByteArray) (tO (⟨#[110,117,109]⟩:ByteArray) (tV (⟨#[78]⟩:ByteArray))) (tO (⟨#[110,117,109]⟩:ByteArray) (tV (⟨#[77]⟩:ByteArray))),tO (⟨#[110,117,109]⟩:ByteArray) (tP z (tV (⟨#[78]⟩:ByteArray)) (tV (⟨#[77]⟩:ByteArray))),[]⟩,i,h,rfl,⟨hs,W (ft (by decide) (mj (by decide) n1) (mj (by decide) m1)) (by decide),W (mj (by decide) (ft (by omega) n1 m1)) (by decide),by simp,by simp⟩,rfl⟩
 refine ak.ite (fun _=>?_) (fun _=>?_)
 · skip
   refine ak.bind (de hl _ _ (by decide) (by decide)) ?_
   rintro _ ⟨q,i,h,rfl⟩
   simp only [nv0,nvS,dvI,dvB,dvS,dvL,B5];refine ak.ite (fun _=>?_) (fun _=>?_)
   · refine ak.bind (gb hl _ _) ?_
     rintro _ ⟨g,i,h,hg,rfl⟩
     have hb63:F9 1 M63=true:=by decide
     simp only [nv0,nvS,dvI,dvB,dvS,dvL,B5,C5,C8,E1,hb63,H1];exact ak.ret ⟨⟨s,tO (⟨#[103]⟩:ByteArray) (tO (⟨#[110,117,109]⟩:ByteArray) (tV (⟨#[78]⟩:ByteArray))),tP (⟨#[104]⟩:ByteArray) (tC (⟨#[98]⟩:ByteArray)) (tV (⟨#[78]⟩:ByteArray)),[g]⟩,i,h,rfl,⟨hs,W (mj (by decide) (mj (by decide) n1)) (by decide),W (ft (by decide) b1 n1) (by decide),by simp,by simp [hg]⟩,rfl⟩
   · exact ak.ret ⟨⟨s,tO (⟨#[103]⟩:ByteArray) (tO (⟨#[110,117,109]⟩:ByteArray) (tV (⟨#[78]⟩:ByteArray))),tP (⟨#[104]⟩:ByteArray) (tC (⟨#[98]⟩:ByteArray)) (tV (⟨#[78]⟩:ByteArray)),[]⟩,i,h,rfl,⟨hs,W (mj (by decide) (mj (by decide) n1)) (by decide),W (ft (by decide) b1 n1) (by decide),by simp,by simp⟩,rfl⟩
 refine ak.ite (fun _=>?_) (fun _=>?_)
 · skip
   have hp:=pi hl i h [tC (⟨#[98]⟩:ByteArray),tO (⟨#[110,117,109]⟩:ByteArray) (tW 2)] (by decide) (by decide)
   simp only [C2,D2,Tm.row_eq] at hp;refine ak.bind hp ?_
   rintro _ ⟨t,i,h,ht,rfl⟩
   have hw:Wn 3000 t:=by
    simp only [D4,K9,or_false] at ht;rcases ht with rfl | rfl
    · exact W b1 (by decide)
    · exact W (mj (by decide) (rm (by decide) (by decide))) (by decide)
   simp only [nv0,nvS,dvI,dvB,dvS,dvL,B5];refine ak.bind (de hl _ _ (by decide) (by decide)) ?_
   rintro _ ⟨q,i,h,rfl⟩
   simp only [nv0,nvS,dvI,dvB,dvS,dvL,B5];refine ak.ite (fun _=>?_) (fun _=>?_)
   · refine ak.bind (gb hl _ _) ?_
     rintro _ ⟨g,i,h,hg,rfl⟩
     have hb63:F9 1 M63=true:=by decide
     simp only [nv0,nvS,dvI,dvB,dvS,dvL,B5,C5,C8,E1,hb63,H1];exact ak.ret ⟨⟨s,tC (⟨#[97]⟩:ByteArray),t,[g]⟩,i,h,rfl,⟨hs,W a1 (by decide),hw,by simp,by simp [hg]⟩,rfl⟩
   · exact ak.ret ⟨⟨s,tC (⟨#[97]⟩:ByteArray),t,[]⟩,i,h,rfl,⟨hs,W a1 (by decide),hw,by simp,by simp⟩,rfl⟩
 refine ak.ite (fun _=>?_) (fun _=>?_)
 · skip
   refine ak.bind (de hl _ _ (by decide) (by decide)) ?_
   rintro _ ⟨q,i,h,rfl⟩
   simp only [nv0,nvS,dvI,dvB,dvS,dvL,B5];refine ak.ite (fun _=>?_) (fun _=>?_)
   · refine ak.bind (gb hl _ _) ?_
     rintro _ ⟨g,i,h,hg,rfl⟩
     have hb63:F9 1 M63=true:=by decide
     simp only [nv0,nvS,dvI,dvB,dvS,dvL,B5,C5,C8,E1,hb63,H1];exact ak.ret ⟨⟨s,tP (⟨#[102]⟩:ByteArray) (tV (⟨#[88]⟩:ByteArray)) (tV (⟨#[88]⟩:ByteArray)),tO (⟨#[103]⟩:ByteArray) (tV (⟨#[88]⟩:ByteArray)),[g]⟩,i,h,rfl,⟨hs,W (ft (by decide) x1 x1) (by decide),W (mj (by decide) x1) (by decide),by simp,by simp [hg]⟩,rfl⟩
   · exact ak.ret ⟨⟨s,tP (⟨#[102]⟩:ByteArray) (tV (⟨#[88]⟩:ByteArray)) (tV (⟨#[88]⟩:ByteArray)),tO (⟨#[103]⟩:ByteArray) (tV (⟨#[88]⟩:ByteArray)),[]⟩,i,h,rfl,⟨hs,W (ft (by decide) x1 x1) (by decide),W (mj (by decide) x1) (by decide),by simp,by simp⟩,rfl⟩
 refine ak.bind (Ii hl 3 _ rfl 512 (by decide) (by decide) _ _ _) ?_
 rintro _ ⟨t,i,h,ht,htn,rfl⟩
 simp only [nv0,nvS,dvI,dvB,dvS,dvL,B5];refine ak.bind (Ii hl 2 _ rfl 128 (by decide) (by decide) _ _ _) ?_
 rintro _ ⟨u,i,h,hu,hun,rfl⟩
 simp only [nv0,nvS,dvI,dvB,dvS,dvL,B5];refine ak.bind (de hl _ _ (by decide) (by decide)) ?_
 rintro _ ⟨q,i,h,rfl⟩
 simp only [nv0,nvS,dvI,dvB,dvS,dvL,B5];refine ak.ite (fun _=>?_) (fun _=>?_)
 · refine ak.bind (gb hl _ _) ?_
   rintro _ ⟨g,i,h,hg,rfl⟩
   have hb63:F9 1 M63=true:=by decide
   simp only [nv0,nvS,dvI,dvB,dvS,dvL,B5,C5,C8,E1,hb63,H1];exact ak.ret ⟨⟨s,t,u,[g]⟩,i,h,rfl,⟨hs,ht.wn (by decide) (by show t.nodes<=_; omega),hu.wn (by decide) (by show u.nodes<=_; omega),by simp,by simp [hg]⟩,rfl⟩
 · exact ak.ret ⟨⟨s,t,u,[]⟩,i,h,rfl,⟨hs,ht.wn (by decide) (by show t.nodes<=_; omega),hu.wn (by decide) (by show u.nodes<=_; omega),by simp,by simp⟩,rfl⟩
theorem Xy (n:Nat) (hn:n<10):∃ s:ByteArray,s.size<=2/\rn ⟨159,0,0⟩ [.int (n:Int)]=some (0,[.str s]):=by
 rw [e159_0_0];by_cases h0:n=0
 · subst h0; exact ⟨_,by decide,rfl⟩
 have e0:¬(n:Int)=0:=by omega
 rw [H8 e0,H8 (by omega:¬(n:Int)<0)]
 simp only [H2];have hm:O0 (n:Int) 10=(n:Int):=Int.tmod_eq_of_lt (by omega) (by omega)
 have hd:Int.tdiv (n:Int) 10=0:=Int.tdiv_eq_zero_of_lt (by omega) (by omega)
 have hl:∀ s:ByteArray,rn ⟨159,0,1⟩ [.int 0,.bool false,.str s]=some (0,[.bool false,.str s]):=fun s=>by
  rw [e159_0_1]; rfl
 have h1:∃ s:ByteArray,s.size<=2/\rn ⟨159,0,1⟩ [.int (n:Int),.bool false,.str ⟨#[]⟩]=some (0,[.bool false,.str s]):=by
  rw [e159_0_1];rw [H8 e0,hm,hd,H8 (by omega:¬(n:Int)<0)]
  have hw:IntKind.i64.wrap 0=0:=rfl;simp only [J4,H1,H2,show decide ((10:Int)=0)=false from rfl,hw,hl]
  refine ⟨_,?_,by rw [H7 (by show _<=am; unfold am; simp [eh,ByteArray.size])]; rfl⟩
  rw [ByteArray.size_append]; simp [eh,ByteArray.size]
 obtain ⟨s,h2,e⟩:=h1;exact ⟨s,h2,by rw [e]; rfl⟩
def DDf (code:aa) (x:Nat×List D):Prop:=∃ d:DfM,∃ i':Nat,∃ h':Int,DfW d/\x=(0,[.sl code,.int (i':Int),.int h',.sl (d.so.map ai),.sl (d.op.map OpM.row),.sl (d.ru.map RuM.row),.sl (d.st.map StM.row)])
theorem Vl {code:aa} (hl:code.length<=1048576) (i:Nat) (h:Int):ak (rn ⟨98,0,0⟩ [.sl code,.int (i:Int),.int h]) (DDf code):=by
 have hso:jf.length<=10:=by decide
 have hop:ic.length<=10:=by decide
 have hsig:ow ic:=⟨by decide,fun o ho=>by have:=(vv o ho).2.1; show o.a.length<=_; omega⟩
 have k1:∀ (m j:Nat) (b:Int),b<=5->(j:Int)+m=b->∀ (i:Nat) (h:Int) (R:List RuM),R.length<=j->(∀ r∈R,RuW r)->∃ R':List RuM,∃ i':Nat,∃ h':Int,R'.length<=5/\(∀ r∈R',RuW r) ∧
  rn ⟨98,0,1⟩ [.int b,.int (j:Int),.sl code,.int (i:Int),.int h,.sl [],.sl [],.sl [],.sl [],.sl (jf.map ai),.sl (ic.map OpM.row),.sl (R.map RuM.row),.sl []]=some (0,[.sl code,.int (i':Int),.int h',.sl [],.sl [],.sl [],.sl [],.sl (jf.map ai),.sl (ic.map OpM.row),.sl (R'.map RuM.row),.sl []]):=by
  intro m;induction m with
  | zero =>
   intro j b hb hj i h R hR hRa;rw [e98_0_1,H8 (by omega:¬(j:Int)<b)]
   exact ⟨R,i,h,by omega,hRa,rfl⟩
  | succ m ih =>
   intro j b hb hj i h R hR hRa;rw [e98_0_1,H7 (by omega:(j:Int)<b)]
   obtain ⟨s,hs,e1⟩:=Xy j (by omega)
   have hsz:((⟨#[114]⟩:ByteArray)++s).size<=1000:=by rw [ByteArray.size_append]; show 1+s.size<=1000; omega
   have hi:decide ((⟨#[114]⟩:ByteArray).size+s.size<=am)=true:=H7 (by show 1+s.size<=am; unfold am; omega)
   obtain ⟨_,e2,r,i',h',hn,hr,rfl⟩:=Vk hl ((⟨#[114]⟩:ByteArray)++s) hsz i h;have e3:=r129 (jf.map ai) ic hsig r hr.b;have hb63:F9 (R.length+1) M63=true:=nb (by omega)
   have ew:IntKind.i64.wrap ((j:Int)+1)=((j+1:Nat):Int):=by rw [IntWalk.i64_in _ (by omega)]; omega
   simp only [H1,e1,nv0,nvS,dvI,dvB,dvS,dvL,B5,hi,e2,e3,B6,C5,C8,E1,hb63,ew];cases jg ic r with
   | true =>
    obtain ⟨R',i2,h2,q1,q2,q3⟩:=ih (j+1) b hb (by omega) i' h' (R++[r]) (by simp; omega) (fun x hx=>by
     rcases D0.1 hx with hx | hx
     · exact hRa x hx
     · rw [F8.1 hx]; exact hr)
    simp only [E0,C2,D2,RuM.row] at q3;exact ⟨R',i2,h2,q1,q2,q3⟩
   | false =>
    exact ih (j+1) b hb (by omega) i' h' R (by omega) hRa
 have k2:∀ (R:List RuM),R.length<=5->(∀ r∈R,RuW r)->∀ (m j:Nat) (b:Int),b<=5->(j:Int)+m=b->∀ (i:Nat) (h:Int) (S:List StM),S.length<=j->∃ S':List StM,∃ i':Nat,∃ h':Int,S'.length<=5 ∧
  rn ⟨98,0,3⟩ [.int b,.int (j:Int),.sl code,.int (i:Int),.int h,.sl [],.sl [],.sl [],.sl [],.sl (jf.map ai),.sl (ic.map OpM.row),.sl (R.map RuM.row),.sl (S.map StM.row)]=some (0,[.sl code,.int (i':Int),.int h',.sl [],.sl [],.sl [],.sl [],.sl (jf.map ai),.sl (ic.map OpM.row),.sl (R.map RuM.row),.sl (S'.map StM.row)]):=by
  intro R hR hRa m;induction m with
  | zero =>
   intro j b hb hj i h S hS;rw [e98_0_3,H8 (by omega:¬(j:Int)<b)]
   exact ⟨S,i,h,by omega,rfl⟩
  | succ m ih =>
   intro j b hb hj i h S hS;rw [e98_0_3,H7 (by omega:(j:Int)<b)]
   simp only [H1];obtain ⟨_,e1,s,i1,h1,hs,rfl⟩:=iu hl i h (l:=[[.str ⟨#[102]⟩],[.str ⟨#[102]⟩],[.str ⟨#[103]⟩],[.str ⟨#[104]⟩],[.str ⟨#[116,111,112]⟩]]) (by decide) (by decide) 8 (by decide)
   obtain ⟨_,e2,n,i2,h2,n0,n1,rfl⟩:=bh hl i1 h1 (n:=2) (by decide) (by decide)
   have hdf:DfW ⟨jf,ic,R,S++[⟨s,n⟩]⟩:=⟨hso,Cx,hop,vv,by show R.length<=10; omega,hRa,by show (S++[_]).length<=10; simp; omega⟩
   have e3:=r68 _ hdf.b;have hb63:F9 (S.length+1) M63=true:=nb (by omega)
   have ew:IntKind.i64.wrap ((j:Int)+1)=((j+1:Nat):Int):=by rw [IntWalk.i64_in _ (by omega)]; omega
   simp only [E0,C2,D2,StM.row] at e3;simp only [e1,e2,nv0,nvS,dvI,dvB,dvS,dvL,B5,e3,B6,E9,C5,C8,E1,hb63,ew,H1];cases DfM.valid ⟨jf,ic,R,S++[⟨s,n⟩]⟩ with
   | true =>
    obtain ⟨S',i3,h3,q1,q2⟩:=ih (j+1) b hb (by omega) i2 h2 (S++[⟨s,n⟩]) (by simp; omega)
    simp only [E0,C2,D2,StM.row] at q2;exact ⟨S',i3,h3,q1,q2⟩
   | false =>
    have ew2:IntKind.i64.wrap (((S.length+1:Nat):Int)-1)=(S.length:Int):=by rw [IntWalk.i64_in _ (by omega)]; omega
    have ed:(decide ((0:Int)<=(S.length:Int))&&decide ((S.length:Int)<=((S.length+1:Nat):Int)))=true:=by simp; omega
    have etk:(S.map StM.row++[[D.str s,.int n]]).take (O1 (S.length:Int))=S.map StM.row:=by
     have e:S.length=(S.map StM.row).length:=(B6 ..).symm;rw [B9,e,List.take_left]
    simp only [J4,H1,ew2,ed,etk];exact ih (j+1) b hb (by omega) i2 h2 S (by omega)
 have hbase:rn ⟨157,0,0⟩ []=some (0,[.sl (jf.map ai),.sl (ic.map OpM.row)]):=by rw [e157_0_0]; rfl
 rw [e98_0_0];simp only [hbase,nv0,nvS,dvI,dvB,dvS,dvL,B5];refine ak.bind (bh hl _ _ (by decide) (by decide)) ?_
 rintro _ ⟨b,i,h,b0,b1,rfl⟩
 simp only [nv0,nvS,dvI,dvB,dvS,dvL,B5];have ew:IntKind.i64.wrap (1+b)=1+b:=IntWalk.i64_in _ (by omega)
 obtain ⟨R,i1,h1,q1,q2,q3⟩:=k1 (1+b).toNat 0 (1+b) (by omega) (by omega) i h [] (G6 _) (by simp)
 simp only [C6,D2] at q3;simp only [ew,q3,nv0,nvS,dvI,dvB,dvS,dvL,B5,E2,H1,H2];refine ak.bind (bh hl _ _ (by decide) (by decide)) ?_
 rintro _ ⟨c,i,h,c0,c1,rfl⟩
 simp only [nv0,nvS,dvI,dvB,dvS,dvL,B5];obtain ⟨S,i2,h2,p1,p2⟩:=k2 R q1 q2 c.toNat 0 c (by omega) (by omega) i h [] (G6 _)
 simp only [C6,D2] at p2;simp only [p2,nv0,nvS,dvI,dvB,dvS,dvL,B5,E2,H1,H2];exact ak.ret ⟨⟨jf,ic,R,S⟩,i2,h2,⟨hso,Cx,hop,vv,by show R.length<=10; omega,q2,by show S.length<=10; omega⟩,rfl⟩
end Go.Q.S
end
section
namespace Go.Q.S
open Go Go.Q Go.Proofs
def clB:List Bnd:=[(⟨#[88]⟩,tC ⟨#[97]⟩),(⟨#[89]⟩,tC ⟨#[98]⟩)]
theorem Nu (t:Tm) (ht:Wn 2048 t):∃ u:Tm,Wn 2048 u/\rn ⟨160,0,0⟩ [.int t.k,.int t.n,.str t.s,.sl (t.as.map Tm.row)]=some (0,[.int u.k,.int u.n,.str u.s,.sl (u.as.map Tm.row)]):=by
 have hw:∀ b∈clB,Wn 1 b.2:=fun b hb=>by
  simp only [clB,D4,K9,or_false] at hb;rcases hb with rfl | rfl
  · exact Qy (by decide)
  · exact Qy (by decide)
 have h1:=r58 clB (by decide) (fun b hb=>(hw b hb).small (by decide)) t (ht.small (by decide))
 have h2:=li (l:=clB) (m:=1) (by decide) (fun b hb=>(hw b hb).n) t
 have h3:=ht.n;refine ⟨aS clB t,⟨Lc (fun b hb=>(hw b hb).w) t ht.w,by omega⟩,?_⟩
 simp only [clB,C2,D2,mf] at h1;rw [e160_0_0];simp only [vC,nv0,nvS,dvI,dvB,dvS,dvL,B5,h1];rfl
structure SyW (vl:List ByteArray) (tm:Tm) (cl:List Int):Prop where
 v:vl.length<=10
 vs:∀ x∈vl,x.size<=1000
 t:Wn 3000 tm
 c:cl.length<=100
 ci:∀ x∈cl,S.i64ok x
theorem SyW.b {v:List ByteArray} {t:Tm} {c:List Int} (h:SyW v t c) {d:DfM} (hd:DfB d):SyB ⟨d,v,t,c⟩ :=
 ⟨hd,by have:=h.v; show v.length<=_; omega,fun x hx=>by have:=h.vs x hx; unfold maxLen; omega,h.t.w,by have:=h.t.n; show t.nodes<=_; omega,by have:=h.c; show c.length<=_; omega⟩
def DSy (code:aa) (x:Nat×List D):Prop:=∃ v:List ByteArray,∃ t:Tm,∃ c:List Int,∃ i':Nat,∃ h':Int,SyW v t c/\x=(0,[.int t.k,.int t.n,.str t.s,.sl code,.int (i':Int),.int h',.sl (v.map ai),.sl (t.as.map Tm.row),.sl (c.map bu)])
def nmL:List ByteArray:=[⟨#[78]⟩,⟨#[77]⟩]
theorem vz:∀ x∈nmL,x.size<=1000:=fun x hx=>by
 have:=D9.1 (show nmL.all (fun x=>decide (x.size<=1000))=true from by decide) x hx
 simpa using this
theorem Ij:([[.str (⟨#[78]⟩:ByteArray)],[.str (⟨#[77]⟩:ByteArray)]]:aa)=nmL.map ai:=rfl
theorem Ik (gs:List Gu) (hg:∀ g∈gs,GuW g) (hn:gs.length<=10):∃ c:List Int,c.length<=100/\(∀ x∈c,S.i64ok x)/\rn ⟨56,0,0⟩ [.sl (nmL.map ai),.sl (gs.map Gu.row)]=some (0,[.sl (c.map bu)]):=by
 have h1:=r56 nmL gs (by omega) (fun g h=>⟨(hg g h).b.ln,(hg g h).b.rn⟩)
 have h2:=allC_len nmL gs;refine ⟨(fq nmL gs).map (fun n:Nat=>(n:Int)),by rw [B6]; omega,fun x hx=>?_,?_⟩
 · obtain ⟨n,hn,rfl⟩:=F2.1 hx
   exact Ug nmL gs n hn
 · rw [h1,K5]; rfl
theorem Vm {code:aa} (hl:code.length<=1048576) (i:Nat) (h:Int):ak (rn ⟨99,0,0⟩ [.sl code,.int (i:Int),.int h]) (DSy code):=by
 rw [e99_0_0];refine ak.bind (bh hl _ _ (by decide) (by decide)) ?_
 rintro _ ⟨b,i,h,b0,b1,rfl⟩
 simp only [nv0,nvS,dvI,dvB,dvS,dvL,B5];have e:∃ d:Nat,IntKind.i64.wrap (2+b)=(d:Int)/\d<=4:=⟨(2+b).toNat,by rw [IntWalk.i64_in _ (by omega)]; omega,by omega⟩
 obtain ⟨d,e,hd⟩:=e;rw [e];have hp:4 ^ d<=4 ^ 4:=Nat.pow_le_pow_right (by decide) hd
 have hp4:4 ^ 4=256:=rfl;refine ak.bind (Ii hl d _ rfl 2048 (by omega) (by omega) _ _ _) ?_
 rintro _ ⟨t,i,h,ht,htn,rfl⟩
 obtain ⟨u,hu,e1⟩:=Nu t (ht.wn (by decide) htn)
 have e2:=r57 u (hu.small (by decide))
 have hr:=Yp hu;simp only [nv0,nvS,dvI,dvB,dvS,dvL,B5,e1,e2];refine ak.bind (de hl _ _ (by decide) (by decide)) ?_
 rintro _ ⟨q,i,h,rfl⟩
 simp only [nv0,nvS,dvI,dvB,dvS,dvL,B5];refine ak.ite (fun _=>?_) (fun _=>?_)
 · refine ak.bind (bh hl _ _ (by decide) (by decide)) ?_
   rintro _ ⟨b,i,h,b0,b1,rfl⟩
   simp only [vV,nv0,nvS,dvI,dvB,dvS,dvL,B5];have ew:IntKind.i64.wrap (1+b)=1+b:=IntWalk.i64_in _ (by omega)
   rw [ew];refine ak.bind (Tf hl 2 _ rfl 64 (by decide) (by decide) _ _ _) ?_
   rintro _ ⟨z,i,h,hz,hzn,rfl⟩
   have hg:GuW ⟨1+b,tV ⟨#[78]⟩,z⟩:=⟨by show 0<=1+b/\1+b<=5; omega,(Aq (by decide)).mono (by decide),hz.wn (by decide) (by show z.nodes<=_; omega)⟩
   obtain ⟨c,c1,c2,c3⟩:=Ik [⟨1+b,tV ⟨#[78]⟩,z⟩] (by simpa using hg) (by simp)
   simp only [C2,D2,Gu.row] at c3;have hb63:F9 (0+1) M63=true:=by decide
   simp only [nv0,nvS,dvI,dvB,dvS,dvL,B5,C5,C8,hb63,H1,Ij,List.nil_append,c3];exact ak.ret ⟨nmL,rW u,c,i,h,⟨by decide,vz,hr.mono (by decide),c1,c2⟩,rfl⟩
 · obtain ⟨c,c1,c2,c3⟩:=Ik [] (by simp) (by decide)
   simp only [D2] at c3;simp only [Ij,c3,nv0,nvS,dvI,dvB,dvS,dvL,B5];exact ak.ret ⟨nmL,rW u,c,i,h,⟨by decide,vz,hr.mono (by decide),c1,c2⟩,rfl⟩
end Go.Q.S
end
section
namespace Go.Q.S
open Go Go.Q Go.Proofs
theorem Vn (d:DfM) (hd:DfB d) (v:List ByteArray) (t:Tm) (c:List Int) (h:SyW v t c):∃ u:Tm,Wn 3000 u/\rn ⟨100,0,0⟩ [.sl (d.so.map ai),.sl (d.op.map OpM.row),.sl (d.ru.map RuM.row),.sl (d.st.map StM.row),.sl (v.map ai),.int t.k,.int t.n,.str t.s,.sl (t.as.map Tm.row),.sl (c.map bu)]=some (0,[.int (u).k,.int (u).n,.str (u).s,.sl ((u).as.map Tm.row)]):=by
 have x1:=r14 v t (h.t.small (by decide)) (c.map bu) 0
 have hn:=S.instR_nodes (vars:=v) (t:=t) 0;have htn:=h.t.n;have hw:=pf (vars:=v) h.t.w 0;have x2:=r87 d hd (S.instR v t 0) hw (by omega)
 have x3:=r16 d hd (S.instR v t 0) hw (by omega) 5
 rw [Wz] at x3;obtain ⟨g1,g2,_,_⟩:=Uk hd hw 5;have ha:Wn 3000 (tC (⟨#[97]⟩:ByteArray)):=(Qy (by decide)).mono (by decide)
 rw [e100_0_0];simp only [x1,nv0,nvS,dvI,dvB,dvS,dvL,B5,vC,x2,x3];cases isC v.length 0 with
 | false=>exact ⟨_,ha,rfl⟩
 | true =>
  cases cfg d (S.instR v t 0) with
  | false=>exact ⟨_,ha,rfl⟩
  | true=>exact ⟨rtT (jb d (S.instR v t 0) 5),⟨g1,by omega⟩,rfl⟩
theorem vT (s:ByteArray) (t u:Tm):rn ⟨93,0,0⟩ [.str s,.int t.k,.int t.n,.str t.s,.sl (t.as.map Tm.row),.int u.k,.int u.n,.str u.s,.sl (u.as.map Tm.row)]=some (0,[.int (tP s t u).k,.int (tP s t u).n,.str (tP s t u).s,.sl ((tP s t u).as.map Tm.row)]):=by
 rw [e93_0_0];simp only [vP,nv0,nvS,dvI,dvB,dvS,dvL,B5]
def DCl (code:aa) (x:Nat×List D):Prop:=∃ d:DfM,∃ v:List ByteArray,∃ l r:Tm,∃ g:List Gu,∃ i':Nat,∃ h':Int,DfW d/\ClW v l r g/\(v.length<=10/\g.length<=10)/\x=(0,[.int l.k,.int l.n,.str l.s,.int r.k,.int r.n,.str r.s,.sl code,.int (i':Int),.int h',.sl (d.so.map ai),.sl (d.op.map OpM.row),.sl (d.ru.map RuM.row),.sl (d.st.map StM.row),.sl (v.map ai),.sl (l.as.map Tm.row),.sl (r.as.map Tm.row),.sl (g.map Gu.row)])
theorem Nv {code:aa} (hl:code.length<=1048576) (i:Nat) (h:Int):ak (rn ⟨48,0,0⟩ [.sl code,.int (i:Int),.int h]) (DCl code):=by
 have W:∀ {m:Nat} {t:Tm},Wn m t->m<=3000->Wn 3000 t:=fun h hm=>h.mono hm
 have n1:Wn 1 (tV (⟨#[78]⟩:ByteArray)):=Aq (by decide)
 have m1:Wn 1 (tV (⟨#[77]⟩:ByteArray)):=Aq (by decide)
 have L1:Wn 3000 (tP (⟨#[108,111,111,112]⟩:ByteArray) (tV (⟨#[78]⟩:ByteArray)) (tV (⟨#[77]⟩:ByteArray))):=W (ft (by decide) n1 m1) (by decide)
 have dO:∀ {t:Tm},Wn 5 t->Wn 3000 (tO (⟨#[100,111,110,101]⟩:ByteArray) t):=fun h=>W (mj (by decide) h) (by decide)
 have pMN:Wn 3 (tP (⟨#[112,108,117,115]⟩:ByteArray) (tV (⟨#[77]⟩:ByteArray)) (tV (⟨#[78]⟩:ByteArray))):=ft (by decide) m1 n1
 have pNM:Wn 3 (tP (⟨#[112,108,117,115]⟩:ByteArray) (tV (⟨#[78]⟩:ByteArray)) (tV (⟨#[77]⟩:ByteArray))):=ft (by decide) n1 m1
 have w0:Wn 1 (tW 0):=rm (by decide) (by decide)
 have w2:Wn 1 (tW 2):=rm (by decide) (by decide)
 have pM2:Wn 3 (tP (⟨#[112,108,117,115]⟩:ByteArray) (tV (⟨#[77]⟩:ByteArray)) (tW 2)):=ft (by decide) m1 w2
 rw [e48_0_0];simp only [vV,nv0,nvS,dvI,dvB,dvS,dvL,B5,vT,vP,vO];refine ak.bind (bh hl _ _ (by decide) (by decide)) ?_
 rintro _ ⟨b,i,h,b0,b1,rfl⟩
 simp only [vV,vO,vP,vW,vC,vT,nv0,nvS,dvI,dvB,dvS,dvL,B5,qd];refine ak.ite (fun _=>?_) (fun _=>?_)
 · skip
   have hp:=pi hl i h [tV (⟨#[77]⟩:ByteArray),tP (⟨#[112,108,117,115]⟩:ByteArray) (tV (⟨#[77]⟩:ByteArray)) (tV (⟨#[78]⟩:ByteArray)),tW 0] (by decide) (by decide)
   simp only [C2,D2,Tm.row_eq] at hp;refine ak.bind hp ?_
   rintro _ ⟨t,i,h,ht,rfl⟩
   have hw:Wn 5 t:=by
    simp only [D4,K9,or_false] at ht;rcases ht with rfl | rfl | rfl
    · exact m1.mono (by decide)
    · exact pMN.mono (by decide)
    · exact w0.mono (by decide)
   simp only [nv0,nvS,dvI,dvB,dvS,dvL,B5,vO,qd];exact ak.ret ⟨ij,nmL,_,_,[],i,h,ph,⟨by decide,vz,L1,dO hw,by simp,by simp⟩,⟨by decide,by simp⟩,rfl⟩
 refine ak.ite (fun _=>?_) (fun _=>?_)
 · refine ak.bind (bh hl _ _ (by decide) (by decide)) ?_
   rintro _ ⟨b,i,h,b0,b1,rfl⟩
   simp only [vV,vO,vP,vW,vC,vT,nv0,nvS,dvI,dvB,dvS,dvL,B5,qd];have hp:=pi hl i h [tV (⟨#[77]⟩:ByteArray),tP (⟨#[112,108,117,115]⟩:ByteArray) (tV (⟨#[77]⟩:ByteArray)) (tW 2)] (by decide) (by decide)
   simp only [C2,D2,Tm.row_eq] at hp;refine ak.bind hp ?_
   rintro _ ⟨t,i,h,ht,rfl⟩
   have hw:Wn 5 t:=by
    simp only [D4,K9,or_false] at ht;rcases ht with rfl | rfl
    · exact m1.mono (by decide)
    · exact pM2.mono (by decide)
   simp only [nv0,nvS,dvI,dvB,dvS,dvL,B5,vO,qd];exact ak.ret ⟨ij,nmL,_,_,[],i,h,ph,⟨by decide,vz,W (ft (by decide) (rm b0 (by omega)) m1) (by decide),dO hw,by simp,by simp⟩,⟨by decide,by simp⟩,rfl⟩
 refine ak.ite (fun _=>?_) (fun _=>?_)
 · refine ak.bind (bh hl _ _ (by decide) (by decide)) ?_
   rintro _ ⟨b,i,h,b0,b1,rfl⟩
   simp only [vV,vO,vP,vW,vC,vT,nv0,nvS,dvI,dvB,dvS,dvL,B5,qd];have hp:=pi hl i h [tV (⟨#[77]⟩:ByteArray),tP (⟨#[112,108,117,115]⟩:ByteArray) (tV (⟨#[77]⟩:ByteArray)) (tV (⟨#[78]⟩:ByteArray))] (by decide) (by decide)
   simp only [C2,D2,Tm.row_eq] at hp;refine ak.bind hp ?_
   rintro _ ⟨t,i,h,ht,rfl⟩
   have hw:Wn 5 t:=by
    simp only [D4,K9,or_false] at ht;rcases ht with rfl | rfl
    · exact m1.mono (by decide)
    · exact pMN.mono (by decide)
   simp only [nv0,nvS,dvI,dvB,dvS,dvL,B5,vO,qd];have hg:GuW ⟨3,tV (⟨#[78]⟩:ByteArray),tW b⟩:=⟨by show (0:Int)<=3/\(3:Int)<=5; decide,W n1 (by decide),W (rm b0 (by omega)) (by decide)⟩
   exact ak.ret ⟨ij,nmL,_,_,[⟨3,tV (⟨#[78]⟩:ByteArray),tW b⟩],i,h,ph,⟨by decide,vz,L1,dO hw,by simp,by simpa using hg⟩,⟨by decide,by simp⟩,rfl⟩
 refine ak.ite (fun _=>?_) (fun _=>?_)
 · refine ak.bind (Vl hl _ _) ?_
   rintro _ ⟨d,i,h,hd,rfl⟩
   simp only [nv0,nvS,dvI,dvB,dvS,dvL,B5];refine ak.bind (Vm hl _ _) ?_
   rintro _ ⟨v,t,c,i,h,hs,rfl⟩
   obtain ⟨u,hu,e1⟩:=Vn d hd.b v t c hs;simp only [nv0,nvS,dvI,dvB,dvS,dvL,B5,e1];exact ak.ret ⟨d,v,t,u,[],i,h,hd,⟨by have:=hs.v; omega,hs.vs,hs.t,hu,by simp,by simp⟩,⟨hs.v,by simp⟩,rfl⟩
 · exact ak.ret ⟨ij,nmL,_,_,[],i,h,ph,⟨by decide,vz,L1,dO (pNM.mono (by decide)),by simp,by simp⟩,⟨by decide,by simp⟩,rfl⟩
theorem Tg {code:aa} (hl:code.length<=1048576) (i:Nat) (h:Int):ak (rn ⟨52,0,0⟩ [.sl code,.int (i:Int),.int h]) (DGu code):=by
 rw [e52_0_0];refine ak.bind (gb hl _ _) ?_
 rintro _ ⟨g,i,h,hg,rfl⟩
 simp only [nv0,nvS,dvI,dvB,dvS,dvL,B5];refine ak.bind (bh hl _ _ (by decide) (by decide)) ?_
 rintro _ ⟨b,i,h,b0,b1,rfl⟩
 simp only [nv0,nvS,dvI,dvB,dvS,dvL,B5];refine ak.ite (fun _=>?_) (fun _=>?_)
 · refine ak.bind (bh hl _ _ (by decide) (by decide)) ?_
   rintro _ ⟨b,i,h,b0,b1,rfl⟩
   simp only [nv0,nvS,dvI,dvB,dvS,dvL,B5];exact ak.ret ⟨⟨b,g.l,g.r⟩,i,h,⟨by show 0<=b/\b<=5; omega,hg.l,hg.r⟩,rfl⟩
 refine ak.ite (fun _=>?_) (fun _=>?_)
 · refine ak.bind (Lu hl _ _) ?_
   rintro _ ⟨t,i,h,ht,rfl⟩
   simp only [nv0,nvS,dvI,dvB,dvS,dvL,B5];exact ak.ret ⟨⟨g.k,t,g.r⟩,i,h,⟨hg.k,ht.mono (by decide),hg.r⟩,rfl⟩
 · exact ak.ret ⟨g,i,h,hg,rfl⟩
theorem Nw {code:aa} (hl:code.length<=1048576):∃ d:DfM,∃ v:List ByteArray,∃ l r:Tm,∃ g:List Gu,DfW d/\ClW v l r g/\rn ⟨19,0,0⟩ [.sl code]=some (0,[.int l.k,.int l.n,.str l.s,.int r.k,.int r.n,.str r.s,.sl (d.so.map ai),.sl (d.op.map OpM.row),.sl (d.ru.map RuM.row),.sl (d.st.map StM.row),.sl (v.map ai),.sl (l.as.map Tm.row),.sl (r.as.map Tm.row),.sl (g.map Gu.row)]):=by
 have H:ak (rn ⟨19,0,0⟩ [.sl code]) fun x=>∃ d:DfM,∃ v:List ByteArray,∃ l r:Tm,∃ g:List Gu,DfW d/\ClW v l r g/\x=(0,[.int l.k,.int l.n,.str l.s,.int r.k,.int r.n,.str r.s,.sl (d.so.map ai),.sl (d.op.map OpM.row),.sl (d.ru.map RuM.row),.sl (d.st.map StM.row),.sl (v.map ai),.sl (l.as.map Tm.row),.sl (r.as.map Tm.row),.sl (g.map Gu.row)]):=by
  rw [e19_0_0];refine ak.bind (Xx hl) ?_
  rintro _ ⟨i,h,rfl⟩
  simp only [nv0,nvS,dvI,dvB,dvS,dvL,B5];refine ak.bind (Nv hl _ _) ?_
  rintro _ ⟨d,v,l,r,g,i,h,hd,hc,⟨hcv,hcg⟩,rfl⟩
  simp only [nv0,nvS,dvI,dvB,dvS,dvL,B5];refine ak.bind (bh hl _ _ (by decide) (by decide)) ?_
  rintro _ ⟨b,i,h,b0,b1,rfl⟩
  simp only [nv0,nvS,dvI,dvB,dvS,dvL,B5];refine ak.ite (fun _=>?_) (fun _=>?_)
  · refine ak.bind (iu hl _ _ (by decide) (by decide) 1 (by decide)) ?_
    rintro _ ⟨s,i,h,hs,rfl⟩
    have hb63:F9 (v.length+1) M63=true:=nb (by omega)
    simp only [nv0,nvS,dvI,dvB,dvS,dvL,B5,B6,C5,C8,E1,hb63,H1];exact ak.ret ⟨d,v++[s],l,r,g,hd,⟨by rw [E9,List.length_singleton]; omega,fun x hx=>by
     rcases D0.1 hx with hx | hx
     · exact hc.vs x hx
     · rw [F8.1 hx]; omega,hc.l,hc.r,hc.g,hc.ga⟩,by rw [E0]; rfl⟩
  refine ak.ite (fun _=>?_) (fun _=>?_)
  · refine ak.bind (Lu hl _ _) ?_
    rintro _ ⟨t,i,h,ht,rfl⟩
    simp only [nv0,nvS,dvI,dvB,dvS,dvL,B5];exact ak.ret ⟨d,v,l,t,g,hd,⟨hc.v,hc.vs,hc.l,ht.mono (by decide),hc.g,hc.ga⟩,rfl⟩
  refine ak.ite (fun _=>?_) (fun _=>?_)
  · refine ak.bind (Tg hl _ _) ?_
    rintro _ ⟨q,i,h,hq,rfl⟩
    have hb63:F9 (g.length+1) M63=true:=nb (by omega)
    simp only [nv0,nvS,dvI,dvB,dvS,dvL,B5,B6,C5,C8,E1,hb63,H1];exact ak.ret ⟨d,v,l,r,g++[q],hd,⟨hc.v,hc.vs,hc.l,hc.r,by simp; omega,fun x hx=>by
     rcases D0.1 hx with hx | hx
     · exact hc.ga x hx
     · rw [F8.1 hx]; exact hq⟩,by rw [E0]; rfl⟩
  · exact ak.ret ⟨d,v,l,r,g,hd,hc,rfl⟩
 obtain ⟨x,e,d,v,l,r,g,hd,hc,rfl⟩:=H;exact ⟨d,v,l,r,g,hd,hc,e⟩
end Go.Q.S
end
section
namespace Go.Q.S
open Go Go.Q Go.Proofs
theorem Yx (ls:List D):rn ⟨206,0,0⟩ ls=Gl 0 ls:=by rw [rn_eq]; rfl
theorem r182 {n:Int} (h0:0<=n) (h1:n<100):rn ⟨182,0,0⟩ [.int n]=some (0,[.str (dgS n)]):=by
 rw [e182_0_0,Yx];unfold Gl;simp only [H7 h0,H7 h1,Bool.and_self,H1,nv0,nvS,dvI,dvB,dvS,dvL,B5,dgS]
theorem fi0:∀ (b:Bool) (s:ByteArray),rn ⟨159,0,1⟩ [.int 0,.bool b,.str s]=some (0,[.bool b,.str s]):=fun b s=>by
 rw [e159_0_1]; rfl
theorem fi1:rn ⟨159,0,1⟩ [.int 1,.bool false,.str ⟨#[]⟩]=some (0,[.bool false,.str ⟨#[49]⟩]):=by
 rw [e159_0_1];exact (by kernel_rfl:_=rn ⟨159,0,1⟩ [.int 0,.bool false,.str ⟨#[49]⟩]).trans (fi0 _ _)
theorem fi2:rn ⟨159,0,1⟩ [.int 2,.bool false,.str ⟨#[]⟩]=some (0,[.bool false,.str ⟨#[50]⟩]):=by
 rw [e159_0_1];exact (by kernel_rfl:_=rn ⟨159,0,1⟩ [.int 0,.bool false,.str ⟨#[50]⟩]).trans (fi0 _ _)
theorem fi3:rn ⟨159,0,1⟩ [.int 3,.bool false,.str ⟨#[]⟩]=some (0,[.bool false,.str ⟨#[51]⟩]):=by
 rw [e159_0_1];exact (by kernel_rfl:_=rn ⟨159,0,1⟩ [.int 0,.bool false,.str ⟨#[51]⟩]).trans (fi0 _ _)
theorem fiS {n:Int} (h0:0<=n) (h1:n<4):rn ⟨159,0,0⟩ [.int n]=some (0,[.str (dgS n)]):=by
 have e:∀ m:Nat,m<10->dgS (m:Int)=⟨#[UInt8.ofNat (48+m)]⟩:=fun m hm=>by
  unfold dgS; rw [B9,Lib.decDigits_one hm]
 have h:n=0\/n=1\/n=2\/n=3:=by omega
 rcases h with rfl | rfl | rfl | rfl
 · rw [e159_0_0]
   have:=e 0 (by decide)
   simp only [C6] at this;rw [this]; rfl
 · rw [e159_0_0]
   have:=e 1 (by decide)
   have h1:rn ⟨159,0,1⟩ [.int 1,.bool (decide ((1:Int)<0)),.str ⟨#[]⟩]=_:=fi1;simp only [Int.natCast_one] at this;rw [this,h1]; rfl
 · rw [e159_0_0]
   have:=e 2 (by decide)
   have h1:rn ⟨159,0,1⟩ [.int 2,.bool (decide ((2:Int)<0)),.str ⟨#[]⟩]=_:=fi2;have e2:dgS 2=_:=this;rw [e2,h1]; rfl
 · rw [e159_0_0]
   have:=e 3 (by decide)
   have h1:rn ⟨159,0,1⟩ [.int 3,.bool (decide ((3:Int)<0)),.str ⟨#[]⟩]=_:=fi3;have e2:dgS 3=_:=this;rw [e2,h1]; rfl
theorem il {a:Nat} (h:a<=1099511627776):a<=am:=by unfold am; omega
theorem Yy (ls:List D):rn ⟨207,0,0⟩ ls=Gm 0 ls:=by rw [rn_eq]; rfl
theorem r183 (l:List ByteArray) (hl:l.length<=1048576) (hs:(l.map fun y=>y.size+2).sum<=1048576):rn ⟨183,0,0⟩ [.sl (l.map ai),.str Bi]=some (0,[.str ⟨(Lib.join (l.map fun y=>y.data.toList) Bi.data.toList).toArray⟩]):=by
 have h1:zr (l.map ai)=some (l.map fun y=>y.data.toList):=by
  rw [zz];exact sx (l.map toK)
 have h2:(Lib.join (l.map fun y=>y.data.toList) Bi.data.toList).length<=2097152:=by
  cases l with
  | nil=>exact Nat.zero_le _
  | cons x r =>
   rw [C2,Lib.join_cons,E9];have h3:=ro r ⟨#[]⟩;have h4:=ik r ⟨#[]⟩;have h5:(kt r ⟨#[]⟩).data.toList.length=(kt r ⟨#[]⟩).size:=by rw [Array.length_toList]; rfl
   rw [h3] at h5;simp only [E9] at h5;have h6:(⟨#[]⟩:ByteArray).size=0:=rfl;have h7:x.data.toList.length=x.size:=by rw [Array.length_toList]; rfl
   simp only [C2,J6] at hs;omega
 rw [e183_0_0,Yy];unfold Gm;simp only [h1];rw [F4 (by rw [B6]; omega),F4 (by omega)]
 rfl
theorem r140:∀ t:Tm,ax t->t.areN=true->t.nodes<=60->rn ⟨140,0,0⟩ [.int t.k,.int t.n,.str t.s,.sl (t.as.map Tm.row)]=some (0,[.str t.txt]):=Tm.ind fun t ih h hA hN=>by
 have hA':=hA;rw [Tm.areN_eq,B7,Tm.areNL_all] at hA;obtain ⟨hn,ha⟩:=hA;obtain ⟨n1,n2,n3⟩:=yj hn;have hnd:=Tm.nodes_eq t;have hls:=h.len;rw [e140_0_0,Tm.txt_eq];by_cases hk:t.k=3
 · obtain ⟨_,a,b⟩:=n2 hk
   simp only [H7 hk,H1,r182 a (by omega),nv0,nvS,dvI,dvB,dvS,dvL,B5,H5 hk]
 · rw [H6 hk,H8 hk]
   cases hl:t.as with
   | nil=>simp only [H2,D2,C8,C6,H3,H1,yc]
   | cons x0 xr =>
    rw [<- hl];have hpos:0<t.as.length:=by rw [hl]; simp
    have hf:=gy (F:=fun i acc=>rn ⟨140,0,1⟩ [.sl (t.as.map Tm.row),.int (t.as.length:Int),.int (i:Int),.int t.k,.int t.n,.str t.s,.sl (t.as.map Tm.row),.sl acc]) (xs:=t.as) (fun x=>ai x.txt) (K:=fun acc=>some (0,[.int t.k,.int t.n,.str t.s,.sl (t.as.map Tm.row),.sl acc])) (fun i hi acc hac=>?_) (fun acc=>?_)
    · simp only [C6] at hf
      have htx:=Ar t hA';rw [Tm.txt_eq,H6 hk] at htx;have e1:(t.as.map fun x=>ai x.txt)=(t.as.map Tm.txt).map ai:=by rw [K5]; rfl
      have hsum:((t.as.map Tm.txt).map fun y=>y.size+2).sum<=960:=by
       rw [hl] at htx ⊢;simp only [C2,J6,yc,au,ik] at htx ⊢;omega
      have hj:=r183 (t.as.map Tm.txt) (by rw [B6]; omega) (by omega)
      have c1:decide (t.s.size+(⟨#[40]⟩:ByteArray).size<=am)=true:=H7 (il (by show t.s.size+1<=_; omega))
      have hjs:∃ J:ByteArray,(⟨(Lib.join ((t.as.map Tm.txt).map fun y=>y.data.toList) Bi.data.toList).toArray⟩:ByteArray)=J/\yc t.s (t.as.map Tm.txt)=((t.s++Eo)++J)++Jx:=⟨_,rfl,by rw [hl,C2,Nq]⟩
      obtain ⟨J,j1,j2⟩:=hjs;rw [j1] at hj;have hJ:t.s.size+1+J.size+1<=960:=by
       rw [j2] at htx;simp only [au] at htx;have o1:Eo.size=1:=rfl;have o2:Jx.size=1:=rfl;omega
      have c2:decide ((t.s++(⟨#[40]⟩:ByteArray)).size+J.size<=am)=true:=H7 (il (by rw [au]; show t.s.size+1+J.size<=_; omega))
      have c3:decide (((t.s++(⟨#[40]⟩:ByteArray))++J).size+(⟨#[41]⟩:ByteArray).size<=am)=true:=H7 (il (by rw [au,au]; show t.s.size+1+J.size+1<=_; omega))
      have hj':rn ⟨183,0,0⟩ [.sl ((t.as.map Tm.txt).map ai),.str (⟨#[44,32]⟩:ByteArray)]=_:=hj;rw [j2];simp only [H2,B6,H8 (show ¬(t.as.length:Int)=0 by omega),hf,e1,nv0,nvS,dvI,dvB,dvS,dvL,B5,E2,H1,H2,c1,hj',c2,c3]
      rfl
    · have h1:=ih _ (C1 hi) (h.sub (C1 hi)) (D9.1 ha _ (C1 hi)) (by have:=dl (f:=Tm.nodes) (C1 hi); omega)
      have hb2:F9 (acc.length+1) M63=true:=nb (by omega)
      rw [e140_0_1];simp only [B6,C0,hi,H3,H1,ba,B9,ae hi,ag hi (br (by omega)),Tm.row_eq,nv0,nvS,dvI,dvB,dvS,dvL,B5,h1,C5,C8,E1,hb2]
      rfl
    · rw [e140_0_1]
      simp only [C0,D7,H4,H2]
theorem r142:∀ t:Tm,ax t->t.areN=true->t.nodes<=60->rn ⟨142,0,0⟩ [.int t.k,.int t.n,.str t.s,.sl (t.as.map Tm.row)]=some (0,[.str t.txt]):=Tm.ind fun t ih h hA hN=>by
 have hA':=hA;rw [Tm.areN_eq,B7,Tm.areNL_all] at hA;obtain ⟨hn,ha⟩:=hA;obtain ⟨n1,n2,n3⟩:=yj hn;have hnd:=Tm.nodes_eq t;have hls:=h.len;have htx:=Ar t hA';rw [e142_0_0];rw [Tm.txt_eq] at htx ⊢;by_cases hk:t.k=3
 · obtain ⟨_,a,b⟩:=n2 hk
   simp only [H7 hk,H1,fiS a b,nv0,nvS,dvI,dvB,dvS,dvL,B5,H5 hk]
 · rw [H6 hk] at htx ⊢
   rw [H8 hk];have key:∀ n i (acc:ByteArray),i+n=t.as.length->0<i->acc.size+(((t.as.drop i).map Tm.txt).map fun y=>y.size+2).sum<=960->rn ⟨142,0,1⟩ [.str acc,.int (i:Int),.int t.k,.int t.n,.str t.s,.sl (t.as.map Tm.row)]=some (0,[.str (kt ((t.as.drop i).map Tm.txt) acc),.int t.k,.int t.n,.str t.s,.sl (t.as.map Tm.row)]):=by
    intro n;induction n with
    | zero =>
     intro i acc hi h0 hz;obtain rfl:i=t.as.length:=by omega
     rw [e142_0_1];simp only [B6,C0,D7,H4,H2,C9,D2,kt]
    | succ n ih2 =>
     intro i acc hi h0 hz;have hlt:i<t.as.length:=by omega
     rw [B8 hlt] at hz ⊢;simp only [C2,J6] at hz ⊢;have h1:=ih _ (C1 hlt) (h.sub (C1 hlt)) (D9.1 ha _ (C1 hlt)) (by have:=dl (f:=Tm.nodes) (C1 hlt); omega)
     have h2:=ih2 (i+1) ((acc++Bi)++t.as[i].txt) (by omega) (by omega) (by rw [au,au]; have:Bi.size=2:=rfl; omega)
     have c1:decide (acc.size+(⟨#[44,32]⟩:ByteArray).size<=am)=true:=H7 (il (by show acc.size+2<=_; omega))
     have c2:decide ((acc++(⟨#[44,32]⟩:ByteArray)).size+t.as[i].txt.size<=am)=true:=H7 (il (by rw [au]; show acc.size+2+_<=_; omega))
     rw [e142_0_1];simp only [B6,C0,hlt,H3,H1,ba,B9,ae hlt,ag hlt (br (by omega)),Tm.row_eq,nv0,nvS,dvI,dvB,dvS,dvL,B5,H8 (show ¬(i:Int)=0 by omega),H2,c1,h1,c2]
     exact h2
   cases hl:t.as with
   | nil =>
    rw [hl] at key;have hz:rn ⟨142,0,1⟩ [.str t.s,.int 0,.int t.k,.int t.n,.str t.s,.sl []]=some (0,[.str t.s,.int t.k,.int t.n,.str t.s,.sl []]):=by
     rw [e142_0_1]; rfl
    simp only [H2,D2,hz,nv0,nvS,dvI,dvB,dvS,dvL,B5,E2,H1,H2,yc,C8];rfl
   | cons x0 xr =>
    have hlt:0<t.as.length:=by rw [hl]; simp
    have hx0:t.as[0]=x0:=by simp [hl]
    have hdr:t.as.drop 1=xr:=by rw [hl]; rfl
    have hsum:=htx;rw [hl] at hsum;simp only [C2,yc,au,ik] at hsum;have o1:Eo.size=1:=rfl;have o2:Jx.size=1:=rfl;have h1:=ih _ (C1 hlt) (h.sub (C1 hlt)) (D9.1 ha _ (C1 hlt)) (by have:=dl (f:=Tm.nodes) (C1 hlt); omega)
    have h2:=key (t.as.length-1) 1 ((t.s++Eo)++x0.txt) (by omega) (by omega) (by rw [hdr,au,au]; omega)
    rw [hdr] at h2;have c1:decide (t.s.size+(⟨#[40]⟩:ByteArray).size<=am)=true:=H7 (il (by show t.s.size+1<=_; omega))
    have c2:decide ((t.s++(⟨#[40]⟩:ByteArray)).size+x0.txt.size<=am)=true:=H7 (il (by rw [au]; show t.s.size+1+_<=_; omega))
    have h0:rn ⟨142,0,1⟩ [.str t.s,.int 0,.int t.k,.int t.n,.str t.s,.sl (t.as.map Tm.row)]=some (0,[.str (kt (xr.map Tm.txt) ((t.s++Eo)++x0.txt)),.int t.k,.int t.n,.str t.s,.sl (t.as.map Tm.row)]):=by
     rw [e142_0_1];have r0:rowAt (t.as.map Tm.row) (O1 0)=x0.row:=by rw [hl]; rfl
     have i0:inb 0 t.as.length=true:=Bool.and_eq_true_iff.2 ⟨rfl,H7 (by omega)⟩
     have w0:IntKind.i64.wrap (0+1)=((1:Nat):Int):=rfl;rw [hx0] at h1;simp only [B6,H7 (show (0:Int)<(t.as.length:Int) by omega),H3,H1,r0,i0,w0,Tm.row_eq,nv0,nvS,dvI,dvB,dvS,dvL,B5,c1,h1,c2]
     exact h2
    rw [<- hl];have c3:decide ((kt (xr.map Tm.txt) ((t.s++Eo)++x0.txt)).size+(⟨#[41]⟩:ByteArray).size<=am)=true:=H7 (il (by rw [ik,au,au]; show _+1<=_; omega))
    simp only [H2,h0,nv0,nvS,dvI,dvB,dvS,dvL,B5,E2,H1,H2,B6,H7 (show (0:Int)<(t.as.length:Int) by omega),H1,c3]
    rw [hl,C2];rfl
theorem r77 (t:Tm) (hn:t.nodes<=2097152) (h:Wt t):rn ⟨77,0,0⟩ [.int t.k,.int t.n,.str t.s,.sl (t.as.map Tm.row)]=some (0,[.str (tF t)]):=by
 rw [e77_0_0,r63 t hn h];unfold tF;cases hv:t.valid with
 | false=>simp only [nv0,nvS,dvI,dvB,dvS,dvL,B5,J4,H1,K6,if_false]
 | true =>
  have hv':=hv;unfold Tm.valid at hv';simp only [B7,decide_eq_true_eq] at hv';simp only [nv0,nvS,dvI,dvB,dvS,dvL,B5,D8,H2,if_true,r140 t (aq _ (by omega)) hv'.2.2 hv'.1]
theorem r79 (t:Tm) (hn:t.nodes<=2097152) (h:Wt t):rn ⟨79,0,0⟩ [.int t.k,.int t.n,.str t.s,.sl (t.as.map Tm.row)]=some (0,[.str (tF t)]):=by
 rw [e79_0_0,r70 t hn h];unfold tF;cases hv:t.valid with
 | false=>simp only [nv0,nvS,dvI,dvB,dvS,dvL,B5,J4,H1,K6,if_false]
 | true =>
  have hv':=hv;unfold Tm.valid at hv';simp only [B7,decide_eq_true_eq] at hv';simp only [nv0,nvS,dvI,dvB,dvS,dvL,B5,D8,H2,if_true,r142 t (aq _ (by omega)) hv'.2.2 hv'.1]
theorem Xz (k:Int):rn ⟨67,0,0⟩ [.int k]=some (0,[.bool (decide (1<=k)&&decide (k<=3))]):=by
 rw [e67_0_0];cases decide (1<=k) <;> rfl
theorem Cz (k:Int):(vw k).size<=4:=by unfold vw; (repeat' split) <;> decide
theorem Vo {k:Int} (h0:1<=k) (h1:k<=3):rn ⟨141,0,0⟩ [.int k]=some (0,[.str (vw k)]):=by
 have h:k=1\/k=2\/k=3:=by omega
 rcases h with rfl | rfl | rfl <;> rw [e141_0_0] <;> rfl
theorem r78 (g:Gu) (h:GuB g):rn ⟨78,0,0⟩ g.row=some (0,[.str (gF g)]):=by
 unfold Gu.row;have h1:=r63 g.l (F5 h.ln (by decide)) h.wl
 have h2:=r63 g.r (F5 h.rn (by decide)) h.wr
 have h3:=r77 g.l (F5 h.ln (by decide)) h.wl
 have h4:=r77 g.r (F5 h.rn (by decide)) h.wr
 have z1:=ge g.l;have z2:=ge g.r;have z3:=Cz g.k;rw [e78_0_0,Xz];unfold gF;cases hk:decide (1<=g.k)&&decide (g.k<=3) with
 | false=>simp only [nv0,nvS,dvI,dvB,dvS,dvL,B5,J4,H1,Bool.false_and,K6,if_false]
 | true =>
  simp only [B7,decide_eq_true_eq] at hk;simp only [nv0,nvS,dvI,dvB,dvS,dvL,B5,D8,H2,h1,h2,F6];cases g.l.valid with
  | false=>simp only [J4,H1,Bool.false_and,K6,if_false]
  | true =>
   cases g.r.valid with
   | false=>simp only [D8,J4,H1,H2,R4,K6,if_false]
   | true =>
    have c1:decide ((tF g.l).size+(vw g.k).size<=am)=true:=H7 (il (by omega))
    have c2:decide ((tF g.l++vw g.k).size+(tF g.r).size<=am)=true:=H7 (il (by rw [au]; omega))
    simp only [D8,H2,h3,h4,Vo hk.1 hk.2,nv0,nvS,dvI,dvB,dvS,dvL,B5,c1,c2,H1,Bool.and_self,if_true]
theorem Vp (a b c:Int):rn ⟨41,0,0⟩ [.int a,.int b,.int c]=some (0,[.bool (decide (b<=a)&&decide (a<=c))]):=by
 rw [e41_0_0];cases decide (b<=a) <;> rfl
theorem Vq (k:Int):rn ⟨73,0,0⟩ [.int k]=some (0,[.str (if decide (1<=k)&&decide (k<=3) then vw k else ⟨#[]⟩)]):=by
 rw [e73_0_0,Vp];cases hk:decide (1<=k)&&decide (k<=3) with
 | false=>rfl
 | true =>
  simp only [B7,decide_eq_true_eq] at hk;have h:k=1\/k=2\/k=3:=by omega
  rcases h with rfl | rfl | rfl <;> rfl
theorem Vr (k:Int):vw k≠⟨#[]⟩:=fun e=>by
 have e:=congrArg ByteArray.size e;revert e
 unfold vw; split
 · decide
 · split <;> decide
theorem r80 (g:Gu) (h:GuB g):rn ⟨80,0,0⟩ g.row=some (0,[.str (gF g)]):=by
 unfold Gu.row;have h3:=r79 g.l (F5 h.ln (by decide)) h.wl
 have h4:=r79 g.r (F5 h.rn (by decide)) h.wr
 have h5:=Vq g.k;have z1:=ge g.l;have z2:=ge g.r;have z3:=Cz g.k;rw [e80_0_0];simp only [h3,h4,h5,nv0,nvS,dvI,dvB,dvS,dvL,B5];unfold gF;cases hl:g.l.valid with
 | false =>
  have e:tF g.l=⟨#[]⟩:=by unfold tF; rw [hl]; rfl
  simp only [H7 e,H1,Bool.false_and,R4,K6,if_false]
 | true =>
  simp only [H8 (Wc hl),H2,F6];cases hr:g.r.valid with
  | false =>
   have e:tF g.r=⟨#[]⟩:=by unfold tF; rw [hr]; rfl
   simp only [H7 e,H1,R4,K6,if_false]
  | true =>
   simp only [H8 (Wc hr),H2,Bool.and_true];cases hk:decide (1<=g.k)&&decide (g.k<=3) with
   | false=>simp only [K6,if_false,H3,H1]
   | true =>
    have c1:decide ((tF g.l).size+(vw g.k).size<=am)=true:=H7 (il (by omega))
    have c2:decide ((tF g.l++vw g.k).size+(tF g.r).size<=am)=true:=H7 (il (by rw [au]; omega))
    simp only [if_true,H8 (Vr g.k),H2,c1,c2,H1]
theorem r37 (l r:Tm) (wl:Wt l) (wr:Wt r) (ln:l.nodes<=2097152) (lr:r.nodes<=2097152) (gs:List Gu) (hl:gs.length<=1048576) (hg:∀ g∈gs,GuB g):rn ⟨37,0,0⟩ [.int l.k,.int l.n,.str l.s,.sl (l.as.map Tm.row),.int r.k,.int r.n,.str r.s,.sl (r.as.map Tm.row),.sl (gs.map Gu.row)]=some (0,[.str (sdF l r gs)]):=by
 have h1:=r77 l ln wl;have h2:=r77 r lr wr;have z1:=ge l;have z2:=ge r;have key:∀ n i (acc:ByteArray),i+n=gs.length->acc.size+2004*n<=4294967296->rn ⟨37,0,1⟩ [.str acc,.sl (gs.map Gu.row),.int (gs.length:Int),.int (i:Int)]=some (0,[.str (gsF (gs.drop i) (decide (i=0)) acc)]):=by
  intro n;induction n with
  | zero =>
   intro i acc hi hz;obtain rfl:i=gs.length:=by omega
   rw [e37_0_1];simp only [B6,C0,D7,H4,H2,C9,gsF]
  | succ n ih =>
   intro i acc hi hz;have hlt:i<gs.length:=by omega
   have h3:=r78 gs[i] (hg _ (C1 hlt));have z3:=Ep gs[i];rw [B8 hlt];simp only [gsF];unfold Gu.row at h3;rw [e37_0_1];by_cases h0:i=0
   · have h4:=ih (i+1) ((acc++Jy)++gF gs[i]) (by omega) (by rw [au,au]; have:Jy.size=4:=rfl; omega)
     rw [H8 (show ¬ i+1=0 by omega)] at h4
     have c1:decide (acc.size+(⟨#[32,105,102,32]⟩:ByteArray).size<=am)=true:=H7 (il (by show acc.size+4<=_; omega))
     have c2:decide ((acc++(⟨#[32,105,102,32]⟩:ByteArray)).size+(gF gs[i]).size<=am)=true:=H7 (il (by rw [au]; show acc.size+4+_<=_; omega))
     simp only [B6,C0,hlt,H3,H1,ba,B9,ae hlt,ag hlt (br (by omega)),Gu.row,nv0,nvS,dvI,dvB,dvS,dvL,B5,H7 (show (i:Int)=0 by omega),H7 h0,H1,h3,c1,c2]
     exact h4
   · have h4:=ih (i+1) ((acc++Jz)++gF gs[i]) (by omega) (by rw [au,au]; have:Jz.size=3:=rfl; omega)
     rw [H8 (show ¬ i+1=0 by omega)] at h4
     have c1:decide (acc.size+(⟨#[32,38,32]⟩:ByteArray).size<=am)=true:=H7 (il (by show acc.size+3<=_; omega))
     have c2:decide ((acc++(⟨#[32,38,32]⟩:ByteArray)).size+(gF gs[i]).size<=am)=true:=H7 (il (by rw [au]; show acc.size+3+_<=_; omega))
     simp only [B6,C0,hlt,H3,H1,ba,B9,ae hlt,ag hlt (br (by omega)),Gu.row,nv0,nvS,dvI,dvB,dvS,dvL,B5,H8 (show ¬(i:Int)=0 by omega),H8 h0,H2,H1,h3,c1,c2]
     exact h4
 have h5:=key gs.length 0 ((tF l++Er)++tF r) (E1 _) (by rw [au,au]; have:Er.size=4:=rfl; omega)
 simp only [C6,D5,H3] at h5;have c1:decide ((tF l).size+(⟨#[32,61,62,32]⟩:ByteArray).size<=am)=true:=H7 (il (by show (tF l).size+4<=_; omega))
 have c2:decide ((tF l++(⟨#[32,61,62,32]⟩:ByteArray)).size+(tF r).size<=am)=true:=H7 (il (by rw [au]; show (tF l).size+4+_<=_; omega))
 have h5':rn ⟨37,0,1⟩ [.str ((tF l++(⟨#[32,61,62,32]⟩:ByteArray))++tF r),.sl (gs.map Gu.row),.int (gs.length:Int),.int 0]=_:=h5;rw [e37_0_0];simp only [h1,h2,nv0,nvS,dvI,dvB,dvS,dvL,B5,c1,c2,H1,B6,h5',E2,H1,H2];rfl
def Yz:ByteArray:=⟨#[99,108,97,105,109,32]⟩
theorem r11 (vs:aa) (l r:Tm) (wl:Wt l) (wr:Wt r) (ln:l.nodes<=2097152) (lr:r.nodes<=2097152) (gs:List Gu) (hl:gs.length<=1048576) (hg:∀ g∈gs,GuB g):rn ⟨11,0,0⟩ [.sl vs,.int l.k,.int l.n,.str l.s,.sl (l.as.map Tm.row),.int r.k,.int r.n,.str r.s,.sl (r.as.map Tm.row),.sl (gs.map Gu.row)]=some (0,[.str (Yz++sdF l r gs)]):=by
 have z:=If l r gs;have c1:decide ((⟨#[99,108,97,105,109,32]⟩:ByteArray).size+(sdF l r gs).size<=am)=true:=H7 (il (by show 6+_<=_; omega))
 rw [e11_0_0,r37 l r wl wr ln lr gs hl hg];simp only [nv0,nvS,dvI,dvB,dvS,dvL,B5,c1,H1];rfl
def rp:ByteArray:=(⟨#[114,117,108,101,32]⟩++⟨#[]⟩)++⟨#[58,32]⟩
theorem Ya (l r:Tm) (wl:Wt l) (wr:Wt r) (ln:l.nodes<=2097152) (lr:r.nodes<=2097152) (gs:List Gu) (hl:gs.length<=1048576) (hg:∀ g∈gs,GuB g):rn ⟨38,0,0⟩ [.str ⟨#[]⟩,.int l.k,.int l.n,.str l.s,.sl (l.as.map Tm.row),.int r.k,.int r.n,.str r.s,.sl (r.as.map Tm.row),.sl (gs.map Gu.row)]=some (0,[.str (rp++sdF l r gs)]):=by
 have h1:=r79 l ln wl;have h2:=r79 r lr wr;have z1:=ge l;have z2:=ge r;have key:∀ n i (acc:ByteArray),i+n=gs.length->acc.size+2004*n<=4294967296->rn ⟨38,0,1⟩ [.str acc,.int (i:Int),.str ⟨#[]⟩,.int l.k,.int l.n,.str l.s,.sl (l.as.map Tm.row),.int r.k,.int r.n,.str r.s,.sl (r.as.map Tm.row),.sl (gs.map Gu.row)]=some (0,[.str (gsF (gs.drop i) (decide (i=0)) acc)]):=by
  intro n;induction n with
  | zero =>
   intro i acc hi hz;obtain rfl:i=gs.length:=by omega
   rw [e38_0_1];simp only [B6,C0,D7,H4,H2,C9,gsF]
  | succ n ih =>
   intro i acc hi hz;have hlt:i<gs.length:=by omega
   have h3:=r80 gs[i] (hg _ (C1 hlt));have z3:=Ep gs[i];rw [B8 hlt];simp only [gsF];unfold Gu.row at h3;rw [e38_0_1];by_cases h0:i=0
   · have h4:=ih (i+1) ((acc++Jy)++gF gs[i]) (by omega) (by rw [au,au]; have:Jy.size=4:=rfl; omega)
     rw [H8 (show ¬ i+1=0 by omega)] at h4
     have c1:decide (acc.size+(⟨#[32,105,102,32]⟩:ByteArray).size<=am)=true:=H7 (il (by show acc.size+4<=_; omega))
     have c2:decide ((acc++(⟨#[32,105,102,32]⟩:ByteArray)).size+(gF gs[i]).size<=am)=true:=H7 (il (by rw [au]; show acc.size+4+_<=_; omega))
     simp only [B6,C0,hlt,H3,H1,ba,B9,ae hlt,ag hlt (br (by omega)),Gu.row,nv0,nvS,dvI,dvB,dvS,dvL,B5,H7 (show (i:Int)=0 by omega),H7 h0,H1,h3,c1,c2]
     exact h4
   · have h4:=ih (i+1) ((acc++Jz)++gF gs[i]) (by omega) (by rw [au,au]; have:Jz.size=3:=rfl; omega)
     rw [H8 (show ¬ i+1=0 by omega)] at h4
     have c1:decide (acc.size+(⟨#[32,38,32]⟩:ByteArray).size<=am)=true:=H7 (il (by show acc.size+3<=_; omega))
     have c2:decide ((acc++(⟨#[32,38,32]⟩:ByteArray)).size+(gF gs[i]).size<=am)=true:=H7 (il (by rw [au]; show acc.size+3+_<=_; omega))
     simp only [B6,C0,hlt,H3,H1,ba,B9,ae hlt,ag hlt (br (by omega)),Gu.row,nv0,nvS,dvI,dvB,dvS,dvL,B5,H8 (show ¬(i:Int)=0 by omega),H8 h0,H2,H1,h3,c1,c2]
     exact h4
 have hr:rp.size=7:=rfl;have h5:=key gs.length 0 (((rp++tF l)++Er)++tF r) (E1 _) (by simp only [au,hr]; have:Er.size=4:=rfl; omega)
 simp only [C6,D5,H3] at h5;have e:((rp++tF l)++Er)++tF r=rp++((tF l++Er)++tF r):=by simp only [ByteArray.append_assoc]
 have h5':rn ⟨38,0,1⟩ [.str (((rp++tF l)++(⟨#[32,61,62,32]⟩:ByteArray))++tF r),.int 0,.str ⟨#[]⟩,.int l.k,.int l.n,.str l.s,.sl (l.as.map Tm.row),.int r.k,.int r.n,.str r.s,.sl (r.as.map Tm.row),.sl (gs.map Gu.row)]=some (0,[.str (rp++sdF l r gs)]):=by
  have h6:=h5;rw [e,Lq,<- e] at h6;exact h6
 have er:((⟨#[114,117,108,101,32]⟩:ByteArray)++⟨#[]⟩)++⟨#[58,32]⟩=rp:=rfl;have c1:decide ((⟨#[114,117,108,101,32]⟩:ByteArray).size+(⟨#[]⟩:ByteArray).size<=am)=true:=rfl;have c2:decide (((⟨#[114,117,108,101,32]⟩:ByteArray)++(⟨#[]⟩:ByteArray)).size+(⟨#[58,32]⟩:ByteArray).size<=am)=true:=rfl;have c3:decide (rp.size+(tF l).size<=am)=true:=H7 (il (by omega))
 have c4:decide ((rp++tF l).size+(⟨#[32,61,62,32]⟩:ByteArray).size<=am)=true:=H7 (il (by rw [au,hr]; show 7+_+4<=_; omega))
 have c5:decide (((rp++tF l)++(⟨#[32,61,62,32]⟩:ByteArray)).size+(tF r).size<=am)=true:=H7 (il (by rw [au,au,hr]; show 7+_+4+_<=_; omega))
 rw [e38_0_0,c1,c2];simp only [h1,h2,nv0,nvS,dvI,dvB,dvS,dvL,B5,H1,er,c3,c4,c5,h5',E2,H1,H2]
theorem r12 (vs:aa) (l r:Tm) (wl:Wt l) (wr:Wt r) (ln:l.nodes<=2097152) (lr:r.nodes<=2097152) (gs:List Gu) (hl:gs.length<=1048576) (hg:∀ g∈gs,GuB g):rn ⟨12,0,0⟩ [.sl vs,.int l.k,.int l.n,.str l.s,.sl (l.as.map Tm.row),.int r.k,.int r.n,.str r.s,.sl (r.as.map Tm.row),.sl (gs.map Gu.row)]=some (0,[.str (Yz++sdF l r gs)]):=by
 have z:=If l r gs;have hr:rp.size=7:=rfl;have hx:(rp++sdF l r gs).extract (O1 7) (O1 (((rp++sdF l r gs).size:Nat):Int))=sdF l r gs:=by
  rw [B9]; exact Us _ _ rfl rfl
 have c0:decide ((0:Int)<=7)=true:=rfl;have c1:decide ((7:Int)<=(((rp++sdF l r gs).size:Nat):Int))=true:=H7 (by rw [au,hr]; omega)
 have c2:decide ((⟨#[99,108,97,105,109,32]⟩:ByteArray).size+(sdF l r gs).size<=am)=true:=H7 (il (by show 6+_<=_; omega))
 rw [e12_0_0,Ya l r wl wr ln lr gs hl hg];simp only [nv0,nvS,dvI,dvB,dvS,dvL,B5,c0,c1,Int.le_refl,H3,Bool.and_self,H1,hx,c2];rfl
end Go.Q.S
end
section
namespace Go.Proofs
open Go.Shelf
def Tryz.lays190_ren:Go.Shelf.Ren:=⟨fun | 190=>174 | 125=>201 | 258=>200 | 128=>226 | 129=>227 | 302=>217 | 303=>218 | 304=>219 | 305=>220 | 306=>221 | 307=>222 | 308=>223 | 309=>224 | 310=>225 | 333=>238 | 329=>239 | 330=>240 | 334=>241 | 335=>242 | 336=>243 | 344=>248 | n=>n,fun | 31=>24 | 9=>9 | 3=>3 | 46=>175 | 0=>0 | 51=>216 | 53=>218 | 4=>4 | 183=>209 | 182=>208 | 131=>40 | 5=>5 | 218=>236 | 222=>240 | 228=>248 | 229=>249 | n=>n,fun | n=>n⟩
theorem Tryz.lays190:Go.Proofs.Lays.n190 Tryz.prog Tryz.lays190_ren:={
 mixed:=by kernel_rfl
 f125:=Tryz.func201.trans (congrArg some (by kernel_rfl))
 f128:=Tryz.func226.trans (congrArg some (by kernel_rfl))
 f129:=Tryz.func227.trans (congrArg some (by kernel_rfl))
 f190:=Tryz.func174.trans (congrArg some (by kernel_rfl))
 f258:=Tryz.func200.trans (congrArg some (by kernel_rfl))
 f302:=Tryz.func217.trans (congrArg some (by kernel_rfl))
 f303:=Tryz.func218.trans (congrArg some (by kernel_rfl))
 f304:=Tryz.func219.trans (congrArg some (by kernel_rfl))
 f305:=Tryz.func220.trans (congrArg some (by kernel_rfl))
 f306:=Tryz.func221.trans (congrArg some (by kernel_rfl))
 f307:=Tryz.func222.trans (congrArg some (by kernel_rfl))
 f308:=Tryz.func223.trans (congrArg some (by kernel_rfl))
 f309:=Tryz.func224.trans (congrArg some (by kernel_rfl))
 f310:=Tryz.func225.trans (congrArg some (by kernel_rfl))
 f329:=Tryz.func239.trans (congrArg some (by kernel_rfl))
 f330:=Tryz.func240.trans (congrArg some (by kernel_rfl))
 f333:=Tryz.func238.trans (congrArg some (by kernel_rfl))
 f334:=Tryz.func241.trans (congrArg some (by kernel_rfl))
 f335:=Tryz.func242.trans (congrArg some (by kernel_rfl))
 f336:=Tryz.func243.trans (congrArg some (by kernel_rfl))
 f344:=Tryz.func248.trans (congrArg some (by kernel_rfl))
 t0:=Tryz.underlying0
 a0:=Tryz.isAgg0
 z0:=Tryz.sizeOf0
 v0:=Tryz.zeroValue0
 t3:=Tryz.underlying3
 a3:=Tryz.isAgg3
 z3:=Tryz.sizeOf3
 v3:=Tryz.zeroValue3
 t4:=Tryz.underlying4
 a4:=Tryz.isAgg4
 z4:=Tryz.sizeOf4
 v4:=Tryz.zeroValue4
 t5:=Tryz.underlying5
 a5:=Tryz.isAgg5
 z5:=Tryz.sizeOf5
 v5:=Tryz.zeroValue5
 t9:=Tryz.underlying9
 a9:=Tryz.isAgg9
 z9:=Tryz.sizeOf9
 v9:=Tryz.zeroValue9
 t31:=Tryz.underlying24
 a31:=Tryz.isAgg24
 z31:=Tryz.sizeOf24
 v31:=Tryz.zeroValue24
 t46:=Tryz.underlying175
 a46:=Tryz.isAgg175
 z46:=Tryz.sizeOf175
 v46:=Tryz.zeroValue175
 t51:=Tryz.underlying216
 a51:=Tryz.isAgg216
 z51:=Tryz.sizeOf216
 v51:=Tryz.zeroValue216
 t53:=Tryz.underlying218
 a53:=Tryz.isAgg218
 z53:=Tryz.sizeOf218
 v53:=Tryz.zeroValue218
 t131:=Tryz.underlying40
 a131:=Tryz.isAgg40
 z131:=Tryz.sizeOf40
 v131:=Tryz.zeroValue40
 t182:=Tryz.underlying208
 a182:=Tryz.isAgg208
 z182:=Tryz.sizeOf208
 v182:=Tryz.zeroValue208
 t183:=Tryz.underlying209
 a183:=Tryz.isAgg209
 z183:=Tryz.sizeOf209
 v183:=Tryz.zeroValue209
 t218:=Tryz.underlying236
 a218:=Tryz.isAgg236
 z218:=Tryz.sizeOf236
 v218:=Tryz.zeroValue236
 t222:=Tryz.underlying240
 a222:=Tryz.isAgg240
 z222:=Tryz.sizeOf240
 v222:=Tryz.zeroValue240
 t228:=Tryz.underlying248
 a228:=Tryz.isAgg248
 z228:=Tryz.sizeOf248
 v228:=Tryz.zeroValue248
 t229:=Tryz.underlying249
 a229:=Tryz.isAgg249
 z229:=Tryz.sizeOf249
 v229:=Tryz.zeroValue249 }
def Tryz.lays194_ren:Go.Shelf.Ren:=⟨fun | 194=>175 | n=>n,fun | 31=>24 | 9=>9 | 3=>3 | 4=>4 | 0=>0 | n=>n,fun | n=>n⟩
theorem Tryz.lays194:Go.Proofs.Lays.n194 Tryz.prog Tryz.lays194_ren:={
 mixed:=by kernel_rfl
 f194:=Tryz.func175.trans (congrArg some (by kernel_rfl))
 t0:=Tryz.underlying0
 a0:=Tryz.isAgg0
 z0:=Tryz.sizeOf0
 v0:=Tryz.zeroValue0
 t3:=Tryz.underlying3
 a3:=Tryz.isAgg3
 z3:=Tryz.sizeOf3
 v3:=Tryz.zeroValue3
 t4:=Tryz.underlying4
 a4:=Tryz.isAgg4
 z4:=Tryz.sizeOf4
 v4:=Tryz.zeroValue4
 t9:=Tryz.underlying9
 a9:=Tryz.isAgg9
 z9:=Tryz.sizeOf9
 v9:=Tryz.zeroValue9
 t31:=Tryz.underlying24
 a31:=Tryz.isAgg24
 z31:=Tryz.sizeOf24
 v31:=Tryz.zeroValue24 }
def Tryz.lays171_ren:Go.Shelf.Ren:=⟨fun | 171=>206 | 243=>228 | 246=>244 | 283=>249 | 284=>250 | 285=>251 | 286=>252 | 129=>227 | 317=>256 | 318=>257 | 319=>258 | 320=>259 | 337=>260 | 338=>261 | n=>n,fun | 3=>3 | 9=>9 | 2=>2 | 4=>4 | 171=>251 | 0=>0 | 53=>218 | 37=>22 | 5=>5 | 173=>253 | 212=>260 | 51=>216 | 20=>20 | 213=>261 | 46=>175 | 232=>262 | 233=>263 | n=>n,fun | 17=>0 | 18=>2 | 19=>3 | n=>n⟩
theorem Tryz.lays171:Go.Proofs.Lays.n171 Tryz.prog Tryz.lays171_ren:={
 mixed:=by kernel_rfl
 f129:=Tryz.func227.trans (congrArg some (by kernel_rfl))
 f171:=Tryz.func206.trans (congrArg some (by kernel_rfl))
 f243:=Tryz.func228.trans (congrArg some (by kernel_rfl))
 f246:=Tryz.func244.trans (congrArg some (by kernel_rfl))
 f283:=Tryz.func249.trans (congrArg some (by kernel_rfl))
 f284:=Tryz.func250.trans (congrArg some (by kernel_rfl))
 f285:=Tryz.func251.trans (congrArg some (by kernel_rfl))
 f286:=Tryz.func252.trans (congrArg some (by kernel_rfl))
 f317:=Tryz.func256.trans (congrArg some (by kernel_rfl))
 f318:=Tryz.func257.trans (congrArg some (by kernel_rfl))
 f319:=Tryz.func258.trans (congrArg some (by kernel_rfl))
 f320:=Tryz.func259.trans (congrArg some (by kernel_rfl))
 f337:=Tryz.func260.trans (congrArg some (by kernel_rfl))
 f338:=Tryz.func261.trans (congrArg some (by kernel_rfl))
 t0:=Tryz.underlying0
 a0:=Tryz.isAgg0
 z0:=Tryz.sizeOf0
 v0:=Tryz.zeroValue0
 t2:=Tryz.underlying2
 a2:=Tryz.isAgg2
 z2:=Tryz.sizeOf2
 v2:=Tryz.zeroValue2
 t3:=Tryz.underlying3
 a3:=Tryz.isAgg3
 z3:=Tryz.sizeOf3
 v3:=Tryz.zeroValue3
 t4:=Tryz.underlying4
 a4:=Tryz.isAgg4
 z4:=Tryz.sizeOf4
 v4:=Tryz.zeroValue4
 t5:=Tryz.underlying5
 a5:=Tryz.isAgg5
 z5:=Tryz.sizeOf5
 v5:=Tryz.zeroValue5
 t9:=Tryz.underlying9
 a9:=Tryz.isAgg9
 z9:=Tryz.sizeOf9
 v9:=Tryz.zeroValue9
 t20:=Tryz.underlying20
 a20:=Tryz.isAgg20
 z20:=Tryz.sizeOf20
 v20:=Tryz.zeroValue20
 t37:=Tryz.underlying22
 a37:=Tryz.isAgg22
 z37:=Tryz.sizeOf22
 v37:=Tryz.zeroValue22
 t46:=Tryz.underlying175
 a46:=Tryz.isAgg175
 z46:=Tryz.sizeOf175
 v46:=Tryz.zeroValue175
 t51:=Tryz.underlying216
 a51:=Tryz.isAgg216
 z51:=Tryz.sizeOf216
 v51:=Tryz.zeroValue216
 t53:=Tryz.underlying218
 a53:=Tryz.isAgg218
 z53:=Tryz.sizeOf218
 v53:=Tryz.zeroValue218
 t171:=Tryz.underlying251
 a171:=Tryz.isAgg251
 z171:=Tryz.sizeOf251
 v171:=Tryz.zeroValue251
 t173:=Tryz.underlying253
 a173:=Tryz.isAgg253
 z173:=Tryz.sizeOf253
 v173:=Tryz.zeroValue253
 t212:=Tryz.underlying260
 a212:=Tryz.isAgg260
 z212:=Tryz.sizeOf260
 v212:=Tryz.zeroValue260
 t213:=Tryz.underlying261
 a213:=Tryz.isAgg261
 z213:=Tryz.sizeOf261
 t232:=Tryz.underlying262
 a232:=Tryz.isAgg262
 z232:=Tryz.sizeOf262
 v232:=Tryz.zeroValue262
 t233:=Tryz.underlying263
 a233:=Tryz.isAgg263
 z233:=Tryz.sizeOf263
 v233:=Tryz.zeroValue263
 g17:=by kernel_rfl
 g18:=by kernel_rfl
 g19:=by kernel_rfl }
def Tryz.lays156_ren:Go.Shelf.Ren:=⟨fun | 156=>207 | 165=>229 | 166=>230 | 169=>231 | 240=>245 | 241=>246 | 276=>253 | 277=>254 | n=>n,fun | 31=>24 | 9=>9 | 3=>3 | 4=>4 | 0=>0 | 20=>20 | 72=>221 | 76=>225 | 70=>219 | 37=>22 | 75=>224 | 127=>243 | 164=>255 | 5=>5 | 80=>227 | n=>n,fun | n=>n⟩
theorem Tryz.lays156:Go.Proofs.Lays.n156 Tryz.prog Tryz.lays156_ren:={
 mixed:=by kernel_rfl
 f156:=Tryz.func207.trans (congrArg some (by kernel_rfl))
 f165:=Tryz.func229.trans (congrArg some (by kernel_rfl))
 f166:=Tryz.func230.trans (congrArg some (by kernel_rfl))
 f169:=Tryz.func231.trans (congrArg some (by kernel_rfl))
 f240:=Tryz.func245.trans (congrArg some (by kernel_rfl))
 f241:=Tryz.func246.trans (congrArg some (by kernel_rfl))
 f276:=Tryz.func253.trans (congrArg some (by kernel_rfl))
 f277:=Tryz.func254.trans (congrArg some (by kernel_rfl))
 t0:=Tryz.underlying0
 a0:=Tryz.isAgg0
 z0:=Tryz.sizeOf0
 v0:=Tryz.zeroValue0
 t3:=Tryz.underlying3
 a3:=Tryz.isAgg3
 z3:=Tryz.sizeOf3
 v3:=Tryz.zeroValue3
 t4:=Tryz.underlying4
 a4:=Tryz.isAgg4
 z4:=Tryz.sizeOf4
 v4:=Tryz.zeroValue4
 t9:=Tryz.underlying9
 a9:=Tryz.isAgg9
 z9:=Tryz.sizeOf9
 v9:=Tryz.zeroValue9
 t20:=Tryz.underlying20
 a20:=Tryz.isAgg20
 z20:=Tryz.sizeOf20
 v20:=Tryz.zeroValue20
 t31:=Tryz.underlying24
 a31:=Tryz.isAgg24
 z31:=Tryz.sizeOf24
 v31:=Tryz.zeroValue24
 t37:=Tryz.underlying22
 a37:=Tryz.isAgg22
 z37:=Tryz.sizeOf22
 v37:=Tryz.zeroValue22
 t70:=Tryz.underlying219
 a70:=Tryz.isAgg219
 z70:=Tryz.sizeOf219
 v70:=Tryz.zeroValue219
 t72:=Tryz.underlying221
 a72:=Tryz.isAgg221
 z72:=Tryz.sizeOf221
 v72:=Tryz.zeroValue221
 t75:=Tryz.underlying224
 a75:=Tryz.isAgg224
 z75:=Tryz.sizeOf224
 v75:=Tryz.zeroValue224
 t76:=Tryz.underlying225
 a76:=Tryz.isAgg225
 z76:=Tryz.sizeOf225
 v76:=Tryz.zeroValue225
 t127:=Tryz.underlying243
 a127:=Tryz.isAgg243
 z127:=Tryz.sizeOf243
 v127:=Tryz.zeroValue243
 t164:=Tryz.underlying255
 a164:=Tryz.isAgg255
 z164:=Tryz.sizeOf255
 v164:=Tryz.zeroValue255 }
theorem Tryz.Builder_Extra_156:Builder.Extra Tryz.prog Tryz.lays156_ren:={
 sizeBuilder:=by kernel_rfl
 liesBuilder:=by kernel_rfl
 t5:=Tryz.underlying5
 a5:=Tryz.isAgg5
 z5:=Tryz.sizeOf5
 v5:=Tryz.zeroValue5
 infoByte:=by kernel_rfl
 cellsByte:=by kernel_rfl
 sizeByte:=by kernel_rfl
 neB5:=by decide }
end Go.Proofs
namespace Go.Q.S
open Go Go.Q Go.Proofs
theorem tz:∀ {l:List (Nat×Nat×KI)} {v n:Nat} {i:KI},kiF l v n=some i->∃ a b,(a,b,i)∈l
 | [],v,n,i,h=>by simp [kiF] at h
 | (a,b,x)::r,v,n,i,h=>by
  unfold kiF at h;cases hb:E5 a v&&E5 b n with
  | true=>rw [hb] at h; simp only [H1,C7.injEq] at h; exact ⟨a,b,by rw [h]; exact List.mem_cons_self ..⟩
  | false =>
   rw [hb] at h;obtain ⟨a',b',h'⟩:=tz h;exact ⟨a',b',List.mem_cons_of_mem _ h'⟩
theorem Yb:∀ f g,H.ext f=some g->∀ v ls x,g v ls=some x->FnT Tryz.prog H ⟨f,v,0⟩ ls x:=fun f g h v ls x hx=>by
 have h:ar Xt f=some g:=h;simp only [Xt,ar] at h;cases h1:E5 174 f with
 | true =>
  rw [h1] at h;simp only [H1,C7.injEq] at h;subst h;obtain rfl:=bq.1 h1;refine Ps Go.Proofs.Tryz.lays190 rfl (E:=9) (fl:=[]) rfl Tryz.func174 (fun he=>by cases he) (of_decide_eq_false (by kernel_rfl)) (fun i hi=>?_) hx
  obtain ⟨a,b,hm⟩:=tz (l:=[(0,0,⟨[(0,.hd 0)],[(0,.arr 9 .deep)],[⟨.ret,[],[(0,.arr 9 .deep)]⟩]⟩)]) hi;simp only [D4,K9,or_false,Prod.mk.injEq] at hm;exact hm.2.2
 | false =>
 rw [h1] at h;simp only [H2] at h;cases h1:E5 175 f with
 | true =>
  rw [h1] at h;simp only [H1,C7.injEq] at h;subst h;obtain rfl:=bq.1 h1;refine Pt Go.Proofs.Tryz.lays194 rfl (E:=9) (fl:=[]) rfl Tryz.func175 (fun he=>by cases he) (of_decide_eq_false (by kernel_rfl)) (fun i hi=>?_) hx
  obtain ⟨a,b,hm⟩:=tz (l:=[(0,0,⟨[(0,.hd 0)],[(0,.arr 9 .deep)],[⟨.ret,[(0,.hd 16)],[(16,.arr 9 .deep)]⟩]⟩)]) hi;simp only [D4,K9,or_false,Prod.mk.injEq] at hm;exact hm.2.2
 | false =>
 rw [h1] at h;simp only [H2] at h;cases h1:E5 206 f with
 | true =>
  rw [h1] at h;simp only [H1,C7.injEq] at h;subst h;obtain rfl:=bq.1 h1;refine Mq Go.Proofs.Tryz.lays171 rfl Tryz.func206 (fun he=>by cases he) (of_decide_eq_false (by kernel_rfl)) (fun i hi=>?_) hx
  obtain ⟨a,b,hm⟩:=tz (l:=[(0,0,⟨[(0,.int .i64)],[],[⟨.ret,[(0,.str)],[]⟩]⟩)]) hi;simp only [D4,K9,or_false,Prod.mk.injEq] at hm;exact hm.2.2
 | false =>
 rw [h1] at h;simp only [H2] at h;cases h1:E5 207 f with
 | true =>
  rw [h1] at h;simp only [H1,C7.injEq] at h;subst h;obtain rfl:=bq.1 h1;refine Pu Go.Proofs.Tryz.lays156 Go.Proofs.Tryz.Builder_Extra_156 rfl (E:=9) (fl:=[]) rfl Tryz.func207 (fun he=>by cases he) (of_decide_eq_false (by kernel_rfl)) (fun i hi=>?_) hx
  obtain ⟨a,b,hm⟩:=tz (l:=[(0,0,⟨[(0,.im 9),(1,.str)],[],[⟨.ret,[(0,.str)],[]⟩]⟩)]) hi;simp only [D4,K9,or_false,Prod.mk.injEq] at hm;exact hm.2.2
 | false =>
 rw [h1] at h;simp only [H2] at h;simp at h
theorem Za:Ty Tryz.prog H where
 ty:=Ua (l:=tyL) (fun _=>rfl) (by kernel_rfl)
 eq:=Ub (l:=eqL) (fun _=>rfl) (by kernel_rfl)
 mixed:=Tryz.checked.mixed
 names:=Pr (by kernel_rfl)
 ext:=Yb
end Go.Q.S
end
