/- The functions of this seat, as that machine runs them, part 1. -/
import Derived.Test.YtgjeildmnmfofaaGreatDoorfeX
import Derived.Test.YtgjeildmnmfofaaGreatDoorMA
import Derived.Test.YtgjeildmnmfofaaGreatDoorQD
import Derived.Test.YtgjeildmnmfofaaGreatDoorChecked
set_option linter.unusedVariables false
set_option linter.unusedSimpArgs false
open List renaming mem_cons_self->B5,mem_cons_of_mem->B6,mem_cons->C1,not_mem_nil->J4
open Nat renaming beq->C2
open Option renaming some->B7
section
namespace Go.Q.S
open Go Go.Q Go.Proofs
open Go.Q.D renaming int->i,sl->s,str->t,bool->b
open Go.Q renaming nth->g,rowAt->p
open Int renaming toNat->z
open Go.IntKind renaming wrap->w
open Decidable renaming decide->d
open Nat renaming beq->q,ble->l
open _root_.ByteArray renaming mk->m
noncomputable section
abbrev CF:=Key->List D->R
abbrev EV:=(c:CF)->OkC H Tryz.prog c->En H Tryz.prog
def Nf:EV:=fun c hc=>⟨⟨3,0,0⟩,pI fun x0=>pE ((c ⟨6,0,0⟩ [i x0]).bind fun r1=>(c ⟨7,0,0⟩ [i x0]).bind fun r2=>(c ⟨8,0,0⟩ [i (g r2.2 0).I,s (g r2.2 8).L,i (g r2.2 1).I,i (g r2.2 2).I,t (g r2.2 3).S,s (g r2.2 9).L,i (g r2.2 4).I,i (g r2.2 5).I,t (g r2.2 6).S,s (g r2.2 10).L,s (g r2.2 11).L,i (g r1.2 0).I,s (g r1.2 8).L,i (g r1.2 1).I,i (g r1.2 2).I,t (g r1.2 3).S,s (g r1.2 9).L,i (g r1.2 4).I,i (g r1.2 5).I,t (g r1.2 6).S,s (g r1.2 10).L,s (g r1.2 11).L]).bind fun r3=>bif !(g r3.2 0).B then some (0,[b false]) else bif !((g r2.2 7).B==(g r1.2 7).B) then some (0,[b false]) else (c ⟨9,1,0⟩ [i (g r2.2 0).I,i (g r2.2 1).I,i (g r2.2 2).I,t (g r2.2 3).S,i (g r2.2 4).I,i (g r2.2 5).I,t (g r2.2 6).S,i 1,s (g r2.2 8).L,s (g r2.2 9).L,s (g r2.2 10).L,s (g r2.2 11).L]).bind fun r4=>(c ⟨10,0,0⟩ [i (g r2.2 0).I,s (g r4.2 1).L,i (g r2.2 1).I,i (g r2.2 2).I,t (g r2.2 3).S,s (g r4.2 2).L,i (g r2.2 4).I,i (g r2.2 5).I,t (g r2.2 6).S,s (g r4.2 3).L,s (g r4.2 4).L,i 1]).bind fun r5=>bif d (((g r5.2 0).I:Int)<0) then some (0,[b false]) else bif !d (((g r5.2 0).I:Int)=(g r4.2 0).I) then some (0,[b false]) else (c ⟨7,0,0⟩ [i x0]).bind fun r6=>(c ⟨8,0,0⟩ [i (g r6.2 0).I,s (g r6.2 8).L,i (g r6.2 1).I,i (g r6.2 2).I,t (g r6.2 3).S,s (g r6.2 9).L,i (g r6.2 4).I,i (g r6.2 5).I,t (g r6.2 6).S,s (g r6.2 10).L,s (g r6.2 11).L,i (g r1.2 0).I,s (g r1.2 8).L,i (g r1.2 1).I,i (g r1.2 2).I,t (g r1.2 3).S,s (g r1.2 9).L,i (g r1.2 4).I,i (g r1.2 5).I,t (g r1.2 6).S,s (g r1.2 10).L,s (g r1.2 11).L]).bind fun r7=>bif !(g r7.2 0).B then some (0,[b false]) else bif !((g r6.2 7).B==(g r1.2 7).B) then some (0,[b false]) else (c ⟨10,0,0⟩ [i (g r2.2 0).I,s (g r4.2 1).L,i (g r2.2 1).I,i (g r2.2 2).I,t (g r2.2 3).S,s (g r4.2 2).L,i (g r2.2 4).I,i (g r2.2 5).I,t (g r2.2 6).S,s (g r4.2 3).L,s (g r4.2 4).L,i 1]).bind fun r8=>bif d (((g r8.2 0).I:Int)<0) then some (0,[b false]) else bif !d (((g r8.2 0).I:Int)=(g r4.2 0).I) then some (0,[b false]) else some (0,[b true])),Sd.en hc (.I fun _=>.E (by kernel_rfl))⟩
def Ng:EV:=fun c hc=>⟨⟨6,0,0⟩,pI fun x0=>pE ((c ⟨24,0,0⟩ [i x0,i 1,i 5]).bind fun r1=>bif !(g r1.2 0).B then some (0,[i 0,i 0,i 0,t (m #[]),i 0,i 0,t (m #[]),b false,s [],s [],s [],s []]) else (c ⟨25,0,0⟩ [i x0]).bind fun r2=>(c ⟨26,0,0⟩ [s ([[t (m #[78])],[t (m #[77])]]:ak),t (g r2.2 1).S]).bind fun r3=>some (0,[i (g r2.2 0).I,i (g r3.2 0).I,i (g r3.2 1).I,t (g r3.2 2).S,i (g r3.2 3).I,i (g r3.2 4).I,t (g r3.2 5).S,b (g r3.2 6).B,s (g r3.2 7).L,s (g r3.2 8).L,s (g r3.2 9).L,s (g r3.2 10).L])),Sd.en hc (.I fun _=>.E (by kernel_rfl))⟩
def Nh:EV:=fun c hc=>⟨⟨7,0,0⟩,pI fun x0=>pE ((c ⟨27,0,0⟩ [i x0]).bind fun r1=>(c ⟨28,0,0⟩ [t (g r1.2 1).S]).bind fun r2=>bif !(g r2.2 6).B then some (0,[i 0,i 0,i 0,t (m #[]),i 0,i 0,t (m #[]),b false,s [],s [],s [],s []]) else some (0,[i (g r1.2 0).I,i (g r2.2 0).I,i (g r2.2 1).I,t (g r2.2 2).S,i (g r2.2 3).I,i (g r2.2 4).I,t (g r2.2 5).S,b true,s (g r2.2 7).L,s (g r2.2 8).L,s (g r2.2 9).L,s (g r2.2 10).L])),Sd.en hc (.I fun _=>.E (by kernel_rfl))⟩
def Ni:EV:=fun c hc=>⟨⟨8,0,0⟩,pI fun x0=>pL fun x1=>pI fun x2=>pI fun x3=>pS fun x4=>pL fun x5=>pI fun x6=>pI fun x7=>pS fun x8=>pL fun x9=>pL fun x10=>pI fun x11=>pL fun x12=>pI fun x13=>pI fun x14=>pS fun x15=>pL fun x16=>pI fun x17=>pI fun x18=>pS fun x19=>pL fun x20=>pL fun x21=>pE (bif !d (x0=x11) then some (0,[b false]) else (c ⟨29,0,0⟩ [s x1,i x2,i x3,t x4,s x5,i x6,i x7,t x8,s x9,s x10,s x12,i x13,i x14,t x15,s x16,i x17,i x18,t x19,s x20,s x21]).bind fun r1=>bif !(g r1.2 0).B then some (0,[b false]) else some (0,[b true])),Sd.en hc (.I fun _=>.L fun _=>.I fun _=>.I fun _=>.S fun _=>.L fun _=>.I fun _=>.I fun _=>.S fun _=>.L fun _=>.L fun _=>.I fun _=>.L fun _=>.I fun _=>.I fun _=>.S fun _=>.L fun _=>.I fun _=>.I fun _=>.S fun _=>.L fun _=>.L fun _=>.E (by kernel_rfl))⟩
def Nj:EV:=fun c hc=>⟨⟨9,1,0⟩,pI fun x0=>pI fun x1=>pI fun x2=>pS fun x3=>pI fun x4=>pI fun x5=>pS fun x6=>pI fun x7=>pL fun x8=>pL fun x9=>pL fun x10=>pL fun x11=>pE ((c ⟨30,1,0⟩ [i x1,i x2,t x3,i x4,i x5,t x6,i x7,s x8,s x9,s x10,s x11]).bind fun r1=>some (0,[i (g r1.2 0).I,s (g r1.2 1).L,s (g r1.2 2).L,s (g r1.2 3).L,s (g r1.2 4).L])),Sd.en hc (.I fun _=>.I fun _=>.I fun _=>.S fun _=>.I fun _=>.I fun _=>.S fun _=>.I fun _=>.L fun _=>.L fun _=>.L fun _=>.L fun _=>.E (by kernel_rfl))⟩
def Je:EV:=fun c hc=>⟨⟨10,0,0⟩,pI fun x0=>pL fun x1=>pI fun x2=>pI fun x3=>pS fun x4=>pL fun x5=>pI fun x6=>pI fun x7=>pS fun x8=>pL fun x9=>pL fun x10=>pI fun x11=>pE ((c ⟨31,0,0⟩ [s x1,i x2,i x3,t x4,s x5,i x6,i x7,t x8,s x9,s x10,i x11]).bind fun r1=>bif d (((g r1.2 0).I:Int)<0) then some (0,[i (-1)]) else some (0,[i (g r1.2 0).I])),Sd.en hc (.I fun _=>.L fun _=>.I fun _=>.I fun _=>.S fun _=>.L fun _=>.I fun _=>.I fun _=>.S fun _=>.L fun _=>.L fun _=>.I fun _=>.E (by kernel_rfl))⟩
def Jf:EV:=fun c hc=>⟨⟨15,0,0⟩,pI fun x0=>pI fun x1=>pS fun x2=>pL fun x3=>pI fun x4=>pI fun x5=>pS fun x6=>pL fun x7=>pE (bif !d (x0=x4) then some (0,[b false]) else bif !d (x1=x5) then some (0,[b false]) else bif !d (x2=x6) then some (0,[b false]) else (c ⟨40,0,0⟩ [s x3,s x7]).bind fun r1=>bif !(g r1.2 0).B then some (0,[b false]) else some (0,[b true])),Sd.en hc (.I fun _=>.I fun _=>.S fun _=>.L fun _=>.I fun _=>.I fun _=>.S fun _=>.L fun _=>.E (by kernel_rfl))⟩
def Jg:EV:=fun c hc=>⟨⟨16,1,0⟩,pI fun x0=>pI fun x1=>pS fun x2=>pI fun x3=>pL fun x4=>pE ((c ⟨41,1,0⟩ [i x3,s x4]).bind fun r1=>some (0,[i (g r1.2 0).I,s (g r1.2 1).L])),Sd.en hc (.I fun _=>.I fun _=>.S fun _=>.I fun _=>.L fun _=>.E (by kernel_rfl))⟩
def Jh:EV:=fun c hc=>⟨⟨17,0,0⟩,pI fun x0=>pI fun x1=>pS fun x2=>pL fun x3=>pI fun x4=>pE ((c ⟨42,0,0⟩ [s x3,i x4]).bind fun r1=>bif d (((g r1.2 0).I:Int)<0) then some (0,[i (-1)]) else some (0,[i (g r1.2 0).I])),Sd.en hc (.I fun _=>.I fun _=>.S fun _=>.L fun _=>.I fun _=>.E (by kernel_rfl))⟩
def Ji:EV:=fun c hc=>⟨⟨24,0,0⟩,pI fun x0=>pI fun x1=>pI fun x2=>pE (bif d (x1<=x0) then some (0,[b (d (x0<=x2))]) else some (0,[b false])),Sd.en hc (.I fun _=>.I fun _=>.I fun _=>.E (by kernel_rfl))⟩
def Jj:EV:=fun c hc=>⟨⟨25,0,0⟩,pI fun x0=>pE (bif d (x0=1) then some (0,[i 3,t (m #[108,111,111,112,40,78,44,32,77,41,32,61,62,32,100,111,110,101,40,112,108,117,115,40,78,44,32,77,41,41])]) else bif d (x0=2) then some (0,[i 3,t (m #[108,111,111,112,40,78,44,32,77,41,32,61,62,32,100,111,110,101,40,77,41])]) else bif d (x0=3) then some (0,[i 1,t (m #[105,102,122,40,110,117,109,40,78,41,44,32,110,117,109,40,48,41,44,32,110,117,109,40,49,41,41,32,61,62,32,110,117,109,40,49,41,32,105,102,32,48,32,60,32,78])]) else bif d (x0=4) then some (0,[i 2,t (m #[114,117,110,40,99,111,109,112,40,97,100,100,40,110,117,109,40,78,41,44,32,110,117,109,40,77,41,41,44,32,104,97,108,116,41,44,32,110,105,108,41,32,61,62,32,114,117,110,40,104,97,108,116,44,32,99,111,110,115,40,112,108,117,115,40,78,44,32,77,41,44,32,110,105,108,41,41])]) else some (0,[i 1,t (m #[109,117,108,40,110,117,109,40,78,41,44,32,110,117,109,40,78,41,41,32,61,62,32,110,117,109,40,78,41])])),Sd.en hc (.I fun _=>.E (by kernel_rfl))⟩
def Jk:EV:=fun c hc=>⟨⟨26,0,0⟩,pL fun x0=>pS fun x1=>pE (bif d ((m #[114,117,108,101,32,99,108,97,105,109,58,32]).size+x1.size<=dz) then (c ⟨54,0,0⟩ [t ((m #[114,117,108,101,32,99,108,97,105,109,58,32])++x1)]).bind fun r1=>bif !(g r1.2 7).B then some (0,[i 0,i 0,t (m #[]),i 0,i 0,t (m #[]),b false,s [],s [],s [],s []]) else bif l ((([]:ak)).length+x0.length) M63 then some (0,[i (g r1.2 1).I,i (g r1.2 2).I,t (g r1.2 3).S,i (g r1.2 4).I,i (g r1.2 5).I,t (g r1.2 6).S,b true,s (([]:ak)++x0),s (g r1.2 8).L,s (g r1.2 9).L,s (g r1.2 10).L]) else none else none),Sd.en hc (.L fun _=>.S fun _=>.E (by kernel_rfl))⟩
def Jl:EV:=fun c hc=>⟨⟨27,0,0⟩,pI fun x0=>pE (bif d (x0=1) then some (0,[i 3,t (m #[108,111,111,112,40,78,44,32,77,41,32,61,62,32,100,111,110,101,40,112,108,117,115,40,78,44,32,77,41,41])]) else bif d (x0=2) then some (0,[i 3,t (m #[108,111,111,112,40,78,44,32,77,41,32,61,62,32,100,111,110,101,40,77,41])]) else bif d (x0=3) then some (0,[i 1,t (m #[105,102,122,40,110,117,109,40,78,41,44,32,110,117,109,40,48,41,44,32,110,117,109,40,49,41,41,32,61,62,32,110,117,109,40,49,41,32,105,102,32,48,32,60,32,78])]) else bif d (x0=4) then some (0,[i 2,t (m #[114,117,110,40,99,111,109,112,40,97,100,100,40,110,117,109,40,78,41,44,32,110,117,109,40,77,41,41,44,32,104,97,108,116,41,44,32,110,105,108,41,32,61,62,32,114,117,110,40,104,97,108,116,44,32,99,111,110,115,40,112,108,117,115,40,78,44,32,77,41,44,32,110,105,108,41,41])]) else bif d (x0=5) then some (0,[i 1,t (m #[109,117,108,40,110,117,109,40,78,41,44,32,110,117,109,40,78,41,41,32,61,62,32,110,117,109,40,78,41])]) else some (0,[i 0,t (m #[])])),Sd.en hc (.I fun _=>.E (by kernel_rfl))⟩
def Jm:EV:=fun c hc=>⟨⟨28,0,0⟩,pS fun x0=>pE (bif d ((m #[114,117,108,101,32,99,108,97,105,109,58,32]).size+x0.size<=dz) then (c ⟨55,0,0⟩ [t ((m #[114,117,108,101,32,99,108,97,105,109,58,32])++x0)]).bind fun r1=>some (0,[i (g r1.2 1).I,i (g r1.2 2).I,t (g r1.2 3).S,i (g r1.2 4).I,i (g r1.2 5).I,t (g r1.2 6).S,b (g r1.2 7).B,s ([[t (m #[78])],[t (m #[77])]]:ak),s (g r1.2 8).L,s (g r1.2 9).L,s (g r1.2 10).L]) else none),Sd.en hc (.S fun _=>.E (by kernel_rfl))⟩
def Jn:EV:=fun c hc=>⟨⟨29,0,0⟩,pL fun x0=>pI fun x1=>pI fun x2=>pS fun x3=>pL fun x4=>pI fun x5=>pI fun x6=>pS fun x7=>pL fun x8=>pL fun x9=>pL fun x10=>pI fun x11=>pI fun x12=>pS fun x13=>pL fun x14=>pI fun x15=>pI fun x16=>pS fun x17=>pL fun x18=>pL fun x19=>pE ((c ⟨56,0,0⟩ [s x0,s x10]).bind fun r1=>bif !(g r1.2 0).B then some (0,[b false]) else (c ⟨15,0,0⟩ [i x1,i x2,t x3,s x4,i x11,i x12,t x13,s x14]).bind fun r2=>bif !(g r2.2 0).B then some (0,[b false]) else (c ⟨15,0,0⟩ [i x5,i x6,t x7,s x8,i x15,i x16,t x17,s x18]).bind fun r3=>bif !(g r3.2 0).B then some (0,[b false]) else (c ⟨57,0,0⟩ [s x9,s x19]).bind fun r4=>bif !(g r4.2 0).B then some (0,[b false]) else some (0,[b true])),Sd.en hc (.L fun _=>.I fun _=>.I fun _=>.S fun _=>.L fun _=>.I fun _=>.I fun _=>.S fun _=>.L fun _=>.L fun _=>.L fun _=>.I fun _=>.I fun _=>.S fun _=>.L fun _=>.I fun _=>.I fun _=>.S fun _=>.L fun _=>.L fun _=>.E (by kernel_rfl))⟩
def Jo:EV:=fun c hc=>⟨⟨30,1,0⟩,pI fun x0=>pI fun x1=>pS fun x2=>pI fun x3=>pI fun x4=>pS fun x5=>pI fun x6=>pL fun x7=>pL fun x8=>pL fun x9=>pL fun x10=>pE ((c ⟨58,1,0⟩ [i x6,s x7]).bind fun r1=>(c ⟨16,1,0⟩ [i x0,i x1,t x2,i (g r1.2 0).I,s x8]).bind fun r2=>(c ⟨16,1,0⟩ [i x3,i x4,t x5,i (g r2.2 0).I,s x9]).bind fun r3=>(c ⟨59,1,0⟩ [i (g r3.2 0).I,s x10]).bind fun r4=>some (0,[i (g r4.2 0).I,s (g r1.2 1).L,s (g r2.2 1).L,s (g r3.2 1).L,s (g r4.2 1).L])),Sd.en hc (.I fun _=>.I fun _=>.S fun _=>.I fun _=>.I fun _=>.S fun _=>.I fun _=>.L fun _=>.L fun _=>.L fun _=>.L fun _=>.E (by kernel_rfl))⟩
def Jp:EV:=fun c hc=>⟨⟨31,0,0⟩,pL fun x0=>pI fun x1=>pI fun x2=>pS fun x3=>pL fun x4=>pI fun x5=>pI fun x6=>pS fun x7=>pL fun x8=>pL fun x9=>pI fun x10=>pE ((c ⟨60,0,0⟩ [s x0,i x10]).bind fun r1=>bif d (((g r1.2 0).I:Int)<0) then some (0,[i (-1)]) else (c ⟨17,0,0⟩ [i x1,i x2,t x3,s x4,i (g r1.2 0).I]).bind fun r2=>bif d (((g r2.2 0).I:Int)<0) then some (0,[i (-1)]) else (c ⟨17,0,0⟩ [i x5,i x6,t x7,s x8,i (g r2.2 0).I]).bind fun r3=>bif d (((g r3.2 0).I:Int)<0) then some (0,[i (-1)]) else (c ⟨61,0,0⟩ [s x9,i (g r3.2 0).I]).bind fun r4=>bif d (((g r4.2 0).I:Int)<0) then some (0,[i (-1)]) else some (0,[i (g r4.2 0).I])),Sd.en hc (.L fun _=>.I fun _=>.I fun _=>.S fun _=>.L fun _=>.I fun _=>.I fun _=>.S fun _=>.L fun _=>.L fun _=>.I fun _=>.E (by kernel_rfl))⟩
def Jq:EV:=fun c hc=>⟨⟨40,0,0⟩,pL fun x0=>pL fun x1=>pE (bif !d ((x0.length:Int)=x1.length) then some (0,[b false]) else (c ⟨40,0,1⟩ [s x0,s x1,i 0]).bind fun r1=>bif q r1.1 0 then some (0,[b true]) else bif q r1.1 1 then some (0,[b false]) else none),Sd.en hc (.L fun _=>.L fun _=>.E (by kernel_rfl))⟩
def Jr:EV:=fun c hc=>⟨⟨40,0,1⟩,pL fun x0=>pL fun x1=>pI fun x2=>pE (bif d (x2<x0.length) then bif inb x2 x0.length then bif inb x2 x1.length then (c ⟨15,0,0⟩ [i (g (p x0 (z x2)) 0).I,i (g (p x0 (z x2)) 1).I,t (g (p x0 (z x2)) 2).S,s (g (p x0 (z x2)) 3).L,i (g (p x1 (z x2)) 0).I,i (g (p x1 (z x2)) 1).I,t (g (p x1 (z x2)) 2).S,s (g (p x1 (z x2)) 3).L]).bind fun r1=>bif !(g r1.2 0).B then some (1,[]) else c ⟨40,0,1⟩ [s x0,s x1,i (w .i64 (x2+1))] else none else none else some (0,[])),Sd.en hc (.L fun _=>.L fun _=>.I fun _=>.E (by kernel_rfl))⟩
def Js:EV:=fun c hc=>⟨⟨41,1,0⟩,pI fun x0=>pL fun x1=>pE ((c ⟨41,1,1⟩ [i x0,i 0,s x1]).bind fun r1=>bif q r1.1 0 then some (0,[i (g r1.2 0).I,s (g r1.2 1).L]) else none),Sd.en hc (.I fun _=>.L fun _=>.E (by kernel_rfl))⟩
def Jt:EV:=fun c hc=>⟨⟨41,1,1⟩,pI fun x0=>pI fun x1=>pL fun x2=>pE (bif d (x1<x2.length) then bif inb x1 x2.length then bif inb x1 (over (z x1) [over 0 [i x0] (p x2 (z x1))] x2).length then (c ⟨70,0,0⟩ [i (w .i64 ((w .i64 (x0+1))+1))]).bind fun r1=>bif inb x1 (over (z x1) [over 1 [i (w .i64 (x0+1))] (p (over (z x1) [over 0 [i x0] (p x2 (z x1))] x2) (z x1))] (over (z x1) [over 0 [i x0] (p x2 (z x1))] x2)).length then (fun o2:ak=>bif inb x1 o2.length then (c ⟨41,2,0⟩ [i (w .i64 ((w .i64 ((w .i64 (x0+1))+1))+1)),s (g (p o2 (z x1)) 3).L]).bind fun r3=>c ⟨41,1,1⟩ [i (g r3.2 0).I,i (w .i64 (x1+1)),s (over (z x1) [over 3 [s (g r3.2 1).L] (p o2 (z x1))] o2)] else none) (over (z x1) [over 2 [t (g r1.2 0).S] (p (over (z x1) [over 1 [i (w .i64 (x0+1))] (p (over (z x1) [over 0 [i x0] (p x2 (z x1))] x2) (z x1))] (over (z x1) [over 0 [i x0] (p x2 (z x1))] x2)) (z x1))] (over (z x1) [over 1 [i (w .i64 (x0+1))] (p (over (z x1) [over 0 [i x0] (p x2 (z x1))] x2) (z x1))] (over (z x1) [over 0 [i x0] (p x2 (z x1))] x2))) else none else none else none else some (0,[i x0,s x2])),Sd.en hc (.I fun _=>.I fun _=>.L fun _=>.E (by kernel_rfl))⟩
def Ju:EV:=fun c hc=>⟨⟨41,2,0⟩,pI fun x0=>pL fun x1=>pE ((c ⟨41,2,1⟩ [i x0,i 0,s x1]).bind fun r1=>bif q r1.1 0 then some (0,[i (g r1.2 0).I,s (g r1.2 1).L]) else none),Sd.en hc (.I fun _=>.L fun _=>.E (by kernel_rfl))⟩
def Jv:EV:=fun c hc=>⟨⟨41,2,1⟩,pI fun x0=>pI fun x1=>pL fun x2=>pE (bif d (x1<x2.length) then bif inb x1 x2.length then bif inb x1 (over (z x1) [over 0 [i x0] (p x2 (z x1))] x2).length then (c ⟨70,0,0⟩ [i (w .i64 ((w .i64 (x0+1))+1))]).bind fun r1=>bif inb x1 (over (z x1) [over 1 [i (w .i64 (x0+1))] (p (over (z x1) [over 0 [i x0] (p x2 (z x1))] x2) (z x1))] (over (z x1) [over 0 [i x0] (p x2 (z x1))] x2)).length then (fun o2:ak=>bif inb x1 o2.length then (c ⟨41,2,0⟩ [i (w .i64 ((w .i64 ((w .i64 (x0+1))+1))+1)),s (g (p o2 (z x1)) 3).L]).bind fun r3=>c ⟨41,2,1⟩ [i (g r3.2 0).I,i (w .i64 (x1+1)),s (over (z x1) [over 3 [s (g r3.2 1).L] (p o2 (z x1))] o2)] else none) (over (z x1) [over 2 [t (g r1.2 0).S] (p (over (z x1) [over 1 [i (w .i64 (x0+1))] (p (over (z x1) [over 0 [i x0] (p x2 (z x1))] x2) (z x1))] (over (z x1) [over 0 [i x0] (p x2 (z x1))] x2)) (z x1))] (over (z x1) [over 1 [i (w .i64 (x0+1))] (p (over (z x1) [over 0 [i x0] (p x2 (z x1))] x2) (z x1))] (over (z x1) [over 0 [i x0] (p x2 (z x1))] x2))) else none else none else none else some (0,[i x0,s x2])),Sd.en hc (.I fun _=>.I fun _=>.L fun _=>.E (by kernel_rfl))⟩
def Jw:EV:=fun c hc=>⟨⟨42,0,0⟩,pL fun x0=>pI fun x1=>pE ((c ⟨42,0,1⟩ [s x0,i x1,i 0]).bind fun r1=>bif q r1.1 0 then some (0,[i (g r1.2 0).I]) else bif q r1.1 1 then some (0,[i (g r1.2 0).I]) else none),Sd.en hc (.L fun _=>.I fun _=>.E (by kernel_rfl))⟩
def Jx:EV:=fun c hc=>⟨⟨42,0,1⟩,pL fun x0=>pI fun x1=>pI fun x2=>pE (bif d (x2<x0.length) then bif inb x2 x0.length then bif !d (((g (p x0 (z x2)) 0).I:Int)=x1) then some (1,[i (-1)]) else bif inb x2 x0.length then bif !d (((g (p x0 (z x2)) 1).I:Int)=(w .i64 (x1+1))) then some (1,[i (-1)]) else bif inb x2 x0.length then (c ⟨70,0,0⟩ [i (w .i64 ((w .i64 (x1+1))+1))]).bind fun r1=>bif !d ((g (p x0 (z x2)) 2).S=(g r1.2 0).S) then some (1,[i (-1)]) else bif inb x2 x0.length then (c ⟨42,0,0⟩ [s (g (p x0 (z x2)) 3).L,i (w .i64 ((w .i64 ((w .i64 (x1+1))+1))+1))]).bind fun r2=>bif d (((g r2.2 0).I:Int)<0) then some (1,[i (-1)]) else c ⟨42,0,1⟩ [s x0,i (g r2.2 0).I,i (w .i64 (x2+1))] else none else none else none else none else some (0,[i x1])),Sd.en hc (.L fun _=>.I fun _=>.I fun _=>.E (by kernel_rfl))⟩
def Jy:EV:=fun c hc=>⟨⟨54,0,0⟩,pS fun x0=>pE (bif d (((x0).size:Int)<5) then some (0,[t (m #[]),i 0,i 0,t (m #[]),i 0,i 0,t (m #[]),b false,s [],s [],s []]) else bif d ((0:Int)<=0)&&(d ((0:Int)<=5)&&d ((5:Int)<=(x0).size)) then bif !d (((x0).extract (z 0) (z 5))=(m #[114,117,108,101,32])) then some (0,[t (m #[]),i 0,i 0,t (m #[]),i 0,i 0,t (m #[]),b false,s [],s [],s []]) else bif d ((0:Int)<=5)&&(d ((5:Int)<=((x0).size:Nat))&&d ((((x0).size:Nat):Int)<=(x0).size)) then (c ⟨88,0,0⟩ [t ((x0).extract (z 5) (z ((x0).size:Nat))),t (m #[58,32])]).bind fun r1=>(c ⟨88,0,0⟩ [t (g r1.2 1).S,t (m #[32,61,62,32])]).bind fun r2=>(c ⟨88,0,0⟩ [t (g r2.2 1).S,t (m #[32,105,102,32])]).bind fun r3=>(c ⟨89,0,0⟩ [t (g r2.2 0).S]).bind fun r4=>(c ⟨89,0,0⟩ [t (g r3.2 0).S]).bind fun r5=>bif !(g r1.2 2).B then some (0,[t (m #[]),i 0,i 0,t (m #[]),i 0,i 0,t (m #[]),b false,s [],s [],s []]) else bif !(g r2.2 2).B then some (0,[t (m #[]),i 0,i 0,t (m #[]),i 0,i 0,t (m #[]),b false,s [],s [],s []]) else bif !(g r4.2 3).B then some (0,[t (m #[]),i 0,i 0,t (m #[]),i 0,i 0,t (m #[]),b false,s [],s [],s []]) else bif !(g r5.2 3).B then some (0,[t (m #[]),i 0,i 0,t (m #[]),i 0,i 0,t (m #[]),b false,s [],s [],s []]) else (c ⟨90,0,0⟩ [t (g r1.2 0).S]).bind fun r6=>bif !(g r6.2 0).B then some (0,[t (m #[]),i 0,i 0,t (m #[]),i 0,i 0,t (m #[]),b false,s [],s [],s []]) else bif (g r3.2 2).B then (c ⟨91,0,0⟩ [t (g r3.2 1).S,t (m #[32,38,32])]).bind fun r7=>(c ⟨54,0,1⟩ [i 0,t (m #[]),i 0,i 0,t (m #[]),i 0,i 0,t (m #[]),t (g r1.2 0).S,i (g r4.2 0).I,i (g r4.2 1).I,t (g r4.2 2).S,i (g r5.2 0).I,i (g r5.2 1).I,t (g r5.2 2).S,s (g r7.2 0).L,s [],s [],s [],s (g r4.2 4).L,s (g r5.2 4).L,s []]).bind fun r8=>bif q r8.1 0 then some (0,[t (g r8.2 7).S,i (g r8.2 8).I,i (g r8.2 9).I,t (g r8.2 10).S,i (g r8.2 11).I,i (g r8.2 12).I,t (g r8.2 13).S,b true,s (g r8.2 17).L,s (g r8.2 18).L,s (g r8.2 19).L]) else bif q r8.1 1 then some (0,[t (g r8.2 0).S,i (g r8.2 1).I,i (g r8.2 2).I,t (g r8.2 3).S,i (g r8.2 4).I,i (g r8.2 5).I,t (g r8.2 6).S,b false,s (g r8.2 7).L,s (g r8.2 8).L,s (g r8.2 9).L]) else none else some (0,[t (g r1.2 0).S,i (g r4.2 0).I,i (g r4.2 1).I,t (g r4.2 2).S,i (g r5.2 0).I,i (g r5.2 1).I,t (g r5.2 2).S,b true,s (g r4.2 4).L,s (g r5.2 4).L,s []]) else none else none),Sd.en hc (.S fun _=>.E (by kernel_rfl))⟩
def Jz:EV:=fun c hc=>⟨⟨54,0,1⟩,pI fun x0=>pS fun x1=>pI fun x2=>pI fun x3=>pS fun x4=>pI fun x5=>pI fun x6=>pS fun x7=>pS fun x8=>pI fun x9=>pI fun x10=>pS fun x11=>pI fun x12=>pI fun x13=>pS fun x14=>pL fun x15=>pL fun x16=>pL fun x17=>pL fun x18=>pL fun x19=>pL fun x20=>pL fun x21=>pE (bif d (x0<x15.length) then bif inb x0 x15.length then (c ⟨92,0,0⟩ [t (g (p x15 (z x0)) 0).S]).bind fun r1=>bif !(g r1.2 7).B then some (1,[t (m #[]),i 0,i 0,t (m #[]),i 0,i 0,t (m #[]),s [],s [],s []]) else bif l (x21.length+(([[i (g r1.2 0).I,i (g r1.2 1).I,i (g r1.2 2).I,t (g r1.2 3).S,s (g r1.2 8).L,i (g r1.2 4).I,i (g r1.2 5).I,t (g r1.2 6).S,s (g r1.2 9).L]]:ak)).length) M63 then c ⟨54,0,1⟩ [i (w .i64 (x0+1)),t x1,i x2,i x3,t x4,i x5,i x6,t x7,t x8,i x9,i x10,t x11,i x12,i x13,t x14,s x15,s x16,s x17,s x18,s x19,s x20,s (x21++([[i (g r1.2 0).I,i (g r1.2 1).I,i (g r1.2 2).I,t (g r1.2 3).S,s (g r1.2 8).L,i (g r1.2 4).I,i (g r1.2 5).I,t (g r1.2 6).S,s (g r1.2 9).L]]:ak))] else none else none else some (0,[t x1,i x2,i x3,t x4,i x5,i x6,t x7,t x8,i x9,i x10,t x11,i x12,i x13,t x14,s x16,s x17,s x18,s x19,s x20,s x21])),Sd.en hc (.I fun _=>.S fun _=>.I fun _=>.I fun _=>.S fun _=>.I fun _=>.I fun _=>.S fun _=>.S fun _=>.I fun _=>.I fun _=>.S fun _=>.I fun _=>.I fun _=>.S fun _=>.L fun _=>.L fun _=>.L fun _=>.L fun _=>.L fun _=>.L fun _=>.L fun _=>.E (by kernel_rfl))⟩
def Ka:EV:=fun c hc=>⟨⟨55,0,0⟩,pS fun x0=>pE ((c ⟨93,0,0⟩ [t x0,t (m #[114,117,108,101,32])]).bind fun r1=>bif !(g r1.2 1).B then some (0,[t (m #[]),i 0,i 0,t (m #[]),i 0,i 0,t (m #[]),b false,s [],s [],s []]) else (c ⟨63,0,0⟩ [t (g r1.2 0).S,t (m #[58,32])]).bind fun r2=>bif !(g r2.2 2).B then some (0,[t (m #[]),i 0,i 0,t (m #[]),i 0,i 0,t (m #[]),b false,s [],s [],s []]) else (c ⟨94,0,0⟩ [t (g r2.2 0).S]).bind fun r3=>bif !(g r3.2 0).B then some (0,[t (m #[]),i 0,i 0,t (m #[]),i 0,i 0,t (m #[]),b false,s [],s [],s []]) else (c ⟨63,0,0⟩ [t (g r2.2 1).S,t (m #[32,61,62,32])]).bind fun r4=>bif !(g r4.2 2).B then some (0,[t (m #[]),i 0,i 0,t (m #[]),i 0,i 0,t (m #[]),b false,s [],s [],s []]) else (c ⟨63,0,0⟩ [t (g r4.2 1).S,t (m #[32,105,102,32])]).bind fun r5=>(c ⟨95,0,0⟩ [t (g r4.2 0).S]).bind fun r6=>(c ⟨95,0,0⟩ [t (g r5.2 0).S]).bind fun r7=>bif !(g r6.2 3).B then some (0,[t (m #[]),i 0,i 0,t (m #[]),i 0,i 0,t (m #[]),b false,s [],s [],s []]) else bif !(g r7.2 3).B then some (0,[t (m #[]),i 0,i 0,t (m #[]),i 0,i 0,t (m #[]),b false,s [],s [],s []]) else bif !(g r5.2 2).B then some (0,[t (g r2.2 0).S,i (g r6.2 0).I,i (g r6.2 1).I,t (g r6.2 2).S,i (g r7.2 0).I,i (g r7.2 1).I,t (g r7.2 2).S,b true,s (g r6.2 4).L,s (g r7.2 4).L,s []]) else (c ⟨96,0,0⟩ [t (g r5.2 1).S,t (m #[32,38,32])]).bind fun r8=>(c ⟨55,0,1⟩ [i (g r8.2 0).L.length,i 0,t (m #[]),i 0,i 0,t (m #[]),i 0,i 0,t (m #[]),t (g r2.2 0).S,i (g r6.2 0).I,i (g r6.2 1).I,t (g r6.2 2).S,i (g r7.2 0).I,i (g r7.2 1).I,t (g r7.2 2).S,s (g r8.2 0).L,s [],s [],s [],s (g r6.2 4).L,s (g r7.2 4).L,s []]).bind fun r9=>bif q r9.1 0 then some (0,[t (g r9.2 7).S,i (g r9.2 8).I,i (g r9.2 9).I,t (g r9.2 10).S,i (g r9.2 11).I,i (g r9.2 12).I,t (g r9.2 13).S,b true,s (g r9.2 17).L,s (g r9.2 18).L,s (g r9.2 19).L]) else bif q r9.1 1 then some (0,[t (g r9.2 0).S,i (g r9.2 1).I,i (g r9.2 2).I,t (g r9.2 3).S,i (g r9.2 4).I,i (g r9.2 5).I,t (g r9.2 6).S,b false,s (g r9.2 7).L,s (g r9.2 8).L,s (g r9.2 9).L]) else none),Sd.en hc (.S fun _=>.E (by kernel_rfl))⟩
def Kb:EV:=fun c hc=>⟨⟨55,0,1⟩,pI fun x0=>pI fun x1=>pS fun x2=>pI fun x3=>pI fun x4=>pS fun x5=>pI fun x6=>pI fun x7=>pS fun x8=>pS fun x9=>pI fun x10=>pI fun x11=>pS fun x12=>pI fun x13=>pI fun x14=>pS fun x15=>pL fun x16=>pL fun x17=>pL fun x18=>pL fun x19=>pL fun x20=>pL fun x21=>pL fun x22=>pE (bif d (x1<x0) then bif inb x1 x16.length then (c ⟨97,0,0⟩ [t (g (p x16 (z x1)) 0).S]).bind fun r1=>bif !(g r1.2 7).B then some (1,[t (m #[]),i 0,i 0,t (m #[]),i 0,i 0,t (m #[]),s [],s [],s []]) else bif l (x22.length+(([[i (g r1.2 0).I,i (g r1.2 1).I,i (g r1.2 2).I,t (g r1.2 3).S,s (g r1.2 8).L,i (g r1.2 4).I,i (g r1.2 5).I,t (g r1.2 6).S,s (g r1.2 9).L]]:ak)).length) M63 then c ⟨55,0,1⟩ [i x0,i (w .i64 (x1+1)),t x2,i x3,i x4,t x5,i x6,i x7,t x8,t x9,i x10,i x11,t x12,i x13,i x14,t x15,s x16,s x17,s x18,s x19,s x20,s x21,s (x22++([[i (g r1.2 0).I,i (g r1.2 1).I,i (g r1.2 2).I,t (g r1.2 3).S,s (g r1.2 8).L,i (g r1.2 4).I,i (g r1.2 5).I,t (g r1.2 6).S,s (g r1.2 9).L]]:ak))] else none else none else some (0,[t x2,i x3,i x4,t x5,i x6,i x7,t x8,t x9,i x10,i x11,t x12,i x13,i x14,t x15,s x17,s x18,s x19,s x20,s x21,s x22])),Sd.en hc (.I fun _=>.I fun _=>.S fun _=>.I fun _=>.I fun _=>.S fun _=>.I fun _=>.I fun _=>.S fun _=>.S fun _=>.I fun _=>.I fun _=>.S fun _=>.I fun _=>.I fun _=>.S fun _=>.L fun _=>.L fun _=>.L fun _=>.L fun _=>.L fun _=>.L fun _=>.L fun _=>.E (by kernel_rfl))⟩
def Kc:EV:=fun c hc=>⟨⟨56,0,0⟩,pL fun x0=>pL fun x1=>pE (bif !d ((x0.length:Int)=x1.length) then some (0,[b false]) else (c ⟨56,0,1⟩ [s x0,s x1,i 0]).bind fun r1=>bif q r1.1 0 then some (0,[b true]) else bif q r1.1 1 then some (0,[b false]) else none),Sd.en hc (.L fun _=>.L fun _=>.E (by kernel_rfl))⟩
def Kd:EV:=fun c hc=>⟨⟨56,0,1⟩,pL fun x0=>pL fun x1=>pI fun x2=>pE (bif d (x2<x0.length) then bif inb x2 x0.length then bif inb x2 x1.length then bif !d ((g (p x0 (z x2)) 0).S=(g (p x1 (z x2)) 0).S) then some (1,[]) else c ⟨56,0,1⟩ [s x0,s x1,i (w .i64 (x2+1))] else none else none else some (0,[])),Sd.en hc (.L fun _=>.L fun _=>.I fun _=>.E (by kernel_rfl))⟩
def Ke:EV:=fun c hc=>⟨⟨57,0,0⟩,pL fun x0=>pL fun x1=>pE (bif !d ((x0.length:Int)=x1.length) then some (0,[b false]) else (c ⟨57,0,1⟩ [s x0,s x1,i 0]).bind fun r1=>bif q r1.1 0 then some (0,[b true]) else bif q r1.1 1 then some (0,[b false]) else none),Sd.en hc (.L fun _=>.L fun _=>.E (by kernel_rfl))⟩
def Kf:EV:=fun c hc=>⟨⟨57,0,1⟩,pL fun x0=>pL fun x1=>pI fun x2=>pE (bif d (x2<x0.length) then bif inb x2 x0.length then bif inb x2 x1.length then (c ⟨98,0,0⟩ [i (g (p x0 (z x2)) 0).I,i (g (p x0 (z x2)) 1).I,i (g (p x0 (z x2)) 2).I,t (g (p x0 (z x2)) 3).S,s (g (p x0 (z x2)) 4).L,i (g (p x0 (z x2)) 5).I,i (g (p x0 (z x2)) 6).I,t (g (p x0 (z x2)) 7).S,s (g (p x0 (z x2)) 8).L,i (g (p x1 (z x2)) 0).I,i (g (p x1 (z x2)) 1).I,i (g (p x1 (z x2)) 2).I,t (g (p x1 (z x2)) 3).S,s (g (p x1 (z x2)) 4).L,i (g (p x1 (z x2)) 5).I,i (g (p x1 (z x2)) 6).I,t (g (p x1 (z x2)) 7).S,s (g (p x1 (z x2)) 8).L]).bind fun r1=>bif !(g r1.2 0).B then some (1,[]) else c ⟨57,0,1⟩ [s x0,s x1,i (w .i64 (x2+1))] else none else none else some (0,[])),Sd.en hc (.L fun _=>.L fun _=>.I fun _=>.E (by kernel_rfl))⟩
def Kg:EV:=fun c hc=>⟨⟨58,1,0⟩,pI fun x0=>pL fun x1=>pE ((c ⟨58,1,1⟩ [i x0,i 0,s x1]).bind fun r1=>bif q r1.1 0 then some (0,[i (g r1.2 0).I,s (g r1.2 1).L]) else none),Sd.en hc (.I fun _=>.L fun _=>.E (by kernel_rfl))⟩
def Kh:EV:=fun c hc=>⟨⟨58,1,1⟩,pI fun x0=>pI fun x1=>pL fun x2=>pE (bif d (x1<x2.length) then (c ⟨70,0,0⟩ [i x0]).bind fun r1=>bif inb x1 x2.length then c ⟨58,1,1⟩ [i (w .i64 (x0+1)),i (w .i64 (x1+1)),s (over (z x1) [over 0 [t (g r1.2 0).S] (p x2 (z x1))] x2)] else none else some (0,[i x0,s x2])),Sd.en hc (.I fun _=>.I fun _=>.L fun _=>.E (by kernel_rfl))⟩
def Ki:EV:=fun c hc=>⟨⟨59,1,0⟩,pI fun x0=>pL fun x1=>pE ((c ⟨59,1,1⟩ [i x0,i 0,s x1]).bind fun r1=>bif q r1.1 0 then some (0,[i (g r1.2 0).I,s (g r1.2 1).L]) else none),Sd.en hc (.I fun _=>.L fun _=>.E (by kernel_rfl))⟩
def Kj:EV:=fun c hc=>⟨⟨59,1,1⟩,pI fun x0=>pI fun x1=>pL fun x2=>pE (bif d (x1<x2.length) then bif inb x1 x2.length then bif inb x1 (over (z x1) [over 0 [i x0] (p x2 (z x1))] x2).length then bif inb x1 (over (z x1) [over 1 [i (w .i64 (x0+1))] (p (over (z x1) [over 0 [i x0] (p x2 (z x1))] x2) (z x1))] (over (z x1) [over 0 [i x0] (p x2 (z x1))] x2)).length then (fun o1:ak=>(c ⟨70,0,0⟩ [i (w .i64 ((w .i64 ((w .i64 (x0+1))+1))+1))]).bind fun r2=>bif inb x1 o1.length then bif inb x1 (over (z x1) [over 3 [t (g r2.2 0).S] (p o1 (z x1))] o1).length then (c ⟨41,2,0⟩ [i (w .i64 ((w .i64 ((w .i64 ((w .i64 (x0+1))+1))+1))+1)),s (g (p (over (z x1) [over 3 [t (g r2.2 0).S] (p o1 (z x1))] o1) (z x1)) 4).L]).bind fun r3=>bif inb x1 (over (z x1) [over 4 [s (g r3.2 1).L] (p (over (z x1) [over 3 [t (g r2.2 0).S] (p o1 (z x1))] o1) (z x1))] (over (z x1) [over 3 [t (g r2.2 0).S] (p o1 (z x1))] o1)).length then (fun o4:ak=>bif inb x1 o4.length then (c ⟨70,0,0⟩ [i (w .i64 ((w .i64 ((g r3.2 0).I+1))+1))]).bind fun r5=>bif inb x1 (over (z x1) [over 6 [i (w .i64 ((g r3.2 0).I+1))] (p o4 (z x1))] o4).length then bif inb x1 (over (z x1) [over 7 [t (g r5.2 0).S] (p (over (z x1) [over 6 [i (w .i64 ((g r3.2 0).I+1))] (p o4 (z x1))] o4) (z x1))] (over (z x1) [over 6 [i (w .i64 ((g r3.2 0).I+1))] (p o4 (z x1))] o4)).length then (c ⟨41,2,0⟩ [i (w .i64 ((w .i64 ((w .i64 ((g r3.2 0).I+1))+1))+1)),s (g (p (over (z x1) [over 7 [t (g r5.2 0).S] (p (over (z x1) [over 6 [i (w .i64 ((g r3.2 0).I+1))] (p o4 (z x1))] o4) (z x1))] (over (z x1) [over 6 [i (w .i64 ((g r3.2 0).I+1))] (p o4 (z x1))] o4)) (z x1)) 8).L]).bind fun r6=>c ⟨59,1,1⟩ [i (g r6.2 0).I,i (w .i64 (x1+1)),s (over (z x1) [over 8 [s (g r6.2 1).L] (p (over (z x1) [over 7 [t (g r5.2 0).S] (p (over (z x1) [over 6 [i (w .i64 ((g r3.2 0).I+1))] (p o4 (z x1))] o4) (z x1))] (over (z x1) [over 6 [i (w .i64 ((g r3.2 0).I+1))] (p o4 (z x1))] o4)) (z x1))] (over (z x1) [over 7 [t (g r5.2 0).S] (p (over (z x1) [over 6 [i (w .i64 ((g r3.2 0).I+1))] (p o4 (z x1))] o4) (z x1))] (over (z x1) [over 6 [i (w .i64 ((g r3.2 0).I+1))] (p o4 (z x1))] o4)))] else none else none else none) (over (z x1) [over 5 [i (g r3.2 0).I] (p (over (z x1) [over 4 [s (g r3.2 1).L] (p (over (z x1) [over 3 [t (g r2.2 0).S] (p o1 (z x1))] o1) (z x1))] (over (z x1) [over 3 [t (g r2.2 0).S] (p o1 (z x1))] o1)) (z x1))] (over (z x1) [over 4 [s (g r3.2 1).L] (p (over (z x1) [over 3 [t (g r2.2 0).S] (p o1 (z x1))] o1) (z x1))] (over (z x1) [over 3 [t (g r2.2 0).S] (p o1 (z x1))] o1))) else none else none else none) (over (z x1) [over 2 [i (w .i64 ((w .i64 (x0+1))+1))] (p (over (z x1) [over 1 [i (w .i64 (x0+1))] (p (over (z x1) [over 0 [i x0] (p x2 (z x1))] x2) (z x1))] (over (z x1) [over 0 [i x0] (p x2 (z x1))] x2)) (z x1))] (over (z x1) [over 1 [i (w .i64 (x0+1))] (p (over (z x1) [over 0 [i x0] (p x2 (z x1))] x2) (z x1))] (over (z x1) [over 0 [i x0] (p x2 (z x1))] x2))) else none else none else none else some (0,[i x0,s x2])),Sd.en hc (.I fun _=>.I fun _=>.L fun _=>.E (by kernel_rfl))⟩
def Kk:EV:=fun c hc=>⟨⟨60,0,0⟩,pL fun x0=>pI fun x1=>pE ((c ⟨60,0,1⟩ [s x0,i x1,i 0]).bind fun r1=>bif q r1.1 0 then some (0,[i (g r1.2 0).I]) else bif q r1.1 1 then some (0,[i (g r1.2 0).I]) else none),Sd.en hc (.L fun _=>.I fun _=>.E (by kernel_rfl))⟩
def Kl:EV:=fun c hc=>⟨⟨60,0,1⟩,pL fun x0=>pI fun x1=>pI fun x2=>pE (bif d (x2<x0.length) then bif inb x2 x0.length then (c ⟨70,0,0⟩ [i x1]).bind fun r1=>bif !d ((g (p x0 (z x2)) 0).S=(g r1.2 0).S) then some (1,[i (-1)]) else c ⟨60,0,1⟩ [s x0,i (w .i64 (x1+1)),i (w .i64 (x2+1))] else none else some (0,[i x1])),Sd.en hc (.L fun _=>.I fun _=>.I fun _=>.E (by kernel_rfl))⟩
def Km:EV:=fun c hc=>⟨⟨61,0,0⟩,pL fun x0=>pI fun x1=>pE ((c ⟨61,0,1⟩ [s x0,i x1,i 0]).bind fun r1=>bif q r1.1 0 then some (0,[i (g r1.2 0).I]) else bif q r1.1 1 then some (0,[i (g r1.2 0).I]) else none),Sd.en hc (.L fun _=>.I fun _=>.E (by kernel_rfl))⟩
def Kn:EV:=fun c hc=>⟨⟨61,0,1⟩,pL fun x0=>pI fun x1=>pI fun x2=>pE (bif d (x2<x0.length) then bif inb x2 x0.length then bif !d (((g (p x0 (z x2)) 0).I:Int)=x1) then some (1,[i (-1)]) else bif inb x2 x0.length then bif !d (((g (p x0 (z x2)) 1).I:Int)=(w .i64 (x1+1))) then some (1,[i (-1)]) else bif inb x2 x0.length then bif !d (((g (p x0 (z x2)) 2).I:Int)=(w .i64 ((w .i64 (x1+1))+1))) then some (1,[i (-1)]) else bif inb x2 x0.length then (c ⟨70,0,0⟩ [i (w .i64 ((w .i64 ((w .i64 (x1+1))+1))+1))]).bind fun r1=>bif !d ((g (p x0 (z x2)) 3).S=(g r1.2 0).S) then some (1,[i (-1)]) else bif inb x2 x0.length then (c ⟨42,0,0⟩ [s (g (p x0 (z x2)) 4).L,i (w .i64 ((w .i64 ((w .i64 ((w .i64 (x1+1))+1))+1))+1))]).bind fun r2=>bif d (((g r2.2 0).I:Int)<0) then some (1,[i (-1)]) else bif inb x2 x0.length then bif !d (((g (p x0 (z x2)) 5).I:Int)=(g r2.2 0).I) then some (1,[i (-1)]) else bif inb x2 x0.length then bif !d (((g (p x0 (z x2)) 6).I:Int)=(w .i64 ((g r2.2 0).I+1))) then some (1,[i (-1)]) else bif inb x2 x0.length then (c ⟨70,0,0⟩ [i (w .i64 ((w .i64 ((g r2.2 0).I+1))+1))]).bind fun r3=>bif !d ((g (p x0 (z x2)) 7).S=(g r3.2 0).S) then some (1,[i (-1)]) else bif inb x2 x0.length then (c ⟨42,0,0⟩ [s (g (p x0 (z x2)) 8).L,i (w .i64 ((w .i64 ((w .i64 ((g r2.2 0).I+1))+1))+1))]).bind fun r4=>bif d (((g r4.2 0).I:Int)<0) then some (1,[i (-1)]) else c ⟨61,0,1⟩ [s x0,i (g r4.2 0).I,i (w .i64 (x2+1))] else none else none else none else none else none else none else none else none else none else some (0,[i x1])),Sd.en hc (.L fun _=>.I fun _=>.I fun _=>.E (by kernel_rfl))⟩
def Ko:En H Tryz.prog:=⟨⟨63,0,0⟩,Ic 0,fun l r h=>by
 show rn _ _=_
 rw [rn_eq]; exact h⟩
def Kp:EV:=fun c hc=>⟨⟨70,0,0⟩,pI fun x0=>pE (bif d (x0<=0) then some (0,[t (m #[109,48])]) else (c ⟨70,0,1⟩ [i x0,t (m #[])]).bind fun r1=>bif q r1.1 0 then bif d ((m #[109]).size+(g r1.2 0).S.size<=dz) then some (0,[t ((m #[109])++(g r1.2 0).S)]) else none else none),Sd.en hc (.I fun _=>.E (by kernel_rfl))⟩
def Kq:EV:=fun c hc=>⟨⟨70,0,1⟩,pI fun x0=>pS fun x1=>pE (bif d ((0:Int)<x0) then bif !d ((10:Int)=0) then bif d ((ej ([[i (IntKind.u8.wrap (w .i64 (48+(Int.tmod x0 10))))]]:ak)).size+x1.size<=dz) then bif !d ((10:Int)=0) then c ⟨70,0,1⟩ [i (w .i64 (Int.tdiv x0 10)),t ((ej ([[i (IntKind.u8.wrap (w .i64 (48+(Int.tmod x0 10))))]]:ak))++x1)] else none else none else none else some (0,[t x1])),Sd.en hc (.I fun _=>.S fun _=>.E (by kernel_rfl))⟩
def Kr:EV:=fun c hc=>⟨⟨76,0,0⟩,pI fun x0=>pE (some (0,[i 3,i x0,t (m #[]),s []])),Sd.en hc (.I fun _=>.E (by kernel_rfl))⟩
def Ks:EV:=fun c hc=>⟨⟨82,0,0⟩,pI fun x0=>pE (bif d (x0=0) then some (0,[t (m #[48])]) else (c ⟨82,0,1⟩ [i x0,b (d (x0<0)),t (m #[])]).bind fun r1=>bif q r1.1 0 then bif (g r1.2 0).B then bif d ((m #[45]).size+(g r1.2 1).S.size<=dz) then some (0,[t ((m #[45])++(g r1.2 1).S)]) else none else some (0,[t (g r1.2 1).S]) else none),Sd.en hc (.I fun _=>.E (by kernel_rfl))⟩
def Kt:EV:=fun c hc=>⟨⟨82,0,1⟩,pI fun x0=>pB fun x1=>pS fun x2=>pE (bif !d (x0=0) then bif !d ((10:Int)=0) then bif d (((Int.tmod x0 10):Int)<0) then bif d ((ej ([[i (IntKind.u8.wrap (w .i64 (48+(w .i64 (0-(Int.tmod x0 10))))))]]:ak)).size+x2.size<=dz) then bif !d ((10:Int)=0) then c ⟨82,0,1⟩ [i (w .i64 (Int.tdiv x0 10)),b x1,t ((ej ([[i (IntKind.u8.wrap (w .i64 (48+(w .i64 (0-(Int.tmod x0 10))))))]]:ak))++x2)] else none else none else bif d ((ej ([[i (IntKind.u8.wrap (w .i64 (48+(Int.tmod x0 10))))]]:ak)).size+x2.size<=dz) then bif !d ((10:Int)=0) then c ⟨82,0,1⟩ [i (w .i64 (Int.tdiv x0 10)),b x1,t ((ej ([[i (IntKind.u8.wrap (w .i64 (48+(Int.tmod x0 10))))]]:ak))++x2)] else none else none else none else some (0,[b x1,t x2])),Sd.en hc (.I fun _=>.B fun _=>.S fun _=>.E (by kernel_rfl))⟩
def Ku:EV:=fun c hc=>⟨⟨88,0,0⟩,pS fun x0=>pS fun x1=>pE ((c ⟨88,0,1⟩ [t x0,t x1,i 0]).bind fun r1=>bif q r1.1 0 then some (0,[t (g r1.2 0).S,t (m #[]),b false]) else bif q r1.1 1 then some (0,[t (g r1.2 0).S,t (g r1.2 1).S,b true]) else none),Sd.en hc (.S fun _=>.S fun _=>.E (by kernel_rfl))⟩
def Kv:EV:=fun c hc=>⟨⟨88,0,1⟩,pS fun x0=>pS fun x1=>pI fun x2=>pE (bif d (((w .i64 (x2+(x1).size)):Int)<=(x0).size) then bif d ((0:Int)<=x2)&&(d (x2<=w .i64 (x2+(x1).size))&&d ((w .i64 (x2+(x1).size):Int)<=(x0).size)) then bif d (((x0).extract (z x2) (z (w .i64 (x2+(x1).size))))=x1) then bif d ((0:Int)<=0)&&(d ((0:Int)<=x2)&&d (x2<=(x0).size)) then bif d ((0:Int)<=w .i64 (x2+(x1).size))&&(d ((w .i64 (x2+(x1).size):Int)<=((x0).size:Nat))&&d ((((x0).size:Nat):Int)<=(x0).size)) then some (1,[t ((x0).extract (z 0) (z x2)),t ((x0).extract (z (w .i64 (x2+(x1).size))) (z ((x0).size:Nat)))]) else none else none else c ⟨88,0,1⟩ [t x0,t x1,i (w .i64 (x2+1))] else none else some (0,[t x0])),Sd.en hc (.S fun _=>.S fun _=>.I fun _=>.E (by kernel_rfl))⟩
def Kw:EV:=fun c hc=>⟨⟨89,0,0⟩,pS fun x0=>pE (bif d ((600:Int)<(x0).size) then some (0,[i 0,i 0,t (m #[]),b false,s []]) else (c ⟨139,0,0⟩ [i 1,t x0,i 0,b false]).bind fun r1=>bif (g r1.2 5).B then some (0,[i 0,i 0,t (m #[]),b false,s []]) else bif d (x0=(m #[])) then some (0,[i 0,i 0,t (m #[]),b false,s []]) else (c ⟨126,0,0⟩ [i (g r1.2 0).I,i (g r1.2 1).I,t (g r1.2 2).S,s (g r1.2 6).L]).bind fun r2=>bif !d ((g r2.2 0).S=x0) then some (0,[i 0,i 0,t (m #[]),b false,s []]) else some (0,[i (g r1.2 0).I,i (g r1.2 1).I,t (g r1.2 2).S,b true,s (g r1.2 6).L])),Sd.en hc (.S fun _=>.E (by kernel_rfl))⟩
def Kx:EV:=fun c hc=>⟨⟨90,0,0⟩,pS fun x0=>pE (bif !d (x0=(m #[])) then bif inb 0 (x0).size then (c ⟨140,0,0⟩ [i (((x0).get! (z 0)).toNat)]).bind fun r1=>bif (g r1.2 0).B then (c ⟨141,0,0⟩ [t x0]).bind fun r2=>some (0,[b (g r2.2 0).B]) else some (0,[b false]) else none else some (0,[b false])),Sd.en hc (.S fun _=>.E (by kernel_rfl))⟩
def Ky:EV:=fun c hc=>⟨⟨91,0,0⟩,pS fun x0=>pS fun x1=>pE ((c ⟨91,0,1⟩ [t x0,t x1,s ([]:ak)]).bind fun r1=>bif q r1.1 0 then some (0,[s (g r1.2 0).L]) else none),Sd.en hc (.S fun _=>.S fun _=>.E (by kernel_rfl))⟩
def Kz:EV:=fun c hc=>⟨⟨91,0,1⟩,pS fun x0=>pS fun x1=>pL fun x2=>pE ((c ⟨88,0,0⟩ [t x0,t x1]).bind fun r1=>bif l (x2.length+(([[t (g r1.2 0).S]]:ak)).length) M63 then bif !(g r1.2 2).B then some (0,[s (x2++([[t (g r1.2 0).S]]:ak))]) else c ⟨91,0,1⟩ [t (g r1.2 1).S,t x1,s (x2++([[t (g r1.2 0).S]]:ak))] else none),Sd.en hc (.S fun _=>.S fun _=>.L fun _=>.E (by kernel_rfl))⟩
def La:EV:=fun c hc=>⟨⟨92,0,0⟩,pS fun x0=>pE ((c ⟨92,0,1⟩ [t x0,i 1,i 0,i 0,i 0,t (m #[]),i 0,i 0,t (m #[]),s [],s []]).bind fun r1=>bif q r1.1 0 then some (0,[i 0,i 0,i 0,t (m #[]),i 0,i 0,t (m #[]),b false,s [],s []]) else bif q r1.1 1 then some (0,[i (g r1.2 0).I,i (g r1.2 1).I,i (g r1.2 2).I,t (g r1.2 3).S,i (g r1.2 4).I,i (g r1.2 5).I,t (g r1.2 6).S,b true,s (g r1.2 7).L,s (g r1.2 8).L]) else none),Sd.en hc (.S fun _=>.E (by kernel_rfl))⟩
def Lb:EV:=fun c hc=>⟨⟨92,0,1⟩,pS fun x0=>pI fun x1=>pI fun x2=>pI fun x3=>pI fun x4=>pS fun x5=>pI fun x6=>pI fun x7=>pS fun x8=>pL fun x9=>pL fun x10=>pE (bif d (x1<=3) then (c ⟨142,0,0⟩ [i x1]).bind fun r1=>(c ⟨88,0,0⟩ [t x0,t (g r1.2 0).S]).bind fun r2=>bif !(g r2.2 2).B then c ⟨92,0,1⟩ [t x0,i (w .i64 (x1+1)),i x2,i x3,i x4,t x5,i x6,i x7,t x8,s x9,s x10] else (c ⟨89,0,0⟩ [t (g r2.2 0).S]).bind fun r3=>(c ⟨89,0,0⟩ [t (g r2.2 1).S]).bind fun r4=>bif (g r3.2 3).B then bif (g r4.2 3).B then some (1,[i x1,i (g r3.2 0).I,i (g r3.2 1).I,t (g r3.2 2).S,i (g r4.2 0).I,i (g r4.2 1).I,t (g r4.2 2).S,s (g r3.2 4).L,s (g r4.2 4).L]) else c ⟨92,0,1⟩ [t x0,i (w .i64 (x1+1)),i x2,i x3,i x4,t x5,i x6,i x7,t x8,s x9,s x10] else c ⟨92,0,1⟩ [t x0,i (w .i64 (x1+1)),i x2,i x3,i x4,t x5,i x6,i x7,t x8,s x9,s x10] else some (0,[i x2,i x3,i x4,t x5,i x6,i x7,t x8,s x9,s x10])),Sd.en hc (.S fun _=>.I fun _=>.I fun _=>.I fun _=>.I fun _=>.S fun _=>.I fun _=>.I fun _=>.S fun _=>.L fun _=>.L fun _=>.E (by kernel_rfl))⟩
def Lc:En H Tryz.prog:=⟨⟨93,0,0⟩,Ib 0,fun l r h=>by
 show rn _ _=_
 rw [rn_eq]; exact h⟩
def Ld:EV:=fun c hc=>⟨⟨94,0,0⟩,pS fun x0=>pE ((c ⟨144,0,0⟩ [t x0,i 97,i 122]).bind fun r1=>some (0,[b (g r1.2 0).B])),Sd.en hc (.S fun _=>.E (by kernel_rfl))⟩
def Le:EV:=fun c hc=>⟨⟨95,0,0⟩,pS fun x0=>pE (bif d ((600:Int)<(x0).size) then some (0,[i 0,i 0,t (m #[]),b false,s []]) else (c ⟨145,0,0⟩ [t x0]).bind fun r1=>bif !(g r1.2 3).B then some (0,[i 0,i 0,t (m #[]),b false,s []]) else bif !d ((g r1.2 4).S=(m #[])) then some (0,[i 0,i 0,t (m #[]),b false,s []]) else (c ⟨146,0,0⟩ [i (g r1.2 0).I,i (g r1.2 1).I,t (g r1.2 2).S,s (g r1.2 5).L]).bind fun r2=>bif !(g r2.2 0).B then some (0,[i 0,i 0,t (m #[]),b false,s []]) else some (0,[i (g r1.2 0).I,i (g r1.2 1).I,t (g r1.2 2).S,b true,s (g r1.2 5).L])),Sd.en hc (.S fun _=>.E (by kernel_rfl))⟩
def Lf:En H Tryz.prog:=⟨⟨96,0,0⟩,Ie 0,fun l r h=>by
 show rn _ _=_
 rw [rn_eq]; exact h⟩
def Lg:EV:=fun c hc=>⟨⟨97,0,0⟩,pS fun x0=>pE ((c ⟨97,0,1⟩ [t x0,i 1,i 0,i 0,i 0,t (m #[]),i 0,i 0,t (m #[]),s [],s []]).bind fun r1=>bif q r1.1 0 then some (0,[i 0,i 0,i 0,t (m #[]),i 0,i 0,t (m #[]),b false,s [],s []]) else bif q r1.1 1 then some (0,[i (g r1.2 0).I,i (g r1.2 1).I,i (g r1.2 2).I,t (g r1.2 3).S,i (g r1.2 4).I,i (g r1.2 5).I,t (g r1.2 6).S,b true,s (g r1.2 7).L,s (g r1.2 8).L]) else none),Sd.en hc (.S fun _=>.E (by kernel_rfl))⟩
def Lh:EV:=fun c hc=>⟨⟨97,0,1⟩,pS fun x0=>pI fun x1=>pI fun x2=>pI fun x3=>pI fun x4=>pS fun x5=>pI fun x6=>pI fun x7=>pS fun x8=>pL fun x9=>pL fun x10=>pE (bif d (x1<=3) then (c ⟨148,0,0⟩ [i x1]).bind fun r1=>(c ⟨63,0,0⟩ [t x0,t (g r1.2 0).S]).bind fun r2=>bif !(g r2.2 2).B then c ⟨97,0,1⟩ [t x0,i (w .i64 (x1+1)),i x2,i x3,i x4,t x5,i x6,i x7,t x8,s x9,s x10] else (c ⟨95,0,0⟩ [t (g r2.2 0).S]).bind fun r3=>(c ⟨95,0,0⟩ [t (g r2.2 1).S]).bind fun r4=>bif (g r3.2 3).B then bif (g r4.2 3).B then some (1,[i x1,i (g r3.2 0).I,i (g r3.2 1).I,t (g r3.2 2).S,i (g r4.2 0).I,i (g r4.2 1).I,t (g r4.2 2).S,s (g r3.2 4).L,s (g r4.2 4).L]) else c ⟨97,0,1⟩ [t x0,i (w .i64 (x1+1)),i x2,i x3,i x4,t x5,i x6,i x7,t x8,s x9,s x10] else c ⟨97,0,1⟩ [t x0,i (w .i64 (x1+1)),i x2,i x3,i x4,t x5,i x6,i x7,t x8,s x9,s x10] else some (0,[i x2,i x3,i x4,t x5,i x6,i x7,t x8,s x9,s x10])),Sd.en hc (.S fun _=>.I fun _=>.I fun _=>.I fun _=>.I fun _=>.S fun _=>.I fun _=>.I fun _=>.S fun _=>.L fun _=>.L fun _=>.E (by kernel_rfl))⟩
def Li:EV:=fun c hc=>⟨⟨98,0,0⟩,pI fun x0=>pI fun x1=>pI fun x2=>pS fun x3=>pL fun x4=>pI fun x5=>pI fun x6=>pS fun x7=>pL fun x8=>pI fun x9=>pI fun x10=>pI fun x11=>pS fun x12=>pL fun x13=>pI fun x14=>pI fun x15=>pS fun x16=>pL fun x17=>pE (bif !d (x0=x9) then some (0,[b false]) else (c ⟨15,0,0⟩ [i x1,i x2,t x3,s x4,i x10,i x11,t x12,s x13]).bind fun r1=>bif !(g r1.2 0).B then some (0,[b false]) else (c ⟨15,0,0⟩ [i x5,i x6,t x7,s x8,i x14,i x15,t x16,s x17]).bind fun r2=>bif !(g r2.2 0).B then some (0,[b false]) else some (0,[b true])),Sd.en hc (.I fun _=>.I fun _=>.I fun _=>.S fun _=>.L fun _=>.I fun _=>.I fun _=>.S fun _=>.L fun _=>.I fun _=>.I fun _=>.I fun _=>.S fun _=>.L fun _=>.I fun _=>.I fun _=>.S fun _=>.L fun _=>.E (by kernel_rfl))⟩
def Fb:EV:=fun c hc=>⟨⟨101,0,0⟩,pS fun x0=>pE ((c ⟨150,0,0⟩ [t x0,i 0,i 999999]).bind fun r1=>some (0,[i (g r1.2 0).I,b (g r1.2 1).B])),Sd.en hc (.S fun _=>.E (by kernel_rfl))⟩
def Fc:EV:=fun c hc=>⟨⟨126,0,0⟩,pI fun x0=>pI fun x1=>pS fun x2=>pL fun x3=>pE ((c ⟨128,0,0⟩ [i x0,i x1,t x2,s x3]).bind fun r1=>bif !(g r1.2 0).B then some (0,[t (m #[])]) else (c ⟨177,0,0⟩ [i x0,i x1,t x2,s x3]).bind fun r2=>some (0,[t (g r2.2 0).S])),Sd.en hc (.I fun _=>.I fun _=>.S fun _=>.L fun _=>.E (by kernel_rfl))⟩
def Fd:EV:=fun c hc=>⟨⟨128,0,0⟩,pI fun x0=>pI fun x1=>pS fun x2=>pL fun x3=>pE ((c ⟨178,0,0⟩ [i x0,i x1,t x2,s x3,i 60]).bind fun r1=>bif d ((0:Int)<=(g r1.2 0).I) then (c ⟨179,0,0⟩ [i x0,i x1,t x2,s x3]).bind fun r2=>bif d (((g r2.2 0).I:Int)<=16) then (c ⟨180,0,0⟩ [i x0,i x1,t x2,s x3]).bind fun r3=>some (0,[b (g r3.2 0).B]) else some (0,[b false]) else some (0,[b false])),Sd.en hc (.I fun _=>.I fun _=>.S fun _=>.L fun _=>.E (by kernel_rfl))⟩
def Fe:EV:=fun c hc=>⟨⟨133,0,0⟩,pI fun x0=>pI fun x1=>pE (bif d (x1<x0) then some (0,[i x0]) else some (0,[i x1])),Sd.en hc (.I fun _=>.I fun _=>.E (by kernel_rfl))⟩
def Ff:EV:=fun c hc=>⟨⟨139,0,0⟩,pI fun x0=>pS fun x1=>pI fun x2=>pB fun x3=>pE ((c ⟨139,0,1⟩ [i x0,i x2,t x1,i x2,b x3,i 0,i 0,t (m #[]),s []]).bind fun r1=>bif q r1.1 0 then bif d ((0:Int)<=(g r1.2 1).I)&&(d (((g r1.2 1).I:Int)<=(g r1.2 3).I)&&d (((g r1.2 3).I:Int)<=(g r1.2 2).S.size)) then (c ⟨189,0,0⟩ [t ((g r1.2 2).S.extract (z (g r1.2 1).I) (z (g r1.2 3).I))]).bind fun r2=>bif (g r2.2 0).B then (c ⟨191,0,0⟩ [t (m #[40]),t (g r1.2 2).S,i (g r1.2 3).I,b (g r1.2 4).B]).bind fun r3=>bif !(g r3.2 0).B then some (0,[i 1,i 0,t ((g r1.2 2).S.extract (z (g r1.2 1).I) (z (g r1.2 3).I)),t (g r3.2 1).S,i (g r3.2 2).I,b (g r3.2 3).B,s []]) else (c ⟨139,0,4⟩ [i (g r1.2 0).I,i 0,t (g r3.2 1).S,i (w .i64 ((g r3.2 2).I+1)),b (g r3.2 3).B,i (g r1.2 5).I,i (g r1.2 6).I,t (g r1.2 7).S,i 1,i 0,t ((g r1.2 2).S.extract (z (g r1.2 1).I) (z (g r1.2 3).I)),s (g r1.2 8).L,s []]).bind fun r4=>bif q r4.1 0 then some (0,[i (g r4.2 6).I,i (g r4.2 7).I,t (g r4.2 8).S,t (g r4.2 0).S,i (g r4.2 1).I,b (g r4.2 2).B,s (g r4.2 10).L]) else none else bif d (((((g r1.2 2).S.extract (z (g r1.2 1).I) (z (g r1.2 3).I)).size):Int)=1) then bif inb 0 ((g r1.2 2).S.extract (z (g r1.2 1).I) (z (g r1.2 3).I)).size then (c ⟨190,0,0⟩ [i ((((g r1.2 2).S.extract (z (g r1.2 1).I) (z (g r1.2 3).I)).get! (z 0)).toNat)]).bind fun r5=>bif (g r5.2 0).B then bif inb 0 ((g r1.2 2).S.extract (z (g r1.2 1).I) (z (g r1.2 3).I)).size then (c ⟨76,0,0⟩ [i (w .i64 ((w .i64 ((((g r1.2 2).S.extract (z (g r1.2 1).I) (z (g r1.2 3).I)).get! (z 0)).toNat))-48))]).bind fun r6=>(c ⟨191,0,0⟩ [t (m #[40]),t (g r1.2 2).S,i (g r1.2 3).I,b (g r1.2 4).B]).bind fun r7=>bif !(g r7.2 0).B then some (0,[i (g r6.2 0).I,i (g r6.2 1).I,t (g r6.2 2).S,t (g r7.2 1).S,i (g r7.2 2).I,b (g r7.2 3).B,s (g r6.2 3).L]) else (c ⟨139,0,4⟩ [i (g r1.2 0).I,i 0,t (g r7.2 1).S,i (w .i64 ((g r7.2 2).I+1)),b (g r7.2 3).B,i (g r1.2 5).I,i (g r1.2 6).I,t (g r1.2 7).S,i (g r6.2 0).I,i (g r6.2 1).I,t (g r6.2 2).S,s (g r1.2 8).L,s (g r6.2 3).L]).bind fun r8=>bif q r8.1 0 then some (0,[i (g r8.2 6).I,i (g r8.2 7).I,t (g r8.2 8).S,t (g r8.2 0).S,i (g r8.2 1).I,b (g r8.2 2).B,s (g r8.2 10).L]) else none else none else (c ⟨191,0,0⟩ [t (m #[40]),t (g r1.2 2).S,i (g r1.2 3).I,b (g r1.2 4).B]).bind fun r9=>bif !(g r9.2 0).B then some (0,[i 2,i 0,t ((g r1.2 2).S.extract (z (g r1.2 1).I) (z (g r1.2 3).I)),t (g r9.2 1).S,i (g r9.2 2).I,b (g r9.2 3).B,s []]) else (c ⟨139,0,4⟩ [i (g r1.2 0).I,i 0,t (g r9.2 1).S,i (w .i64 ((g r9.2 2).I+1)),b (g r9.2 3).B,i (g r1.2 5).I,i (g r1.2 6).I,t (g r1.2 7).S,i 2,i 0,t ((g r1.2 2).S.extract (z (g r1.2 1).I) (z (g r1.2 3).I)),s (g r1.2 8).L,s []]).bind fun r10=>bif q r10.1 0 then some (0,[i (g r10.2 6).I,i (g r10.2 7).I,t (g r10.2 8).S,t (g r10.2 0).S,i (g r10.2 1).I,b (g r10.2 2).B,s (g r10.2 10).L]) else none else none else (c ⟨191,0,0⟩ [t (m #[40]),t (g r1.2 2).S,i (g r1.2 3).I,b (g r1.2 4).B]).bind fun r11=>bif !(g r11.2 0).B then some (0,[i 2,i 0,t ((g r1.2 2).S.extract (z (g r1.2 1).I) (z (g r1.2 3).I)),t (g r11.2 1).S,i (g r11.2 2).I,b (g r11.2 3).B,s []]) else (c ⟨139,0,4⟩ [i (g r1.2 0).I,i 0,t (g r11.2 1).S,i (w .i64 ((g r11.2 2).I+1)),b (g r11.2 3).B,i (g r1.2 5).I,i (g r1.2 6).I,t (g r1.2 7).S,i 2,i 0,t ((g r1.2 2).S.extract (z (g r1.2 1).I) (z (g r1.2 3).I)),s (g r1.2 8).L,s []]).bind fun r12=>bif q r12.1 0 then some (0,[i (g r12.2 6).I,i (g r12.2 7).I,t (g r12.2 8).S,t (g r12.2 0).S,i (g r12.2 1).I,b (g r12.2 2).B,s (g r12.2 10).L]) else none else none else none),Sd.en hc (.I fun _=>.S fun _=>.I fun _=>.B fun _=>.E (by kernel_rfl))⟩
def Fg:EV:=fun c hc=>⟨⟨139,0,1⟩,pI fun x0=>pI fun x1=>pS fun x2=>pI fun x3=>pB fun x4=>pI fun x5=>pI fun x6=>pS fun x7=>pL fun x8=>pE (bif d (x3<(x2).size) then bif inb x3 (x2).size then bif !d (((((x2).get! (z x3)).toNat):Int)=40) then bif inb x3 (x2).size then bif !d (((((x2).get! (z x3)).toNat):Int)=41) then bif inb x3 (x2).size then bif !d (((((x2).get! (z x3)).toNat):Int)=44) then bif inb x3 (x2).size then bif !d (((((x2).get! (z x3)).toNat):Int)=32) then c ⟨139,0,1⟩ [i x0,i x1,t x2,i (w .i64 (x3+1)),b x4,i x5,i x6,t x7,s x8] else some (0,[i x0,i x1,t x2,i x3,b x4,i x5,i x6,t x7,s x8]) else none else some (0,[i x0,i x1,t x2,i x3,b x4,i x5,i x6,t x7,s x8]) else none else some (0,[i x0,i x1,t x2,i x3,b x4,i x5,i x6,t x7,s x8]) else none else some (0,[i x0,i x1,t x2,i x3,b x4,i x5,i x6,t x7,s x8]) else none else some (0,[i x0,i x1,t x2,i x3,b x4,i x5,i x6,t x7,s x8])),Sd.en hc (.I fun _=>.I fun _=>.S fun _=>.I fun _=>.B fun _=>.I fun _=>.I fun _=>.S fun _=>.L fun _=>.E (by kernel_rfl))⟩
def Fh:EV:=fun c hc=>⟨⟨139,0,4⟩,pI fun x0=>pI fun x1=>pS fun x2=>pI fun x3=>pB fun x4=>pI fun x5=>pI fun x6=>pS fun x7=>pI fun x8=>pI fun x9=>pS fun x10=>pL fun x11=>pL fun x12=>pE (bif !x4 then bif d ((16:Int)<x0) then some (0,[t x2,i x3,b true,i x5,i x6,t x7,i x8,i x9,t x10,s x11,s x12]) else bif d ((60:Int)<x1) then some (0,[t x2,i x3,b true,i x5,i x6,t x7,i x8,i x9,t x10,s x11,s x12]) else (c ⟨139,0,0⟩ [i (w .i64 (x0+1)),t x2,i x3,b x4]).bind fun r1=>bif l (x12.length+(([[i (g r1.2 0).I,i (g r1.2 1).I,t (g r1.2 2).S,s (g r1.2 6).L]]:ak)).length) M63 then (c ⟨191,0,0⟩ [t (m #[41]),t (g r1.2 3).S,i (g r1.2 4).I,b (g r1.2 5).B]).bind fun r2=>bif (g r2.2 0).B then some (0,[t (g r2.2 1).S,i (w .i64 ((g r2.2 2).I+1)),b (g r2.2 3).B,i x5,i x6,t x7,i x8,i x9,t x10,s x11,s (x12++([[i (g r1.2 0).I,i (g r1.2 1).I,t (g r1.2 2).S,s (g r1.2 6).L]]:ak))]) else bif (g r2.2 3).B then c ⟨139,0,4⟩ [i x0,i (w .i64 (x1+1)),t (g r2.2 1).S,i (w .i64 ((g r2.2 2).I+2)),b true,i x5,i x6,t x7,i x8,i x9,t x10,s x11,s (x12++([[i (g r1.2 0).I,i (g r1.2 1).I,t (g r1.2 2).S,s (g r1.2 6).L]]:ak))] else (c ⟨191,0,0⟩ [t (m #[44,32]),t (g r2.2 1).S,i (g r2.2 2).I,b (g r2.2 3).B]).bind fun r3=>c ⟨139,0,4⟩ [i x0,i (w .i64 (x1+1)),t (g r3.2 1).S,i (w .i64 ((g r3.2 2).I+2)),b (!(g r3.2 0).B),i x5,i x6,t x7,i x8,i x9,t x10,s x11,s (x12++([[i (g r1.2 0).I,i (g r1.2 1).I,t (g r1.2 2).S,s (g r1.2 6).L]]:ak))] else none else some (0,[t x2,i x3,b x4,i x5,i x6,t x7,i x8,i x9,t x10,s x11,s x12])),Sd.en hc (.I fun _=>.I fun _=>.S fun _=>.I fun _=>.B fun _=>.I fun _=>.I fun _=>.S fun _=>.I fun _=>.I fun _=>.S fun _=>.L fun _=>.L fun _=>.E (by kernel_rfl))⟩
def Fi:EV:=fun c hc=>⟨⟨140,0,0⟩,pI fun x0=>pE (bif d ((97:Int)<=x0) then some (0,[b (d (x0<=122))]) else some (0,[b false])),Sd.en hc (.I fun _=>.E (by kernel_rfl))⟩
def Fj:EV:=fun c hc=>⟨⟨141,0,0⟩,pS fun x0=>pE ((c ⟨141,0,1⟩ [t x0,i 1]).bind fun r1=>bif q r1.1 0 then (c ⟨24,0,0⟩ [i ((g r1.2 0).S.size),i 1,i 8]).bind fun r2=>some (0,[b (g r2.2 0).B]) else bif q r1.1 1 then some (0,[b false]) else none),Sd.en hc (.S fun _=>.E (by kernel_rfl))⟩
def Fk:EV:=fun c hc=>⟨⟨141,0,1⟩,pS fun x0=>pI fun x1=>pE (bif d (x1<(x0).size) then bif inb x1 (x0).size then (c ⟨140,0,0⟩ [i (((x0).get! (z x1)).toNat)]).bind fun r1=>bif !(g r1.2 0).B then bif inb x1 (x0).size then (c ⟨190,0,0⟩ [i (((x0).get! (z x1)).toNat)]).bind fun r2=>bif !(g r2.2 0).B then some (1,[]) else c ⟨141,0,1⟩ [t x0,i (w .i64 (x1+1))] else none else c ⟨141,0,1⟩ [t x0,i (w .i64 (x1+1))] else none else some (0,[t x0])),Sd.en hc (.S fun _=>.I fun _=>.E (by kernel_rfl))⟩
def Fl:EV:=fun c hc=>⟨⟨142,0,0⟩,pI fun x0=>pE ((c ⟨24,0,0⟩ [i x0,i 1,i 3]).bind fun r1=>bif !(g r1.2 0).B then some (0,[t (m #[])]) else bif inb x0 (([[t (m #[])],[t (m #[32,61,61,32])],[t (m #[32,33,61,32])],[t (m #[32,60,32])]]:ak)).length then some (0,[t (g (p ([[t (m #[])],[t (m #[32,61,61,32])],[t (m #[32,33,61,32])],[t (m #[32,60,32])]]:ak) (z x0)) 0).S]) else none),Sd.en hc (.I fun _=>.E (by kernel_rfl))⟩
def Fm:EV:=fun c hc=>⟨⟨144,0,0⟩,pS fun x0=>pI fun x1=>pI fun x2=>pE (bif d (((x0).size:Int)<1) then some (0,[b false]) else bif d ((8:Int)<(x0).size) then some (0,[b false]) else bif inb 0 (x0).size then bif d (((((x0).get! (z 0)).toNat):Int)<x1) then some (0,[b false]) else bif inb 0 (x0).size then bif d (x2<(((x0).get! (z 0)).toNat)) then some (0,[b false]) else (c ⟨144,0,1⟩ [t x0,i 1]).bind fun r1=>bif q r1.1 0 then some (0,[b true]) else bif q r1.1 1 then some (0,[b false]) else none else none else none),Sd.en hc (.S fun _=>.I fun _=>.I fun _=>.E (by kernel_rfl))⟩
def Fo:EV:=fun c hc=>⟨⟨144,0,1⟩,pS fun x0=>pI fun x1=>pE (bif d (x1<(x0).size) then bif inb x1 (x0).size then bif d (((((x0).get! (z x1)).toNat):Int)<97) then bif inb x1 (x0).size then bif d (((((x0).get! (z x1)).toNat):Int)<48) then some (1,[]) else bif inb x1 (x0).size then bif d ((57:Int)<(((x0).get! (z x1)).toNat)) then some (1,[]) else c ⟨144,0,1⟩ [t x0,i (w .i64 (x1+1))] else none else none else bif inb x1 (x0).size then bif d ((122:Int)<(((x0).get! (z x1)).toNat)) then bif inb x1 (x0).size then bif d (((((x0).get! (z x1)).toNat):Int)<48) then some (1,[]) else bif inb x1 (x0).size then bif d ((57:Int)<(((x0).get! (z x1)).toNat)) then some (1,[]) else c ⟨144,0,1⟩ [t x0,i (w .i64 (x1+1))] else none else none else c ⟨144,0,1⟩ [t x0,i (w .i64 (x1+1))] else none else none else some (0,[])),Sd.en hc (.S fun _=>.I fun _=>.E (by kernel_rfl))⟩
def Fq:EV:=fun c hc=>⟨⟨145,0,0⟩,pS fun x0=>pE ((c ⟨193,0,0⟩ [t x0]).bind fun r1=>(c ⟨101,0,0⟩ [t (g r1.2 0).S]).bind fun r2=>bif (g r2.2 1).B then some (0,[i 3,i (g r2.2 0).I,t (m #[]),b (d (((g r2.2 0).I:Int)<4)),t (g r1.2 1).S,s []]) else (c ⟨194,0,0⟩ [t (g r1.2 0).S]).bind fun r3=>bif (g r3.2 0).B then some (0,[i 1,i 0,t (g r1.2 0).S,b true,t (g r1.2 1).S,s []]) else (c ⟨94,0,0⟩ [t (g r1.2 0).S]).bind fun r4=>bif !(g r4.2 0).B then some (0,[i 0,i 0,t (m #[]),b false,t (g r1.2 1).S,s []]) else (c ⟨195,0,0⟩ [t (m #[40]),t (g r1.2 1).S]).bind fun r5=>bif !(g r5.2 0).B then some (0,[i 2,i 0,t (g r1.2 0).S,b true,t (g r5.2 1).S,s []]) else (c ⟨145,0,1⟩ [t (g r5.2 1).S,i 0,i 0,t (m #[]),i 2,i 0,t (g r1.2 0).S,s [],s []]).bind fun r6=>bif q r6.1 0 then some (0,[i (g r6.2 2).I,i (g r6.2 3).I,t (g r6.2 4).S,b (g r6.2 0).B,t (g r6.2 1).S,s (g r6.2 5).L]) else none),Sd.en hc (.S fun _=>.E (by kernel_rfl))⟩
def Fr:EV:=fun c hc=>⟨⟨145,0,1⟩,pS fun x0=>pI fun x1=>pI fun x2=>pS fun x3=>pI fun x4=>pI fun x5=>pS fun x6=>pL fun x7=>pL fun x8=>pE ((c ⟨145,0,0⟩ [t x0]).bind fun r1=>bif !(g r1.2 3).B then some (0,[b false,t (g r1.2 4).S,i 0,i 0,t (m #[]),s []]) else bif l (x8.length+(([[i (g r1.2 0).I,i (g r1.2 1).I,t (g r1.2 2).S,s (g r1.2 5).L]]:ak)).length) M63 then (c ⟨195,0,0⟩ [t (m #[41]),t (g r1.2 4).S]).bind fun r2=>bif (g r2.2 0).B then some (0,[b true,t (g r2.2 1).S,i x4,i x5,t x6,s (x8++([[i (g r1.2 0).I,i (g r1.2 1).I,t (g r1.2 2).S,s (g r1.2 5).L]]:ak))]) else (c ⟨195,0,0⟩ [t (m #[44,32]),t (g r2.2 1).S]).bind fun r3=>bif !(g r3.2 0).B then some (0,[b false,t (g r3.2 1).S,i 0,i 0,t (m #[]),s []]) else c ⟨145,0,1⟩ [t (g r3.2 1).S,i x1,i x2,t x3,i x4,i x5,t x6,s x7,s (x8++([[i (g r1.2 0).I,i (g r1.2 1).I,t (g r1.2 2).S,s (g r1.2 5).L]]:ak))] else none),Sd.en hc (.S fun _=>.I fun _=>.I fun _=>.S fun _=>.I fun _=>.I fun _=>.S fun _=>.L fun _=>.L fun _=>.E (by kernel_rfl))⟩
def Fs:EV:=fun c hc=>⟨⟨146,0,0⟩,pI fun x0=>pI fun x1=>pS fun x2=>pL fun x3=>pE ((c ⟨196,0,0⟩ [i x0,i x1,t x2,s x3]).bind fun r1=>bif d (((g r1.2 0).I:Int)<=60) then (c ⟨197,0,0⟩ [i x0,i x1,t x2,s x3]).bind fun r2=>bif d (((g r2.2 0).I:Int)<=16) then (c ⟨198,0,0⟩ [i x0,i x1,t x2,s x3]).bind fun r3=>some (0,[b (g r3.2 0).B]) else some (0,[b false]) else some (0,[b false])),Sd.en hc (.I fun _=>.I fun _=>.S fun _=>.L fun _=>.E (by kernel_rfl))⟩
def Ft:EV:=fun c hc=>⟨⟨148,0,0⟩,pI fun x0=>pE (bif inb (w .i64 (x0-1)) (([[t (m #[32,61,61,32])],[t (m #[32,33,61,32])],[t (m #[32,60,32])]]:ak)).length then some (0,[t (g (p ([[t (m #[32,61,61,32])],[t (m #[32,33,61,32])],[t (m #[32,60,32])]]:ak) (z (w .i64 (x0-1)))) 0).S]) else none),Sd.en hc (.I fun _=>.E (by kernel_rfl))⟩
def Fu:EV:=fun c hc=>⟨⟨150,0,0⟩,pS fun x0=>pI fun x1=>pI fun x2=>pE ((c ⟨206,0,0⟩ [t x0]).bind fun r1=>bif (g r1.2 1).B then some (0,[i 0,b false]) else bif d (((g r1.2 0).I:Int)<x1) then some (0,[i 0,b false]) else bif d (x2<(g r1.2 0).I) then some (0,[i 0,b false]) else (c ⟨161,0,0⟩ [i (g r1.2 0).I]).bind fun r2=>bif !d ((g r2.2 0).S=x0) then some (0,[i 0,b false]) else some (0,[i (g r1.2 0).I,b true])),Sd.en hc (.S fun _=>.I fun _=>.I fun _=>.E (by kernel_rfl))⟩
def Fv:En H Tryz.prog:=⟨⟨161,0,0⟩,zt 0,fun l r h=>by
 show rn _ _=_
 rw [rn_eq]; exact h⟩
def Fw:EV:=fun c hc=>⟨⟨177,0,0⟩,pI fun x0=>pI fun x1=>pS fun x2=>pL fun x3=>pE (bif d (x0=3) then (c ⟨82,0,0⟩ [i x1]).bind fun r1=>some (0,[t (g r1.2 0).S]) else (c ⟨177,0,1⟩ [t x2,i 0,i x0,i x1,t x2,s x3]).bind fun r2=>bif q r2.1 0 then bif d ((0:Int)<(g r2.2 4).L.length) then bif d ((g r2.2 0).S.size+(m #[41]).size<=dz) then some (0,[t ((g r2.2 0).S++(m #[41]))]) else none else some (0,[t (g r2.2 0).S]) else none),Sd.en hc (.I fun _=>.I fun _=>.S fun _=>.L fun _=>.E (by kernel_rfl))⟩
def Fy:EV:=fun c hc=>⟨⟨177,0,1⟩,pS fun x0=>pI fun x1=>pI fun x2=>pI fun x3=>pS fun x4=>pL fun x5=>pE (bif d (x1<x5.length) then bif d (x1=0) then bif d (x0.size+(m #[40]).size<=dz) then bif inb x1 x5.length then (c ⟨177,0,0⟩ [i (g (p x5 (z x1)) 0).I,i (g (p x5 (z x1)) 1).I,t (g (p x5 (z x1)) 2).S,s (g (p x5 (z x1)) 3).L]).bind fun r1=>bif d ((x0++(m #[40])).size+(g r1.2 0).S.size<=dz) then c ⟨177,0,1⟩ [t ((x0++(m #[40]))++(g r1.2 0).S),i (w .i64 (x1+1)),i x2,i x3,t x4,s x5] else none else none else none else bif d (x0.size+(m #[44,32]).size<=dz) then bif inb x1 x5.length then (c ⟨177,0,0⟩ [i (g (p x5 (z x1)) 0).I,i (g (p x5 (z x1)) 1).I,t (g (p x5 (z x1)) 2).S,s (g (p x5 (z x1)) 3).L]).bind fun r2=>bif d ((x0++(m #[44,32])).size+(g r2.2 0).S.size<=dz) then c ⟨177,0,1⟩ [t ((x0++(m #[44,32]))++(g r2.2 0).S),i (w .i64 (x1+1)),i x2,i x3,t x4,s x5] else none else none else none else some (0,[t x0,i x2,i x3,t x4,s x5])),Sd.en hc (.S fun _=>.I fun _=>.I fun _=>.I fun _=>.S fun _=>.L fun _=>.E (by kernel_rfl))⟩
def Ge:EV:=fun c hc=>⟨⟨178,0,0⟩,pI fun x0=>pI fun x1=>pS fun x2=>pL fun x3=>pI fun x4=>pE ((c ⟨178,0,1⟩ [i (w .i64 (x4-1)),i 0,i x0,i x1,t x2,s x3]).bind fun r1=>bif q r1.1 0 then some (0,[i (g r1.2 0).I]) else none),Sd.en hc (.I fun _=>.I fun _=>.S fun _=>.L fun _=>.I fun _=>.E (by kernel_rfl))⟩
def Gf:EV:=fun c hc=>⟨⟨178,0,1⟩,pI fun x0=>pI fun x1=>pI fun x2=>pI fun x3=>pS fun x4=>pL fun x5=>pE (bif d (x1<x5.length) then bif d ((0:Int)<=x0) then bif inb x1 x5.length then (c ⟨178,0,0⟩ [i (g (p x5 (z x1)) 0).I,i (g (p x5 (z x1)) 1).I,t (g (p x5 (z x1)) 2).S,s (g (p x5 (z x1)) 3).L,i x0]).bind fun r1=>c ⟨178,0,1⟩ [i (g r1.2 0).I,i (w .i64 (x1+1)),i x2,i x3,t x4,s x5] else none else some (0,[i x0]) else some (0,[i x0])),Sd.en hc (.I fun _=>.I fun _=>.I fun _=>.I fun _=>.S fun _=>.L fun _=>.E (by kernel_rfl))⟩
def Gg:EV:=fun c hc=>⟨⟨179,0,0⟩,pI fun x0=>pI fun x1=>pS fun x2=>pL fun x3=>pE ((c ⟨179,0,1⟩ [i 0,i 0,i x0,i x1,t x2,s x3]).bind fun r1=>bif q r1.1 0 then some (0,[i (w .i64 ((g r1.2 0).I+1))]) else none),Sd.en hc (.I fun _=>.I fun _=>.S fun _=>.L fun _=>.E (by kernel_rfl))⟩
def Gi:EV:=fun c hc=>⟨⟨179,0,1⟩,pI fun x0=>pI fun x1=>pI fun x2=>pI fun x3=>pS fun x4=>pL fun x5=>pE (bif d (x1<x5.length) then bif inb x1 x5.length then (c ⟨179,0,0⟩ [i (g (p x5 (z x1)) 0).I,i (g (p x5 (z x1)) 1).I,t (g (p x5 (z x1)) 2).S,s (g (p x5 (z x1)) 3).L]).bind fun r1=>(c ⟨133,0,0⟩ [i x0,i (g r1.2 0).I]).bind fun r2=>c ⟨179,0,1⟩ [i (g r2.2 0).I,i (w .i64 (x1+1)),i x2,i x3,t x4,s x5] else none else some (0,[i x0])),Sd.en hc (.I fun _=>.I fun _=>.I fun _=>.I fun _=>.S fun _=>.L fun _=>.E (by kernel_rfl))⟩
def Gj:EV:=fun c hc=>⟨⟨180,0,0⟩,pI fun x0=>pI fun x1=>pS fun x2=>pL fun x3=>pE ((c ⟨180,0,1⟩ [i 0,i x0,i x1,t x2,s x3]).bind fun r1=>bif q r1.1 0 then (c ⟨228,0,0⟩ [i (g r1.2 0).I,i (g r1.2 1).I,t (g r1.2 2).S,s (g r1.2 3).L]).bind fun r2=>some (0,[b (g r2.2 0).B]) else bif q r1.1 1 then some (0,[b false]) else none),Sd.en hc (.I fun _=>.I fun _=>.S fun _=>.L fun _=>.E (by kernel_rfl))⟩
def Gk:EV:=fun c hc=>⟨⟨180,0,1⟩,pI fun x0=>pI fun x1=>pI fun x2=>pS fun x3=>pL fun x4=>pE (bif d (x0<x4.length) then bif inb x0 x4.length then (c ⟨180,0,0⟩ [i (g (p x4 (z x0)) 0).I,i (g (p x4 (z x0)) 1).I,t (g (p x4 (z x0)) 2).S,s (g (p x4 (z x0)) 3).L]).bind fun r1=>bif !(g r1.2 0).B then some (1,[]) else c ⟨180,0,1⟩ [i (w .i64 (x0+1)),i x1,i x2,t x3,s x4] else none else some (0,[i x1,i x2,t x3,s x4])),Sd.en hc (.I fun _=>.I fun _=>.I fun _=>.S fun _=>.L fun _=>.E (by kernel_rfl))⟩
def Gl:EV:=fun c hc=>⟨⟨189,0,0⟩,pS fun x0=>pE (bif !d (x0=(m #[])) then bif inb 0 (x0).size then bif d ((65:Int)<=(((x0).get! (z 0)).toNat)) then bif inb 0 (x0).size then bif d (((((x0).get! (z 0)).toNat):Int)<=90) then (c ⟨141,0,0⟩ [t x0]).bind fun r1=>some (0,[b (g r1.2 0).B]) else some (0,[b false]) else none else some (0,[b false]) else none else some (0,[b false])),Sd.en hc (.S fun _=>.E (by kernel_rfl))⟩
def Gm:EV:=fun c hc=>⟨⟨190,0,0⟩,pI fun x0=>pE (bif d ((48:Int)<=x0) then some (0,[b (d (x0<=57))]) else some (0,[b false])),Sd.en hc (.I fun _=>.E (by kernel_rfl))⟩
def Gn:EV:=fun c hc=>⟨⟨191,0,0⟩,pS fun x0=>pS fun x1=>pI fun x2=>pB fun x3=>pE (bif d (((w .i64 (x2+(x0).size)):Int)<=(x1).size) then bif d ((0:Int)<=x2)&&(d (x2<=w .i64 (x2+(x0).size))&&d ((w .i64 (x2+(x0).size):Int)<=(x1).size)) then some (0,[b (d (((x1).extract (z x2) (z (w .i64 (x2+(x0).size))))=x0)),t x1,i x2,b x3]) else none else some (0,[b false,t x1,i x2,b x3])),Sd.en hc (.S fun _=>.S fun _=>.I fun _=>.B fun _=>.E (by kernel_rfl))⟩
def Gp:EV:=fun c hc=>⟨⟨193,0,0⟩,pS fun x0=>pE ((c ⟨193,0,1⟩ [i 0,t x0]).bind fun r1=>bif q r1.1 0 then bif d ((0:Int)<=0)&&(d ((0:Int)<=(g r1.2 0).I)&&d (((g r1.2 0).I:Int)<=(g r1.2 1).S.size)) then bif d ((0:Int)<=(g r1.2 0).I)&&(d (((g r1.2 0).I:Int)<=((g r1.2 1).S.size:Nat))&&d ((((g r1.2 1).S.size:Nat):Int)<=(g r1.2 1).S.size)) then some (0,[t ((g r1.2 1).S.extract (z 0) (z (g r1.2 0).I)),t ((g r1.2 1).S.extract (z (g r1.2 0).I) (z ((g r1.2 1).S.size:Nat)))]) else none else none else none),Sd.en hc (.S fun _=>.E (by kernel_rfl))⟩
def Gq:EV:=fun c hc=>⟨⟨193,0,1⟩,pI fun x0=>pS fun x1=>pE (bif d (x0<(x1).size) then bif inb x0 (x1).size then bif d ((97:Int)<=(((x1).get! (z x0)).toNat)) then bif inb x0 (x1).size then bif d (((((x1).get! (z x0)).toNat):Int)<=122) then c ⟨193,0,1⟩ [i (w .i64 (x0+1)),t x1] else bif inb x0 (x1).size then bif d ((65:Int)<=(((x1).get! (z x0)).toNat)) then bif inb x0 (x1).size then bif d (((((x1).get! (z x0)).toNat):Int)<=90) then c ⟨193,0,1⟩ [i (w .i64 (x0+1)),t x1] else bif inb x0 (x1).size then bif d ((48:Int)<=(((x1).get! (z x0)).toNat)) then bif inb x0 (x1).size then bif d (((((x1).get! (z x0)).toNat):Int)<=57) then c ⟨193,0,1⟩ [i (w .i64 (x0+1)),t x1] else some (0,[i x0,t x1]) else none else some (0,[i x0,t x1]) else none else none else bif inb x0 (x1).size then bif d ((48:Int)<=(((x1).get! (z x0)).toNat)) then bif inb x0 (x1).size then bif d (((((x1).get! (z x0)).toNat):Int)<=57) then c ⟨193,0,1⟩ [i (w .i64 (x0+1)),t x1] else some (0,[i x0,t x1]) else none else some (0,[i x0,t x1]) else none else none else none else bif inb x0 (x1).size then bif d ((65:Int)<=(((x1).get! (z x0)).toNat)) then bif inb x0 (x1).size then bif d (((((x1).get! (z x0)).toNat):Int)<=90) then c ⟨193,0,1⟩ [i (w .i64 (x0+1)),t x1] else bif inb x0 (x1).size then bif d ((48:Int)<=(((x1).get! (z x0)).toNat)) then bif inb x0 (x1).size then bif d (((((x1).get! (z x0)).toNat):Int)<=57) then c ⟨193,0,1⟩ [i (w .i64 (x0+1)),t x1] else some (0,[i x0,t x1]) else none else some (0,[i x0,t x1]) else none else none else bif inb x0 (x1).size then bif d ((48:Int)<=(((x1).get! (z x0)).toNat)) then bif inb x0 (x1).size then bif d (((((x1).get! (z x0)).toNat):Int)<=57) then c ⟨193,0,1⟩ [i (w .i64 (x0+1)),t x1] else some (0,[i x0,t x1]) else none else some (0,[i x0,t x1]) else none else none else none else some (0,[i x0,t x1])),Sd.en hc (.I fun _=>.S fun _=>.E (by kernel_rfl))⟩
def Gs:EV:=fun c hc=>⟨⟨194,0,0⟩,pS fun x0=>pE ((c ⟨144,0,0⟩ [t x0,i 65,i 90]).bind fun r1=>some (0,[b (g r1.2 0).B])),Sd.en hc (.S fun _=>.E (by kernel_rfl))⟩
def Gv:EV:=fun c hc=>⟨⟨195,0,0⟩,pS fun x0=>pS fun x1=>pE ((c ⟨93,0,0⟩ [t x1,t x0]).bind fun r1=>bif (g r1.2 1).B then some (0,[b (g r1.2 1).B,t (g r1.2 0).S]) else some (0,[b (g r1.2 1).B,t x1])),Sd.en hc (.S fun _=>.S fun _=>.E (by kernel_rfl))⟩
def Gw:EV:=fun c hc=>⟨⟨196,0,0⟩,pI fun x0=>pI fun x1=>pS fun x2=>pL fun x3=>pE ((c ⟨196,0,1⟩ [i 1,s x3,i x3.length,i 0]).bind fun r1=>bif q r1.1 0 then some (0,[i (g r1.2 0).I]) else none),Sd.en hc (.I fun _=>.I fun _=>.S fun _=>.L fun _=>.E (by kernel_rfl))⟩
def Gx:EV:=fun c hc=>⟨⟨196,0,1⟩,pI fun x0=>pL fun x1=>pI fun x2=>pI fun x3=>pE (bif d (x3<x2) then bif inb x3 x1.length then (c ⟨196,0,0⟩ [i (g (p x1 (z x3)) 0).I,i (g (p x1 (z x3)) 1).I,t (g (p x1 (z x3)) 2).S,s (g (p x1 (z x3)) 3).L]).bind fun r1=>c ⟨196,0,1⟩ [i (w .i64 (x0+(g r1.2 0).I)),s x1,i x2,i (w .i64 (x3+1))] else none else some (0,[i x0])),Sd.en hc (.I fun _=>.L fun _=>.I fun _=>.I fun _=>.E (by kernel_rfl))⟩
def Gy:EV:=fun c hc=>⟨⟨197,0,0⟩,pI fun x0=>pI fun x1=>pS fun x2=>pL fun x3=>pE ((c ⟨197,0,1⟩ [i 0,s x3,i x3.length,i 0]).bind fun r1=>bif q r1.1 0 then some (0,[i (w .i64 ((g r1.2 0).I+1))]) else none),Sd.en hc (.I fun _=>.I fun _=>.S fun _=>.L fun _=>.E (by kernel_rfl))⟩
def Gz:EV:=fun c hc=>⟨⟨197,0,1⟩,pI fun x0=>pL fun x1=>pI fun x2=>pI fun x3=>pE (bif d (x3<x2) then bif inb x3 x1.length then (c ⟨197,0,0⟩ [i (g (p x1 (z x3)) 0).I,i (g (p x1 (z x3)) 1).I,t (g (p x1 (z x3)) 2).S,s (g (p x1 (z x3)) 3).L]).bind fun r1=>c ⟨197,0,1⟩ [i (bif d ((g r1.2 0).I > x0) then (g r1.2 0).I else x0),s x1,i x2,i (w .i64 (x3+1))] else none else some (0,[i x0])),Sd.en hc (.I fun _=>.L fun _=>.I fun _=>.I fun _=>.E (by kernel_rfl))⟩
def Ha:EV:=fun c hc=>⟨⟨198,0,0⟩,pI fun x0=>pI fun x1=>pS fun x2=>pL fun x3=>pE (bif d (x0=1) then bif d (x1=0) then bif d ((x3.length:Int)=0) then (c ⟨194,0,0⟩ [t x2]).bind fun r1=>some (0,[b (g r1.2 0).B]) else some (0,[b false]) else some (0,[b false]) else bif d (x0=3) then (c ⟨232,0,0⟩ [i x0,i x1,t x2,s x3]).bind fun r2=>some (0,[b (g r2.2 0).B]) else bif d (x0=2) then bif !d (x1=0) then some (0,[b false]) else (c ⟨94,0,0⟩ [t x2]).bind fun r3=>bif !(g r3.2 0).B then some (0,[b false]) else (c ⟨198,0,2⟩ [s x3,i x3.length,i 0]).bind fun r4=>bif q r4.1 0 then some (0,[b true]) else bif q r4.1 1 then some (0,[b false]) else none else some (0,[b false])),Sd.en hc (.I fun _=>.I fun _=>.S fun _=>.L fun _=>.E (by kernel_rfl))⟩
def Hb:EV:=fun c hc=>⟨⟨198,0,2⟩,pL fun x0=>pI fun x1=>pI fun x2=>pE (bif d (x2<x1) then bif inb x2 x0.length then (c ⟨198,0,0⟩ [i (g (p x0 (z x2)) 0).I,i (g (p x0 (z x2)) 1).I,t (g (p x0 (z x2)) 2).S,s (g (p x0 (z x2)) 3).L]).bind fun r1=>bif !(g r1.2 0).B then some (1,[]) else c ⟨198,0,2⟩ [s x0,i x1,i (w .i64 (x2+1))] else none else some (0,[])),Sd.en hc (.L fun _=>.I fun _=>.I fun _=>.E (by kernel_rfl))⟩
def Hc:En H Tryz.prog:=⟨⟨206,0,0⟩,If 0,fun l r h=>by
 show rn _ _=_
 rw [rn_eq]; exact h⟩
def Hd:EV:=fun c hc=>⟨⟨228,0,0⟩,pI fun x0=>pI fun x1=>pS fun x2=>pL fun x3=>pE (bif d (x0=1) then (c ⟨189,0,0⟩ [t x2]).bind fun r1=>bif (g r1.2 0).B then bif d (x1=0) then some (0,[b (d ((x3.length:Int)=0))]) else some (0,[b false]) else some (0,[b false]) else bif d (x0=2) then (c ⟨90,0,0⟩ [t x2]).bind fun r2=>bif (g r2.2 0).B then some (0,[b (d (x1=0))]) else some (0,[b false]) else bif d (x0=3) then bif d (x2=(m #[])) then (c ⟨24,0,0⟩ [i x1,i 0,i 3]).bind fun r3=>bif (g r3.2 0).B then some (0,[b (d ((x3.length:Int)=0))]) else some (0,[b false]) else some (0,[b false]) else some (0,[b false])),Sd.en hc (.I fun _=>.I fun _=>.S fun _=>.L fun _=>.E (by kernel_rfl))⟩
def He:EV:=fun c hc=>⟨⟨232,0,0⟩,pI fun x0=>pI fun x1=>pS fun x2=>pL fun x3=>pE (bif d (x0=3) then bif d ((0:Int)<=x1) then bif d (x1<4) then bif d (x2=(m #[])) then some (0,[b (d ((x3.length:Int)=0))]) else some (0,[b false]) else some (0,[b false]) else some (0,[b false]) else some (0,[b false])),Sd.en hc (.I fun _=>.I fun _=>.S fun _=>.L fun _=>.E (by kernel_rfl))⟩
def tb (c:CF) (hc:OkC H Tryz.prog c):List (En H Tryz.prog):=[Nf,Ng,Nh,Ni,Nj,Je,Jf,Jg,Jh,Ji,Jj,Jk,Jl,Jm,Jn,Jo,Jp,Jq,Jr,Js,Jt,Ju,Jv,Jw,Jx,Jy,Jz,Ka,Kb,Kc,Kd,Ke,Kf,Kg,Kh,Ki,Kj,Kk,Kl,Km,Kn,Kp,Kq,Kr,Ks,Kt,Ku,Kv,Kw,Kx,Ky,Kz,La,Lb,Ld,Le,Lg,Lh,Li,Fb,Fc,Fd,Fe,Ff,Fg,Fh,Fi,Fj,Fk,Fl,Fm,Fo,Fq,Fr,Fs,Ft,Fu,Fw,Fy,Ge,Gf,Gg,Gi,Gj,Gk,Gl,Gm,Gn,Gp,Gq,Gs,Gv,Gw,Gx,Gy,Gz,Ha,Hb,Hd,He].map (fun f=>f c hc)++[Ko,Lc,Lf,Fv,Hc]
end
end Go.Q.S
end
section
namespace Go.Proofs
open Go.Shelf
def Tryz.lays145_ren:Go.Shelf.Ren:=⟨fun | 145=>63 | 220=>100 | 219=>149 | 217=>202 | 225=>203 | 224=>204 | 267=>205 | 266=>236 | 314=>237 | n=>n,fun | 9=>9 | 4=>4 | 59=>104 | 3=>3 | 5=>5 | 46=>168 | 146=>243 | 51=>242 | n=>n,fun | 1=>0 | n=>n⟩
theorem Tryz.lays145:Go.Proofs.Lays.n145 Tryz.prog Tryz.lays145_ren:={
 mixed:=by kernel_rfl
 f145:=Tryz.func63.trans (congrArg some (by kernel_rfl))
 f217:=Tryz.func202.trans (congrArg some (by kernel_rfl))
 f219:=Tryz.func149.trans (congrArg some (by kernel_rfl))
 f220:=Tryz.func100.trans (congrArg some (by kernel_rfl))
 f224:=Tryz.func204.trans (congrArg some (by kernel_rfl))
 f225:=Tryz.func203.trans (congrArg some (by kernel_rfl))
 f266:=Tryz.func236.trans (congrArg some (by kernel_rfl))
 f267:=Tryz.func205.trans (congrArg some (by kernel_rfl))
 f314:=Tryz.func237.trans (congrArg some (by kernel_rfl))
 t3:=Tryz.underlying3
 a3:=Tryz.isAgg3
 z3:=Tryz.sizeOf3
 v3:=Tryz.zeroValue3
 t4:=Tryz.underlying4
 a4:=Tryz.isAgg4
 z4:=Tryz.sizeOf4
 v4:=Tryz.zeroValue4
 t5:=Tryz.underlying5
 a5:=Tryz.isAgg5
 z5:=Tryz.sizeOf5
 v5:=Tryz.zeroValue5
 t9:=Tryz.underlying9
 a9:=Tryz.isAgg9
 z9:=Tryz.sizeOf9
 v9:=Tryz.zeroValue9
 t46:=Tryz.underlying168
 a46:=Tryz.isAgg168
 z46:=Tryz.sizeOf168
 v46:=Tryz.zeroValue168
 t51:=Tryz.underlying242
 a51:=Tryz.isAgg242
 z51:=Tryz.sizeOf242
 v51:=Tryz.zeroValue242
 t59:=Tryz.underlying104
 a59:=Tryz.isAgg104
 z59:=Tryz.sizeOf104
 v59:=Tryz.zeroValue104
 t146:=Tryz.underlying243
 a146:=Tryz.isAgg243
 z146:=Tryz.sizeOf243
 v146:=Tryz.zeroValue243
 g1:=by kernel_rfl }
def Tryz.lays103_ren:Go.Shelf.Ren:=⟨fun | 103=>93 | 210=>143 | 206=>192 | n=>n,fun | 9=>9 | 4=>4 | 24=>143 | 3=>3 | n=>n,fun | n=>n⟩
theorem Tryz.lays103:Go.Proofs.Lays.n103 Tryz.prog Tryz.lays103_ren:={
 mixed:=by kernel_rfl
 f103:=Tryz.func93.trans (congrArg some (by kernel_rfl))
 f206:=Tryz.func192.trans (congrArg some (by kernel_rfl))
 f210:=Tryz.func143.trans (congrArg some (by kernel_rfl))
 t3:=Tryz.underlying3
 a3:=Tryz.isAgg3
 z3:=Tryz.sizeOf3
 v3:=Tryz.zeroValue3
 t4:=Tryz.underlying4
 a4:=Tryz.isAgg4
 z4:=Tryz.sizeOf4
 v4:=Tryz.zeroValue4
 t9:=Tryz.underlying9
 a9:=Tryz.isAgg9
 z9:=Tryz.sizeOf9
 v9:=Tryz.zeroValue9
 t24:=Tryz.underlying143
 a24:=Tryz.isAgg143
 z24:=Tryz.sizeOf143
 v24:=Tryz.zeroValue143 }
def Tryz.lays146_ren:Go.Shelf.Ren:=⟨fun | 146=>96 | 221=>147 | 268=>199 | 138=>200 | 143=>201 | 195=>233 | 197=>234 | 218=>235 | 219=>149 | 260=>251 | 217=>202 | 225=>203 | 224=>204 | 267=>205 | 266=>236 | 314=>237 | n=>n,fun | 9=>9 | 31=>22 | 3=>3 | 4=>4 | 0=>0 | 105=>240 | 21=>21 | 5=>5 | 46=>168 | 119=>272 | 139=>275 | 138=>274 | 146=>243 | 51=>242 | n=>n,fun | 1=>0 | 3=>1 | 4=>2 | n=>n⟩
theorem Tryz.lays146:Go.Proofs.Lays.n146 Tryz.prog Tryz.lays146_ren:={
 mixed:=by kernel_rfl
 f138:=Tryz.func200.trans (congrArg some (by kernel_rfl))
 f143:=Tryz.func201.trans (congrArg some (by kernel_rfl))
 f146:=Tryz.func96.trans (congrArg some (by kernel_rfl))
 f195:=Tryz.func233.trans (congrArg some (by kernel_rfl))
 f197:=Tryz.func234.trans (congrArg some (by kernel_rfl))
 f217:=Tryz.func202.trans (congrArg some (by kernel_rfl))
 f218:=Tryz.func235.trans (congrArg some (by kernel_rfl))
 f219:=Tryz.func149.trans (congrArg some (by kernel_rfl))
 f221:=Tryz.func147.trans (congrArg some (by kernel_rfl))
 f224:=Tryz.func204.trans (congrArg some (by kernel_rfl))
 f225:=Tryz.func203.trans (congrArg some (by kernel_rfl))
 f260:=Tryz.func251.trans (congrArg some (by kernel_rfl))
 f266:=Tryz.func236.trans (congrArg some (by kernel_rfl))
 f267:=Tryz.func205.trans (congrArg some (by kernel_rfl))
 f268:=Tryz.func199.trans (congrArg some (by kernel_rfl))
 f314:=Tryz.func237.trans (congrArg some (by kernel_rfl))
 t0:=Tryz.underlying0
 a0:=Tryz.isAgg0
 z0:=Tryz.sizeOf0
 v0:=Tryz.zeroValue0
 t3:=Tryz.underlying3
 a3:=Tryz.isAgg3
 z3:=Tryz.sizeOf3
 v3:=Tryz.zeroValue3
 t4:=Tryz.underlying4
 a4:=Tryz.isAgg4
 z4:=Tryz.sizeOf4
 v4:=Tryz.zeroValue4
 t5:=Tryz.underlying5
 a5:=Tryz.isAgg5
 z5:=Tryz.sizeOf5
 v5:=Tryz.zeroValue5
 t9:=Tryz.underlying9
 a9:=Tryz.isAgg9
 z9:=Tryz.sizeOf9
 v9:=Tryz.zeroValue9
 t21:=Tryz.underlying21
 a21:=Tryz.isAgg21
 z21:=Tryz.sizeOf21
 v21:=Tryz.zeroValue21
 t31:=Tryz.underlying22
 a31:=Tryz.isAgg22
 z31:=Tryz.sizeOf22
 v31:=Tryz.zeroValue22
 t46:=Tryz.underlying168
 a46:=Tryz.isAgg168
 z46:=Tryz.sizeOf168
 v46:=Tryz.zeroValue168
 t51:=Tryz.underlying242
 a51:=Tryz.isAgg242
 z51:=Tryz.sizeOf242
 v51:=Tryz.zeroValue242
 t105:=Tryz.underlying240
 a105:=Tryz.isAgg240
 z105:=Tryz.sizeOf240
 v105:=Tryz.zeroValue240
 t119:=Tryz.underlying272
 a119:=Tryz.isAgg272
 z119:=Tryz.sizeOf272
 t138:=Tryz.underlying274
 a138:=Tryz.isAgg274
 z138:=Tryz.sizeOf274
 v138:=Tryz.zeroValue274
 t139:=Tryz.underlying275
 a139:=Tryz.isAgg275
 z139:=Tryz.sizeOf275
 v139:=Tryz.zeroValue275
 t146:=Tryz.underlying243
 a146:=Tryz.isAgg243
 z146:=Tryz.sizeOf243
 v146:=Tryz.zeroValue243
 g1:=by kernel_rfl
 g3:=by kernel_rfl
 g4:=by kernel_rfl }
def Tryz.lays171_ren:Go.Shelf.Ren:=⟨fun | 171=>161 | 243=>214 | 246=>242 | 283=>268 | 284=>269 | 285=>270 | 286=>271 | 129=>267 | 317=>286 | 318=>287 | 319=>288 | 320=>289 | 337=>295 | 338=>296 | n=>n,fun | 3=>3 | 9=>9 | 2=>2 | 4=>4 | 171=>267 | 0=>0 | 53=>266 | 37=>46 | 5=>5 | 173=>269 | 212=>289 | 51=>242 | 20=>20 | 213=>290 | 46=>168 | 232=>300 | 233=>301 | n=>n,fun | 17=>5 | 18=>6 | 19=>7 | n=>n⟩
theorem Tryz.lays171:Go.Proofs.Lays.n171 Tryz.prog Tryz.lays171_ren:={
 mixed:=by kernel_rfl
 f129:=Tryz.func267.trans (congrArg some (by kernel_rfl))
 f171:=Tryz.func161.trans (congrArg some (by kernel_rfl))
 f243:=Tryz.func214.trans (congrArg some (by kernel_rfl))
 f246:=Tryz.func242.trans (congrArg some (by kernel_rfl))
 f283:=Tryz.func268.trans (congrArg some (by kernel_rfl))
 f284:=Tryz.func269.trans (congrArg some (by kernel_rfl))
 f285:=Tryz.func270.trans (congrArg some (by kernel_rfl))
 f286:=Tryz.func271.trans (congrArg some (by kernel_rfl))
 f317:=Tryz.func286.trans (congrArg some (by kernel_rfl))
 f318:=Tryz.func287.trans (congrArg some (by kernel_rfl))
 f319:=Tryz.func288.trans (congrArg some (by kernel_rfl))
 f320:=Tryz.func289.trans (congrArg some (by kernel_rfl))
 f337:=Tryz.func295.trans (congrArg some (by kernel_rfl))
 f338:=Tryz.func296.trans (congrArg some (by kernel_rfl))
 t0:=Tryz.underlying0
 a0:=Tryz.isAgg0
 z0:=Tryz.sizeOf0
 v0:=Tryz.zeroValue0
 t2:=Tryz.underlying2
 a2:=Tryz.isAgg2
 z2:=Tryz.sizeOf2
 v2:=Tryz.zeroValue2
 t3:=Tryz.underlying3
 a3:=Tryz.isAgg3
 z3:=Tryz.sizeOf3
 v3:=Tryz.zeroValue3
 t4:=Tryz.underlying4
 a4:=Tryz.isAgg4
 z4:=Tryz.sizeOf4
 v4:=Tryz.zeroValue4
 t5:=Tryz.underlying5
 a5:=Tryz.isAgg5
 z5:=Tryz.sizeOf5
 v5:=Tryz.zeroValue5
 t9:=Tryz.underlying9
 a9:=Tryz.isAgg9
 z9:=Tryz.sizeOf9
 v9:=Tryz.zeroValue9
 t20:=Tryz.underlying20
 a20:=Tryz.isAgg20
 z20:=Tryz.sizeOf20
 v20:=Tryz.zeroValue20
 t37:=Tryz.underlying46
 a37:=Tryz.isAgg46
 z37:=Tryz.sizeOf46
 v37:=Tryz.zeroValue46
 t46:=Tryz.underlying168
 a46:=Tryz.isAgg168
 z46:=Tryz.sizeOf168
 v46:=Tryz.zeroValue168
 t51:=Tryz.underlying242
 a51:=Tryz.isAgg242
 z51:=Tryz.sizeOf242
 v51:=Tryz.zeroValue242
 t53:=Tryz.underlying266
 a53:=Tryz.isAgg266
 z53:=Tryz.sizeOf266
 v53:=Tryz.zeroValue266
 t171:=Tryz.underlying267
 a171:=Tryz.isAgg267
 z171:=Tryz.sizeOf267
 v171:=Tryz.zeroValue267
 t173:=Tryz.underlying269
 a173:=Tryz.isAgg269
 z173:=Tryz.sizeOf269
 v173:=Tryz.zeroValue269
 t212:=Tryz.underlying289
 a212:=Tryz.isAgg289
 z212:=Tryz.sizeOf289
 v212:=Tryz.zeroValue289
 t213:=Tryz.underlying290
 a213:=Tryz.isAgg290
 z213:=Tryz.sizeOf290
 t232:=Tryz.underlying300
 a232:=Tryz.isAgg300
 z232:=Tryz.sizeOf300
 v232:=Tryz.zeroValue300
 t233:=Tryz.underlying301
 a233:=Tryz.isAgg301
 z233:=Tryz.sizeOf301
 v233:=Tryz.zeroValue301
 g17:=by kernel_rfl
 g18:=by kernel_rfl
 g19:=by kernel_rfl }
def Tryz.laysC172_ren:Go.Shelf.Ren:=⟨fun | 172=>206 | 244=>238 | 245=>239 | 247=>252 | 279=>253 | 280=>254 | 281=>255 | 282=>256 | 287=>277 | 316=>278 | 171=>161 | 205=>279 | 321=>292 | 322=>293 | 243=>214 | 246=>242 | 283=>268 | 284=>269 | 285=>270 | 286=>271 | 129=>267 | 317=>286 | 318=>287 | 319=>288 | 320=>289 | 337=>295 | 338=>296 | n=>n,fun | 9=>9 | 3=>3 | 75=>156 | 76=>157 | 4=>4 | 5=>5 | 167=>251 | 37=>46 | 0=>0 | 85=>252 | 2=>2 | 168=>254 | 53=>266 | 175=>276 | 46=>168 | 210=>280 | 127=>204 | 145=>295 | 143=>293 | 21=>21 | 171=>267 | 173=>269 | 212=>289 | 51=>242 | 20=>20 | 213=>290 | 232=>300 | 233=>301 | 80=>159 | n=>n,fun | 15=>3 | 16=>4 | 17=>5 | 18=>6 | 19=>7 | n=>n⟩
theorem Tryz.laysC172:Go.Proofs.LaysC.n172 Tryz.prog Tryz.laysC172_ren:={
 mixed:=by kernel_rfl
 f129:=Tryz.func267.trans (congrArg some (by kernel_rfl))
 f171:=Tryz.func161.trans (congrArg some (by kernel_rfl))
 f172:=Tryz.func206.trans (congrArg some (by kernel_rfl))
 f205:=Tryz.func279.trans (congrArg some (by kernel_rfl))
 f243:=Tryz.func214.trans (congrArg some (by kernel_rfl))
 f244:=Tryz.func238.trans (congrArg some (by kernel_rfl))
 f245:=Tryz.func239.trans (congrArg some (by kernel_rfl))
 f246:=Tryz.func242.trans (congrArg some (by kernel_rfl))
 f247:=Tryz.func252.trans (congrArg some (by kernel_rfl))
 f279:=Tryz.func253.trans (congrArg some (by kernel_rfl))
 f280:=Tryz.func254.trans (congrArg some (by kernel_rfl))
 f281:=Tryz.func255.trans (congrArg some (by kernel_rfl))
 f282:=Tryz.func256.trans (congrArg some (by kernel_rfl))
 f283:=Tryz.func268.trans (congrArg some (by kernel_rfl))
 f284:=Tryz.func269.trans (congrArg some (by kernel_rfl))
 f285:=Tryz.func270.trans (congrArg some (by kernel_rfl))
 f286:=Tryz.func271.trans (congrArg some (by kernel_rfl))
 f287:=Tryz.func277.trans (congrArg some (by kernel_rfl))
 f316:=Tryz.func278.trans (congrArg some (by kernel_rfl))
 f317:=Tryz.func286.trans (congrArg some (by kernel_rfl))
 f318:=Tryz.func287.trans (congrArg some (by kernel_rfl))
 f319:=Tryz.func288.trans (congrArg some (by kernel_rfl))
 f320:=Tryz.func289.trans (congrArg some (by kernel_rfl))
 f321:=Tryz.func292.trans (congrArg some (by kernel_rfl))
 f322:=Tryz.func293.trans (congrArg some (by kernel_rfl))
 f337:=Tryz.func295.trans (congrArg some (by kernel_rfl))
 f338:=Tryz.func296.trans (congrArg some (by kernel_rfl))
 t0:=Tryz.underlying0
 a0:=Tryz.isAgg0
 z0:=Tryz.sizeOf0
 v0:=Tryz.zeroValue0
 t2:=Tryz.underlying2
 a2:=Tryz.isAgg2
 z2:=Tryz.sizeOf2
 v2:=Tryz.zeroValue2
 t3:=Tryz.underlying3
 a3:=Tryz.isAgg3
 z3:=Tryz.sizeOf3
 v3:=Tryz.zeroValue3
 t4:=Tryz.underlying4
 a4:=Tryz.isAgg4
 z4:=Tryz.sizeOf4
 v4:=Tryz.zeroValue4
 t5:=Tryz.underlying5
 a5:=Tryz.isAgg5
 z5:=Tryz.sizeOf5
 v5:=Tryz.zeroValue5
 t9:=Tryz.underlying9
 a9:=Tryz.isAgg9
 z9:=Tryz.sizeOf9
 v9:=Tryz.zeroValue9
 t20:=Tryz.underlying20
 a20:=Tryz.isAgg20
 z20:=Tryz.sizeOf20
 v20:=Tryz.zeroValue20
 t21:=Tryz.underlying21
 a21:=Tryz.isAgg21
 z21:=Tryz.sizeOf21
 v21:=Tryz.zeroValue21
 t37:=Tryz.underlying46
 a37:=Tryz.isAgg46
 z37:=Tryz.sizeOf46
 v37:=Tryz.zeroValue46
 t46:=Tryz.underlying168
 a46:=Tryz.isAgg168
 z46:=Tryz.sizeOf168
 v46:=Tryz.zeroValue168
 t51:=Tryz.underlying242
 a51:=Tryz.isAgg242
 z51:=Tryz.sizeOf242
 v51:=Tryz.zeroValue242
 t53:=Tryz.underlying266
 a53:=Tryz.isAgg266
 z53:=Tryz.sizeOf266
 v53:=Tryz.zeroValue266
 t75:=Tryz.underlying156
 a75:=Tryz.isAgg156
 z75:=Tryz.sizeOf156
 v75:=Tryz.zeroValue156
 t76:=Tryz.underlying157
 a76:=Tryz.isAgg157
 z76:=Tryz.sizeOf157
 v76:=Tryz.zeroValue157
 t85:=Tryz.underlying252
 a85:=Tryz.isAgg252
 z85:=Tryz.sizeOf252
 v85:=Tryz.zeroValue252
 t127:=Tryz.underlying204
 a127:=Tryz.isAgg204
 z127:=Tryz.sizeOf204
 v127:=Tryz.zeroValue204
 t143:=Tryz.underlying293
 a143:=Tryz.isAgg293
 z143:=Tryz.sizeOf293
 v143:=Tryz.zeroValue293
 t145:=Tryz.underlying295
 a145:=Tryz.isAgg295
 z145:=Tryz.sizeOf295
 v145:=Tryz.zeroValue295
 t167:=Tryz.underlying251
 a167:=Tryz.isAgg251
 z167:=Tryz.sizeOf251
 v167:=Tryz.zeroValue251
 t168:=Tryz.underlying254
 a168:=Tryz.isAgg254
 z168:=Tryz.sizeOf254
 v168:=Tryz.zeroValue254
 t171:=Tryz.underlying267
 a171:=Tryz.isAgg267
 z171:=Tryz.sizeOf267
 v171:=Tryz.zeroValue267
 t173:=Tryz.underlying269
 a173:=Tryz.isAgg269
 z173:=Tryz.sizeOf269
 v173:=Tryz.zeroValue269
 t175:=Tryz.underlying276
 a175:=Tryz.isAgg276
 z175:=Tryz.sizeOf276
 v175:=Tryz.zeroValue276
 t210:=Tryz.underlying280
 a210:=Tryz.isAgg280
 z210:=Tryz.sizeOf280
 v210:=Tryz.zeroValue280
 t212:=Tryz.underlying289
 a212:=Tryz.isAgg289
 z212:=Tryz.sizeOf289
 v212:=Tryz.zeroValue289
 t213:=Tryz.underlying290
 a213:=Tryz.isAgg290
 z213:=Tryz.sizeOf290
 t232:=Tryz.underlying300
 a232:=Tryz.isAgg300
 z232:=Tryz.sizeOf300
 v232:=Tryz.zeroValue300
 t233:=Tryz.underlying301
 a233:=Tryz.isAgg301
 z233:=Tryz.sizeOf301
 v233:=Tryz.zeroValue301
 g15:=by kernel_rfl
 g16:=by kernel_rfl
 g17:=by kernel_rfl
 g18:=by kernel_rfl
 g19:=by kernel_rfl
 t80:=Tryz.underlying159
 a80:=Tryz.isAgg159
 z80:=Tryz.sizeOf159
 v80:=Tryz.zeroValue159
 i0:=by kernel_rfl
 i2:=by kernel_rfl
 i3:=by kernel_rfl
 i4:=by kernel_rfl
 i5:=by kernel_rfl
 i9:=by kernel_rfl
 i20:=by kernel_rfl
 i21:=by kernel_rfl
 i37:=by kernel_rfl
 i46:=by kernel_rfl
 i51:=by kernel_rfl
 i53:=by kernel_rfl
 i75:=by kernel_rfl
 i76:=by kernel_rfl
 i80:=by kernel_rfl
 i85:=by kernel_rfl
 i127:=by kernel_rfl
 i143:=by kernel_rfl
 i145:=by kernel_rfl
 i167:=by kernel_rfl
 i168:=by kernel_rfl
 i171:=by kernel_rfl
 i173:=by kernel_rfl
 i175:=by kernel_rfl
 i210:=by kernel_rfl
 i212:=by kernel_rfl
 i232:=by kernel_rfl
 i233:=by kernel_rfl
 m15:=by kernel_rfl
 m16:=by kernel_rfl
 m17:=by kernel_rfl
 m18:=by kernel_rfl
 m19:=by kernel_rfl
 c0:=by kernel_rfl
 c2:=by kernel_rfl
 c3:=by kernel_rfl
 c4:=by kernel_rfl
 c5:=by kernel_rfl
 c9:=by kernel_rfl
 c20:=by kernel_rfl
 c21:=by kernel_rfl
 c37:=by kernel_rfl
 c46:=by kernel_rfl
 c51:=by kernel_rfl
 c53:=by kernel_rfl
 c75:=by kernel_rfl
 c76:=by kernel_rfl
 c80:=by kernel_rfl
 c85:=by kernel_rfl
 c127:=by kernel_rfl
 c143:=by kernel_rfl
 c145:=by kernel_rfl
 c167:=by kernel_rfl
 c168:=by kernel_rfl
 c171:=by kernel_rfl
 c173:=by kernel_rfl
 c175:=by kernel_rfl
 c210:=by kernel_rfl
 c212:=by kernel_rfl
 c213:=by kernel_rfl
 c232:=by kernel_rfl
 c233:=by kernel_rfl }
end Go.Proofs
namespace Go.Q.S
open Go Go.Q Go.Proofs
theorem ka:∀ {l:List (Nat×Nat×KI)} {v n:Nat} {i:KI},kiF l v n=some i->∃ a b,(a,b,i)∈l
 | [],v,n,i,h=>by simp [kiF] at h
 | (a,b,x)::r,v,n,i,h=>by
  unfold kiF at h;cases hb:C2 a v&&C2 b n with
  | true=>rw [hb] at h; simp only [H1,B7.injEq] at h; exact ⟨a,b,by rw [h]; exact B5 ..⟩
  | false =>
   rw [hb] at h;obtain ⟨a',b',h'⟩:=ka h;exact ⟨a',b',B6 _ h'⟩
theorem Nk:∀ f g,H.ext f=some g->∀ v ls x,g v ls=some x->FnT Tryz.prog H ⟨f,v,0⟩ ls x:=fun f g h v ls x hx=>by
 have h:ai Nd f=some g:=h;simp only [Nd,ai] at h;cases h1:C2 63 f with
 | true =>
  rw [h1] at h;simp only [H1,B7.injEq] at h;subst h;obtain rfl:=ay.1 h1;refine Ik Go.Proofs.Tryz.lays145 rfl (q:=Ig) (B5 ..) (fun _ h=>h) Tryz.func63 (fun he=>by cases he) (of_decide_eq_false (by kernel_rfl)) (fun i hi=>?_) hx
  obtain ⟨a,b,hm⟩:=ka (l:=[(0,0,⟨[(0,.str),(1,.str)],[],[⟨.ret,[(0,.str),(1,.str),(2,.bool)],[]⟩]⟩)]) hi;simp only [C1,J4,or_false,Prod.mk.injEq] at hm;exact hm.2.2
 | false =>
 rw [h1] at h;simp only [H2] at h;cases h1:C2 93 f with
 | true =>
  rw [h1] at h;simp only [H1,B7.injEq] at h;subst h;obtain rfl:=ay.1 h1;refine Ij Go.Proofs.Tryz.lays103 rfl Tryz.func93 (fun he=>by cases he) (of_decide_eq_false (by kernel_rfl)) (fun i hi=>?_) hx
  obtain ⟨a,b,hm⟩:=ka (l:=[(0,0,⟨[(0,.str),(1,.str)],[],[⟨.ret,[(0,.str),(1,.bool)],[]⟩]⟩)]) hi;simp only [C1,J4,or_false,Prod.mk.injEq] at hm;exact hm.2.2
 | false =>
 rw [h1] at h;simp only [H2] at h;cases h1:C2 96 f with
 | true =>
  rw [h1] at h;simp only [H1,B7.injEq] at h;subst h;obtain rfl:=ay.1 h1;refine Im Go.Proofs.Tryz.lays146 rfl (by kernel_rfl) (q:=Ig) (B5 ..) (fun _ h=>h) (E:=9) (fl:=[]) rfl Tryz.func96 (fun he=>by cases he) (of_decide_eq_false (by kernel_rfl)) (fun i hi=>?_) hx
  obtain ⟨a,b,hm⟩:=ka (l:=[(0,0,⟨[(0,.str),(1,.str)],[],[⟨.ret,[(0,.hd 16)],[(16,.arr 9 .deep)]⟩]⟩)]) hi;simp only [C1,J4,or_false,Prod.mk.injEq] at hm;exact hm.2.2
 | false =>
 rw [h1] at h;simp only [H2] at h;cases h1:C2 161 f with
 | true =>
  rw [h1] at h;simp only [H1,B7.injEq] at h;subst h;obtain rfl:=ay.1 h1;refine Bl Go.Proofs.Tryz.lays171 rfl Tryz.func161 (fun he=>by cases he) (of_decide_eq_false (by kernel_rfl)) (fun i hi=>?_) hx
  obtain ⟨a,b,hm⟩:=ka (l:=[(0,0,⟨[(0,.int .i64)],[],[⟨.ret,[(0,.str)],[]⟩]⟩)]) hi;simp only [C1,J4,or_false,Prod.mk.injEq] at hm;exact hm.2.2
 | false =>
 rw [h1] at h;simp only [H2] at h;cases h1:C2 206 f with
 | true =>
  rw [h1] at h;simp only [H1,B7.injEq] at h;subst h;obtain rfl:=ay.1 h1;refine Il Go.Proofs.Tryz.laysC172 rfl (q:=Ih) (B6 _ (B5 ..)) (fun _ h=>h) Tryz.func206 (fun he=>by cases he) (of_decide_eq_false (by kernel_rfl)) (fun i hi=>?_) hx
  obtain ⟨a,b,hm⟩:=ka (l:=[(0,0,⟨[(0,.str)],[],[⟨.ret,[(0,.int .i64),(1,.err)],[]⟩]⟩)]) hi;simp only [C1,J4,or_false,Prod.mk.injEq] at hm;exact hm.2.2
 | false =>
 rw [h1] at h;simp only [H2] at h;simp at h
theorem Oe:Hu Tryz.prog H where
 ty:=Hx (l:=tyL) (fun _=>rfl) (by kernel_rfl)
 eq:=Hy (l:=eqL) (fun _=>rfl) (by kernel_rfl)
 mixed:=Tryz.checked.mixed
 names:=Ds (by kernel_rfl)
 ext:=Nk
end Go.Q.S
end
