/- The functions of this seat, as that machine runs them. -/
import Derived.Test.YtmocpniibpnniaaGreatfgX
set_option linter.unusedVariables false
namespace Go.Q.S
open Go Go.Q Go.Proofs
open Go.Q.D renaming int->i,sl->s,str->t,bool->b
open Go.Q renaming nth->g,rowAt->p
open Int renaming toNat->z
open Go.IntKind renaming wrap->w
open Decidable renaming decide->d
open Nat renaming beq->q,ble->l
open _root_.ByteArray renaming mk->m
theorem e164_0_0 (x0 x1:Int) (x2:ByteArray) (x3:Rows) (x4 x5:Int) (x6:ByteArray) (x7:Rows):rn ⟨164,0,0⟩ [i x0,i x1,t x2,s x3,i x4,i x5,t x6,s x7] =
 (rn ⟨168,1,0⟩ [i x0,i x1,t x2,s x3,i x4,i x5,t x6,s x7,s ([]:Rows)]).bind fun r1=>bif q r1.1 0 then bif !(g r1.2 0).B then some (0,[b false,s ([]:Rows)]) else (rn ⟨113,0,0⟩ [i x0,i x1,t x2,s x3]).bind fun r2=>(rn ⟨169,0,0⟩ [s (g r1.2 1).L,s (g r2.2 0).L]).bind fun r3=>some (0,[b true,s (g r3.2 0).L]) else bif q r1.1 1 then some (0,[b false,s ([]:Rows)]) else none:=eE (by kernel_rfl)
theorem e168_1_0 (x0 x1:Int) (x2:ByteArray) (x3:Rows) (x4 x5:Int) (x6:ByteArray) (x7 x8:Rows):rn ⟨168,1,0⟩ [i x0,i x1,t x2,s x3,i x4,i x5,t x6,s x7,s x8] =
 bif d (x0=1) then (rn ⟨51,0,0⟩ [s x8,t x2]).bind fun r1=>bif (g r1.2 3).B then (rn ⟨13,0,0⟩ [i (g r1.2 0).I,i (g r1.2 1).I,t (g r1.2 2).S,s (g r1.2 4).L,i x4,i x5,t x6,s x7]).bind fun r2=>some (0,[b (g r2.2 0).B,s x8]) else (rn ⟨32,0,0⟩ [i x4,i x5,t x6,s x7]).bind fun r3=>bif l (x8.length+(([[t x2,i (g r3.2 0).I,i (g r3.2 1).I,t (g r3.2 2).S,s (g r3.2 3).L]]:Rows)).length) M63 then some (0,[b true,s (x8++([[t x2,i (g r3.2 0).I,i (g r3.2 1).I,t (g r3.2 2).S,s (g r3.2 3).L]]:Rows))]) else none else bif !d (x0=x4) then some (0,[b false,s x8]) else bif !d (x1=x5) then some (0,[b false,s x8]) else bif !d (x2=x6) then some (0,[b false,s x8]) else bif !d ((x3.length:Int)=x7.length) then some (0,[b false,s x8]) else (rn ⟨168,1,1⟩ [i 0,s x8,i x0,i x1,t x2,s x3,i x4,i x5,t x6,s x7]).bind fun r4=>bif q r4.1 0 then some (0,[b true,s (g r4.2 0).L]) else bif q r4.1 1 then some (1,[]) else none:=eE (by kernel_rfl)
theorem e168_1_1 (x0:Int) (x1:Rows) (x2 x3:Int) (x4:ByteArray) (x5:Rows) (x6 x7:Int) (x8:ByteArray) (x9:Rows):rn ⟨168,1,1⟩ [i x0,s x1,i x2,i x3,t x4,s x5,i x6,i x7,t x8,s x9] =
 bif d (x0<x5.length) then bif inb x0 x5.length then bif inb x0 x9.length then (rn ⟨168,1,0⟩ [i (g (p x5 (z x0)) 0).I,i (g (p x5 (z x0)) 1).I,t (g (p x5 (z x0)) 2).S,s (g (p x5 (z x0)) 3).L,i (g (p x9 (z x0)) 0).I,i (g (p x9 (z x0)) 1).I,t (g (p x9 (z x0)) 2).S,s (g (p x9 (z x0)) 3).L,s x1]).bind fun r1=>bif q r1.1 0 then bif !(g r1.2 0).B then some (1,[]) else rn ⟨168,1,1⟩ [i (w .i64 (x0+1)),s (g r1.2 1).L,i x2,i x3,t x4,s x5,i x6,i x7,t x8,s x9] else bif q r1.1 1 then some (1,[]) else none else none else none else some (0,[s x1]):=eE (by kernel_rfl)
theorem e169_0_0 (x0 x1:Rows):rn ⟨169,0,0⟩ [s x0,s x1] =
 (rn ⟨140,0,0⟩ [s x1]).bind fun r1=>(rn ⟨169,0,1⟩ [s x0,i 0,s ([]:Rows),s (g r1.2 0).L]).bind fun r2=>bif q r2.1 0 then some (0,[s (g r2.2 0).L]) else none:=eE (by kernel_rfl)
theorem e169_0_1 (x0:Rows) (x1:Int) (x2 x3:Rows):rn ⟨169,0,1⟩ [s x0,i x1,s x2,s x3] =
 bif d (x1<x3.length) then bif inb x1 x3.length then (rn ⟨51,0,0⟩ [s x0,t (g (p x3 (z x1)) 0).S]).bind fun r1=>bif (g r1.2 3).B then bif inb x1 x3.length then bif l (x2.length+(([[t (g (p x3 (z x1)) 0).S,i (g r1.2 0).I,i (g r1.2 1).I,t (g r1.2 2).S,s (g r1.2 4).L]]:Rows)).length) M63 then rn ⟨169,0,1⟩ [s x0,i (w .i64 (x1+1)),s (x2++([[t (g (p x3 (z x1)) 0).S,i (g r1.2 0).I,i (g r1.2 1).I,t (g r1.2 2).S,s (g r1.2 4).L]]:Rows)),s x3] else none else none else rn ⟨169,0,1⟩ [s x0,i (w .i64 (x1+1)),s x2,s x3] else none else some (0,[s x2]):=eE (by kernel_rfl)
end Go.Q.S
