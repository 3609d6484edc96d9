/- The functions of this seat, as that machine runs them. -/
import Derived.Test.YtebncngjklhbfaaGreatftX
set_option linter.unusedVariables false
namespace Go.Q.S
open Go Go.Q Go.Proofs
open Go.Q.D renaming int->i,sl->s,str->t,bool->b
open Go.Q renaming nth->g,rowAt->p
open Int renaming toNat->z
open Go.IntKind renaming wrap->w
open Decidable renaming decide->d
open Nat renaming beq->q,ble->l
open _root_.ByteArray renaming mk->m
theorem e213_0_0 (x0:Rows) (x1:ByteArray):rn ⟨213,0,0⟩ [s x0,t x1] =
 (rn ⟨213,0,1⟩ [s x0,t x1,i x0.length,i 0]).bind fun r1=>bif q r1.1 0 then some (0,[i (-1)]) else bif q r1.1 1 then some (0,[i (g r1.2 0).I]) else none:=eE (by kernel_rfl)
theorem e213_0_1 (x0:Rows) (x1:ByteArray) (x2 x3:Int):rn ⟨213,0,1⟩ [s x0,t x1,i x2,i x3] =
 bif d (x3<x2) then bif inb x3 x0.length then bif d (x1=(g (p x0 (z x3)) 0).S) then some (1,[i x3]) else rn ⟨213,0,1⟩ [s x0,t x1,i x2,i (w .i64 (x3+1))] else none else some (0,[]):=eE (by kernel_rfl)
theorem e214_1_0 (x0 x1:Rows) (x2 x3:Int) (x4:ByteArray) (x5:Rows) (x6:ByteArray) (x7:Rows):rn ⟨214,1,0⟩ [s x0,s x1,i x2,i x3,t x4,s x5,t x6,s x7] =
 bif d (x2=1) then (rn ⟨214,1,1⟩ [t x6,i x7.length,i 0,s x7,i x2,i x3,t x4,s x5]).bind fun r1=>bif q r1.1 0 then bif l ((g r1.2 1).L.length+(([[t (g r1.2 4).S,t (g r1.2 0).S]]:Rows)).length) M63 then some (0,[b true,s ((g r1.2 1).L++([[t (g r1.2 4).S,t (g r1.2 0).S]]:Rows))]) else none else bif q r1.1 1 then some (0,[b (g r1.2 0).B,s (g r1.2 1).L]) else none else bif d (x2=2) then (rn ⟨140,0,0⟩ [s x0,s x1,t x4]).bind fun r2=>(rn ⟨214,1,3⟩ [s x5,i x5.length,i 0,s x7,s x0,s x1,t (g r2.2 0).S,t (g r2.2 1).S,s (g r2.2 3).L]).bind fun r3=>bif q r3.1 0 then some (0,[b true,s (g r3.2 0).L]) else bif q r3.1 1 then some (0,[b false,s (g r3.2 0).L]) else none else (rn ⟨214,1,3⟩ [s x5,i x5.length,i 0,s x7,s x0,s x1,t (m #[]),t (m #[]),s []]).bind fun r4=>bif q r4.1 0 then some (0,[b true,s (g r4.2 0).L]) else bif q r4.1 1 then some (0,[b false,s (g r4.2 0).L]) else none:=eE (by kernel_rfl)
theorem e214_1_1 (x0:ByteArray) (x1 x2:Int) (x3:Rows) (x4 x5:Int) (x6:ByteArray) (x7:Rows):rn ⟨214,1,1⟩ [t x0,i x1,i x2,s x3,i x4,i x5,t x6,s x7] =
 bif d (x2<x1) then bif inb x2 x3.length then bif d ((g (p x3 (z x2)) 0).S=x6) then some (1,[b (d ((g (p x3 (z x2)) 1).S=x0)),s x3]) else rn ⟨214,1,1⟩ [t x0,i x1,i (w .i64 (x2+1)),s x3,i x4,i x5,t x6,s x7] else none else some (0,[t x0,s x3,i x4,i x5,t x6,s x7]):=eE (by kernel_rfl)
theorem e214_1_3 (x0:Rows) (x1 x2:Int) (x3 x4 x5:Rows) (x6 x7:ByteArray) (x8:Rows):rn ⟨214,1,3⟩ [s x0,i x1,i x2,s x3,s x4,s x5,t x6,t x7,s x8] =
 bif d (x2<x1) then bif inb x2 x0.length then bif d (x2<x8.length) then bif inb x2 x8.length then (rn ⟨214,1,0⟩ [s x4,s x5,i (g (p x0 (z x2)) 0).I,i (g (p x0 (z x2)) 1).I,t (g (p x0 (z x2)) 2).S,s (g (p x0 (z x2)) 3).L,t (g (p x8 (z x2)) 0).S,s x3]).bind fun r1=>bif !(g r1.2 0).B then some (1,[s []]) else rn ⟨214,1,3⟩ [s x0,i x1,i (w .i64 (x2+1)),s (g r1.2 1).L,s x4,s x5,t x6,t x7,s x8] else none else (rn ⟨214,1,0⟩ [s x4,s x5,i (g (p x0 (z x2)) 0).I,i (g (p x0 (z x2)) 1).I,t (g (p x0 (z x2)) 2).S,s (g (p x0 (z x2)) 3).L,t (m #[]),s x3]).bind fun r2=>bif !(g r2.2 0).B then some (1,[s []]) else rn ⟨214,1,3⟩ [s x0,i x1,i (w .i64 (x2+1)),s (g r2.2 1).L,s x4,s x5,t x6,t x7,s x8] else none else some (0,[s x3]):=eE (by kernel_rfl)
theorem e215_0_0 (x0:Int):rn ⟨215,0,0⟩ [i x0] =
 bif d ((1:Int)<=x0) then some (0,[b (d (x0<=3))]) else some (0,[b false]):=eE (by kernel_rfl)
theorem e216_0_0 (x0 x1:Rows) (x2:ByteArray):rn ⟨216,0,0⟩ [s x0,s x1,t x2] =
 bif d (x2=(m #[119,111,114,100])) then some (0,[b true]) else (rn ⟨181,0,0⟩ [s x0,t x2]).bind fun r1=>some (0,[b (d ((0:Int)<=(g r1.2 0).I))]):=eE (by kernel_rfl)
theorem e219_0_0 (x0:Int):rn ⟨219,0,0⟩ [i x0] =
 bif d ((48:Int)<=x0) then some (0,[b (d (x0<=57))]) else some (0,[b false]):=eE (by kernel_rfl)
end Go.Q.S
