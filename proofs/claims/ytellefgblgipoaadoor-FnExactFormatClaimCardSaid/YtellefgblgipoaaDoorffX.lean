/- The functions of this seat, as that machine runs them. -/
import Derived.Test.YtellefgblgipoaaDoorQC
import Derived.Test.YtellefgblgipoaaDoorProg
set_option linter.unusedVariables false
namespace Go.Q.S
open Go Go.Q Go.Proofs
def eqL:List Nat:=[]
def tyL:List (Nat×TI):=[(3,⟨false,[.int .i64],[]⟩),
 (4,⟨false,[.bool],[]⟩),
 (5,⟨false,[.int .u8],[]⟩),
 (9,⟨false,[.str],[]⟩),
 (22,⟨false,[.sl 9],[]⟩),
 (23,⟨false,[.sl 25],[]⟩),
 (25,⟨true,[.int .i64,.int .i64,.str,.sl 25],[(0,3),(1,3),(2,9),(3,23)]⟩),
 (26,⟨false,[.sl 56],[]⟩),
 (28,⟨true,[.sl 9,.int .i64,.int .i64,.str,.sl 25,.int .i64,.int .i64,.str,.sl 25,.sl 56],[(0,22),(1,25),(5,25),(9,26)]⟩),
 (31,⟨false,[.sl 33],[]⟩),
 (33,⟨true,[.int .i64,.int .i64,.str,.sl 33],[(0,3),(1,3),(2,9),(3,31)]⟩),
 (34,⟨false,[.sl 60],[]⟩),
 (36,⟨true,[.sl 9,.int .i64,.int .i64,.str,.sl 33,.int .i64,.int .i64,.str,.sl 33,.sl 60],[(0,22),(1,33),(5,33),(9,34)]⟩),
 (45,⟨true,[.str,.int .i64,.int .i64,.str,.sl 33,.int .i64,.int .i64,.str,.sl 33,.sl 60],[(0,9),(1,33),(5,33),(9,34)]⟩),
 (56,⟨true,[.int .i64,.int .i64,.int .i64,.str,.sl 25,.int .i64,.int .i64,.str,.sl 25],[(0,3),(1,25),(5,25)]⟩),
 (60,⟨true,[.int .i64,.int .i64,.int .i64,.str,.sl 33,.int .i64,.int .i64,.str,.sl 33],[(0,3),(1,33),(5,33)]⟩),
 (73,⟨false,[.sl 5],[]⟩)]
abbrev zi:Sh:=.int .i64
abbrev zg0:Sh:=.agg [zi,zi,.str,.im 33]
abbrev zg1:Sh:=.agg [.im 9,zi,zi,.str,.im 33,zi,zi,.str,.im 33,.im 60]
abbrev zg2:Sh:=.agg [zi,zi,zi,.str,.im 33,zi,zi,.str,.im 33]
abbrev zg3:Sh:=.agg [.im 9,zi,zi,.str,.im 25,zi,zi,.str,.im 25,.im 56]
abbrev zb0:OSh:=.box [zi,zi,.str,.im 33]
abbrev za0:OSh:=.arr 33 .deep
abbrev za1:OSh:=.arr 9 .deep
def kiL:List (Nat×List (Nat×Nat×KI)):=[(3,[(0,0,⟨[(0,zg3)],[],[⟨.ret,[(0,.bool)],[]⟩]⟩)]),
 (4,[(0,0,⟨[(0,zg3),(1,zi)],[],[⟨.ret,[(0,zi)],[]⟩]⟩)]),
 (5,[(0,0,⟨[(0,zg1)],[],[⟨.ret,[(0,.str)],[]⟩]⟩)]),
 (6,[(0,0,⟨[(0,zg3)],[],[⟨.ret,[(0,.agg [.hd 16,zi,zi,.str,.hd 17,zi,zi,.str,.hd 18,.hd 19])],[(16,za1),(17,za0),(18,za0),(19,.arr 60 .deep)]⟩]⟩)]),
 (7,[(0,0,⟨[(0,zg1)],[],[⟨.ret,[(0,.str)],[]⟩]⟩)]),
 (8,[(0,0,⟨[(0,zg1),(1,zg1)],[],[⟨.ret,[(0,.bool)],[]⟩]⟩)]),
 (9,[(0,0,⟨[(0,.im 9),(1,zi)],[],[⟨.ret,[(0,zi)],[]⟩]⟩),
   (0,1,⟨[(0,.im 9),(1,zi),(5,zi)],[],[⟨.nrm,[(1,zi)],[]⟩,⟨.ret,[(4,zi)],[]⟩]⟩)]),
 (10,[(0,0,⟨[(0,.agg [zi,zi,.str,.im 25]),(1,zi)],[],[⟨.ret,[(0,zi)],[]⟩]⟩)]),
 (11,[(0,0,⟨[(0,.im 56),(1,zi)],[],[⟨.ret,[(0,zi)],[]⟩]⟩),
   (0,1,⟨[(0,.im 56),(1,zi),(5,zi)],[],[⟨.nrm,[(1,zi)],[]⟩,⟨.ret,[(4,zi)],[]⟩]⟩)]),
 (12,[(0,0,⟨[(0,.agg [.str,zi,zi,.str,.im 33,zi,zi,.str,.im 33,.im 60])],[],[⟨.ret,[(0,.str)],[]⟩]⟩),
   (0,1,⟨[(1,.bp 16 0),(3,.str),(4,zi)],[(16,.box [.str,zi,zi,.str,.im 33,zi,zi,.str,.im 33,.im 60])],[⟨.nrm,[(3,.str)],[]⟩]⟩)]),
 (13,[(0,0,⟨[(0,.im 9)],[],[⟨.ret,[(0,.hd 16)],[(16,za1)]⟩]⟩),
   (0,1,⟨[(0,.im 9),(3,.hd 16),(4,zi)],[(16,za1)],[⟨.nrm,[(3,.hd 16)],[(16,za1)]⟩]⟩)]),
 (14,[(0,0,⟨[(0,.agg [zi,zi,.str,.im 25])],[],[⟨.ret,[(0,.agg [zi,zi,.str,.hd 16])],[(16,za0)]⟩]⟩)]),
 (15,[(0,0,⟨[(0,.im 56)],[],[⟨.ret,[(0,.hd 16)],[(16,.arr 60 .deep)]⟩]⟩),
   (0,1,⟨[(0,.im 56),(3,.hd 16),(4,zi)],[(16,.arr 60 .deep)],[⟨.nrm,[(3,.hd 16)],[(16,.arr 60 .deep)]⟩]⟩)]),
 (16,[(0,0,⟨[(0,zg0),(1,zg0),(2,.im 60)],[],[⟨.ret,[(0,.str)],[]⟩]⟩),
   (0,1,⟨[(7,.str),(16,.im 60),(17,zi),(18,zi)],[],[⟨.nrm,[(7,.str)],[]⟩]⟩)]),
 (17,[(0,0,⟨[(0,.im 9),(1,.im 9)],[],[⟨.ret,[(0,.bool)],[]⟩]⟩),
   (0,1,⟨[(0,.im 9),(1,.im 9),(5,zi)],[],[⟨.nrm,[],[]⟩,⟨.ret,[(4,.ff)],[]⟩]⟩)]),
 (18,[(0,0,⟨[(0,zg0),(1,zg0)],[],[⟨.ret,[(0,.bool)],[]⟩]⟩)]),
 (19,[(0,0,⟨[(0,.im 60),(1,.im 60)],[],[⟨.ret,[(0,.bool)],[]⟩]⟩),
   (0,1,⟨[(0,.im 60),(1,.im 60),(5,zi)],[],[⟨.nrm,[],[]⟩,⟨.ret,[(4,.ff)],[]⟩]⟩)]),
 (20,[(0,0,⟨[(0,.im 25),(1,zi)],[],[⟨.ret,[(0,zi)],[]⟩]⟩),
   (0,1,⟨[(0,.im 25),(1,zi),(5,zi)],[],[⟨.nrm,[(1,zi)],[]⟩,⟨.ret,[(4,zi)],[]⟩]⟩)]),
 (21,[(0,0,⟨[(0,.agg [zi,zi,zi,.str,.im 25,zi,zi,.str,.im 25]),(1,zi)],[],[⟨.ret,[(0,zi)],[]⟩]⟩)]),
 (22,[(0,0,⟨[(0,zg0)],[],[⟨.ret,[(0,.str)],[]⟩]⟩)]),
 (23,[(0,0,⟨[(0,zg2)],[],[⟨.ret,[(0,.str)],[]⟩]⟩)]),
 (24,[(0,0,⟨[(0,.im 25)],[],[⟨.ret,[(0,.hd 16)],[(16,za0)]⟩]⟩),
   (0,1,⟨[(0,.im 25),(3,.hd 16),(4,zi)],[(16,za0)],[⟨.nrm,[(3,.hd 16)],[(16,za0)]⟩]⟩)]),
 (25,[(0,0,⟨[(0,.agg [zi,zi,zi,.str,.im 25,zi,zi,.str,.im 25])],[],[⟨.ret,[(0,.agg [zi,zi,zi,.str,.hd 16,zi,zi,.str,.hd 17])],[(16,za0),(17,za0)]⟩]⟩)]),
 (26,[(0,0,⟨[(0,zg0)],[],[⟨.ret,[(0,.str)],[]⟩]⟩)]),
 (27,[(0,0,⟨[(0,zg2)],[],[⟨.ret,[(0,.str)],[]⟩]⟩)]),
 (28,[(0,0,⟨[(0,.im 33),(1,.im 33)],[],[⟨.ret,[(0,.bool)],[]⟩]⟩),
   (0,1,⟨[(0,.im 33),(1,.im 33),(5,zi)],[],[⟨.nrm,[],[]⟩,⟨.ret,[(4,.ff)],[]⟩]⟩)]),
 (29,[(0,0,⟨[(0,zg2),(1,zg2)],[],[⟨.ret,[(0,.bool)],[]⟩]⟩)]),
 (30,[(0,0,⟨[(0,zg0)],[],[⟨.ret,[(0,.bool)],[]⟩]⟩)]),
 (31,[(0,0,⟨[(0,zg0)],[],[⟨.ret,[(0,.str)],[]⟩]⟩),
   (0,1,⟨[(1,.bp 16 0),(3,.str),(4,zi)],[(16,zb0)],[⟨.nrm,[(1,.bp 16 0),(3,.str)],[(16,zb0)]⟩]⟩)]),
 (32,[(0,0,⟨[(0,zi)],[],[⟨.ret,[(0,.str)],[]⟩]⟩)]),
 (33,[(0,0,⟨[(0,zg0)],[],[⟨.ret,[(0,.bool)],[]⟩]⟩)]),
 (34,[(0,0,⟨[(0,zg0)],[],[⟨.ret,[(0,.str)],[]⟩]⟩),
   (0,1,⟨[(1,.bp 16 0),(3,.hd 17),(19,.im 33),(20,zi),(21,zi)],[(16,zb0),(17,za1)],[⟨.nrm,[(1,.bp 16 0),(3,.hd 17)],[(16,zb0),(17,za1)]⟩]⟩)]),
 (35,[(0,0,⟨[(0,zi)],[],[⟨.ret,[(0,.bool)],[]⟩]⟩)]),
 (36,[(0,0,⟨[(0,zi)],[],[⟨.ret,[(0,.str)],[]⟩]⟩)]),
 (37,[(0,0,⟨[(0,zg0),(1,zi)],[],[⟨.ret,[(0,zi)],[]⟩]⟩),
   (0,1,⟨[(1,zi),(2,.bp 16 0),(5,zi)],[(16,zb0)],[⟨.nrm,[(1,zi)],[]⟩]⟩)]),
 (38,[(0,0,⟨[(0,zg0)],[],[⟨.ret,[(0,zi)],[]⟩]⟩),
   (0,1,⟨[(1,.bp 16 0),(3,zi),(4,zi)],[(16,zb0)],[⟨.nrm,[(3,zi)],[]⟩]⟩)]),
 (39,[(0,0,⟨[(0,zg0)],[],[⟨.ret,[(0,.bool)],[]⟩]⟩),
   (0,1,⟨[(1,.bp 16 0),(3,zi)],[(16,zb0)],[⟨.nrm,[(1,.bp 16 0)],[(16,zb0)]⟩,⟨.ret,[(2,.ff)],[]⟩]⟩)]),
 (40,[(0,0,⟨[(0,zi)],[],[⟨.ret,[(0,.str)],[]⟩]⟩),
   (0,1,⟨[(0,zi),(3,.bool),(4,.str)],[],[⟨.nrm,[(3,.bool),(4,.str)],[]⟩]⟩)]),
 (41,[(0,0,⟨[(0,zi),(1,zi),(2,zi)],[],[⟨.ret,[(0,.bool)],[]⟩]⟩)]),
 (42,[(0,0,⟨[(0,zg0)],[],[⟨.ret,[(0,zi)],[]⟩]⟩),
   (0,1,⟨[(3,zi),(7,.im 33),(8,zi),(9,zi)],[],[⟨.nrm,[(3,zi)],[]⟩]⟩)]),
 (43,[(0,0,⟨[(0,zg0)],[],[⟨.ret,[(0,zi)],[]⟩]⟩),
   (0,1,⟨[(3,zi),(7,.im 33),(8,zi),(9,zi)],[],[⟨.nrm,[(3,zi)],[]⟩]⟩)]),
 (44,[(0,0,⟨[(0,zg0)],[],[⟨.ret,[(0,.bool)],[]⟩]⟩),
   (0,2,⟨[(39,.im 33),(40,zi),(41,zi)],[],[⟨.nrm,[],[]⟩,⟨.ret,[(2,.ff)],[]⟩]⟩)]),
 (45,[(0,0,⟨[(0,zi)],[],[⟨.ret,[(0,.str)],[]⟩]⟩)]),
 (46,[(0,0,⟨[(0,.im 9),(1,.str)],[],[⟨.ret,[(0,.str)],[]⟩]⟩)]),
 (47,[(0,0,⟨[(0,zi),(1,zi)],[],[⟨.ret,[(0,zi)],[]⟩]⟩)]),
 (48,[(0,0,⟨[(0,zg0)],[],[⟨.ret,[(0,.bool)],[]⟩]⟩)]),
 (49,[(0,0,⟨[(0,.str)],[],[⟨.ret,[(0,.bool)],[]⟩]⟩)]),
 (50,[(0,0,⟨[(0,zg0)],[],[⟨.ret,[(0,.bool)],[]⟩]⟩)]),
 (51,[(0,0,⟨[(0,.str)],[],[⟨.ret,[(0,.bool)],[]⟩]⟩)]),
 (52,[(0,0,⟨[(0,zi)],[],[⟨.ret,[(0,.str)],[]⟩]⟩)]),
 (53,[(0,0,⟨[(0,.im 9),(1,.str)],[],[⟨.ret,[(0,.str)],[]⟩]⟩)]),
 (54,[(0,0,⟨[(0,.str)],[],[⟨.ret,[(0,.bool)],[]⟩]⟩)]),
 (55,[(0,0,⟨[(0,.str)],[],[⟨.ret,[(0,.bool)],[]⟩]⟩)]),
 (56,[(0,0,⟨[(0,.str),(1,.int .u8),(2,.int .u8)],[],[⟨.ret,[(0,.bool)],[]⟩]⟩),
   (0,1,⟨[(0,.str),(7,zi)],[],[⟨.nrm,[],[]⟩,⟨.ret,[(6,.ff)],[]⟩]⟩)]),
 (61,[(0,0,⟨[(0,.str)],[],[⟨.ret,[(0,.bool)],[]⟩]⟩),
   (0,1,⟨[(0,.str),(3,zi)],[],[⟨.nrm,[(0,.str)],[]⟩,⟨.ret,[(2,.ff)],[]⟩]⟩)]),
 (62,[(0,0,⟨[(0,.int .u8)],[],[⟨.ret,[(0,.bool)],[]⟩]⟩)]),
 (66,[(0,0,⟨[(0,.int .u8)],[],[⟨.ret,[(0,.bool)],[]⟩]⟩)])]
def vrL:List (Nat×List (Nat×List (Nat×Nat))):=[]
def shL:List (Nat×List (Nat×List Nat)):=[]
def extL:List (Nat×(Nat->List D->Option (Nat×List D))):=[(52,itoaS),(53,joinG)]
def kiF:List (Nat×Nat×KI)->Nat->Nat->Option KI
 | [],_,_=>none
 | (a,b,x)::r,v,n=>bif Nat.beq a v&&Nat.beq b n then some x else kiF r v n
def vrF:List (Nat×List (Nat×List (Nat×Nat)))->Nat->Nat->Nat->Nat
 | [],_,_,_=>0
 | (f,[(v,l)])::r,f',v',d=>bif Nat.beq f f'&&Nat.beq v v' then (lookN l d).getD 0 else vrF r f' v' d
 | _,_,_,_=>0
def H:Tab:={ ty:=fun t=>lookN tyL t,ki:=fun k=>match lookN kiL k.f with | some l=>kiF l k.v k.n | none=>none,vr:=fun k d=>vrF vrL k.f k.v d,share:=fun k=>match lookN shL k.f with | some l=>(lookN l k.v).getD [] | none=>[],ext:=fun f=>lookN extL f,eqt:=fun t=>memb eqL t }
noncomputable def rn:Key->List D->R:=run H Tryd.prog
theorem rn_eq (k:Key) (l:List D):rn k l=step H rn Tryd.prog k l:=run_eq H Tryd.prog k l
open Go.Q.D renaming int->i,sl->s,str->t,bool->b
open Go.Q renaming nth->g,rowAt->p
open Int renaming toNat->z
open Go.IntKind renaming wrap->w
open Decidable renaming decide->d
open Nat renaming beq->q,ble->l
open _root_.ByteArray renaming mk->m
theorem eE {k:Key} {l:List D} {r:R} (h:step H rn Tryd.prog k l=r):rn k l=r:=(rn_eq k l).trans h
theorem e3_0_0 (x0:Rows) (x1 x2:Int) (x3:ByteArray) (x4:Rows) (x5 x6:Int) (x7:ByteArray) (x8 x9:Rows):rn ⟨3,0,0⟩ [s x0,i x1,i x2,t x3,s x4,i x5,i x6,t x7,s x8,s x9] =
 (rn ⟨4,0,0⟩ [s x0,i x1,i x2,t x3,s x4,i x5,i x6,t x7,s x8,s x9,i 1048576]).bind fun r1=>bif d (((g r1.2 0).I:Int)<0) then some (0,[b true]) else (rn ⟨6,0,0⟩ [s x0,i x1,i x2,t x3,s x4,i x5,i x6,t x7,s x8,s x9]).bind fun r2=>(rn ⟨5,0,0⟩ [s (g r2.2 6).L,i (g r2.2 0).I,i (g r2.2 1).I,t (g r2.2 2).S,s (g r2.2 7).L,i (g r2.2 3).I,i (g r2.2 4).I,t (g r2.2 5).S,s (g r2.2 8).L,s (g r2.2 9).L]).bind fun r3=>(rn ⟨6,0,0⟩ [s x0,i x1,i x2,t x3,s x4,i x5,i x6,t x7,s x8,s x9]).bind fun r4=>(rn ⟨7,0,0⟩ [s (g r4.2 6).L,i (g r4.2 0).I,i (g r4.2 1).I,t (g r4.2 2).S,s (g r4.2 7).L,i (g r4.2 3).I,i (g r4.2 4).I,t (g r4.2 5).S,s (g r4.2 8).L,s (g r4.2 9).L]).bind fun r5=>bif !d ((g r5.2 0).S=(g r3.2 0).S) then some (0,[b false]) else (rn ⟨6,0,0⟩ [s x0,i x1,i x2,t x3,s x4,i x5,i x6,t x7,s x8,s x9]).bind fun r6=>(rn ⟨8,0,0⟩ [s (g r4.2 6).L,i (g r4.2 0).I,i (g r4.2 1).I,t (g r4.2 2).S,s (g r4.2 7).L,i (g r4.2 3).I,i (g r4.2 4).I,t (g r4.2 5).S,s (g r4.2 8).L,s (g r4.2 9).L,s (g r6.2 6).L,i (g r6.2 0).I,i (g r6.2 1).I,t (g r6.2 2).S,s (g r6.2 7).L,i (g r6.2 3).I,i (g r6.2 4).I,t (g r6.2 5).S,s (g r6.2 8).L,s (g r6.2 9).L]).bind fun r7=>bif !(g r7.2 0).B then some (0,[b false]) else some (0,[b true]):=eE (by kernel_rfl)
theorem e4_0_0 (x0:Rows) (x1 x2:Int) (x3:ByteArray) (x4:Rows) (x5 x6:Int) (x7:ByteArray) (x8 x9:Rows) (x10:Int):rn ⟨4,0,0⟩ [s x0,i x1,i x2,t x3,s x4,i x5,i x6,t x7,s x8,s x9,i x10] =
 (rn ⟨9,0,0⟩ [s x0,i x10]).bind fun r1=>bif d (((g r1.2 0).I:Int)<0) then some (0,[i (-1)]) else (rn ⟨10,0,0⟩ [i x1,i x2,t x3,s x4,i (g r1.2 0).I]).bind fun r2=>bif d (((g r2.2 0).I:Int)<0) then some (0,[i (-1)]) else (rn ⟨10,0,0⟩ [i x5,i x6,t x7,s x8,i (g r2.2 0).I]).bind fun r3=>bif d (((g r3.2 0).I:Int)<0) then some (0,[i (-1)]) else (rn ⟨11,0,0⟩ [s x9,i (g r3.2 0).I]).bind fun r4=>bif d (((g r4.2 0).I:Int)<0) then some (0,[i (-1)]) else some (0,[i (g r4.2 0).I]):=eE (by kernel_rfl)
theorem e5_0_0 (x0:Rows) (x1 x2:Int) (x3:ByteArray) (x4:Rows) (x5 x6:Int) (x7:ByteArray) (x8 x9:Rows):rn ⟨5,0,0⟩ [s x0,i x1,i x2,t x3,s x4,i x5,i x6,t x7,s x8,s x9] =
 (rn ⟨12,0,0⟩ [t (m #[]),i x1,i x2,t x3,s x4,i x5,i x6,t x7,s x8,s x9]).bind fun r1=>bif d ((0:Int)<=7)&&(d ((7:Int)<=((g r1.2 0).S.size:Nat))&&d ((((g r1.2 0).S.size:Nat):Int)<=(g r1.2 0).S.size)) then bif d ((m #[99,108,97,105,109,32]).size+((g r1.2 0).S.extract (z 7) (z ((g r1.2 0).S.size:Nat))).size<=i64max) then some (0,[t ((m #[99,108,97,105,109,32])++((g r1.2 0).S.extract (z 7) (z ((g r1.2 0).S.size:Nat))))]) else none else none:=eE (by kernel_rfl)
theorem e6_0_0 (x0:Rows) (x1 x2:Int) (x3:ByteArray) (x4:Rows) (x5 x6:Int) (x7:ByteArray) (x8 x9:Rows):rn ⟨6,0,0⟩ [s x0,i x1,i x2,t x3,s x4,i x5,i x6,t x7,s x8,s x9] =
 (rn ⟨13,0,0⟩ [s x0]).bind fun r1=>(rn ⟨14,0,0⟩ [i x1,i x2,t x3,s x4]).bind fun r2=>(rn ⟨14,0,0⟩ [i x5,i x6,t x7,s x8]).bind fun r3=>(rn ⟨15,0,0⟩ [s x9]).bind fun r4=>some (0,[i (g r2.2 0).I,i (g r2.2 1).I,t (g r2.2 2).S,i (g r3.2 0).I,i (g r3.2 1).I,t (g r3.2 2).S,s (g r1.2 0).L,s (g r2.2 3).L,s (g r3.2 3).L,s (g r4.2 0).L]):=eE (by kernel_rfl)
theorem e7_0_0 (x0:Rows) (x1 x2:Int) (x3:ByteArray) (x4:Rows) (x5 x6:Int) (x7:ByteArray) (x8 x9:Rows):rn ⟨7,0,0⟩ [s x0,i x1,i x2,t x3,s x4,i x5,i x6,t x7,s x8,s x9] =
 (rn ⟨16,0,0⟩ [i x1,i x2,t x3,s x4,i x5,i x6,t x7,s x8,s x9]).bind fun r1=>bif d ((m #[99,108,97,105,109,32]).size+(g r1.2 0).S.size<=i64max) then some (0,[t ((m #[99,108,97,105,109,32])++(g r1.2 0).S)]) else none:=eE (by kernel_rfl)
theorem e8_0_0 (x0:Rows) (x1 x2:Int) (x3:ByteArray) (x4:Rows) (x5 x6:Int) (x7:ByteArray) (x8 x9 x10:Rows) (x11 x12:Int) (x13:ByteArray) (x14:Rows) (x15 x16:Int) (x17:ByteArray) (x18 x19:Rows):rn ⟨8,0,0⟩ [s x0,i x1,i x2,t x3,s x4,i x5,i x6,t x7,s x8,s x9,s x10,i x11,i x12,t x13,s x14,i x15,i x16,t x17,s x18,s x19] =
 (rn ⟨17,0,0⟩ [s x0,s x10]).bind fun r1=>bif !(g r1.2 0).B then some (0,[b false]) else (rn ⟨18,0,0⟩ [i x1,i x2,t x3,s x4,i x11,i x12,t x13,s x14]).bind fun r2=>bif !(g r2.2 0).B then some (0,[b false]) else (rn ⟨18,0,0⟩ [i x5,i x6,t x7,s x8,i x15,i x16,t x17,s x18]).bind fun r3=>bif !(g r3.2 0).B then some (0,[b false]) else (rn ⟨19,0,0⟩ [s x9,s x19]).bind fun r4=>bif !(g r4.2 0).B then some (0,[b false]) else some (0,[b true]):=eE (by kernel_rfl)
theorem e9_0_0 (x0:Rows) (x1:Int):rn ⟨9,0,0⟩ [s x0,i x1] =
 bif d (((w .i64 (x1-x0.length)):Int)<0) then some (0,[i (-1)]) else (rn ⟨9,0,1⟩ [s x0,i (w .i64 (x1-x0.length)),i 0]).bind fun r1=>bif q r1.1 0 then some (0,[i (g r1.2 0).I]) else bif q r1.1 1 then some (0,[i (g r1.2 0).I]) else none:=eE (by kernel_rfl)
theorem e9_0_1 (x0:Rows) (x1 x2:Int):rn ⟨9,0,1⟩ [s x0,i x1,i x2] =
 bif d (x2<x0.length) then bif inb x2 x0.length then bif d (((w .i64 (x1-((g (p x0 (z x2)) 0).S.size))):Int)<0) then some (1,[i (-1)]) else rn ⟨9,0,1⟩ [s x0,i (w .i64 (x1-((g (p x0 (z x2)) 0).S.size))),i (w .i64 (x2+1))] else none else some (0,[i x1]):=eE (by kernel_rfl)
theorem e10_0_0 (x0 x1:Int) (x2:ByteArray) (x3:Rows) (x4:Int):rn ⟨10,0,0⟩ [i x0,i x1,t x2,s x3,i x4] =
 bif d (((w .i64 (x4-(x2).size)):Int)<0) then some (0,[i (-1)]) else (rn ⟨20,0,0⟩ [s x3,i (w .i64 (x4-(x2).size))]).bind fun r1=>bif d (((g r1.2 0).I:Int)<0) then some (0,[i (-1)]) else some (0,[i (g r1.2 0).I]):=eE (by kernel_rfl)
theorem e11_0_0 (x0:Rows) (x1:Int):rn ⟨11,0,0⟩ [s x0,i x1] =
 bif d (((w .i64 (x1-x0.length)):Int)<0) then some (0,[i (-1)]) else (rn ⟨11,0,1⟩ [s x0,i (w .i64 (x1-x0.length)),i 0]).bind fun r1=>bif q r1.1 0 then some (0,[i (g r1.2 0).I]) else bif q r1.1 1 then some (0,[i (g r1.2 0).I]) else none:=eE (by kernel_rfl)
theorem e11_0_1 (x0:Rows) (x1 x2:Int):rn ⟨11,0,1⟩ [s x0,i x1,i x2] =
 bif d (x2<x0.length) then bif inb x2 x0.length then (rn ⟨21,0,0⟩ [i (g (p x0 (z x2)) 0).I,i (g (p x0 (z x2)) 1).I,i (g (p x0 (z x2)) 2).I,t (g (p x0 (z x2)) 3).S,s (g (p x0 (z x2)) 4).L,i (g (p x0 (z x2)) 5).I,i (g (p x0 (z x2)) 6).I,t (g (p x0 (z x2)) 7).S,s (g (p x0 (z x2)) 8).L,i x1]).bind fun r1=>bif d (((g r1.2 0).I:Int)<0) then some (1,[i (-1)]) else rn ⟨11,0,1⟩ [s x0,i (g r1.2 0).I,i (w .i64 (x2+1))] else none else some (0,[i x1]):=eE (by kernel_rfl)
theorem e12_0_0 (x0:ByteArray) (x1 x2:Int) (x3:ByteArray) (x4:Rows) (x5 x6:Int) (x7:ByteArray) (x8 x9:Rows):rn ⟨12,0,0⟩ [t x0,i x1,i x2,t x3,s x4,i x5,i x6,t x7,s x8,s x9] =
 bif d ((m #[114,117,108,101,32]).size+x0.size<=i64max) then bif d (((m #[114,117,108,101,32])++x0).size+(m #[58,32]).size<=i64max) then (rn ⟨22,0,0⟩ [i x1,i x2,t x3,s x4]).bind fun r1=>bif d ((((m #[114,117,108,101,32])++x0)++(m #[58,32])).size+(g r1.2 0).S.size<=i64max) then bif d (((((m #[114,117,108,101,32])++x0)++(m #[58,32]))++(g r1.2 0).S).size+(m #[32,61,62,32]).size<=i64max) then (rn ⟨22,0,0⟩ [i x5,i x6,t x7,s x8]).bind fun r2=>bif d ((((((m #[114,117,108,101,32])++x0)++(m #[58,32]))++(g r1.2 0).S)++(m #[32,61,62,32])).size+(g r2.2 0).S.size<=i64max) then (rn ⟨12,0,1⟩ [t ((((((m #[114,117,108,101,32])++x0)++(m #[58,32]))++(g r1.2 0).S)++(m #[32,61,62,32]))++(g r2.2 0).S),i 0,t x0,i x1,i x2,t x3,s x4,i x5,i x6,t x7,s x8,s x9]).bind fun r3=>bif q r3.1 0 then some (0,[t (g r3.2 0).S]) else none else none else none else none else none else none:=eE (by kernel_rfl)
theorem e12_0_1 (x0:ByteArray) (x1:Int) (x2:ByteArray) (x3 x4:Int) (x5:ByteArray) (x6:Rows) (x7 x8:Int) (x9:ByteArray) (x10 x11:Rows):rn ⟨12,0,1⟩ [t x0,i x1,t x2,i x3,i x4,t x5,s x6,i x7,i x8,t x9,s x10,s x11] =
 bif d (x1<x11.length) then bif d (x1=0) then bif d (x0.size+(m #[32,105,102,32]).size<=i64max) then bif inb x1 x11.length then (rn ⟨23,0,0⟩ [i (g (p x11 (z x1)) 0).I,i (g (p x11 (z x1)) 1).I,i (g (p x11 (z x1)) 2).I,t (g (p x11 (z x1)) 3).S,s (g (p x11 (z x1)) 4).L,i (g (p x11 (z x1)) 5).I,i (g (p x11 (z x1)) 6).I,t (g (p x11 (z x1)) 7).S,s (g (p x11 (z x1)) 8).L]).bind fun r1=>bif d ((x0++(m #[32,105,102,32])).size+(g r1.2 0).S.size<=i64max) then rn ⟨12,0,1⟩ [t ((x0++(m #[32,105,102,32]))++(g r1.2 0).S),i (w .i64 (x1+1)),t x2,i x3,i x4,t x5,s x6,i x7,i x8,t x9,s x10,s x11] else none else none else none else bif d (x0.size+(m #[32,38,32]).size<=i64max) then bif inb x1 x11.length then (rn ⟨23,0,0⟩ [i (g (p x11 (z x1)) 0).I,i (g (p x11 (z x1)) 1).I,i (g (p x11 (z x1)) 2).I,t (g (p x11 (z x1)) 3).S,s (g (p x11 (z x1)) 4).L,i (g (p x11 (z x1)) 5).I,i (g (p x11 (z x1)) 6).I,t (g (p x11 (z x1)) 7).S,s (g (p x11 (z x1)) 8).L]).bind fun r2=>bif d ((x0++(m #[32,38,32])).size+(g r2.2 0).S.size<=i64max) then rn ⟨12,0,1⟩ [t ((x0++(m #[32,38,32]))++(g r2.2 0).S),i (w .i64 (x1+1)),t x2,i x3,i x4,t x5,s x6,i x7,i x8,t x9,s x10,s x11] else none else none else none else some (0,[t x0]):=eE (by kernel_rfl)
theorem e13_0_0 (x0:Rows):rn ⟨13,0,0⟩ [s x0] =
 bif d ((x0.length:Int)=x0.length)&&(d ((0:Int)<=x0.length)&&d ((x0.length:Int)<=M63)) then (rn ⟨13,0,1⟩ [s x0,i 0,s (reps (z x0.length) [t (m #[])])]).bind fun r1=>bif q r1.1 0 then some (0,[s (g r1.2 0).L]) else none else none:=eE (by kernel_rfl)
theorem e13_0_1 (x0:Rows) (x1:Int) (x2:Rows):rn ⟨13,0,1⟩ [s x0,i x1,s x2] =
 bif d (x1<x0.length) then bif inb x1 x0.length then bif inb x1 x2.length then rn ⟨13,0,1⟩ [s x0,i (w .i64 (x1+1)),s (over (z x1) [over 0 [t (g (p x0 (z x1)) 0).S] (p x2 (z x1))] x2)] else none else none else some (0,[s x2]):=eE (by kernel_rfl)
theorem e14_0_0 (x0 x1:Int) (x2:ByteArray) (x3:Rows):rn ⟨14,0,0⟩ [i x0,i x1,t x2,s x3] =
 (rn ⟨24,0,0⟩ [s x3]).bind fun r1=>some (0,[i x0,i x1,t x2,s (g r1.2 0).L]):=eE (by kernel_rfl)
theorem e15_0_0 (x0:Rows):rn ⟨15,0,0⟩ [s x0] =
 bif d ((x0.length:Int)=x0.length)&&(d ((0:Int)<=x0.length)&&d ((x0.length:Int)<=M63)) then (rn ⟨15,0,1⟩ [s x0,i 0,s (reps (z x0.length) [i 0,i 0,i 0,t (m #[]),s [],i 0,i 0,t (m #[]),s []])]).bind fun r1=>bif q r1.1 0 then some (0,[s (g r1.2 0).L]) else none else none:=eE (by kernel_rfl)
theorem e15_0_1 (x0:Rows) (x1:Int) (x2:Rows):rn ⟨15,0,1⟩ [s x0,i x1,s x2] =
 bif d (x1<x0.length) then bif inb x1 x0.length then (rn ⟨25,0,0⟩ [i (g (p x0 (z x1)) 0).I,i (g (p x0 (z x1)) 1).I,i (g (p x0 (z x1)) 2).I,t (g (p x0 (z x1)) 3).S,s (g (p x0 (z x1)) 4).L,i (g (p x0 (z x1)) 5).I,i (g (p x0 (z x1)) 6).I,t (g (p x0 (z x1)) 7).S,s (g (p x0 (z x1)) 8).L]).bind fun r1=>bif inb x1 x2.length then rn ⟨15,0,1⟩ [s x0,i (w .i64 (x1+1)),s (over (z x1) [over 0 [i (g r1.2 0).I,i (g r1.2 1).I,i (g r1.2 2).I,t (g r1.2 3).S,s (g r1.2 7).L,i (g r1.2 4).I,i (g r1.2 5).I,t (g r1.2 6).S,s (g r1.2 8).L] (p x2 (z x1))] x2)] else none else none else some (0,[s x2]):=eE (by kernel_rfl)
theorem e16_0_0 (x0 x1:Int) (x2:ByteArray) (x3:Rows) (x4 x5:Int) (x6:ByteArray) (x7 x8:Rows):rn ⟨16,0,0⟩ [i x0,i x1,t x2,s x3,i x4,i x5,t x6,s x7,s x8] =
 (rn ⟨26,0,0⟩ [i x0,i x1,t x2,s x3]).bind fun r1=>bif d ((g r1.2 0).S.size+(m #[32,61,62,32]).size<=i64max) then (rn ⟨26,0,0⟩ [i x4,i x5,t x6,s x7]).bind fun r2=>bif d (((g r1.2 0).S++(m #[32,61,62,32])).size+(g r2.2 0).S.size<=i64max) then (rn ⟨16,0,1⟩ [t (((g r1.2 0).S++(m #[32,61,62,32]))++(g r2.2 0).S),s x8,i x8.length,i 0]).bind fun r3=>bif q r3.1 0 then some (0,[t (g r3.2 0).S]) else none else none else none:=eE (by kernel_rfl)
theorem e16_0_1 (x0:ByteArray) (x1:Rows) (x2 x3:Int):rn ⟨16,0,1⟩ [t x0,s x1,i x2,i x3] =
 bif d (x3<x2) then bif inb x3 x1.length then bif d (x3=0) then bif d (x0.size+(m #[32,105,102,32]).size<=i64max) then (rn ⟨27,0,0⟩ [i (g (p x1 (z x3)) 0).I,i (g (p x1 (z x3)) 1).I,i (g (p x1 (z x3)) 2).I,t (g (p x1 (z x3)) 3).S,s (g (p x1 (z x3)) 4).L,i (g (p x1 (z x3)) 5).I,i (g (p x1 (z x3)) 6).I,t (g (p x1 (z x3)) 7).S,s (g (p x1 (z x3)) 8).L]).bind fun r1=>bif d ((x0++(m #[32,105,102,32])).size+(g r1.2 0).S.size<=i64max) then rn ⟨16,0,1⟩ [t ((x0++(m #[32,105,102,32]))++(g r1.2 0).S),s x1,i x2,i (w .i64 (x3+1))] else none else none else bif d (x0.size+(m #[32,38,32]).size<=i64max) then (rn ⟨27,0,0⟩ [i (g (p x1 (z x3)) 0).I,i (g (p x1 (z x3)) 1).I,i (g (p x1 (z x3)) 2).I,t (g (p x1 (z x3)) 3).S,s (g (p x1 (z x3)) 4).L,i (g (p x1 (z x3)) 5).I,i (g (p x1 (z x3)) 6).I,t (g (p x1 (z x3)) 7).S,s (g (p x1 (z x3)) 8).L]).bind fun r2=>bif d ((x0++(m #[32,38,32])).size+(g r2.2 0).S.size<=i64max) then rn ⟨16,0,1⟩ [t ((x0++(m #[32,38,32]))++(g r2.2 0).S),s x1,i x2,i (w .i64 (x3+1))] else none else none else none else some (0,[t x0]):=eE (by kernel_rfl)
theorem e17_0_0 (x0 x1:Rows):rn ⟨17,0,0⟩ [s x0,s x1] =
 bif !d ((x0.length:Int)=x1.length) then some (0,[b false]) else (rn ⟨17,0,1⟩ [s x0,s x1,i 0]).bind fun r1=>bif q r1.1 0 then some (0,[b true]) else bif q r1.1 1 then some (0,[b false]) else none:=eE (by kernel_rfl)
theorem e17_0_1 (x0 x1:Rows) (x2:Int):rn ⟨17,0,1⟩ [s x0,s x1,i x2] =
 bif d (x2<x0.length) then bif inb x2 x0.length then bif inb x2 x1.length then bif !d ((g (p x0 (z x2)) 0).S=(g (p x1 (z x2)) 0).S) then some (1,[]) else rn ⟨17,0,1⟩ [s x0,s x1,i (w .i64 (x2+1))] else none else none else some (0,[]):=eE (by kernel_rfl)
theorem e18_0_0 (x0 x1:Int) (x2:ByteArray) (x3:Rows) (x4 x5:Int) (x6:ByteArray) (x7:Rows):rn ⟨18,0,0⟩ [i x0,i x1,t x2,s x3,i x4,i x5,t x6,s x7] =
 bif !d (x0=x4) then some (0,[b false]) else bif !d (x1=x5) then some (0,[b false]) else bif !d (x2=x6) then some (0,[b false]) else (rn ⟨28,0,0⟩ [s x3,s x7]).bind fun r1=>bif !(g r1.2 0).B then some (0,[b false]) else some (0,[b true]):=eE (by kernel_rfl)
theorem e19_0_0 (x0 x1:Rows):rn ⟨19,0,0⟩ [s x0,s x1] =
 bif !d ((x0.length:Int)=x1.length) then some (0,[b false]) else (rn ⟨19,0,1⟩ [s x0,s x1,i 0]).bind fun r1=>bif q r1.1 0 then some (0,[b true]) else bif q r1.1 1 then some (0,[b false]) else none:=eE (by kernel_rfl)
theorem e19_0_1 (x0 x1:Rows) (x2:Int):rn ⟨19,0,1⟩ [s x0,s x1,i x2] =
 bif d (x2<x0.length) then bif inb x2 x0.length then bif inb x2 x1.length then (rn ⟨29,0,0⟩ [i (g (p x0 (z x2)) 0).I,i (g (p x0 (z x2)) 1).I,i (g (p x0 (z x2)) 2).I,t (g (p x0 (z x2)) 3).S,s (g (p x0 (z x2)) 4).L,i (g (p x0 (z x2)) 5).I,i (g (p x0 (z x2)) 6).I,t (g (p x0 (z x2)) 7).S,s (g (p x0 (z x2)) 8).L,i (g (p x1 (z x2)) 0).I,i (g (p x1 (z x2)) 1).I,i (g (p x1 (z x2)) 2).I,t (g (p x1 (z x2)) 3).S,s (g (p x1 (z x2)) 4).L,i (g (p x1 (z x2)) 5).I,i (g (p x1 (z x2)) 6).I,t (g (p x1 (z x2)) 7).S,s (g (p x1 (z x2)) 8).L]).bind fun r1=>bif !(g r1.2 0).B then some (1,[]) else rn ⟨19,0,1⟩ [s x0,s x1,i (w .i64 (x2+1))] else none else none else some (0,[]):=eE (by kernel_rfl)
theorem e20_0_0 (x0:Rows) (x1:Int):rn ⟨20,0,0⟩ [s x0,i x1] =
 bif d (((w .i64 (x1-x0.length)):Int)<0) then some (0,[i (-1)]) else (rn ⟨20,0,1⟩ [s x0,i (w .i64 (x1-x0.length)),i 0]).bind fun r1=>bif q r1.1 0 then some (0,[i (g r1.2 0).I]) else bif q r1.1 1 then some (0,[i (g r1.2 0).I]) else none:=eE (by kernel_rfl)
theorem e20_0_1 (x0:Rows) (x1 x2:Int):rn ⟨20,0,1⟩ [s x0,i x1,i x2] =
 bif d (x2<x0.length) then bif inb x2 x0.length then (rn ⟨10,0,0⟩ [i (g (p x0 (z x2)) 0).I,i (g (p x0 (z x2)) 1).I,t (g (p x0 (z x2)) 2).S,s (g (p x0 (z x2)) 3).L,i x1]).bind fun r1=>bif d (((g r1.2 0).I:Int)<0) then some (1,[i (-1)]) else rn ⟨20,0,1⟩ [s x0,i (g r1.2 0).I,i (w .i64 (x2+1))] else none else some (0,[i x1]):=eE (by kernel_rfl)
theorem e21_0_0 (x0 x1 x2:Int) (x3:ByteArray) (x4:Rows) (x5 x6:Int) (x7:ByteArray) (x8:Rows) (x9:Int):rn ⟨21,0,0⟩ [i x0,i x1,i x2,t x3,s x4,i x5,i x6,t x7,s x8,i x9] =
 (rn ⟨10,0,0⟩ [i x1,i x2,t x3,s x4,i x9]).bind fun r1=>bif d (((g r1.2 0).I:Int)<0) then some (0,[i (-1)]) else (rn ⟨10,0,0⟩ [i x5,i x6,t x7,s x8,i (g r1.2 0).I]).bind fun r2=>bif d (((g r2.2 0).I:Int)<0) then some (0,[i (-1)]) else some (0,[i (g r2.2 0).I]):=eE (by kernel_rfl)
theorem e22_0_0 (x0 x1:Int) (x2:ByteArray) (x3:Rows):rn ⟨22,0,0⟩ [i x0,i x1,t x2,s x3] =
 (rn ⟨30,0,0⟩ [i x0,i x1,t x2,s x3]).bind fun r1=>bif !(g r1.2 0).B then some (0,[t (m #[])]) else (rn ⟨31,0,0⟩ [i x0,i x1,t x2,s x3]).bind fun r2=>some (0,[t (g r2.2 0).S]):=eE (by kernel_rfl)
theorem e23_0_0 (x0 x1 x2:Int) (x3:ByteArray) (x4:Rows) (x5 x6:Int) (x7:ByteArray) (x8:Rows):rn ⟨23,0,0⟩ [i x0,i x1,i x2,t x3,s x4,i x5,i x6,t x7,s x8] =
 (rn ⟨22,0,0⟩ [i x1,i x2,t x3,s x4]).bind fun r1=>(rn ⟨22,0,0⟩ [i x5,i x6,t x7,s x8]).bind fun r2=>(rn ⟨32,0,0⟩ [i x0]).bind fun r3=>bif d ((g r1.2 0).S=(m #[])) then some (0,[t (m #[])]) else bif d ((g r2.2 0).S=(m #[])) then some (0,[t (m #[])]) else bif d ((g r3.2 0).S=(m #[])) then some (0,[t (m #[])]) else bif d ((g r1.2 0).S.size+(g r3.2 0).S.size<=i64max) then bif d (((g r1.2 0).S++(g r3.2 0).S).size+(g r2.2 0).S.size<=i64max) then some (0,[t (((g r1.2 0).S++(g r3.2 0).S)++(g r2.2 0).S)]) else none else none:=eE (by kernel_rfl)
theorem e24_0_0 (x0:Rows):rn ⟨24,0,0⟩ [s x0] =
 bif d ((x0.length:Int)=x0.length)&&(d ((0:Int)<=x0.length)&&d ((x0.length:Int)<=M63)) then (rn ⟨24,0,1⟩ [s x0,i 0,s (reps (z x0.length) [i 0,i 0,t (m #[]),s []])]).bind fun r1=>bif q r1.1 0 then some (0,[s (g r1.2 0).L]) else none else none:=eE (by kernel_rfl)
theorem e24_0_1 (x0:Rows) (x1:Int) (x2:Rows):rn ⟨24,0,1⟩ [s x0,i x1,s x2] =
 bif d (x1<x0.length) then bif inb x1 x0.length then (rn ⟨14,0,0⟩ [i (g (p x0 (z x1)) 0).I,i (g (p x0 (z x1)) 1).I,t (g (p x0 (z x1)) 2).S,s (g (p x0 (z x1)) 3).L]).bind fun r1=>bif inb x1 x2.length then rn ⟨24,0,1⟩ [s x0,i (w .i64 (x1+1)),s (over (z x1) [over 0 [i (g r1.2 0).I,i (g r1.2 1).I,t (g r1.2 2).S,s (g r1.2 3).L] (p x2 (z x1))] x2)] else none else none else some (0,[s x2]):=eE (by kernel_rfl)
theorem e25_0_0 (x0 x1 x2:Int) (x3:ByteArray) (x4:Rows) (x5 x6:Int) (x7:ByteArray) (x8:Rows):rn ⟨25,0,0⟩ [i x0,i x1,i x2,t x3,s x4,i x5,i x6,t x7,s x8] =
 (rn ⟨14,0,0⟩ [i x1,i x2,t x3,s x4]).bind fun r1=>(rn ⟨14,0,0⟩ [i x5,i x6,t x7,s x8]).bind fun r2=>some (0,[i x0,i (g r1.2 0).I,i (g r1.2 1).I,t (g r1.2 2).S,i (g r2.2 0).I,i (g r2.2 1).I,t (g r2.2 2).S,s (g r1.2 3).L,s (g r2.2 3).L]):=eE (by kernel_rfl)
theorem e26_0_0 (x0 x1:Int) (x2:ByteArray) (x3:Rows):rn ⟨26,0,0⟩ [i x0,i x1,t x2,s x3] =
 (rn ⟨33,0,0⟩ [i x0,i x1,t x2,s x3]).bind fun r1=>bif !(g r1.2 0).B then some (0,[t (m #[])]) else (rn ⟨34,0,0⟩ [i x0,i x1,t x2,s x3]).bind fun r2=>some (0,[t (g r2.2 0).S]):=eE (by kernel_rfl)
theorem e27_0_0 (x0 x1 x2:Int) (x3:ByteArray) (x4:Rows) (x5 x6:Int) (x7:ByteArray) (x8:Rows):rn ⟨27,0,0⟩ [i x0,i x1,i x2,t x3,s x4,i x5,i x6,t x7,s x8] =
 (rn ⟨35,0,0⟩ [i x0]).bind fun r1=>bif !(g r1.2 0).B then some (0,[t (m #[])]) else (rn ⟨33,0,0⟩ [i x1,i x2,t x3,s x4]).bind fun r2=>bif !(g r2.2 0).B then some (0,[t (m #[])]) else (rn ⟨33,0,0⟩ [i x5,i x6,t x7,s x8]).bind fun r3=>bif !(g r3.2 0).B then some (0,[t (m #[])]) else (rn ⟨26,0,0⟩ [i x1,i x2,t x3,s x4]).bind fun r4=>(rn ⟨36,0,0⟩ [i x0]).bind fun r5=>bif d ((g r4.2 0).S.size+(g r5.2 0).S.size<=i64max) then (rn ⟨26,0,0⟩ [i x5,i x6,t x7,s x8]).bind fun r6=>bif d (((g r4.2 0).S++(g r5.2 0).S).size+(g r6.2 0).S.size<=i64max) then some (0,[t (((g r4.2 0).S++(g r5.2 0).S)++(g r6.2 0).S)]) else none else none:=eE (by kernel_rfl)
theorem e28_0_0 (x0 x1:Rows):rn ⟨28,0,0⟩ [s x0,s x1] =
 bif !d ((x0.length:Int)=x1.length) then some (0,[b false]) else (rn ⟨28,0,1⟩ [s x0,s x1,i 0]).bind fun r1=>bif q r1.1 0 then some (0,[b true]) else bif q r1.1 1 then some (0,[b false]) else none:=eE (by kernel_rfl)
theorem e28_0_1 (x0 x1:Rows) (x2:Int):rn ⟨28,0,1⟩ [s x0,s x1,i x2] =
 bif d (x2<x0.length) then bif inb x2 x0.length then bif inb x2 x1.length then (rn ⟨18,0,0⟩ [i (g (p x0 (z x2)) 0).I,i (g (p x0 (z x2)) 1).I,t (g (p x0 (z x2)) 2).S,s (g (p x0 (z x2)) 3).L,i (g (p x1 (z x2)) 0).I,i (g (p x1 (z x2)) 1).I,t (g (p x1 (z x2)) 2).S,s (g (p x1 (z x2)) 3).L]).bind fun r1=>bif !(g r1.2 0).B then some (1,[]) else rn ⟨28,0,1⟩ [s x0,s x1,i (w .i64 (x2+1))] else none else none else some (0,[]):=eE (by kernel_rfl)
theorem e29_0_0 (x0 x1 x2:Int) (x3:ByteArray) (x4:Rows) (x5 x6:Int) (x7:ByteArray) (x8:Rows) (x9 x10 x11:Int) (x12:ByteArray) (x13:Rows) (x14 x15:Int) (x16:ByteArray) (x17:Rows):rn ⟨29,0,0⟩ [i x0,i x1,i x2,t x3,s x4,i x5,i x6,t x7,s x8,i x9,i x10,i x11,t x12,s x13,i x14,i x15,t x16,s x17] =
 bif !d (x0=x9) then some (0,[b false]) else (rn ⟨18,0,0⟩ [i x1,i x2,t x3,s x4,i x10,i x11,t x12,s x13]).bind fun r1=>bif !(g r1.2 0).B then some (0,[b false]) else (rn ⟨18,0,0⟩ [i x5,i x6,t x7,s x8,i x14,i x15,t x16,s x17]).bind fun r2=>bif !(g r2.2 0).B then some (0,[b false]) else some (0,[b true]):=eE (by kernel_rfl)
theorem e30_0_0 (x0 x1:Int) (x2:ByteArray) (x3:Rows):rn ⟨30,0,0⟩ [i x0,i x1,t x2,s x3] =
 (rn ⟨37,0,0⟩ [i x0,i x1,t x2,s x3,i 60]).bind fun r1=>bif d ((0:Int)<=(g r1.2 0).I) then (rn ⟨38,0,0⟩ [i x0,i x1,t x2,s x3]).bind fun r2=>bif d (((g r2.2 0).I:Int)<=16) then (rn ⟨39,0,0⟩ [i x0,i x1,t x2,s x3]).bind fun r3=>some (0,[b (g r3.2 0).B]) else some (0,[b false]) else some (0,[b false]):=eE (by kernel_rfl)
theorem e31_0_0 (x0 x1:Int) (x2:ByteArray) (x3:Rows):rn ⟨31,0,0⟩ [i x0,i x1,t x2,s x3] =
 bif d (x0=3) then (rn ⟨40,0,0⟩ [i x1]).bind fun r1=>some (0,[t (g r1.2 0).S]) else (rn ⟨31,0,1⟩ [t x2,i 0,i x0,i x1,t x2,s x3]).bind fun r2=>bif q r2.1 0 then bif d ((0:Int)<(g r2.2 4).L.length) then bif d ((g r2.2 0).S.size+(m #[41]).size<=i64max) then some (0,[t ((g r2.2 0).S++(m #[41]))]) else none else some (0,[t (g r2.2 0).S]) else none:=eE (by kernel_rfl)
theorem e31_0_1 (x0:ByteArray) (x1 x2 x3:Int) (x4:ByteArray) (x5:Rows):rn ⟨31,0,1⟩ [t x0,i x1,i x2,i x3,t x4,s x5] =
 bif d (x1<x5.length) then bif d (x1=0) then bif d (x0.size+(m #[40]).size<=i64max) then bif inb x1 x5.length then (rn ⟨31,0,0⟩ [i (g (p x5 (z x1)) 0).I,i (g (p x5 (z x1)) 1).I,t (g (p x5 (z x1)) 2).S,s (g (p x5 (z x1)) 3).L]).bind fun r1=>bif d ((x0++(m #[40])).size+(g r1.2 0).S.size<=i64max) then rn ⟨31,0,1⟩ [t ((x0++(m #[40]))++(g r1.2 0).S),i (w .i64 (x1+1)),i x2,i x3,t x4,s x5] else none else none else none else bif d (x0.size+(m #[44,32]).size<=i64max) then bif inb x1 x5.length then (rn ⟨31,0,0⟩ [i (g (p x5 (z x1)) 0).I,i (g (p x5 (z x1)) 1).I,t (g (p x5 (z x1)) 2).S,s (g (p x5 (z x1)) 3).L]).bind fun r2=>bif d ((x0++(m #[44,32])).size+(g r2.2 0).S.size<=i64max) then rn ⟨31,0,1⟩ [t ((x0++(m #[44,32]))++(g r2.2 0).S),i (w .i64 (x1+1)),i x2,i x3,t x4,s x5] else none else none else none else some (0,[t x0,i x2,i x3,t x4,s x5]):=eE (by kernel_rfl)
theorem e32_0_0 (x0:Int):rn ⟨32,0,0⟩ [i x0] =
 (rn ⟨41,0,0⟩ [i x0,i 1,i 3]).bind fun r1=>bif !(g r1.2 0).B then some (0,[t (m #[])]) else bif inb x0 (([[t (m #[])],[t (m #[32,61,61,32])],[t (m #[32,33,61,32])],[t (m #[32,60,32])]]:Rows)).length then some (0,[t (g (p ([[t (m #[])],[t (m #[32,61,61,32])],[t (m #[32,33,61,32])],[t (m #[32,60,32])]]:Rows) (z x0)) 0).S]) else none:=eE (by kernel_rfl)
theorem e33_0_0 (x0 x1:Int) (x2:ByteArray) (x3:Rows):rn ⟨33,0,0⟩ [i x0,i x1,t x2,s x3] =
 (rn ⟨42,0,0⟩ [i x0,i x1,t x2,s x3]).bind fun r1=>bif d (((g r1.2 0).I:Int)<=60) then (rn ⟨43,0,0⟩ [i x0,i x1,t x2,s x3]).bind fun r2=>bif d (((g r2.2 0).I:Int)<=16) then (rn ⟨44,0,0⟩ [i x0,i x1,t x2,s x3]).bind fun r3=>some (0,[b (g r3.2 0).B]) else some (0,[b false]) else some (0,[b false]):=eE (by kernel_rfl)
theorem e34_0_0 (x0 x1:Int) (x2:ByteArray) (x3:Rows):rn ⟨34,0,0⟩ [i x0,i x1,t x2,s x3] =
 bif d (x0=3) then (rn ⟨45,0,0⟩ [i x1]).bind fun r1=>some (0,[t (g r1.2 0).S]) else bif d ((x3.length:Int)=0) then some (0,[t x2]) else (rn ⟨34,0,1⟩ [s x3,i x3.length,i 0,i x0,i x1,t x2,s x3,s []]).bind fun r2=>bif q r2.1 0 then bif d ((g r2.2 2).S.size+(m #[40]).size<=i64max) then (rn ⟨46,0,0⟩ [s (g r2.2 4).L,t (m #[44,32])]).bind fun r3=>bif d (((g r2.2 2).S++(m #[40])).size+(g r3.2 0).S.size<=i64max) then bif d ((((g r2.2 2).S++(m #[40]))++(g r3.2 0).S).size+(m #[41]).size<=i64max) then some (0,[t ((((g r2.2 2).S++(m #[40]))++(g r3.2 0).S)++(m #[41]))]) else none else none else none else none:=eE (by kernel_rfl)
theorem e34_0_1 (x0:Rows) (x1 x2 x3 x4:Int) (x5:ByteArray) (x6 x7:Rows):rn ⟨34,0,1⟩ [s x0,i x1,i x2,i x3,i x4,t x5,s x6,s x7] =
 bif d (x2<x1) then bif inb x2 x0.length then (rn ⟨34,0,0⟩ [i (g (p x0 (z x2)) 0).I,i (g (p x0 (z x2)) 1).I,t (g (p x0 (z x2)) 2).S,s (g (p x0 (z x2)) 3).L]).bind fun r1=>bif l (x7.length+(([[t (g r1.2 0).S]]:Rows)).length) M63 then rn ⟨34,0,1⟩ [s x0,i x1,i (w .i64 (x2+1)),i x3,i x4,t x5,s x6,s (x7++([[t (g r1.2 0).S]]:Rows))] else none else none else some (0,[i x3,i x4,t x5,s x6,s x7]):=eE (by kernel_rfl)
theorem e35_0_0 (x0:Int):rn ⟨35,0,0⟩ [i x0] =
 bif d ((1:Int)<=x0) then some (0,[b (d (x0<=3))]) else some (0,[b false]):=eE (by kernel_rfl)
theorem e36_0_0 (x0:Int):rn ⟨36,0,0⟩ [i x0] =
 bif inb (w .i64 (x0-1)) (([[t (m #[32,61,61,32])],[t (m #[32,33,61,32])],[t (m #[32,60,32])]]:Rows)).length then some (0,[t (g (p ([[t (m #[32,61,61,32])],[t (m #[32,33,61,32])],[t (m #[32,60,32])]]:Rows) (z (w .i64 (x0-1)))) 0).S]) else none:=eE (by kernel_rfl)
theorem e37_0_0 (x0 x1:Int) (x2:ByteArray) (x3:Rows) (x4:Int):rn ⟨37,0,0⟩ [i x0,i x1,t x2,s x3,i x4] =
 (rn ⟨37,0,1⟩ [i (w .i64 (x4-1)),i 0,i x0,i x1,t x2,s x3]).bind fun r1=>bif q r1.1 0 then some (0,[i (g r1.2 0).I]) else none:=eE (by kernel_rfl)
theorem e37_0_1 (x0 x1 x2 x3:Int) (x4:ByteArray) (x5:Rows):rn ⟨37,0,1⟩ [i x0,i x1,i x2,i x3,t x4,s x5] =
 bif d (x1<x5.length) then bif d ((0:Int)<=x0) then bif inb x1 x5.length then (rn ⟨37,0,0⟩ [i (g (p x5 (z x1)) 0).I,i (g (p x5 (z x1)) 1).I,t (g (p x5 (z x1)) 2).S,s (g (p x5 (z x1)) 3).L,i x0]).bind fun r1=>rn ⟨37,0,1⟩ [i (g r1.2 0).I,i (w .i64 (x1+1)),i x2,i x3,t x4,s x5] else none else some (0,[i x0]) else some (0,[i x0]):=eE (by kernel_rfl)
theorem e38_0_0 (x0 x1:Int) (x2:ByteArray) (x3:Rows):rn ⟨38,0,0⟩ [i x0,i x1,t x2,s x3] =
 (rn ⟨38,0,1⟩ [i 0,i 0,i x0,i x1,t x2,s x3]).bind fun r1=>bif q r1.1 0 then some (0,[i (w .i64 ((g r1.2 0).I+1))]) else none:=eE (by kernel_rfl)
theorem e38_0_1 (x0 x1 x2 x3:Int) (x4:ByteArray) (x5:Rows):rn ⟨38,0,1⟩ [i x0,i x1,i x2,i x3,t x4,s x5] =
 bif d (x1<x5.length) then bif inb x1 x5.length then (rn ⟨38,0,0⟩ [i (g (p x5 (z x1)) 0).I,i (g (p x5 (z x1)) 1).I,t (g (p x5 (z x1)) 2).S,s (g (p x5 (z x1)) 3).L]).bind fun r1=>(rn ⟨47,0,0⟩ [i x0,i (g r1.2 0).I]).bind fun r2=>rn ⟨38,0,1⟩ [i (g r2.2 0).I,i (w .i64 (x1+1)),i x2,i x3,t x4,s x5] else none else some (0,[i x0]):=eE (by kernel_rfl)
theorem e39_0_0 (x0 x1:Int) (x2:ByteArray) (x3:Rows):rn ⟨39,0,0⟩ [i x0,i x1,t x2,s x3] =
 (rn ⟨39,0,1⟩ [i 0,i x0,i x1,t x2,s x3]).bind fun r1=>bif q r1.1 0 then (rn ⟨48,0,0⟩ [i (g r1.2 0).I,i (g r1.2 1).I,t (g r1.2 2).S,s (g r1.2 3).L]).bind fun r2=>some (0,[b (g r2.2 0).B]) else bif q r1.1 1 then some (0,[b false]) else none:=eE (by kernel_rfl)
theorem e39_0_1 (x0 x1 x2:Int) (x3:ByteArray) (x4:Rows):rn ⟨39,0,1⟩ [i x0,i x1,i x2,t x3,s x4] =
 bif d (x0<x4.length) then bif inb x0 x4.length then (rn ⟨39,0,0⟩ [i (g (p x4 (z x0)) 0).I,i (g (p x4 (z x0)) 1).I,t (g (p x4 (z x0)) 2).S,s (g (p x4 (z x0)) 3).L]).bind fun r1=>bif !(g r1.2 0).B then some (1,[]) else rn ⟨39,0,1⟩ [i (w .i64 (x0+1)),i x1,i x2,t x3,s x4] else none else some (0,[i x1,i x2,t x3,s x4]):=eE (by kernel_rfl)
theorem e40_0_0 (x0:Int):rn ⟨40,0,0⟩ [i x0] =
 bif d (x0=0) then some (0,[t (m #[48])]) else (rn ⟨40,0,1⟩ [i x0,b (d (x0<0)),t (m #[])]).bind fun r1=>bif q r1.1 0 then bif (g r1.2 0).B then bif d ((m #[45]).size+(g r1.2 1).S.size<=i64max) then some (0,[t ((m #[45])++(g r1.2 1).S)]) else none else some (0,[t (g r1.2 1).S]) else none:=eE (by kernel_rfl)
theorem e40_0_1 (x0:Int) (x1:Bool) (x2:ByteArray):rn ⟨40,0,1⟩ [i x0,b x1,t x2] =
 bif !d (x0=0) then bif !d ((10:Int)=0) then bif d (((Int.tmod x0 10):Int)<0) then bif d ((bytesOf ([[i (IntKind.u8.wrap (w .i64 (48+(w .i64 (0-(Int.tmod x0 10))))))]]:Rows)).size+x2.size<=i64max) then bif !d ((10:Int)=0) then rn ⟨40,0,1⟩ [i (w .i64 (Int.tdiv x0 10)),b x1,t ((bytesOf ([[i (IntKind.u8.wrap (w .i64 (48+(w .i64 (0-(Int.tmod x0 10))))))]]:Rows))++x2)] else none else none else bif d ((bytesOf ([[i (IntKind.u8.wrap (w .i64 (48+(Int.tmod x0 10))))]]:Rows)).size+x2.size<=i64max) then bif !d ((10:Int)=0) then rn ⟨40,0,1⟩ [i (w .i64 (Int.tdiv x0 10)),b x1,t ((bytesOf ([[i (IntKind.u8.wrap (w .i64 (48+(Int.tmod x0 10))))]]:Rows))++x2)] else none else none else none else some (0,[b x1,t x2]):=eE (by kernel_rfl)
theorem e41_0_0 (x0 x1 x2:Int):rn ⟨41,0,0⟩ [i x0,i x1,i x2] =
 bif d (x1<=x0) then some (0,[b (d (x0<=x2))]) else some (0,[b false]):=eE (by kernel_rfl)
theorem e42_0_0 (x0 x1:Int) (x2:ByteArray) (x3:Rows):rn ⟨42,0,0⟩ [i x0,i x1,t x2,s x3] =
 (rn ⟨42,0,1⟩ [i 1,s x3,i x3.length,i 0]).bind fun r1=>bif q r1.1 0 then some (0,[i (g r1.2 0).I]) else none:=eE (by kernel_rfl)
theorem e42_0_1 (x0:Int) (x1:Rows) (x2 x3:Int):rn ⟨42,0,1⟩ [i x0,s x1,i x2,i x3] =
 bif d (x3<x2) then bif inb x3 x1.length then (rn ⟨42,0,0⟩ [i (g (p x1 (z x3)) 0).I,i (g (p x1 (z x3)) 1).I,t (g (p x1 (z x3)) 2).S,s (g (p x1 (z x3)) 3).L]).bind fun r1=>rn ⟨42,0,1⟩ [i (w .i64 (x0+(g r1.2 0).I)),s x1,i x2,i (w .i64 (x3+1))] else none else some (0,[i x0]):=eE (by kernel_rfl)
theorem e43_0_0 (x0 x1:Int) (x2:ByteArray) (x3:Rows):rn ⟨43,0,0⟩ [i x0,i x1,t x2,s x3] =
 (rn ⟨43,0,1⟩ [i 0,s x3,i x3.length,i 0]).bind fun r1=>bif q r1.1 0 then some (0,[i (w .i64 ((g r1.2 0).I+1))]) else none:=eE (by kernel_rfl)
theorem e43_0_1 (x0:Int) (x1:Rows) (x2 x3:Int):rn ⟨43,0,1⟩ [i x0,s x1,i x2,i x3] =
 bif d (x3<x2) then bif inb x3 x1.length then (rn ⟨43,0,0⟩ [i (g (p x1 (z x3)) 0).I,i (g (p x1 (z x3)) 1).I,t (g (p x1 (z x3)) 2).S,s (g (p x1 (z x3)) 3).L]).bind fun r1=>rn ⟨43,0,1⟩ [i (bif d ((g r1.2 0).I > x0) then (g r1.2 0).I else x0),s x1,i x2,i (w .i64 (x3+1))] else none else some (0,[i x0]):=eE (by kernel_rfl)
theorem e44_0_0 (x0 x1:Int) (x2:ByteArray) (x3:Rows):rn ⟨44,0,0⟩ [i x0,i x1,t x2,s x3] =
 bif d (x0=1) then bif d (x1=0) then bif d ((x3.length:Int)=0) then (rn ⟨49,0,0⟩ [t x2]).bind fun r1=>some (0,[b (g r1.2 0).B]) else some (0,[b false]) else some (0,[b false]) else bif d (x0=3) then (rn ⟨50,0,0⟩ [i x0,i x1,t x2,s x3]).bind fun r2=>some (0,[b (g r2.2 0).B]) else bif d (x0=2) then bif !d (x1=0) then some (0,[b false]) else (rn ⟨51,0,0⟩ [t x2]).bind fun r3=>bif !(g r3.2 0).B then some (0,[b false]) else (rn ⟨44,0,2⟩ [s x3,i x3.length,i 0]).bind fun r4=>bif q r4.1 0 then some (0,[b true]) else bif q r4.1 1 then some (0,[b false]) else none else some (0,[b false]):=eE (by kernel_rfl)
theorem e44_0_2 (x0:Rows) (x1 x2:Int):rn ⟨44,0,2⟩ [s x0,i x1,i x2] =
 bif d (x2<x1) then bif inb x2 x0.length then (rn ⟨44,0,0⟩ [i (g (p x0 (z x2)) 0).I,i (g (p x0 (z x2)) 1).I,t (g (p x0 (z x2)) 2).S,s (g (p x0 (z x2)) 3).L]).bind fun r1=>bif !(g r1.2 0).B then some (1,[]) else rn ⟨44,0,2⟩ [s x0,i x1,i (w .i64 (x2+1))] else none else some (0,[]):=eE (by kernel_rfl)
theorem e45_0_0 (x0:Int):rn ⟨45,0,0⟩ [i x0] =
 (rn ⟨52,0,0⟩ [i x0]).bind fun r1=>some (0,[t (g r1.2 0).S]):=eE (by kernel_rfl)
theorem e46_0_0 (x0:Rows) (x1:ByteArray):rn ⟨46,0,0⟩ [s x0,t x1] =
 (rn ⟨53,0,0⟩ [s x0,t x1]).bind fun r1=>some (0,[t (g r1.2 0).S]):=eE (by kernel_rfl)
theorem e47_0_0 (x0 x1:Int):rn ⟨47,0,0⟩ [i x0,i x1] =
 bif d (x1<x0) then some (0,[i x0]) else some (0,[i x1]):=eE (by kernel_rfl)
theorem e48_0_0 (x0 x1:Int) (x2:ByteArray) (x3:Rows):rn ⟨48,0,0⟩ [i x0,i x1,t x2,s x3] =
 bif d (x0=1) then (rn ⟨54,0,0⟩ [t x2]).bind fun r1=>bif (g r1.2 0).B then bif d (x1=0) then some (0,[b (d ((x3.length:Int)=0))]) else some (0,[b false]) else some (0,[b false]) else bif d (x0=2) then (rn ⟨55,0,0⟩ [t x2]).bind fun r2=>bif (g r2.2 0).B then some (0,[b (d (x1=0))]) else some (0,[b false]) else bif d (x0=3) then bif d (x2=(m #[])) then (rn ⟨41,0,0⟩ [i x1,i 0,i 3]).bind fun r3=>bif (g r3.2 0).B then some (0,[b (d ((x3.length:Int)=0))]) else some (0,[b false]) else some (0,[b false]) else some (0,[b false]):=eE (by kernel_rfl)
theorem e49_0_0 (x0:ByteArray):rn ⟨49,0,0⟩ [t x0] =
 (rn ⟨56,0,0⟩ [t x0,i 65,i 90]).bind fun r1=>some (0,[b (g r1.2 0).B]):=eE (by kernel_rfl)
theorem e50_0_0 (x0 x1:Int) (x2:ByteArray) (x3:Rows):rn ⟨50,0,0⟩ [i x0,i x1,t x2,s x3] =
 bif d (x0=3) then bif d ((0:Int)<=x1) then bif d (x1<4) then bif d (x2=(m #[])) then some (0,[b (d ((x3.length:Int)=0))]) else some (0,[b false]) else some (0,[b false]) else some (0,[b false]) else some (0,[b false]):=eE (by kernel_rfl)
theorem e51_0_0 (x0:ByteArray):rn ⟨51,0,0⟩ [t x0] =
 (rn ⟨56,0,0⟩ [t x0,i 97,i 122]).bind fun r1=>some (0,[b (g r1.2 0).B]):=eE (by kernel_rfl)
theorem e54_0_0 (x0:ByteArray):rn ⟨54,0,0⟩ [t x0] =
 bif !d (x0=(m #[])) then bif inb 0 (x0).size then bif d ((65:Int)<=(((x0).get! (z 0)).toNat)) then bif inb 0 (x0).size then bif d (((((x0).get! (z 0)).toNat):Int)<=90) then (rn ⟨61,0,0⟩ [t x0]).bind fun r1=>some (0,[b (g r1.2 0).B]) else some (0,[b false]) else none else some (0,[b false]) else none else some (0,[b false]):=eE (by kernel_rfl)
theorem e55_0_0 (x0:ByteArray):rn ⟨55,0,0⟩ [t x0] =
 bif !d (x0=(m #[])) then bif inb 0 (x0).size then (rn ⟨62,0,0⟩ [i (((x0).get! (z 0)).toNat)]).bind fun r1=>bif (g r1.2 0).B then (rn ⟨61,0,0⟩ [t x0]).bind fun r2=>some (0,[b (g r2.2 0).B]) else some (0,[b false]) else none else some (0,[b false]):=eE (by kernel_rfl)
theorem e56_0_0 (x0:ByteArray) (x1 x2:Int):rn ⟨56,0,0⟩ [t x0,i x1,i x2] =
 bif d (((x0).size:Int)<1) then some (0,[b false]) else bif d ((8:Int)<(x0).size) then some (0,[b false]) else bif inb 0 (x0).size then bif d (((((x0).get! (z 0)).toNat):Int)<x1) then some (0,[b false]) else bif inb 0 (x0).size then bif d (x2<(((x0).get! (z 0)).toNat)) then some (0,[b false]) else (rn ⟨56,0,1⟩ [t x0,i 1]).bind fun r1=>bif q r1.1 0 then some (0,[b true]) else bif q r1.1 1 then some (0,[b false]) else none else none else none:=eE (by kernel_rfl)
theorem e56_0_1 (x0:ByteArray) (x1:Int):rn ⟨56,0,1⟩ [t x0,i x1] =
 bif d (x1<(x0).size) then bif inb x1 (x0).size then bif d (((((x0).get! (z x1)).toNat):Int)<97) then bif inb x1 (x0).size then bif d (((((x0).get! (z x1)).toNat):Int)<48) then some (1,[]) else bif inb x1 (x0).size then bif d ((57:Int)<(((x0).get! (z x1)).toNat)) then some (1,[]) else rn ⟨56,0,1⟩ [t x0,i (w .i64 (x1+1))] else none else none else bif inb x1 (x0).size then bif d ((122:Int)<(((x0).get! (z x1)).toNat)) then bif inb x1 (x0).size then bif d (((((x0).get! (z x1)).toNat):Int)<48) then some (1,[]) else bif inb x1 (x0).size then bif d ((57:Int)<(((x0).get! (z x1)).toNat)) then some (1,[]) else rn ⟨56,0,1⟩ [t x0,i (w .i64 (x1+1))] else none else none else rn ⟨56,0,1⟩ [t x0,i (w .i64 (x1+1))] else none else none else some (0,[]):=eE (by kernel_rfl)
theorem e61_0_0 (x0:ByteArray):rn ⟨61,0,0⟩ [t x0] =
 (rn ⟨61,0,1⟩ [t x0,i 1]).bind fun r1=>bif q r1.1 0 then (rn ⟨41,0,0⟩ [i ((g r1.2 0).S.size),i 1,i 8]).bind fun r2=>some (0,[b (g r2.2 0).B]) else bif q r1.1 1 then some (0,[b false]) else none:=eE (by kernel_rfl)
theorem e61_0_1 (x0:ByteArray) (x1:Int):rn ⟨61,0,1⟩ [t x0,i x1] =
 bif d (x1<(x0).size) then bif inb x1 (x0).size then (rn ⟨62,0,0⟩ [i (((x0).get! (z x1)).toNat)]).bind fun r1=>bif !(g r1.2 0).B then bif inb x1 (x0).size then (rn ⟨66,0,0⟩ [i (((x0).get! (z x1)).toNat)]).bind fun r2=>bif !(g r2.2 0).B then some (1,[]) else rn ⟨61,0,1⟩ [t x0,i (w .i64 (x1+1))] else none else rn ⟨61,0,1⟩ [t x0,i (w .i64 (x1+1))] else none else some (0,[t x0]):=eE (by kernel_rfl)
theorem e62_0_0 (x0:Int):rn ⟨62,0,0⟩ [i x0] =
 bif d ((97:Int)<=x0) then some (0,[b (d (x0<=122))]) else some (0,[b false]):=eE (by kernel_rfl)
theorem e66_0_0 (x0:Int):rn ⟨66,0,0⟩ [i x0] =
 bif d ((48:Int)<=x0) then some (0,[b (d (x0<=57))]) else some (0,[b false]):=eE (by kernel_rfl)
end Go.Q.S
