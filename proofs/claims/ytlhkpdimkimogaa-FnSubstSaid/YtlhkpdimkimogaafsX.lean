/- The functions of this seat, as that machine runs them. -/
import Derived.Test.YtlhkpdimkimogaaQC
import Derived.Test.YtlhkpdimkimogaaProg
set_option linter.unusedVariables false
namespace Go.Q.S
open Go Go.Q Go.Proofs
def eqL:List Nat:=[]
def tyL:List (Nat×TI):=[(3,⟨false,[.int .i64],[]⟩),
 (4,⟨false,[.bool],[]⟩),
 (5,⟨false,[.int .u8],[]⟩),
 (9,⟨false,[.str],[]⟩),
 (22,⟨false,[.sl 5],[]⟩),
 (24,⟨false,[.sl 45],[]⟩),
 (27,⟨false,[.sl 29],[]⟩),
 (29,⟨true,[.int .i64,.int .i64,.str,.sl 29],[(0,3),(1,3),(2,9),(3,27)]⟩),
 (33,⟨false,[.fn],[]⟩),
 (36,⟨false,[.sl 9],[]⟩),
 (40,⟨false,[.ptr],[]⟩),
 (45,⟨true,[.str,.int .i64,.int .i64,.str,.sl 29],[(0,9),(1,29)]⟩),
 (51,⟨false,[.sl 3],[]⟩),
 (53,⟨true,[.int .i64,.sl 3,.int .i64,.sl 45],[(0,3),(1,51),(2,3),(3,24)]⟩),
 (54,⟨false,[.sl 53],[]⟩),
 (56,⟨true,[.sl 53],[(0,54)]⟩),
 (65,⟨true,[.sl 5,.int .i64,.int .i64],[(0,22),(1,3),(2,3)]⟩),
 (74,⟨false,[.sl 24],[]⟩)]
abbrev zi:Sh:=.int .i64
abbrev zg0:Sh:=.agg [zi,zi,.str,.hd 16]
abbrev zg1:Sh:=.agg [zi,zi,.str,.im 29]
abbrev zb0:OSh:=.box [.im 5,zi,zi]
abbrev zb1:OSh:=.box [zi,zi,.str,.hd 19]
abbrev zb2:OSh:=.box [zi,zi,.str,.hd 18]
abbrev zb3:OSh:=.box [zi,zi,.str,.im 29]
abbrev za0:OSh:=.arr 29 .deep
abbrev za1:OSh:=.arr 45 .deep
abbrev za2:OSh:=.arr 9 .deep
def kiL:List (Nat×List (Nat×Nat×KI)):=[(3,[(0,0,⟨[(0,.im 5)],[],[⟨.ret,[(0,.bool)],[]⟩]⟩)]),
 (4,[(0,0,⟨[(0,.im 5)],[],[⟨.ret,[(0,.bool)],[]⟩]⟩)]),
 (5,[(0,0,⟨[(0,.im 5)],[],[⟨.ret,[(0,.hd 16),(1,.hd 17)],[(16,.arr 45 .top),(17,.arr 45 .top)]⟩]⟩)]),
 (6,[(0,0,⟨[(0,.im 5)],[],[⟨.ret,[(0,.hd 16),(1,.agg [zi,zi,.str,.hd 17])],[(16,.arr 45 .top),(17,.arr 29 .top)]⟩]⟩)]),
 (7,[(0,0,⟨[(0,.im 45),(1,.im 45)],[],[⟨.ret,[(0,.hd 16)],[(16,za1)]⟩]⟩),
   (0,1,⟨[(0,.im 45),(1,.im 45),(5,.hd 16),(12,.im 45),(13,zi),(14,zi)],[(16,za1)],[⟨.nrm,[(0,.im 45),(1,.im 45),(5,.hd 16)],[(16,za1)]⟩]⟩),
   (0,3,⟨[(0,.im 45),(5,.hd 16),(29,.im 45),(30,zi),(31,zi)],[(16,za1)],[⟨.nrm,[(5,.hd 16)],[(16,za1)]⟩]⟩)]),
 (8,[(0,0,⟨[(0,zg1),(1,zg1)],[],[⟨.ret,[(0,.bool)],[]⟩]⟩),
   (0,1,⟨[(2,.bp 16 0),(3,.bp 17 0),(5,zi)],[(16,zb3),(17,zb3)],[⟨.nrm,[],[]⟩,⟨.ret,[(4,.ff)],[]⟩]⟩)]),
 (9,[(0,0,⟨[(0,.im 45),(1,zg1)],[],[⟨.ret,[(0,zg0)],[(16,za0)]⟩]⟩),
   (0,1,⟨[(0,.im 45),(4,.bp 16 0),(7,.bp 17 0),(31,.im 29),(32,zi),(33,zi)],[(16,zb2),(17,zb1),(18,za0),(19,za0)],[⟨.nrm,[(4,.bp 16 0),(7,.bp 17 0)],[(16,zb2),(17,zb1),(18,za0),(19,za0)]⟩]⟩)]),
 (10,[(0,0,⟨[(0,.im 45),(1,.im 45)],[],[⟨.ret,[(0,.bool)],[]⟩]⟩)]),
 (11,[(0,0,⟨[(0,.im 45),(1,.im 45)],[],[⟨.ret,[(0,.hd 16)],[(16,za1)]⟩]⟩),
   (0,1,⟨[(0,.im 45),(1,.im 45),(5,.hd 16),(6,zi)],[(16,za1)],[⟨.nrm,[(0,.im 45),(1,.im 45),(5,.hd 16)],[(16,za1)]⟩]⟩),
   (0,3,⟨[(0,.im 45),(1,.im 45),(5,.hd 16),(7,zi)],[(16,za1)],[⟨.nrm,[(5,.hd 16)],[(16,za1)]⟩]⟩)]),
 (12,[(0,0,⟨[(0,.im 5)],[],[⟨.ret,[(0,.hd 16),(1,.im 9)],[(16,.arr 45 .top)]⟩]⟩)]),
 (13,[(0,0,⟨[(0,.im 45),(1,.im 9)],[],[⟨.ret,[(0,.hd 16)],[(16,za1)]⟩]⟩),
   (0,1,⟨[(0,.im 45),(5,.hd 16),(11,.hd 17),(12,zi),(13,zi)],[(16,za1),(17,za2)],[⟨.nrm,[(5,.hd 16)],[(16,za1)]⟩]⟩)]),
 (14,[(0,0,⟨[(0,.im 5)],[],[⟨.ret,[(0,.hd 16),(1,.hd 17)],[(16,.arr 45 .ap),(17,.arr 45 .top)]⟩]⟩)]),
 (15,[(0,0,⟨[(0,.im 45),(1,.im 9)],[],[⟨.ret,[(0,.hd 16)],[(16,za1)]⟩]⟩),
   (0,1,⟨[(0,.im 45),(5,.hd 16),(6,.hd 17),(7,zi)],[(16,za1),(17,za2)],[⟨.nrm,[(5,.hd 16)],[(16,za1)]⟩]⟩)]),
 (16,[(0,0,⟨[(0,.im 45),(1,.im 45)],[],[⟨.ret,[(0,.bool)],[]⟩]⟩),
   (0,1,⟨[(0,.im 45),(1,.im 45),(10,.hd 16),(11,zi),(12,zi)],[(16,.arr 45 .top)],[⟨.nrm,[],[]⟩,⟨.ret,[(4,.ff)],[]⟩]⟩)]),
 (17,[(0,0,⟨[(0,.im 45),(1,.im 45)],[],[⟨.ret,[(0,.bool)],[]⟩]⟩),
   (0,1,⟨[(0,.im 45),(1,.im 45),(5,.hd 16),(6,zi)],[(16,.arr 45 .top)],[⟨.nrm,[],[]⟩,⟨.ret,[(4,.ff)],[]⟩]⟩)]),
 (18,[(0,0,⟨[(0,.im 5)],[],[⟨.ret,[(0,.bp 16 0)],[(16,zb0)]⟩]⟩),
   (0,1,⟨[(0,.im 5),(3,zi),(4,zi)],[],[⟨.nrm,[(0,.im 5),(3,zi)],[]⟩]⟩)]),
 (19,[(0,0,⟨[(0,.bp 0 0)],[(0,zb0)],[⟨.ret,[(0,.hd 16)],[(0,zb0),(16,.arr 45 .top)]⟩]⟩),
   (0,1,⟨[(0,.bp 0 0),(3,.hd 16),(4,zi),(5,zi)],[(0,zb0),(16,.arr 45 .top)],[⟨.nrm,[(3,.hd 16)],[(0,zb0),(16,.arr 45 .top)]⟩]⟩)]),
 (20,[(0,0,⟨[(0,.bp 0 0)],[(0,zb0)],[⟨.ret,[(0,zg0)],[(0,zb0),(16,.arr 29 .top)]⟩]⟩),
   (0,2,⟨[(2,.bp 16 0),(3,.bp 17 0),(4,zi)],[(0,zb0),(16,zb2),(17,zb1),(18,za0),(19,.arr 29 .top)],[⟨.nrm,[(2,.bp 16 0),(3,.bp 17 0)],[(0,zb0),(16,zb2),(17,zb1),(18,za0),(19,.arr 29 .top)]⟩]⟩)]),
 (21,[(0,0,⟨[(0,.im 45),(1,.str)],[],[⟨.ret,[(0,zg1),(1,.bool)],[]⟩]⟩),
   (0,1,⟨[(1,.str),(4,.bp 16 0),(8,.im 45),(9,zi),(10,zi)],[(16,.box [zi,zi,.str,.hd 17]),(17,za0)],[⟨.nrm,[(4,.bp 16 0)],[(16,.box [zi,zi,.str,.hd 17]),(17,za0)]⟩,⟨.ret,[(4,.bp 16 0),(5,.tt)],[(16,zb3)]⟩]⟩)]),
 (22,[(0,0,⟨[(0,.agg [.str,zi,zi,.str,.im 29])],[],[⟨.ret,[(0,.agg [.str,zi,zi,.str,.hd 16])],[(16,za0)]⟩]⟩)]),
 (23,[(0,0,⟨[(0,zg1)],[],[⟨.ret,[(0,zg0)],[(16,za0)]⟩]⟩),
   (0,1,⟨[(2,.bp 16 0),(3,.bp 17 0),(14,.im 29),(15,zi),(16,zi)],[(16,zb2),(17,zb1),(18,za0),(19,za0)],[⟨.nrm,[(2,.bp 16 0),(3,.bp 17 0)],[(16,zb2),(17,zb1),(18,za0),(19,za0)]⟩]⟩)]),
 (24,[(0,0,⟨[(0,.agg [.im 53]),(1,.agg [.im 53])],[],[⟨.ret,[(0,.bool)],[]⟩]⟩),
   (0,1,⟨[(2,.bp 16 0),(3,.bp 17 0),(5,zi)],[(16,.box [.im 53]),(17,.box [.im 53])],[⟨.nrm,[],[]⟩,⟨.ret,[(4,.ff)],[]⟩]⟩)]),
 (25,[(0,0,⟨[(0,.im 45),(1,zg1)],[],[⟨.ret,[(0,zg0)],[(16,za0)]⟩]⟩),
   (0,1,⟨[(0,.im 45),(3,.bp 16 0),(4,.bp 17 0),(7,.bp 18 0),(8,zi)],[(16,zb3),(17,zb1),(18,.box [zi,zi,.str,.hd 20]),(19,za0),(20,za0)],[⟨.nrm,[(4,.bp 16 0),(7,.bp 17 0)],[(16,zb2),(17,zb1),(18,za0),(19,za0)]⟩]⟩)]),
 (26,[(0,0,⟨[(0,.im 45),(1,.str)],[],[⟨.ret,[(0,zi)],[]⟩]⟩),
   (0,1,⟨[(0,.im 45),(1,.str),(5,zi)],[],[⟨.nrm,[],[]⟩,⟨.ret,[(4,zi)],[]⟩]⟩)]),
 (27,[(0,0,⟨[(0,zg1)],[],[⟨.ret,[(0,zg0)],[(16,za0)]⟩]⟩),
   (0,1,⟨[(1,.bp 16 0),(2,.bp 17 0),(3,.hd 18),(4,zi)],[(16,zb3),(17,zb1),(18,za0),(19,za0)],[⟨.nrm,[(1,.bp 16 0),(2,.bp 17 0),(3,.hd 18)],[(16,zb3),(17,zb1),(18,za0),(19,za0)]⟩]⟩)]),
 (28,[(0,0,⟨[(0,.bp 0 0),(1,zi)],[(0,zb0)],[⟨.ret,[(0,zi)],[(0,zb0)]⟩]⟩)]),
 (29,[(0,0,⟨[(0,.im 9)],[],[⟨.ret,[(0,.hd 16)],[(16,za2)]⟩]⟩)]),
 (30,[(0,0,⟨[(0,.im 45),(1,.str)],[],[⟨.ret,[(0,zg0),(1,.bool)],[(16,za0)]⟩]⟩)]),
 (31,[(0,0,⟨[(0,.bp 0 0),(1,zi)],[(0,zb0)],[⟨.ret,[(0,.bool)],[(0,zb0)]⟩]⟩)]),
 (32,[(0,0,⟨[(0,.im 9)],[],[⟨.ret,[(0,.hd 16)],[(16,za2)]⟩]⟩),
   (0,1,⟨[(0,.im 9),(3,.hd 16),(4,zi)],[(16,za2)],[⟨.nrm,[(3,.hd 16)],[(16,za2)]⟩]⟩),
   (0,3,⟨[(0,.im 9),(3,.hd 16),(4,zi),(5,zi)],[(16,za2)],[⟨.nrm,[(0,.im 9),(3,.hd 16),(4,zi),(5,zi)],[(16,za2)]⟩]⟩)]),
 (33,[(0,0,⟨[(0,.im 45),(1,.str)],[],[⟨.ret,[(0,zg0),(1,.bool)],[(16,za0)]⟩]⟩)]),
 (34,[(0,0,⟨[(0,.im 24)],[],[⟨.ret,[(0,.hd 16)],[(16,.arr 45 .top)]⟩]⟩),
   (0,1,⟨[(0,.im 24),(3,zi),(9,.im 24),(10,zi),(11,zi)],[],[⟨.nrm,[(0,.im 24),(3,zi)],[]⟩]⟩),
   (0,3,⟨[(6,.hd 16),(25,.im 24),(26,zi),(27,zi)],[(16,.arr 45 .top)],[⟨.nrm,[(6,.hd 16)],[(16,.arr 45 .top)]⟩]⟩)]),
 (35,[(0,0,⟨[(0,zg1),(1,zg1)],[],[⟨.ret,[(0,.bool)],[]⟩]⟩)]),
 (36,[(0,0,⟨[(0,.im 45),(1,.str)],[],[⟨.ret,[(0,zg0)],[(16,za0)]⟩]⟩)]),
 (37,[(0,0,⟨[(0,.str)],[],[⟨.ret,[(0,zg0)],[(16,za0)]⟩]⟩)]),
 (38,[(0,0,⟨[(0,.bp 0 0),(1,.im 9)],[(0,zb0)],[⟨.ret,[(0,.str)],[(0,zb0)]⟩]⟩)]),
 (39,[(0,0,⟨[(0,.bp 0 0),(1,zi),(2,.bool)],[(0,zb0)],[⟨.ret,[(0,zg0)],[(0,zb0),(16,.arr 29 .top)]⟩]⟩)]),
 (40,[(0,0,⟨[(0,.bp 0 0),(1,.im 3)],[(0,zb0)],[⟨.ret,[(0,zi)],[(0,zb0)]⟩]⟩)]),
 (41,[(0,0,⟨[(0,zi)],[],[⟨.ret,[(0,zg0)],[(16,za0)]⟩]⟩)]),
 (42,[(0,0,⟨[(0,.str),(1,zg1)],[],[⟨.ret,[(0,zg0)],[(16,.arr 29 .top)]⟩]⟩)]),
 (43,[(0,0,⟨[(0,.im 3),(1,.im 3)],[],[⟨.ret,[(0,.bool)],[]⟩]⟩),
   (0,1,⟨[(0,.im 3),(1,.im 3),(5,zi)],[],[⟨.nrm,[],[]⟩,⟨.ret,[(4,.ff)],[]⟩]⟩)]),
 (44,[(0,0,⟨[(0,.im 45),(1,.im 45)],[],[⟨.ret,[(0,.bool)],[]⟩]⟩),
   (0,1,⟨[(0,.im 45),(1,.im 45),(5,zi)],[],[⟨.nrm,[],[]⟩,⟨.ret,[(4,.ff)],[]⟩]⟩)]),
 (45,[(0,0,⟨[(0,.bp 0 0)],[(0,zb0)],[⟨.ret,[(0,zi)],[(0,zb0)]⟩]⟩)]),
 (46,[(0,0,⟨[(0,.im 9)],[],[⟨.ret,[(0,.hd 16)],[(16,za2)]⟩]⟩)]),
 (47,[(0,0,⟨[(0,.hd 0)],[(0,za2)],[⟨.ret,[],[(0,za2)]⟩]⟩)]),
 (48,[(0,0,⟨[(0,.hd 0)],[(0,za2)],[⟨.ret,[(0,.hd 16)],[(16,za2)]⟩]⟩)]),
 (49,[(0,0,⟨[(0,.nils),(1,zi)],[],[⟨.ret,[(0,.hd 16)],[(16,za1)]⟩]⟩)]),
 (50,[(0,0,⟨[(0,.im 29),(1,.im 29),(2,.fn 35 [])],[],[⟨.ret,[(0,.bool)],[]⟩]⟩),
   (0,1,⟨[(1,.im 29),(2,.fn 35 []),(15,.im 29),(16,zi),(17,zi)],[],[⟨.nrm,[],[]⟩,⟨.ret,[(6,.ff)],[]⟩]⟩)]),
 (51,[(0,0,⟨[(0,.str),(1,.hd 0)],[(0,za0)],[⟨.ret,[(0,.agg [zi,zi,.str,.hd 0])],[(0,za0)]⟩]⟩),
   (1,0,⟨[(0,.str),(1,.hd 0)],[(0,.arr 29 .top)],[⟨.ret,[(0,.agg [zi,zi,.str,.hd 0])],[(0,.arr 29 .top)]⟩]⟩)]),
 (52,[(0,0,⟨[(0,.str),(1,zg1),(2,zg1)],[],[⟨.ret,[(0,zg0)],[(16,.arr 29 .top)]⟩]⟩)])]
def vrL:List (Nat×List (Nat×List (Nat×Nat))):=[(42,[(0,[(8,1)])]),(52,[(0,[(11,1)])])]
def shL:List (Nat×List (Nat×List Nat)):=[(14,[(0,[15])])]
def extL:List (Nat×(Nat->List D->Option (Nat×List D))):=[(47,sortG),(48,compG),(49,growG)]
def kiF:List (Nat×Nat×KI)->Nat->Nat->Option KI
 | [],_,_=>none
 | (a,b,x)::r,v,n=>bif Nat.beq a v&&Nat.beq b n then some x else kiF r v n
def vrF:List (Nat×List (Nat×List (Nat×Nat)))->Nat->Nat->Nat->Nat
 | [],_,_,_=>0
 | (f,[(v,l)])::r,f',v',d=>bif Nat.beq f f'&&Nat.beq v v' then (lookN l d).getD 0 else vrF r f' v' d
 | _,_,_,_=>0
def H:Tab:={ ty:=fun t=>lookN tyL t,ki:=fun k=>match lookN kiL k.f with | some l=>kiF l k.v k.n | none=>none,vr:=fun k d=>vrF vrL k.f k.v d,share:=fun k=>match lookN shL k.f with | some l=>(lookN l k.v).getD [] | none=>[],ext:=fun f=>lookN extL f,eqt:=fun t=>memb eqL t }
noncomputable def rn:Key->List D->R:=run H Try.prog
theorem rn_eq (k:Key) (l:List D):rn k l=step H rn Try.prog k l:=run_eq H Try.prog k l
open Go.Q.D renaming int->i,sl->s,str->t,bool->b
open Go.Q renaming nth->g,rowAt->p
open Int renaming toNat->z
open Go.IntKind renaming wrap->w
open Decidable renaming decide->d
open Nat renaming beq->q,ble->l
open _root_.ByteArray renaming mk->m
theorem eE {k:Key} {l:List D} {r:R} (h:step H rn Try.prog k l=r):rn k l=r:=(rn_eq k l).trans h
theorem e3_0_0 (x0:Rows):rn ⟨3,0,0⟩ [s x0] =
 (rn ⟨4,0,0⟩ [s x0]).bind fun r1=>bif (g r1.2 0).B then some (0,[b true]) else (rn ⟨5,0,0⟩ [s x0]).bind fun r2=>(rn ⟨6,0,0⟩ [s x0]).bind fun r3=>(rn ⟨7,0,0⟩ [s (g r2.2 0).L,s (g r2.2 1).L]).bind fun r4=>(rn ⟨9,0,0⟩ [s (g r4.2 0).L,i (g r3.2 0).I,i (g r3.2 1).I,t (g r3.2 2).S,s (g r3.2 4).L]).bind fun r5=>(rn ⟨9,0,0⟩ [s (g r2.2 0).L,i (g r3.2 0).I,i (g r3.2 1).I,t (g r3.2 2).S,s (g r3.2 4).L]).bind fun r6=>(rn ⟨9,0,0⟩ [s (g r2.2 1).L,i (g r6.2 0).I,i (g r6.2 1).I,t (g r6.2 2).S,s (g r6.2 3).L]).bind fun r7=>(rn ⟨8,0,0⟩ [i (g r5.2 0).I,i (g r5.2 1).I,t (g r5.2 2).S,s (g r5.2 3).L,i (g r7.2 0).I,i (g r7.2 1).I,t (g r7.2 2).S,s (g r7.2 3).L]).bind fun r8=>bif !(g r8.2 0).B then some (0,[b false]) else (rn ⟨11,0,0⟩ [s (g r2.2 0).L,s (g r2.2 1).L]).bind fun r9=>(rn ⟨10,0,0⟩ [s (g r4.2 0).L,s (g r9.2 0).L]).bind fun r10=>bif !(g r10.2 0).B then some (0,[b false]) else (rn ⟨12,0,0⟩ [s x0]).bind fun r11=>(rn ⟨13,0,0⟩ [s (g r11.2 1).L,s (g r11.2 0).L]).bind fun r12=>(rn ⟨14,0,0⟩ [s x0]).bind fun r13=>(rn ⟨15,0,0⟩ [s (g r11.2 1).L,s (g r11.2 0).L]).bind fun r14=>(rn ⟨10,0,0⟩ [s (g r12.2 0).L,s (g r14.2 0).L]).bind fun r15=>bif (g r15.2 0).B then (rn ⟨16,0,0⟩ [s (g r13.2 0).L,s (g r13.2 1).L]).bind fun r16=>(rn ⟨17,0,0⟩ [s (g r13.2 0).L,s (g r13.2 1).L]).bind fun r17=>bif ((g r16.2 0).B==(g r17.2 0).B) then (rn ⟨16,0,0⟩ [s (g r2.2 0).L,s (g r2.2 0).L]).bind fun r18=>some (0,[b (g r18.2 0).B]) else some (0,[b false]) else some (0,[b false]):=eE (by kernel_rfl)
theorem e4_0_0 (x0:Rows):rn ⟨4,0,0⟩ [s x0] =
 some (0,[b (d ((1048576:Int)<x0.length))]):=eE (by kernel_rfl)
theorem e5_0_0 (x0:Rows):rn ⟨5,0,0⟩ [s x0] =
 (rn ⟨18,0,0⟩ [s x0]).bind fun r1=>(rn ⟨19,0,0⟩ [s (g r1.2 0).L,i (g r1.2 1).I,i (g r1.2 2).I]).bind fun r2=>(rn ⟨19,0,0⟩ [s (g r2.2 0).L,i (g r2.2 1).I,i (g r2.2 2).I]).bind fun r3=>some (0,[s (g r2.2 3).L,s (g r3.2 3).L]):=eE (by kernel_rfl)
theorem e6_0_0 (x0:Rows):rn ⟨6,0,0⟩ [s x0] =
 (rn ⟨18,0,0⟩ [s x0]).bind fun r1=>(rn ⟨19,0,0⟩ [s (g r1.2 0).L,i (g r1.2 1).I,i (g r1.2 2).I]).bind fun r2=>(rn ⟨20,0,0⟩ [s (g r2.2 0).L,i (g r2.2 1).I,i (g r2.2 2).I]).bind fun r3=>some (0,[i (g r3.2 0).I,i (g r3.2 1).I,t (g r3.2 2).S,s (g r2.2 3).L,s (g r3.2 6).L]):=eE (by kernel_rfl)
theorem e7_0_0 (x0 x1:Rows):rn ⟨7,0,0⟩ [s x0,s x1] =
 (rn ⟨7,0,1⟩ [s x0,s x1,s x0,i x0.length,i 0,s []]).bind fun r1=>bif q r1.1 0 then (rn ⟨7,0,3⟩ [s (g r1.2 0).L,s (g r1.2 1).L,i (g r1.2 1).L.length,i 0,s (g r1.2 2).L]).bind fun r2=>bif q r2.1 0 then some (0,[s (g r2.2 0).L]) else none else none:=eE (by kernel_rfl)
theorem e7_0_1 (x0 x1 x2:Rows) (x3 x4:Int) (x5:Rows):rn ⟨7,0,1⟩ [s x0,s x1,s x2,i x3,i x4,s x5] =
 bif d (x4<x3) then bif inb x4 x2.length then (rn ⟨9,0,0⟩ [s x1,i (g (p x2 (z x4)) 1).I,i (g (p x2 (z x4)) 2).I,t (g (p x2 (z x4)) 3).S,s (g (p x2 (z x4)) 4).L]).bind fun r1=>bif l (x5.length+(([[t (g (p x2 (z x4)) 0).S,i (g r1.2 0).I,i (g r1.2 1).I,t (g r1.2 2).S,s (g r1.2 3).L]]:Rows)).length) M63 then rn ⟨7,0,1⟩ [s x0,s x1,s x2,i x3,i (w .i64 (x4+1)),s (x5++([[t (g (p x2 (z x4)) 0).S,i (g r1.2 0).I,i (g r1.2 1).I,t (g r1.2 2).S,s (g r1.2 3).L]]:Rows))] else none else none else some (0,[s x0,s x1,s x5]):=eE (by kernel_rfl)
theorem e7_0_3 (x0 x1:Rows) (x2 x3:Int) (x4:Rows):rn ⟨7,0,3⟩ [s x0,s x1,i x2,i x3,s x4] =
 bif d (x3<x2) then bif inb x3 x1.length then (rn ⟨21,0,0⟩ [s x0,t (g (p x1 (z x3)) 0).S]).bind fun r1=>bif !(g r1.2 4).B then (rn ⟨22,0,0⟩ [t (g (p x1 (z x3)) 0).S,i (g (p x1 (z x3)) 1).I,i (g (p x1 (z x3)) 2).I,t (g (p x1 (z x3)) 3).S,s (g (p x1 (z x3)) 4).L]).bind fun r2=>bif l (x4.length+(([[t (g r2.2 0).S,i (g r2.2 1).I,i (g r2.2 2).I,t (g r2.2 3).S,s (g r2.2 4).L]]:Rows)).length) M63 then rn ⟨7,0,3⟩ [s x0,s x1,i x2,i (w .i64 (x3+1)),s (x4++([[t (g r2.2 0).S,i (g r2.2 1).I,i (g r2.2 2).I,t (g r2.2 3).S,s (g r2.2 4).L]]:Rows))] else none else rn ⟨7,0,3⟩ [s x0,s x1,i x2,i (w .i64 (x3+1)),s x4] else none else some (0,[s x4]):=eE (by kernel_rfl)
theorem e8_0_0 (x0 x1:Int) (x2:ByteArray) (x3:Rows) (x4 x5:Int) (x6:ByteArray) (x7:Rows):rn ⟨8,0,0⟩ [i x0,i x1,t x2,s x3,i x4,i x5,t x6,s x7] =
 bif !d (x0=x4) then some (0,[b false]) else bif !d (x1=x5) then some (0,[b false]) else bif !d (x2=x6) then some (0,[b false]) else bif !d ((x3.length:Int)=x7.length) then some (0,[b false]) else (rn ⟨8,0,1⟩ [i 0,i x0,i x1,t x2,s x3,i x4,i x5,t x6,s x7]).bind fun r1=>bif q r1.1 0 then some (0,[b true]) else bif q r1.1 1 then some (0,[b false]) else none:=eE (by kernel_rfl)
theorem e8_0_1 (x0 x1 x2:Int) (x3:ByteArray) (x4:Rows) (x5 x6:Int) (x7:ByteArray) (x8:Rows):rn ⟨8,0,1⟩ [i x0,i x1,i x2,t x3,s x4,i x5,i x6,t x7,s x8] =
 bif d (x0<x4.length) then bif inb x0 x4.length then bif inb x0 x8.length then (rn ⟨8,0,0⟩ [i (g (p x4 (z x0)) 0).I,i (g (p x4 (z x0)) 1).I,t (g (p x4 (z x0)) 2).S,s (g (p x4 (z x0)) 3).L,i (g (p x8 (z x0)) 0).I,i (g (p x8 (z x0)) 1).I,t (g (p x8 (z x0)) 2).S,s (g (p x8 (z x0)) 3).L]).bind fun r1=>bif !(g r1.2 0).B then some (1,[]) else rn ⟨8,0,1⟩ [i (w .i64 (x0+1)),i x1,i x2,t x3,s x4,i x5,i x6,t x7,s x8] else none else none else some (0,[]):=eE (by kernel_rfl)
theorem e9_0_0 (x0:Rows) (x1 x2:Int) (x3:ByteArray) (x4:Rows):rn ⟨9,0,0⟩ [s x0,i x1,i x2,t x3,s x4] =
 bif d (x1=1) then (rn ⟨21,0,0⟩ [s x0,t x3]).bind fun r1=>bif (g r1.2 4).B then (rn ⟨23,0,0⟩ [i (g r1.2 0).I,i (g r1.2 1).I,t (g r1.2 2).S,s (g r1.2 3).L]).bind fun r2=>some (0,[i (g r2.2 0).I,i (g r2.2 1).I,t (g r2.2 2).S,s (g r2.2 3).L]) else (rn ⟨9,0,1⟩ [s x0,s x4,i x4.length,i 0,i 0,i 0,t (m #[]),i x1,i x2,t x3,s [],s []]).bind fun r3=>bif q r3.1 0 then some (0,[i (g r3.2 3).I,i (g r3.2 4).I,t (g r3.2 5).S,s (g r3.2 7).L]) else none else (rn ⟨9,0,1⟩ [s x0,s x4,i x4.length,i 0,i 0,i 0,t (m #[]),i x1,i x2,t x3,s [],s []]).bind fun r4=>bif q r4.1 0 then some (0,[i (g r4.2 3).I,i (g r4.2 4).I,t (g r4.2 5).S,s (g r4.2 7).L]) else none:=eE (by kernel_rfl)
theorem e9_0_1 (x0 x1:Rows) (x2 x3 x4 x5:Int) (x6:ByteArray) (x7 x8:Int) (x9:ByteArray) (x10 x11:Rows):rn ⟨9,0,1⟩ [s x0,s x1,i x2,i x3,i x4,i x5,t x6,i x7,i x8,t x9,s x10,s x11] =
 bif d (x3<x2) then bif inb x3 x1.length then (rn ⟨9,0,0⟩ [s x0,i (g (p x1 (z x3)) 0).I,i (g (p x1 (z x3)) 1).I,t (g (p x1 (z x3)) 2).S,s (g (p x1 (z x3)) 3).L]).bind fun r1=>bif l (x11.length+(([[i (g r1.2 0).I,i (g r1.2 1).I,t (g r1.2 2).S,s (g r1.2 3).L]]:Rows)).length) M63 then rn ⟨9,0,1⟩ [s x0,s x1,i x2,i (w .i64 (x3+1)),i x4,i x5,t x6,i x7,i x8,t x9,s x10,s (x11++([[i (g r1.2 0).I,i (g r1.2 1).I,t (g r1.2 2).S,s (g r1.2 3).L]]:Rows))] else none else none else some (0,[i x4,i x5,t x6,i x7,i x8,t x9,s x10,s x11]):=eE (by kernel_rfl)
theorem e10_0_0 (x0 x1:Rows):rn ⟨10,0,0⟩ [s x0,s x1] =
 (rn ⟨24,0,0⟩ [s ([[i 0,s [],i 0,s x0]]:Rows),s ([[i 0,s [],i 0,s x1]]:Rows)]).bind fun r1=>some (0,[b (g r1.2 0).B]):=eE (by kernel_rfl)
theorem e11_0_0 (x0 x1:Rows):rn ⟨11,0,0⟩ [s x0,s x1] =
 (rn ⟨11,0,1⟩ [s x0,s x1,i 0,s ([]:Rows)]).bind fun r1=>bif q r1.1 0 then (rn ⟨11,0,3⟩ [s (g r1.2 0).L,s (g r1.2 1).L,i 0,s (g r1.2 2).L]).bind fun r2=>bif q r2.1 0 then some (0,[s (g r2.2 0).L]) else none else none:=eE (by kernel_rfl)
theorem e11_0_1 (x0 x1:Rows) (x2:Int) (x3:Rows):rn ⟨11,0,1⟩ [s x0,s x1,i x2,s x3] =
 bif d (x2<x0.length) then bif inb x2 x0.length then bif inb x2 x0.length then (rn ⟨25,0,0⟩ [s x1,i (g (p x0 (z x2)) 1).I,i (g (p x0 (z x2)) 2).I,t (g (p x0 (z x2)) 3).S,s (g (p x0 (z x2)) 4).L]).bind fun r1=>bif l (x3.length+(([[t (g (p x0 (z x2)) 0).S,i (g r1.2 0).I,i (g r1.2 1).I,t (g r1.2 2).S,s (g r1.2 3).L]]:Rows)).length) M63 then rn ⟨11,0,1⟩ [s x0,s x1,i (w .i64 (x2+1)),s (x3++([[t (g (p x0 (z x2)) 0).S,i (g r1.2 0).I,i (g r1.2 1).I,t (g r1.2 2).S,s (g r1.2 3).L]]:Rows))] else none else none else none else some (0,[s x0,s x1,s x3]):=eE (by kernel_rfl)
theorem e11_0_3 (x0 x1:Rows) (x2:Int) (x3:Rows):rn ⟨11,0,3⟩ [s x0,s x1,i x2,s x3] =
 bif d (x2<x1.length) then bif inb x2 x1.length then (rn ⟨26,0,0⟩ [s x0,t (g (p x1 (z x2)) 0).S]).bind fun r1=>bif d (((g r1.2 0).I:Int)<0) then bif inb x2 x1.length then bif inb x2 x1.length then (rn ⟨27,0,0⟩ [i (g (p x1 (z x2)) 1).I,i (g (p x1 (z x2)) 2).I,t (g (p x1 (z x2)) 3).S,s (g (p x1 (z x2)) 4).L]).bind fun r2=>bif l (x3.length+(([[t (g (p x1 (z x2)) 0).S,i (g r2.2 0).I,i (g r2.2 1).I,t (g r2.2 2).S,s (g r2.2 3).L]]:Rows)).length) M63 then rn ⟨11,0,3⟩ [s x0,s x1,i (w .i64 (x2+1)),s (x3++([[t (g (p x1 (z x2)) 0).S,i (g r2.2 0).I,i (g r2.2 1).I,t (g r2.2 2).S,s (g r2.2 3).L]]:Rows))] else none else none else none else rn ⟨11,0,3⟩ [s x0,s x1,i (w .i64 (x2+1)),s x3] else none else some (0,[s x3]):=eE (by kernel_rfl)
theorem e12_0_0 (x0:Rows):rn ⟨12,0,0⟩ [s x0] =
 (rn ⟨18,0,0⟩ [s x0]).bind fun r1=>(rn ⟨19,0,0⟩ [s (g r1.2 0).L,i (g r1.2 1).I,i (g r1.2 2).I]).bind fun r2=>(rn ⟨28,0,0⟩ [i 5,s (g r2.2 0).L,i (g r2.2 1).I,i (g r2.2 2).I]).bind fun r3=>bif d ((0:Int)<=0)&&(d ((0:Int)<=(g r3.2 0).I)&&d (((g r3.2 0).I:Int)<=(([[t (m #[90])],[t (m #[88])],[t (m #[88])],[t (m #[81])]]:Rows)).length)) then some (0,[s (((([[t (m #[90])],[t (m #[88])],[t (m #[88])],[t (m #[81])]]:Rows)).take (z (g r3.2 0).I)).drop (z 0)),s (g r2.2 3).L]) else none:=eE (by kernel_rfl)
theorem e13_0_0 (x0 x1:Rows):rn ⟨13,0,0⟩ [s x0,s x1] =
 (rn ⟨29,0,0⟩ [s x1]).bind fun r1=>(rn ⟨13,0,1⟩ [s x0,i (g r1.2 0).L.length,i 0,s [],s (g r1.2 0).L]).bind fun r2=>bif q r2.1 0 then some (0,[s (g r2.2 0).L]) else none:=eE (by kernel_rfl)
theorem e13_0_1 (x0:Rows) (x1 x2:Int) (x3 x4:Rows):rn ⟨13,0,1⟩ [s x0,i x1,i x2,s x3,s x4] =
 bif d (x2<x1) then bif inb x2 x4.length then (rn ⟨30,0,0⟩ [s x0,t (g (p x4 (z x2)) 0).S]).bind fun r1=>bif (g r1.2 3).B then bif l (x3.length+(([[t (g (p x4 (z x2)) 0).S,i (g r1.2 0).I,i (g r1.2 1).I,t (g r1.2 2).S,s (g r1.2 4).L]]:Rows)).length) M63 then rn ⟨13,0,1⟩ [s x0,i x1,i (w .i64 (x2+1)),s (x3++([[t (g (p x4 (z x2)) 0).S,i (g r1.2 0).I,i (g r1.2 1).I,t (g r1.2 2).S,s (g r1.2 4).L]]:Rows)),s x4] else none else rn ⟨13,0,1⟩ [s x0,i x1,i (w .i64 (x2+1)),s x3,s x4] else none else some (0,[s x3]):=eE (by kernel_rfl)
theorem e14_0_0 (x0:Rows):rn ⟨14,0,0⟩ [s x0] =
 (rn ⟨18,0,0⟩ [s x0]).bind fun r1=>(rn ⟨19,0,0⟩ [s (g r1.2 0).L,i (g r1.2 1).I,i (g r1.2 2).I]).bind fun r2=>(rn ⟨31,0,0⟩ [i 2,s (g r2.2 0).L,i (g r2.2 1).I,i (g r2.2 2).I]).bind fun r3=>bif (g r3.2 0).B then bif l ((([]:Rows)).length+(g r2.2 3).L.length) M63 then some (0,[s (g r2.2 3).L,s (([]:Rows)++(g r2.2 3).L)]) else none else (rn ⟨19,0,0⟩ [s (g r3.2 1).L,i (g r3.2 2).I,i (g r3.2 3).I]).bind fun r4=>some (0,[s (g r2.2 3).L,s (g r4.2 3).L]):=eE (by kernel_rfl)
theorem e15_0_0 (x0 x1:Rows):rn ⟨15,0,0⟩ [s x0,s x1] =
 (rn ⟨32,0,0⟩ [s x1]).bind fun r1=>(rn ⟨15,0,1⟩ [s x0,i 0,s ([]:Rows),s (g r1.2 0).L]).bind fun r2=>bif q r2.1 0 then some (0,[s (g r2.2 0).L]) else none:=eE (by kernel_rfl)
theorem e15_0_1 (x0:Rows) (x1:Int) (x2 x3:Rows):rn ⟨15,0,1⟩ [s x0,i x1,s x2,s x3] =
 bif d (x1<x3.length) then bif inb x1 x3.length then (rn ⟨33,0,0⟩ [s x0,t (g (p x3 (z x1)) 0).S]).bind fun r1=>bif (g r1.2 3).B then bif inb x1 x3.length then bif l (x2.length+(([[t (g (p x3 (z x1)) 0).S,i (g r1.2 0).I,i (g r1.2 1).I,t (g r1.2 2).S,s (g r1.2 4).L]]:Rows)).length) M63 then rn ⟨15,0,1⟩ [s x0,i (w .i64 (x1+1)),s (x2++([[t (g (p x3 (z x1)) 0).S,i (g r1.2 0).I,i (g r1.2 1).I,t (g r1.2 2).S,s (g r1.2 4).L]]:Rows)),s x3] else none else none else rn ⟨15,0,1⟩ [s x0,i (w .i64 (x1+1)),s x2,s x3] else none else some (0,[s x2]):=eE (by kernel_rfl)
theorem e16_0_0 (x0 x1:Rows):rn ⟨16,0,0⟩ [s x0,s x1] =
 (rn ⟨34,0,0⟩ [s ([[s x0],[s x1]]:Rows)]).bind fun r1=>(rn ⟨16,0,1⟩ [s x0,s x1,i (g r1.2 0).L.length,i 0,s (g r1.2 0).L]).bind fun r2=>bif q r2.1 0 then some (0,[b true]) else bif q r2.1 1 then some (0,[b false]) else none:=eE (by kernel_rfl)
theorem e16_0_1 (x0 x1:Rows) (x2 x3:Int) (x4:Rows):rn ⟨16,0,1⟩ [s x0,s x1,i x2,i x3,s x4] =
 bif d (x3<x2) then bif inb x3 x4.length then (rn ⟨36,0,0⟩ [s x0,t (g (p x4 (z x3)) 0).S]).bind fun r1=>(rn ⟨36,0,0⟩ [s x1,t (g (p x4 (z x3)) 0).S]).bind fun r2=>(rn ⟨35,0,0⟩ [i (g r1.2 0).I,i (g r1.2 1).I,t (g r1.2 2).S,s (g r1.2 3).L,i (g r2.2 0).I,i (g r2.2 1).I,t (g r2.2 2).S,s (g r2.2 3).L]).bind fun r3=>bif !(g r3.2 0).B then some (1,[]) else rn ⟨16,0,1⟩ [s x0,s x1,i x2,i (w .i64 (x3+1)),s x4] else none else some (0,[]):=eE (by kernel_rfl)
theorem e17_0_0 (x0 x1:Rows):rn ⟨17,0,0⟩ [s x0,s x1] =
 bif l ((([]:Rows)).length+x0.length) M63 then bif l ((([]:Rows)++x0).length+x1.length) M63 then (rn ⟨17,0,1⟩ [s x0,s x1,i 0,s ((([]:Rows)++x0)++x1)]).bind fun r1=>bif q r1.1 0 then some (0,[b true]) else bif q r1.1 1 then some (0,[b false]) else none else none else none:=eE (by kernel_rfl)
theorem e17_0_1 (x0 x1:Rows) (x2:Int) (x3:Rows):rn ⟨17,0,1⟩ [s x0,s x1,i x2,s x3] =
 bif d (x2<x3.length) then bif inb x2 x3.length then (rn ⟨37,0,0⟩ [t (g (p x3 (z x2)) 0).S]).bind fun r1=>(rn ⟨25,0,0⟩ [s x0,i (g r1.2 0).I,i (g r1.2 1).I,t (g r1.2 2).S,s (g r1.2 3).L]).bind fun r2=>(rn ⟨25,0,0⟩ [s x1,i (g r1.2 0).I,i (g r1.2 1).I,t (g r1.2 2).S,s (g r1.2 3).L]).bind fun r3=>(rn ⟨8,0,0⟩ [i (g r2.2 0).I,i (g r2.2 1).I,t (g r2.2 2).S,s (g r2.2 3).L,i (g r3.2 0).I,i (g r3.2 1).I,t (g r3.2 2).S,s (g r3.2 3).L]).bind fun r4=>bif !(g r4.2 0).B then some (1,[]) else rn ⟨17,0,1⟩ [s x0,s x1,i (w .i64 (x2+1)),s x3] else none else some (0,[]):=eE (by kernel_rfl)
theorem e18_0_0 (x0:Rows):rn ⟨18,0,0⟩ [s x0] =
 (rn ⟨18,0,1⟩ [s x0,i (w .i64 (26583+x0.length)),i 0]).bind fun r1=>bif q r1.1 0 then some (0,[s (g r1.2 0).L,i 0,i (g r1.2 1).I]) else none:=eE (by kernel_rfl)
theorem e18_0_1 (x0:Rows) (x1 x2:Int):rn ⟨18,0,1⟩ [s x0,i x1,i x2] =
 bif d (x2<x0.length) then bif d (x2<4000) then bif inb x2 x0.length then rn ⟨18,0,1⟩ [s x0,i (andI .i64 (w .i64 ((w .i64 ((w .i64 (x1*131))+(w .i64 (g (p x0 (z x2)) 0).I)))+7)) 1073741823),i (w .i64 (x2+1))] else none else some (0,[s x0,i x1]) else some (0,[s x0,i x1]):=eE (by kernel_rfl)
theorem e19_0_0 (x0:Rows) (x1 x2:Int):rn ⟨19,0,0⟩ [s x0,i x1,i x2] =
 (rn ⟨28,0,0⟩ [i 4,s x0,i x1,i x2]).bind fun r1=>(rn ⟨19,0,1⟩ [i (g r1.2 0).I,i 0,s (g r1.2 1).L,i (g r1.2 2).I,i (g r1.2 3).I,s ([]:Rows)]).bind fun r2=>bif q r2.1 0 then some (0,[s (g r2.2 0).L,i (g r2.2 1).I,i (g r2.2 2).I,s (g r2.2 3).L]) else none:=eE (by kernel_rfl)
theorem e19_0_1 (x0 x1:Int) (x2:Rows) (x3 x4:Int) (x5:Rows):rn ⟨19,0,1⟩ [i x0,i x1,s x2,i x3,i x4,s x5] =
 bif d (x1<x0) then (rn ⟨38,0,0⟩ [s ([[t (m #[88])],[t (m #[89])],[t (m #[90])]]:Rows),s x2,i x3,i x4]).bind fun r1=>(rn ⟨28,0,0⟩ [i 2,s (g r1.2 1).L,i (g r1.2 2).I,i (g r1.2 3).I]).bind fun r2=>(rn ⟨31,0,0⟩ [i 2,s (g r2.2 1).L,i (g r2.2 2).I,i (g r2.2 3).I]).bind fun r3=>(rn ⟨39,0,0⟩ [i (w .i64 (1+(g r2.2 0).I)),b (g r3.2 0).B,s (g r3.2 1).L,i (g r3.2 2).I,i (g r3.2 3).I]).bind fun r4=>bif l (x5.length+(([[t (g r1.2 0).S,i (g r4.2 0).I,i (g r4.2 1).I,t (g r4.2 2).S,s (g r4.2 6).L]]:Rows)).length) M63 then rn ⟨19,0,1⟩ [i x0,i (w .i64 (x1+1)),s (g r4.2 3).L,i (g r4.2 4).I,i (g r4.2 5).I,s (x5++([[t (g r1.2 0).S,i (g r4.2 0).I,i (g r4.2 1).I,t (g r4.2 2).S,s (g r4.2 6).L]]:Rows))] else none else some (0,[s x2,i x3,i x4,s x5]):=eE (by kernel_rfl)
theorem e20_0_0 (x0:Rows) (x1 x2:Int):rn ⟨20,0,0⟩ [s x0,i x1,i x2] =
 (rn ⟨28,0,0⟩ [i 4,s x0,i x1,i x2]).bind fun r1=>(rn ⟨31,0,0⟩ [i 2,s (g r1.2 1).L,i (g r1.2 2).I,i (g r1.2 3).I]).bind fun r2=>(rn ⟨39,0,0⟩ [i (w .i64 (1+(g r1.2 0).I)),b (g r2.2 0).B,s (g r2.2 1).L,i (g r2.2 2).I,i (g r2.2 3).I]).bind fun r3=>(rn ⟨28,0,0⟩ [i 12,s (g r3.2 3).L,i (g r3.2 4).I,i (g r3.2 5).I]).bind fun r4=>bif d (((g r4.2 0).I:Int)=0) then (rn ⟨28,0,0⟩ [i 5,s (g r4.2 1).L,i (g r4.2 2).I,i (g r4.2 3).I]).bind fun r5=>some (0,[i (g r5.2 0).I,i (g r3.2 1).I,t (g r3.2 2).S,s (g r5.2 1).L,i (g r5.2 2).I,i (g r5.2 3).I,s (g r3.2 6).L]) else bif d (((g r4.2 0).I:Int)=1) then (rn ⟨40,0,0⟩ [s ([[i 4],[i (-1)],[i 1]]:Rows),s (g r4.2 1).L,i (g r4.2 2).I,i (g r4.2 3).I]).bind fun r6=>some (0,[i (g r3.2 0).I,i (g r6.2 0).I,t (g r3.2 2).S,s (g r6.2 1).L,i (g r6.2 2).I,i (g r6.2 3).I,s (g r3.2 6).L]) else bif d (((g r4.2 0).I:Int)=2) then (rn ⟨38,0,0⟩ [s ([[t (m #[])],[t (m #[88])],[t (m #[102])],[t (m #[97,66])]]:Rows),s (g r4.2 1).L,i (g r4.2 2).I,i (g r4.2 3).I]).bind fun r7=>some (0,[i (g r3.2 0).I,i (g r3.2 1).I,t (g r7.2 0).S,s (g r7.2 1).L,i (g r7.2 2).I,i (g r7.2 3).I,s (g r3.2 6).L]) else bif d (((g r4.2 0).I:Int)=3) then (rn ⟨41,0,0⟩ [i 1]).bind fun r8=>bif l ((g r3.2 6).L.length+(([[i (g r8.2 0).I,i (g r8.2 1).I,t (g r8.2 2).S,s (g r8.2 3).L]]:Rows)).length) M63 then some (0,[i (g r3.2 0).I,i (g r3.2 1).I,t (g r3.2 2).S,s (g r4.2 1).L,i (g r4.2 2).I,i (g r4.2 3).I,s ((g r3.2 6).L++([[i (g r8.2 0).I,i (g r8.2 1).I,t (g r8.2 2).S,s (g r8.2 3).L]]:Rows))]) else none else bif d (((g r4.2 0).I:Int)=4) then (rn ⟨20,0,2⟩ [i 0,s (g r4.2 1).L,i (g r4.2 2).I,i (g r4.2 3).I,i 0,i 0,t (m #[]),i (g r3.2 0).I,i (g r3.2 1).I,t (g r3.2 2).S,s [],s (g r3.2 6).L]).bind fun r9=>bif q r9.1 0 then some (0,[i (g r9.2 6).I,i (g r9.2 7).I,t (g r9.2 8).S,s (g r9.2 0).L,i (g r9.2 1).I,i (g r9.2 2).I,s (g r9.2 10).L]) else none else some (0,[i (g r3.2 0).I,i (g r3.2 1).I,t (g r3.2 2).S,s (g r4.2 1).L,i (g r4.2 2).I,i (g r4.2 3).I,s (g r3.2 6).L]):=eE (by kernel_rfl)
theorem e20_0_2 (x0:Int) (x1:Rows) (x2 x3 x4 x5:Int) (x6:ByteArray) (x7 x8:Int) (x9:ByteArray) (x10 x11:Rows):rn ⟨20,0,2⟩ [i x0,s x1,i x2,i x3,i x4,i x5,t x6,i x7,i x8,t x9,s x10,s x11] =
 bif d (x0<16) then (rn ⟨42,0,0⟩ [t (m #[103]),i x7,i x8,t x9,s x11]).bind fun r1=>rn ⟨20,0,2⟩ [i (w .i64 (x0+1)),s x1,i x2,i x3,i x4,i x5,t x6,i (g r1.2 0).I,i (g r1.2 1).I,t (g r1.2 2).S,s x10,s (g r1.2 3).L] else some (0,[s x1,i x2,i x3,i x4,i x5,t x6,i x7,i x8,t x9,s x10,s x11]):=eE (by kernel_rfl)
theorem e21_0_0 (x0:Rows) (x1:ByteArray):rn ⟨21,0,0⟩ [s x0,t x1] =
 (rn ⟨21,0,1⟩ [t x1,s x0,i x0.length,i 0,i 0,i 0,t (m #[]),s []]).bind fun r1=>bif q r1.1 0 then some (0,[i 0,i 0,t (m #[]),s [],b false]) else bif q r1.1 1 then some (0,[i (g r1.2 0).I,i (g r1.2 1).I,t (g r1.2 2).S,s (g r1.2 3).L,b true]) else none:=eE (by kernel_rfl)
theorem e21_0_1 (x0:ByteArray) (x1:Rows) (x2 x3 x4 x5:Int) (x6:ByteArray) (x7:Rows):rn ⟨21,0,1⟩ [t x0,s x1,i x2,i x3,i x4,i x5,t x6,s x7] =
 bif d (x3<x2) then bif inb x3 x1.length then bif d ((g (p x1 (z x3)) 0).S=x0) then some (1,[i (g (p x1 (z x3)) 1).I,i (g (p x1 (z x3)) 2).I,t (g (p x1 (z x3)) 3).S,s (g (p x1 (z x3)) 4).L]) else rn ⟨21,0,1⟩ [t x0,s x1,i x2,i (w .i64 (x3+1)),i x4,i x5,t x6,s x7] else none else some (0,[i x4,i x5,t x6,s x7]):=eE (by kernel_rfl)
theorem e22_0_0 (x0:ByteArray) (x1 x2:Int) (x3:ByteArray) (x4:Rows):rn ⟨22,0,0⟩ [t x0,i x1,i x2,t x3,s x4] =
 (rn ⟨23,0,0⟩ [i x1,i x2,t x3,s x4]).bind fun r1=>some (0,[t x0,i (g r1.2 0).I,i (g r1.2 1).I,t (g r1.2 2).S,s (g r1.2 3).L]):=eE (by kernel_rfl)
theorem e23_0_0 (x0 x1:Int) (x2:ByteArray) (x3:Rows):rn ⟨23,0,0⟩ [i x0,i x1,t x2,s x3] =
 (rn ⟨23,0,1⟩ [s x3,i x3.length,i 0,i 0,i 0,t (m #[]),i x0,i x1,t x2,s [],s []]).bind fun r1=>bif q r1.1 0 then some (0,[i (g r1.2 3).I,i (g r1.2 4).I,t (g r1.2 5).S,s (g r1.2 7).L]) else none:=eE (by kernel_rfl)
theorem e23_0_1 (x0:Rows) (x1 x2 x3 x4:Int) (x5:ByteArray) (x6 x7:Int) (x8:ByteArray) (x9 x10:Rows):rn ⟨23,0,1⟩ [s x0,i x1,i x2,i x3,i x4,t x5,i x6,i x7,t x8,s x9,s x10] =
 bif d (x2<x1) then bif inb x2 x0.length then (rn ⟨23,0,0⟩ [i (g (p x0 (z x2)) 0).I,i (g (p x0 (z x2)) 1).I,t (g (p x0 (z x2)) 2).S,s (g (p x0 (z x2)) 3).L]).bind fun r1=>bif l (x10.length+(([[i (g r1.2 0).I,i (g r1.2 1).I,t (g r1.2 2).S,s (g r1.2 3).L]]:Rows)).length) M63 then rn ⟨23,0,1⟩ [s x0,i x1,i (w .i64 (x2+1)),i x3,i x4,t x5,i x6,i x7,t x8,s x9,s (x10++([[i (g r1.2 0).I,i (g r1.2 1).I,t (g r1.2 2).S,s (g r1.2 3).L]]:Rows))] else none else none else some (0,[i x3,i x4,t x5,i x6,i x7,t x8,s x9,s x10]):=eE (by kernel_rfl)
theorem e24_0_0 (x0 x1:Rows):rn ⟨24,0,0⟩ [s x0,s x1] =
 bif !d ((x0.length:Int)=x1.length) then some (0,[b false]) else (rn ⟨24,0,1⟩ [i 0,s x0,s x1]).bind fun r1=>bif q r1.1 0 then some (0,[b true]) else bif q r1.1 1 then some (0,[b false]) else none:=eE (by kernel_rfl)
theorem e24_0_1 (x0:Int) (x1 x2:Rows):rn ⟨24,0,1⟩ [i x0,s x1,s x2] =
 bif d (x0<x1.length) then bif inb x0 x1.length then bif inb x0 x2.length then bif !d (((g (p x1 (z x0)) 0).I:Int)=(g (p x2 (z x0)) 0).I) then some (1,[]) else bif !d (((g (p x1 (z x0)) 2).I:Int)=(g (p x2 (z x0)) 2).I) then some (1,[]) else (rn ⟨43,0,0⟩ [s (g (p x1 (z x0)) 1).L,s (g (p x2 (z x0)) 1).L]).bind fun r1=>bif !(g r1.2 0).B then some (1,[]) else (rn ⟨44,0,0⟩ [s (g (p x1 (z x0)) 3).L,s (g (p x2 (z x0)) 3).L]).bind fun r2=>bif !(g r2.2 0).B then some (1,[]) else rn ⟨24,0,1⟩ [i (w .i64 (x0+1)),s x1,s x2] else none else none else some (0,[]):=eE (by kernel_rfl)
theorem e25_0_0 (x0:Rows) (x1 x2:Int) (x3:ByteArray) (x4:Rows):rn ⟨25,0,0⟩ [s x0,i x1,i x2,t x3,s x4] =
 bif d (x1=1) then (rn ⟨33,0,0⟩ [s x0,t x3]).bind fun r1=>bif (g r1.2 3).B then some (0,[i (g r1.2 0).I,i (g r1.2 1).I,t (g r1.2 2).S,s (g r1.2 4).L]) else (rn ⟨25,0,1⟩ [s x0,i 0,i x1,i x2,t x3,s x4,i 0,i 0,t (m #[]),i x1,i x2,t x3,s [],s []]).bind fun r2=>bif q r2.1 0 then some (0,[i (g r2.2 3).I,i (g r2.2 4).I,t (g r2.2 5).S,s (g r2.2 7).L]) else none else (rn ⟨25,0,1⟩ [s x0,i 0,i x1,i x2,t x3,s x4,i 0,i 0,t (m #[]),i x1,i x2,t x3,s [],s []]).bind fun r3=>bif q r3.1 0 then some (0,[i (g r3.2 3).I,i (g r3.2 4).I,t (g r3.2 5).S,s (g r3.2 7).L]) else none:=eE (by kernel_rfl)
theorem e25_0_1 (x0:Rows) (x1 x2 x3:Int) (x4:ByteArray) (x5:Rows) (x6 x7:Int) (x8:ByteArray) (x9 x10:Int) (x11:ByteArray) (x12 x13:Rows):rn ⟨25,0,1⟩ [s x0,i x1,i x2,i x3,t x4,s x5,i x6,i x7,t x8,i x9,i x10,t x11,s x12,s x13] =
 bif d (x1<x5.length) then bif inb x1 x5.length then (rn ⟨25,0,0⟩ [s x0,i (g (p x5 (z x1)) 0).I,i (g (p x5 (z x1)) 1).I,t (g (p x5 (z x1)) 2).S,s (g (p x5 (z x1)) 3).L]).bind fun r1=>bif l (x13.length+(([[i (g r1.2 0).I,i (g r1.2 1).I,t (g r1.2 2).S,s (g r1.2 3).L]]:Rows)).length) M63 then rn ⟨25,0,1⟩ [s x0,i (w .i64 (x1+1)),i x2,i x3,t x4,s x5,i x6,i x7,t x8,i x9,i x10,t x11,s x12,s (x13++([[i (g r1.2 0).I,i (g r1.2 1).I,t (g r1.2 2).S,s (g r1.2 3).L]]:Rows))] else none else none else some (0,[i x6,i x7,t x8,i x9,i x10,t x11,s x12,s x13]):=eE (by kernel_rfl)
theorem e26_0_0 (x0:Rows) (x1:ByteArray):rn ⟨26,0,0⟩ [s x0,t x1] =
 (rn ⟨26,0,1⟩ [s x0,t x1,i 0]).bind fun r1=>bif q r1.1 0 then some (0,[i (-1)]) else bif q r1.1 1 then some (0,[i (g r1.2 0).I]) else none:=eE (by kernel_rfl)
theorem e26_0_1 (x0:Rows) (x1:ByteArray) (x2:Int):rn ⟨26,0,1⟩ [s x0,t x1,i x2] =
 bif d (x2<x0.length) then bif inb x2 x0.length then bif d ((g (p x0 (z x2)) 0).S=x1) then some (1,[i x2]) else rn ⟨26,0,1⟩ [s x0,t x1,i (w .i64 (x2+1))] else none else some (0,[]):=eE (by kernel_rfl)
theorem e27_0_0 (x0 x1:Int) (x2:ByteArray) (x3:Rows):rn ⟨27,0,0⟩ [i x0,i x1,t x2,s x3] =
 (rn ⟨27,0,1⟩ [i 0,i x0,i x1,t x2,s x3,i 0,i 0,t (m #[]),s ([]:Rows),s []]).bind fun r1=>bif q r1.1 0 then some (0,[i (g r1.2 0).I,i (g r1.2 1).I,t (g r1.2 2).S,s (g r1.2 7).L]) else none:=eE (by kernel_rfl)
theorem e27_0_1 (x0 x1 x2:Int) (x3:ByteArray) (x4:Rows) (x5 x6:Int) (x7:ByteArray) (x8 x9:Rows):rn ⟨27,0,1⟩ [i x0,i x1,i x2,t x3,s x4,i x5,i x6,t x7,s x8,s x9] =
 bif d (x0<x4.length) then bif inb x0 x4.length then (rn ⟨27,0,0⟩ [i (g (p x4 (z x0)) 0).I,i (g (p x4 (z x0)) 1).I,t (g (p x4 (z x0)) 2).S,s (g (p x4 (z x0)) 3).L]).bind fun r1=>bif l (x8.length+(([[i (g r1.2 0).I,i (g r1.2 1).I,t (g r1.2 2).S,s (g r1.2 3).L]]:Rows)).length) M63 then rn ⟨27,0,1⟩ [i (w .i64 (x0+1)),i x1,i x2,t x3,s x4,i x5,i x6,t x7,s (x8++([[i (g r1.2 0).I,i (g r1.2 1).I,t (g r1.2 2).S,s (g r1.2 3).L]]:Rows)),s x9] else none else none else some (0,[i x1,i x2,t x3,s x4,i x5,i x6,t x7,s x8,s x9]):=eE (by kernel_rfl)
theorem e28_0_0 (x0:Int) (x1:Rows) (x2 x3:Int):rn ⟨28,0,0⟩ [i x0,s x1,i x2,i x3] =
 bif d (x0<=0) then some (0,[i 0,s x1,i x2,i x3]) else bif d (x0<=256) then (rn ⟨45,0,0⟩ [s x1,i x2,i x3]).bind fun r1=>bif !d (x0=0) then some (0,[i (Int.tmod (g r1.2 0).I x0),s (g r1.2 1).L,i (g r1.2 2).I,i (g r1.2 3).I]) else none else (rn ⟨45,0,0⟩ [s x1,i x2,i x3]).bind fun r2=>(rn ⟨45,0,0⟩ [s (g r2.2 1).L,i (g r2.2 2).I,i (g r2.2 3).I]).bind fun r3=>(rn ⟨45,0,0⟩ [s (g r3.2 1).L,i (g r3.2 2).I,i (g r3.2 3).I]).bind fun r4=>(rn ⟨45,0,0⟩ [s (g r4.2 1).L,i (g r4.2 2).I,i (g r4.2 3).I]).bind fun r5=>bif !d (x0=0) then some (0,[i (Int.tmod (w .i64 ((w .i64 ((w .i64 ((w .i64 ((g r2.2 0).I*16777216))+(w .i64 ((g r3.2 0).I*65536))))+(w .i64 ((g r4.2 0).I*256))))+(g r5.2 0).I)) x0),s (g r5.2 1).L,i (g r5.2 2).I,i (g r5.2 3).I]) else none:=eE (by kernel_rfl)
theorem e29_0_0 (x0:Rows):rn ⟨29,0,0⟩ [s x0] =
 (rn ⟨46,0,0⟩ [s x0]).bind fun r1=>(rn ⟨47,0,0⟩ [s (g r1.2 0).L]).bind fun r2=>(rn ⟨48,0,0⟩ [s (g r2.2 0).L]).bind fun r3=>some (0,[s (g r3.2 0).L]):=eE (by kernel_rfl)
theorem e30_0_0 (x0:Rows) (x1:ByteArray):rn ⟨30,0,0⟩ [s x0,t x1] =
 (rn ⟨21,0,0⟩ [s x0,t x1]).bind fun r1=>(rn ⟨23,0,0⟩ [i (g r1.2 0).I,i (g r1.2 1).I,t (g r1.2 2).S,s (g r1.2 3).L]).bind fun r2=>some (0,[i (g r2.2 0).I,i (g r2.2 1).I,t (g r2.2 2).S,b (g r1.2 4).B,s (g r2.2 3).L]):=eE (by kernel_rfl)
theorem e31_0_0 (x0:Int) (x1:Rows) (x2 x3:Int):rn ⟨31,0,0⟩ [i x0,s x1,i x2,i x3] =
 (rn ⟨28,0,0⟩ [i x0,s x1,i x2,i x3]).bind fun r1=>some (0,[b (d (((g r1.2 0).I:Int)=0)),s (g r1.2 1).L,i (g r1.2 2).I,i (g r1.2 3).I]):=eE (by kernel_rfl)
theorem e32_0_0 (x0:Rows):rn ⟨32,0,0⟩ [s x0] =
 (rn ⟨32,0,1⟩ [s x0,i 0,s ([]:Rows)]).bind fun r1=>bif q r1.1 0 then some (0,[s (g r1.2 0).L]) else none:=eE (by kernel_rfl)
theorem e32_0_1 (x0:Rows) (x1:Int) (x2:Rows):rn ⟨32,0,1⟩ [s x0,i x1,s x2] =
 bif d (x1<x0.length) then (rn ⟨32,0,3⟩ [s x0,i x1,i 0,s x2]).bind fun r1=>bif q r1.1 0 then bif d (((g r1.2 2).I:Int)<(g r1.2 3).L.length) then bif inb (g r1.2 2).I (g r1.2 3).L.length then bif inb (g r1.2 1).I (g r1.2 0).L.length then bif d ((g (p (g r1.2 3).L (z (g r1.2 2).I)) 0).S=(g (p (g r1.2 0).L (z (g r1.2 1).I)) 0).S) then rn ⟨32,0,1⟩ [s (g r1.2 0).L,i (w .i64 ((g r1.2 1).I+1)),s (g r1.2 3).L] else bif d ((0:Int)<=0)&&(d ((0:Int)<=(g r1.2 2).I)&&d (((g r1.2 2).I:Int)<=(g r1.2 3).L.length)) then bif l ((([]:Rows)).length+(((g r1.2 3).L.take (z (g r1.2 2).I)).drop (z 0)).length) M63 then bif inb (g r1.2 1).I (g r1.2 0).L.length then bif l ((([]:Rows)++(((g r1.2 3).L.take (z (g r1.2 2).I)).drop (z 0))).length+(([[t (g (p (g r1.2 0).L (z (g r1.2 1).I)) 0).S]]:Rows)).length) M63 then bif d ((0:Int)<=(g r1.2 2).I)&&(d (((g r1.2 2).I:Int)<=((g r1.2 3).L.length:Nat))&&d ((((g r1.2 3).L.length:Nat):Int)<=(g r1.2 3).L.length)) then bif l (((([]:Rows)++(((g r1.2 3).L.take (z (g r1.2 2).I)).drop (z 0)))++([[t (g (p (g r1.2 0).L (z (g r1.2 1).I)) 0).S]]:Rows)).length+(((g r1.2 3).L.take (z ((g r1.2 3).L.length:Nat))).drop (z (g r1.2 2).I)).length) M63 then rn ⟨32,0,1⟩ [s (g r1.2 0).L,i (w .i64 ((g r1.2 1).I+1)),s (((([]:Rows)++(((g r1.2 3).L.take (z (g r1.2 2).I)).drop (z 0)))++([[t (g (p (g r1.2 0).L (z (g r1.2 1).I)) 0).S]]:Rows))++(((g r1.2 3).L.take (z ((g r1.2 3).L.length:Nat))).drop (z (g r1.2 2).I)))] else none else none else none else none else none else none else none else none else bif d ((0:Int)<=0)&&(d ((0:Int)<=(g r1.2 2).I)&&d (((g r1.2 2).I:Int)<=(g r1.2 3).L.length)) then bif l ((([]:Rows)).length+(((g r1.2 3).L.take (z (g r1.2 2).I)).drop (z 0)).length) M63 then bif inb (g r1.2 1).I (g r1.2 0).L.length then bif l ((([]:Rows)++(((g r1.2 3).L.take (z (g r1.2 2).I)).drop (z 0))).length+(([[t (g (p (g r1.2 0).L (z (g r1.2 1).I)) 0).S]]:Rows)).length) M63 then bif d ((0:Int)<=(g r1.2 2).I)&&(d (((g r1.2 2).I:Int)<=((g r1.2 3).L.length:Nat))&&d ((((g r1.2 3).L.length:Nat):Int)<=(g r1.2 3).L.length)) then bif l (((([]:Rows)++(((g r1.2 3).L.take (z (g r1.2 2).I)).drop (z 0)))++([[t (g (p (g r1.2 0).L (z (g r1.2 1).I)) 0).S]]:Rows)).length+(((g r1.2 3).L.take (z ((g r1.2 3).L.length:Nat))).drop (z (g r1.2 2).I)).length) M63 then rn ⟨32,0,1⟩ [s (g r1.2 0).L,i (w .i64 ((g r1.2 1).I+1)),s (((([]:Rows)++(((g r1.2 3).L.take (z (g r1.2 2).I)).drop (z 0)))++([[t (g (p (g r1.2 0).L (z (g r1.2 1).I)) 0).S]]:Rows))++(((g r1.2 3).L.take (z ((g r1.2 3).L.length:Nat))).drop (z (g r1.2 2).I)))] else none else none else none else none else none else none else none else some (0,[s x2]):=eE (by kernel_rfl)
theorem e32_0_3 (x0:Rows) (x1 x2:Int) (x3:Rows):rn ⟨32,0,3⟩ [s x0,i x1,i x2,s x3] =
 bif d (x2<x3.length) then bif inb x2 x3.length then bif inb x1 x0.length then bif ltB (g (p x3 (z x2)) 0).S (g (p x0 (z x1)) 0).S then rn ⟨32,0,3⟩ [s x0,i x1,i (w .i64 (x2+1)),s x3] else some (0,[s x0,i x1,i x2,s x3]) else none else none else some (0,[s x0,i x1,i x2,s x3]):=eE (by kernel_rfl)
theorem e33_0_0 (x0:Rows) (x1:ByteArray):rn ⟨33,0,0⟩ [s x0,t x1] =
 (rn ⟨26,0,0⟩ [s x0,t x1]).bind fun r1=>bif d (((g r1.2 0).I:Int)<0) then some (0,[i 0,i 0,t (m #[]),b false,s []]) else bif inb (g r1.2 0).I x0.length then (rn ⟨27,0,0⟩ [i (g (p x0 (z (g r1.2 0).I)) 1).I,i (g (p x0 (z (g r1.2 0).I)) 2).I,t (g (p x0 (z (g r1.2 0).I)) 3).S,s (g (p x0 (z (g r1.2 0).I)) 4).L]).bind fun r2=>some (0,[i (g r2.2 0).I,i (g r2.2 1).I,t (g r2.2 2).S,b true,s (g r2.2 3).L]) else none:=eE (by kernel_rfl)
theorem e34_0_0 (x0:Rows):rn ⟨34,0,0⟩ [s x0] =
 (rn ⟨34,0,1⟩ [s x0,i 0,s x0,i x0.length,i 0]).bind fun r1=>bif q r1.1 0 then (rn ⟨49,0,0⟩ [i (g r1.2 1).I]).bind fun r2=>(rn ⟨34,0,3⟩ [s (g r1.2 0).L,i (g r1.2 0).L.length,i 0,s (g r2.2 0).L]).bind fun r3=>bif q r3.1 0 then some (0,[s (g r3.2 0).L]) else none else none:=eE (by kernel_rfl)
theorem e34_0_1 (x0:Rows) (x1:Int) (x2:Rows) (x3 x4:Int):rn ⟨34,0,1⟩ [s x0,i x1,s x2,i x3,i x4] =
 bif d (x4<x3) then bif inb x4 x2.length then bif d (((w .i64 (x1+(g (p x2 (z x4)) 0).L.length)):Int)<0) then none else rn ⟨34,0,1⟩ [s x0,i (w .i64 (x1+(g (p x2 (z x4)) 0).L.length)),s x2,i x3,i (w .i64 (x4+1))] else none else some (0,[s x0,i x1]):=eE (by kernel_rfl)
theorem e34_0_3 (x0:Rows) (x1 x2:Int) (x3:Rows):rn ⟨34,0,3⟩ [s x0,i x1,i x2,s x3] =
 bif d (x2<x1) then bif inb x2 x0.length then bif l (x3.length+(g (p x0 (z x2)) 0).L.length) M63 then rn ⟨34,0,3⟩ [s x0,i x1,i (w .i64 (x2+1)),s (x3++(g (p x0 (z x2)) 0).L)] else none else none else some (0,[s x3]):=eE (by kernel_rfl)
theorem e35_0_0 (x0 x1:Int) (x2:ByteArray) (x3:Rows) (x4 x5:Int) (x6:ByteArray) (x7:Rows):rn ⟨35,0,0⟩ [i x0,i x1,t x2,s x3,i x4,i x5,t x6,s x7] =
 bif d (x0=x4) then bif d (x1=x5) then bif d (x2=x6) then (rn ⟨50,0,0⟩ [s x3,s x7]).bind fun r1=>some (0,[b (g r1.2 0).B]) else some (0,[b false]) else some (0,[b false]) else some (0,[b false]):=eE (by kernel_rfl)
theorem e36_0_0 (x0:Rows) (x1:ByteArray):rn ⟨36,0,0⟩ [s x0,t x1] =
 (rn ⟨9,0,0⟩ [s x0,i 1,i 0,t x1,s []]).bind fun r1=>some (0,[i (g r1.2 0).I,i (g r1.2 1).I,t (g r1.2 2).S,s (g r1.2 3).L]):=eE (by kernel_rfl)
theorem e37_0_0 (x0:ByteArray):rn ⟨37,0,0⟩ [t x0] =
 some (0,[i 1,i 0,t x0,s []]):=eE (by kernel_rfl)
theorem e38_0_0 (x0 x1:Rows) (x2 x3:Int):rn ⟨38,0,0⟩ [s x0,s x1,i x2,i x3] =
 (rn ⟨28,0,0⟩ [i x0.length,s x1,i x2,i x3]).bind fun r1=>bif inb (g r1.2 0).I x0.length then some (0,[t (g (p x0 (z (g r1.2 0).I)) 0).S,s (g r1.2 1).L,i (g r1.2 2).I,i (g r1.2 3).I]) else none:=eE (by kernel_rfl)
theorem e39_0_0 (x0:Int) (x1:Bool) (x2:Rows) (x3 x4:Int):rn ⟨39,0,0⟩ [i x0,b x1,s x2,i x3,i x4] =
 bif d (x0<2) then bif !x1 then (rn ⟨31,0,0⟩ [i 2,s x2,i x3,i x4]).bind fun r1=>bif (g r1.2 0).B then (rn ⟨38,0,0⟩ [s ([[t (m #[88])],[t (m #[89])],[t (m #[90])]]:Rows),s (g r1.2 1).L,i (g r1.2 2).I,i (g r1.2 3).I]).bind fun r2=>(rn ⟨37,0,0⟩ [t (g r2.2 0).S]).bind fun r3=>some (0,[i (g r3.2 0).I,i (g r3.2 1).I,t (g r3.2 2).S,s (g r2.2 1).L,i (g r2.2 2).I,i (g r2.2 3).I,s (g r3.2 3).L]) else (rn ⟨31,0,0⟩ [i 2,s (g r1.2 1).L,i (g r1.2 2).I,i (g r1.2 3).I]).bind fun r4=>bif (g r4.2 0).B then (rn ⟨28,0,0⟩ [i 4,s (g r4.2 1).L,i (g r4.2 2).I,i (g r4.2 3).I]).bind fun r5=>(rn ⟨41,0,0⟩ [i (g r5.2 0).I]).bind fun r6=>some (0,[i (g r6.2 0).I,i (g r6.2 1).I,t (g r6.2 2).S,s (g r5.2 1).L,i (g r5.2 2).I,i (g r5.2 3).I,s (g r6.2 3).L]) else (rn ⟨38,0,0⟩ [s ([[t (m #[97])],[t (m #[98])]]:Rows),s (g r4.2 1).L,i (g r4.2 2).I,i (g r4.2 3).I]).bind fun r7=>(rn ⟨51,0,0⟩ [t (g r7.2 0).S,s ([]:Rows)]).bind fun r8=>some (0,[i (g r8.2 0).I,i (g r8.2 1).I,t (g r8.2 2).S,s (g r7.2 1).L,i (g r7.2 2).I,i (g r7.2 3).I,s (g r8.2 3).L]) else (rn ⟨31,0,0⟩ [i 2,s x2,i x3,i x4]).bind fun r9=>bif (g r9.2 0).B then (rn ⟨28,0,0⟩ [i 4,s (g r9.2 1).L,i (g r9.2 2).I,i (g r9.2 3).I]).bind fun r10=>(rn ⟨41,0,0⟩ [i (g r10.2 0).I]).bind fun r11=>some (0,[i (g r11.2 0).I,i (g r11.2 1).I,t (g r11.2 2).S,s (g r10.2 1).L,i (g r10.2 2).I,i (g r10.2 3).I,s (g r11.2 3).L]) else (rn ⟨38,0,0⟩ [s ([[t (m #[97])],[t (m #[98])]]:Rows),s (g r9.2 1).L,i (g r9.2 2).I,i (g r9.2 3).I]).bind fun r12=>(rn ⟨51,0,0⟩ [t (g r12.2 0).S,s ([]:Rows)]).bind fun r13=>some (0,[i (g r13.2 0).I,i (g r13.2 1).I,t (g r13.2 2).S,s (g r12.2 1).L,i (g r12.2 2).I,i (g r12.2 3).I,s (g r13.2 3).L]) else (rn ⟨31,0,0⟩ [i 4,s x2,i x3,i x4]).bind fun r14=>bif (g r14.2 0).B then bif !x1 then (rn ⟨31,0,0⟩ [i 2,s (g r14.2 1).L,i (g r14.2 2).I,i (g r14.2 3).I]).bind fun r15=>bif (g r15.2 0).B then (rn ⟨38,0,0⟩ [s ([[t (m #[88])],[t (m #[89])],[t (m #[90])]]:Rows),s (g r15.2 1).L,i (g r15.2 2).I,i (g r15.2 3).I]).bind fun r16=>(rn ⟨37,0,0⟩ [t (g r16.2 0).S]).bind fun r17=>some (0,[i (g r17.2 0).I,i (g r17.2 1).I,t (g r17.2 2).S,s (g r16.2 1).L,i (g r16.2 2).I,i (g r16.2 3).I,s (g r17.2 3).L]) else (rn ⟨31,0,0⟩ [i 2,s (g r15.2 1).L,i (g r15.2 2).I,i (g r15.2 3).I]).bind fun r18=>bif (g r18.2 0).B then (rn ⟨28,0,0⟩ [i 4,s (g r18.2 1).L,i (g r18.2 2).I,i (g r18.2 3).I]).bind fun r19=>(rn ⟨41,0,0⟩ [i (g r19.2 0).I]).bind fun r20=>some (0,[i (g r20.2 0).I,i (g r20.2 1).I,t (g r20.2 2).S,s (g r19.2 1).L,i (g r19.2 2).I,i (g r19.2 3).I,s (g r20.2 3).L]) else (rn ⟨38,0,0⟩ [s ([[t (m #[97])],[t (m #[98])]]:Rows),s (g r18.2 1).L,i (g r18.2 2).I,i (g r18.2 3).I]).bind fun r21=>(rn ⟨51,0,0⟩ [t (g r21.2 0).S,s ([]:Rows)]).bind fun r22=>some (0,[i (g r22.2 0).I,i (g r22.2 1).I,t (g r22.2 2).S,s (g r21.2 1).L,i (g r21.2 2).I,i (g r21.2 3).I,s (g r22.2 3).L]) else (rn ⟨31,0,0⟩ [i 2,s (g r14.2 1).L,i (g r14.2 2).I,i (g r14.2 3).I]).bind fun r23=>bif (g r23.2 0).B then (rn ⟨28,0,0⟩ [i 4,s (g r23.2 1).L,i (g r23.2 2).I,i (g r23.2 3).I]).bind fun r24=>(rn ⟨41,0,0⟩ [i (g r24.2 0).I]).bind fun r25=>some (0,[i (g r25.2 0).I,i (g r25.2 1).I,t (g r25.2 2).S,s (g r24.2 1).L,i (g r24.2 2).I,i (g r24.2 3).I,s (g r25.2 3).L]) else (rn ⟨38,0,0⟩ [s ([[t (m #[97])],[t (m #[98])]]:Rows),s (g r23.2 1).L,i (g r23.2 2).I,i (g r23.2 3).I]).bind fun r26=>(rn ⟨51,0,0⟩ [t (g r26.2 0).S,s ([]:Rows)]).bind fun r27=>some (0,[i (g r27.2 0).I,i (g r27.2 1).I,t (g r27.2 2).S,s (g r26.2 1).L,i (g r26.2 2).I,i (g r26.2 3).I,s (g r27.2 3).L]) else (rn ⟨31,0,0⟩ [i 3,s (g r14.2 1).L,i (g r14.2 2).I,i (g r14.2 3).I]).bind fun r28=>bif (g r28.2 0).B then (rn ⟨39,0,0⟩ [i (w .i64 (x0-1)),b x1,s (g r28.2 1).L,i (g r28.2 2).I,i (g r28.2 3).I]).bind fun r29=>(rn ⟨42,0,0⟩ [t (m #[103]),i (g r29.2 0).I,i (g r29.2 1).I,t (g r29.2 2).S,s (g r29.2 6).L]).bind fun r30=>some (0,[i (g r30.2 0).I,i (g r30.2 1).I,t (g r30.2 2).S,s (g r29.2 3).L,i (g r29.2 4).I,i (g r29.2 5).I,s (g r30.2 3).L]) else (rn ⟨39,0,0⟩ [i (w .i64 (x0-1)),b x1,s (g r28.2 1).L,i (g r28.2 2).I,i (g r28.2 3).I]).bind fun r31=>(rn ⟨38,0,0⟩ [s ([[t (m #[102])],[t (m #[102])],[t (m #[104])]]:Rows),s (g r31.2 3).L,i (g r31.2 4).I,i (g r31.2 5).I]).bind fun r32=>(rn ⟨39,0,0⟩ [i (w .i64 (x0-1)),b x1,s (g r32.2 1).L,i (g r32.2 2).I,i (g r32.2 3).I]).bind fun r33=>(rn ⟨52,0,0⟩ [t (g r32.2 0).S,i (g r31.2 0).I,i (g r31.2 1).I,t (g r31.2 2).S,s (g r31.2 6).L,i (g r33.2 0).I,i (g r33.2 1).I,t (g r33.2 2).S,s (g r33.2 6).L]).bind fun r34=>some (0,[i (g r34.2 0).I,i (g r34.2 1).I,t (g r34.2 2).S,s (g r33.2 3).L,i (g r33.2 4).I,i (g r33.2 5).I,s (g r34.2 3).L]):=eE (by kernel_rfl)
theorem e40_0_0 (x0 x1:Rows) (x2 x3:Int):rn ⟨40,0,0⟩ [s x0,s x1,i x2,i x3] =
 (rn ⟨28,0,0⟩ [i x0.length,s x1,i x2,i x3]).bind fun r1=>bif inb (g r1.2 0).I x0.length then some (0,[i (g (p x0 (z (g r1.2 0).I)) 0).I,s (g r1.2 1).L,i (g r1.2 2).I,i (g r1.2 3).I]) else none:=eE (by kernel_rfl)
theorem e41_0_0 (x0:Int):rn ⟨41,0,0⟩ [i x0] =
 some (0,[i 3,i x0,t (m #[]),s []]):=eE (by kernel_rfl)
theorem e42_0_0 (x0:ByteArray) (x1 x2:Int) (x3:ByteArray) (x4:Rows):rn ⟨42,0,0⟩ [t x0,i x1,i x2,t x3,s x4] =
 (rn ⟨51,1,0⟩ [t x0,s ([[i x1,i x2,t x3,s x4]]:Rows)]).bind fun r1=>some (0,[i (g r1.2 0).I,i (g r1.2 1).I,t (g r1.2 2).S,s (g r1.2 3).L]):=eE (by kernel_rfl)
theorem e43_0_0 (x0 x1:Rows):rn ⟨43,0,0⟩ [s x0,s x1] =
 bif !d ((x0.length:Int)=x1.length) then some (0,[b false]) else (rn ⟨43,0,1⟩ [s x0,s x1,i 0]).bind fun r1=>bif q r1.1 0 then some (0,[b true]) else bif q r1.1 1 then some (0,[b false]) else none:=eE (by kernel_rfl)
theorem e43_0_1 (x0 x1:Rows) (x2:Int):rn ⟨43,0,1⟩ [s x0,s x1,i x2] =
 bif d (x2<x0.length) then bif inb x2 x0.length then bif inb x2 x1.length then bif !d (((g (p x0 (z x2)) 0).I:Int)=(g (p x1 (z x2)) 0).I) then some (1,[]) else rn ⟨43,0,1⟩ [s x0,s x1,i (w .i64 (x2+1))] else none else none else some (0,[]):=eE (by kernel_rfl)
theorem e44_0_0 (x0 x1:Rows):rn ⟨44,0,0⟩ [s x0,s x1] =
 bif !d ((x0.length:Int)=x1.length) then some (0,[b false]) else (rn ⟨44,0,1⟩ [s x0,s x1,i 0]).bind fun r1=>bif q r1.1 0 then some (0,[b true]) else bif q r1.1 1 then some (0,[b false]) else none:=eE (by kernel_rfl)
theorem e44_0_1 (x0 x1:Rows) (x2:Int):rn ⟨44,0,1⟩ [s x0,s x1,i x2] =
 bif d (x2<x0.length) then bif inb x2 x0.length then bif inb x2 x1.length then bif !d ((g (p x0 (z x2)) 0).S=(g (p x1 (z x2)) 0).S) then some (1,[]) else bif inb x2 x0.length then bif inb x2 x1.length then (rn ⟨8,0,0⟩ [i (g (p x0 (z x2)) 1).I,i (g (p x0 (z x2)) 2).I,t (g (p x0 (z x2)) 3).S,s (g (p x0 (z x2)) 4).L,i (g (p x1 (z x2)) 1).I,i (g (p x1 (z x2)) 2).I,t (g (p x1 (z x2)) 3).S,s (g (p x1 (z x2)) 4).L]).bind fun r1=>bif !(g r1.2 0).B then some (1,[]) else rn ⟨44,0,1⟩ [s x0,s x1,i (w .i64 (x2+1))] else none else none else none else none else some (0,[]):=eE (by kernel_rfl)
theorem e45_0_0 (x0:Rows) (x1 x2:Int):rn ⟨45,0,0⟩ [s x0,i x1,i x2] =
 bif d ((0:Int)<=33) then bif d ((0:Int)<=45) then bif d (x1<x0.length) then bif inb x1 x0.length then some (0,[i (andI .i64 (w .i64 ((andI .i64 (xorI .i64 (shrI .i64 (w .i64 ((w .i64 (x2*6364136223846793005))+1442695040888963407)) 33) (shrI .i64 (w .i64 ((w .i64 (x2*6364136223846793005))+1442695040888963407)) 45)) 255)+(w .i64 (g (p x0 (z x1)) 0).I))) 255),s x0,i (w .i64 (x1+1)),i (w .i64 ((w .i64 (x2*6364136223846793005))+1442695040888963407))]) else none else some (0,[i (andI .i64 (xorI .i64 (shrI .i64 (w .i64 ((w .i64 (x2*6364136223846793005))+1442695040888963407)) 33) (shrI .i64 (w .i64 ((w .i64 (x2*6364136223846793005))+1442695040888963407)) 45)) 255),s x0,i x1,i (w .i64 ((w .i64 (x2*6364136223846793005))+1442695040888963407))]) else none else none:=eE (by kernel_rfl)
theorem e46_0_0 (x0:Rows):rn ⟨46,0,0⟩ [s x0] =
 bif q x0.length 0 then both (some (0,[s []])) (bif l ((([]:Rows)).length+x0.length) M63 then some (0,[s (([]:Rows)++x0)]) else none) else bif l ((([]:Rows)).length+x0.length) M63 then some (0,[s (([]:Rows)++x0)]) else none:=eE (by kernel_rfl)
theorem e50_0_0 (x0 x1:Rows):rn ⟨50,0,0⟩ [s x0,s x1] =
 bif !d ((x0.length:Int)=x1.length) then some (0,[b false]) else (rn ⟨50,0,1⟩ [s x1,s x0,i x0.length,i 0]).bind fun r1=>bif q r1.1 0 then some (0,[b true]) else bif q r1.1 1 then some (0,[b false]) else none:=eE (by kernel_rfl)
theorem e50_0_1 (x0 x1:Rows) (x2 x3:Int):rn ⟨50,0,1⟩ [s x0,s x1,i x2,i x3] =
 bif d (x3<x2) then bif inb x3 x1.length then bif inb x3 x0.length then (rn ⟨35,0,0⟩ [i (g (p x1 (z x3)) 0).I,i (g (p x1 (z x3)) 1).I,t (g (p x1 (z x3)) 2).S,s (g (p x1 (z x3)) 3).L,i (g (p x0 (z x3)) 0).I,i (g (p x0 (z x3)) 1).I,t (g (p x0 (z x3)) 2).S,s (g (p x0 (z x3)) 3).L]).bind fun r1=>bif !(g r1.2 0).B then some (1,[]) else rn ⟨50,0,1⟩ [s x0,s x1,i x2,i (w .i64 (x3+1))] else none else none else some (0,[]):=eE (by kernel_rfl)
theorem e51_0_0 (x0:ByteArray) (x1:Rows):rn ⟨51,0,0⟩ [t x0,s x1] =
 some (0,[i 2,i 0,t x0,s x1]):=eE (by kernel_rfl)
theorem e51_1_0 (x0:ByteArray) (x1:Rows):rn ⟨51,1,0⟩ [t x0,s x1] =
 some (0,[i 2,i 0,t x0,s x1]):=eE (by kernel_rfl)
theorem e52_0_0 (x0:ByteArray) (x1 x2:Int) (x3:ByteArray) (x4:Rows) (x5 x6:Int) (x7:ByteArray) (x8:Rows):rn ⟨52,0,0⟩ [t x0,i x1,i x2,t x3,s x4,i x5,i x6,t x7,s x8] =
 (rn ⟨51,1,0⟩ [t x0,s ([[i x1,i x2,t x3,s x4],[i x5,i x6,t x7,s x8]]:Rows)]).bind fun r1=>some (0,[i (g r1.2 0).I,i (g r1.2 1).I,t (g r1.2 2).S,s (g r1.2 3).L]):=eE (by kernel_rfl)
end Go.Q.S
