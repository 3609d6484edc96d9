/- The functions of this seat, as that machine runs them. -/
import Derived.Test.YtgjeildmnmfofaaGreatDoorQC
import Derived.Test.YtgjeildmnmfofaaGreatDoorProg
set_option linter.unusedVariables false
namespace Go.Q.S
open Go Go.Q Go.Proofs
def eqL:List Nat:=[185,191]
def tyL:List (Nat×TI):=[(3,⟨false,[.int .i64],[]⟩),
 (4,⟨false,[.bool],[]⟩),
 (5,⟨false,[.int .u8],[]⟩),
 (9,⟨false,[.str],[]⟩),
 (22,⟨false,[.sl 9],[]⟩),
 (23,⟨false,[.sl 25],[]⟩),
 (25,⟨true,[.int .i64,.int .i64,.str,.sl 25],[(0,3),(1,3),(2,9),(3,23)]⟩),
 (26,⟨false,[.sl 140],[]⟩),
 (28,⟨true,[.sl 9,.int .i64,.int .i64,.str,.sl 25,.int .i64,.int .i64,.str,.sl 25,.sl 140],[(0,22),(1,25),(5,25),(9,26)]⟩),
 (30,⟨true,[.int .i64,.sl 9,.int .i64,.int .i64,.str,.sl 25,.int .i64,.int .i64,.str,.sl 25,.sl 140],[(0,3),(1,28)]⟩),
 (46,⟨false,[.sl 5],[]⟩),
 (96,⟨true,[.str,.int .i64,.int .i64,.str,.sl 25,.int .i64,.int .i64,.str,.sl 25,.sl 140],[(0,9),(1,25),(5,25),(9,26)]⟩),
 (140,⟨true,[.int .i64,.int .i64,.int .i64,.str,.sl 25,.int .i64,.int .i64,.str,.sl 25],[(0,3),(1,25),(5,25)]⟩),
 (156,⟨false,[.err],[]⟩),
 (183,⟨false,[.ptr],[]⟩),
 (185,⟨true,[.str,.int .i64,.bool],[(0,9),(1,3),(2,4)]⟩),
 (189,⟨false,[.ptr],[]⟩),
 (191,⟨true,[.str],[(0,9)]⟩)]
abbrev zi:Sh:=.int .i64
abbrev zg0:Sh:=.agg [zi,zi,.str,.im 25]
abbrev zg1:Sh:=.agg [zi,zi,.str,.hd 16]
abbrev zg2:Sh:=.agg [zi,.im 9,zi,zi,.str,.im 25,zi,zi,.str,.im 25,.im 140]
abbrev zg3:Sh:=.agg [.im 9,zi,zi,.str,.im 25,zi,zi,.str,.im 25,.im 140]
abbrev zb0:OSh:=.box [.str]
abbrev zb1:OSh:=.box [.str,zi,.bool]
abbrev zb2:OSh:=.box [zi,zi,zi,.str,.hd 17,zi,zi,.str,.hd 18]
abbrev zb3:OSh:=.box [zi,zi,.str,.im 25]
abbrev zb4:OSh:=.box [zi,zi,.str,.hd 17]
abbrev zb5:OSh:=.box [zi,zi,.str,.hd 18]
abbrev zb6:OSh:=.box [zi,zi,.str,.hd 19]
abbrev za0:OSh:=.arr 25 .deep
abbrev za1:OSh:=.arr 140 .deep
abbrev za2:OSh:=.arr 9 .deep
def kiL:List (Nat×List (Nat×Nat×KI)):=[(3,[(0,0,⟨[(0,zi)],[],[⟨.ret,[(0,.bool)],[]⟩]⟩)]),
 (6,[(0,0,⟨[(0,zi)],[],[⟨.ret,[(0,.agg [zi,.hd 16,zi,zi,.str,.hd 17,zi,zi,.str,.hd 18,.hd 19]),(1,.bool)],[(16,za2),(17,za0),(18,za0),(19,za1)]⟩]⟩)]),
 (7,[(0,0,⟨[(0,zi)],[],[⟨.ret,[(0,.agg [zi,.hd 16,zi,zi,.str,.hd 17,zi,zi,.str,.hd 18,.hd 19]),(1,.bool)],[(16,za2),(17,za0),(18,za0),(19,za1)]⟩]⟩)]),
 (8,[(0,0,⟨[(0,zg2),(1,zg2)],[],[⟨.ret,[(0,.bool)],[]⟩]⟩)]),
 (9,[(1,0,⟨[(0,.agg [zi,.hd 0,zi,zi,.str,.hd 1,zi,zi,.str,.hd 2,.hd 3]),(1,zi)],[(0,za2),(1,za0),(2,za0),(3,za1)],[⟨.ret,[(0,zi)],[(0,za2),(1,za0),(2,za0),(3,za1)]⟩]⟩)]),
 (10,[(0,0,⟨[(0,zg2),(1,zi)],[],[⟨.ret,[(0,zi)],[]⟩]⟩)]),
 (15,[(0,0,⟨[(0,zg0),(1,zg0)],[],[⟨.ret,[(0,.bool)],[]⟩]⟩)]),
 (16,[(1,0,⟨[(0,.agg [zi,zi,.str,.hd 0]),(1,zi)],[(0,za0)],[⟨.ret,[(0,zi)],[(0,za0)]⟩]⟩)]),
 (17,[(0,0,⟨[(0,zg0),(1,zi)],[],[⟨.ret,[(0,zi)],[]⟩]⟩)]),
 (24,[(0,0,⟨[(0,zi),(1,zi),(2,zi)],[],[⟨.ret,[(0,.bool)],[]⟩]⟩)]),
 (25,[(0,0,⟨[(0,zi)],[],[⟨.ret,[(0,zi),(1,.str)],[]⟩]⟩)]),
 (26,[(0,0,⟨[(0,.im 9),(1,.str)],[],[⟨.ret,[(0,.agg [.hd 16,zi,zi,.str,.hd 17,zi,zi,.str,.hd 18,.hd 19]),(1,.bool)],[(16,za2),(17,za0),(18,za0),(19,za1)]⟩]⟩)]),
 (27,[(0,0,⟨[(0,zi)],[],[⟨.ret,[(0,zi),(1,.str)],[]⟩]⟩)]),
 (28,[(0,0,⟨[(0,.str)],[],[⟨.ret,[(0,.agg [.hd 16,zi,zi,.str,.hd 17,zi,zi,.str,.hd 18,.hd 19]),(1,.bool)],[(16,za2),(17,za0),(18,za0),(19,za1)]⟩]⟩)]),
 (29,[(0,0,⟨[(0,zg3),(1,zg3)],[],[⟨.ret,[(0,.bool)],[]⟩]⟩)]),
 (30,[(1,0,⟨[(0,.agg [.hd 0,zi,zi,.str,.hd 1,zi,zi,.str,.hd 2,.hd 3]),(1,zi)],[(0,za2),(1,za0),(2,za0),(3,za1)],[⟨.ret,[(0,zi)],[(0,za2),(1,za0),(2,za0),(3,za1)]⟩]⟩)]),
 (31,[(0,0,⟨[(0,zg3),(1,zi)],[],[⟨.ret,[(0,zi)],[]⟩]⟩)]),
 (40,[(0,0,⟨[(0,.im 25),(1,.im 25)],[],[⟨.ret,[(0,.bool)],[]⟩]⟩),
   (0,1,⟨[(0,.im 25),(1,.im 25),(5,zi)],[],[⟨.nrm,[],[]⟩,⟨.ret,[(4,.ff)],[]⟩]⟩)]),
 (41,[(1,0,⟨[(0,.hd 0),(1,zi)],[(0,za0)],[⟨.ret,[(0,zi)],[(0,za0)]⟩]⟩),
   (1,1,⟨[(0,.hd 0),(1,zi),(5,zi)],[(0,za0)],[⟨.nrm,[(1,zi)],[(0,za0)]⟩]⟩),
   (2,0,⟨[(0,.hd 12),(1,zi)],[(12,za0)],[⟨.ret,[(0,zi)],[(12,za0)]⟩]⟩),
   (2,1,⟨[(0,.hd 12),(1,zi),(5,zi)],[(12,za0)],[⟨.nrm,[(1,zi)],[(12,za0)]⟩]⟩)]),
 (42,[(0,0,⟨[(0,.im 25),(1,zi)],[],[⟨.ret,[(0,zi)],[]⟩]⟩),
   (0,1,⟨[(0,.im 25),(1,zi),(5,zi)],[],[⟨.nrm,[(1,zi)],[]⟩,⟨.ret,[(4,zi)],[]⟩]⟩)]),
 (54,[(0,0,⟨[(0,.str)],[],[⟨.ret,[(0,.agg [.str,zi,zi,.str,.hd 16,zi,zi,.str,.hd 17,.hd 18]),(1,.bool)],[(16,za0),(17,za0),(18,za1)]⟩]⟩),
   (0,1,⟨[(2,.bp 16 0),(13,.bp 17 0),(18,.hd 18),(19,zi)],[(16,.box [.str,zi,zi,.str,.hd 19,zi,zi,.str,.hd 20,.hd 21]),(17,.box [.str,zi,zi,.str,.hd 22,zi,zi,.str,.hd 23,.hd 24]),(18,za2),(19,za0),(20,za0),(21,za1),(22,za0),(23,za0),(24,za1)],[⟨.nrm,[(2,.bp 16 0),(13,.bp 17 0)],[(16,.box [.str,zi,zi,.str,.hd 18,zi,zi,.str,.hd 19,.hd 20]),(17,.box [.str,zi,zi,.str,.hd 21,zi,zi,.str,.hd 22,.hd 23]),(18,za0),(19,za0),(20,za1),(21,za0),(22,za0),(23,za1)]⟩,⟨.ret,[(2,.bp 16 0),(3,.ff)],[(16,.box [.str,zi,zi,.str,.hd 17,zi,zi,.str,.hd 18,.hd 19]),(17,za0),(18,za0),(19,za1)]⟩]⟩)]),
 (55,[(0,0,⟨[(0,.str)],[],[⟨.ret,[(0,.agg [.str,zi,zi,.str,.hd 16,zi,zi,.str,.hd 17,.hd 18]),(1,.bool)],[(16,za0),(17,za0),(18,za1)]⟩]⟩),
   (0,1,⟨[(2,.bp 16 0),(14,.bp 17 0),(81,.hd 18),(82,zi),(83,zi)],[(16,.box [.str,zi,zi,.str,.hd 19,zi,zi,.str,.hd 20,.hd 21]),(17,.box [.str,zi,zi,.str,.hd 22,zi,zi,.str,.hd 23,.hd 24]),(18,za2),(19,za0),(20,za0),(21,za1),(22,za0),(23,za0),(24,za1)],[⟨.nrm,[(2,.bp 16 0),(14,.bp 17 0)],[(16,.box [.str,zi,zi,.str,.hd 18,zi,zi,.str,.hd 19,.hd 20]),(17,.box [.str,zi,zi,.str,.hd 21,zi,zi,.str,.hd 22,.hd 23]),(18,za0),(19,za0),(20,za1),(21,za0),(22,za0),(23,za1)]⟩,⟨.ret,[(2,.bp 16 0),(3,.ff)],[(16,.box [.str,zi,zi,.str,.hd 17,zi,zi,.str,.hd 18,.hd 19]),(17,za0),(18,za0),(19,za1)]⟩]⟩)]),
 (56,[(0,0,⟨[(0,.im 9),(1,.im 9)],[],[⟨.ret,[(0,.bool)],[]⟩]⟩),
   (0,1,⟨[(0,.im 9),(1,.im 9),(5,zi)],[],[⟨.nrm,[],[]⟩,⟨.ret,[(4,.ff)],[]⟩]⟩)]),
 (57,[(0,0,⟨[(0,.im 140),(1,.im 140)],[],[⟨.ret,[(0,.bool)],[]⟩]⟩),
   (0,1,⟨[(0,.im 140),(1,.im 140),(5,zi)],[],[⟨.nrm,[],[]⟩,⟨.ret,[(4,.ff)],[]⟩]⟩)]),
 (58,[(1,0,⟨[(0,.hd 0),(1,zi)],[(0,za2)],[⟨.ret,[(0,zi)],[(0,za2)]⟩]⟩),
   (1,1,⟨[(0,.hd 0),(1,zi),(5,zi)],[(0,za2)],[⟨.nrm,[(1,zi)],[(0,za2)]⟩]⟩)]),
 (59,[(1,0,⟨[(0,.hd 0),(1,zi)],[(0,za1)],[⟨.ret,[(0,zi)],[(0,za1)]⟩]⟩),
   (1,1,⟨[(0,.hd 0),(1,zi),(5,zi)],[(0,za1)],[⟨.nrm,[(1,zi)],[(0,za1)]⟩]⟩)]),
 (60,[(0,0,⟨[(0,.im 9),(1,zi)],[],[⟨.ret,[(0,zi)],[]⟩]⟩),
   (0,1,⟨[(0,.im 9),(1,zi),(5,zi)],[],[⟨.nrm,[(1,zi)],[]⟩,⟨.ret,[(4,zi)],[]⟩]⟩)]),
 (61,[(0,0,⟨[(0,.im 140),(1,zi)],[],[⟨.ret,[(0,zi)],[]⟩]⟩),
   (0,1,⟨[(0,.im 140),(1,zi),(5,zi)],[],[⟨.nrm,[(1,zi)],[]⟩,⟨.ret,[(4,zi)],[]⟩]⟩)]),
 (63,[(0,0,⟨[(0,.str),(1,.str)],[],[⟨.ret,[(0,.str),(1,.str),(2,.bool)],[]⟩]⟩)]),
 (70,[(0,0,⟨[(0,zi)],[],[⟨.ret,[(0,.str)],[]⟩]⟩),
   (0,1,⟨[(0,zi),(3,.str)],[],[⟨.nrm,[(3,.str)],[]⟩]⟩)]),
 (76,[(0,0,⟨[(0,zi)],[],[⟨.ret,[(0,zg1)],[(16,za0)]⟩]⟩)]),
 (82,[(0,0,⟨[(0,zi)],[],[⟨.ret,[(0,.str)],[]⟩]⟩),
   (0,1,⟨[(0,zi),(3,.bool),(4,.str)],[],[⟨.nrm,[(3,.bool),(4,.str)],[]⟩]⟩)]),
 (88,[(0,0,⟨[(0,.str),(1,.str)],[],[⟨.ret,[(0,.str),(1,.str),(2,.bool)],[]⟩]⟩),
   (0,1,⟨[(0,.str),(1,.str),(7,zi)],[],[⟨.nrm,[(0,.str)],[]⟩,⟨.ret,[(4,.str),(5,.str),(6,.tt)],[]⟩]⟩)]),
 (89,[(0,0,⟨[(0,.str)],[],[⟨.ret,[(0,zg1),(1,.bool)],[(16,za0)]⟩]⟩)]),
 (90,[(0,0,⟨[(0,.str)],[],[⟨.ret,[(0,.bool)],[]⟩]⟩)]),
 (91,[(0,0,⟨[(0,.str),(1,.str)],[],[⟨.ret,[(0,.hd 16)],[(16,za2)]⟩]⟩),
   (0,1,⟨[(0,.str),(1,.str),(5,.hd 16)],[(16,za2)],[⟨.ret,[(4,.hd 16)],[(16,za2)]⟩]⟩)]),
 (92,[(0,0,⟨[(0,.str)],[],[⟨.ret,[(0,.agg [zi,zi,zi,.str,.hd 16,zi,zi,.str,.hd 17]),(1,.bool)],[(16,za0),(17,za0)]⟩]⟩),
   (0,1,⟨[(0,.str),(2,.bp 16 0),(4,zi)],[(16,zb2),(17,za0),(18,za0)],[⟨.nrm,[(2,.bp 16 0)],[(16,zb2),(17,za0),(18,za0)]⟩,⟨.ret,[(2,.bp 16 0),(3,.tt)],[(16,zb2),(17,za0),(18,za0)]⟩]⟩)]),
 (93,[(0,0,⟨[(0,.str),(1,.str)],[],[⟨.ret,[(0,.str),(1,.bool)],[]⟩]⟩)]),
 (94,[(0,0,⟨[(0,.str)],[],[⟨.ret,[(0,.bool)],[]⟩]⟩)]),
 (95,[(0,0,⟨[(0,.str)],[],[⟨.ret,[(0,zg1),(1,.bool)],[(16,za0)]⟩]⟩)]),
 (96,[(0,0,⟨[(0,.str),(1,.str)],[],[⟨.ret,[(0,.hd 16)],[(16,za2)]⟩]⟩)]),
 (97,[(0,0,⟨[(0,.str)],[],[⟨.ret,[(0,.agg [zi,zi,zi,.str,.hd 16,zi,zi,.str,.hd 17]),(1,.bool)],[(16,za0),(17,za0)]⟩]⟩),
   (0,1,⟨[(0,.str),(2,.bp 16 0),(4,zi)],[(16,zb2),(17,za0),(18,za0)],[⟨.nrm,[(2,.bp 16 0)],[(16,zb2),(17,za0),(18,za0)]⟩,⟨.ret,[(2,.bp 16 0),(3,.tt)],[(16,zb2),(17,za0),(18,za0)]⟩]⟩)]),
 (98,[(0,0,⟨[(0,.agg [zi,zi,zi,.str,.im 25,zi,zi,.str,.im 25]),(1,.agg [zi,zi,zi,.str,.im 25,zi,zi,.str,.im 25])],[],[⟨.ret,[(0,.bool)],[]⟩]⟩)]),
 (101,[(0,0,⟨[(0,.str)],[],[⟨.ret,[(0,zi),(1,.bool)],[]⟩]⟩)]),
 (126,[(0,0,⟨[(0,zg0)],[],[⟨.ret,[(0,.str)],[]⟩]⟩)]),
 (128,[(0,0,⟨[(0,zg0)],[],[⟨.ret,[(0,.bool)],[]⟩]⟩)]),
 (133,[(0,0,⟨[(0,zi),(1,zi)],[],[⟨.ret,[(0,zi)],[]⟩]⟩)]),
 (139,[(0,0,⟨[(0,.bp 0 0),(1,zi)],[(0,zb1)],[⟨.ret,[(0,zg1)],[(0,zb1),(16,za0)]⟩]⟩),
   (0,1,⟨[(0,.bp 0 0),(1,zi),(4,.bp 16 0),(5,zi)],[(0,zb1),(16,zb4),(17,za0)],[⟨.nrm,[(0,.bp 0 0),(1,zi),(4,.bp 16 0),(5,zi)],[(0,zb1),(16,zb4),(17,za0)]⟩]⟩),
   (0,4,⟨[(0,.bp 0 0),(1,zi),(4,.bp 16 0),(7,.bp 17 0),(8,zi)],[(0,zb1),(16,zb5),(17,zb6),(18,za0),(19,za0)],[⟨.nrm,[(4,.bp 16 0),(7,.bp 17 0)],[(0,zb1),(16,zb5),(17,zb6),(18,za0),(19,za0)]⟩]⟩)]),
 (140,[(0,0,⟨[(0,.int .u8)],[],[⟨.ret,[(0,.bool)],[]⟩]⟩)]),
 (141,[(0,0,⟨[(0,.str)],[],[⟨.ret,[(0,.bool)],[]⟩]⟩),
   (0,1,⟨[(0,.str),(3,zi)],[],[⟨.nrm,[(0,.str)],[]⟩,⟨.ret,[(2,.ff)],[]⟩]⟩)]),
 (142,[(0,0,⟨[(0,zi)],[],[⟨.ret,[(0,.str)],[]⟩]⟩)]),
 (144,[(0,0,⟨[(0,.str),(1,.int .u8),(2,.int .u8)],[],[⟨.ret,[(0,.bool)],[]⟩]⟩),
   (0,1,⟨[(0,.str),(7,zi)],[],[⟨.nrm,[],[]⟩,⟨.ret,[(6,.ff)],[]⟩]⟩)]),
 (145,[(0,0,⟨[(0,.bp 0 0)],[(0,zb0)],[⟨.ret,[(0,zg1),(1,.bool)],[(0,zb0),(16,za0)]⟩]⟩),
   (0,1,⟨[(0,.bp 0 0),(2,.bp 16 0),(7,.bp 17 0)],[(0,zb0),(16,zb5),(17,zb6),(18,za0),(19,za0)],[⟨.ret,[(2,.bp 16 0),(3,.bool)],[(0,zb0),(16,zb4),(17,za0)]⟩]⟩)]),
 (146,[(0,0,⟨[(0,zg0)],[],[⟨.ret,[(0,.bool)],[]⟩]⟩)]),
 (148,[(0,0,⟨[(0,zi)],[],[⟨.ret,[(0,.str)],[]⟩]⟩)]),
 (150,[(0,0,⟨[(0,.str),(1,zi),(2,zi)],[],[⟨.ret,[(0,zi),(1,.bool)],[]⟩]⟩)]),
 (161,[(0,0,⟨[(0,zi)],[],[⟨.ret,[(0,.str)],[]⟩]⟩)]),
 (177,[(0,0,⟨[(0,zg0)],[],[⟨.ret,[(0,.str)],[]⟩]⟩),
   (0,1,⟨[(1,.bp 16 0),(3,.str),(4,zi)],[(16,zb3)],[⟨.nrm,[(1,.bp 16 0),(3,.str)],[(16,zb3)]⟩]⟩)]),
 (178,[(0,0,⟨[(0,zg0),(1,zi)],[],[⟨.ret,[(0,zi)],[]⟩]⟩),
   (0,1,⟨[(1,zi),(2,.bp 16 0),(5,zi)],[(16,zb3)],[⟨.nrm,[(1,zi)],[]⟩]⟩)]),
 (179,[(0,0,⟨[(0,zg0)],[],[⟨.ret,[(0,zi)],[]⟩]⟩),
   (0,1,⟨[(1,.bp 16 0),(3,zi),(4,zi)],[(16,zb3)],[⟨.nrm,[(3,zi)],[]⟩]⟩)]),
 (180,[(0,0,⟨[(0,zg0)],[],[⟨.ret,[(0,.bool)],[]⟩]⟩),
   (0,1,⟨[(1,.bp 16 0),(3,zi)],[(16,zb3)],[⟨.nrm,[(1,.bp 16 0)],[(16,zb3)]⟩,⟨.ret,[(2,.ff)],[]⟩]⟩)]),
 (189,[(0,0,⟨[(0,.str)],[],[⟨.ret,[(0,.bool)],[]⟩]⟩)]),
 (190,[(0,0,⟨[(0,.int .u8)],[],[⟨.ret,[(0,.bool)],[]⟩]⟩)]),
 (191,[(0,0,⟨[(0,.bp 0 0),(1,.str)],[(0,zb1)],[⟨.ret,[(0,.bool)],[(0,zb1)]⟩]⟩)]),
 (193,[(0,0,⟨[(0,.bp 0 0)],[(0,zb0)],[⟨.ret,[(0,.str)],[(0,zb0)]⟩]⟩),
   (0,1,⟨[(0,.bp 0 0),(3,zi)],[(0,zb0)],[⟨.nrm,[(0,.bp 0 0),(3,zi)],[(0,zb0)]⟩]⟩)]),
 (194,[(0,0,⟨[(0,.str)],[],[⟨.ret,[(0,.bool)],[]⟩]⟩)]),
 (195,[(0,0,⟨[(0,.bp 0 0),(1,.str)],[(0,zb0)],[⟨.ret,[(0,.bool)],[(0,zb0)]⟩]⟩)]),
 (196,[(0,0,⟨[(0,zg0)],[],[⟨.ret,[(0,zi)],[]⟩]⟩),
   (0,1,⟨[(3,zi),(7,.im 25),(8,zi),(9,zi)],[],[⟨.nrm,[(3,zi)],[]⟩]⟩)]),
 (197,[(0,0,⟨[(0,zg0)],[],[⟨.ret,[(0,zi)],[]⟩]⟩),
   (0,1,⟨[(3,zi),(7,.im 25),(8,zi),(9,zi)],[],[⟨.nrm,[(3,zi)],[]⟩]⟩)]),
 (198,[(0,0,⟨[(0,zg0)],[],[⟨.ret,[(0,.bool)],[]⟩]⟩),
   (0,2,⟨[(39,.im 25),(40,zi),(41,zi)],[],[⟨.nrm,[],[]⟩,⟨.ret,[(2,.ff)],[]⟩]⟩)]),
 (206,[(0,0,⟨[(0,.str)],[],[⟨.ret,[(0,zi),(1,.err)],[]⟩]⟩)]),
 (228,[(0,0,⟨[(0,zg0)],[],[⟨.ret,[(0,.bool)],[]⟩]⟩)]),
 (232,[(0,0,⟨[(0,zg0)],[],[⟨.ret,[(0,.bool)],[]⟩]⟩)])]
def vrL:List (Nat×List (Nat×List (Nat×Nat))):=[(3,[(0,[(32,1)])]),(9,[(1,[(8,1)])]),(16,[(1,[(8,1)])]),(30,[(1,[(8,1),(12,1),(16,1),(20,1)])]),(41,[(1,[(40,2)])]),(41,[(2,[(40,2)])]),(59,[(1,[(51,2),(84,2)])])]
def shL:List (Nat×List (Nat×List Nat)):=[]
def gvL:List (Nat×(Array Value->Prop)):=[(0,Ig),(3,Ih)]
def Nd:List (Nat×(Nat->List D->Option (Nat×List D))):=[(63,Ic),(93,Ib),(96,Ie),(161,zt),(206,If)]
def kiF:List (Nat×Nat×KI)->Nat->Nat->Option KI
 | [],_,_=>none
 | (a,b,x)::r,v,n=>bif Nat.beq a v&&Nat.beq b n then some x else kiF r v n
def vrF:List (Nat×List (Nat×List (Nat×Nat)))->Nat->Nat->Nat->Nat
 | [],_,_,_=>0
 | (f,[(v,l)])::r,f',v',d=>bif Nat.beq f f'&&Nat.beq v v' then (ai l d).getD 0 else vrF r f' v' d
 | _,_,_,_=>0
def H:Tab:={ ty:=fun t=>ai tyL t,ki:=fun k=>match ai kiL k.f with | some l=>kiF l k.v k.n | none=>none,vr:=fun k d=>vrF vrL k.f k.v d,share:=fun k=>match ai shL k.f with | some l=>(ai l k.v).getD [] | none=>[],ext:=fun f=>ai Nd f,eqt:=fun t=>dm eqL t,gv:=gvL }
noncomputable def rn:Key->List D->R:=run H Tryz.prog
theorem rn_eq (k:Key) (l:List D):rn k l=step H rn Tryz.prog k l:=Mk H Tryz.prog k l
open Go.Q.D renaming int->i,sl->s,str->t,bool->b
open Go.Q renaming nth->g,rowAt->p
open Int renaming toNat->z
open Go.IntKind renaming wrap->w
open Decidable renaming decide->d
open Nat renaming beq->q,ble->l
open _root_.ByteArray renaming mk->m
theorem eE {k:Key} {l:List D} {r:R} (h:step H rn Tryz.prog k l=r):rn k l=r:=(rn_eq k l).trans h
theorem e3_0_0 (x0:Int):rn ⟨3,0,0⟩ [i x0] =
 (rn ⟨6,0,0⟩ [i x0]).bind fun r1=>(rn ⟨7,0,0⟩ [i x0]).bind fun r2=>(rn ⟨8,0,0⟩ [i (g r2.2 0).I,s (g r2.2 8).L,i (g r2.2 1).I,i (g r2.2 2).I,t (g r2.2 3).S,s (g r2.2 9).L,i (g r2.2 4).I,i (g r2.2 5).I,t (g r2.2 6).S,s (g r2.2 10).L,s (g r2.2 11).L,i (g r1.2 0).I,s (g r1.2 8).L,i (g r1.2 1).I,i (g r1.2 2).I,t (g r1.2 3).S,s (g r1.2 9).L,i (g r1.2 4).I,i (g r1.2 5).I,t (g r1.2 6).S,s (g r1.2 10).L,s (g r1.2 11).L]).bind fun r3=>bif !(g r3.2 0).B then some (0,[b false]) else bif !((g r2.2 7).B==(g r1.2 7).B) then some (0,[b false]) else (rn ⟨9,1,0⟩ [i (g r2.2 0).I,i (g r2.2 1).I,i (g r2.2 2).I,t (g r2.2 3).S,i (g r2.2 4).I,i (g r2.2 5).I,t (g r2.2 6).S,i 1,s (g r2.2 8).L,s (g r2.2 9).L,s (g r2.2 10).L,s (g r2.2 11).L]).bind fun r4=>(rn ⟨10,0,0⟩ [i (g r2.2 0).I,s (g r4.2 1).L,i (g r2.2 1).I,i (g r2.2 2).I,t (g r2.2 3).S,s (g r4.2 2).L,i (g r2.2 4).I,i (g r2.2 5).I,t (g r2.2 6).S,s (g r4.2 3).L,s (g r4.2 4).L,i 1]).bind fun r5=>bif d (((g r5.2 0).I:Int)<0) then some (0,[b false]) else bif !d (((g r5.2 0).I:Int)=(g r4.2 0).I) then some (0,[b false]) else (rn ⟨7,0,0⟩ [i x0]).bind fun r6=>(rn ⟨8,0,0⟩ [i (g r6.2 0).I,s (g r6.2 8).L,i (g r6.2 1).I,i (g r6.2 2).I,t (g r6.2 3).S,s (g r6.2 9).L,i (g r6.2 4).I,i (g r6.2 5).I,t (g r6.2 6).S,s (g r6.2 10).L,s (g r6.2 11).L,i (g r1.2 0).I,s (g r1.2 8).L,i (g r1.2 1).I,i (g r1.2 2).I,t (g r1.2 3).S,s (g r1.2 9).L,i (g r1.2 4).I,i (g r1.2 5).I,t (g r1.2 6).S,s (g r1.2 10).L,s (g r1.2 11).L]).bind fun r7=>bif !(g r7.2 0).B then some (0,[b false]) else bif !((g r6.2 7).B==(g r1.2 7).B) then some (0,[b false]) else (rn ⟨10,0,0⟩ [i (g r2.2 0).I,s (g r4.2 1).L,i (g r2.2 1).I,i (g r2.2 2).I,t (g r2.2 3).S,s (g r4.2 2).L,i (g r2.2 4).I,i (g r2.2 5).I,t (g r2.2 6).S,s (g r4.2 3).L,s (g r4.2 4).L,i 1]).bind fun r8=>bif d (((g r8.2 0).I:Int)<0) then some (0,[b false]) else bif !d (((g r8.2 0).I:Int)=(g r4.2 0).I) then some (0,[b false]) else some (0,[b true]):=eE (by kernel_rfl)
theorem e6_0_0 (x0:Int):rn ⟨6,0,0⟩ [i x0] =
 (rn ⟨24,0,0⟩ [i x0,i 1,i 5]).bind fun r1=>bif !(g r1.2 0).B then some (0,[i 0,i 0,i 0,t (m #[]),i 0,i 0,t (m #[]),b false,s [],s [],s [],s []]) else (rn ⟨25,0,0⟩ [i x0]).bind fun r2=>(rn ⟨26,0,0⟩ [s ([[t (m #[78])],[t (m #[77])]]:ak),t (g r2.2 1).S]).bind fun r3=>some (0,[i (g r2.2 0).I,i (g r3.2 0).I,i (g r3.2 1).I,t (g r3.2 2).S,i (g r3.2 3).I,i (g r3.2 4).I,t (g r3.2 5).S,b (g r3.2 6).B,s (g r3.2 7).L,s (g r3.2 8).L,s (g r3.2 9).L,s (g r3.2 10).L]):=eE (by kernel_rfl)
theorem e7_0_0 (x0:Int):rn ⟨7,0,0⟩ [i x0] =
 (rn ⟨27,0,0⟩ [i x0]).bind fun r1=>(rn ⟨28,0,0⟩ [t (g r1.2 1).S]).bind fun r2=>bif !(g r2.2 6).B then some (0,[i 0,i 0,i 0,t (m #[]),i 0,i 0,t (m #[]),b false,s [],s [],s [],s []]) else some (0,[i (g r1.2 0).I,i (g r2.2 0).I,i (g r2.2 1).I,t (g r2.2 2).S,i (g r2.2 3).I,i (g r2.2 4).I,t (g r2.2 5).S,b true,s (g r2.2 7).L,s (g r2.2 8).L,s (g r2.2 9).L,s (g r2.2 10).L]):=eE (by kernel_rfl)
theorem e24_0_0 (x0 x1 x2:Int):rn ⟨24,0,0⟩ [i x0,i x1,i x2] =
 bif d (x1<=x0) then some (0,[b (d (x0<=x2))]) else some (0,[b false]):=eE (by kernel_rfl)
theorem e27_0_0 (x0:Int):rn ⟨27,0,0⟩ [i x0] =
 bif d (x0=1) then some (0,[i 3,t (m #[108,111,111,112,40,78,44,32,77,41,32,61,62,32,100,111,110,101,40,112,108,117,115,40,78,44,32,77,41,41])]) else bif d (x0=2) then some (0,[i 3,t (m #[108,111,111,112,40,78,44,32,77,41,32,61,62,32,100,111,110,101,40,77,41])]) else bif d (x0=3) then some (0,[i 1,t (m #[105,102,122,40,110,117,109,40,78,41,44,32,110,117,109,40,48,41,44,32,110,117,109,40,49,41,41,32,61,62,32,110,117,109,40,49,41,32,105,102,32,48,32,60,32,78])]) else bif d (x0=4) then some (0,[i 2,t (m #[114,117,110,40,99,111,109,112,40,97,100,100,40,110,117,109,40,78,41,44,32,110,117,109,40,77,41,41,44,32,104,97,108,116,41,44,32,110,105,108,41,32,61,62,32,114,117,110,40,104,97,108,116,44,32,99,111,110,115,40,112,108,117,115,40,78,44,32,77,41,44,32,110,105,108,41,41])]) else bif d (x0=5) then some (0,[i 1,t (m #[109,117,108,40,110,117,109,40,78,41,44,32,110,117,109,40,78,41,41,32,61,62,32,110,117,109,40,78,41])]) else some (0,[i 0,t (m #[])]):=eE (by kernel_rfl)
end Go.Q.S
