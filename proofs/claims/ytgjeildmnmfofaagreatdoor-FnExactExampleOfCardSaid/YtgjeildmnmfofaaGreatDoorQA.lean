/- A machine over trees of data that runs the given code, and the proof that what it answers holds of the program, part 1. -/
import Derived.WalkKit
import Derived.KernelRfl
import Derived.Orders
import Derived.Calls
import Derived.Laws.Append
import Derived.Laws.AppendOwn
import Derived.Laws.CopyRow
import Derived.ArgAppend
import Derived.Below
import Derived.IntWalk
import Derived.WalkSpells
import Derived.Laws.BytesString
import Derived.Great.BuildSlice
import Derived.Laws.MakeOwn
set_option linter.unusedVariables false
set_option linter.unusedSimpArgs false
universe u
namespace Go.Q
theorem H1 {α:Type u} {a b:α}:cond true a b=a:=rfl
theorem H2 {α:Type u} {a b:α}:cond false a b=b:=rfl
theorem H3 (h:Decidable True):@decide True h=true:=decide_true h
theorem H4 (h:Decidable False):@decide False h=false:=decide_false h
theorem H5 {c:Prop} {h:Decidable c} (hc:c) {α:Sort u} {t e:α}:ite c t e=t:=if_pos hc
theorem H6 {c:Prop} {h:Decidable c} (hc:¬c) {α:Sort u} {t e:α}:ite c t e=e:=if_neg hc
theorem H7 {p:Prop} [inst:Decidable p]:p->decide p=true:=decide_eq_true
theorem H8 {p:Prop} [inst:Decidable p]:¬p->decide p=false:=decide_eq_false
end Go.Q
open Array renaming getElem?_eq_some_iff->E5,getElem?_eq_getElem->F2,length_toList->G7
open Bool renaming and_eq_true->B4,not_eq_true'->C5,not_eq_true->N6
open List renaming mem_append->B8,getElem?_eq_some_iff->B9,map_cons->C0,mem_cons->C1,nodup_cons->C4,all_eq_true->C6,nodup_append->C7,append_assoc->C9,getElem?_append_left->D2,getElem?_append_right->D3,length_eq_zero_iff->D4,getElem?_eq_getElem->D5,getElem?_drop->D6,getElem?_take->D7,length_cons->E8,cons_append->E9,ext_getElem?->F1,take_succ_cons->F8,nil_append->G6,mem_of_mem_drop->G9,mem_of_mem_take->J6,length_pos_iff->J7,getD->K1,replicate->K3,size_toArray->K8,take_append_drop->N2,cons->N7,all_cons->O0,append_nil->O1,flatten_cons->O6
open Nat renaming beq->C2,mul_le_mul_right->C3,le_refl->D1,lt_of_lt_of_le->D9,add_mul->E0,le_of_ble_eq_true->E3,blt->E7,le_trans->F4,zero_add->G8,ble->J1,add_zero->J9,lt_irrefl->K0,eq_of_beq_eq_true->K4,add_assoc->N1
open Option renaming some->B7,bind_eq_some_iff->E2,isSome_iff_exists->F6
open Prod renaming mk->C8
section
namespace Go.Q
open Go
inductive D where
 | int (n:Int) | bool (b:Bool) | str (s:ByteArray) | sl (rows:List (List D))
 deriving Inhabited
abbrev ak:=List (List D)
def D.I:D->Int | .int n=>n | _=>0
def D.B:D->Bool | .bool b=>b | _=>false
def D.S:D->ByteArray | .str s=>s | _=>ByteArray.empty
def D.L:D->ak | .sl r=>r | _=>[]
def nth (ds:List D) (i:Nat):D:=ds.getD i default
def rowAt (rs:ak) (i:Nat):List D:=rs.getD i []
inductive CT where
 | int (k:IntKind) | bool | str | sl (e:TypeId) | ptr | fn | err
 deriving DecidableEq,Inhabited
structure TI where
 agg:Bool
 lay:List CT
 flds:List (Nat×TypeId)
 deriving Inhabited
inductive Lv where
 | ap | top | deep
 deriving DecidableEq,Inhabited
def Lv.le:Lv->Lv->Bool
 | .ap,_=>true | .top,.ap=>false | .top,_=>true | .deep,.deep=>true | .deep,_=>false
def Lv.min (a b:Lv):Lv:=bif a.le b then a else b
inductive Val where
 | int (k:IntKind) (n:Int)
 | bool (b:Bool)
 | str (s:ByteArray)
 | im (e:TypeId) (rows:ak)
 | nils
 | hd (j:Nat)
 | hn (j ver i c:Nat) (e:TypeId)
 | pe (j ver i c:Nat)
 | bp (j off:Nat)
 | bq (j off:Nat)
 | ip (lay:List CT) (row:List D) (off:Nat)
 | ep (j i off:Nat)
 | en (j ver i c:Nat) (e:TypeId) (k off:Nat)
 | nilp
 | fn (f:FuncId) (caps:List Val)
 | agg (cs:List Val)
 | tup (vs:List Val)
 | err (b:Bool)
 | ub
 | und
 | dead
 deriving Inhabited
inductive Obj where
 | box (cs:List Val)
 | arr (e:TypeId) (lv:Lv) (ver:Nat) (rows:ak) (ov:Option (Nat×Nat))
 deriving Inhabited
structure St where
 n:Nat
 t:Nat->Val
 o:Nat->Option Obj
 u:Nat->Bool
inductive Sh where
 | int (k:IntKind) | bool | tt | ff | str | im (e:TypeId) | hd (c:Nat) | bp (c off:Nat) | bq (c off:Nat) | fn (f:FuncId) (caps:List Sh) | agg (cs:List Sh) | nilp | nils | err | dead
 deriving Inhabited
inductive OSh where
 | box (cs:List Sh)
 | arr (e:TypeId) (lv:Lv)
 deriving Inhabited
structure Key where
 f:Nat
 v:Nat
 n:Nat
inductive EK where
 | nrm | ext (id:Nat) | ret
structure XS where
 e:EK
 vals:List (Nat×Sh)
 objs:List (Nat×OSh)
structure KI where
 pars:List (Nat×Sh)
 objs:List (Nat×OSh)
 xs:List XS
structure Tab where
 ty:TypeId->Option TI
 ki:Key->Option KI
 vr:Key->Nat->Nat
 share:Key->List Nat
 ext:FuncId->Option (Nat->List D->Option (Nat×List D))
 eqt:TypeId->Bool
 gv:List (Nat×(Array Value->Prop)):=[]
abbrev R:=Option (Nat×List D)
inductive M (α:Type) where
 | ret (a:α)
 | fail
 | chk (b:Bool) (m:M α)
 | get (j:Nat) (k:Option Obj->M α)
 | alt (b:Bool) (m n:M α)
 | ask (key:Key) (ls:List D) (k:Nat×List D->M α)
def M.bind {α β:Type}:M α->(α->M β)->M β
 | .ret a,f=>f a
 | .fail,_=>.fail
 | .chk b m,f=>.chk b (m.bind f)
 | .alt b m n,f=>.alt b (m.bind f) (n.bind f)
 | .get j k,f=>.get j fun o=>(k o).bind f
 | .ask key ls k,f=>.ask key ls fun r=>(k r).bind f
structure Eff where
 v:Val
 ups:List (Nat×Option Obj)
 nw:List Nat
def ai {α:Type}:List (Nat×α)->Nat->Option α
 | [],_=>none
 | (a,x)::r,k=>bif C2 a k then some x else ai r k
def cv1:Value->Val
 | .int k n=>.int k n
 | .bool b=>.bool b
 | .string s=>.str s
 | .slice none 0 0=>.nils
 | .pointer none=>.nilp
 | .nilIface=>.err false
 | _=>.dead
def cv:Value->Val
 | .agg cs=>bif cs.toList.all (·.oneCell') then .agg (cs.toList.map cv1) else .dead
 | v=>cv1 v
def ev (st:St):Operand->Val
 | .tmp t=>st.t t
 | .const c=>cv c
 | .func f=>.fn f []
 | .global _=>.dead
def cvD (ct:CT) (d:D):Val :=
 match ct with
 | .int k=>.int k d.I
 | .bool=>.bool d.B
 | .str=>.str d.S
 | .sl e=>.im e d.L
 | .ptr=>.dead
 | .fn=>.dead
 | .err=>.err d.B
def gx:List CT->List D->Nat->List Val
 | [],_,_=>[]
 | ct::r,row,i=>cvD ct (nth row i)::gx r row (i+1)
def cvO (ct:CT) (d:D) (j ver i c:Nat):Val :=
 match ct with
 | .sl e=>.hn j ver i c e
 | ct=>cvD ct d
def gj (j ver i:Nat):List CT->List D->Nat->List Val
 | [],_,_=>[]
 | ct::r,row,c=>cvO ct (nth row c) j ver i c::gj j ver i r row (c+1)
def vn:CT->Val
 | .int k=>.int k 0
 | .bool=>.bool false
 | .str=>.str ⟨#[]⟩
 | .sl _=>.nils
 | .ptr=>.nilp
 | .fn=>.dead
 | .err=>.err false
def la:CT->D
 | .int _=>.int 0
 | .bool=>.bool false
 | .str=>.str ⟨#[]⟩
 | _=>.sl []
def mkV (agg:Bool) (cs:List Val):Val:=bif agg then .agg cs else match cs with | [v]=>v | _=>.dead
def dg:Val->List Val
 | .agg cs=>cs
 | v=>[v]
def okC:Val->Bool
 | .tup _=>false | .und=>false | .ub=>false | .dead=>false | _=>true
def Ce:CT->Bool | .sl _=>true | _=>false
def fj (lay:List CT):Bool:=lay.all fun c=>match c with | .int _=>true | .bool=>true | .str=>true | .sl _=>true | _=>false
def flat (lay:List CT):Bool:=lay.all fun c=>!Ce c
def iw {α:Type}:Nat->List α->List α
 | 0,_=>[]
 | _,[]=>[]
 | n+1,x::r=>x::iw n r
def iy {α:Type}:Nat->List α->List α
 | 0,l=>l
 | _,[]=>[]
 | n+1,_::r=>iy n r
def over {α:Type}:Nat->List α->List α->List α
 | 0,[],l=>l
 | 0,x::xs,_::l=>x::over 0 xs l
 | 0,_::_,[]=>[]
 | n+1,xs,y::l=>y::over n xs l
 | _+1,_,[]=>[]
def len {α:Type}:List α->Nat
 | []=>0
 | _::r=>(len r).succ
def M63:Nat:=274877906944  -- 2 ^ 38
def inb (n:Int) (l:Nat):Bool:=decide (0<=n)&&decide (n<l)
def aw (dst:Option Tmp) (c:Nat):Nat:=match dst with | some d=>64*(d+1)+c | none=>0
def dm (l:List Nat) (x:Nat):Bool:=l.any (C2 x)
def fk (j:Nat):Bool:=(J1 12 j&&E7 j 16)||C2 (j % 64) 63
def toD (sh:Bool) (ct:CT):Val->M (D×Bool×List (Nat×Option Obj))
 | .int k n=>match ct with | .int k'=>.chk (decide (k=k')) (.ret (.int n,true,[])) | _=>.fail
 | .bool b=>match ct with | .bool=>.ret (.bool b,true,[]) | _=>.fail
 | .str s=>match ct with | .str=>.ret (.str s,true,[]) | _=>.fail
 | .nils=>match ct with | .sl _=>.ret (.sl [],true,[]) | _=>.fail
 | .im e rows=>match ct with | .sl e'=>.chk (C2 e e') (.ret (.sl rows,false,[])) | _=>.fail
 | .hd j=>match ct with
  | .sl e'=>.get j fun
   | some (.arr e lv ver rows none)=>.chk (C2 e e') <|
    bif sh then .ret (.sl rows,false,[(j,some (.arr e .ap ver rows none))])
    else .ret (.sl rows,decide (lv=.deep),[(j,none)])
   | _=>.fail
  | _=>.fail
 | _=>.fail
def ml (l l':List (Nat×Option Obj)):Bool:=l.all fun p=>!dm (l'.map (·.1)) p.1
def kh (sh:Bool):List CT->List Val->M (List D×Bool×List (Nat×Option Obj))
 | [],[]=>.ret ([],true,[])
 | ct::cts,v::vs=>(toD sh ct v).bind fun x=>(kh sh cts vs).bind fun y=>.chk (ml x.2.2 y.2.2) (.ret (x.1::y.1,x.2.1&&y.2.1,x.2.2++y.2.2))
 | _,_=>.fail
inductive Tgt where
 | obj (j:Nat)
 | new
structure FS where
 sg:List (Nat×Tgt)
 fz:List Nat
def FS.asg (s:FS) (c:Nat) (t:Tgt):Option FS :=
 match ai s.sg c with
 | none=>some { s with sg:=s.sg++[(c,t)] }
 | some (.obj j)=>match t with | .obj j'=>bif C2 j j' then some s else none | _=>none
 | some _=>none
mutual
def flV (H:Tab):Sh->Val->FS->M (List D×FS)
 | .int k,.int k' n,s=>.chk (decide (k=k')) (.ret ([.int n],s))
 | .bool,.bool b,s=>.ret ([.bool b],s)
 | .tt,.bool b,s=>.chk b (.ret ([],s))
 | .ff,.bool b,s=>.chk (!b) (.ret ([],s))
 | .str,.str b,s=>.ret ([.str b],s)
 | .im e,.im e' rows,s=>.chk (C2 e e') (.ret ([.sl rows],s))
 | .im e,.nils,s=>.chk (H.ty e).isSome (.ret ([.sl []],s))
 | .im e,.hd j,s=>.get j fun
  | some (.arr e' _ _ rows none)=>.chk (C2 e e') (.ret ([.sl rows],{ s with fz:=j::s.fz }))
  | _=>.fail
 | .im e,.hn j ver i c e',s=>.get j fun
  | some (.arr _ .deep ver' rs none)=>.chk (C2 e e'&&C2 ver ver') (.ret ([.sl (nth (rowAt rs i) c).L],{ s with fz:=j::s.fz }))
  | _=>.fail
 | .hd c,.hd j,s=>match s.asg c (.obj j) with | some s=>.ret ([],s) | none=>.fail
 | .hd c,.nils,s=>match s.asg c .new with | some s=>.ret ([],s) | none=>.fail
 | .bp c off,.bp j off',s=>match s.asg c (.obj j) with | some s=>.chk (C2 off off') (.ret ([],s)) | none=>.fail
 | .bq c off,.bp j off',s=>match s.asg c (.obj j) with | some s=>.chk (C2 off off') (.ret ([],s)) | none=>.fail
 | .bq c off,.bq j off',s=>match s.asg c (.obj j) with | some s=>.chk (C2 off off') (.ret ([],s)) | none=>.fail
 | .bq c off,.nilp,s=>.ret ([],s)
 | .fn f cs,.fn f' vs,s=>.chk (C2 f f') (pa H cs vs s)
 | .agg cs,.agg vs,s=>pa H cs vs s
 | .nilp,.nilp,s=>.ret ([],s)
 | .nils,.nils,s=>.ret ([],s)
 | .err,.err b,s=>.ret ([.bool b],s)
 | .dead,_,s=>.ret ([],s)
 | _,_,_=>.fail
def pa (H:Tab):List Sh->List Val->FS->M (List D×FS)
 | [],[],s=>.ret ([],s)
 | h::hs,v::vs,s=>(flV H h v s).bind fun x=>(pa H hs vs x.2).bind fun y=>.ret (x.1++y.1,y.2)
 | _,_,_=>.fail
end
def flO (H:Tab):List (Nat×OSh)->FS->M (List D×FS)
 | [],s=>.ret ([],s)
 | (c,osh)::r,s =>
  (match ai s.sg c with
  | some (.obj j)=>M.get j fun ob=>match osh,ob with
   | .box shs,some (.box cs)=>pa H shs cs s
   | .arr e lv,some (.arr e' lv' _ rows none)=>.chk ((fk c==fk j)&&(C2 e e'&&lv.le lv')) (.ret ([.sl rows],s))
   | _,_=>.fail
  | some .new=>match osh with
   | .arr e _=>.chk (match H.ty e with | some ti=>E7 0 (len ti.lay) | none=>false) (.ret ([.sl []],s))
   | _=>.fail
  | none=>.fail).bind fun x=>(flO H r x.2).bind fun y=>.ret (x.1++y.1,y.2)
def cu:Tgt->List Nat
 | .obj j=>[j]
 | .new=>[]
def dw:List Nat->Bool
 | []=>true
 | x::r=>!dm r x&&dw r
def FS.ok (s:FS) (objs:List (Nat×OSh)):Bool :=
 let l:=s.sg.flatMap fun p=>cu p.2
 dw l&&((s.fz.all fun j=>!dm l j)&&(dw (s.sg.map (·.1))&&((s.sg.all fun p=>E7 p.1 64)&&dw (objs.map (·.1)))))
mutual
def unV (mp:Nat->Nat) (r:List D):Sh->Nat->Val×Nat
 | .int k,n=>(.int k (nth r n).I,n.succ)
 | .bool,n=>(.bool (nth r n).B,n.succ)
 | .tt,n=>(.bool true,n)
 | .ff,n=>(.bool false,n)
 | .str,n=>(.str (nth r n).S,n.succ)
 | .im e,n=>(.im e (nth r n).L,n.succ)
 | .hd c,n=>(.hd (mp c),n)
 | .bp c off,n=>(.bp (mp c) off,n)
 | .bq c off,n=>(.bq (mp c) off,n)
 | .fn f cs,n=>(.fn f (ar mp r cs n).1,(ar mp r cs n).2)
 | .agg cs,n=>(.agg (ar mp r cs n).1,(ar mp r cs n).2)
 | .nilp,n=>(.nilp,n)
 | .nils,n=>(.nils,n)
 | .err,n=>(.err (nth r n).B,n.succ)
 | .dead,n=>(.dead,n)
def ar (mp:Nat->Nat) (r:List D):List Sh->Nat->List Val×Nat
 | [],n=>([],n)
 | h::hs,n=>((unV mp r h n).1::(ar mp r hs (unV mp r h n).2).1,(ar mp r hs (unV mp r h n).2).2)
end
def unO (mp:Nat->Nat) (ver:Nat->Nat) (r:List D):List (Nat×OSh)->Nat->List (Nat×Obj)
 | [],_=>[]
 | (c,.box shs)::os,n=>(c,.box (ar mp r shs n).1)::unO mp ver r os (ar mp r shs n).2
 | (c,.arr e lv)::os,n=>(c,.arr e lv (ver c) (nth r n).L none)::unO mp ver r os n.succ
mutual
def Sh.escs (ty:TypeId->Option TI):Sh->Bool
 | .im _=>true
 | .agg cs=>Sh.escsL ty cs
 | .fn _ cs=>Sh.escsL ty cs
 | _=>false
def Sh.escsL (ty:TypeId->Option TI):List Sh->Bool
 | []=>false
 | h::hs=>h.escs ty||Sh.escsL ty hs
end
def OSh.escs (ty:TypeId->Option TI):OSh->Bool
 | .box cs=>Sh.escsL ty cs
 | .arr e lv=>match lv with
  | .ap=>true
  | .top=>!(match ty e with | some i=>flat i.lay | none=>false)
  | .deep=>false
def XS.escs (ty:TypeId->Option TI) (x:XS):Bool:=(x.vals.any fun p=>p.2.escs ty)||x.objs.any fun p=>p.2.escs ty
section
variable (H:Tab)
def vo:List Val->Val
 | [v]=>v
 | vs=>.tup vs
def pk (dst:Option Tmp) (objs:List (Nat×Obj)):List (Nat×Tgt)->M (List (Nat×Option Obj))
 | []=>.ret []
 | (c,.obj j)::r=>(pk dst objs r).bind fun u=>match ai objs c with
  | some (.arr e lv _ rows ov)=>M.get j fun
   | some (.arr _ _ ver _ _)=>.ret ((j,some (.arr e lv ver.succ rows ov))::u)
   | _=>.fail
  | ob=>.ret ((j,ob)::u)
 | (_,.new)::r=>pk dst objs r
def lb:List Nat->M (List (Nat×Option Obj))
 | []=>.ret []
 | j::r=>(lb r).bind fun u=>.get j fun
  | some (.arr e _ ver rows none)=>.ret ((j,some (.arr e .ap ver rows none))::u)
  | _=>.fail
def news (dst:Option Tmp) (sg:List (Nat×Tgt)):List (Nat×Obj)->List (Nat×Option Obj)
 | []=>[]
 | (c,ob)::r=>match ai sg c with
  | none=>(aw dst c,some ob)::news dst sg r
  | some .new=>(aw dst c,some ob)::news dst sg r
  | some _=>news dst sg r
mutual
def Sh.refs:Sh->List Nat
 | .hd c=>[c]
 | .bp c _=>[c]
 | .bq c _=>[c]
 | .fn _ cs=>Sh.refsL cs
 | .agg cs=>Sh.refsL cs
 | _=>[]
def Sh.refsL:List Sh->List Nat
 | []=>[]
 | h::hs=>h.refs++Sh.refsL hs
end
def OSh.refs:OSh->List Nat
 | .box cs=>Sh.refsL cs
 | .arr _ _=>[]
def XS.refsOk (x:XS):Bool:=((Sh.refsL (x.vals.map (·.2))).all (dm (x.objs.map (·.1)))&&(x.objs.all fun p=>p.2.refs.all (dm (x.objs.map (·.1)))))&&dw (x.objs.map (·.1))
def Lz (objs:List (Nat×OSh)) (sg:List (Nat×Tgt)):Bool:=sg.all fun p=>E7 p.1 16&&(ai objs p.1).isSome
def lc:List Nat->Nat->Bool
 | [],_=>true
 | t::r,n=>C2 t n&&lc r n.succ
def vp (dst:Option Tmp) (y:FS) (r:List D) (xs:XS):M Eff :=
 let mp:Nat->Nat:=fun c=>match ai y.sg c with | some (.obj j)=>j | _=>aw dst c
 let vals:=ar mp r (xs.vals.map (·.2)) 0
 let objs:=unO mp (fun _=>0) r xs.objs vals.2
 M.chk (xs.refsOk&&xs.objs.all fun p=>!fk p.1||fk (mp p.1)) <| (pk dst objs y.sg).bind fun u=>(bif xs.escs H.ty then lb y.fz else .ret []).bind fun z =>
  .ret ⟨vo vals.1,u++z++news dst y.sg objs,(news dst y.sg objs).map (·.1)⟩
def pm (dst:Option Tmp) (y:FS) (r:Nat×List D):List XS->Nat->M Eff
 | [],_=>.fail
 | [x],0=>vp H dst y r.2 x
 | x::xs,n=>.alt (C2 r.1 n) (vp H dst y r.2 x) (pm dst y r xs n.succ)
def vq (key:Key) (i:KI) (dst:Option Tmp) (vs:List Val):M Eff :=
 (pa H (i.pars.map (·.2)) vs ⟨[],[]⟩).bind fun x=>(flO H i.objs x.2).bind fun y =>
   M.chk (Lz i.objs y.2.sg&&y.2.ok i.objs) <| .ask key (x.1++y.1) fun r=>pm H dst y.2 r i.xs 0
def lf (x:Nat):List Sh->List Val->Option (Nat×Nat×Nat×Nat×TypeId×List Val)
 | .hd _::_,.hn j ver i c e::vs=>some (j,ver,i,c,e,.hd x::vs)
 | _::hs,v::vs=>match lf x hs vs with
  | some (j,ver,i,c,e,r)=>some (j,ver,i,c,e,v::r)
  | none=>none
 | _,_=>none
def M.over {α:Type} (x y:Nat×Option Obj):M α->M α
 | .ret a=>.ret a
 | .fail=>.fail
 | .chk b m=>.chk b (m.over x y)
 | .alt b m n=>.alt b (m.over x y) (n.over x y)
 | .get j k=>bif C2 j y.1 then (k y.2).over x y else bif C2 j x.1 then (k x.2).over x y else .get j fun o=>(k o).over x y
 | .ask key ls k=>.ask key ls fun r=>(k r).over x y
def Lj (key:Key) (i:KI) (dst:Option Tmp) (j ver ri c:Nat) (e:TypeId) (vs:List Val):M Eff :=
 let x:=aw dst 63
 .get j fun
 | some (.arr e0 .deep ver' rows none)=>match H.ty e0 with
  | some te=>match te.lay[c]? with
   | some (.sl e')=>.chk (fk x&&((match H.ty e with | some ti=>E7 0 (len ti.lay) | none=>false)&&(C2 e e'&&C2 ver ver'))) <|
    (M.over (j,some (.arr e0 .deep ver.succ (over ri [over c [.sl []] (rowAt rows ri)] rows) (some (ri,c)))) (x,some (.arr e .deep 0 (nth (rowAt rows ri) c).L none)) (vq H key i dst vs)).bind fun eff =>
      match ai eff.ups x with
      | some (some (.arr e2 .deep ver2 rows2 none))=>.chk (!dm (eff.ups.map (·.1)) j&&(dw (eff.ups.map (·.1))&&C2 e2 e)) <|
       .ret ⟨eff.v,((j,some (.arr e0 .deep ver.succ (over ri [over c [.sl []] (rowAt rows ri)] rows) (some (ri,c))))::(x,some (.arr e .deep 0 (nth (rowAt rows ri) c).L none))::eff.ups)++[(x,none),(j,some (.arr e0 .deep ver.succ.succ (over ri [over c [.sl rows2] (rowAt rows ri)] rows) none))],x::eff.nw⟩
      | _=>.fail
   | _=>.fail
  | none=>.fail
 | _=>.fail
def Cf (ckey:Key) (dst:Option Tmp) (f:FuncId) (vs:List Val):M Eff :=
 let key:Key:=⟨f,H.vr ckey (dst.getD 9999),0⟩
 match H.ki key with
 | none=>.fail
 | some i=>match lf (aw dst 63) (i.pars.map (·.2)) vs with
  | none=>vq H key i dst vs
  | some (j,ver,ri,c,e,vs')=>Lj H key i dst j ver ri c e vs'
def Nm (t:Bool):Val->Val->M Val
 | .bool x,.bool y=>.ret (.bool (bif t then x else y))
 | .int k x,.int k' y=>.chk (decide (k=k')) (.ret (.int k (bif t then x else y)))
 | .str x,.str y=>.ret (.str (bif t then x else y))
 | .und,v=>.chk (!t) (.ret v)
 | v,.und=>.chk t (.ret v)
 | _,_=>.fail
def ltB (x y:ByteArray):Bool:=Op.bytesLess x.toList y.toList
def dz:Nat:=9223372036854775807
def Ma (op:BinOp):Val->Val->M Val
 | .int k a,.int k' b=>.chk (decide (k=k')) <| match op with
  | .add=>.ret (.int k (k.wrap (a+b)))
  | .sub=>.ret (.int k (k.wrap (a-b)))
  | .mul=>.ret (.int k (k.wrap (a*b)))
  | .quo=>.chk (!decide (b=0)) (.ret (.int k (k.wrap (a.tdiv b))))
  | .rem=>.chk (!decide (b=0)) (.ret (.int k (a.tmod b)))
  | .eql=>.ret (.bool (decide (a=b)))
  | .neq=>.ret (.bool (!decide (a=b)))
  | .lss=>.ret (.bool (decide (a<b)))
  | .leq=>.ret (.bool (decide (a<=b)))
  | .gtr=>.ret (.bool (decide (b<a)))
  | .geq=>.ret (.bool (decide (b<=a)))
  | _=>.fail
 | .str a,.str b=>match op with
  | .add=>.chk (decide (a.size+b.size<=dz)) (.ret (.str (a++b)))
  | .eql=>.ret (.bool (decide (a=b)))
  | .neq=>.ret (.bool (!decide (a=b)))
  | .lss=>.ret (.bool (ltB a b))
  | _=>.fail
 | _,_=>.fail
def Nn (k:IntKind) (a b:Int):Int:=k.wrap ((BitVec.ofInt k.bits a &&& BitVec.ofInt k.bits b).toNat:Int)
def orI (k:IntKind) (a b:Int):Int:=k.wrap ((BitVec.ofInt k.bits a ||| BitVec.ofInt k.bits b).toNat:Int)
def Np (k:IntKind) (a b:Int):Int:=k.wrap ((BitVec.ofInt k.bits a ^^^ BitVec.ofInt k.bits b).toNat:Int)
def Nq (k:IntKind) (a b:Int):Int:=a.fdiv (2 ^ min b.toNat k.bits)
def Mb (op:BinOp) (x y:Val):M Val :=
 match op with
 | .and=>match x,y with
  | .int k a,.int k' b=>.chk (decide (k=k')) (.ret (.int k (Nn k a b)))
  | _,_=>.fail
 | .or=>match x,y with
  | .int k a,.int k' b=>.chk (decide (k=k')) (.ret (.int k (orI k a b)))
  | _,_=>.fail
 | .xor=>match x,y with
  | .int k a,.int k' b=>.chk (decide (k=k')) (.ret (.int k (Np k a b)))
  | _,_=>.fail
 | .shr=>match x,y with
  | .int k a,.int _ b=>.chk (decide (0<=b)) (.ret (.int k (Nq k a b)))
  | _,_=>.fail
 | op=>Ma op x y
def dl:List CT->List Val->List Val->M Bool
 | [],[],[]=>.ret true
 | .int _::c,.int k a::r,.int k' b::r'=>.chk (decide (k=k')) ((dl c r r').bind fun t=>.ret (decide (a=b)&&t))
 | .bool::c,.bool a::r,.bool b::r'=>(dl c r r').bind fun t=>.ret ((a==b)&&t)
 | .str::c,.str a::r,.str b::r'=>(dl c r r').bind fun t=>.ret (decide (a=b)&&t)
 | _,_,_=>.fail
def ej (rows:ak):ByteArray:=⟨(rows.map fun r=>UInt8.ofNat (nth r 0).I.toNat).toArray⟩
def th (s:ByteArray):ak:=s.toList.map fun b=>[.int b.toNat]
def pn:Val->M (Option TypeId×ak)
 | .im e rows=>.ret (some e,rows)
 | .nils=>.ret (none,[])
 | .hd j=>.get j fun
  | some (.arr e _ _ rows none)=>.ret (some e,rows)
  | _=>.fail
 | .hn j ver i c e=>.get j fun
  | some (.arr _ .deep ver' rs none)=>.chk (C2 ver ver') (.ret (some e,(nth (rowAt rs i) c).L))
  | _=>.fail
 | _=>.fail
def vt (flds:List (Nat×TypeId)):List (Nat×Val)->List Val->Option (List Val)
 | [],cs=>some cs
 | (i,v)::r,cs=>match flds[i]? with
  | none=>none
  | some (off,t)=>match H.ty t with
   | none=>none
   | some ti=>bif okC v&&(C2 (len (dg v)) (len ti.lay)&&J1 (off+len ti.lay) (len cs)) then vt flds r (over off (dg v) cs) else none
def iq (sh:Bool) (lay:List CT):List (Nat×Val)->ak->M (ak×Bool×List (Nat×Option Obj))
 | [],rows=>.ret (rows,true,[])
 | (i,v)::r,rows=>.chk (okC v&&E7 i (len rows)) <| (kh sh lay (dg v)).bind fun x=>(iq sh lay r (over i [x.1] rows)).bind fun y=>.chk (ml x.2.2 y.2.2) (.ret (y.1,x.2.1&&y.2.1,x.2.2++y.2.2))
def po {α:Type}:Nat->α->List α
 | 0,_=>[]
 | n+1,x=>x::po n x
def ir:Val->M Int
 | .int _ n=>.ret n
 | _=>.fail
def kj:Option Val->M (Option Int)
 | none=>.ret none
 | some (.int _ n)=>.ret (some n)
 | _=>.fail
def Mc (sh:Bool) (e:TypeId) (fl by_:Bool):Val->M (ak×Bool×List (Nat×Option Obj))
 | .im e' rows=>.chk (C2 e e') (.ret (rows,fl,[]))
 | .nils=>.ret ([],true,[])
 | .hd k=>.get k fun
  | some (.arr e' lv ver rows none)=>.chk (C2 e e') <|
   bif fl then .ret (rows,true,[])
   else bif sh then .ret (rows,false,[(k,some (.arr e' .ap ver rows none))])
   else .ret (rows,decide (lv=.deep),[(k,none)])
  | _=>.fail
 | .hn j ver i c e'=>.get j fun
  | some (.arr _ .deep ver' rs none)=>.chk (C2 e e'&&C2 ver ver'&&fl) (.ret ((nth (rowAt rs i) c).L,true,[]))
  | _=>.fail
 | .str s=>.chk by_ (.ret (th s,true,[]))
 | _=>.fail
def kf:Val->Bool | .str _=>true | _=>false
def Cg (o:Oper):Nat:=match o.dst with
 | some d=>d
 | none=>match o.op with
  | .store _ _ (.tmp t)=>5000+t
  | _=>9999
def df (m:M Val):M Eff:=m.bind fun v=>.ret ⟨v,[],[]⟩
def pb (id:Nat) (v:Val) (ob:Obj) (ups:List (Nat×Option Obj)):M Eff:=.ret ⟨v,ups++[(id,some ob)],[id]⟩
def gh (own:Bool) (lv:Lv):Lv:=bif own then lv else lv.min .top
def yc:Val->Val->Val->M Val
 | .bool t,a,b=>Nm t a b
 | _,_,_=>.fail
def tj (id:Nat) (e:TypeId):M Eff:=match H.ty e with
 | some ti=>pb id (.bp id 0) (.box (ti.lay.map vn)) []
 | none=>.fail
def Ch (id:Nat) (e:TypeId) (v:Val):M Eff:=match H.ty e with
 | some ti=>.chk (okC v&&C2 (len (dg v)) (len ti.lay)) (pb id (.bp id 0) (.box (dg v)) [])
 | none=>.fail
def tk (t:TypeId) (ps:List (Nat×Val)):M Val:=match H.ty t with
 | some ti=>.chk ti.agg (match vt H ti.flds ps (ti.lay.map vn) with
  | some cs=>.ret (.agg cs)
  | none=>.fail)
 | none=>.fail
def lg {α:Type} (t:TypeId) (k:TypeId->TI->M α):M α:=match H.ty t with
 | some ⟨false,[.sl e],_⟩=>match H.ty e with
  | some ti=>.chk (fj ti.lay) (k e ti)
  | none=>.fail
 | _=>.fail
def lh (sh:Bool) (id:Nat) (t:TypeId) (n:Nat) (ps:List (Nat×Val)):M Eff:=lg H t fun e ti =>
 .chk (J1 (n*len ti.lay) 1000) <| (iq sh ti.lay ps (po n (ti.lay.map la))).bind fun x=>pb id (.hd id) (.arr e (gh x.2.1 .deep) 0 x.1 none) x.2.2
def nn (id:Nat) (t:TypeId) (l c:Val):M Eff:=lg H t fun e ti =>
 (ir l).bind fun l=>(ir c).bind fun c=>.chk (decide (l=c)&&(decide (0<=l)&&decide (l<=M63))) <|
   pb id (.hd id) (.arr e .deep 0 (po l.toNat (ti.lay.map la)) none) []
def pc {α:Type} (n off:Nat) (lay:List CT) (k:List CT->M α):M α:=.chk (J1 (off+n) (len lay)) (k (iw n (iy off lay)))
def pp (t:TypeId) (x:Val):M Val:=match H.ty t with
 | some ti=>match x with
  | .bp j off=>.get j fun
   | some (.box cs)=>.chk (J1 (off+len ti.lay) (len cs)) (.ret (mkV ti.agg (iw (len ti.lay) (iy off cs))))
   | _=>.fail
  | .ip lay row off=>pc (len ti.lay) off lay fun l=>.ret (mkV ti.agg (gx l row off))
  | .ep j i off=>.get j fun
   | some (.arr e .deep ver rows none)=>match H.ty e with
    | some te=>pc (len ti.lay) off te.lay fun l=>.ret (mkV ti.agg (gj j ver i l (rowAt rows i) off))
    | none=>.fail
   | some (.arr e _ _ rows none)=>match H.ty e with
    | some te=>pc (len ti.lay) off te.lay fun l=>.ret (mkV ti.agg (gx l (rowAt rows i) off))
    | none=>.fail
   | _=>.fail
  | _=>.fail
 | none=>.fail
def bb:List CT->List D->Nat->Nat->List Val×List (Nat×Option Obj)
 | [],_,_,_=>([],[])
 | .sl e::r,row,o,id=>(.hd id::(bb r row (o+1) id.succ).1,(id,some (.arr e .deep 0 (nth row o).L none))::(bb r row (o+1) id.succ).2)
 | .int k::r,row,o,id=>(.int k (nth row o).I::(bb r row (o+1) id).1,(bb r row (o+1) id).2)
 | .bool::r,row,o,id=>(.bool (nth row o).B::(bb r row (o+1) id).1,(bb r row (o+1) id).2)
 | .str::r,row,o,id=>(.str (nth row o).S::(bb r row (o+1) id).1,(bb r row (o+1) id).2)
 | .ptr::r,row,o,id=>(.dead::(bb r row (o+1) id).1,(bb r row (o+1) id).2)
 | .fn::r,row,o,id=>(.dead::(bb r row (o+1) id).1,(bb r row (o+1) id).2)
 | .err::r,row,o,id=>(.dead::(bb r row (o+1) id).1,(bb r row (o+1) id).2)
def Oi (l:List CT):Bool:=l.all fun
 | .sl e=>(match H.ty e with | some ti=>E7 0 (len ti.lay) | none=>false)
 | _=>true
def tm (id:Nat) (t:TypeId) (x:Val):M Eff:=match H.ty t with
 | some ti=>match x with
  | .ep j i off=>.get j fun
   | some (.arr e .deep ver rows none)=>match H.ty e with
    | some te=>pc (len ti.lay) off te.lay fun l=>.chk (Oi H l&&E7 i (len rows)) (.ret ⟨mkV ti.agg (bb l (rowAt rows i) off id).1,(j,none)::(bb l (rowAt rows i) off id).2,(bb l (rowAt rows i) off id).2.map (·.1)⟩)
    | none=>.fail
   | _=>.fail
  | _=>.fail
 | none=>.fail
def gk (sh:Bool) (t:TypeId) (x v:Val):M Eff:=match H.ty t with
 | some ti=>.chk (okC v&&C2 (len (dg v)) (len ti.lay)) <| match x with
  | .bp j off=>.get j fun
   | some (.box cs)=>.chk (J1 (off+len ti.lay) (len cs)) (.ret ⟨.dead,[(j,some (.box (over off (dg v) cs)))],[]⟩)
   | _=>.fail
  | .ep j i off=>.get j fun
   | some (.arr e lv ver rows none)=>match H.ty e with
    | some te=>pc (len ti.lay) off te.lay fun l=>.chk (!decide (lv=.ap)) <|
     (kh sh l (dg v)).bind fun x=>.chk (ml x.2.2 [(j,none)]) <|
       .ret ⟨.dead,x.2.2++[(j,some (.arr e (gh x.2.1 lv) (bif flat l then ver else ver.succ) (over i [over off x.1 (rowAt rows i)] rows) none))],[]⟩
    | none=>.fail
   | _=>.fail
  | _=>.fail
 | none=>.fail
def tn (sh:Bool) (t:TypeId) (x v:Val):M Eff:=match x with
 | .ep j i off=>.get j fun
  | some (.arr e .deep ver rows (some (i',c)))=>.chk ((match H.ty e with | some te=>E7 off (len te.lay) | none=>false)&&(C2 off c&&(C2 (len (dg v)) 1&&(C2 i i'&&E7 i rows.length)))) <|
   (M.over (j,some (.arr e .deep ver rows none)) (j,some (.arr e .deep ver rows none)) (gk H sh t x v)).bind fun eff =>
     .ret ⟨eff.v,(j,some (.arr e .deep ver rows none))::eff.ups,eff.nw⟩
  | _=>gk H sh t x v
 | x=>gk H sh t x v
def pq (sh:Bool) (t:TypeId) (j ver i c:Nat) (e:TypeId) (k off:Nat) (v:Val):M Eff:=match H.ty t with
 | some ti=>.chk (okC v&&C2 (len (dg v)) (len ti.lay)) <| .get j fun
  | some (.arr e0 .deep ver' rows none)=>match H.ty e0 with
   | some te0=>match te0.lay[c]? with
    | some (.sl e')=>match H.ty e with
     | some te=>.chk (C2 e e'&&(C2 ver ver'&&E7 0 (len te.lay))) <|
      pc (len ti.lay) off te.lay fun l=>.chk (flat l) <| (kh sh l (dg v)).bind fun x=>match x.2.2 with
       | []=>.ret ⟨.dead,[(j,some (.arr e0 .deep ver (over i [over c [.sl (over k [over off x.1 (rowAt (nth (rowAt rows i) c).L k)] (nth (rowAt rows i) c).L)] (rowAt rows i)] rows) none))],[]⟩
       | _=>.fail
     | none=>.fail
    | _=>.fail
   | none=>.fail
  | _=>.fail
 | none=>.fail
def pr (sh:Bool) (t:TypeId) (x v:Val):M Eff:=match x with
 | .en j ver i c e k off=>pq H sh t j ver i c e k off v
 | x=>tn H sh t x v
def Ci (op:BinOp) (t:TypeId) (y:Operand):Val->Val->M Val
 | .agg a,.agg b=>match H.ty t with
  | some ti=>.chk (ti.agg&&H.eqt t) <| match op with
   | .eql=>(dl ti.lay a b).bind fun t=>.ret (.bool t)
   | .neq=>(dl ti.lay a b).bind fun t=>.ret (.bool !t)
   | _=>.fail
  | none=>.fail
 | .bool a,.bool b=>match H.ty t,op with
  | some ⟨false,[.bool],_⟩,.eql=>.ret (.bool (a==b))
  | some ⟨false,[.bool],_⟩,.neq=>.ret (.bool (!(a==b)))
  | _,_=>.fail
 | .im _ rows,.nils=>match H.ty t,y,op with
  | some ⟨false,[.sl _],_⟩,.const (.slice none 0 0),.eql=>.alt (C2 rows.length 0) (.ret .ub) (.ret (.bool false))
  | some ⟨false,[.sl _],_⟩,.const (.slice none 0 0),.neq=>.alt (C2 rows.length 0) (.ret .ub) (.ret (.bool true))
  | _,_,_=>.fail
 | .nils,.nils=>match H.ty t,y,op with
  | some ⟨false,[.sl _],_⟩,.const (.slice none 0 0),.eql=>.ret (.bool true)
  | some ⟨false,[.sl _],_⟩,.const (.slice none 0 0),.neq=>.ret (.bool false)
  | _,_,_=>.fail
 | .err a,.err false=>match H.ty t,y,op with
  | some ⟨false,[.err],_⟩,.const .nilIface,.eql=>.ret (.bool !a)
  | some ⟨false,[.err],_⟩,.const .nilIface,.neq=>.ret (.bool a)
  | _,_,_=>.fail
 | a,b=>Mb op a b
def Md:UnOp->Val->M Val
 | .not,.bool b=>.ret (.bool !b)
 | .neg,.int k n=>.ret (.int k (k.wrap (0-n)))
 | _,_=>.fail
def vu (e:TypeId):Bool:=match H.ty e with
 | some ⟨false,[.int .u8],_⟩=>true
 | _=>false
def tp (s:TypeId):Bool:=match H.ty s with
 | some ⟨false,[.sl e],_⟩=>match H.ty e with
  | some ⟨false,[.int .u8],_⟩=>true
  | _=>false
 | _=>false
def mm (s d:TypeId) (v:Val):M Val:=match H.ty d with
 | some ⟨false,[.int k],_⟩=>match v with
  | .int _ n=>.ret (.int k (k.wrap n))
  | _=>.fail
 | some ⟨false,[.str],_⟩=>match v with
  | .str b=>.ret (.str b)
  | v=>.chk (tp H s) ((pn v).bind fun r=>.chk (match r.1 with | some e=>vu H e | none=>true) (.ret (.str (ej r.2))))
 | _=>.fail
def jn (t:TypeId) (v:Val) (lo hi:Option Val):M Eff:=match v with
 | .str s=>match H.ty t with
  | some ⟨false,[.str],_⟩=>df ((kj lo).bind fun lo=>(kj hi).bind fun hi =>
   .chk (decide (0<=lo.getD 0)&&(decide (lo.getD 0<=hi.getD s.size)&&decide (hi.getD s.size<=s.size))) (.ret (.str (s.extract (lo.getD 0).toNat (hi.getD s.size).toNat))))
  | _=>.fail
 | v=>lg H t fun e te=>(kj lo).bind fun lo=>(kj hi).bind fun hi=>match v with
  | .im e' rows=>.chk (C2 e e'&&(decide (0<=lo.getD 0)&&(decide (lo.getD 0<=hi.getD (rows.length:Nat))&&decide (hi.getD (rows.length:Nat)<=(rows.length:Nat))))) <|
   .ret ⟨.im e ((rows.take (hi.getD (rows.length:Nat)).toNat).drop (lo.getD 0).toNat),[],[]⟩
  | .hd j=>.get j fun
   | some (.arr e' lv ver rows none)=>.chk (C2 e e'&&(decide (0<=lo.getD 0)&&(decide (lo.getD 0<=hi.getD (rows.length:Nat))&&decide (hi.getD (rows.length:Nat)<=(rows.length:Nat))))) <|
    .ret ⟨.im e ((rows.take (hi.getD (rows.length:Nat)).toNat).drop (lo.getD 0).toNat),[(j,some (.arr e .ap ver rows none))],[]⟩
   | _=>.fail
  | _=>.fail
def pt (id:Nat) (t:TypeId) (v hi mx:Val):M Eff:=lg H t fun e te=>(ir hi).bind fun a=>(ir mx).bind fun b =>
 .chk (decide (a=0)&&decide (b=0)) <| (pn v).bind fun _=>pb id (.hd id) (.arr e .deep 0 [] none) []
def li (id:Nat) (t:TypeId) (v hi:Val):M Eff:=lg H t fun e te=>(ir hi).bind fun n=>match v with
 | .hd j=>.get j fun
  | some (.arr e' lv _ rows none)=>.chk (C2 e e'&&(!(Lv.le lv .ap)&&(decide (0<=n)&&decide (n<=(rows.length:Nat))))) <|
   pb id (.hd id) (.arr e lv 0 (rows.take n.toNat) none) [(j,none)]
  | _=>.fail
 | _=>.fail
def iz (t:TypeId) (x:Val) (f:Nat):M Val:=match H.ty t with
 | some ti=>match ti.flds[f]? with
  | some (n,_)=>.chk ti.agg <| match x with
   | .bp j off=>.ret (.bp j (off+n))
   | .ip lay row off=>.ret (.ip lay row (off+n))
   | .ep j i off=>.ret (.ep j i (off+n))
   | .en j ver i c e k off=>.ret (.en j ver i c e k (off+n))
   | _=>.fail
  | none=>.fail
 | none=>.fail
def tq (t:TypeId) (x:Val) (f:Nat):M Val:=match H.ty t with
 | some ti=>match ti.flds[f]? with
  | some (n,t')=>.chk ti.agg <| match H.ty t' with
   | some tf=>match x with
    | .agg cs=>.chk (J1 (n+len tf.lay) (len cs)) (.ret (mkV tf.agg (iw (len tf.lay) (iy n cs))))
    | _=>.fail
   | none=>.fail
  | none=>.fail
 | none=>.fail
def np (t:TypeId) (x i:Val):M Val:=lg H t fun e te=>(ir i).bind fun n=>match x with
 | .im e' rows=>.chk (C2 e' e&&inb n rows.length) (.ret (.ip te.lay (rowAt rows n.toNat) 0))
 | .hd j=>.get j fun
  | some (.arr e' _ _ rows _)=>.chk (C2 e' e&&inb n rows.length) (.ret (.ep j n.toNat 0))
  | _=>.fail
 | .hn j ver i c e'=>.get j fun
  | some (.arr _ .deep ver' rs none)=>.chk (C2 e' e&&(C2 ver ver'&&inb n (nth (rowAt rs i) c).L.length)) (.ret (.en j ver i c e' n.toNat 0))
  | _=>.fail
 | _=>.fail
def Hg (t:TypeId):Bool:=match H.ty t with
 | some ⟨false,[.str],_⟩=>true
 | _=>false
def tu (x i:Val):M Val:=(ir i).bind fun n=>match x with
 | .str s=>.chk (inb n s.size) (.ret (.int .u8 (s.get! n.toNat).toNat))
 | _=>.fail
def mn (x:Val) (i:Nat):M Val:=match x with
 | .tup vs=>match vs[i]? with
  | some v=>.ret v
  | none=>.fail
 | _=>.fail
def kk:Val->M Val
 | .bp j off=>.ret (.bp j off)
 | .fn f cs=>.ret (.fn f cs)
 | _=>.fail
def Cj:Val->M Val
 | .str s=>.ret (.int .i64 s.size)
 | v=>(pn v).bind fun r=>.ret (.int .i64 (r.2.length:Nat))
def lj (mx:Bool):Val->Val->M Val
 | .int k a,.int k' b=>.chk (decide (k=k')) (.ret (.int k (bif (bif mx then decide (b > a) else decide (b<a)) then b else a)))
 | _,_=>.fail
def Ak (t:TypeId) (x:Val):Bool:=match H.ty t with
 | some ⟨false,[.sl _],_⟩=>!kf x
 | some ⟨false,[.str],_⟩=>kf x
 | _=>false
def lp (sh:Bool) (id:Nat) (t t2:TypeId) (s x:Val):M Eff:=lg H t fun e te=>.chk (Ak H t2 x) <|
 (Mc sh e (flat te.lay) (vu H e) x).bind fun y=>match s with
   | .nils=>.chk (J1 y.1.length M63) (pb id (.hd id) (.arr e (gh y.2.1 .deep) 0 y.1 none) y.2.2)
   | .hd j=>.get j fun
    | some (.arr e' lv _ rows none)=>.chk (C2 e e'&&(ml y.2.2 [(j,none)]&&J1 (rows.length+y.1.length) M63)) <|
     pb id (.hd id) (.arr e (gh y.2.1 lv) 0 (rows++y.1) none) (y.2.2++[(j,none)])
    | _=>.fail
   | _=>.fail
def yd (sh:Bool) (id:Nat) (t t2:TypeId) (j ver ri c:Nat) (e:TypeId) (x:Val):M Eff :=
 .get j fun
 | some (.arr e0 .deep ver' rows none)=>match H.ty e0 with
  | some te=>match te.lay[c]? with
   | some (.sl e')=>.chk ((match H.ty e with | some ti=>E7 0 (len ti.lay) | none=>false)&&(C2 e e'&&(C2 ver ver'&&E7 ri rows.length))) <|
    (M.over (j,some (.arr e0 .deep ver.succ (over ri [over c [.sl []] (rowAt rows ri)] rows) (some (ri,c)))) (id+63,some (.arr e .deep 0 (nth (rowAt rows ri) c).L none)) (lp H sh id t t2 (.hd (id+63)) x)).bind fun eff=>.chk (!dm eff.nw (id+63)) <|
      .ret ⟨eff.v,(j,some (.arr e0 .deep ver.succ (over ri [over c [.sl []] (rowAt rows ri)] rows) (some (ri,c))))::(id+63,some (.arr e .deep 0 (nth (rowAt rows ri) c).L none))::eff.ups,(id+63)::eff.nw⟩
   | _=>.fail
  | none=>.fail
 | _=>.fail
def Ck (sh:Bool) (id:Nat) (t t2:TypeId) (s x:Val):M Eff:=match s with
 | .hn j ver ri c e=>yd H sh id t t2 j ver ri c e x
 | s=>lp H sh id t t2 s x
def opM (key:Key) (ρ:Operand->Val) (o:Oper):M Eff :=
 match o.op with
 | .move x=>df (.ret (ρ x))
 | .assign x=>df (.ret (ρ x))
 | .pick c a b=>df (yc (ρ c) (ρ a) (ρ b))
 | .alloc e=>tj H (aw o.dst 0) e
 | .box e x=>Ch H (aw o.dst 0) e (ρ x)
 | .build t ps=>df (tk H t (ps.toList.map fun p=>(p.1,ρ p.2)))
 | .buildSlice t n ps=>lh H (dm (H.share key) (Cg o)) (aw o.dst 0) t n (ps.toList.map fun p=>(p.1,ρ p.2))
 | .makeSlice t l c=>nn H (aw o.dst 0) t (ρ l) (ρ c)
 | .load t x=>bif dm (H.share key) (7000+(o.dst.getD 0)) then tm H (aw o.dst 0) t (ρ x) else df (pp H t (ρ x))
 | .store t x v=>pr H (dm (H.share key) (Cg o)) t (ρ x) (ρ v)
 | .nilCheck x=>df (kk (ρ x))
 | .binOp op t x y _=>df (Ci H op t y (ρ x) (ρ y))
 | .unOp op _ x=>df (Md op (ρ x))
 | .convert s d x=>df (.chk (H.ty s).isSome (mm H s d (ρ x)))
 | .makeFunc (.func f) first caps=>.chk first.isEmpty (df (.ret (.fn f (caps.toList.map ρ))))
 | .slice t x none (some hi) none=>bif dm (H.share key) (8000+(o.dst.getD 0)) then li H (aw o.dst 0) t (ρ x) (ρ hi) else jn H t (ρ x) none (some (ρ hi))
 | .slice t x lo hi none=>jn H t (ρ x) (lo.map ρ) (hi.map ρ)
 | .slice t x none (some hi) (some mx)=>pt H (aw o.dst 0) t (ρ x) (ρ hi) (ρ mx)
 | .fieldAddr t x f=>df (iz H t (ρ x) f)
 | .field t x f=>df (tq H t (ρ x) f)
 | .indexAddr t x i=>df (np H t (ρ x) (ρ i))
 | .index t x i=>df (.chk (Hg H t) (tu (ρ x) (ρ i)))
 | .extract x i=>df (mn (ρ x) i)
 | .call c=>match c.callee with
  | .value f=>match ρ f with
   | .fn g caps=>Cf H key o.dst g (c.args.toList.map ρ++caps)
   | _=>.fail
  | .builtin .len=>match c.args.toList.map ρ,c.argTypes.toList with
   | [v],[t]=>df (.chk (Ak H t v) (Cj v))
   | _,_=>.fail
  | .builtin .max=>match c.args.toList.map ρ with
   | [a,b]=>df (lj true a b)
   | _=>.fail
  | .builtin .min=>match c.args.toList.map ρ with
   | [a,b]=>df (lj false a b)
   | _=>.fail
  | .builtin .append=>match c.args.toList.map ρ,c.argTypes.toList with
   | [s,x],[t,t2]=>Ck H (dm (H.share key) (Cg o)) (aw o.dst 0) t t2 s x
   | _,_=>.fail
  | _=>.fail
 | _=>.fail
def cd {α:Type} (f:Nat->α) (k:Nat) (x:α):Nat->α:=fun i=>bif C2 i k then x else f i
def St.put (st:St) (dst:Option Tmp) (v:Val):St :=
 match dst with
 | some d=>{ st with t:=cd st.t d v }
 | none=>st
def St.mark (st:St):List Nat->St
 | []=>st
 | j::r=>St.mark { st with u:=cd st.u j true } r
def St.upd (st:St):List (Nat×Option Obj)->St
 | []=>st
 | (j,ob)::r=>St.upd { st with o:=cd st.o j ob } r
open Classical in
noncomputable def tv (x y:R):R:=if x=y then x else none
theorem vv {x y:R} {r:Nat×List D} (h:tv x y=some r):x=some r/\y=some r:=by
 unfold tv at h;split at h
 · rename_i e; exact ⟨h,e▸h⟩
 · simp at h
theorem Al (x:R):tv x x=x:=by simp [tv]
variable (call:Key->List D->R)
def ex {α:Type}:M α->St->List Nat->(α->List Nat->R)->R
 | .ret a,_,rd,k=>k a rd
 | .fail,_,_,_=>none
 | .chk b m,st,rd,k=>bif b then ex m st rd k else none
 | .alt b m n,st,rd,k=>bif b then ex m st rd k else ex n st rd k
 | .get j f,st,rd,k=>ex (f (st.o j)) st (j::rd) k
 | .ask key ls f,st,rd,k=>(call key ls).bind fun r=>ex (f r) st rd k
def Lk {β:Sort _} (v:Val) (k:Val->β):β :=
 match v with
 | .int a b=>k (.int a b) | .bool a=>k (.bool a) | .str a=>k (.str a) | .im a b=>k (.im a b) | .nils=>k .nils | .hd j=>k (.hd j)
 | .hn a b c d e=>k (.hn a b c d e) | .pe a b c d=>k (.pe a b c d) | .bp a b=>k (.bp a b) | .bq a b=>k (.bq a b) | .ip a b c=>k (.ip a b c) | .ep a b c=>k (.ep a b c)
 | .en a b c d e f g=>k (.en a b c d e f g) | .nilp=>k .nilp | .fn a b=>k (.fn a b) | .agg a=>k (.agg a) | .tup a=>k (.tup a) | .err a=>k (.err a) | .ub=>k .ub | .und=>k .und | .dead=>k .dead
structure Fp where
 ix:Nat
 rd:List Nat
 wr:List Nat
def apart (ops:Array Oper) (bef:Nat) (o:Oper) (fp:Fp):List Fp->Bool
 | []=>o.after.toList.all fun e=>!Region.binds .any e||E7 e.on fp.ix
 | p::r=>(bef.testBit p.ix||(match ops[p.ix]? with
  | some o'=>Oper.apart ops o' o&&(p.wr.all fun j=>!dm fp.rd j&&!dm fp.wr j)&&fp.wr.all fun j=>!dm p.rd j
  | none=>false))&&apart ops bef o fp r
def cm (key:Key) (draw:Bool) (ops:Array Oper) (bef:Array Nat):List Oper->Nat->List Fp->St->(St->R)->R
 | [],_,_,st,k=>k st
 | o::r,n,fps,st,k =>
  let go (st:St):R:=ex call (opM H key (ev st) o) st [] fun eff rd =>
   let wr:=eff.ups.map (·.1)
   let fp:Fp:=⟨n,rd,wr⟩
   bif (!draw||apart ops (bef.getD n 0) o fp fps)&&((match o.dst with | some d=>E7 d st.n | none=>true)&&dw eff.nw&&eff.nw.all fun j=>!st.u j) then
    Lk eff.v fun v=>cm key draw ops bef r n.succ (bif draw then fp::fps else []) (((st.upd eff.ups).mark eff.nw).put o.dst v) k
   else none
  match o.guard with
  | none=>go st
  | some (g,want)=>match (ops[g]?).bind (·.dst) with
   | none=>none
   | some tg =>
    let skip (st:St):R:=bif !draw||apart ops (bef.getD n 0) o ⟨n,[],[]⟩ fps then cm key draw ops bef r n.succ (bif draw then ⟨n,[],[]⟩::fps else []) (st.put o.dst .und) k else none
    match st.t tg with
    | .und=>skip st
    | .bool b =>
     bif b then (let st1:=st.put (some tg) (.bool true); bif want then go st1 else skip st1)
     else (let st1:=st.put (some tg) (.bool false); bif want then skip st1 else go st1)
    | _=>none
def mo (n:Nat):St:=⟨n,fun _=>.dead,fun _=>none,fun j=>E7 j 64⟩
def ja:List (Nat×Val)->St->St
 | [],st=>st
 | (t,v)::r,st=>ja r (st.put (some t) v)
def mq:List (Nat×Obj)->St->St
 | [],st=>st
 | (j,ob)::r,st=>mq r { st with o:=cd st.o j (some ob) }
def eo (nt:Nat) (vals:List (Nat×Sh)) (objs:List (Nat×OSh)) (ls:List D):St :=
 let vs:=ar (fun c=>c) ls (vals.map (·.2)) 0
 mq (unO (fun c=>c) (fun _=>0) ls objs vs.2) (ja ((vals.map (·.1)).zip vs.1) (mo nt))
def Ll (objs:List (Nat×OSh)):List (Nat×Tgt):=objs.filterMap fun p=>bif E7 p.1 16 then some (p.1,.obj p.1) else none
def Hh (sg:List (Nat×Tgt)):Bool:=sg.all fun p=>J1 16 p.1||(match p.2 with | .obj j=>C2 j p.1 | .new=>false)
def Am (vals:List (Nat×Sh)) (objs:List (Nat×OSh)) (st:St):M (List D) :=
 (pa H (vals.map (·.2)) (vals.map fun p=>st.t p.1) ⟨Ll objs,[]⟩).bind fun x=>(flO H objs x.2).bind fun y=>.chk (y.2.ok objs&&Hh y.2.sg) (.ret (x.1++y.1))
def ekB:EK->Exit->Bool
 | .nrm,.normal=>true
 | .ext i,.exit j=>C2 i j
 | .ret,.ret=>true
 | _,_=>false
def ekE:EK->Exit
 | .nrm=>.normal
 | .ext i=>.exit i
 | .ret=>.ret
def ea:List XS->Nat->Exit->St->R
 | [],_,_,_=>none
 | x::r,n,e,st=>bif ekB x.e e then ex call (Am H x.vals x.objs st) st [] fun ls _=>some (n,ls) else ea r n.succ e st
def cn (nt:Nat) (r:Nat×List D) (k:Exit->St->R):List XS->Nat->R
 | [],_=>none
 | [x],n=>bif C2 r.1 n then k (ekE x.e) (eo nt x.vals x.objs r.2) else none
 | x::y::xs,n=>bif C2 r.1 n then k (ekE x.e) (eo nt x.vals x.objs r.2) else cn nt r k (y::xs) n.succ
def gy (key:Key) (i:KI) (st:St) (k:Exit->St->R):R :=
 ex call (Am H i.pars i.objs st) st [] fun ls _=>(call key ls).bind fun r=>cn st.n r k i.xs 0
noncomputable def bx (f v:Nat):Code->St->(Exit->St->R)->R
 | .skip,st,k=>k .normal st
 | .seq a b,st,k=>bx f v a st fun e st'=>match e with
  | .normal=>bx f v b st' k
  | e=>k e st'
 | .cond (.tmp t) a b,st,k=>match H.ki ⟨f,v,1000+t⟩ with
  | some i=>gy H call ⟨f,v,1000+t⟩ i st k
  | none=>match st.t t with
   | .bool x=>bif x then bx f v a (st.put (some t) (.bool true)) k else bx f v b (st.put (some t) (.bool false)) k
   | .ub=>tv (bx f v a (st.put (some t) (.bool true)) k) (bx f v b (st.put (some t) (.bool false)) k)
   | _=>none
 | .cond c a b,st,k=>match ev st c with
  | .bool x=>bif x then bx f v a st k else bx f v b st k
  | _=>none
 | .block id body,st,k=>match H.ki ⟨f,v,id+1⟩ with
  | some i=>gy H call ⟨f,v,id+1⟩ i st k
  | none=>bx f v body st fun e st'=>match e with
   | .exit id'=>bif C2 id' id then k .normal st' else k (.exit id') st'
   | e=>k e st'
 | .region _ ops draw,st,k=>cm H call ⟨f,v,0⟩ draw ops (bif draw then Region.before ops else #[]) ops.toList 0 [] st fun st'=>k .normal st'
 | .scope b,st,k=>bx f v b st fun e st'=>match e with
  | .goto _=>none
  | e=>k e st'
 | .exit id,st,k=>k (.exit id) st
 | .ret,st,k=>k .ret st
 | _,_,_=>none
def findBlock (id:Nat):Code->Option Code
 | .seq a b=>match findBlock id a with | some c=>some c | none=>findBlock id b
 | .cond _ a b=>match findBlock id a with | some c=>some c | none=>findBlock id b
 | .block i b=>bif C2 i id then some b else findBlock id b
 | .loop b=>findBlock id b
 | .scope b=>findBlock id b
 | _=>none
def findCond (t:Nat):Code->Option (Code×Code)
 | .seq a b=>match findCond t a with | some c=>some c | none=>findCond t b
 | .cond (.tmp t') a b=>bif C2 t t' then some (a,b) else match findCond t a with | some c=>some c | none=>findCond t b
 | .cond _ a b=>match findCond t a with | some c=>some c | none=>findCond t b
 | .block _ b=>findCond t b
 | .loop b=>findCond t b
 | .scope b=>findCond t b
 | _=>none
def tw (st:St):List ResultVar->M (List Val)
 | []=>.ret []
 | .tmp t::r=>(tw st r).bind fun vs=>.ret (st.t t::vs)
 | .cell a t::r=>match st.t a,H.ty t with
  | .bp j off,some ti=>.get j fun
   | some (.box cs)=>.chk (J1 (off+len ti.lay) (len cs)) ((tw st r).bind fun vs=>.ret (mkV ti.agg (iw (len ti.lay) (iy off cs))::vs))
   | _=>.fail
  | _,_=>.fail
def Cl (vs:List Val) (x:XS):M (List D) :=
 (pa H (x.vals.map (·.2)) vs ⟨Ll x.objs,[]⟩).bind fun a=>(flO H x.objs a.2).bind fun b=>.chk (b.2.ok x.objs&&Hh b.2.sg) (.ret (a.1++b.1))
mutual
def Oj:Sh->Val->M Bool
 | .int _,.int _ _=>.ret true
 | .bool,.bool _=>.ret true
 | .str,.str _=>.ret true
 | .im _,.im _ _=>.ret true
 | .im _,.nils=>.ret true
 | .im _,.hd j=>.get j fun o=>.ret o.isSome
 | .hd _,.hd j=>.get j fun o=>.ret o.isSome
 | .hd _,.nils=>.ret true
 | .bp _ _,.bp _ _=>.ret true
 | .err,.err _=>.ret true
 | .agg cs,.agg vs=>ze cs vs
 | .dead,_=>.ret true
 | _,_=>.ret false
def ze:List Sh->List Val->M Bool
 | [],[]=>.ret true
 | h::hs,v::vs=>(Oj h v).bind fun b=>bif b then ze hs vs else .ret false
 | _,_=>.ret false
end
def tz (vs:List Val):List XS->Nat->M (Nat×List D)
 | [],_=>.fail
 | [x],n=>(Cl H vs x).bind fun l=>.ret (n,l)
 | x::y::xs,n=>(ze (x.vals.map (·.2)) vs).bind fun b=>bif b then (Cl H vs x).bind fun l=>.ret (n,l) else tz vs (y::xs) n.succ
def ao:Code->List Nat
 | .seq a b=>ao a++ao b
 | .cond _ a b=>ao a++ao b
 | .block i b=>i::ao b
 | .loop b=>ao b
 | .scope b=>ao b
 | _=>[]
def bd:Code->List Nat
 | .seq a b=>bd a++bd b
 | .cond (.tmp t) a b=>t::(bd a++bd b)
 | .cond _ a b=>bd a++bd b
 | .block _ b=>bd b
 | .loop b=>bd b
 | .scope b=>bd b
 | _=>[]
def cnt (x:Nat):List Nat->Nat
 | []=>0
 | y::r=>bif C2 x y then (cnt x r).succ else cnt x r
def fm (f v:Nat) (c:Code):Bool :=
 ((ao c).all fun i=>match H.ki ⟨f,v,i+1⟩ with | none=>true | some _=>J1 i 998&&C2 (cnt i (ao c)) 1) &&
 ((bd c).all fun t=>match H.ki ⟨f,v,1000+t⟩ with | none=>true | some _=>C2 (cnt t (bd c)) 1)
noncomputable def step (P:Program) (key:Key) (ls:List D):R :=
 match H.ext key.f with
 | some g=>g key.v ls
 | none=>match P.funcs[key.f]? with
  | none=>none
  | some fn=>match fn.body with
   | none=>none
   | some c=>bif fm H key.f key.v c then (match H.ki key with
    | none=>none
    | some i=>match key.n with
     | 0=>bif lc (i.pars.map (·.1)) 0&&J1 (len i.pars) fn.ntmps then bx H call key.f key.v c (eo fn.ntmps i.pars i.objs ls) (fun e st=>match e with
      | .normal=>ex call ((tw H st fn.results.toList).bind fun vs=>tz H vs i.xs 0) st [] fun out _=>some out
      | .ret=>ex call ((tw H st fn.results.toList).bind fun vs=>tz H vs i.xs 0) st [] fun out _=>some out
      | _=>none) else none
     | id+1=>bif J1 id 998 then
      (match findBlock id c with
      | some (.loop b)=>bx H call key.f key.v b (eo fn.ntmps i.pars i.objs ls) fun e st=>match e with
       | .normal=>ex call (Am H i.pars i.objs st) st [] fun ls' _=>call key ls'
       | .exit j=>ea H call i.xs 0 (bif C2 j id then .normal else .exit j) st
       | e=>ea H call i.xs 0 e st
      | some b=>bx H call key.f key.v b (eo fn.ntmps i.pars i.objs ls) fun e st=>match e with
       | .exit j=>ea H call i.xs 0 (bif C2 j id then .normal else .exit j) st
       | e=>ea H call i.xs 0 e st
      | none=>none)
      else (match findCond (id-999) c with
       | some (a,b)=>match (eo fn.ntmps i.pars i.objs ls).t (id-999) with
        | .bool x=>bif x then bx H call key.f key.v a (eo fn.ntmps i.pars i.objs ls) (fun e st=>ea H call i.xs 0 e st)
         else bx H call key.f key.v b (eo fn.ntmps i.pars i.objs ls) (fun e st=>ea H call i.xs 0 e st)
        | _=>none
       | none=>none)) else none
end
end Go.Q
end
section
namespace Go.Q
open Go
open Go.RowKit (Below)
abbrev Fz:=Nat->Nat->Prop
def br:Fz:=fun _ _=>True
def fv (w:World) (F:Fz) (b o:Nat) (vs:List Value):Prop :=
 ∀ (j:Nat) (u:Value),vs[j]?=some u->w.cell? ⟨b,o+j,none⟩=some u/\F b (o+j)
structure Cap (w:World) (F:Fz) (A:Option Addr) (n cap wd:Nat) (B:List Nat):Prop where
 le:n<=cap
 room:F=br->(B=[]/\cap=0)\/∃ b o B',A=some ⟨b,o,none⟩/\B=b::B'/\∀ q,q<cap*wd->(w.cell? ⟨b,o+q,none⟩).isSome=true
theorem Fz.nA {F:Fz} {n:Nat} (h:∀ b q,F b q->b<n):F≠br:=fun e=>K0 n (h n 0 (by rw [e]; trivial))
theorem Cap.no {w:World} {F:Fz} {A:Option Addr} {n cap wd:Nat} {B:List Nat} (h:n<=cap) (hn:F≠br):Cap w F A n cap wd B:=⟨h,fun e=>absurd e hn⟩
theorem Cap.mono {w w':World} {F F':Fz} {A:Option Addr} {n cap wd:Nat} {B:List Nat} (h:Cap w F A n cap wd B) (hn:F'=br->F=br)
 (hm:∀ b∈B,∀ q,F b q->F' b q/\w'.cell? ⟨b,q,none⟩=w.cell? ⟨b,q,none⟩):Cap w' F' A n cap wd B :=
 ⟨h.le,fun e=>(h.room (hn e)).imp id fun ⟨b,o,B',h1,h2,h3⟩=>⟨b,o,B',h1,h2,fun q hq=>by
   rw [(hm b (by rw [h2]; exact List.mem_cons_self ..) (o+q) (by rw [hn e]; trivial)).2]; exact h3 q hq⟩⟩
mutual
def RC (H:Tab) (w:World) (F:Fz):D->CT->Value->List Nat->Prop
 | .int n,ct,v,B=>∃ k,ct=.int k/\v=.int k n/\B=[]
 | .bool b,ct,v,B=>ct=.bool/\v=.bool b/\B=[]
 | .str s,ct,v,B=>ct=.str/\v=.string s/\B=[]
 | .sl rows,ct,v,B=>∃ e ti A cap,ct=.sl e/\H.ty e=some ti/\v=.slice A rows.length cap/\Cap w F A rows.length cap ti.lay.length B ∧
  ((rows=[]/\B=[])\/∃ b o vs B',A=some ⟨b,o,none⟩/\B=b::B'/\fv w F b o vs/\af H w F rows ti.lay vs B')
def RL (H:Tab) (w:World) (F:Fz):List D->List CT->List Value->List Nat->Prop
 | [],cts,vs,B=>cts=[]/\vs=[]/\B=[]
 | d::ds,cts,vs,B=>∃ ct cts' u us B1 B2,cts=ct::cts'/\vs=u::us/\B=B1++B2/\RC H w F d ct u B1/\RL H w F ds cts' us B2
def af (H:Tab) (w:World) (F:Fz):List (List D)->List CT->List Value->List Nat->Prop
 | [],lay,vs,B=>vs=[]/\B=[]
 | r::rs,lay,vs,B=>∃ v1 v2 B1 B2,vs=v1++v2/\B=B1++B2/\RL H w F r lay v1 B1/\af H w F rs lay v2 B2
end
theorem fv.mono {w w':World} {F F':Fz} {b o:Nat} {vs:List Value} (h:fv w F b o vs)
 (hc:∀ q,F b q->F' b q/\w'.cell? ⟨b,q,none⟩=w.cell? ⟨b,q,none⟩):fv w' F' b o vs:=by
 intro j u hu;obtain ⟨h1,h2⟩:=h j u hu;obtain ⟨h3,h4⟩:=hc _ h2;exact ⟨h4.trans h1,h3⟩
mutual
theorem RC.mono {H:Tab} {w w':World} {F F':Fz}:∀ (d:D) (ct:CT) (v:Value) (B:List Nat),
 (∀ b∈B,∀ q,F b q->F' b q/\w'.cell? ⟨b,q,none⟩=w.cell? ⟨b,q,none⟩)->RC H w F d ct v B->(hn:F'=br->F=br:=by first | exact fun _=>rfl | exact fun e=>absurd e (Gh.nA _) | assumption | exact fun e=>e)->RC H w' F' d ct v B
 | .int n,ct,v,B,_,h,_=>by simpa only [RC] using h
 | .bool n,ct,v,B,_,h,_=>by simpa only [RC] using h
 | .str n,ct,v,B,_,h,_=>by simpa only [RC] using h
 | .sl rows,ct,v,B,hm,h,hn=>by
  simp only [RC] at h ⊢;obtain ⟨e,ti,A,cap,h1,h2,h3,h4,h5⟩:=h;refine ⟨e,ti,A,cap,h1,h2,h3,h4.mono hn hm,?_⟩;rcases h5 with h5 | ⟨b,o,vs,B',hA,rfl,hl,hr⟩
  · exact .inl h5
  · exact .inr ⟨b,o,vs,B',hA,rfl,hl.mono fun q hq=>hm b (by simp) q hq,af.mono rows ti.lay vs B' (fun b hb=>hm b (by simp [hb])) hr⟩
theorem RL.mono {H:Tab} {w w':World} {F F':Fz}:∀ (ds:List D) (cts:List CT) (vs:List Value) (B:List Nat),
 (∀ b∈B,∀ q,F b q->F' b q/\w'.cell? ⟨b,q,none⟩=w.cell? ⟨b,q,none⟩)->RL H w F ds cts vs B->(hn:F'=br->F=br:=by first | exact fun _=>rfl | exact fun e=>absurd e (Gh.nA _) | assumption | exact fun e=>e)->RL H w' F' ds cts vs B
 | [],cts,vs,B,_,h,_=>by simpa only [RL] using h
 | d::ds,cts,vs,B,hm,h,hn=>by
  simp only [RL] at h ⊢;obtain ⟨ct,cts',u,us,B1,B2,rfl,rfl,rfl,h3,h4⟩:=h;exact ⟨ct,cts',u,us,B1,B2,rfl,rfl,rfl,RC.mono d ct u B1 (fun b hb=>hm b (by simp [hb])) h3,RL.mono ds cts' us B2 (fun b hb=>hm b (by simp [hb])) h4⟩
theorem af.mono {H:Tab} {w w':World} {F F':Fz}:∀ (rs:List (List D)) (lay:List CT) (vs:List Value) (B:List Nat),
 (∀ b∈B,∀ q,F b q->F' b q/\w'.cell? ⟨b,q,none⟩=w.cell? ⟨b,q,none⟩)->af H w F rs lay vs B->(hn:F'=br->F=br:=by first | exact fun _=>rfl | exact fun e=>absurd e (Gh.nA _) | assumption | exact fun e=>e)->af H w' F' rs lay vs B
 | [],lay,vs,B,_,h,_=>by simpa only [af] using h
 | r::rs,lay,vs,B,hm,h,hn=>by
  simp only [af] at h ⊢;obtain ⟨v1,v2,B1,B2,rfl,rfl,h3,h4⟩:=h;exact ⟨v1,v2,B1,B2,rfl,rfl,RL.mono r lay v1 B1 (fun b hb=>hm b (by simp [hb])) h3,af.mono rs lay v2 B2 (fun b hb=>hm b (by simp [hb])) h4⟩
end
theorem RC.one {H:Tab} {w:World} {F:Fz} {d:D} {ct:CT} {v:Value} {B:List Nat} (h:RC H w F d ct v B):v.oneCell'=true:=by
 cases d <;> simp only [RC] at h
 · obtain ⟨k,_,rfl,_⟩:=h; rfl
 · obtain ⟨_,rfl,_⟩:=h; rfl
 · obtain ⟨_,rfl,_⟩:=h; rfl
 · obtain ⟨e,ti,A,cap,_,_,rfl,_⟩:=h; rfl
theorem RL.length {H:Tab} {w:World} {F:Fz}:∀ {ds:List D} {cts:List CT} {vs:List Value} {B:List Nat},RL H w F ds cts vs B->vs.length=cts.length/\ds.length=cts.length
 | [],cts,vs,B,h=>by simp only [RL] at h; simp [h.1,h.2.1]
 | d::ds,cts,vs,B,h=>by
  simp only [RL] at h;obtain ⟨ct,cts',u,us,B1,B2,rfl,rfl,_,_,h4⟩:=h;have:=RL.length h4;simp [this.1,this.2]
theorem RL.one {H:Tab} {w:World} {F:Fz}:∀ {ds:List D} {cts:List CT} {vs:List Value} {B:List Nat},RL H w F ds cts vs B->∀ u∈vs,u.oneCell'=true
 | [],cts,vs,B,h=>by simp only [RL] at h; simp [h.2.1]
 | d::ds,cts,vs,B,h=>by
  simp only [RL] at h;obtain ⟨ct,cts',u,us,B1,B2,rfl,rfl,_,h3,h4⟩:=h;intro x hx;rcases C1.1 hx with rfl | hx
  · exact h3.one
  · exact RL.one h4 x hx
theorem af.length {H:Tab} {w:World} {F:Fz}:∀ {rs:List (List D)} {lay:List CT} {vs:List Value} {B:List Nat},af H w F rs lay vs B->vs.length=rs.length*lay.length
 | [],lay,vs,B,h=>by simp only [af] at h; simp [h.1]
 | r::rs,lay,vs,B,h=>by
  simp only [af] at h;obtain ⟨v1,v2,B1,B2,rfl,_,h3,h4⟩:=h;have h5:=af.length h4;have h6:=h3.length.1;simp [h5,h6,E0,Nat.add_comm]
theorem af.one {H:Tab} {w:World} {F:Fz}:∀ {rs:List (List D)} {lay:List CT} {vs:List Value} {B:List Nat},af H w F rs lay vs B->∀ u∈vs,u.oneCell'=true
 | [],lay,vs,B,h=>by simp only [af] at h; simp [h.1]
 | r::rs,lay,vs,B,h=>by
  simp only [af] at h;obtain ⟨v1,v2,B1,B2,rfl,_,h3,h4⟩:=h;intro x hx;rcases B8.1 hx with hx | hx
  · exact h3.one x hx
  · exact af.one h4 x hx
theorem af.append {H:Tab} {w:World} {F:Fz}:∀ {rs rs':List (List D)} {lay:List CT} {vs vs':List Value} {B B':List Nat},af H w F rs lay vs B->af H w F rs' lay vs' B' →
 af H w F (rs++rs') lay (vs++vs') (B++B')
 | [],rs',lay,vs,vs',B,B',h,h'=>by simp only [af] at h; obtain ⟨rfl,rfl⟩:=h; simpa using h'
 | r::rs,rs',lay,vs,vs',B,B',h,h'=>by
  simp only [af] at h;obtain ⟨v1,v2,B1,B2,rfl,rfl,h3,h4⟩:=h;simp only [E9,af];exact ⟨v1,v2++vs',B1,B2++B',by simp,by simp,h3,af.append h4 h'⟩
theorem af.cut {H:Tab} {w:World} {F:Fz}:∀ {rs:List (List D)} {lay:List CT} {vs:List Value} {B:List Nat} (i:Nat),af H w F rs lay vs B->i<rs.length →
 ∃ va v vb Ba Bm Bb,vs=va++v++vb/\B=Ba++Bm++Bb/\va.length=i*lay.length/\RL H w F (rowAt rs i) lay v Bm ∧
  af H w F (rs.take i) lay va Ba/\af H w F (rs.drop (i+1)) lay vb Bb
 | [],lay,vs,B,i,h,hi=>by simp at hi
 | r::rs,lay,vs,B,0,h,hi=>by
  simp only [af] at h;obtain ⟨v1,v2,B1,B2,rfl,rfl,h3,h4⟩:=h;exact ⟨[],v1,v2,[],B1,B2,by simp,by simp,by simp,by simpa [rowAt] using h3,by simp [af],by simpa using h4⟩
 | r::rs,lay,vs,B,i+1,h,hi=>by
  simp only [af] at h;obtain ⟨v1,v2,B1,B2,rfl,rfl,h3,h4⟩:=h;obtain ⟨va,v,vb,Ba,Bm,Bb,rfl,rfl,k3,k4,k5,k6⟩:=af.cut i h4 (by simpa using hi)
  have h6:=h3.length.1;refine ⟨v1++va,v,vb,B1++Ba,Bm,Bb,by simp,by simp,by simp [k3,h6,E0,Nat.add_comm],by simpa [rowAt] using k4,?_,by simpa using k6⟩
  simp only [F8,af];exact ⟨v1,va,B1,Ba,rfl,rfl,h3,k5⟩
theorem af.join {H:Tab} {w:World} {F:Fz} {rs:List (List D)} {lay:List CT} {va v vb:List Value} {Ba Bm Bb:List Nat} {i:Nat} {r:List D} (hi:i<rs.length)
 (h1:af H w F (rs.take i) lay va Ba) (h2:RL H w F r lay v Bm) (h3:af H w F (rs.drop (i+1)) lay vb Bb) :
 af H w F (over i [r] rs) lay (va++v++vb) (Ba++Bm++Bb):=by
 have e:over i [r] rs=rs.take i++(r::rs.drop (i+1)):=by
  clear h1 h2 h3;induction i generalizing rs with
  | zero=>cases rs with | nil=>simp at hi | cons x rs=>simp [over]
  | succ i ih=>cases rs with | nil=>simp at hi | cons x rs=>simp only [over,F8,List.drop_succ_cons,E9]; rw [ih (by simpa using hi)]
 rw [e,C9,C9];exact h1.append (by simp only [af]; exact ⟨v,vb,Bm,Bb,rfl,rfl,h2,h3⟩)
theorem RL.cut {H:Tab} {w:World} {F:Fz}:∀ {ds:List D} {cts:List CT} {vs:List Value} {B:List Nat} (n m:Nat),RL H w F ds cts vs B->n+m<=cts.length →
 ∃ va v vb Ba Bm Bb,vs=va++v++vb/\B=Ba++Bm++Bb/\va.length=n/\v.length=m/\RL H w F (ds.take n) (cts.take n) va Ba ∧
  RL H w F ((ds.drop n).take m) ((cts.drop n).take m) v Bm/\RL H w F (ds.drop (n+m)) (cts.drop (n+m)) vb Bb
 | [],cts,vs,B,n,m,h,hl=>by
  simp only [RL] at h;obtain ⟨rfl,rfl,rfl⟩:=h;simp at hl;obtain ⟨rfl,rfl⟩:=hl;exact ⟨[],[],[],[],[],[],by simp,by simp,rfl,rfl,by simp [RL],by simp [RL],by simp [RL]⟩
 | d::ds,cts,vs,B,0,0,h,hl=>⟨[],[],vs,[],[],B,by simp,by simp,rfl,rfl,by simp [RL],by simp [RL],by simpa using h⟩
 | d::ds,cts,vs,B,0,m+1,h,hl=>by
  simp only [RL] at h;obtain ⟨ct,cts',u,us,B1,B2,rfl,rfl,rfl,h3,h4⟩:=h;obtain ⟨va,v,vb,Ba,Bm,Bb,rfl,rfl,k1,k2,k3,k4,k5⟩:=RL.cut 0 m h4 (by simp at hl ⊢; omega)
  obtain rfl:va=[]:=D4.1 k1;have hB:Ba=[]:=by simp only [List.take_zero,RL] at k3; exact k3.2.2
  subst hB;simp only [G8,List.drop_zero] at k4 k5;refine ⟨[],u::v,vb,[],B1++Bm,Bb,by simp,by simp,rfl,by simp [k2],by simp [RL],?_,by simpa using k5⟩
  simp only [List.drop_zero,F8,RL];exact ⟨ct,_,u,v,B1,Bm,rfl,rfl,rfl,h3,k4⟩
 | d::ds,cts,vs,B,n+1,m,h,hl=>by
  simp only [RL] at h;obtain ⟨ct,cts',u,us,B1,B2,rfl,rfl,rfl,h3,h4⟩:=h;obtain ⟨va,v,vb,Ba,Bm,Bb,rfl,rfl,k1,k2,k3,k4,k5⟩:=RL.cut n m h4 (by simp at hl ⊢; omega)
  refine ⟨u::va,v,vb,B1++Ba,Bm,Bb,by simp,by simp,by simp [k1],k2,?_,by simpa using k4,?_⟩
  · simp only [F8,RL]
    exact ⟨ct,_,u,va,B1,Ba,rfl,rfl,rfl,h3,k3⟩
  · rw [show n+1+m=(n+m)+1 by omega]
    simpa using k5
theorem RL.append {H:Tab} {w:World} {F:Fz}:∀ {ds ds':List D} {cts cts':List CT} {vs vs':List Value} {B B':List Nat},RL H w F ds cts vs B->RL H w F ds' cts' vs' B' →
 RL H w F (ds++ds') (cts++cts') (vs++vs') (B++B')
 | [],ds',cts,cts',vs,vs',B,B',h,h'=>by simp only [RL] at h; obtain ⟨rfl,rfl,rfl⟩:=h; simpa using h'
 | d::ds,ds',cts,cts',vs,vs',B,B',h,h'=>by
  simp only [RL] at h;obtain ⟨ct,cts1,u,us,B1,B2,rfl,rfl,rfl,h3,h4⟩:=h;simp only [E9,RL];exact ⟨ct,cts1++cts',u,us++vs',B1,B2++B',rfl,rfl,by simp,h3,RL.append h4 h'⟩
theorem fv.left {w:World} {F:Fz} {b o:Nat} {v1 v2:List Value} (h:fv w F b o (v1++v2)):fv w F b o v1:=by
 intro j u hu;have hj:j<v1.length:=(B9.1 hu).1;exact h j u (by rw [D2 hj]; exact hu)
theorem fv.right {w:World} {F:Fz} {b o:Nat} {v1 v2:List Value} (h:fv w F b o (v1++v2)):fv w F b (o+v1.length) v2:=by
 intro j u hu;have:=h (v1.length+j) u (by rw [D3 (by omega)]; simpa using hu)
 rwa [<- N1] at this
theorem fv.append {w:World} {F:Fz} {b o:Nat} {v1 v2:List Value} (h1:fv w F b o v1) (h2:fv w F b (o+v1.length) v2):fv w F b o (v1++v2):=by
 intro j u hu;by_cases hj:j<v1.length
 · rw [D2 hj] at hu; exact h1 j u hu
 · rw [D3 (by omega)] at hu
   have:=h2 (j-v1.length) u hu;rwa [show o+v1.length+(j-v1.length)=o+j by omega] at this
theorem bh {α:Type} (l:List α):len l=l.length:=by induction l with | nil=>rfl | cons x l ih=>simp [len,ih]
theorem dh {α:Type} (n:Nat) (l:List α):iw n l=l.take n:=by
 induction n generalizing l with
 | zero=>cases l <;> simp [iw]
 | succ n ih=>cases l <;> simp [iw,ih]
theorem di {α:Type} (n:Nat) (l:List α):iy n l=l.drop n:=by
 induction n generalizing l with
 | zero=>cases l <;> simp [iy]
 | succ n ih=>cases l <;> simp [iy,ih]
theorem cg {α:Type}:∀ (n:Nat) (xs l:List α),n+xs.length<=l.length->over n xs l=l.take n++xs++l.drop (n+xs.length)
 | 0,[],l,_=>by cases l <;> simp [over]
 | 0,x::xs,c::l,h=>by
  have:=cg 0 xs l (by simp at h ⊢; omega)
  simp only [over,this,List.take_zero,G6,E8,G8,List.drop_succ_cons,E9]
 | 0,_::_,[],h=>by simp at h
 | n+1,xs,c::l,h=>by
  have:=cg n xs l (by simp at h ⊢; omega)
  simp only [over,this,F8,E9,show n+1+xs.length=(n+xs.length)+1 by omega,List.drop_succ_cons]
 | n+1,xs,[],h=>by simp at h
theorem av {α:Type} (n:Nat) (xs l:List α) (h:n+xs.length<=l.length):(over n xs l).length=l.length:=by
 rw [cg n xs l h]; simp; omega
theorem zf {α:Type} (n:Nat) (x:α):po n x=K3 n x:=by induction n with | zero=>rfl | succ n ih=>simp [po,ih,List.replicate_succ]
theorem cx (l:List Nat) (x:Nat):dm l x=true↔x∈l:=by
 simp only [dm,List.any_eq_true];exact ⟨fun ⟨y,h,e⟩=>(K4 e)▸h,fun h=>⟨x,h,Nat.beq_refl x⟩⟩
theorem ay {a b:Nat}:C2 a b=true↔a=b:=⟨K4,fun h=>h▸Nat.beq_refl a⟩
theorem dn {a b:Nat}:J1 a b=true↔a<=b:=⟨E3,Nat.ble_eq_true_of_le⟩
theorem bf {a b:Nat}:C2 a b=false↔a≠b:=by rw [<- N6,ay]
theorem fo (l:List Nat):dw l=true↔l.Nodup:=by
 induction l with
 | nil=>simp [dw]
 | cons x l ih=>simp only [dw,B4,C5,C4,ih,<- N6,cx]
end Go.Q
end
section
namespace Go.Q
open Go
open Go.RowKit (Below)
structure Gh where
 F:Fz
 U:Nat->Prop          -- numbers of objects that have been given out
 bm:Nat->Nat          -- an object's block
 hv:Nat->Value        -- an array's header
 ly:Nat->List CT      -- its elements' cells
 blk:Nat->Nat->Prop  -- the blocks that belong to an object
 nh:Nat->Nat->Nat->Nat->Value  -- headers of ib slices
 pv:Nat->Nat->Value  -- a header that is to be stored
 vm:Nat->Nat          -- an array's version
 nA:F≠br
structure Gh.le (G G':Gh):Prop where
 U:∀ j,G.U j->G'.U j
 bm:∀ j,G.U j->G'.bm j=G.bm j
 hv:∀ j,G.U j->G'.hv j=G.hv j
 ly:∀ j,G.U j->G'.ly j=G.ly j
 nh:∀ j v,G.U j->v<=G.vm j->G'.nh j v=G.nh j v
 pv:∀ j v,G.U j->v<=G.vm j->G'.pv j v=G.pv j v
 vm:∀ j,G.U j->G.vm j<=G'.vm j
theorem Gh.le.refl (G:Gh):G.le G:=⟨fun _=>id,fun _ _=>rfl,fun _ _=>rfl,fun _ _=>rfl,fun _ _ _ _=>rfl,fun _ _ _ _=>rfl,fun _ _=>D1 _⟩
theorem Gh.le.trans {G G1 G2:Gh} (h:G.le G1) (k:G1.le G2):G.le G2 :=
 ⟨fun j hj=>k.U j (h.U j hj),fun j hj=>(k.bm j (h.U j hj)).trans (h.bm j hj),fun j hj=>(k.hv j (h.U j hj)).trans (h.hv j hj),fun j hj=>(k.ly j (h.U j hj)).trans (h.ly j hj),fun j v hj hv=>(k.nh j v (h.U j hj) (F4 hv (h.vm j hj))).trans (h.nh j v hj hv),fun j v hj hv=>(k.pv j v (h.U j hj) (F4 hv (h.vm j hj))).trans (h.pv j v hj hv),fun j hj=>F4 (h.vm j hj) (k.vm j (h.U j hj))⟩
mutual
def VR (H:Tab) (G:Gh) (w:World):Val->Value->Prop
 | .int k n,v=>v=.int k n
 | .bool b,v=>v=.bool b
 | .str s,v=>v=.string s
 | .im e rows,v=>∃ B,RC H w G.F (.sl rows) (.sl e) v B
 | .nils,v=>∃ A,v=.slice A 0 0/\A=none
 | .hd j,v=>G.U j/\v=G.hv j/\v.oneCell'=true
 | .hn j ver i c e,v=>G.U j/\ver<=G.vm j/\v=G.nh j ver i c/\v.oneCell'=true/\(G.ly j)[c]?=some (.sl e)/\∃ A n cp,G.hv j=.slice A n cp/\i<n
 | .pe j ver i c,v=>G.U j/\ver<=G.vm j/\v=G.pv j ver/\v.oneCell'=true/\c<(G.ly j).length
 | .bp j off,v=>G.U j/\v=.pointer (some ⟨G.bm j,off,none⟩)
 | .bq j off,v=>v=.pointer none\/(G.U j/\v=.pointer (some ⟨G.bm j,off,none⟩))
 | .ip lay row off,v=>∃ b o vs B,v=.pointer (some ⟨b,o+off,none⟩)/\fv w G.F b o vs/\RL H w G.F row lay vs B
 | .ep j i off,v=>G.U j/\∃ b o n cp,G.hv j=.slice (some ⟨b,o,none⟩) n cp/\i<n/\v=.pointer (some ⟨b,o+i*(G.ly j).length+off,none⟩)
 | .en j ver i c e k off,v=>G.U j/\ver<=G.vm j/\(G.ly j)[c]?=some (.sl e)/\(∃ A n cp,G.hv j=.slice A n cp/\i<n)/\∃ ti b o n cp,H.ty e=some ti/\G.nh j ver i c=.slice (some ⟨b,o,none⟩) n cp/\k<n/\v=.pointer (some ⟨b,o+k*ti.lay.length+off,none⟩)
 | .nilp,v=>v=.pointer none
 | .fn f caps,v=>∃ vs:List Value,v=.func (.func f) #[] vs.toArray/\VRL H G w caps vs
 | .agg cs,v=>∃ vs:List Value,v=.agg vs.toArray/\VRL H G w cs vs/\∀ u∈vs,u.oneCell'=true
 | .tup cs,v=>∃ vs:List Value,v=.tuple vs.toArray/\VRL H G w cs vs
 | .err b,v=>(b=false/\v=.nilIface)\/(b=true/\∃ t x,v=.iface t x)
 | .ub,v=>∃ b,v=.bool b
 | .und,v=>v=undef
 | .dead,_=>True
def VRL (H:Tab) (G:Gh) (w:World):List Val->List Value->Prop
 | [],vs=>vs=[]
 | x::xs,vs=>∃ u us,vs=u::us/\VR H G w x u/\VRL H G w xs us
end
theorem VRL.length {H:Tab} {G:Gh} {w:World}:∀ {xs:List Val} {vs:List Value},VRL H G w xs vs->vs.length=xs.length
 | [],vs,h=>by simp only [VRL] at h; simp [h]
 | x::xs,vs,h=>by
  simp only [VRL] at h;obtain ⟨u,us,rfl,_,h⟩:=h;simp [VRL.length h]
theorem VRL.append {H:Tab} {G:Gh} {w:World}:∀ {xs ys:List Val} {vs us:List Value},VRL H G w xs vs->VRL H G w ys us->VRL H G w (xs++ys) (vs++us)
 | [],ys,vs,us,h,h'=>by simp only [VRL] at h; subst h; simpa using h'
 | x::xs,ys,vs,us,h,h'=>by
  simp only [VRL] at h;obtain ⟨u,us',rfl,h1,h2⟩:=h;simp only [E9,VRL];exact ⟨u,us'++us,rfl,h1,VRL.append h2 h'⟩
theorem VRL.at_ {H:Tab} {G:Gh} {w:World}:∀ {xs:List Val} {vs:List Value},VRL H G w xs vs->∀ {i:Nat} {x:Val},xs[i]?=some x->∃ u,vs[i]?=some u/\VR H G w x u
 | [],vs,h,i,x,hi=>by simp at hi
 | y::xs,vs,h,i,x,hi=>by
  simp only [VRL] at h;obtain ⟨u,us,rfl,h1,h2⟩:=h;cases i with
  | zero=>obtain rfl:y=x:=by simpa using hi
          exact ⟨u,rfl,h1⟩
  | succ i=>simpa using VRL.at_ h2 (by simpa using hi)
theorem VRL.take_ {H:Tab} {G:Gh} {w:World}:∀ {xs:List Val} {vs:List Value} (n:Nat),VRL H G w xs vs->VRL H G w (xs.take n) (vs.take n)
 | xs,vs,0,h=>by simp [VRL]
 | [],vs,n+1,h=>by simp only [VRL] at h; simp [VRL,h]
 | x::xs,vs,n+1,h=>by
  simp only [VRL] at h;obtain ⟨u,us,rfl,h1,h2⟩:=h;simp only [F8,VRL];exact ⟨u,_,rfl,h1,VRL.take_ n h2⟩
theorem VRL.drop_ {H:Tab} {G:Gh} {w:World}:∀ {xs:List Val} {vs:List Value} (n:Nat),VRL H G w xs vs->VRL H G w (xs.drop n) (vs.drop n)
 | xs,vs,0,h=>by simpa using h
 | [],vs,n+1,h=>by simp only [VRL] at h; simp [VRL,h]
 | x::xs,vs,n+1,h=>by
  simp only [VRL] at h;obtain ⟨u,us,rfl,h1,h2⟩:=h;simpa using VRL.drop_ n h2
mutual
theorem VR.mono {H:Tab} {G G':Gh} {w w':World} (hg:G.le G') (hF:∀ b o,G.F b o->G'.F b o/\w'.cell? ⟨b,o,none⟩=w.cell? ⟨b,o,none⟩) :
 ∀ (x:Val) (v:Value),VR H G w x v->VR H G' w' x v
 | .int k n,v,h=>by simpa only [VR] using h
 | .bool b,v,h=>by simpa only [VR] using h
 | .str s,v,h=>by simpa only [VR] using h
 | .im e rows,v,h=>by simp only [VR] at h ⊢; obtain ⟨B,h⟩:=h; exact ⟨B,RC.mono _ _ _ _ (fun b _ q hq=>hF b q hq) h⟩
 | .nils,v,h=>by simpa only [VR] using h
 | .hd j,v,h=>by simp only [VR] at h ⊢; exact ⟨hg.U _ h.1,by rw [hg.hv _ h.1]; exact h.2⟩
 | .hn j ver i c e,v,h=>by simp only [VR] at h ⊢; exact ⟨hg.U _ h.1,F4 h.2.1 (hg.vm _ h.1),by rw [hg.nh _ _ h.1 h.2.1,hg.ly _ h.1,hg.hv _ h.1]; exact h.2.2⟩
 | .pe j ver i c,v,h=>by simp only [VR] at h ⊢; exact ⟨hg.U _ h.1,F4 h.2.1 (hg.vm _ h.1),by rw [hg.pv _ _ h.1 h.2.1,hg.ly _ h.1]; exact h.2.2⟩
 | .bp j off,v,h=>by simp only [VR] at h ⊢; exact ⟨hg.U _ h.1,by rw [hg.bm _ h.1]; exact h.2⟩
 | .bq j off,v,h=>by simp only [VR] at h ⊢; exact h.imp_right fun h=>⟨hg.U _ h.1,by rw [hg.bm _ h.1]; exact h.2⟩
 | .ip lay row off,v,h=>by
  simp only [VR] at h ⊢;obtain ⟨b,o,vs,B,h1,h2,h3⟩:=h;exact ⟨b,o,vs,B,h1,h2.mono fun q hq=>hF b q hq,RL.mono _ _ _ _ (fun b _ q hq=>hF b q hq) h3⟩
 | .ep j i off,v,h=>by simp only [VR] at h ⊢; exact ⟨hg.U _ h.1,by rw [hg.hv _ h.1,hg.ly _ h.1]; exact h.2⟩
 | .en j ver i c e k off,v,h=>by simp only [VR] at h ⊢; exact ⟨hg.U _ h.1,F4 h.2.1 (hg.vm _ h.1),by rw [hg.nh _ _ h.1 h.2.1,hg.ly _ h.1,hg.hv _ h.1]; exact h.2.2⟩
 | .nilp,v,h=>by simpa only [VR] using h
 | .fn f caps,v,h=>by simp only [VR] at h ⊢; obtain ⟨vs,h1,h2⟩:=h; exact ⟨vs,h1,VRL.mono hg hF caps vs h2⟩
 | .agg cs,v,h=>by simp only [VR] at h ⊢; obtain ⟨vs,h1,h2,h3⟩:=h; exact ⟨vs,h1,VRL.mono hg hF cs vs h2,h3⟩
 | .tup cs,v,h=>by simp only [VR] at h ⊢; obtain ⟨vs,h1,h2⟩:=h; exact ⟨vs,h1,VRL.mono hg hF cs vs h2⟩
 | .err b,v,h=>by simpa only [VR] using h
 | .ub,v,h=>by simpa only [VR] using h
 | .und,v,h=>by simpa only [VR] using h
 | .dead,v,h=>by simp only [VR]
theorem VRL.mono {H:Tab} {G G':Gh} {w w':World} (hg:G.le G') (hF:∀ b o,G.F b o->G'.F b o/\w'.cell? ⟨b,o,none⟩=w.cell? ⟨b,o,none⟩) :
 ∀ (xs:List Val) (vs:List Value),VRL H G w xs vs->VRL H G' w' xs vs
 | [],vs,h=>by simpa only [VRL] using h
 | x::xs,vs,h=>by
  simp only [VRL] at h ⊢;obtain ⟨u,us,h1,h2,h3⟩:=h;exact ⟨u,us,h1,VR.mono hg hF x u h2,VRL.mono hg hF xs us h3⟩
end
open Classical in
noncomputable def Hi (hv:Value) (wd:Nat) (ov:Option (Nat×Nat)) (vs:List Value):List Value :=
 match ov with
 | none=>vs
 | some (i,c)=>if vs[i*wd+c]?=some hv then vs.set (i*wd+c) (.slice none 0 0) else []
noncomputable def ovl (G:Gh) (j wd ver:Nat) (ov:Option (Nat×Nat)) (vs:List Value):List Value:=Hi (G.pv j ver) wd ov vs
theorem bj (G:Gh) (j wd ver:Nat) (vs:List Value):ovl G j wd ver none vs=vs:=rfl
def gb (j n cap:Nat):Nat:=cap
theorem gm {j n cap:Nat} (h:n<=cap):n<=gb j n cap:=h
theorem rk {j n cap:Nat} (h:n<=cap) (k:Nat):gb j n cap*k<=cap*k:=D1 _
theorem Cm {c c' n cap:Nat} (h:fk c=true->fk c'=true) (hn:n<=cap) (k:Nat):gb c' n cap*k<=gb c n cap*k:=D1 _
theorem lq {j n cap:Nat}:gb j n cap=cap:=rfl
def lr (j n cap:Nat):Prop:=cap=0
theorem lr.to {c c' n cap:Nat} (h:fk c=true->fk c'=true) (hb:lr c n cap):lr c' n cap:=hb
theorem lr.len {j n cap:Nat} (h:lr j n cap) (hn:n<=cap):n=0:=by unfold lr at h; omega
def bc (H:Tab) (G:Gh) (w:World) (j:Nat) (lay:List CT) (lv:Lv) (ver:Nat) (rows:ak) (o:Nat) (vs:List Value):Prop :=
 match lv with
 | .deep=>(∀ q,¬ G.F (G.bm j) q)/\(∀ b,G.blk j b->∀ q,¬ G.F b q)/\(∃ B,af H w br rows lay vs B/\(G.bm j::B).Nodup/\∀ b∈B,G.blk j b) ∧
  ∀ i c e,i<rows.length->lay[c]?=some (.sl e)->vs[i*lay.length+c]?=some (G.nh j ver i c)
 | .top=>(∀ q,¬ G.F (G.bm j) q)/\∃ B,af H w G.F rows lay vs B
 | .ap=>(∀ q,rows.length*lay.length<=q->¬ G.F (G.bm j) (o+q))/\fv w G.F (G.bm j) o vs/\∃ B,af H w G.F rows lay vs B
def OR (H:Tab) (G:Gh) (w:World) (j:Nat):Obj->Prop
 | .box cs=>G.blk j (G.bm j)/\(∀ q,¬ G.F (G.bm j) q)/\∃ (vs:List Value) (t:TypeId),w.heap[G.bm j]?=some (.cells vs.toArray t (0,0))/\VRL H G w cs vs/\∀ u∈vs,u.oneCell'=true
 | .arr e lv ver rows ov=>∃ ti A cap,H.ty e=some ti/\0<ti.lay.length/\G.ly j=ti.lay/\G.vm j=ver/\G.hv j=.slice A rows.length cap/\rows.length<=cap ∧
  ((lr j rows.length cap/\ov=none)\/∃ o cur t,A=some ⟨G.bm j,o,none⟩/\G.blk j (G.bm j)/\w.heap[G.bm j]?=some (.cells cur t (0,0))/\o+gb j rows.length cap*ti.lay.length<=cur.size ∧
    bc H G w j ti.lay lv ver rows o (ovl G j ti.lay.length ver ov ((cur.toList.drop o).take (rows.length*ti.lay.length))))
structure Env where
 P:Program
 H:Tab
 nt:Nat
 w0:World
 F0:Fz
 lent:Nat->Prop
structure gz (E:Env) (G:Gh) (w:World):Prop where
 fsz:∀ b o,G.F b o->b<w.heap.size
 f0:∀ b o,E.F0 b o->G.F b o
 f1:∀ b o,G.F b o->E.F0 b o\/E.w0.heap.size<=b\/E.lent b
 fc:∀ b o,E.F0 b o->w.cell? ⟨b,o,none⟩=E.w0.cell? ⟨b,o,none⟩
 kept:∀ b,b<E.w0.heap.size->¬ E.lent b->w.heap[b]?=E.w0.heap[b]?
 size:E.w0.heap.size<=w.heap.size
 os:w.os=E.w0.os
 tape:w.tape=E.w0.tape
 out:w.output=E.w0.output
 vars:∀ p∈E.H.gv,p.1<E.w0.heap.size/\¬ E.lent p.1/\∃ cs t z,E.w0.heap[p.1]?=some (.cells cs t z)/\p.2 cs
theorem gz.vars_ {E:Env} {G:Gh} {w:World} (h:gz E G w):∀ p∈E.H.gv,p.1<E.w0.heap.size/\¬ E.lent p.1/\∃ cs t z,w.heap[p.1]?=some (.cells cs t z)/\p.2 cs:=fun p hp=>by
 obtain ⟨h1,h2,h3⟩:=h.vars p hp;rw [h.kept p.1 h1 h2];exact ⟨h1,h2,h3⟩
def Pl (w:World) (b:Nat):Prop:=∃ cur t,w.heap[b]?=some (.cells cur t (0,0))
structure Rel (E:Env) (G:Gh) (st:St) (a:Act) (w:World):Prop where
 core:gz E G w
 nt:a.tmps.size=E.nt
 dfs:a.defers=[]
 tmps:∀ t,VR E.H G w (st.t t) (a.tmps.getD t undef)
 objs:∀ j ob,st.o j=some ob->G.U j/\OR E.H G w j ob
 blk:∀ j ob b,st.o j=some ob->G.blk j b->b<w.heap.size/\(E.w0.heap.size<=b\/E.lent b)
 sep:∀ j j' ob ob' b,st.o j=some ob->st.o j'=some ob'->G.blk j b->G.blk j' b->j=j'
 used:∀ j,G.U j->st.u j=true
 pl:∀ j ob b,st.o j=some ob->G.blk j b->Pl w b
end Go.Q
end
section
namespace Go.Q
open Go
open Go.RowKit (Below)
section
variable (call:Key->List D->R)
def ah {α:Type} (st:St):M α->Option α
 | .ret a=>some a
 | .fail=>none
 | .chk b m=>bif b then ah st m else none
 | .alt b m n=>bif b then ah st m else ah st n
 | .get j f=>ah st (f (st.o j))
 | .ask key ls f=>(call key ls).bind fun r=>ah st (f r)
def rdO {α:Type} (st:St):M α->List Nat->List Nat
 | .ret _,rd=>rd
 | .fail,rd=>rd
 | .chk _ m,rd=>rdO st m rd
 | .alt b m n,rd=>bif b then rdO st m rd else rdO st n rd
 | .get j f,rd=>rdO st (f (st.o j)) (j::rd)
 | .ask key ls f,rd=>match call key ls with
  | some r=>rdO st (f r) rd
  | none=>rd
theorem eb {α:Type} (st:St) (k:α->List Nat->R):∀ (m:M α) (rd:List Nat),ex call m st rd k=(ah call st m).bind fun a=>k a (rdO call st m rd)
 | .ret a,rd=>rfl
 | .fail,rd=>rfl
 | .chk b m,rd=>by
  simp only [ex,ah,rdO];cases b
  · rfl
  · exact eb st k m rd
 | .alt b m n,rd=>by
  simp only [ex,ah,rdO];cases b
  · exact eb st k n rd
  · exact eb st k m rd
 | .get j f,rd=>by simp only [ex,ah,rdO]; exact eb st k _ _
 | .ask key ls f,rd=>by
  simp only [ex,ah,rdO];cases h:call key ls with
  | none=>rfl
  | some r=>simp only [Option.bind_some]; exact eb st k _ _
theorem fe {α β:Type} (st:St) (f:α->M β):∀ (m:M α),ah call st (m.bind f)=(ah call st m).bind fun a=>ah call st (f a)
 | .ret a=>rfl
 | .fail=>rfl
 | .chk b m=>by
  simp only [M.bind,ah];cases b
  · rfl
  · exact fe st f m
 | .alt b m n=>by
  simp only [M.bind,ah];cases b
  · exact fe st f n
  · exact fe st f m
 | .get j k=>by simp only [M.bind,ah]; exact fe st f _
 | .ask key ls k=>by
  simp only [M.bind,ah];cases h:call key ls with
  | none=>rfl
  | some r=>simp only [Option.bind_some]; exact fe st f _
variable {call}
theorem ab {α:Type} {st:St} {a b:α}:ah call st (.ret a)=some b↔a=b:=by simp [ah]
theorem aa {α:Type} {st:St} {b:α}:ah call st (.fail)=some b↔False:=by simp [ah]
theorem ag {α:Type} {st:St} {c:Bool} {m:M α} {a:α}:ah call st (.chk c m)=some a↔c=true/\ah call st m=some a:=by
 cases c <;> simp [ah]
theorem ax {α:Type} {st:St} {j:Nat} {f:Option Obj->M α} {a:α}:ah call st (.get j f)=some a↔ah call st (f (st.o j))=some a:=Iff.rfl
theorem pi {α:Type} {st:St} {c:Bool} {m n:M α} {a:α}:ah call st (.alt c m n)=some a↔(c=true/\ah call st m=some a)\/(c=false/\ah call st n=some a):=by
 cases c <;> simp [ah]
theorem run_bind {α β:Type} {st:St} {f:α->M β} {m:M α} {b:β}:ah call st (m.bind f)=some b↔∃ a,ah call st m=some a/\ah call st (f a)=some b:=by
 rw [fe]; simp [E2]
theorem zg {α:Type} {st:St} {key:Key} {ls:List D} {f:Nat×List D->M α} {a:α}:ah call st (.ask key ls f)=some a↔∃ r,call key ls=some r/\ah call st (f r)=some a:=by
 simp [ah,E2]
theorem gn {st:St} {m:M Val} {e:Eff}:ah call st (df m)=some e↔∃ v,ah call st m=some v/\e=⟨v,[],[]⟩:=by
 simp only [df,run_bind,ab];exact ⟨fun ⟨v,h1,h2⟩=>⟨v,h1,h2.symm⟩,fun ⟨v,h1,h2⟩=>⟨v,h1,h2.symm⟩⟩
end
def zvB:CT->Value->Bool
 | .int k,.int k' n=>decide (k=k')&&n==0
 | .bool,.bool b=>!b
 | .str,.string s=>s.size==0
 | .sl _,.slice none 0 0=>true
 | .ptr,.pointer none=>true
 | .fn,.nilFunc=>true
 | .err,.nilIface=>true
 | _,_=>false
def zvL:List CT->List Value->Bool
 | [],[]=>true
 | c::cs,v::vs=>zvB c v&&zvL cs vs
 | _,_=>false
def ua:TypeDesc->Bool
 | .struct _ | .array _ _=>true
 | _=>false
def tyB (P:Program) (H:Tab) (t:TypeId) (ti:TI):Bool :=
 (match P.info? t with
  | some i=>C2 i.size (len ti.lay)&&J1 i.bytes 512&&(match i.zero with
   | some z=>zvL ti.lay z.cells.toList&&(match z with | .agg _=>ti.agg | .tuple _=>false | _=>!ti.agg)
   | none=>false)
  | none=>false) &&
 (ti.lay.all fun c=>match c with | .sl e=>(H.ty e).isSome | _=>true) &&
 (match P.underlying t with
  | some .bool=>!ti.agg&&decide (ti.lay=[.bool])
  | some (.int k)=>!ti.agg&&decide (ti.lay=[.int k])
  | some .string=>!ti.agg&&decide (ti.lay=[.str])
  | some (.slice e)=>!ti.agg&&decide (ti.lay=[.sl e])&&(match H.ty e with | some te=>E7 0 (len te.lay) | none=>false)
  | some (.pointer _)=>!ti.agg&&decide (ti.lay=[.ptr])
  | some (.func _ _ _)=>!ti.agg&&decide (ti.lay=[.fn])
  | some (.interface _)=>!ti.agg&&decide (ti.lay=[.err])
  | some (.struct fs)=>ti.agg&&decide (ti.flds=fs.toList.map fun f=>(f.offset,f.type))&&fs.toList.all fun f=>match H.ty f.type with
   | some tf=>decide (iw (len tf.lay) (iy f.offset ti.lay)=tf.lay)&&E7 0 (len tf.lay)
   | none=>false
  | _=>false)
def bv (P:Program) (H:Tab):Prop:=∀ t ti,H.ty t=some ti->tyB P H t ti=true
structure TyR (P:Program) (H:Tab) (t:TypeId) (ti:TI):Prop where
 info:∃ i z,P.info? t=some i/\i.size=ti.lay.length/\i.bytes<=512/\i.zero=some z/\zvL ti.lay z.cells.toList=true/\(ti.agg=true↔∃ cs,z=.agg cs)/\(∀ cs,z≠.tuple cs)
 und:∃ d,P.underlying t=some d/\ua d=ti.agg
 one:ti.agg=false->ti.lay.length=1
theorem TyR.of {P:Program} {H:Tab} {t:TypeId} {ti:TI} (h:tyB P H t ti=true):TyR P H t ti:=by
 simp only [tyB,B4] at h;obtain ⟨⟨h1,_⟩,h2⟩:=h;refine ⟨?_,?_,?_⟩
 · cases hi:P.info? t with
   | none=>rw [hi] at h1; simp at h1
   | some i =>
    rw [hi] at h1;simp only [B4,ay,dn,bh] at h1;obtain ⟨⟨h3,h4⟩,h5⟩:=h1;cases hz:i.zero with
    | none=>rw [hz] at h5; simp at h5
    | some z =>
     rw [hz] at h5;simp only [B4] at h5;refine ⟨i,z,rfl,h3,h4,hz,h5.1,?_,?_⟩
     · cases z <;> simp_all
     · intro cs hc; subst hc; simp at h5
 · cases hu:P.underlying t with
   | none=>rw [hu] at h2; simp at h2
   | some d =>
    rw [hu] at h2;refine ⟨d,rfl,?_⟩;cases d <;> simp_all [ua]
 · intro ha
   cases hu:P.underlying t with
   | none=>rw [hu] at h2; simp at h2
   | some d =>
    rw [hu] at h2;cases d <;> simp_all
theorem bv.slice {P:Program} {H:Tab} (hH:bv P H) {t e:TypeId} {fl:List (Nat×TypeId)} (h:H.ty t=some ⟨false,[.sl e],fl⟩) :
 P.underlying t=some (.slice e)/\∃ te,H.ty e=some te/\0<te.lay.length:=by
 have h1:=hH t _ h;simp only [tyB,B4] at h1;obtain ⟨_,h2⟩:=h1;cases hu:P.underlying t with
 | none=>rw [hu] at h2; simp at h2
 | some d =>
  rw [hu] at h2;cases d <;> simp at h2
  case slice e' =>
   obtain ⟨h4,h5⟩:=h2;subst h4;refine ⟨rfl,?_⟩;cases he:H.ty e with
   | none=>rw [he] at h5; simp at h5
   | some te =>
    rw [he] at h5;simp only [bh] at h5;exact ⟨te,rfl,D9 Nat.zero_lt_one (E3 (by simpa [E7] using h5))⟩
def nq (H:Tab) (lay:List CT):Prop:=∀ e,CT.sl e∈lay->∃ te,H.ty e=some te
theorem bv.lay {P:Program} {H:Tab} (hH:bv P H) {t:TypeId} {ti:TI} (h:H.ty t=some ti):nq H ti.lay:=by
 have h1:=hH t _ h;simp only [tyB,B4] at h1;intro e he;have:=C6.1 h1.1.2 _ he;exact F6.1 this
theorem ed (b o i:Nat):(⟨b,o,none⟩:Addr).add i=⟨b,o+i,none⟩:=by unfold Addr.add; split <;> simp_all
theorem am {P:Program} {t:TypeId} {d:TypeDesc} (h:P.underlying t=some d) (w:World):(underlying t).run P w=.ok d w:=by
 simp [underlying,program,Sem.run,h,Bind.bind,Sem.bind,pure]
theorem rl {P:Program} {t:TypeId} {d:TypeDesc} (h:P.underlying t=some d) (w:World):(isAgg t).run P w=.ok (ua d) w:=by
 unfold isAgg;simp only [Sem.run_bind,am h,Result.andThen_ok];cases d <;> simp [ua,pure]
end Go.Q
end
section
namespace Go.Q
open Go
open Go.RowKit (Below)
theorem Cn {H:Tab} {G:Gh} {w:World} (c:Value):VR H G w (cv1 c) c:=by
 unfold cv1;split <;> simp [VR]
theorem zh {H:Tab} {G:Gh} {w:World}:∀ (cs:List Value),VRL H G w (cs.map cv1) cs
 | []=>by simp [VRL]
 | c::cs=>by simp only [C0,VRL]; exact ⟨c,cs,rfl,Cn c,zh cs⟩
theorem Nr {H:Tab} {G:Gh} {w:World} (c:Value):VR H G w (cv c) c:=by
 cases c
 case agg cs =>
  simp only [cv];cases hall:cs.toList.all (·.oneCell') with
  | false=>simp [VR]
  | true =>
   simp only [H1,VR];exact ⟨cs.toList,by simp,zh _,fun u hu=>C6.1 hall u hu⟩
 all_goals (simp only [cv]; exact Cn _)
theorem Rel.ev {E:Env} {G:Gh} {st:St} {a:Act} {w:World} (h:Rel E G st a w) (x:Operand):VR E.H G w (Q.ev st x) (a.eval x):=by
 cases x with
 | tmp t=>exact h.tmps t
 | const c=>exact Nr c
 | func f=>simp only [Q.ev,VR]; exact ⟨[],rfl,by simp [VRL]⟩
 | global g=>simp [Q.ev,VR]
theorem Rel.evs {E:Env} {G:Gh} {st:St} {a:Act} {w:World} (h:Rel E G st a w):∀ (xs:List Operand),VRL E.H G w (xs.map (Q.ev st)) (xs.map a.eval)
 | []=>by simp [VRL]
 | x::xs=>by simp only [C0,VRL]; exact ⟨_,_,rfl,h.ev x,h.evs xs⟩
def rm (nt:Nat) (dst:Option Tmp):Prop:=∀ d,dst=some d->d<nt
theorem Rel.put {E:Env} {G:Gh} {st:St} {a:Act} {w:World} (h:Rel E G st a w) {dst:Option Tmp} (hd:rm E.nt dst) {v:Val} {u:Value} (hv:VR E.H G w v u) :
 Rel E G (st.put dst v) (a.put dst u) w:=by
 cases dst with
 | none=>exact h
 | some d =>
  have hlt:d<a.tmps.size:=h.nt▸hd d rfl;refine { h with nt:=by simpa [Act.put] using h.nt,tmps:=fun t=>?_ }
  simp only [St.put,cd];cases hb:C2 t d with
  | true =>
   obtain rfl:=ay.1 hb;simpa [Act.put,hlt] using hv
  | false =>
   have hne:d≠t:=fun e=>bf.1 hb e.symm
   simpa [Act.put,Array.getElem?_setIfInBounds_ne hne] using h.tmps t
theorem co (st:St):∀ (l:List (Nat×Option Obj)) (st:St),(St.upd st l).t=st.t/\(St.upd st l).u=st.u/\(St.upd st l).n=st.n
 | [],st=>⟨rfl,rfl,rfl⟩
 | (j,ob)::r,st=>by have:=co st r { st with o:=cd st.o j ob }; exact this
theorem cq:∀ (l:List Nat) (st:St),(St.mark st l).t=st.t/\(St.mark st l).o=st.o/\(St.mark st l).n=st.n
 | [],st=>⟨rfl,rfl,rfl⟩
 | j::r,st=>by have:=cq r { st with u:=cd st.u j true }; exact this
theorem OR.mono {H:Tab} {G G':Gh} {w w':World} {j:Nat} {ob:Obj} (h:OR H G w j ob) (hg:G.le G') (hj:G.U j)
 (hF:∀ b o,G.F b o->G'.F b o/\w'.cell? ⟨b,o,none⟩=w.cell? ⟨b,o,none⟩)
 (hN:∀ b o,G'.F b o->G.F b o\/¬ G.blk j b) (hB:∀ b,G.blk j b->w'.heap[b]?=w.heap[b]?) (hblk:G'.blk j=G.blk j) (hvm:G'.vm j=G.vm j):OR H G' w' j ob:=by
 have hcell:∀ b,G.blk j b->∀ q,w'.cell? ⟨b,q,none⟩=w.cell? ⟨b,q,none⟩:=fun b hb q=>by simp only [World.cell?,hB b hb]
 have hnF:∀ b,G.blk j b->∀ q,¬ G.F b q->¬ G'.F b q:=fun b hb q hn hf=>(hN b q hf).elim hn (fun h=>h hb)
 cases ob with
 | box cs =>
  simp only [OR] at h ⊢;obtain ⟨h1,h2,vs,t,h3,h4,h5⟩:=h;rw [hg.bm j hj,hblk];exact ⟨h1,fun q=>hnF _ h1 q (h2 q),vs,t,(hB _ h1).trans h3,VRL.mono hg hF cs vs h4,h5⟩
 | arr e lv ver rows ov =>
  simp only [OR] at h ⊢;obtain ⟨ti,A,cap,h1,h0,h2,h2v,h3,h4,h5⟩:=h;refine ⟨ti,A,cap,h1,h0,by rw [hg.ly j hj]; exact h2,hvm.trans h2v,by rw [hg.hv j hj]; exact h3,h4,?_⟩
  rcases h5 with h5 | ⟨o,cur,t,k1,k2,k3,k4,k5⟩
  · exact .inl h5
  · refine .inr ⟨o,cur,t,by rw [hg.bm j hj]; exact k1,by rw [hg.bm j hj,hblk]; exact k2,by rw [hg.bm j hj]; exact (hB _ k2).trans k3,k4,?_⟩
    have eov:∀ vs,ovl G' j ti.lay.length ver ov vs=ovl G j ti.lay.length ver ov vs:=fun vs=>by
     simp only [ovl,hg.pv j ver hj (Nat.le_of_eq h2v.symm)]
    rw [eov];cases lv with
    | deep =>
     simp only [bc] at k5 ⊢;obtain ⟨m1,m2,⟨B,m3,m4,m5⟩,m6⟩:=k5;rw [hg.bm j hj,hg.nh j _ hj (Nat.le_of_eq h2v.symm),hblk];exact ⟨fun q=>hnF _ k2 q (m1 q),fun b hb q=>hnF b hb q (m2 b hb q),⟨B,af.mono _ _ _ _ (fun b hb q _=>⟨trivial,hcell b (m5 b hb) q⟩) m3,m4,m5⟩,m6⟩
    | top =>
     simp only [bc] at k5 ⊢;obtain ⟨m1,B,m2⟩:=k5;rw [hg.bm j hj];exact ⟨fun q=>hnF _ k2 q (m1 q),B,af.mono _ _ _ _ (fun b _ q hq=>hF b q hq) m2⟩
    | ap =>
     simp only [bc] at k5 ⊢;obtain ⟨m0,m1,B,m2⟩:=k5;rw [hg.bm j hj];exact ⟨fun q hq=>hnF _ k2 _ (m0 q hq),m1.mono fun q hq=>hF _ q hq,B,af.mono _ _ _ _ (fun b _ q hq=>hF b q hq) m2⟩
theorem gz.below {E:Env} {G:Gh} {w w':World} (h:gz E G w) (hb:Below w.heap.size w w') (hp:∀ b,w.heap.size<=b->b<w'.heap.size->∃ cur t,w'.heap[b]?=some (.cells cur t (0,0))):gz E G w' where
 fsz:=fun b o hf=>D9 (h.fsz b o hf) hb.size
 f0:=h.f0
 f1:=h.f1
 fc:=fun b o hf=>by
  have hlt:=h.fsz b o (h.f0 b o hf);rw [<- h.fc b o hf];exact hb.cell (p:=⟨b,o,none⟩) hlt
 kept:=fun b hb' hl=>(hb.block b (D9 hb' h.size)).trans (h.kept b hb' hl)
 size:=F4 h.size hb.size
 os:=hb.os.trans h.os
 tape:=hb.tape.trans h.tape
 out:=hb.output.trans h.out
 vars:=h.vars
theorem Rel.below {E:Env} {G:Gh} {st:St} {a:Act} {w w':World} (h:Rel E G st a w) (hb:Below w.heap.size w w') (hp:∀ b,w.heap.size<=b->b<w'.heap.size->∃ cur t,w'.heap[b]?=some (.cells cur t (0,0))):Rel E G st a w':=by
 have hcell:∀ b o,G.F b o->w'.cell? ⟨b,o,none⟩=w.cell? ⟨b,o,none⟩:=fun b o hf=>hb.cell (p:=⟨b,o,none⟩) (h.core.fsz b o hf)
 exact {
  core:=h.core.below hb hp
  nt:=h.nt
  dfs:=h.dfs
  tmps:=fun t=>VR.mono (Gh.le.refl G) (fun b o hf=>⟨hf,hcell b o hf⟩) _ _ (h.tmps t)
  objs:=fun j ob hj=>⟨(h.objs j ob hj).1,(h.objs j ob hj).2.mono (Gh.le.refl G) (h.objs j ob hj).1 (fun b o hf=>⟨hf,hcell b o hf⟩) (fun _ _=>.inl)
   (fun b hbl=>hb.block b (h.blk j ob b hj hbl).1) rfl rfl⟩
  blk:=fun j ob b hj hbl=>⟨D9 (h.blk j ob b hj hbl).1 hb.size,(h.blk j ob b hj hbl).2⟩
  sep:=h.sep
  used:=h.used
  pl:=fun j ob b hj hbl=>by unfold Pl; rw [hb.block b (h.blk j ob b hj hbl).1]; exact h.pl j ob b hj hbl }
def Gh.new (G:Gh) (j bm:Nat) (hv:Value) (ly:List CT) (blk:Nat->Prop) (nh:Nat->Nat->Nat->Value) (F:Fz) (hF:F≠br:=by first | exact Gh.nA _ | assumption):Gh :=
 { G with nA:=hF,F:=F,U:=fun i=>G.U i\/i=j,bm:=cd G.bm j bm,hv:=cd G.hv j hv,ly:=cd G.ly j ly,blk:=cd G.blk j blk,nh:=cd G.nh j nh,vm:=cd G.vm j 0 }
theorem ae {α:Type} (f:Nat->α) (k:Nat) (x:α):cd f k x k=x:=by simp only [cd,ay.2 rfl,H1]
theorem aj {α:Type} (f:Nat->α) {k i:Nat} (x:α) (h:i≠k):cd f k x i=f i:=by simp only [cd,bf.2 h,H2]
theorem Gh.new_le (G:Gh) {j bm:Nat} {hv:Value} {ly:List CT} {blk:Nat->Prop} {nh:Nat->Nat->Nat->Value} {F:Fz} {hF:F≠br} (hj:¬ G.U j):G.le (G.new j bm hv ly blk nh F hF) where
 U:=fun _=>.inl
 bm:=fun i hi=>aj _ _ fun e=>hj (e▸hi)
 hv:=fun i hi=>aj _ _ fun e=>hj (e▸hi)
 ly:=fun i hi=>aj _ _ fun e=>hj (e▸hi)
 nh:=fun i v hi _=>congrFun (aj G.nh nh fun (e:i=j)=>hj (e▸hi)) v
 pv:=fun i v hi _=>rfl
 vm:=fun i hi=>Nat.le_of_eq (aj G.vm 0 fun (e:i=j)=>hj (e▸hi)).symm
theorem km (w:World) (o:Go.Obj):(w.alloc o).heap[w.heap.size]?=some o:=by
 show (w.heap.push o)[w.heap.size]?=some o
 simp
theorem kn (w:World) (o:Go.Obj):(w.alloc o).heap.size=w.heap.size+1:=by
 show (w.heap.push o).size=_
 simp
theorem nr (w:World) (vs:Array Value) (t:TypeId):∀ b,w.heap.size<=b->b<(w.alloc (.cells vs t)).heap.size->∃ cur t',(w.alloc (.cells vs t)).heap[b]?=some (.cells cur t' (0,0)):=fun b h1 h2=>by
 rw [kn] at h2;obtain rfl:b=w.heap.size:=by omega
 exact ⟨_,_,km w _⟩
end Go.Q
end
section
namespace Go.Q
open Go
open Go.RowKit (Below)
section
variable {call:Key->List D->R} {E:Env} {G:Gh} {st:St} {a:Act} {w:World}
theorem ia {H:Tab} {k:IntKind} {n:Int}:VR H G w (.int k n) (.int k n):=by simp only [VR]
theorem bz {H:Tab} {b:Bool}:VR H G w (.bool b) (.bool b):=by simp only [VR]
theorem Co {H:Tab} {s:ByteArray}:VR H G w (.str s) (.string s):=by simp only [VR]
theorem Ao {c x y v:Val} {uc ux uy:Value} (hc:VR E.H G w c uc) (hx:VR E.H G w x ux) (hy:VR E.H G w y uy) (hr:ah call st (yc c x y)=some v) :
 ∃ t,uc=.bool t/\VR E.H G w v (if t then ux else uy):=by
 cases c <;> simp only [yc,aa] at hr
 rename_i t;simp only [VR] at hc;refine ⟨t,hc,?_⟩;unfold Nm at hr;split at hr
 · simp only [ab] at hr; subst hr
   simp only [VR] at hx hy ⊢;cases t <;> simp [hx,hy]
 · simp only [ag,ab,decide_eq_true_eq] at hr
   obtain ⟨rfl,rfl⟩:=hr;simp only [VR] at hx hy ⊢;cases t <;> simp [hx,hy]
 · simp only [ab] at hr; subst hr
   simp only [VR] at hx hy ⊢;cases t <;> simp [hx,hy]
 · simp only [ag,ab] at hr
   obtain ⟨h1,rfl⟩:=hr;cases t
   · exact hy
   · simp at h1
 · simp only [ag,ab] at hr
   obtain ⟨rfl,rfl⟩:=hr;exact hx
 · simp only [aa] at hr
theorem rf {x v:Val} {u:Value} (hx:VR E.H G w x u) (hr:ah call st (kk x)=some v):v=x/\((∃ b,u=.pointer (some b))\/∃ f vs,u=.func (.func f) #[] vs):=by
 cases x <;> simp only [kk,aa,ab] at hr
 · subst hr; simp only [VR] at hx; exact ⟨rfl,.inl ⟨_,hx.2⟩⟩
 · subst hr; simp only [VR] at hx; obtain ⟨vs,h,_⟩:=hx; exact ⟨rfl,.inr ⟨_,_,h⟩⟩
theorem Hj {op:UnOp} {x v:Val} {u:Value} (hx:VR E.H G w x u) (hr:ah call st (Md op x)=some v):∃ u',(Op.unary op u).run E.P w=.ok u' w/\VR E.H G w v u':=by
 unfold Md at hr;split at hr <;> simp only [aa,ab] at hr
 · rename_i b; subst hr; simp only [VR] at hx; subst hx; exact ⟨.bool (!b),by simp [Op.unary,pure],by simp only [VR]⟩
 · rename_i k n; subst hr; simp only [VR] at hx; subst hx; exact ⟨.int k (k.wrap (0-n)),by simp only [Op.unary,Op.intArith]; rfl,by simp only [VR]⟩
theorem lu {x:Val} {u:Value} {n:Int} (hx:VR E.H G w x u) (hr:ah call st (ir x)=some n):∃ k,u=.int k n:=by
 cases x <;> simp only [ir,aa,ab] at hr
 subst hr; simp only [VR] at hx; exact ⟨_,hx⟩
theorem nu {mx:Bool} {x y v:Val} {u u2:Value} (hx:VR E.H G w x u) (hy:VR E.H G w y u2) (hr:ah call st (lj mx x y)=some v) :
 ∃ u',((if mx then Builtin.max2 u u2 else Builtin.min2 u u2).run E.P w=.ok u' w)/\VR E.H G w v u':=by
 unfold lj at hr;split at hr <;> simp only [aa,ag,ab,decide_eq_true_eq] at hr;obtain ⟨rfl,rfl⟩:=hr;simp only [VR] at hx hy;subst hx hy;rename_i k p q;cases mx
 · refine ⟨.int k (if q<p then q else p),rfl,?_⟩
   simp only [VR,H2];by_cases h:q<p <;> simp [h]
 · refine ⟨.int k (if q > p then q else p),rfl,?_⟩
   simp only [VR,H1];by_cases h:p<q <;> simp [h]
theorem Cp {a b:ByteArray}:a.toList=b.toList↔a=b:=by
 rw [ByteArray.toList_eq,ByteArray.toList_eq];constructor
 · intro h
   obtain ⟨a⟩:=a; obtain ⟨b⟩:=b;simp only [] at h;rw [Array.toList_inj.1 h]
 · rintro rfl; rfl
theorem ud {α:Type} [DecidableEq α] (a b:α):(a==b)=decide (a=b):=by
 by_cases h:a=b <;> simp [h]
theorem mr (a b:ByteArray):(a.toList==b.toList)=decide (a=b):=by
 by_cases h:a=b
 · simp [h]
 · simp [h,Cp]
theorem Hk {op:BinOp} {x y v:Val} {u u2:Value} (hx:VR E.H G w x u) (hy:VR E.H G w y u2) (hr:ah call st (Ma op x y)=some v) (t:TypeId) (ox oy:Operand) :
 ∃ u',(eqGuard op t ox oy u u2).run E.P w=.ok () w/\(binOp op t u u2).run E.P w=.ok u' w/\VR E.H G w v u':=by
 unfold Ma at hr;split at hr
 · rename_i k a k' b
   simp only [ag,decide_eq_true_eq] at hr;obtain ⟨rfl,hr⟩:=hr;simp only [VR] at hx hy;subst hx hy;split at hr <;> simp only [aa,ag,ab,C5,decide_eq_false_iff_not] at hr
   · subst hr; exact ⟨_,by simp [eqGuard,pure],by simp [binOp,Op.intArith,pure],ia⟩
   · subst hr; exact ⟨_,by simp [eqGuard,pure],by simp [binOp,Op.intArith,pure],ia⟩
   · subst hr; exact ⟨_,by simp [eqGuard,pure],by simp [binOp,Op.intArith,pure],ia⟩
   · obtain ⟨hb,rfl⟩:=hr; exact ⟨_,by simp [eqGuard,pure],by simp [binOp,Op.intDiv,hb,pure],ia⟩
   · obtain ⟨hb,rfl⟩:=hr; exact ⟨_,by simp [eqGuard,pure],by simp [binOp,Op.intDiv,hb,pure],ia⟩
   · subst hr; exact ⟨_,by simp [eqGuard,pure],by simp [binOp,Op.intCmp,pure,ud],bz⟩
   · subst hr; exact ⟨_,by simp [eqGuard,pure],by simp [binOp,Op.intCmp,pure,bne,ud],bz⟩
   · subst hr; exact ⟨_,by simp [eqGuard,pure],by simp [binOp,Op.intCmp,pure],bz⟩
   · subst hr; exact ⟨_,by simp [eqGuard,pure],by simp [binOp,Op.intCmp,pure],bz⟩
   · subst hr; exact ⟨_,by simp [eqGuard,pure],by simp [binOp,Op.intCmp,pure],bz⟩
   · subst hr; exact ⟨_,by simp [eqGuard,pure],by simp [binOp,Op.intCmp,pure],bz⟩
 · rename_i a b
   simp only [VR] at hx hy;subst hx hy;split at hr <;> simp only [aa,ag,ab,decide_eq_true_eq] at hr
   · obtain ⟨hs,rfl⟩:=hr
     refine ⟨.string (a++b),by simp [eqGuard,pure],?_,by simp only [VR]⟩
     have hk:¬(((a.size+b.size:Nat):Int) > IntKind.i64.max):=by
      have:IntKind.i64.max=9223372036854775807:=by decide
      unfold dz at hs;omega
     simp only [binOp,Op.stringOp];rw [H6 hk];rfl
   · subst hr; exact ⟨_,by simp [eqGuard,pure],by simp [binOp,Op.stringOp,pure,mr],bz⟩
   · subst hr; exact ⟨_,by simp [eqGuard,pure],by simp [binOp,Op.stringOp,pure,mr],bz⟩
   · subst hr; exact ⟨_,by simp [eqGuard,pure],by simp [binOp,Op.stringOp,pure,ltB],bz⟩
 · simp only [aa] at hr
theorem Hl {op:BinOp} {x y v:Val} {u u2:Value} (hx:VR E.H G w x u) (hy:VR E.H G w y u2) (hr:ah call st (Mb op x y)=some v) (t:TypeId) (ox oy:Operand) :
 ∃ u',(eqGuard op t ox oy u u2).run E.P w=.ok () w/\(binOp op t u u2).run E.P w=.ok u' w/\VR E.H G w v u':=by
 cases op <;> first
  | exact Hk hx hy hr t ox oy
  | (cases x <;> cases y <;> simp only [Mb,aa,ag,ab,decide_eq_true_eq] at hr
     rename_i k a k' b;obtain ⟨hk,rfl⟩:=hr;simp only [VR] at hx hy;subst hx hy;first
      | (subst hk; exact ⟨_,by simp [eqGuard,pure],by simp [binOp,Op.intBits,pure,Nn,orI,Np],ia⟩)
      | exact ⟨_,by simp [eqGuard,pure],by simp [binOp,Op.shift,Int.not_lt.mpr hk,pure,Nq],ia⟩)
theorem ye {x i v:Val} {u ui:Value} {t:TypeId} (hx:VR E.H G w x u) (hi:VR E.H G w i ui) (ht:E.P.underlying t=some .string) (hr:ah call st (tu x i)=some v) :
 ∃ u',(Instr.index t u ui).run E.P w=.ok u' w/\VR E.H G w v u':=by
 simp only [tu,run_bind] at hr;obtain ⟨n,h1,hr⟩:=hr;obtain ⟨k,rfl⟩:=lu hi h1;cases x <;> simp only [aa,ag,ab] at hr
 rename_i s;simp only [VR] at hx;subst hx;obtain ⟨hb,rfl⟩:=hr;simp only [inb,B4,decide_eq_true_eq] at hb;have hn:n.toNat<s.size:=by omega
 refine ⟨_,?_,ia⟩;have e:s[n.toNat]?=some (s.get! n.toNat):=by
  simp only [ByteArray.get!];rw [getElem?_pos s n.toNat hn];congr 1
  show s.data[n.toNat]=s.data[n.toNat]!
  rw [getElem!_pos]
 simp [Instr.index,asIntOf,am ht,hb.1,e,pure]
theorem ue {x v:Val} {u:Value} {i:Nat} (hx:VR E.H G w x u) (hr:ah call st (mn x i)=some v) :
 ∃ u',(Instr.extract u i).run E.P w=.ok u' w/\VR E.H G w v u':=by
 cases x <;> simp only [mn,aa] at hr
 rename_i vs;simp only [VR] at hx;obtain ⟨us,rfl,h⟩:=hx;split at hr <;> simp only [aa,ab] at hr;subst hr;rename_i v hv;obtain ⟨u,h1,h2⟩:=h.at_ hv;exact ⟨u,by simp [Instr.extract,h1,pure],h2⟩
end
end Go.Q
end
section
namespace Go.Q
open Go
open Go.RowKit (Below)
section
variable {call:Key->List D->R} {E:Env} {G:Gh} {st:St} {a:Act} {w:World}
theorem TyR.sizeOf {P:Program} {H:Tab} {t:TypeId} {ti:TI} (h:TyR P H t ti) (w:World):(Go.sizeOf t).run P w=.ok ti.lay.length w:=by
 obtain ⟨i,z,h1,h2,_⟩:=h.info;simp [Go.sizeOf,typeInfo,program,Sem.run,h1,h2,Bind.bind,Sem.bind,pure]
theorem TyR.loadVar {P:Program} {H:Tab} {t:TypeId} {ti:TI} (h:TyR P H t ti) (w:World) (b o:Nat) (vs:List Value) (hl:vs.length=ti.lay.length)
 (hc:∀ (j:Nat) (u:Value),vs[j]?=some u->w.cell? ⟨b,o+j,none⟩=some u):(loadVar t ⟨b,o,none⟩).run P w=.ok (if ti.agg then .agg vs.toArray else vs.getD 0 undef) w:=by
 obtain ⟨d,h1,h2⟩:=h.und;have hls:=run_loadCells_list (P:=P) w ⟨b,o,none⟩ vs (fun j v hj=>by rw [ed]; exact hc j v hj)
 unfold Go.loadVar;simp only [Sem.run_bind,rl h1,Result.andThen_ok,h2];cases ha:ti.agg with
 | true =>
  simp only [if_true,Sem.run_bind,h.sizeOf w,Result.andThen_ok,<- hl,hls];rfl
 | false =>
  have hn1:=h.one ha
  match vs,hl with
  | [u],hl =>
   have:=hc 0 u rfl;simp only [J9] at this;simp [this]
  | [],hl=>simp at hl; omega
  | _::_::_,hl=>simp at hl; omega
theorem mu {H:Tab} {agg:Bool} {cs:List Val} {vs:List Value} (h:VRL H G w cs vs) (h1:∀ u∈vs,u.oneCell'=true):VR H G w (mkV agg cs) (if agg then .agg vs.toArray else vs.getD 0 undef):=by
 cases agg with
 | true=>simp only [mkV,H1,if_true,VR]; exact ⟨vs,rfl,h,h1⟩
 | false =>
  simp only [mkV,H2]
  match cs,vs,h with
  | [],_,_=>simp only [VR]
  | [c],vs,h =>
   simp only [VRL] at h;obtain ⟨u,us,rfl,h2,_⟩:=h;exact h2
  | _::_::_,_,_=>simp only [VR]
theorem Me {H:Tab} {d:D} {ct:CT} {u:Value} {B:List Nat} (h:RC H w G.F d ct u B):VR H G w (cvD ct d) u:=by
 cases d <;> simp only [RC] at h
 · obtain ⟨k,rfl,rfl,_⟩:=h; simp only [cvD,D.I,VR]
 · obtain ⟨rfl,rfl,_⟩:=h; simp only [cvD,D.B,VR]
 · obtain ⟨rfl,rfl,_⟩:=h; simp only [cvD,D.S,VR]
 · obtain ⟨e,ti,A,cap,rfl,h2⟩:=h; simp only [cvD,D.L,VR,RC]; exact ⟨B,e,ti,A,cap,rfl,h2⟩
theorem ko {H:Tab} {row:List D}:∀ {ds:List D} {cts:List CT} {vs:List Value} {B:List Nat} {off:Nat},RL H w G.F ds cts vs B->(∀ (i:Nat) (d:D),ds[i]?=some d->nth row (off+i)=d) →
 VRL H G w (gx cts row off) vs
 | [],cts,vs,B,off,h,_=>by simp only [RL] at h; obtain ⟨rfl,rfl,_⟩:=h; simp [gx,VRL]
 | d::ds,cts,vs,B,off,h,hd=>by
  simp only [RL] at h;obtain ⟨ct,cts',u,us,B1,B2,rfl,rfl,rfl,h3,h4⟩:=h;simp only [gx,VRL];refine ⟨u,us,rfl,?_,ko h4 fun i d hi=>?_⟩
  · have:=hd 0 d rfl
    simp only [J9] at this;rw [this]; exact Me h3
  · have:=hd (i+1) d (by simpa using hi)
    rwa [show off+(i+1)=off+1+i by omega] at this
theorem nv {row:List D} {H:Tab} {j ver i:Nat} (hU:G.U j) (hver:ver<=G.vm j) {F:Fz} (hi:∃ A n cp,G.hv j=.slice A n cp/\i<n):∀ {ds:List D} {cts:List CT} {vs:List Value} {B:List Nat} {off:Nat},RL H w F ds cts vs B →
 (∀ (i:Nat) (d:D),ds[i]?=some d->nth row (off+i)=d)->(∀ q e,cts[q]?=some (.sl e)->vs[q]?=some (G.nh j ver i (off+q))/\(G.ly j)[off+q]?=some (.sl e)) →
 VRL H G w (gj j ver i cts row off) vs
 | [],cts,vs,B,off,h,_,_=>by simp only [RL] at h; obtain ⟨rfl,rfl,_⟩:=h; simp [gj,VRL]
 | d::ds,cts,vs,B,off,h,hd,hn=>by
  simp only [RL] at h;obtain ⟨ct,cts',u,us,B1,B2,rfl,rfl,rfl,h3,h4⟩:=h;simp only [gj,VRL];refine ⟨u,us,rfl,?_,nv hU hver hi h4 (fun i d hi=>?_) fun q e hq=>?_⟩
  · have:=hd 0 d rfl
    simp only [J9] at this;rw [this];cases d <;> simp only [RC] at h3
    · obtain ⟨k,rfl,rfl,_⟩:=h3; simp only [cvO,cvD,D.I,VR]
    · obtain ⟨rfl,rfl,_⟩:=h3; simp only [cvO,cvD,D.B,VR]
    · obtain ⟨rfl,rfl,_⟩:=h3; simp only [cvO,cvD,D.S,VR]
    · obtain ⟨e,ti,A,cap,rfl,h2⟩:=h3
      have:=hn 0 e rfl;simp only [J9,List.getElem?_cons_zero,B7.injEq] at this;simp only [cvO,VR];exact ⟨hU,hver,this.1,by rw [h2.2.1]; rfl,this.2,hi⟩
  · have:=hd (i+1) d (by simpa using hi)
    rwa [show off+(i+1)=off+1+i by omega] at this
  · have:=hn (q+1) e (by simpa using hq)
    rw [show off+(q+1)=off+1+q by omega] at this
    simpa using this
theorem bu {H:Tab} {j:Nat} {e:TypeId} {lv:Lv} {ver:Nat} {rows:ak} (h:OR H G w j (.arr e lv ver rows none)) (h0:0<rows.length) :
 ∃ ti o cur t vs cap,H.ty e=some ti/\0<ti.lay.length/\G.ly j=ti.lay/\G.hv j=.slice (some ⟨G.bm j,o,none⟩) rows.length cap/\G.blk j (G.bm j)/\w.heap[G.bm j]?=some (.cells cur t (0,0)) ∧
  vs=(cur.toList.drop o).take (rows.length*ti.lay.length)/\vs.length=rows.length*ti.lay.length/\o+gb j rows.length cap*ti.lay.length<=cur.size/\rows.length<=cap ∧
  bc H G w j ti.lay lv ver rows o vs/\∀ (q:Nat) (u:Value),vs[q]?=some u->w.cell? ⟨G.bm j,o+q,none⟩=some u:=by
 simp only [OR] at h;obtain ⟨ti,A,cap,h1,h2,h3,_,h4,h5,h6⟩:=h;rcases h6 with ⟨h6,_⟩|⟨o,cur,t,rfl,k2,k3,k4,k5⟩
 · have:=h6.len h5; omega
 · have hle:rows.length*ti.lay.length<=gb j rows.length cap*ti.lay.length:=C3 _ (gm h5)
   refine ⟨ti,o,cur,t,_,cap,h1,h2,h3,h4,k2,k3,rfl,?_,k4,h5,k5,fun q u hq=>?_⟩
   · simp; omega
   · rw [D7,D6] at hq
     split at hq
     · simp only [World.cell?,k3]
       simpa using hq
     · simp at hq
theorem zj {H:Tab} {j:Nat} {e:TypeId} {ver:Nat} {rows:ak} (h:OR H G w j (.arr e .deep ver rows none)) :
 ∃ B,RC H w br (.sl rows) (.sl e) (G.hv j) B/\B.Nodup/\(∀ b∈B,G.blk j b)/\∀ b∈B,∀ q,¬ G.F b q:=by
 simp only [OR] at h;obtain ⟨ti,A,cap,h1,h2,h3,_,h4,h5,h6⟩:=h;rcases h6 with ⟨h6,_⟩|⟨o,cur,t,rfl,k2,k3,k4,k5⟩
 · have h0:rows=[]:=D4.1 (h6.len h5)
   subst h0;exact ⟨[],by simp only [RC]; exact ⟨e,ti,A,cap,rfl,h1,h4,⟨h5,fun _=>.inl ⟨rfl,h6⟩⟩,.inl ⟨trivial,trivial⟩⟩,by simp,by simp,by simp⟩
 · rw [lq] at k4
   simp only [bc,bj] at k5;obtain ⟨m1,m2,⟨B,m3,m4,m5⟩,_⟩:=k5;have hle:rows.length*ti.lay.length<=cap*ti.lay.length:=C3 _ h5;refine ⟨G.bm j::B,?_,m4,fun b hb=>?_,fun b hb q=>?_⟩
   · simp only [RC]
     refine ⟨e,ti,_,cap,rfl,h1,h4,⟨h5,fun _=>.inr ⟨_,o,B,rfl,rfl,fun q hq=>?_⟩⟩,.inr ⟨_,o,_,B,rfl,rfl,fun q u hq=>⟨?_,trivial⟩,m3⟩⟩
     · simp only [World.cell?,k3,F2 (show o+q<cur.size by omega)]; rfl
     · rw [D7,D6] at hq
       split at hq
       · simp only [World.cell?,k3]; simpa using hq
       · simp at hq
   · rcases C1.1 hb with rfl | hb
     · exact k2
     · exact m5 b hb
   · rcases C1.1 hb with rfl | hb
     · exact m1 q
     · exact m2 b (m5 b hb) q
theorem bc.rows {H:Tab} {j:Nat} {lay:List CT} {lv:Lv} {ver:Nat} {rows:ak} {o:Nat} {vs:List Value} (h:bc H G w j lay lv ver rows o vs):∃ F B,af H w F rows lay vs B/\(lv≠.deep->F=G.F):=by
 cases lv <;> simp only [bc] at h
 · obtain ⟨_,_,B,h⟩:=h; exact ⟨_,B,h,fun _=>rfl⟩
 · obtain ⟨_,B,h⟩:=h; exact ⟨_,B,h,fun _=>rfl⟩
 · obtain ⟨_,_,⟨B,h,_⟩,_⟩:=h; exact ⟨_,B,h,fun h=>absurd rfl h⟩
theorem zk {H:Tab} {F:Fz} {row:List D} {lay:List CT} {v:List Value} {B:List Nat} {off n:Nat} (h:RL H w F row lay v B) (hl:off+n<=lay.length) :
 ∃ B',RL H w F ((row.drop off).take n) ((lay.drop off).take n) ((v.drop off).take n) B'/\((v.drop off).take n).length=n/\∀ (i:Nat) (d:D),((row.drop off).take n)[i]?=some d->nth row (off+i)=d:=by
 obtain ⟨va,v1,vb,Ba,Bm,Bb,rfl,rfl,k1,k2,k3,k4,k5⟩:=h.cut off n hl;have e:((va++v1++vb).drop off).take n=v1:=by
  rw [C9,List.drop_append_of_le_length (by omega),<- k1,List.drop_length,G6,List.take_append_of_le_length (by omega),<- k2,List.take_length]
 refine ⟨Bm,by rw [e]; exact k4,by rw [e]; exact k2,fun i d hi=>?_⟩
 rw [D7,D6] at hi;split at hi
 · simp [nth,K1,hi]
 · simp at hi
theorem fq {P:Program} {t:TypeId} {b o:Nat}:(Instr.loadAt t (.pointer (some ⟨b,o,none⟩))).run P w=(loadVar t ⟨b,o,none⟩).run P w:=by
 simp [Instr.loadAt,Instr.sureAddr]
theorem ro (h:Rel E G st a w) (hH:bv E.P E.H) {t:TypeId} {x v:Val} {u:Value} (hx:VR E.H G w x u) (hr:ah call st (pp E.H t x)=some v) :
 ∃ u',(Instr.loadAt t u).run E.P w=.ok u' w/\VR E.H G w v u':=by
 unfold pp at hr;split at hr
 case h_2=>simp only [aa] at hr
 rename_i ti hti;have ht:=TyR.of (hH t ti hti);split at hr
 · -- a box
   rename_i j off;simp only [ax] at hr;split at hr
   case h_2=>simp only [aa] at hr
   rename_i cs hj;simp only [ag,ab,dn,bh,dh,di] at hr;obtain ⟨hle,rfl⟩:=hr;simp only [VR] at hx;obtain ⟨_,rfl⟩:=hx;have ho:=(h.objs j _ hj).2;simp only [OR] at ho;obtain ⟨_,_,vs,t',h3,h4,h5⟩:=ho;have hl:=h4.length;refine ⟨_,fq.trans (ht.loadVar w _ off ((vs.drop off).take ti.lay.length) (by simp; omega) fun q u hq=>?_),mu ((h4.drop_ off).take_ _) fun u hu=>h5 u (G9 (J6 hu))⟩
   rw [D7,D6] at hq;split at hq
   · simp only [World.cell?,h3]; simpa using hq
   · simp at hq
 · -- a row that is read
   rename_i lay row off;simp only [pc,ag,ab,dn,bh,dh,di] at hr;obtain ⟨hle,rfl⟩:=hr;simp only [VR] at hx;obtain ⟨b,o,vs,B,rfl,h1,h2⟩:=hx;obtain ⟨B',k1,k2,k3⟩:=zk h2 hle;refine ⟨_,fq.trans (ht.loadVar w _ _ _ k2 fun q u hq=>?_),mu (ko k1 k3) k1.one⟩
   rw [D7,D6] at hq;split at hq
   · have:=(h1 _ u hq).1; rwa [<- N1] at this
   · simp at hq
 · -- an element of an own array
   rename_i j i off;simp only [ax] at hr;simp only [VR] at hx;obtain ⟨hU,b,o,n,cp,hv1,hin,rfl⟩:=hx;have key:∀ e lv ver rows,st.o j=some (.arr e lv ver rows none)->∀ te,E.H.ty e=some te->off+ti.lay.length<=te.lay.length →
    ∃ us,(Instr.loadAt t (.pointer (some ⟨b,o+i*(G.ly j).length+off,none⟩))).run E.P w=.ok (if ti.agg then .agg us.toArray else us.getD 0 undef) w/\(∀ u∈us,u.oneCell'=true) ∧
     (lv≠.deep->VRL E.H G w (gx ((te.lay.drop off).take ti.lay.length) (rowAt rows i) off) us)/\(lv=.deep->VRL E.H G w (gj j ver i ((te.lay.drop off).take ti.lay.length) (rowAt rows i) off) us):=by
    intro e lv ver rows hj te hte hle;have ho:=(h.objs j _ hj).2;have hn:n=rows.length:=by
     simp only [OR] at ho;obtain ⟨ti',A,cap,_,_,_,_,h4,_⟩:=ho;rw [hv1] at h4; simp at h4; exact h4.2.1
    subst hn;obtain ⟨ti',o',cur,t',vs,cap,q1,q2,q3,q4,q5,q6,rfl,q8,q9,q10,q11,q12⟩:=bu ho (by omega)
    rw [q1] at hte;obtain rfl:ti'=te:=by simpa using hte
    rw [hv1] at q4;simp only [Value.slice.injEq,B7.injEq,Addr.mk.injEq,and_true,true_and] at q4;obtain ⟨⟨rfl,rfl⟩,_⟩:=q4;rw [q3];obtain ⟨F,B,hrr,hF⟩:=q11.rows;obtain ⟨va,v,vb,Ba,Bm,Bb,e1,e2,k3,k4,_,_⟩:=hrr.cut i hin;obtain ⟨B',s1,s2,s3⟩:=zk k4 hle;have hseg:∀ (q:Nat) (u:Value),((v.drop off).take ti.lay.length)[q]?=some u->((cur.toList.drop o).take (rows.length*ti'.lay.length))[i*ti'.lay.length+off+q]?=some u:=by
     intro q u hq;rw [D7,D6] at hq;split at hq
     · rw [e1,C9,D3 (by omega),k3,show i*ti'.lay.length+off+q-i*ti'.lay.length=off+q by omega,
        D2 (B9.1 hq).1]
       exact hq
     · simp at hq
    refine ⟨_,fq.trans (ht.loadVar w _ _ _ s2 fun q u hq=>?_),s1.one,fun hlv=>?_,fun hlv=>?_⟩
    · have:=q12 _ u (hseg q u hq)
      rw [<- this]; congr 2; omega
    · rw [hF hlv] at s1; exact ko s1 s3
    · subst hlv
      simp only [bc] at q11;refine nv hU (by simp only [OR] at ho; obtain ⟨_,_,_,_,_,_,hvm,_⟩:=ho; omega) ⟨_,_,_,hv1,hin⟩ s1 s3 fun q e' hq=>?_
      rw [D7,D6] at hq;split at hq
      · have h6:=q11.2.2.2 i (off+q) e' hin hq
        refine ⟨?_,by rw [q3]; exact hq⟩
        rename_i hlt;have hb:q<((v.drop off).take ti.lay.length).length:=by rw [s2]; exact hlt
        have:=hseg q _ (D5 hb);rw [show i*ti'.lay.length+off+q=i*ti'.lay.length+(off+q) by omega,h6] at this
        rw [D5 hb,this]
      · simp at hq
   split at hr
   · rename_i e ver rows hj
     split at hr
     case h_2=>simp only [aa] at hr
     rename_i te hte;simp only [pc,ag,ab,dn,bh,dh,di] at hr;obtain ⟨hle,rfl⟩:=hr;obtain ⟨us,m1,m2,_,m4⟩:=key e .deep ver rows hj te hte hle;exact ⟨_,m1,mu (m4 rfl) m2⟩
   · rename_i e lv ver rows hnd hj
     split at hr
     case h_2=>simp only [aa] at hr
     rename_i te hte;simp only [pc,ag,ab,dn,bh,dh,di] at hr;obtain ⟨hle,rfl⟩:=hr;obtain ⟨us,m1,m2,m3,_⟩:=key e lv ver rows hj te hte hle;exact ⟨_,m1,mu (m3 fun e=>by subst e; exact hnd rfl) m2⟩
   · simp only [aa] at hr
 · simp only [aa] at hr
end
end Go.Q
end
section
namespace Go.Q
open Go
open Go.RowKit (Below)
section
variable {call:Key->List D->R} {E:Env} {G:Gh} {st:St} {a:Act} {w:World}
theorem RL.at_ {H:Tab} {F:Fz}:∀ {ds:List D} {cts:List CT} {vs:List Value} {B:List Nat},RL H w F ds cts vs B->∀ {i:Nat} {ct:CT},cts[i]?=some ct →
 ∃ u B',vs[i]?=some u/\RC H w F (nth ds i) ct u B'/\(∀ b∈B',b∈B)/\(B.Nodup->B'.Nodup)
 | [],cts,vs,B,h,i,ct,hi=>by simp only [RL] at h; simp [h.1] at hi
 | d::ds,cts,vs,B,h,i,ct,hi=>by
  simp only [RL] at h;obtain ⟨ct',cts',u,us,B1,B2,rfl,rfl,rfl,h3,h4⟩:=h;cases i with
  | zero=>obtain rfl:ct'=ct:=by simpa using hi
          exact ⟨u,B1,rfl,h3,fun b hb=>by simp [hb],fun hn=>(C7.1 hn).1⟩
  | succ i =>
   obtain ⟨u',B',k1,k2,k3,k4⟩:=RL.at_ h4 (i:=i) (by simpa using hi)
   exact ⟨u',B',by simpa using k1,by simpa [nth] using k2,fun b hb=>by simp [k3 b hb],fun hn=>k4 (C7.1 hn).2.1⟩
theorem ib {H:Tab} {j:Nat} {e0:TypeId} {ver i c:Nat} {rows:ak} {e:TypeId} (h:OR H G w j (.arr e0 .deep ver rows none)) (hi:i<rows.length) (hc:(G.ly j)[c]?=some (.sl e)) :
 ∃ B,RC H w br (.sl (nth (rowAt rows i) c).L) (.sl e) (G.nh j ver i c) B/\nth (rowAt rows i) c=.sl (nth (rowAt rows i) c).L:=by
 obtain ⟨ti,o,cur,t,vs,cap,q1,q2,q3,q4,q5,q6,rfl,q8,q9,q10,q11,q12⟩:=bu h (by omega)
 simp only [bc] at q11;obtain ⟨_,_,⟨B,hrr,_⟩,hn⟩:=q11;obtain ⟨va,v,vb,Ba,Bm,Bb,e1,e2,k3,k4,_,_⟩:=hrr.cut i hi;rw [q3] at hc;obtain ⟨u,B',s1,s2,_,_⟩:=k4.at_ hc;have h6:=hn i c e hi hc;rw [e1,C9,D3 (by omega),k3,show i*ti.lay.length+c-i*ti.lay.length=c by omega,D2 (B9.1 s1).1,s1] at h6
 obtain rfl:u=_:=by simpa using h6
 have:nth (rowAt rows i) c=.sl (nth (rowAt rows i) c).L:=by
  cases hd:nth (rowAt rows i) c with
  | sl r=>rfl
  | int n=>rw [hd] at s2; simp [RC] at s2
  | bool n=>rw [hd] at s2; simp [RC] at s2
  | str n=>rw [hd] at s2; simp [RC] at s2
 exact ⟨B',by rw [this] at s2; exact s2,this⟩
theorem vw (h:Rel E G st a w) {x:Val} {u:Value} {r:Option TypeId×ak} (hx:VR E.H G w x u) (hr:ah call st (pn x)=some r) :
 ∃ A cap,u=.slice A r.2.length cap/\r.2.length<=cap:=by
 unfold pn at hr;split at hr
 · simp only [ab] at hr; subst hr
   simp only [VR,RC] at hx;obtain ⟨B,e,ti,A,cap,_,_,h3,h4,_⟩:=hx;exact ⟨A,cap,h3,h4.le⟩
 · simp only [ab] at hr; subst hr
   simp only [VR] at hx;obtain ⟨A,rfl,_⟩:=hx;exact ⟨A,0,rfl,D1 _⟩
 · simp only [ax] at hr
   split at hr <;> simp only [ab,aa] at hr;subst hr;rename_i hj;have ho:=(h.objs _ _ hj).2;simp only [OR] at ho;obtain ⟨ti,A,cap,_,_,_,_,h4,h5,_⟩:=ho;simp only [VR] at hx;exact ⟨A,cap,hx.2.1.trans h4,h5⟩
 · simp only [ax] at hr
   split at hr <;> simp only [ab,aa,ag,ay] at hr;obtain ⟨rfl,rfl⟩:=hr;rename_i rs hj;simp only [VR] at hx;obtain ⟨hU,_,rfl,_,hc,A,n,cp,hv,hi⟩:=hx;have ho:=(h.objs _ _ hj).2;have hn:n=rs.length:=by
    have ho':=ho;simp only [OR] at ho';obtain ⟨ti',A,cap,_,_,_,_,h4,_⟩:=ho';rw [hv] at h4; simp at h4; exact h4.2.1
   obtain ⟨B,k,_⟩:=ib ho (hn▸hi) hc;simp only [RC] at k;obtain ⟨e,ti,A,cap,_,_,h3,h4,_⟩:=k;exact ⟨A,cap,h3,h4.le⟩
 · simp only [aa] at hr
theorem zl {P:Program} {t:TypeId} {u:Value} {d:TypeDesc} (ht:P.underlying t=some d) (hd:(d=.string/\∃ s,u=.string s)\/(∃ e,d=.slice e)/\∃ A n cap,u=.slice A n cap) (ty:TypeId) (tl:List TypeId) (tl':List Value) :
 (Builtin.len_ (t::tl).toArray ty (u::tl').toArray).run P w=.ok (match u with | .string s=>.int .i64 s.size | .slice _ n _=>.int .i64 n | _=>undef) w:=by
 rcases hd with ⟨rfl,s,rfl⟩|⟨⟨e,rfl⟩,A,n,cap,rfl⟩
 · simp [Builtin.len_,am ht,goInt,pure]
 · simp [Builtin.len_,am ht,goInt,pure]
theorem bv.field {P:Program} {H:Tab} (hH:bv P H) {t:TypeId} {ti:TI} (h:H.ty t=some ti) {f n:Nat} {t':TypeId} (hf:ti.flds[f]?=some (n,t')) (hfl:ti.agg=true) :
 ∃ fs fd tf,P.underlying t=some (.struct fs)/\fs[f]?=some fd/\fd.offset=n/\fd.type=t'/\H.ty t'=some tf/\0<tf.lay.length/\(ti.lay.drop n).take tf.lay.length=tf.lay:=by
 have h1:=hH t _ h;simp only [tyB,B4] at h1;obtain ⟨_,h2⟩:=h1;cases hu:P.underlying t with
 | none=>rw [hu] at h2; simp at h2
 | some d =>
  rw [hu] at h2;cases d <;> simp [hfl] at h2
  case struct fs =>
   obtain ⟨h3,h4⟩:=h2;rw [h3] at hf;simp only [List.getElem?_map,Option.map_eq_some_iff,C8.injEq] at hf;obtain ⟨fd,hfd,rfl,rfl⟩:=hf;have hlt:f<fs.size:=by
    have:=(B9.1 hfd).1;simpa using this
   have e:fs[f]=fd:=by
    have:=(B9.1 hfd).2;simpa using this
   have h5:=h4 f hlt;rw [e] at h5;cases ht:H.ty fd.type with
   | none=>rw [ht] at h5; simp at h5
   | some tf =>
    rw [ht] at h5;simp only [B4,decide_eq_true_eq,dh,di,bh] at h5;exact ⟨fs,fd,tf,rfl,by rw [<- e]; exact F2 hlt,rfl,rfl,rfl,D9 Nat.zero_lt_one (E3 (by simpa [E7] using h5.2)),h5.1⟩
theorem gc {P:Program} {H:Tab} (hH:bv P H) {t:TypeId} {ti:TI} (h:H.ty t=some ti) {f n:Nat} {t':TypeId} (hf:ti.flds[f]?=some (n,t')) (hfl:ti.agg=true) (b o:Nat) :
 (Instr.fieldAt t (.pointer (some ⟨b,o,none⟩)) f).run P w=.ok (.pointer (some ⟨b,o+n,none⟩)) w:=by
 obtain ⟨fs,fd,tf,h1,h2,rfl,rfl,h3,h4,_⟩:=hH.field h hf hfl;have hs:=(TyR.of (hH _ _ h3)).sizeOf (w:=w);have hz:¬ tf.lay.length=0:=by omega
 simp [Instr.fieldAt,am h1,h2,Instr.sureAddr,fieldPlace,hs,hz,ed,pure]
theorem pu (hH:bv E.P E.H) {t:TypeId} {x v:Val} {u:Value} {f:Nat} (hx:VR E.H G w x u) (hr:ah call st (iz E.H t x f)=some v) :
 ∃ u',(Instr.fieldAt t u f).run E.P w=.ok u' w/\VR E.H G w v u':=by
 unfold iz at hr;split at hr
 case h_2=>simp only [aa] at hr
 rename_i ti hti;split at hr
 case h_2=>simp only [aa] at hr
 rename_i n t' hf;simp only [ag] at hr;obtain ⟨hag,hr⟩:=hr;split at hr
 · simp only [ab] at hr; subst hr
   simp only [VR] at hx ⊢;obtain ⟨hU,rfl⟩:=hx;exact ⟨_,gc hH hti hf hag _ _,hU,rfl⟩
 · simp only [ab] at hr; subst hr
   simp only [VR] at hx ⊢;obtain ⟨b,o,vs,B,rfl,h1,h2⟩:=hx;exact ⟨_,gc hH hti hf hag _ _,b,o,vs,B,by rw [N1],h1,h2⟩
 · simp only [ab] at hr; subst hr
   simp only [VR] at hx ⊢;obtain ⟨hU,b,o,m,cp,h1,h2,rfl⟩:=hx;exact ⟨_,gc hH hti hf hag _ _,hU,b,o,m,cp,h1,h2,by rw [N1]⟩
 · simp only [ab] at hr; subst hr
   simp only [VR] at hx ⊢;obtain ⟨hU,hvm,h3,h4,ti',b,o,m,cp,h1,h2,h5,rfl⟩:=hx;exact ⟨_,gc hH hti hf hag _ _,hU,hvm,h3,h4,ti',b,o,m,cp,h1,h2,h5,by rw [N1]⟩
 · simp only [aa] at hr
theorem ft {α:Type} (hH:bv E.P E.H) {t:TypeId} {k:TypeId->TI->M α} {r:α} (hr:ah call st (lg E.H t k)=some r) :
 ∃ e te,E.P.underlying t=some (.slice e)/\E.H.ty e=some te/\0<te.lay.length/\fj te.lay=true/\ah call st (k e te)=some r:=by
 unfold lg at hr;split at hr
 · rename_i e fl ht
   obtain ⟨h1,te,h2,h3⟩:=hH.slice ht;rw [h2] at hr;simp only [ag] at hr;exact ⟨e,te,h1,h2,h3,hr.1,hr.2⟩
 · simp only [aa] at hr
theorem jb {P:Program} {H:Tab} (hH:bv P H) {t e:TypeId} {te:TI} (ht:P.underlying t=some (.slice e)) (he:H.ty e=some te) {b o n cap:Nat} {k:IntKind} {i:Int} (h0:0<=i) (h1:i<n) :
 (Instr.indexAt t (.slice (some ⟨b,o,none⟩) n cap) (.int k i)).run P w=.ok (.pointer (some ⟨b,o+i.toNat*te.lay.length,none⟩)) w:=by
 have hs:=(TyR.of (hH _ _ he)).sizeOf (w:=w);simp [Instr.indexAt,asIntOf,am ht,hs,h0,h1,ed,pure]
theorem uf {n:Int} {l:Nat}:inb n l=true↔0<=n/\n<l:=by simp [inb]
theorem pw (h:Rel E G st a w) (hH:bv E.P E.H) {t:TypeId} {x i v:Val} {u ui:Value} (hx:VR E.H G w x u) (hi:VR E.H G w i ui) (hr:ah call st (np E.H t x i)=some v) :
 ∃ u',(Instr.indexAt t u ui).run E.P w=.ok u' w/\VR E.H G w v u':=by
 obtain ⟨e,te,ht,he,hpos,_,hr⟩:=ft hH hr;simp only [run_bind] at hr;obtain ⟨n,hn,hr⟩:=hr;obtain ⟨k,rfl⟩:=lu hi hn;split at hr
 · simp only [ag,ab,B4,ay,uf] at hr
   obtain ⟨⟨rfl,h0,h1⟩,rfl⟩:=hr;simp only [VR,RC] at hx;obtain ⟨B,e',ti,A,cap,hee,h2,rfl,h4,h5⟩:=hx;simp only [CT.sl.injEq] at hee;subst hee;rw [he] at h2;obtain rfl:te=ti:=by simpa using h2
   rcases h5 with ⟨rfl,_⟩|⟨b,o,vs,B',rfl,rfl,hl,hrr⟩
   · simp at h1; omega
   · obtain ⟨va,v,vb,Ba,Bm,Bb,rfl,rfl,k3,k4,_,_⟩:=hrr.cut n.toNat (by omega)
     refine ⟨_,jb hH ht he h0 h1,?_⟩;simp only [VR];refine ⟨b,o+n.toNat*te.lay.length,v,Bm,by rw [J9],?_,k4⟩
     rw [<- k3];exact hl.left.right
 · rename_i j
   simp only [ax] at hr;split at hr
   case h_2=>simp only [aa] at hr
   rename_i e' lv ver rows ov hj;simp only [ag,ab,B4,ay,uf] at hr;obtain ⟨⟨rfl,h0,h1⟩,rfl⟩:=hr;have ho:=(h.objs _ _ hj).2;simp only [OR] at ho;obtain ⟨ti,A,cap,h2,h3,h4,_,h5,h6,h7⟩:=ho;rw [he] at h2;obtain rfl:te=ti:=by simpa using h2
   simp only [VR] at hx ⊢;obtain ⟨hU,rfl,_⟩:=hx;rw [h5];rcases h7 with ⟨h7,_⟩|⟨o,cur,t',rfl,_⟩
   · have:=h7.len h6; omega
   · exact ⟨_,jb hH ht he h0 h1,hU,_,o,_,cap,rfl,by omega,by rw [h4,J9]⟩
 · rename_i j ver i' c e'
   simp only [ax] at hr;split at hr
   case h_2=>simp only [aa] at hr
   rename_i e0 ver' rs hj;simp only [ag,ab,B4,ay,uf] at hr;obtain ⟨⟨rfl,rfl,h0,h1⟩,rfl⟩:=hr;have ho:=(h.objs _ _ hj).2;simp only [VR] at hx;obtain ⟨hU,hvm,rfl,_,hc,A,m,cp,hv,hi'⟩:=hx;have hm:m=rs.length:=by
    have ho':=ho;simp only [OR] at ho';obtain ⟨ti',A,cap,_,_,_,_,h4,_⟩:=ho';rw [hv] at h4; simp at h4; exact h4.2.1
   obtain ⟨B,k,_⟩:=ib ho (hm▸hi') hc;simp only [RC] at k;obtain ⟨e2,ti,A2,cap,hee,h2,h3,h4,h5⟩:=k;simp only [CT.sl.injEq] at hee;subst hee;rw [he] at h2;obtain rfl:te=ti:=by simpa using h2
   rcases h5 with ⟨h5,_⟩|⟨b,o,vs,B',rfl,_⟩
   · rw [h5] at h1; simp at h1; omega
   · rw [h3]
     refine ⟨_,jb hH ht he h0 h1,?_⟩;simp only [VR];exact ⟨hU,hvm,hc,⟨_,_,_,hv,hi'⟩,te,b,o,_,cap,he,h3,by omega,by rw [J9]⟩
 · simp only [aa] at hr
end
end Go.Q
end
section
namespace Go.Q
open Go
open Go.RowKit (Below)
theorem bi {α:Type} (n:Nat) (xs l:List α) (i:Nat) (h:n+xs.length<=l.length):(over n xs l)[i]?=if n<=i/\i<n+xs.length then xs[i-n]? else l[i]?:=by
 rw [cg n xs l h];by_cases h1:i<n
 · rw [C9,D2 (by simp; omega),List.getElem?_take_of_lt h1,H6 (by omega)]
 · by_cases h2:i<n+xs.length
   · rw [C9,D3 (by simp; omega),H5 (by omega),D2 (by simp; omega)]
     congr 1; simp; omega
   · rw [D3 (by simp; omega),D6,H6 (by omega)]
     congr 1; simp; omega
theorem Aq (vs:List Value):∀ (k off:Nat) (cs:List Value),off+k+vs.length<=cs.length →
 (vs.zipIdx k).foldl (fun (c:Array Value) (p:Value×Nat)=>c.setIfInBounds (off+p.2) p.1) cs.toArray=(over (off+k) vs cs).toArray:=by
 induction vs with
 | nil=>intro k off cs h; rw [cg _ _ _ h]; simp
 | cons v vs ih =>
  intro k off cs h;simp only [E8] at h;simp only [List.zipIdx_cons,List.foldl_cons,List.setIfInBounds_toArray];rw [ih (k+1) off (cs.set (off+k) v) (by simp; omega)]
  congr 1
  apply F1;intro i;rw [bi _ _ _ _ (by simp; omega),bi _ _ _ _ (by simp; omega)]
  simp only [E8];by_cases h1:off+(k+1)<=i/\i<off+(k+1)+vs.length
  · rw [H5 h1,H5 (by omega),show i-(off+k)=(i-(off+(k+1)))+1 by omega,List.getElem?_cons_succ]
  · rw [H6 h1]
    by_cases h2:i=off+k
    · subst h2
      rw [H5 (by omega),Nat.sub_self,List.getElem?_set_self (by omega)]; rfl
    · rw [H6 (by omega),List.getElem?_set_ne (by omega)]
theorem vx (place:Nat->Option (Nat×Nat)) (i off size:Nat) (hp:place i=some (off,size)) (u:Value) (vals cs:List Value) (rest:List (Nat×Value)) (hu:u.cells=vals.toArray) (hs:vals.length=size)
 (hl:off+size<=cs.length):Instr.fill place cs.toArray ((i,u)::rest)=Instr.fill place (over off vals cs).toArray rest:=by
 have h:=Aq vals 0 off cs (by omega)
 simp only [Instr.fill,hp,hu,K8,hs];rw [H6 (by simp; omega)]
 congr 1
 rw [<- Array.foldl_toList];simpa using h
section
variable {call:Key->List D->R} {E:Env} {G:Gh} {st:St} {a:Act} {w:World}
theorem VR.one {H:Tab} {x:Val} {u:Value} (h:VR H G w x u) (hx:okC x=true) (hag:∀ cs,x≠.agg cs):u.oneCell'=true:=by
 cases x <;> simp only [VR,RC] at h
 case agg cs=>exact absurd rfl (hag cs)
 case tup=>simp [okC] at hx
 case und=>simp [okC] at hx
 case dead=>simp [okC] at hx
 case im=>obtain ⟨B,e,ti,A,cap,_,_,rfl,_⟩:=h; rfl
 case nils=>obtain ⟨A,rfl,_⟩:=h; rfl
 case hd=>exact h.2.2
 case hn=>exact h.2.2.2.1
 case pe=>exact h.2.2.2.1
 case bp=>rw [h.2]; rfl
 case bq=>rcases h with rfl | ⟨_,rfl⟩ <;> rfl
 case ip=>obtain ⟨b,o,vs,B,rfl,_⟩:=h; rfl
 case ep=>obtain ⟨_,b,o,n,cp,_,_,rfl⟩:=h; rfl
 case en=>obtain ⟨_,_,_,_,ti,b,o,n,cp,_,_,_,rfl⟩:=h; rfl
 case fn=>obtain ⟨vs,rfl,_⟩:=h; rfl
 case err=>rcases h with ⟨_,rfl⟩|⟨_,t,x,rfl⟩ <;> rfl
 case ub=>obtain ⟨b,rfl⟩:=h; rfl
 all_goals (subst h; rfl)
theorem Ar {u:Value} (h:u.oneCell'=true):u.cells=#[u]:=by cases u <;> first | rfl | simp [Value.oneCell'] at h
theorem fg {H:Tab} {x:Val} {u:Value} (h:VR H G w x u) (hx:okC x=true):∃ vs:List Value,u.cells=vs.toArray/\VRL H G w (dg x) vs/\vs.length=(dg x).length/\∀ v∈vs,v.oneCell'=true:=by
 by_cases hag:∃ cs,x=.agg cs
 · obtain ⟨cs,rfl⟩:=hag
   simp only [VR] at h;obtain ⟨vs,rfl,h1,h2⟩:=h;exact ⟨vs,by simp [Value.cells],h1,h1.length,h2⟩
 · have h1:=h.one hx fun cs e=>hag ⟨cs,e⟩
   have h2:dg x=[x]:=by cases x <;> first | rfl | exact absurd ⟨_,rfl⟩ hag
   rw [h2];exact ⟨[u],by rw [Ar h1],by simp only [VRL]; exact ⟨u,[],rfl,h,rfl⟩,rfl,by simpa using h1⟩
theorem VRL.over_ {H:Tab} {xs ys:List Val} {vs us:List Value} {n:Nat} (h:VRL H G w ys vs) (h':VRL H G w xs us) (hl:n+xs.length<=ys.length):VRL H G w (over n xs ys) (over n us vs):=by
 have l1:=h.length;have l2:=h'.length;rw [cg n xs ys hl,cg n us vs (by omega),l2]
 exact ((h.take_ n).append h').append (h.drop_ _)
theorem Cq (H:Tab) {c:CT} {v:Value} (h:zvB c v=true):VR H G w (vn c) v/\v.oneCell'=true:=by
 cases c <;> cases v <;> simp [zvB] at h <;> simp [vn,VR,Value.oneCell']
 · obtain ⟨rfl,rfl⟩:=h; simp
 · exact h
 · rename_i s
   rw [h]; rfl
 · rename_i a n cp
   cases a <;> cases n <;> cases cp <;> simp [zvB] at h ⊢
 · rename_i a
   cases a <;> simp [zvB] at h ⊢
theorem jo (H:Tab):∀ {lay:List CT} {vs:List Value},zvL lay vs=true->VRL H G w (lay.map vn) vs/\∀ u∈vs,u.oneCell'=true
 | [],[],_=>⟨by simp [VRL],by simp⟩
 | [],_::_,h=>by simp [zvL] at h
 | _::_,[],h=>by simp [zvL] at h
 | c::cs,v::vs,h=>by
  simp only [zvL,B4] at h;obtain ⟨h1,h2⟩:=h;obtain ⟨k1,k2⟩:=jo H h2;have h3:=Cq (G:=G) (w:=w) H h1;simp only [C0,VRL];exact ⟨⟨v,vs,rfl,h3.1,k1⟩,by simpa using ⟨h3.2,k2⟩⟩
theorem vy {H:Tab} {P:Program} (hH:bv P H) {t:TypeId} {ti:TI} (hti:H.ty t=some ti) (hag:ti.agg=true) {fs:Array Field} (hu:P.underlying t=some (.struct fs)) :
 ∀ {ps:List (Nat×Val)} {us:List (Nat×Value)} {cs cs':List Val} {vs:List Value},ps.map (·.1)=us.map (·.1)->VRL H G w (ps.map (·.2)) (us.map (·.2))->VRL H G w cs vs->(∀ u∈vs,u.oneCell'=true) →
 vt H ti.flds ps cs=some cs' →
 ∃ vs':List Value,(∀ (place:Nat->Option (Nat×Nat)),(∀ i n t',ti.flds[i]?=some (n,t')->∀ tf,H.ty t'=some tf->place i=some (n,tf.lay.length))->Instr.fill place vs.toArray us=some vs'.toArray)/\VRL H G w cs' vs'/\∀ u∈vs',u.oneCell'=true
 | [],us,cs,cs',vs,h1,h2,h3,h4,hf=>by
  simp only [vt,B7.injEq] at hf;subst hf;have:us=[]:=by cases us <;> simp_all
  subst this;exact ⟨vs,fun place _=>by simp [Instr.fill],h3,h4⟩
 | (i,v)::ps,us,cs,cs',vs,h1,h2,h3,h4,hf=>by
  match us,h1,h2 with
  | [],h1,h2=>simp at h1
  | (i',u)::us,h1,h2 =>
   simp only [C0,N7.injEq] at h1;obtain ⟨rfl,h1⟩:=h1;simp only [C0,VRL,N7.injEq] at h2;obtain ⟨u',us',⟨rfl,rfl⟩,h5,h6⟩:=h2;simp only [vt] at hf;split at hf
   · simp at hf
   · rename_i off t' hfl
     split at hf
     · simp at hf
     · rename_i tf htf
       cases hc:(okC v&&(C2 (len (dg v)) (len tf.lay)&&J1 (off+len tf.lay) (len cs))) with
       | false=>rw [hc] at hf; simp at hf
       | true =>
        rw [hc] at hf;simp only [H1] at hf;simp only [B4,ay,dn,bh] at hc;obtain ⟨k1,k2,k3⟩:=hc;obtain ⟨ws,m1,m2,m3,m4⟩:=fg h5 k1;have l3:=h3.length;have hov:=h3.over_ (n:=off) m2 (by omega)
        have hone:∀ x∈over off ws vs,x.oneCell'=true:=by
         intro x hx;rw [cg _ _ _ (by omega)] at hx
         simp only [B8] at hx;rcases hx with (hx | hx) | hx
         · exact h4 x (J6 hx)
         · exact m4 x hx
         · exact h4 x (G9 hx)
        obtain ⟨vs',n1,n2,n3⟩:=vy hH hti hag hu h1 h6 hov hone hf;refine ⟨vs',fun place hp=>?_,n2,n3⟩
        rw [vx place i off tf.lay.length (hp i off t' hfl tf htf) u ws vs us m1 (by omega) (by omega)]
        exact n1 place hp
theorem bv.struct {P:Program} {H:Tab} (hH:bv P H) {t:TypeId} {ti:TI} (h:H.ty t=some ti) (hfl:ti.agg=true):∃ fs,P.underlying t=some (.struct fs):=by
 have h1:=hH t _ h;simp only [tyB,B4] at h1;obtain ⟨_,h2⟩:=h1;cases hu:P.underlying t with
 | none=>rw [hu] at h2; simp at h2
 | some d =>
  rw [hu] at h2;cases d <;> simp [hfl] at h2
  exact ⟨_,rfl⟩
theorem rg {P:Program} {H:Tab} {t:TypeId} {ti:TI} (h:TyR P H t ti) (w:World):∃ z,(zeroValue t).run P w=.ok z w/\zvL ti.lay z.cells.toList=true/\(ti.agg=true↔∃ cs,z=.agg cs):=by
 obtain ⟨i,z,h1,h2,h3,h4,h5,h6,h7⟩:=h.info;exact ⟨z,by simp [zeroValue,typeInfo,program,Sem.run,h1,h4,Bind.bind,Sem.bind,pure],h5,h6⟩
theorem nz {P:Program} {H:Tab} (hH:bv P H):∀ (l:List Field),(∀ f∈l,∃ tf,H.ty f.type=some tf) →
 l.mapM (fun f=>(P.info? f.type).map fun i=>(f.offset,i.size))=some (l.map fun f=>(f.offset,((H.ty f.type).map fun i=>i.lay.length).getD 0))
 | [],_=>rfl
 | f::l,hl=>by
  obtain ⟨tf,h1⟩:=hl f (by simp)
  obtain ⟨i,z,h2,h3,_⟩:=(TyR.of (hH _ _ h1)).info;simp [List.mapM_cons,nz hH l fun f hf=>hl f (by simp [hf]),h1,h2,h3]
theorem yf (hH:bv E.P E.H) {t:TypeId} {ps:List (Nat×Val)} {us:List (Nat×Value)} {v:Val} (h1:ps.map (·.1)=us.map (·.1)) (h2:VRL E.H G w (ps.map (·.2)) (us.map (·.2))) (hr:ah call st (tk E.H t ps)=some v) :
 ∃ u,(Instr.build t us.toArray).run E.P w=.ok u w/\VR E.H G w v u:=by
 unfold tk at hr;split at hr
 case h_2=>simp only [aa] at hr
 rename_i ti hti;simp only [ag] at hr;obtain ⟨hag,hr⟩:=hr;split at hr
 case h_2=>simp only [aa] at hr
 rename_i cs hf;simp only [ab] at hr;subst hr;obtain ⟨fs,hu⟩:=hH.struct hti hag;have hT:=TyR.of (hH t ti hti);obtain ⟨i,z,i1,i2,i3,i4,i5,i6,i7⟩:=hT.info;obtain ⟨z1,z2⟩:=jo (G:=G) (w:=w) E.H i5;obtain ⟨vs',k1,k2,k3⟩:=vy hH hti hag hu h1 h2 z1 z2 hf;have hfl:∀ f∈fs.toList,∃ tf,E.H.ty f.type=some tf:=by
  intro f hf;obtain ⟨n,hn,rfl⟩:=List.mem_iff_getElem.1 hf;have h3:=hH t ti hti;simp only [tyB,hu,B4,decide_eq_true_eq] at h3;have h4:=C6.1 h3.2.2 _ hf;split at h4
  · rename_i tf htf; exact ⟨tf,htf⟩
  · simp at h4
 have hpl:=nz hH fs.toList hfl;refine ⟨.agg vs'.toArray,?_,by simp only [VR]; exact ⟨vs',rfl,k2,k3⟩⟩
 have hb:E.P.built t us=some vs'.toArray:=by
  unfold Program.built;rw [i1,hu];simp only [i4,hpl];have:=k1 (fun j=>(fs.toList.map fun f=>(f.offset,((E.H.ty f.type).map fun i=>i.lay.length).getD 0))[j]?) fun j n t' hj tf htf=>by
   obtain ⟨fs',fd,tf',q1,q2,q3,q4,q5,_⟩:=hH.field hti hj hag;rw [hu] at q1;simp only [B7.injEq,TypeDesc.struct.injEq] at q1;subst q1;have hlt:=(E5.1 q2).1;have e:=(E5.1 q2).2;simp [hlt,e,q3,q4,htf]
  simpa using this
 exact run_build w t _ _ (by simpa using hb)
end
end Go.Q
end
section
namespace Go.Q
open Go
open Go.RowKit (Below)
section
variable {call:Key->List D->R} {E:Env} {G:Gh} {st:St} {a:Act} {w:World}
theorem vz (h:Rel E G st a w) {x:Val} {u:Value} {r:Option TypeId×ak} (hx:VR E.H G w x u) (hr:ah call st (pn x)=some r) :
 ∃ A cap,u=.slice A r.2.length cap/\r.2.length<=cap/\(r.2=[]\/∃ e ti b o vs B F,r.1=some e/\E.H.ty e=some ti/\A=some ⟨b,o,none⟩/\fv w F b o vs/\af E.H w F r.2 ti.lay vs B):=by
 have key:∀ {rows:ak} {e:TypeId} {v:Value} {B:List Nat} {F:Fz},RC E.H w F (.sl rows) (.sl e) v B →
  ∃ A cap,v=.slice A rows.length cap/\rows.length<=cap/\(rows=[]\/∃ ti b o vs B,E.H.ty e=some ti/\A=some ⟨b,o,none⟩/\fv w F b o vs/\af E.H w F rows ti.lay vs B):=by
  intro rows e v B F k;simp only [RC] at k;obtain ⟨e',ti,A,cap,he,h2,h3,h4,h5⟩:=k;simp only [CT.sl.injEq] at he;subst he;refine ⟨A,cap,h3,h4.le,?_⟩;rcases h5 with ⟨h5,_⟩|⟨b,o,vs,B',h5,_,h6,h7⟩
  · exact .inl h5
  · exact .inr ⟨ti,b,o,vs,B',h2,h5,h6,h7⟩
 unfold pn at hr;split at hr
 · simp only [ab] at hr; subst hr
   simp only [VR] at hx;obtain ⟨B,hx⟩:=hx;obtain ⟨A,cap,k1,k2,k3⟩:=key hx;refine ⟨A,cap,k1,k2,?_⟩;rcases k3 with k3 | ⟨ti,b,o,vs,B,k3⟩
   · exact .inl k3
   · exact .inr ⟨_,ti,b,o,vs,B,G.F,rfl,k3⟩
 · simp only [ab] at hr; subst hr
   simp only [VR] at hx;obtain ⟨A,rfl,_⟩:=hx;exact ⟨A,0,rfl,D1 _,.inl rfl⟩
 · simp only [ax] at hr
   split at hr <;> simp only [ab,aa] at hr;subst hr;rename_i e lv ver rows hj;have ho:=(h.objs _ _ hj).2;simp only [VR] at hx;by_cases h0:rows=[]
   · have ho':=ho
     simp only [OR] at ho';obtain ⟨ti,A,cap,_,_,_,_,h4,h5,_⟩:=ho';exact ⟨A,cap,hx.2.1.trans h4,h5,.inl h0⟩
   · obtain ⟨ti,o,cur,t,vs,cap,q1,q2,q3,q4,q5,q6,q7,q8,q9,q10,q11,q12⟩:=bu ho (J7.2 h0)
     refine ⟨_,cap,hx.2.1.trans q4,q10,.inr ?_⟩;cases lv with
     | ap =>
      simp only [bc] at q11;obtain ⟨_,m1,B,m2⟩:=q11;exact ⟨e,ti,_,o,vs,B,G.F,rfl,q1,rfl,m1,m2⟩
     | deep =>
      simp only [bc] at q11;obtain ⟨_,_,⟨B,m2,_⟩,_⟩:=q11;exact ⟨e,ti,_,o,vs,B,br,rfl,q1,rfl,fun q u hq=>⟨q12 q u hq,trivial⟩,m2⟩
     | top =>
      simp only [bc] at q11;obtain ⟨_,B,m2⟩:=q11;refine ⟨e,ti,_,o,vs,B,fun b q=>G.F b q\/b=G.bm _,rfl,q1,rfl,fun q u hq=>⟨q12 q u hq,.inr rfl⟩,af.mono _ _ _ _ (fun b _ q hf=>⟨.inl hf,rfl⟩) m2 (fun e=>absurd e (Fz.nA (n:=w.heap.size) fun b q hf=>hf.elim (h.core.fsz b q) fun e=>e▸(h.blk _ _ _ hj q5).1))⟩
 · simp only [ax] at hr
   split at hr <;> simp only [ab,aa,ag,ay] at hr;obtain ⟨rfl,rfl⟩:=hr;rename_i rs hj;simp only [VR] at hx;obtain ⟨hU,_,rfl,_,hc,A,n,cp,hv,hi⟩:=hx;have ho:=(h.objs _ _ hj).2;have hn:n=rs.length:=by
    have ho':=ho;simp only [OR] at ho';obtain ⟨ti',A,cap,_,_,_,_,h4,_⟩:=ho';rw [hv] at h4; simp at h4; exact h4.2.1
   obtain ⟨B,k,_⟩:=ib ho (hn▸hi) hc;obtain ⟨A,cap,k1,k2,k3⟩:=key k;refine ⟨A,cap,k1,k2,?_⟩;rcases k3 with k3 | ⟨ti,b,o,vs,B,k3⟩
   · exact .inl k3
   · exact .inr ⟨_,ti,b,o,vs,B,br,rfl,k3⟩
 · simp only [aa] at hr
theorem wa {H:Tab} {F:Fz}:∀ {rs:ak} {vs:List Value} {B:List Nat},af H w F rs [.int .u8] vs B->vs=(rs.map fun r=>(nth r 0).I).map (Value.int .u8)
 | [],vs,B,h=>by simp only [af] at h; simp [h.1]
 | r::rs,vs,B,h=>by
  simp only [af] at h;obtain ⟨v1,v2,B1,B2,rfl,_,h3,h4⟩:=h;rw [wa h4];obtain ⟨u,B',k1,k2,_⟩:=h3.at_ (i:=0) (ct:=.int .u8) rfl;have hl:=h3.length.1;simp only [List.length_singleton] at hl
  match v1,hl,k1 with
  | [x],_,k1 =>
   obtain rfl:x=u:=by simpa using k1
   cases hd:nth r 0 with
   | int n=>rw [hd] at k2; simp [RC] at k2; simp [hd,D.I,k2.1]
   | bool n=>rw [hd] at k2; simp [RC] at k2
   | str n=>rw [hd] at k2; simp [RC] at k2
   | sl n=>rw [hd] at k2; simp [RC] at k2
theorem px:∀ (ns:List Int) (s:ByteArray),ns.foldl (fun r n=>r.push (UInt8.ofNat n.toNat)) s=⟨s.data++(ns.map fun n=>UInt8.ofNat n.toNat).toArray⟩
 | [],s=>by cases s; simp
 | n::ns,s=>by
  simp only [List.foldl_cons,px ns,C0];congr 1
  obtain ⟨⟨l⟩⟩:=s;show (Array.push ⟨l⟩ _)++_=_
  apply Array.toList_inj.1;simp
theorem yg {P:Program} {H:Tab} (hH:bv P H) {s:TypeId} (h:tp H s=true):∃ e te,P.underlying s=some (.slice e)/\P.underlying e=some (.int .u8)/\H.ty e=some te/\te.lay=[.int .u8]:=by
 unfold tp at h;split at h
 · rename_i e fl hs
   obtain ⟨h1,te,h2,h3⟩:=hH.slice hs;split at h
   · rename_i fl' he
     refine ⟨e,_,h1,?_,he,rfl⟩;have h4:=hH _ _ he;simp only [tyB,B4] at h4;obtain ⟨_,h5⟩:=h4;cases hu:P.underlying e with
     | none=>rw [hu] at h5; simp at h5
     | some d=>rw [hu] at h5; cases d <;> simp at h5; rw [h5]
   · simp at h
 · simp at h
theorem ug (h:Rel E G st a w) (hH:bv E.P E.H) {s d:TypeId} {x v:Val} {u:Value} (hx:VR E.H G w x u) (hs:(E.P.underlying s).isSome=true) (hr:ah call st (mm E.H s d x)=some v) :
 ∃ u',(convert s d u).run E.P w=.ok u' w/\VR E.H G w v u':=by
 obtain ⟨ds,hs⟩:=F6.1 hs;unfold mm at hr;split at hr
 · rename_i k fl hd
   have hdu:E.P.underlying d=some (.int k):=by
    have h4:=hH _ _ hd;simp only [tyB,B4] at h4;obtain ⟨_,h5⟩:=h4;cases hu:E.P.underlying d with
    | none=>rw [hu] at h5; simp at h5
    | some dd=>rw [hu] at h5; cases dd <;> simp at h5; rw [h5]
   split at hr <;> simp only [ab,aa] at hr;subst hr;simp only [VR] at hx;subst hx;exact ⟨_,by simp [convert,am hs,am hdu,Conv.intToInt,pure],ia⟩
 · rename_i fl hd
   have hdu:E.P.underlying d=some .string:=by
    have h4:=hH _ _ hd;simp only [tyB,B4] at h4;obtain ⟨_,h5⟩:=h4;cases hu:E.P.underlying d with
    | none=>rw [hu] at h5; simp at h5
    | some dd=>rw [hu] at h5; cases dd <;> simp at h5; rfl
   split at hr
   · simp only [ab] at hr; subst hr
     simp only [VR] at hx;subst hx;exact ⟨_,by simp [convert,am hs,am hdu,pure],Co⟩
   · simp only [ag,run_bind,ab] at hr
     obtain ⟨hb,r,h1,hbe,rfl⟩:=hr;obtain ⟨e,te,k1,k2,k3,k4⟩:=yg hH hb;obtain ⟨A,cap,rfl,_,q⟩:=vz h hx h1;have hcv:=run_convert_bytes_string (P:=E.P) w s d e A r.2.length cap k1 k2 hdu;refine ⟨.string (ej r.2),hcv.trans ?_,Co⟩;rcases q with q | ⟨e',ti,b,o,vs,B,F,q1,q2,rfl,q4,q5⟩
     · rw [q]
       cases A with
       | none=>simp [Conv.bytesToString,ej,pure]; rfl
       | some A =>
        have:=run_bytesToString (P:=E.P) w A 0 cap [] (by rfl)
        simp only [List.foldl_nil] at this;exact this
     · rw [q1] at hbe
       have hl:ti.lay=[.int .u8]:=by
        simp only [vu,q2] at hbe;split at hbe
        · rename_i hq; simp only [B7.injEq] at hq; rw [hq]
        · simp at hbe
       rw [hl] at q5;have hv:=wa q5;have hl5:=q5.length;have hls:=run_loadCells_list (P:=E.P) w ⟨b,o,none⟩ vs (fun j v hj=>by rw [ed]; exact (q4 j v hj).1)
       rw [hl5] at hls;simp only [List.length_singleton,Nat.mul_one] at hls;rw [run_bytesToString w _ r.2.length cap (r.2.map fun r=>(nth r 0).I) (by rw [hls,<- hv])]
       rw [px];simp [ej,Function.comp_def]
 · simp only [aa] at hr
end
end Go.Q
end
section
namespace Go.Q
open Go
open Go.RowKit (Below)
section
variable {call:Key->List D->R} {E:Env} {G:Gh} {st:St} {a:Act} {w:World}
structure ci (G:Gh) (st:St) (G':Gh) (st':St):Prop where
 le:G.le G'
 U:∀ i,G'.U i->G.U i
 F:∀ b o,G.F b o->G'.F b o
 new:∀ b o,G'.F b o->G.F b o\/∃ j ob,st.o j=some ob/\G.blk j b
 blk:∀ j b,G'.blk j b->G.blk j b
 objs:∀ j ob,st'.o j=some ob->∃ ob',st.o j=some ob'
theorem ci.refl (G:Gh) (st:St):ci G st G st:=⟨Gh.le.refl G,fun _=>id,fun _ _=>id,fun _ _=>.inl,fun _ _=>id,fun _ ob h=>⟨ob,h⟩⟩
theorem ci.trans {G G1 G2:Gh} {st st1 st2:St} (h:ci G st G1 st1) (k:ci G1 st1 G2 st2):ci G st G2 st2 where
 le:=h.le.trans k.le
 U:=fun i hi=>h.U i (k.U i hi)
 F:=fun b o hf=>k.F b o (h.F b o hf)
 new:=fun b o hf=>by
  rcases k.new b o hf with hf | ⟨j,ob,hj,hb⟩
  · exact h.new b o hf
  · obtain ⟨ob',hj'⟩:=h.objs j ob hj
    exact .inr ⟨j,ob',hj',h.blk j b hb⟩
 blk:=fun j b hb=>h.blk j b (k.blk j b hb)
 objs:=fun j ob hj=>by obtain ⟨ob',hj'⟩:=k.objs j ob hj; exact h.objs j ob' hj'
theorem Rel.freezeX (h:Rel E G st a w) {j:Nat} {e:TypeId} {lv:Lv} {ver:Nat} {rows:ak} (hj:st.o j=some (.arr e lv ver rows none)) :
 ∃ G',ci G st G' (st.upd [(j,some (.arr e .ap ver rows none))])/\Rel E G' (st.upd [(j,some (.arr e .ap ver rows none))]) a w/\(∀ b q,G'.F b q->G.F b q\/G.blk j b)/\∃ B,RC E.H w G'.F (.sl rows) (.sl e) (G.hv j) B:=by
 obtain ⟨hU,ho⟩:=h.objs j _ hj;have hobjs:∀ i ob,(st.upd [(j,some (.arr e .ap ver rows none))]).o i=some ob->∃ ob',st.o i=some ob':=fun i ob hi=>by
  simp only [St.upd,cd] at hi;cases hb:C2 i j with
  | false=>rw [hb] at hi; exact ⟨ob,hi⟩
  | true=>obtain rfl:=ay.1 hb; exact ⟨_,hj⟩
 by_cases h0:rows=[]
 · -- nothing to freeze
   subst h0;have ho':=ho;simp only [OR] at ho';obtain ⟨ti,A,cap,h1,hp,h2,h2v,h3,h4,h5⟩:=ho';refine ⟨G,{ ci.refl G st with objs:=hobjs },?_,fun _ _=>.inl,[],?_⟩
   · refine { h with pl:=fun i ob b hi hb=>(let ⟨ob',h'⟩:=hobjs i ob hi; h.pl i ob' b h' hb),objs:=fun i ob hi=>?_,blk:=fun i ob b hi hb=>?_,sep:=fun i i' ob ob' b hi hi'=>?_ }
     · simp only [St.upd,cd] at hi
       cases hb:C2 i j with
       | false=>rw [hb] at hi; exact h.objs i ob hi
       | true =>
        obtain rfl:=ay.1 hb;rw [hb] at hi;obtain rfl:Obj.arr e .ap ver [] none=ob:=by simpa using hi
        refine ⟨hU,?_⟩;simp only [OR];refine ⟨ti,A,cap,h1,hp,h2,h2v,h3,h4,?_⟩;rcases h5 with h5 | ⟨o,cur,t,k1,k2,k3,k4,k5⟩
        · exact .inl h5
        · refine .inr ⟨o,cur,t,k1,k2,k3,k4,?_⟩
          simp only [bc,bj,List.length_nil,Nat.zero_mul,List.take_zero];refine ⟨fun q _=>?_,fun q u hq=>by simp at hq,[],by simp [af]⟩
          cases lv <;> simp only [bc] at k5
          · exact k5.1 q (by simp)
          · exact k5.1 _
          · exact k5.1 _
     · simp only [St.upd,cd] at hi
       cases hb':C2 i j with
       | false=>rw [hb'] at hi; exact h.blk i ob b hi hb
       | true=>obtain rfl:=ay.1 hb'; exact h.blk i _ b hj hb
     · intro hb hb'
       simp only [St.upd,cd] at hi hi';have g:∀ i ob,(bif C2 i j then some (Obj.arr e Lv.ap ver [] none) else st.o i)=some ob->∃ ob',st.o i=some ob':=fun i ob hi=>by
        cases hb:C2 i j with
        | false=>rw [hb] at hi; exact ⟨ob,hi⟩
        | true=>obtain rfl:=ay.1 hb; exact ⟨_,hj⟩
       obtain ⟨o1,g1⟩:=g i ob hi;obtain ⟨o2,g2⟩:=g i' ob' hi';exact h.sep i i' o1 o2 b g1 g2 hb hb'
   · simp only [RC]
     exact ⟨e,ti,A,cap,rfl,h1,h3,.no h4 G.nA,.inl (by simp)⟩
 · obtain ⟨ti,o,cur,t,vs,cap,q1,q2,q3,q4,q5,q6,q7,q8,q9,q10,q11,q12⟩:=bu ho (J7.2 h0)
   -- the blocks below
   have hB:∃ B,af E.H w (fun b q=>G.F b q\/(lv=.deep/\b∈B)) rows ti.lay vs B/\(lv=.deep->∀ b∈B,G.blk j b)/\(lv=.deep->G.bm j∉B):=by
    cases lv with
    | ap=>simp only [bc] at q11; obtain ⟨_,_,B,k⟩:=q11; exact ⟨B,af.mono _ _ _ _ (fun b _ q hq=>⟨.inl hq,rfl⟩) k (fun e=>absurd e (Fz.nA (n:=w.heap.size) fun b q hf=>hf.elim (h.core.fsz b q) fun h=>by simp at h)),fun h=>by simp at h,fun h=>by simp at h⟩
    | top=>simp only [bc] at q11; obtain ⟨_,B,k⟩:=q11; exact ⟨B,af.mono _ _ _ _ (fun b _ q hq=>⟨.inl hq,rfl⟩) k (fun e=>absurd e (Fz.nA (n:=w.heap.size) fun b q hf=>hf.elim (h.core.fsz b q) fun h=>by simp at h)),fun h=>by simp at h,fun h=>by simp at h⟩
    | deep =>
     simp only [bc] at q11; obtain ⟨_,_,⟨B,k,k2,k3⟩,_⟩:=q11;exact ⟨B,af.mono _ _ _ _ (fun b hb q hq=>⟨.inr ⟨rfl,hb⟩,rfl⟩) k,fun _=>k3,fun _=>(C4.1 k2).1⟩
   obtain ⟨B,hrr,hBb,hBm⟩:=hB;let F':Fz:=fun b q=>G.F b q\/(lv=.deep/\b∈B)\/(b=G.bm j/\o<=q/\q<o+rows.length*ti.lay.length)
   have hnF:F'≠br:=Fz.nA (n:=w.heap.size) fun b q hf=>by
    rcases hf with hf | ⟨hd,hb⟩|⟨rfl,_⟩
    · exact h.core.fsz b q hf
    · exact (h.blk j _ b hj (hBb hd b hb)).1
    · exact (h.blk j _ _ hj q5).1
   let G':Gh:={ G with F:=F',nA:=hnF,blk:=cd G.blk j (fun b=>b=G.bm j) }
   have hle:G.le G':=⟨fun _=>id,fun _ _=>rfl,fun _ _=>rfl,fun _ _=>rfl,fun _ _ _ _=>rfl,fun _ _ _ _=>rfl,fun _ _=>D1 _⟩
   have hFm:∀ b q,G.F b q->F' b q/\w.cell? ⟨b,q,none⟩=w.cell? ⟨b,q,none⟩:=fun b q hf=>⟨.inl hf,rfl⟩
   have hnew:∀ b q,F' b q->G.F b q\/G.blk j b:=fun b q hf=>by
    rcases hf with hf | ⟨hd,hb⟩|⟨rfl,_⟩
    · exact .inl hf
    · exact .inr (hBb hd b hb)
    · exact .inr q5
   have hlies:fv w F' (G.bm j) o vs:=fun q u hq=>⟨q12 q u hq,.inr (.inr ⟨rfl,by omega,by have:=(B9.1 hq).1; omega⟩)⟩
   have hrr':af E.H w F' rows ti.lay vs B:=af.mono _ _ _ _ (fun b _ q hq=>⟨hq.elim .inl (fun h=>.inr (.inl h)),rfl⟩) hrr (fun e=>absurd e hnF)
   refine ⟨G',⟨hle,fun _=>id,fun b q hf=>.inl hf,fun b q hf=>(hnew b q hf).imp id fun hb=>⟨j,_,hj,hb⟩,fun i b hb=>?_,hobjs⟩,?_,hnew,G.bm j::B,?_⟩
   · by_cases hi:i=j
     · subst hi; simp only [G',ae] at hb; subst hb; exact q5
     · simpa only [G',aj _ _ hi] using hb
   · exact {
      core:={
       fsz:=fun b q hf=>by
        rcases hnew b q hf with hf | hf
        · exact h.core.fsz b q hf
        · exact (h.blk j _ b hj hf).1
       f0:=fun b q hf=>.inl (h.core.f0 b q hf)
       f1:=fun b q hf=>by
        rcases hnew b q hf with hf | hf
        · exact h.core.f1 b q hf
        · exact .inr (h.blk j _ b hj hf).2
       fc:=h.core.fc
       kept:=h.core.kept
       size:=h.core.size
       os:=h.core.os
       tape:=h.core.tape
       out:=h.core.out
       vars:=h.core.vars }
      pl:=fun i ob b hi hb=>by
       obtain ⟨ob',h'⟩:=hobjs i ob hi;by_cases hij:i=j
       · subst hij
         simp only [G',ae] at hb;subst hb;exact h.pl i _ _ hj q5
       · simp only [G',aj _ _ hij] at hb
         exact h.pl i ob' b h' hb
      nt:=h.nt
      dfs:=h.dfs
      tmps:=fun t=>VR.mono hle hFm _ _ (h.tmps t)
      objs:=fun i ob hi=>by
       simp only [St.upd,cd] at hi;cases hb:C2 i j with
       | true =>
        obtain rfl:=ay.1 hb;rw [hb] at hi;obtain rfl:Obj.arr e .ap ver rows none=ob:=by simpa using hi
        refine ⟨hU,?_⟩;simp only [OR];refine ⟨ti,_,cap,q1,q2,q3,?_,q4,q10,.inr ⟨o,cur,t,rfl,by simp only [G',ae],q6,q9,?_⟩⟩
        · simp only [OR] at ho; obtain ⟨_,_,_,_,_,_,hvm,_⟩:=ho; exact hvm
        simp only [bj,<- q7,bc];refine ⟨fun q hq hf=>?_,hlies,B,hrr'⟩
        rcases hf with hf | ⟨hd,hb'⟩|⟨_,_,hlt⟩
        · cases lv <;> simp only [bc] at q11
          · exact q11.1 q hq hf
          · exact q11.1 _ hf
          · exact q11.1 _ hf
        · exact hBm hd hb'
        · omega
       | false =>
        rw [hb] at hi;obtain ⟨k1,k2⟩:=h.objs i ob hi;refine ⟨k1,k2.mono hle k1 hFm (fun b q hf=>?_) (fun _ _=>rfl) (aj _ _ (bf.1 hb)) rfl⟩
        rcases hnew b q hf with hf | hf
        · exact .inl hf
        · exact .inr fun hb'=>bf.1 hb (h.sep i j ob _ b hi hj hb' hf)
      blk:=fun i ob b hi hb=>by
       simp only [St.upd,cd] at hi;cases hb':C2 i j with
       | true =>
        obtain rfl:=ay.1 hb';simp only [G',ae] at hb;subst hb;exact h.blk i _ _ hj q5
       | false =>
        rw [hb'] at hi;simp only [G',aj _ _ (bf.1 hb')] at hb;exact h.blk i ob b hi hb
      sep:=fun i i' ob ob' b hi hi' hb hb'=>by
       have g:∀ i ob,(St.upd st [(j,some (Obj.arr e Lv.ap ver rows none))]).o i=some ob->G'.blk i b->∃ ob',st.o i=some ob'/\G.blk i b:=fun i ob hi hb=>by
        simp only [St.upd,cd] at hi;cases hb':C2 i j with
        | false=>rw [hb'] at hi; simp only [G',aj _ _ (bf.1 hb')] at hb; exact ⟨ob,hi,hb⟩
        | true =>
         obtain rfl:=ay.1 hb';simp only [G',ae] at hb;subst hb;exact ⟨_,hj,q5⟩
       obtain ⟨o1,g1,g2⟩:=g i ob hi hb;obtain ⟨o2,g3,g4⟩:=g i' ob' hi' hb';exact h.sep i i' o1 o2 b g1 g3 g2 g4
      used:=h.used }
   · simp only [RC]
     exact ⟨e,ti,_,cap,rfl,q1,q4,.no q10 hnF,.inr ⟨_,o,vs,B,rfl,rfl,hlies,hrr'⟩⟩
theorem Rel.freeze (h:Rel E G st a w) {j:Nat} {e:TypeId} {lv:Lv} {ver:Nat} {rows:ak} (hj:st.o j=some (.arr e lv ver rows none)) :
 ∃ G',ci G st G' (st.upd [(j,some (.arr e .ap ver rows none))])/\Rel E G' (st.upd [(j,some (.arr e .ap ver rows none))]) a w/\∃ B,RC E.H w G'.F (.sl rows) (.sl e) (G.hv j) B:=by
 obtain ⟨G',k1,k2,_,k3⟩:=h.freezeX hj;exact ⟨G',k1,k2,k3⟩
end
end Go.Q
end
section
namespace Go.Q
open Go
open Go.RowKit (Below)
def dp (E:Env) (G:Gh) (st:St) (w:World) (B:List Nat):Prop :=
 ∀ b∈B,b<w.heap.size/\(E.w0.heap.size<=b\/E.lent b)/\(∀ q,¬ G.F b q)/\(∀ j ob,st.o j=some ob->¬ G.blk j b)/\Pl w b
theorem dp.step {E:Env} {G G':Gh} {st st':St} {w:World} {B:List Nat} (h:dp E G st w B) (k:ci G st G' st'):dp E G' st' w B:=fun b hb=>by
 obtain ⟨h1,h2,h3,h4,h5⟩:=h b hb;refine ⟨h1,h2,fun q hf=>?_,fun j ob hj hbl=>?_,h5⟩
 · rcases k.new b q hf with hf | ⟨j,ob,hj,hbl⟩
   · exact h3 q hf
   · exact h4 j ob hj hbl
 · obtain ⟨ob',hj'⟩:=k.objs j ob hj
   exact h4 j ob' hj' (k.blk j b hbl)
section
variable {call:Key->List D->R} {E:Env} {G:Gh} {st:St} {a:Act} {w:World}
theorem bw {j i:Nat} {ob:Obj} (hi:(St.upd st [(j,none)]).o i=some ob):st.o i=some ob/\i≠j:=by
 simp only [St.upd,cd] at hi;cases hb:C2 i j with
 | true=>rw [hb] at hi; simp at hi
 | false=>rw [hb] at hi; exact ⟨hi,bf.1 hb⟩
theorem Rel.remove (h:Rel E G st a w) (j:Nat):Rel E G (st.upd [(j,none)]) a w :=
 { h with
  objs:=fun i ob hi=>h.objs i ob (bw hi).1
  blk:=fun i ob b hi=>h.blk i ob b (bw hi).1
  pl:=fun i ob b hi=>h.pl i ob b (bw hi).1
  sep:=fun i i' ob ob' b hi hi'=>h.sep i i' ob ob' b (bw hi).1 (bw hi').1 }
theorem ci.remove (G:Gh) (st:St) (j:Nat):ci G st G (st.upd [(j,none)]) :=
 { ci.refl G st with objs:=fun i ob hi=>⟨ob,(bw hi).1⟩ }
theorem ba:∀ (l l':List (Nat×Option Obj)) (st:St),st.upd (l++l')=(st.upd l).upd l'
 | [],l',st=>rfl
 | (j,ob)::r,l',st=>by simp only [E9,St.upd]; exact ba r l' _
theorem Rel.freezeLoose (h:Rel E G st a w) {B:List Nat} (hB:dp E G st w B) :
 ∃ G',G.le G'/\G'.U=G.U/\G'.blk=G.blk/\(∀ b o,G.F b o->G'.F b o)/\Rel E G' st a w/\(∀ b∈B,∀ q,G'.F b q)/\∀ b q,G'.F b q->G.F b q\/b∈B:=by
 let G':Gh:={ G with F:=fun b q=>G.F b q\/b∈B,nA:=Fz.nA (n:=w.heap.size) fun b q hf=>hf.elim (h.core.fsz b q) fun hb=>(hB b hb).1 }
 have hle:G.le G':=⟨fun _=>id,fun _ _=>rfl,fun _ _=>rfl,fun _ _=>rfl,fun _ _ _ _=>rfl,fun _ _ _ _=>rfl,fun _ _=>D1 _⟩
 have hFm:∀ b q,G.F b q->G'.F b q/\w.cell? ⟨b,q,none⟩=w.cell? ⟨b,q,none⟩:=fun b q hf=>⟨.inl hf,rfl⟩
 refine ⟨G',hle,rfl,rfl,fun _ _=>.inl,?_,fun b hb q=>.inr hb,fun b q=>id⟩
 exact { h with
  core:={ h.core with
   fsz:=fun b q hf=>hf.elim (h.core.fsz b q) fun hb=>(hB b hb).1
   f0:=fun b q hf=>.inl (h.core.f0 b q hf)
   f1:=fun b q hf=>hf.elim (h.core.f1 b q) fun hb=>.inr (hB b hb).2.1 }
  tmps:=fun t=>VR.mono hle hFm _ _ (h.tmps t)
  objs:=fun i ob hi=>⟨(h.objs i ob hi).1,(h.objs i ob hi).2.mono hle (h.objs i ob hi).1 hFm (fun b q hf=>hf.elim .inl fun hb=>.inr fun hbl=>(hB b hb).2.2.2.1 i ob hi hbl) (fun _ _=>rfl) rfl rfl⟩ }
def ee (E:Env) (G0:Gh) (st0:St) (G:Gh) (st:St) (w:World) (own:Bool) (R:Fz->List Nat->Prop):Prop :=
 ∃ B,(own=true->R br B/\B.Nodup/\dp E G st w B/\∀ b∈B,∃ j ob,st0.o j=some ob/\G0.blk j b)/\(own=false->R G.F B)
theorem Mf (h:Rel E G st a w) {sh:Bool} {ct:CT} {v:Val} {u:Value} {d:D} {own:Bool} {ups:List (Nat×Option Obj)} (hL:∀ e,ct=.sl e->∃ te,E.H.ty e=some te)
 (hx:VR E.H G w v u) (hr:ah call st (toD sh ct v)=some (d,own,ups)) :
 ∃ G',ci G st G' (st.upd ups)/\Rel E G' (st.upd ups) a w/\ee E G st G' (st.upd ups) w own (fun F B=>RC E.H w F d ct u B):=by
 have nilB:∀ {R:Fz->List Nat->Prop} {G' st'},R br []->ee E G st G' st' w true R:=fun k=>⟨[],fun _=>⟨k,by simp,fun b hb=>by simp at hb,fun b hb=>by simp at hb⟩,fun h=>by simp at h⟩
 unfold toD at hr;split at hr
 · split at hr <;> simp only [ag,ab,aa,decide_eq_true_eq,C8.injEq] at hr
   obtain ⟨rfl,rfl,rfl,rfl⟩:=hr;simp only [VR] at hx;exact ⟨G,ci.refl G st,h,nilB (by simp [RC,hx])⟩
 · split at hr <;> simp only [ab,aa,C8.injEq] at hr
   obtain ⟨rfl,rfl,rfl⟩:=hr;simp only [VR] at hx;exact ⟨G,ci.refl G st,h,nilB (by simp [RC,hx])⟩
 · split at hr <;> simp only [ab,aa,C8.injEq] at hr
   obtain ⟨rfl,rfl,rfl⟩:=hr;simp only [VR] at hx;exact ⟨G,ci.refl G st,h,nilB (by simp [RC,hx])⟩
 · split at hr <;> simp only [ab,aa,C8.injEq] at hr
   rename_i e;obtain ⟨rfl,rfl,rfl⟩:=hr;simp only [VR] at hx;obtain ⟨A,rfl,_⟩:=hx;obtain ⟨te,hte⟩:=hL e rfl;exact ⟨G,ci.refl G st,h,nilB (by simp only [RC]; exact ⟨e,te,A,0,rfl,hte,rfl,⟨D1 _,fun _=>.inl ⟨rfl,rfl⟩⟩,.inl (by simp)⟩)⟩
 · split at hr <;> simp only [ag,ab,aa,ay,C8.injEq] at hr
   obtain ⟨rfl,rfl,rfl,rfl⟩:=hr;simp only [VR] at hx;obtain ⟨B,hx⟩:=hx;exact ⟨G,ci.refl G st,h,B,fun h=>by simp at h,fun _=>hx⟩
 · rename_i j
   split at hr
   case h_2=>simp only [aa] at hr
   rename_i e';simp only [ax] at hr;split at hr
   case h_2=>simp only [aa] at hr
   rename_i e lv ver rows hj;simp only [ag,ay] at hr;obtain ⟨rfl,hr⟩:=hr;simp only [VR] at hx;obtain ⟨hU,rfl,_⟩:=hx;cases sh with
   | true =>
    simp only [H1,ab,C8.injEq] at hr;obtain ⟨rfl,rfl,rfl⟩:=hr;obtain ⟨G',k1,k2,B,k3⟩:=h.freeze hj;exact ⟨G',k1,k2,B,fun h=>by simp at h,fun _=>k3⟩
   | false =>
    simp only [H2,ab,C8.injEq] at hr;obtain ⟨rfl,rfl,rfl⟩:=hr;by_cases hlv:lv=.deep
    · subst hlv
      simp only [H3];refine ⟨G,ci.remove G st j,h.remove j,?_⟩;obtain ⟨B,m1,m2,m3,m4⟩:=zj (h.objs j _ hj).2;refine ⟨B,fun _=>⟨m1,m2,fun b hb=>?_,fun b hb=>⟨j,_,hj,m3 b hb⟩⟩,fun h=>by simp at h⟩
      obtain ⟨n1,n2⟩:=h.blk j _ b hj (m3 b hb);refine ⟨n1,n2,m4 b hb,fun i ob hi hbl=>?_,h.pl j _ b hj (m3 b hb)⟩
      obtain ⟨hi',hne⟩:=bw hi;exact hne (h.sep i j ob _ b hi' hj hbl (m3 b hb))
    · simp only [hlv,H4]
      obtain ⟨G',k1,k2,B,k3⟩:=h.freeze hj;have e:∀ ob,(st.upd [(j,some ob)]).upd [(j,none)]=st.upd [(j,none)]:=fun ob=>by
       simp only [St.upd];congr 1
       funext i
       simp only [cd];cases C2 i j <;> rfl
      have k4:=k2.remove j;have k5:=k1.trans (ci.remove G' _ j);rw [e] at k4 k5;exact ⟨G',k5,k4,B,fun h=>by simp at h,fun _=>k3⟩
 · simp only [aa] at hr
theorem ee.two {G1 G2:Gh} {st1 st2:St} {own1 own2:Bool} {R1 R2:Fz->List Nat->Prop} (hm1:∀ {F F':Fz} {B},(∀ b∈B,∀ q,F b q->F' b q)->(F'=br->F=br)->R1 F B->R1 F' B) (hm2:∀ {F F':Fz} {B},(∀ b∈B,∀ q,F b q->F' b q)->(F'=br->F=br)->R2 F B->R2 F' B)
 (h1:ee E G st G1 st1 w own1 R1) (s1:ci G st G1 st1) (h2:ee E G1 st1 G2 st2 w own2 R2) (s2:ci G1 st1 G2 st2) (r2:Rel E G2 st2 a w) :
 ∃ G',ci G st G' st2/\Rel E G' st2 a w/\(G2.le G'/\∀ b o,G2.F b o->G'.F b o)/\∃ B1 B2,((own1&&own2)=true->R1 br B1/\R2 br B2/\(B1++B2).Nodup/\dp E G' st2 w (B1++B2)/\∀ b∈B1++B2,∃ j ob,st.o j=some ob/\G.blk j b) ∧
  ((own1&&own2)=false->R1 G'.F B1/\R2 G'.F B2):=by
 obtain ⟨B1,a1,b1⟩:=h1;obtain ⟨B2,a2,b2⟩:=h2;have up:∀ b,(∃ j ob,st1.o j=some ob/\G1.blk j b)->∃ j ob,st.o j=some ob/\G.blk j b:=fun b ⟨j,ob,hj,hb⟩=>by
  obtain ⟨ob',hj'⟩:=s1.objs j ob hj;exact ⟨j,ob',hj',s1.blk j b hb⟩
 have fr:∀ {B:List Nat},dp E G2 st2 w B->(∀ b∈B,∃ j ob,st.o j=some ob/\G.blk j b)->∃ G',ci G st G' st2/\Rel E G' st2 a w/\(∀ b∈B,∀ q,G'.F b q)/\(∀ b q,G2.F b q->G'.F b q)/\G2.le G':=by
  intro B hB hB';obtain ⟨G',e1,e2,e3,e4,e5,e6,e7⟩:=r2.freezeLoose hB;refine ⟨G',{ s1.trans s2 with le:=(s1.trans s2).le.trans e1,U:=fun i hi=>(s1.trans s2).U i (e2▸hi),F:=fun b o hf=>e4 b o ((s1.trans s2).F b o hf),new:=fun b o hf=>?_,blk:=fun j b hb=>(s1.trans s2).blk j b (e3▸hb) },e5,e6,e4,e1⟩
  rcases e7 b o hf with hf | hb
  · exact (s1.trans s2).new b o hf
  · exact .inr (hB' b hb)
 cases own1 with
 | true =>
  obtain ⟨p1,p2,p3,p4⟩:=a1 rfl;cases own2 with
  | true =>
   obtain ⟨n1,n2,n3,n4⟩:=a2 rfl;refine ⟨G2,s1.trans s2,r2,⟨Gh.le.refl _,fun _ _=>id⟩,B1,B2,fun _=>⟨p1,n1,?_,?_,?_⟩,fun h=>by simp at h⟩
   · rw [C7]
     refine ⟨p2,n2,fun b hb b' hb' e=>?_⟩
     subst e;obtain ⟨j,ob,hj,hbl⟩:=n4 b hb';exact (p3 b hb).2.2.2.1 j ob hj hbl
   · intro b hb
     rcases B8.1 hb with hb | hb
     · exact (p3.step s2) b hb
     · exact n3 b hb
   · intro b hb
     rcases B8.1 hb with hb | hb
     · exact p4 b hb
     · exact up b (n4 b hb)
  | false =>
   obtain ⟨G',e1,e2,e3,e4,e5⟩:=fr (p3.step s2) p4;exact ⟨G',e1,e2,⟨e5,e4⟩,B1,B2,fun h=>by simp at h,fun _=>⟨hm1 (fun b hb q _=>e3 b hb q) (fun _=>rfl) p1,hm2 (fun b _ q hf=>e4 b q hf) (fun e=>absurd e G'.nA) (b2 rfl)⟩⟩
 | false =>
  cases own2 with
  | true =>
   obtain ⟨n1,n2,n3,n4⟩:=a2 rfl;obtain ⟨G',e1,e2,e3,e4,e5⟩:=fr n3 fun b hb=>up b (n4 b hb)
   exact ⟨G',e1,e2,⟨e5,e4⟩,B1,B2,fun h=>by simp at h,fun _=>⟨hm1 (fun b _ q hf=>e4 b q (s2.F b q hf)) (fun e=>absurd e G'.nA) (b1 rfl),hm2 (fun b hb q _=>e3 b hb q) (fun _=>rfl) n1⟩⟩
  | false =>
   exact ⟨G2,s1.trans s2,r2,⟨Gh.le.refl _,fun _ _=>id⟩,B1,B2,fun h=>by simp at h,fun _=>⟨hm1 (fun b _ q hf=>s2.F b q hf) (fun e=>absurd e G2.nA) (b1 rfl),b2 rfl⟩⟩
theorem Au {sh:Bool} {ct:CT} {v:Val} {r:D×Bool×List (Nat×Option Obj)} {st st':St} (hr:ah call st (toD sh ct v)=some r) (h:∀ p∈r.2.2,st'.o p.1=st.o p.1) :
 ah call st' (toD sh ct v)=some r:=by
 cases v
 case hd j =>
  cases ct
  case sl e =>
   simp only [toD,ax] at hr ⊢;split at hr
   · rename_i e' lv ver rows hj
     simp only [ag] at hr;have hj':st'.o j=some (.arr e' lv ver rows none):=by
      rw [<- hj];cases sh <;> simp only [H1,H2,ab] at hr <;> obtain ⟨_,rfl⟩:=hr
      · exact h (j,none) (by simp)
      · exact h (j,some (.arr e' .ap ver rows none)) (by simp)
     rw [hj'];simp only [ag];refine ⟨hr.1,?_⟩;have hr2:=hr.2;cases sh <;> simpa only [H1,H2,ab] using hr2
   · simp only [aa] at hr
  all_goals simp only [toD,aa] at hr
 all_goals first
  | (cases ct <;> simp only [toD,aa,ab,ag] at hr ⊢ <;> exact hr)
  | (simp only [toD,aa] at hr)
theorem kp:∀ {vs:List Val} {cts:List CT} {sh:Bool} {r:List D×Bool×List (Nat×Option Obj)} {st st':St},ah call st (kh sh cts vs)=some r->(∀ p∈r.2.2,st'.o p.1=st.o p.1) →
 ah call st' (kh sh cts vs)=some r
 | [],[],sh,r,st,st',hr,h=>by simp only [kh,ab] at hr ⊢; exact hr
 | [],_::_,sh,r,st,st',hr,h=>by simp only [kh,aa] at hr
 | _::_,[],sh,r,st,st',hr,h=>by simp only [kh,aa] at hr
 | v::vs,ct::cts,sh,r,st,st',hr,h=>by
  simp only [kh,run_bind,ag,ab] at hr ⊢;obtain ⟨x,h1,y,h2,h3,rfl⟩:=hr;exact ⟨x,Au h1 fun p hp=>h p (by simp [hp]),y,kp h2 fun p hp=>h p (by simp [hp]),h3,rfl⟩
theorem ce {j:Nat}:∀ (l:List (Nat×Option Obj)) (st:St),(∀ p∈l,p.1≠j)->(st.upd l).o j=st.o j
 | [],st,_=>rfl
 | (i,ob)::r,st,h=>by
  simp only [St.upd];rw [ce r _ fun p hp=>h p (by simp [hp])]
  exact aj _ _ (fun e=>h (i,ob) (by simp) e.symm)
theorem ic {l l':List (Nat×Option Obj)}:ml l l'=true↔∀ p∈l,∀ q∈l',p.1≠q.1:=by
 simp only [ml,C6,C5,<- N6,cx,List.mem_map,not_exists,not_and];exact ⟨fun h p hp q hq e=>h p hp q hq e.symm,fun h p hp q hq e=>h p hp q hq e.symm⟩
theorem pj:∀ {vs:List Val} {G:Gh} {st:St} {cts:List CT} {us:List Value} {ds:List D} {own:Bool} {ups:List (Nat×Option Obj)} {sh:Bool},Rel E G st a w->nq E.H cts →
 VRL E.H G w vs us->ah call st (kh sh cts vs)=some (ds,own,ups) →
 ∃ G',ci G st G' (st.upd ups)/\Rel E G' (st.upd ups) a w/\ee E G st G' (st.upd ups) w own (fun F B=>RL E.H w F ds cts us B)
 | [],G,st,[],us,ds,own,ups,sh,h,hL,hx,hr=>by
  simp only [kh,ab,C8.injEq] at hr;obtain ⟨rfl,rfl,rfl⟩:=hr;simp only [VRL] at hx;subst hx;exact ⟨G,ci.refl G st,h,[],fun _=>⟨by simp [RL],by simp,fun b hb=>by simp at hb,fun b hb=>by simp at hb⟩,fun h=>by simp at h⟩
 | [],G,st,_::_,us,ds,own,ups,sh,h,hL,hx,hr=>by simp only [kh,aa] at hr
 | _::_,G,st,[],us,ds,own,ups,sh,h,hL,hx,hr=>by simp only [kh,aa] at hr
 | v::vs,G,st,ct::cts,us,ds,own,ups,sh,h,hL,hx,hr=>by
  simp only [kh,run_bind,ag,ab,C8.injEq] at hr;obtain ⟨⟨d,own1,ups1⟩,h1,⟨ds2,own2,ups2⟩,h2,h3,rfl,rfl,rfl⟩:=hr;simp only [VRL] at hx;obtain ⟨u,us,rfl,hx1,hx2⟩:=hx;obtain ⟨G1,s1,r1,k1⟩:=Mf h (fun e he=>hL e (by simp [he])) hx1 h1
  have h2':=kp (st':=st.upd ups1) h2 fun p hp=>ce ups1 st fun q hq=>ic.1 h3 q hq p hp
  obtain ⟨G2,s2,r2,k2⟩:=pj r1 (fun e he=>hL e (by simp [he])) (VRL.mono s1.le (fun b o hf=>⟨s1.F b o hf,rfl⟩) _ _ hx2) h2'
  obtain ⟨G',s3,r3,_,B1,B2,m1,m2⟩:=ee.two (R1:=fun F B=>RC E.H w F d ct u B) (R2:=fun F B=>RL E.H w F ds2 cts us B) (fun {F F' B} hf hn hh=>RC.mono _ _ _ _ (fun b hb q hq=>⟨hf b hb q hq,rfl⟩) hh hn)
   (fun {F F' B} hf hn hh=>RL.mono _ _ _ _ (fun b hb q hq=>⟨hf b hb q hq,rfl⟩) hh hn) k1 s1 k2 s2 r2
  rw [<- ba] at s3 r3 m1;refine ⟨G',s3,r3,B1++B2,fun ho=>?_,fun ho=>?_⟩
  · obtain ⟨n1,n2,n3,n4,n5⟩:=m1 ho
    exact ⟨by simp only [RL]; exact ⟨ct,cts,u,us,B1,B2,rfl,rfl,rfl,n1,n2⟩,n3,n4,n5⟩
  · obtain ⟨n1,n2⟩:=m2 ho
    simp only [RL]; exact ⟨ct,cts,u,us,B1,B2,rfl,rfl,rfl,n1,n2⟩
end
end Go.Q
end
section
namespace Go.Q
open Go
open Go.RowKit (Below)
section
variable {call:Key->List D->R} {E:Env} {G:Gh} {st:St} {a:Act} {w:World}
theorem oa {w w':World} {Q:Nat->Prop} (hb:Below w.heap.size w w') (hp:∀ b,w.heap.size<=b->b<w'.heap.size->∃ cur t,w'.heap[b]?=some (.cells cur t (0,0))) :
 ∀ b,b<w'.heap.size->(b<w.heap.size->∃ cur t,w.heap[b]?=some (.cells cur t (0,0)))->Q b->∃ cur t,w'.heap[b]?=some (.cells cur t (0,0)):=fun b hlt h _=>by
 rcases Nat.lt_or_ge b w.heap.size with hb' | hb'
 · rw [hb.block b hb']; exact h hb'
 · exact hp b hb' hlt
theorem Rel.newObj (h:Rel E G st a w) {w':World} {id bm:Nat} {hv:Value} {ly:List CT} {blk:Nat->Prop} {nh:Nat->Nat->Nat->Value} {ob:Obj} {F':Fz} (hid:st.u id=false) (hnA:F'≠br)
 (hF1:∀ b q,G.F b q->F' b q) (hF2:∀ b q,F' b q->G.F b q\/blk b) (hO:G.le (G.new id bm hv ly blk nh F')->OR E.H (G.new id bm hv ly blk nh F') w' id ob) (hsz:w.heap.size<=w'.heap.size) (hos:w'.os=w.os) (htp:w'.tape=w.tape) (hout:w'.output=w.output)
 (hsame:∀ b,b<w.heap.size->¬ blk b->w'.heap[b]?=w.heap[b]?) (hF:∀ b q,G.F b q->w'.cell? ⟨b,q,none⟩=w.cell? ⟨b,q,none⟩)
 (hblk:∀ b,blk b->b<w'.heap.size/\(E.w0.heap.size<=b\/E.lent b)/\∀ j ob,st.o j=some ob->¬ G.blk j b)
 (hlo:∀ b,blk b->b<w.heap.size->Pl w b)
 (hpl:∀ b,b<w'.heap.size->(b<w.heap.size->∃ cur t,w.heap[b]?=some (.cells cur t (0,0)))->(w.heap.size<=b\/blk b)->∃ cur t,w'.heap[b]?=some (.cells cur t (0,0))) :
 G.le (G.new id bm hv ly blk nh F')/\Rel E (G.new id bm hv ly blk nh F') ((st.upd [(id,some ob)]).mark [id]) a w':=by
 have hU:¬ G.U id:=fun hu=>by rw [h.used id hu] at hid; simp at hid
 have hle:=G.new_le (hF:=hnA) (bm:=bm) (hv:=hv) (ly:=ly) (blk:=blk) (nh:=nh) (F:=F') hU;have hFm:∀ b q,G.F b q->F' b q/\w'.cell? ⟨b,q,none⟩=w.cell? ⟨b,q,none⟩:=fun b q hf=>⟨hF1 b q hf,hF b q hf⟩
 have hoth:∀ i ob,st.o i=some ob->i≠id:=fun i ob hi e=>hU (e▸(h.objs i ob hi).1)
 have ho:∀ i ob',((st.upd [(id,some ob)]).mark [id]).o i=some ob'->(i=id/\ob'=ob)\/(i≠id/\st.o i=some ob'):=fun i ob' hi=>by
  simp only [St.mark,St.upd,cd] at hi;cases hb:C2 i id with
  | true=>rw [hb] at hi; exact .inl ⟨ay.1 hb,by simpa using hi.symm⟩
  | false=>rw [hb] at hi; exact .inr ⟨bf.1 hb,hi⟩
 refine ⟨hle,{
  core:={
   fsz:=fun b q hf=>(hF2 b q hf).elim (fun hf=>D9 (h.core.fsz b q hf) hsz) fun hb=>(hblk b hb).1
   f0:=fun b q hf=>hF1 b q (h.core.f0 b q hf)
   f1:=fun b q hf=>(hF2 b q hf).elim (h.core.f1 b q) fun hb=>.inr (hblk b hb).2.1
   fc:=fun b q hf=>(hF b q (h.core.f0 b q hf)).trans (h.core.fc b q hf)
   kept:=fun b hb hl=>by
    have hlt:=D9 hb h.core.size;rw [hsame b hlt fun hbl=>?_]
    · exact h.core.kept b hb hl
    · rcases (hblk b hbl).2.1 with hc | hc
      · omega
      · exact hl hc
   size:=F4 h.core.size hsz
   os:=hos.trans h.core.os
   tape:=htp.trans h.core.tape
   out:=hout.trans h.core.out
   vars:=h.core.vars }
  nt:=h.nt
  dfs:=h.dfs
  tmps:=fun t=>VR.mono hle hFm _ _ (h.tmps t)
  objs:=fun i ob' hi=>by
   rcases ho i ob' hi with ⟨rfl,rfl⟩|⟨hne,hi⟩
   · exact ⟨.inr rfl,hO hle⟩
   · obtain ⟨k1,k2⟩:=h.objs i ob' hi
     exact ⟨.inl k1,k2.mono hle k1 hFm (fun b q hf=>(hF2 b q hf).imp (fun h=>h) fun hb hbl=>(hblk b hb).2.2 i ob' hi hbl) (fun b hb=>hsame b (h.blk i ob' b hi hb).1 fun hbl=>(hblk b hbl).2.2 i ob' hi hb) (aj _ _ hne) (aj _ _ hne)⟩
  blk:=fun i ob' b hi hb=>by
   rcases ho i ob' hi with ⟨rfl,rfl⟩|⟨hne,hi⟩
   · simp only [Gh.new,ae] at hb
     exact ⟨(hblk b hb).1,(hblk b hb).2.1⟩
   · simp only [Gh.new,aj _ _ hne] at hb
     obtain ⟨k1,k2⟩:=h.blk i ob' b hi hb;exact ⟨D9 k1 hsz,k2⟩
  pl:=fun i ob' b hi hb=>by
   rcases ho i ob' hi with ⟨rfl,rfl⟩|⟨hne,hi⟩
   · simp only [Gh.new,ae] at hb
     exact hpl b (hblk b hb).1 (hlo b hb) (.inr hb)
   · simp only [Gh.new,aj _ _ hne] at hb
     have hbn:¬ blk b:=fun h'=>(hblk b h').2.2 i ob' hi hb
     unfold Pl;rw [hsame b (h.blk i ob' b hi hb).1 hbn];exact h.pl i ob' b hi hb
  sep:=fun i i' ob1 ob2 b hi hi' hb hb'=>by
   rcases ho i ob1 hi with ⟨rfl,rfl⟩|⟨hne,hj⟩ <;> rcases ho i' ob2 hi' with ⟨rfl,rfl⟩|⟨hne',hj'⟩
   · rfl
   · simp only [Gh.new,ae] at hb
     simp only [Gh.new,aj _ _ hne'] at hb';exact absurd hb' ((hblk b hb).2.2 i' ob2 hj')
   · simp only [Gh.new,ae] at hb'
     simp only [Gh.new,aj _ _ hne] at hb;exact absurd hb ((hblk b hb').2.2 i ob1 hj)
   · simp only [Gh.new,aj _ _ hne] at hb
     simp only [Gh.new,aj _ _ hne'] at hb';exact h.sep i i' ob1 ob2 b hj hj' hb hb'
  used:=fun i hi=>by
   simp only [St.mark,St.upd,cd];cases hb':C2 i id with
   | true=>rfl
   | false =>
    rcases hi with hi | hi
    · exact h.used i hi
    · exact absurd hi (bf.1 hb') }⟩
theorem jp {H:Tab} {id bm:Nat} {A:Option Addr} {n cap:Nat} {ly:List CT} {blk:Nat->Prop} {nh:Nat->Nat->Nat->Value} {F:Fz} {hF:F≠br} {w:World}:VR H (G.new id bm (.slice A n cap) ly blk nh F hF) w (.hd id) (.slice A n cap):=by
 simp only [VR,Gh.new,ae,or_true,true_and]; rfl
end
section
variable {call:Key->List D->R} {E:Env} {G G0:Gh} {st st0:St} {a:Act} {w:World}
theorem Rel.newArrW (h:Rel E G st a w) {own:Bool} {rows:ak} {e:TypeId} {ti:TI} {vs rest:List Value} (hk:∃ B,(own=true->af E.H w br rows ti.lay vs B/\B.Nodup/\dp E G st w B)/\(own=false->af E.H w G.F rows ti.lay vs B)) (he:E.H.ty e=some ti) (hpos:0<ti.lay.length)
 {id:Nat} (hid:st.u id=false) {cap:Nat} (hcap:vs.length+rest.length=cap*ti.lay.length) (t:TypeId) {w1:World} (hw1:w1=w\/w1=w.drew) :
 ∃ G',G.le G'/\Rel E G' ((st.upd [(id,some (.arr e (gh own .deep) 0 rows none))]).mark [id]) a (w1.alloc (.cells (vs++rest).toArray t)) ∧
  VR E.H G' (w1.alloc (.cells (vs++rest).toArray t)) (.hd id) (.slice (some ⟨w.heap.size,0,none⟩) rows.length cap):=by
 have hh1:w1.heap=w.heap:=by rcases hw1 with rfl | rfl <;> rfl
 have hb:Below w.heap.size w (w1.alloc (.cells (vs++rest).toArray t)):=by
  rcases hw1 with rfl | rfl
  · exact (Below.refl _ _).alloc (D1 _) _
  · exact ((Below.refl _ w).drew).alloc (D1 _) _
 have hlast:(w1.alloc (.cells (vs++rest).toArray t)).heap[w.heap.size]?=some (.cells (vs++rest).toArray t (0,0)):=by rw [<- hh1]; exact km w1 _
 have hnF:∀ q,¬ G.F w.heap.size q:=fun q hf=>K0 _ (h.core.fsz _ _ hf)
 have hcell:∀ b q,b<w.heap.size->(w1.alloc (.cells (vs++rest).toArray t)).cell? ⟨b,q,none⟩=w.cell? ⟨b,q,none⟩:=fun b q hlt=>hb.cell (p:=⟨b,q,none⟩) hlt
 obtain ⟨B,k1,k2⟩:=hk;have hvl:vs.length=rows.length*ti.lay.length:=by
  cases own
  · exact (k2 rfl).length
  · exact (k1 rfl).1.length
 have hle:rows.length<=cap:=Nat.le_of_mul_le_mul_right (by omega:rows.length*ti.lay.length<=cap*ti.lay.length) hpos
 have htake:(((vs++rest).toArray).toList.drop 0).take (rows.length*ti.lay.length)=vs:=by
  simp [<- hvl]
 have hO:OR E.H (G.new id w.heap.size (.slice (some ⟨w.heap.size,0,none⟩) rows.length cap) ti.lay (fun b=>b=w.heap.size\/(own=true/\b∈B)) (fun _ i c=>vs.getD (i*ti.lay.length+c) undef) G.F)
  (w1.alloc (.cells (vs++rest).toArray t)) id (.arr e (gh own .deep) 0 rows none):=by
  simp only [OR,Gh.new,ae];refine ⟨ti,_,cap,he,hpos,rfl,trivial,rfl,hle,.inr ⟨0,_,t,rfl,by simp,hlast,by have:=rk (j:=id) hle ti.lay.length; simp; omega,?_⟩⟩
  simp only [bj,htake];cases own with
  | true =>
   obtain ⟨m1,m2,m3⟩:=k1 rfl;simp only [gh,H1,bc,ae];refine ⟨hnF,fun b hb' q=>?_,⟨B,af.mono _ _ _ _ (fun b hb' q _=>⟨trivial,hcell b q (m3 b hb').1⟩) m1,C4.2 ⟨fun hm=>?_,m2⟩,fun b hb'=>.inr ⟨trivial,hb'⟩⟩,fun i c e' hi hc=>?_⟩
   · rcases hb' with rfl | ⟨_,hb'⟩
     · exact hnF q
     · exact (m3 b hb').2.2.1 q
   · exact K0 _ (m3 _ hm).1
   · have hlt:i*ti.lay.length+c<vs.length:=by
      have hc':=(B9.1 hc).1;rw [hvl]
      calc i*ti.lay.length+c<i*ti.lay.length+ti.lay.length:=by omega
       _=(i+1)*ti.lay.length:=by rw [E0]; omega
       _<=rows.length*ti.lay.length:=C3 _ hi
     simp [K1,D5 hlt]
  | false =>
   have m1:=k2 rfl;simp only [gh,H2,Lv.min,Lv.le,bc,ae];refine ⟨hnF,B,af.mono _ _ _ _ (fun b _ q hf=>⟨hf,hcell b q (h.core.fsz b q hf)⟩) m1⟩
 have hB:∀ b,(b=w.heap.size\/(own=true/\b∈B))->b<(w1.alloc (.cells (vs++rest).toArray t)).heap.size/\(E.w0.heap.size<=b\/E.lent b)/\∀ j ob,st.o j=some ob->¬ G.blk j b:=by
  intro b hb';rcases hb' with rfl | ⟨ho,hb'⟩
  · refine ⟨by rw [kn,hh1]; exact Nat.lt_succ_self _,.inl h.core.size,fun j ob hj hbl=>K0 _ (h.blk j ob _ hj hbl).1⟩
  · obtain ⟨_,_,m3⟩:=k1 ho
    obtain ⟨n1,n2,_,n4,_⟩:=m3 b hb';exact ⟨D9 n1 hb.size,n2,n4⟩
 obtain ⟨p1,p2⟩:=h.newObj hid G.nA (fun _ _ h=>h) (fun _ _=>.inl) (fun _=>hO) hb.size hb.os hb.tape hb.output (fun b hlt _=>hb.block b hlt) (fun b q hf=>hcell b q (h.core.fsz b q hf)) hB (fun b hb' hlt=>hb'.elim (fun e=>absurd (e▸hlt) (K0 _)) fun hb'=>((k1 hb'.1).2.2 b hb'.2).2.2.2.2) (oa hb (by rw [<- hh1]; exact nr w1 _ t))
 exact ⟨_,p1,p2,jp⟩
theorem ee.weak {own:Bool} {R:Fz->List Nat->Prop} (hk:ee E G0 st0 G st w own R):∃ B,(own=true->R br B/\B.Nodup/\dp E G st w B)/\(own=false->R G.F B):=by
 obtain ⟨B,k1,k2⟩:=hk;exact ⟨B,fun ho=>⟨(k1 ho).1,(k1 ho).2.1,(k1 ho).2.2.1⟩,k2⟩
theorem Rel.newArr (h:Rel E G st a w) {own:Bool} {rows:ak} {e:TypeId} {ti:TI} {vs rest:List Value} (hk:ee E G0 st0 G st w own (fun F B=>af E.H w F rows ti.lay vs B)) (he:E.H.ty e=some ti) (hpos:0<ti.lay.length)
 {id:Nat} (hid:st.u id=false) {cap:Nat} (hcap:vs.length+rest.length=cap*ti.lay.length) (t:TypeId) {w1:World} (hw1:w1=w\/w1=w.drew) :
 ∃ G',G.le G'/\Rel E G' ((st.upd [(id,some (.arr e (gh own .deep) 0 rows none))]).mark [id]) a (w1.alloc (.cells (vs++rest).toArray t)) ∧
  VR E.H G' (w1.alloc (.cells (vs++rest).toArray t)) (.hd id) (.slice (some ⟨w.heap.size,0,none⟩) rows.length cap):=h.newArrW hk.weak he hpos hid hcap t hw1
end
end Go.Q
end
section
namespace Go.Q
open Go
open Go.RowKit (Below)
section
variable {call:Key->List D->R} {E:Env} {G G0:Gh} {st st0:St} {a:Act} {w:World}
def db (E:Env) (G:Gh) (st:St) (a:Act) (eff:Eff) (u:Value) (w':World):Prop :=
 ∃ G',G.le G'/\Rel E G' ((st.upd eff.ups).mark eff.nw) a w'/\VR E.H G' w' eff.v u
theorem Rel.done (h:Rel E G st a w) {v:Val} {u:Value} (hv:VR E.H G w v u):db E G st a ⟨v,[],[]⟩ u w:=⟨G,Gh.le.refl G,h,hv⟩
theorem Rel.newBoxD (h:Rel E G st a w) {j:Nat} (hj:st.u j=false) {cs:List Val} {vs:List Value} {t:TypeId} (hv:VRL E.H G w cs vs) (h1:∀ u∈vs,u.oneCell'=true) :
 db E G st a ⟨.bp j 0,[(j,some (.box cs))],[j]⟩ (.pointer (some ⟨w.heap.size,0,none⟩)) (w.alloc (.cells vs.toArray t)):=by
 have hU:¬ G.U j:=fun hu=>by rw [h.used j hu] at hj; simp at hj
 have hb:Below w.heap.size w (w.alloc (.cells vs.toArray t)):=(Below.refl _ w).alloc (D1 _) _;have hle:=G.new_le (hF:=G.nA) (bm:=w.heap.size) (hv:=undef) (ly:=[]) (blk:=fun b=>b=w.heap.size) (nh:=fun _ _ _=>undef) (F:=G.F) hU
 have hF:∀ b q,G.F b q->(w.alloc (.cells vs.toArray t)).cell? ⟨b,q,none⟩=w.cell? ⟨b,q,none⟩:=fun b q hf=>hb.cell (p:=⟨b,q,none⟩) (h.core.fsz b q hf)
 obtain ⟨p1,p2⟩:=h.newObj (w':=w.alloc (.cells vs.toArray t)) (id:=j) (bm:=w.heap.size) (hv:=undef) (ly:=[]) (blk:=fun b=>b=w.heap.size) (nh:=fun _ _ _=>undef) (ob:=.box cs) (F':=G.F) hj G.nA (fun _ _=>id) (fun _ _=>.inl)
  (fun hle=>by
    simp only [OR,Gh.new,ae,true_and];refine ⟨fun q hq=>K0 _ (h.core.fsz _ _ hq),vs,t,km w _,VRL.mono hle (fun b q hf=>⟨hf,hF b q hf⟩) _ _ hv,h1⟩)
  hb.size hb.os hb.tape hb.output (fun b hlt _=>hb.block b hlt) hF
  (fun b hbl=>by
    subst hbl;exact ⟨by rw [kn]; exact Nat.lt_succ_self _,.inl h.core.size,fun j ob hj hbl=>K0 _ (h.blk j ob _ hj hbl).1⟩) (fun b e hlt=>absurd (e▸hlt) (K0 _)) (oa hb (nr _ _ _))
 exact ⟨_,p1,p2,by simp only [VR,Gh.new,ae,or_true,true_and]⟩
theorem gp {id:Nat} {v:Val} {ob:Obj} {ups:List (Nat×Option Obj)} {eff:Eff}:ah call st (pb id v ob ups)=some eff↔eff=⟨v,ups++[(id,some ob)],[id]⟩:=by
 simp only [pb,ab]; exact eq_comm
theorem yh (h:Rel E G st a w) (hH:bv E.P E.H) {id:Nat} {e:TypeId} {eff:Eff} (hr:ah call st (tj E.H id e)=some eff) (hnw:∀ j∈eff.nw,st.u j=false) :
 ∃ u w',(Instr.alloc e true (.tuple #[])).run E.P w=.ok u w'/\db E G st a eff u w':=by
 unfold tj at hr;split at hr
 case h_2=>simp only [aa] at hr
 rename_i ti hti;rw [gp] at hr;subst hr;obtain ⟨z,z1,z2,_⟩:=rg (TyR.of (hH e ti hti)) w;obtain ⟨k1,k2⟩:=jo (G:=G) (w:=w) E.H z2;have:=h.newBoxD (t:=e) (hnw id (by simp)) k1 k2
 refine ⟨_,_,?_,this⟩;simp [Instr.alloc,z1,newVar,newRow,pure]
theorem Cr (h:Rel E G st a w) (hH:bv E.P E.H) {id:Nat} {e:TypeId} {v:Val} {u:Value} {eff:Eff} (hv:VR E.H G w v u) (hr:ah call st (Ch E.H id e v)=some eff) (hnw:∀ j∈eff.nw,st.u j=false) :
 ∃ u' w',(Instr.box e u).run E.P w=.ok u' w'/\db E G st a eff u' w':=by
 unfold Ch at hr;split at hr
 case h_2=>simp only [aa] at hr
 rename_i ti hti;simp only [ag,B4] at hr;obtain ⟨⟨k1,_⟩,hr⟩:=hr;rw [gp] at hr;subst hr;obtain ⟨vs,m1,m2,m3,m4⟩:=fg hv k1;refine ⟨_,_,?_,h.newBoxD (t:=e) (hnw id (by simp)) m2 m4⟩
 simp [Instr.box,newVar,newRow,m1,pure]
theorem Mg {H:Tab} {F:Fz} {c:CT} {v:Value} (hp:fj [c]=true) (hL:nq H [c]) (h:zvB c v=true):RC H w F (la c) c v []:=by
 cases c <;> cases v <;> simp [zvB,fj] at h hp <;> simp only [la,RC]
 · obtain ⟨rfl,rfl⟩:=h; exact ⟨_,rfl,rfl,trivial⟩
 · subst h; simp
 · rename_i s
   rw [h]; exact ⟨trivial,rfl,trivial⟩
 · rename_i e A n cp
   obtain ⟨te,hte⟩:=hL e (by simp)
   cases A <;> cases n <;> cases cp <;> simp [zvB] at h
   exact ⟨e,te,none,0,rfl,hte,rfl,⟨D1 _,fun _=>.inl ⟨rfl,rfl⟩⟩,.inl (by simp)⟩
theorem Cs {H:Tab} {F:Fz}:∀ {lay:List CT} {vs:List Value},fj lay=true->nq H lay->zvL lay vs=true->RL H w F (lay.map la) lay vs []
 | [],[],_,_,_=>by simp [RL]
 | [],_::_,_,_,h=>by simp [zvL] at h
 | _::_,[],_,_,h=>by simp [zvL] at h
 | c::cs,v::vs,hp,hL,h=>by
  simp only [zvL,B4] at h;simp only [fj,O0,B4] at hp;simp only [C0,RL];exact ⟨c,cs,v,vs,[],[],rfl,rfl,rfl,Mg (by simp only [fj,O0,List.all_nil,Bool.and_true]; exact hp.1) (fun e he=>hL e (by simp at he; simp [he])) h.1,
   Cs hp.2 (fun e he=>hL e (by simp [he])) h.2⟩
theorem py {H:Tab} {F:Fz} {lay:List CT} {vs:List Value} (hp:fj lay=true) (hL:nq H lay) (h:zvL lay vs=true):∀ (n:Nat),af H w F (po n (lay.map la)) lay ((K3 n vs).flatten) []
 | 0=>by simp [po,af]
 | n+1=>by
  simp only [po,af,List.replicate_succ,O6];exact ⟨vs,_,[],[],rfl,rfl,Cs hp hL h,py hp hL h n⟩
theorem pz (zc:Array Value) (wd:Nat) (hzc:zc.size=wd) (hw0:0<wd) (len:Nat):madeCells zc (len*wd)=((K3 len zc.toList).flatten).toArray:=by
 unfold madeCells;symm
 apply Array.ext';apply F1;intro j;have hgen:∀ n j,j<n*wd->((K3 n zc.toList).flatten)[j]?=some (zc[j % wd]!):=by
  intro n;induction n with
  | zero=>intro j hj; omega
  | succ n ih =>
   intro j hj;rw [List.replicate_succ,O6];by_cases hjl:j<wd
   · rw [D2 (by simp [hzc]; exact hjl),Nat.mod_eq_of_lt hjl]
     have:j<zc.size:=by omega
     simp [this]
   · have hj2:j-wd<n*wd:=by
      have:j<n*wd+wd:=by rw [<- Nat.succ_mul]; exact hj
      omega
     rw [D3 (by simp [hzc]; omega)]
     have e1:zc.toList.length=wd:=by simp [hzc]
     rw [e1,ih (j-wd) hj2,<- Nat.mod_eq_sub_mod (by omega:wd<=j)]
 have hlen:((K3 len zc.toList).flatten).length=len*wd:=by simp [List.length_flatten,hzc]
 by_cases hj:j<len*wd
 · rw [hgen len j hj]; simp [hj,hzc]
 · rw [List.getElem?_eq_none (by simpa [hzc] using (by omega:len*wd<=j)),List.getElem?_eq_none (by simp; omega)]
theorem oc {lay:List CT} {sh:Bool}:∀ {ps:List (Nat×Val)} {rows:ak} {r:ak×Bool×List (Nat×Option Obj)} {st st':St},ah call st (iq sh lay ps rows)=some r->(∀ p∈r.2.2,st'.o p.1=st.o p.1)->ah call st' (iq sh lay ps rows)=some r
 | [],rows,r,st,st',hr,h=>by simp only [iq,ab] at hr ⊢; exact hr
 | (i,v)::ps,rows,r,st,st',hr,h=>by
  simp only [iq,run_bind,ag,ab] at hr ⊢;obtain ⟨h0,x,h1,y,h2,h3,rfl⟩:=hr;exact ⟨h0,x,kp h1 fun p hp=>h p (by simp [hp]),y,oc h2 fun p hp=>h p (by simp [hp]),h3,rfl⟩
theorem rp {lay:List CT} {sh:Bool}:∀ {ps:List (Nat×Val)} {rows:ak} {r:ak×Bool×List (Nat×Option Obj)},ah call st (iq sh lay ps rows)=some r->r.1.length=rows.length
 | [],rows,r,hr=>by simp only [iq,ab] at hr; subst hr; rfl
 | (i,v)::ps,rows,r,hr=>by
  simp only [iq,run_bind,ag,ab,B4,E7,dn,bh] at hr;obtain ⟨⟨_,h0⟩,x,h1,y,h2,h3,rfl⟩:=hr;rw [rp h2,av _ _ _ (by simp; omega)]
theorem wb {lay:List CT} {sh:Bool} (hL:nq E.H lay) (hpos:0<lay.length):∀ {ps:List (Nat×Val)} {us:List (Nat×Value)} {rows:ak} {vs:List Value} {own0:Bool} {G:Gh} {st:St} {r:ak×Bool×List (Nat×Option Obj)},Rel E G st a w->ci G0 st0 G st →
 ee E G0 st0 G st w own0 (fun F B=>af E.H w F rows lay vs B)->ps.map (·.1)=us.map (·.1)->VRL E.H G w (ps.map (·.2)) (us.map (·.2))->ah call st (iq sh lay ps rows)=some r →
 ∃ G' vs',ci G0 st0 G' (st.upd r.2.2)/\Rel E G' (st.upd r.2.2) a w/\ee E G0 st0 G' (st.upd r.2.2) w (own0&&r.2.1) (fun F B=>af E.H w F r.1 lay vs' B) ∧
  Instr.fill (fun i=>some (i*lay.length,lay.length)) vs.toArray us=some vs'.toArray
 | [],us,rows,vs,own0,G,st,r,h,s,hk,h1,h2,hr=>by
  simp only [iq,ab] at hr;subst hr;have:us=[]:=by cases us <;> simp_all
  subst this;exact ⟨G,vs,s,h,by rw [Bool.and_true]; exact hk,by simp [Instr.fill]⟩
 | (i,v)::ps,us,rows,vs,own0,G,st,r,h,s,hk,h1,h2,hr=>by
  match us,h1,h2 with
  | [],h1,h2=>simp at h1
  | (i',u)::us,h1,h2 =>
   simp only [C0,N7.injEq] at h1;obtain ⟨rfl,h1⟩:=h1;simp only [C0,VRL,N7.injEq] at h2;obtain ⟨u',us',⟨rfl,rfl⟩,h5,h6⟩:=h2;simp only [iq,run_bind,ag,ab,B4,E7,dn,bh] at hr;obtain ⟨⟨hc,hi⟩,⟨ds,own1,ups1⟩,hr1,⟨rows2,own2,ups2⟩,hr2,hap,rfl⟩:=hr;obtain ⟨ws,m1,m2,m3,m4⟩:=fg h5 hc;obtain ⟨G1,s1,r1,k1⟩:=pj h hL m2 hr1;have k1':ee E G st G1 (st.upd ups1) w own1 (fun F B=>RL E.H w F ds lay ws B):=k1
   obtain ⟨G2,s2,r2,⟨l2,f2⟩,B1,B2,n1,n2⟩:=ee.two (R1:=fun F B=>af E.H w F rows lay vs B) (R2:=fun F B=>RL E.H w F ds lay ws B) (fun {F F' B} hf hn hh=>af.mono _ _ _ _ (fun b hb q hq=>⟨hf b hb q hq,rfl⟩) hh hn)
    (fun {F F' B} hf hn hh=>RL.mono _ _ _ _ (fun b hb q hq=>⟨hf b hb q hq,rfl⟩) hh hn) hk s k1 s1 r1
   have hgen:∀ {F:Fz},af E.H w F rows lay vs B1->RL E.H w F ds lay ws B2->∃ B',(∀ b∈B',b∈B1++B2)/\((B1++B2).Nodup->B'.Nodup)/\af E.H w F (over i [ds] rows) lay (over (i*lay.length) ws vs) B':=by
    intro F q1 q2;obtain ⟨va,vm,vb,Ba,Bm,Bb,e1,e2,q3,q4,q5,q6⟩:=q1.cut i (by omega)
    have lw:=q2.length.1;have lm:=q4.length.1;refine ⟨Ba++B2++Bb,fun b hb=>?_,fun hn=>?_,?_⟩
    · subst e2; simp only [B8] at hb ⊢; rcases hb with (hb | hb) | hb <;> simp [hb]
    · subst e2
      rw [C9,C9] at hn;obtain ⟨p1,p2,p3⟩:=C7.1 hn;obtain ⟨p4,p5,p6⟩:=C7.1 p2;obtain ⟨p7,p8,p9⟩:=C7.1 p5;rw [C9];refine C7.2 ⟨p1,C7.2 ⟨p8,p7,fun x hx y hy e=>p9 y hy x hx e.symm⟩,fun x hx y hy=>p3 x hx y ?_⟩
      simp only [B8] at hy ⊢; rcases hy with hy | hy <;> simp [hy]
    · have ho:over (i*lay.length) ws vs=va++ws++vb:=by
       subst e1;rw [cg _ _ _ (by simp [lm,lw]; omega),C9 va vm,<- q3,List.take_left,C9,C9]
       congr 1
       rw [lw,<- lm,<- C9,show va.length+vm.length=(va++vm).length by simp,List.drop_left]
      rw [ho];exact q5.join (by omega) q2 q6
   have hk2:ee E G0 st0 G2 (st.upd ups1) w (own0&&own1) (fun F B=>af E.H w F (over i [ds] rows) lay (over (i*lay.length) ws vs) B):=by
    by_cases ho:(own0&&own1)=true
    · obtain ⟨q1,q2,q3,q4,q5⟩:=n1 ho
      obtain ⟨B',e1,e2,e3⟩:=hgen q1 q2;exact ⟨B',fun _=>⟨e3,e2 q3,fun b hb=>q4 b (e1 b hb),fun b hb=>q5 b (e1 b hb)⟩,fun hf=>by rw [ho] at hf; simp at hf⟩
    · have ho':(own0&&own1)=false:=by simpa using ho
      obtain ⟨q1,q2⟩:=n2 ho';obtain ⟨B',e1,e2,e3⟩:=hgen q1 q2;exact ⟨B',fun ht=>absurd ht ho,fun _=>e3⟩
   have hlw:ws.length=lay.length:=by
    by_cases ho:(own0&&own1)=true
    · exact (n1 ho).2.1.length.1
    · exact (n2 (by simpa using ho)).2.length.1
   have hlv:vs.length=rows.length*lay.length:=by
    by_cases ho:(own0&&own1)=true
    · exact (n1 ho).1.length
    · exact (n2 (by simpa using ho)).1.length
   have hr2':=oc (st':=st.upd ups1) hr2 fun p hp=>ce ups1 st fun q hq=>ic.1 hap q hq p hp
   have hFm:∀ b o,G.F b o->G2.F b o/\w.cell? ⟨b,o,none⟩=w.cell? ⟨b,o,none⟩:=fun b o hf=>⟨f2 b o (s1.F b o hf),rfl⟩
   obtain ⟨G',vs',t1,t2,t3,t4⟩:=wb hL hpos r2 s2 hk2 h1 (VRL.mono (s1.le.trans l2) hFm _ _ h6) hr2';refine ⟨G',vs',by rw [ba]; exact t1,by rw [ba]; exact t2,by rw [ba,<- Bool.and_assoc]; exact t3,?_⟩
   rw [vx _ i (i*lay.length) lay.length rfl u ws vs us m1 hlw ?_]
   · exact t4
   · rw [hlv]
     calc i*lay.length+lay.length=(i+1)*lay.length:=by rw [E0]; omega
      _<=rows.length*lay.length:=C3 _ (by omega)
theorem pd {P:Program} {t e:TypeId} {te:TI} {n:Nat} {parts:List (Nat×Value)} {cells:List Value} {ie:TypeInfo} {z:Value}
 (hu:P.underlying t=some (.slice e)) (hie:P.info? e=some ie) (hz:ie.zero=some z) (hsmall:n*ie.size<=16777216) (hzc:z.cells.size=ie.size) (hpos:0<ie.size)
 (h:Instr.fill (fun i=>some (i*ie.size,ie.size)) ((K3 n z.cells.toList).flatten).toArray parts=some cells.toArray) :
 (Instr.buildSlice t n parts.toArray).run P w=.ok (.slice (some ⟨w.heap.size,0,none⟩) n n) (w.alloc (.cells cells.toArray e)):=by
 have hs:¬ n*ie.size > 2 ^ 24:=by omega
 rw [<- pz z.cells ie.size hzc hpos n] at h;unfold madeCells at h;by_cases h0:n*ie.size=0
 · rw [h0] at h
   have h':Instr.fill (fun i=>some (i*ie.size,ie.size)) #[] parts=some cells.toArray:=by simpa [Array.range_zero'] using h
   simp [Instr.buildSlice,run_underlying hu,sizeOf,typeInfo,zeroValue,hie,hz,h0,newRow,Array.range_zero',h']
 · simp [Instr.buildSlice,run_underlying hu,sizeOf,typeInfo,zeroValue,hie,hz,hs,h0,h,newRow]
theorem pf (h:Rel E G st a w) (hH:bv E.P E.H) {sh:Bool} {id n:Nat} {t:TypeId} {ps:List (Nat×Val)} {us:List (Nat×Value)} {eff:Eff} (h1:ps.map (·.1)=us.map (·.1)) (h2:VRL E.H G w (ps.map (·.2)) (us.map (·.2)))
 (hr:ah call st (lh E.H sh id t n ps)=some eff) (hnw:∀ j∈eff.nw,st.u j=false) :
 ∃ u w',(Instr.buildSlice t n us.toArray).run E.P w=.ok u w'/\db E G st a eff u w':=by
 obtain ⟨e,te,ht,he,hpos,hpl,hr⟩:=ft hH hr;simp only [ag,dn,bh,run_bind] at hr;obtain ⟨hsm,⟨rows,own,ups⟩,hf,hr⟩:=hr;rw [gp] at hr;subst hr;obtain ⟨i,z,i1,i2,i3,i4,i5,i6,i7⟩:=(TyR.of (hH e te he)).info;have hzc:z.cells.toList.length=te.lay.length:=by
  have:=(jo (G:=G) (w:=w) E.H i5).1.length;simpa using this
 have hL:=hH.lay he;have hk:ee E G st G st w true (fun F B=>af E.H w F (po n (te.lay.map la)) te.lay ((K3 n z.cells.toList).flatten) B) :=
  ⟨[],fun _=>⟨py hpl hL i5 n,by simp,fun b hb=>by simp at hb,fun b hb=>by simp at hb⟩,fun h=>by simp at h⟩
 obtain ⟨G1,vs,s1,r1,k1,k2⟩:=wb hL hpos h (ci.refl G st) hk h1 h2 hf;have hlen:=rp hf;simp only [zf,List.length_replicate] at hlen;simp only [Bool.true_and] at k1;have hu1:(st.upd ups).u id=false:=by rw [(co st ups st).2.1]; exact hnw id (by simp)
 have hvl:vs.length=n*te.lay.length:=by
  obtain ⟨B,q1,q2⟩:=k1;cases own
  · have:=(q2 rfl).length; rw [hlen] at this; exact this
  · have:=(q1 rfl).1.length; rw [hlen] at this; exact this
 obtain ⟨G2,l2,r2,v2⟩:=r1.newArr (rest:=[]) k1 he hpos hu1 (cap:=n) (by simpa using hvl) e (.inl rfl)
 refine ⟨_,_,pd (te:=te) ht i1 i4 (by rw [i2]; omega) (by rw [<- G7,hzc,i2]) (by omega) (by rw [i2]; exact k2),G2,s1.le.trans l2,?_,?_⟩
 · rw [O1] at r2
   simp only [ba];exact r2
 · rw [O1,hlen] at v2; exact v2
theorem qa (h:Rel E G st a w) (hH:bv E.P E.H) {id:Nat} {t:TypeId} {l c:Val} {ul uc:Value} {eff:Eff} (hl:VR E.H G w l ul) (hc:VR E.H G w c uc)
 (hr:ah call st (nn E.H id t l c)=some eff) (hnw:∀ j∈eff.nw,st.u j=false) :
 ∃ u w',(Instr.makeSlice t ul uc).run E.P w=.ok u w'/\db E G st a eff u w':=by
 obtain ⟨e,te,ht,he,hpos,hpl,hr⟩:=ft hH hr;simp only [ag,run_bind,B4,decide_eq_true_eq] at hr;obtain ⟨l',hl',c',hc',⟨rfl,h0,hm⟩,hr⟩:=hr;rw [gp] at hr;subst hr;obtain ⟨kl,rfl⟩:=lu hl hl';obtain ⟨kc,rfl⟩:=lu hc hc';obtain ⟨i,z,i1,i2,i3,i4,i5,i6,i7⟩:=(TyR.of (hH e te he)).info;have hzc:z.cells.toList.length=te.lay.length:=by
  have:=(jo (G:=G) (w:=w) E.H i5).1.length;simpa using this
 unfold M63 at hm;have hk:ee E G st G st w true (fun F B=>af E.H w F (po l'.toNat (te.lay.map la)) te.lay ((K3 l'.toNat z.cells.toList).flatten) B) :=
  ⟨[],fun _=>⟨py hpl (hH.lay he) i5 _,by simp,fun b hb=>by simp at hb,fun b hb=>by simp at hb⟩,fun h=>by simp at h⟩
 have hlen:(po l'.toNat (te.lay.map la)).length=l'.toNat:=by simp [zf]
 obtain ⟨G2,l2,r2,v2⟩:=h.newArr (rest:=[]) hk he hpos (hnw id (by simp)) (cap:=l'.toNat) (by simp [List.length_flatten,hzc]) e (.inl rfl)
 have hrun:=run_make (P:=E.P) w t e i z ht i1 i4 kl kc l' l' h0 (Int.le_refl _) (by
  have:(i.bytes:Int)<=512:=by omega
  calc (i.bytes:Int)*l'<=512*l':=Int.mul_le_mul_of_nonneg_right this h0
   _<=281474976710656:=by omega) (by omega)
 rw [i2,pz z.cells te.lay.length (by rw [<- G7,hzc]) hpos] at hrun
 refine ⟨_,_,hrun,G2,l2,?_,?_⟩
 · rw [O1] at r2; exact r2
 · rw [O1,hlen] at v2; exact v2
end
end Go.Q
end
section
namespace Go.Q
open Go
open Go.RowKit (Below)
theorem RL.over_ {H:Tab} {w:World} {F:Fz} {row ds:List D} {lay:List CT} {v us:List Value} {B B1:List Nat} {off n:Nat} (h:RL H w F row lay v B) (h1:RL H w F ds ((lay.drop off).take n) us B1) (hl:off+n<=lay.length) :
 ∃ B2,(∀ b∈B2,b∈B++B1)/\((B++B1).Nodup->B2.Nodup)/\RL H w F (over off ds row) lay (over off us v) B2:=by
 obtain ⟨va,vm,vb,Ba,Bm,Bb,rfl,rfl,k1,k2,k3,k4,k5⟩:=h.cut off n hl;have l1:=h1.length;have l0:=h.length;have ln:((lay.drop off).take n).length=n:=by simp; omega
 refine ⟨Ba++B1++Bb,fun b hb=>?_,fun hn=>?_,?_⟩
 · simp only [B8] at hb ⊢; rcases hb with (hb | hb) | hb <;> simp [hb]
 · simp only [C7,B8] at hn ⊢
   obtain ⟨⟨⟨h1,h2,h3⟩,h4,h5⟩,h6,h7⟩:=hn;exact ⟨⟨h1,h6,fun x hx y hy=>h7 x (.inl (.inl hx)) y hy⟩,h4,fun x hx y hy e=>hx.elim (fun hx=>h5 x (.inl hx) y hy e) fun hx=>h7 y (.inr hy) x hx e.symm⟩
 · have e1:over off us (va++vm++vb)=va++us++vb:=by
    rw [cg _ _ _ (by simp; omega)]
    subst k1;have e2:va.length+us.length=(va++vm).length:=by simp; omega
    rw [e2,List.drop_left,C9 va vm,List.take_left]
   have e2:over off ds row=row.take off++ds++row.drop (off+n):=by rw [cg _ _ _ (by omega),l1.2,ln]
   rw [e1,e2];have e3:lay=lay.take off++(lay.drop off).take n++lay.drop (off+n):=by
    rw [C9,<- List.drop_drop,N2,N2]
   have:=(k3.append h1).append k5;rw [<- e3] at this;exact this
theorem af.over_ {H:Tab} {w:World} {F:Fz} {rows:ak} {r:List D} {lay:List CT} {vs v:List Value} {B B1:List Nat} {i:Nat} (h:af H w F rows lay vs B) (h1:RL H w F r lay v B1) (hi:i<rows.length) :
 ∃ B2,(∀ b∈B2,b∈B++B1)/\((B++B1).Nodup->B2.Nodup)/\af H w F (over i [r] rows) lay (over (i*lay.length) v vs) B2:=by
 obtain ⟨va,vm,vb,Ba,Bm,Bb,rfl,rfl,k1,k2,k3,k4⟩:=h.cut i hi;have l1:=h1.length.1;have l2:=k2.length.1;refine ⟨Ba++B1++Bb,fun b hb=>?_,fun hn=>?_,?_⟩
 · simp only [B8] at hb ⊢; rcases hb with (hb | hb) | hb <;> simp [hb]
 · simp only [C7,B8] at hn ⊢
   obtain ⟨⟨⟨h1,h2,h3⟩,h4,h5⟩,h6,h7⟩:=hn;exact ⟨⟨h1,h6,fun x hx y hy=>h7 x (.inl (.inl hx)) y hy⟩,h4,fun x hx y hy e=>hx.elim (fun hx=>h5 x (.inl hx) y hy e) fun hx=>h7 y (.inr hy) x hx e.symm⟩
 · have e1:over (i*lay.length) v (va++vm++vb)=va++v++vb:=by
    rw [cg _ _ _ (by simp; omega),<- k1]
    have e2:va.length+v.length=(va++vm).length:=by simp; omega
    rw [e2,List.drop_left,C9 va vm,List.take_left]
   rw [e1];exact k3.join hi h1 k4
theorem af.cell_ {H:Tab} {w:World} {F:Fz} {rows:ak} {ds:List D} {lay:List CT} {vs us:List Value} {B B1:List Nat} {i off n:Nat} (h:af H w F rows lay vs B) (h1:RL H w F ds ((lay.drop off).take n) us B1) (hi:i<rows.length) (hl:off+n<=lay.length) :
 ∃ B2,(∀ b∈B2,b∈B++B1)/\((B++B1).Nodup->B2.Nodup)/\af H w F (over i [over off ds (rowAt rows i)] rows) lay (over (i*lay.length+off) us vs) B2:=by
 have hrl:=h.length;obtain ⟨va,vm,vb,Ba,Bm,Bb,rfl,rfl,k1,k2,k3,k4⟩:=h.cut i hi;obtain ⟨Bn,n1,n2,n3⟩:=k2.over_ h1 hl;have l1:=h1.length.1;have ln:((lay.drop off).take n).length=n:=by simp; omega
 have l2:=k2.length.1;refine ⟨Ba++Bn++Bb,fun b hb=>?_,fun hn=>?_,?_⟩
 · simp only [B8] at hb n1 ⊢
   rcases hb with (hb | hb) | hb
   · simp [hb]
   · rcases n1 b hb with h | h <;> simp [h]
   · simp [hb]
 · simp only [C7,B8] at hn n2 ⊢
   obtain ⟨⟨⟨h1,h2,h3⟩,h4,h5⟩,h6,h7⟩:=hn;have hnn:=n2 ⟨h2,h6,fun x hx y hy=>h7 x (.inl (.inr hx)) y hy⟩
   simp only [B8] at n1;refine ⟨⟨h1,hnn,fun x hx y hy e=>?_⟩,h4,fun x hx y hy e=>?_⟩
   · rcases n1 y hy with hy | hy
     · exact h3 x hx y hy e
     · exact h7 x (.inl (.inl hx)) y hy e
   · rcases hx with hx | hx
     · exact h5 x (.inl hx) y hy e
     · rcases n1 x hx with hx | hx
       · exact h5 x (.inr hx) y hy e
       · exact h7 y (.inr hy) x hx e.symm
 · have e1:over (i*lay.length+off) us (va++vm++vb)=va++over off us vm++vb:=by
    rw [cg _ _ _ (by simp; omega),cg _ _ _ (by omega),<- k1]
    rw [C9 va vm vb,List.take_length_add_append,N1,List.drop_length_add_append,List.take_append_of_le_length (by omega),List.drop_append_of_le_length (by omega)]
    simp only [C9]
   rw [e1];exact k3.join hi n3 k4
section
variable {call:Key->List D->R} {E:Env} {G:Gh} {st:St} {a:Act} {w:World}
theorem fh {w:World} {b0 b:Nat} {cur:Array Value} {t:TypeId} (hg:w.heap[b0]?=some (.cells cur t (0,0))) (x:Array Value) (h:∃ cur t,w.heap[b]?=some (.cells cur t (0,0))):∃ cur t,(w.setRow b0 x).heap[b]?=some (.cells cur t (0,0)):=by
 by_cases e:b=b0
 · subst e; exact ⟨_,_,setRow_heap w _ cur _ t _ hg⟩
 · rw [setRow_other w _ b _ e]; exact h
def Gh.edit (G:Gh) (j:Nat) (blk:Nat->Prop) (ver:Nat) (nh:Nat->Nat->Nat->Value) (pv:Nat->Value):Gh :=
 { G with blk:=cd G.blk j blk,vm:=cd G.vm j ver,nh:=cd G.nh j nh,pv:=cd G.pv j pv }
theorem Rel.edit (h:Rel E G st a w) {j:Nat} {ob ob':Obj} {w':World} (hj:st.o j=some ob) {blk:Nat->Prop} {ver:Nat} {nh:Nat->Nat->Nat->Value} {pv:Nat->Value}
 (hver:G.vm j<=ver) (hnh:∀ v,v<=G.vm j->nh v=G.nh j v) (hpv:∀ v,v<=G.vm j->pv v=G.pv j v)
 (hO:G.le (G.edit j blk ver nh pv)->OR E.H (G.edit j blk ver nh pv) w' j ob') (hsz:w.heap.size<=w'.heap.size) (hos:w'.os=w.os) (htp:w'.tape=w.tape) (hout:w'.output=w.output)
 (hsame:∀ b,b<w.heap.size->¬ G.blk j b->w'.heap[b]?=w.heap[b]?) (hF:∀ b q,G.F b q->w'.cell? ⟨b,q,none⟩=w.cell? ⟨b,q,none⟩)
 (hblk:∀ b,blk b->b<w'.heap.size/\(E.w0.heap.size<=b\/E.lent b)/\∀ i ob,i≠j->st.o i=some ob->¬ G.blk i b)
 (hlo:∀ b,blk b->b<w.heap.size->Pl w b)
 (hpl:∀ b,b<w'.heap.size->(b<w.heap.size->∃ cur t,w.heap[b]?=some (.cells cur t (0,0)))->(w.heap.size<=b\/G.blk j b)->∃ cur t,w'.heap[b]?=some (.cells cur t (0,0))) :
 G.le (G.edit j blk ver nh pv)/\Rel E (G.edit j blk ver nh pv) (st.upd [(j,some ob')]) a w':=by
 have hle:G.le (G.edit j blk ver nh pv):={
  U:=fun _=>id
  bm:=fun _ _=>rfl
  hv:=fun _ _=>rfl
  ly:=fun _ _=>rfl
  nh:=fun i v hi hv=>by
   by_cases e:i=j
   · subst e; simp only [Gh.edit,ae]; exact hnh v hv
   · simp only [Gh.edit,aj _ _ e]
  pv:=fun i v hi hv=>by
   by_cases e:i=j
   · subst e; simp only [Gh.edit,ae]; exact hpv v hv
   · simp only [Gh.edit,aj _ _ e]
  vm:=fun i hi=>by
   by_cases e:i=j
   · subst e; simp only [Gh.edit,ae]; exact hver
   · simp only [Gh.edit,aj _ _ e]; exact D1 _ }
 have hFm:∀ b q,G.F b q->G.F b q/\w'.cell? ⟨b,q,none⟩=w.cell? ⟨b,q,none⟩:=fun b q hf=>⟨hf,hF b q hf⟩
 have ho:∀ i ob1,(st.upd [(j,some ob')]).o i=some ob1->(i=j/\ob1=ob')\/(i≠j/\st.o i=some ob1):=fun i ob1 hi=>by
  simp only [St.upd,cd] at hi;cases hb:C2 i j with
  | true=>rw [hb] at hi; exact .inl ⟨ay.1 hb,by simpa using hi.symm⟩
  | false=>rw [hb] at hi; exact .inr ⟨bf.1 hb,hi⟩
 refine ⟨hle,{
  core:={
   fsz:=fun b q hf=>D9 (h.core.fsz b q hf) hsz
   f0:=h.core.f0
   f1:=h.core.f1
   fc:=fun b q hf=>(hF b q (h.core.f0 b q hf)).trans (h.core.fc b q hf)
   kept:=fun b hb hl=>by
    have hlt:=D9 hb h.core.size;rw [hsame b hlt fun hbl=>?_]
    · exact h.core.kept b hb hl
    · rcases (h.blk j ob b hj hbl).2 with hc | hc
      · omega
      · exact hl hc
   size:=F4 h.core.size hsz
   os:=hos.trans h.core.os
   tape:=htp.trans h.core.tape
   out:=hout.trans h.core.out
   vars:=h.core.vars }
  nt:=h.nt
  dfs:=h.dfs
  tmps:=fun t=>VR.mono hle hFm _ _ (h.tmps t)
  objs:=fun i ob1 hi=>by
   rcases ho i ob1 hi with ⟨rfl,rfl⟩|⟨hne,hi⟩
   · exact ⟨(h.objs _ _ hj).1,hO hle⟩
   · obtain ⟨k1,k2⟩:=h.objs i ob1 hi
     exact ⟨k1,k2.mono hle k1 hFm (fun _ _=>.inl) (fun b hb=>hsame b (h.blk i ob1 b hi hb).1 fun hbl=>hne (h.sep i j ob1 ob b hi hj hb hbl)) (aj _ _ hne) (aj _ _ hne)⟩
  blk:=fun i ob1 b hi hb=>by
   rcases ho i ob1 hi with ⟨rfl,rfl⟩|⟨hne,hi⟩
   · simp only [Gh.edit,ae] at hb
     exact ⟨(hblk b hb).1,(hblk b hb).2.1⟩
   · simp only [Gh.edit,aj _ _ hne] at hb
     obtain ⟨k1,k2⟩:=h.blk i ob1 b hi hb;exact ⟨D9 k1 hsz,k2⟩
  pl:=fun i ob1 b hi hb=>by
   rcases ho i ob1 hi with ⟨rfl,rfl⟩|⟨hne,hi⟩
   · simp only [Gh.edit,ae] at hb
     by_cases hc:w.heap.size<=b\/G.blk i b
     · exact hpl b (hblk b hb).1 (hlo b hb) hc
     · unfold Pl
       rw [hsame b (by omega) fun h'=>hc (.inr h')]
       exact hlo b hb (by omega)
   · simp only [Gh.edit,aj _ _ hne] at hb
     unfold Pl;rw [hsame b (h.blk i ob1 b hi hb).1 fun hbl=>hne (h.sep i j ob1 ob b hi hj hb hbl)]
     exact h.pl i ob1 b hi hb
  sep:=fun i i' ob1 ob2 b hi hi' hb hb'=>by
   rcases ho i ob1 hi with ⟨rfl,e1⟩|⟨hne,p1⟩ <;> rcases ho i' ob2 hi' with ⟨e2,e3⟩|⟨hne',p2⟩
   · exact e2.symm
   · simp only [Gh.edit,ae] at hb
     simp only [Gh.edit,aj _ _ hne'] at hb';exact absurd hb' ((hblk b hb).2.2 i' ob2 hne' p2)
   · subst e2
     simp only [Gh.edit,ae] at hb';simp only [Gh.edit,aj _ _ hne] at hb;exact absurd hb ((hblk b hb').2.2 i ob1 hne p1)
   · simp only [Gh.edit,aj _ _ hne] at hb
     simp only [Gh.edit,aj _ _ hne'] at hb';exact h.sep i i' ob1 ob2 b p1 p2 hb hb'
  used:=h.used }⟩
end
end Go.Q
end
section
namespace Go.Q
open Go
open Go.RowKit (Below)
section
variable {call:Key->List D->R} {E:Env} {G G0:Gh} {st st0:St} {a:Act} {w:World}
theorem er {P:Program} {H:Tab} {t:TypeId} {ti:TI} (ht:TyR P H t ti) {b o:Nat} {cur:Array Value} {ty:TypeId} (hg:w.heap[b]?=some (.cells cur ty (0,0))) {v:Value} {vs:List Value} (hv:v.cells=vs.toArray)
 (hl:vs.length=ti.lay.length) (hfit:o+vs.length<=cur.size) (h1:∀ u∈vs,u.oneCell'=true):(Instr.storeAt t (.pointer (some ⟨b,o,none⟩)) v).run P w=.ok () (w.setRow b (over o vs cur.toList).toArray):=by
 have hst:=run_storeCells_at P b o ty vs 0 cur w hg (by omega) h1
 simp only [J9] at hst;rw [cg _ _ _ (by simpa using hfit)]
 simp [Instr.storeAt,Instr.sureAddr,storeVar,hv,ht.sizeOf w,hl,hst,pure]
theorem cy {b o:Nat} {vs:List Value} {cur:Array Value} {ty:TypeId} (hg:w.heap[b]?=some (.cells cur ty (0,0))) (b' q:Nat) (hb:b'≠b):(w.setRow b (over o vs cur.toList).toArray).cell? ⟨b',q,none⟩=w.cell? ⟨b',q,none⟩:=by
 simp only [World.cell?,setRow_other w b b' _ hb]
theorem mv (st:St) (j:Nat) (x y:Option Obj):(st.upd [(j,x)]).upd [(j,y)]=st.upd [(j,y)]:=by
 simp only [St.upd];congr 1
 funext i
 simp only [cd];cases C2 i j <;> rfl
theorem Rel.demote (h:Rel E G st a w) {j:Nat} {e:TypeId} {ver:Nat} {rows:ak} (hj:st.o j=some (.arr e .deep ver rows none)) :
 ∃ G',G.le G'/\(∀ b q,G.F b q->G'.F b q)/\Rel E G' (st.upd [(j,some (.arr e .top ver rows none))]) a w/\(∀ b q,G'.F b q->G.F b q\/G.blk j b)/\G'.blk=G.blk:=by
 obtain ⟨hU,ho⟩:=h.objs j _ hj;have ho':=ho;simp only [OR] at ho';obtain ⟨ti,A,cap,h1,hp,h2,h2v,h3,h4,h5⟩:=ho'
 -- the blocks below
 have hB:∃ B:List Nat,(∀ b∈B,G.blk j b/\b≠G.bm j)/\∀ F:Fz,(∀ b q,G.F b q->F b q)->(∀ b∈B,∀ q,F b q)->(∀ q,¬ G.F (G.bm j) q->¬ F (G.bm j) q) →
  ∀ G':Gh,G'.F=F->G'.bm=G.bm->G'.ly=G.ly->G'.hv=G.hv->G'.vm=G.vm->G'.blk=G.blk->OR E.H G' w j (.arr e .top ver rows none):=by
  rcases h5 with h5 | ⟨o,cur,t,k1,k2,k3,k4,k5⟩
  · refine ⟨[],by simp,fun F _ _ _ G' e1 e2 e3 e4 e5 e6=>?_⟩
    simp only [OR];exact ⟨ti,A,cap,h1,hp,by rw [e3]; exact h2,by rw [e5]; exact h2v,by rw [e4]; exact h3,h4,.inl h5⟩
  · simp only [bc] at k5
    obtain ⟨m1,m2,⟨B,m3,m4,m5⟩,m6⟩:=k5;refine ⟨B,fun b hb=>⟨m5 b hb,fun e=>(C4.1 m4).1 (e▸hb)⟩,fun F f1 f2 f3 G' e1 e2 e3 e4 e5 e6=>?_⟩
    simp only [OR];refine ⟨ti,A,cap,h1,hp,by rw [e3]; exact h2,by rw [e5]; exact h2v,by rw [e4]; exact h3,h4,.inr ⟨o,cur,t,by rw [e2]; exact k1,by rw [e2,e6]; exact k2,by rw [e2]; exact k3,k4,?_⟩⟩
    simp only [bc,e1,e2];exact ⟨fun q=>f3 q (m1 q),B,af.mono _ _ _ _ (fun b hb q _=>⟨f2 b hb q,rfl⟩) m3⟩
 obtain ⟨B,hB1,hB2⟩:=hB;let G':Gh:={ G with F:=fun b q=>G.F b q\/b∈B,nA:=Fz.nA (n:=w.heap.size) fun b q hf=>hf.elim (h.core.fsz b q) fun hb=>(h.blk j _ b hj (hB1 b hb).1).1 }
 have hle:G.le G':=⟨fun _=>id,fun _ _=>rfl,fun _ _=>rfl,fun _ _=>rfl,fun _ _ _ _=>rfl,fun _ _ _ _=>rfl,fun _ _=>D1 _⟩
 have hFm:∀ b q,G.F b q->G'.F b q/\w.cell? ⟨b,q,none⟩=w.cell? ⟨b,q,none⟩:=fun b q hf=>⟨.inl hf,rfl⟩
 have ho:∀ i ob,(st.upd [(j,some (.arr e .top ver rows none))]).o i=some ob->(i=j/\ob=.arr e .top ver rows none)\/(i≠j/\st.o i=some ob):=fun i ob hi=>by
  simp only [St.upd,cd] at hi;cases hb:C2 i j with
  | true=>rw [hb] at hi; exact .inl ⟨ay.1 hb,by simpa using hi.symm⟩
  | false=>rw [hb] at hi; exact .inr ⟨bf.1 hb,hi⟩
 have ho2:∀ i ob,(st.upd [(j,some (.arr e .top ver rows none))]).o i=some ob->∃ ob',st.o i=some ob':=fun i ob hi=>by
  rcases ho i ob hi with ⟨rfl,_⟩|⟨_,hi⟩
  · exact ⟨_,hj⟩
  · exact ⟨_,hi⟩
 refine ⟨G',hle,fun _ _=>.inl,?_,fun b q hf=>hf.imp (fun h=>h) fun hb=>(hB1 b hb).1,rfl⟩
 exact {
  core:={ h.core with
   fsz:=fun b q hf=>hf.elim (h.core.fsz b q) fun hb=>(h.blk j _ b hj (hB1 b hb).1).1
   f0:=fun b q hf=>.inl (h.core.f0 b q hf)
   f1:=fun b q hf=>hf.elim (h.core.f1 b q) fun hb=>.inr (h.blk j _ b hj (hB1 b hb).1).2 }
  nt:=h.nt
  dfs:=h.dfs
  tmps:=fun t=>VR.mono hle hFm _ _ (h.tmps t)
  objs:=fun i ob hi=>by
   rcases ho i ob hi with ⟨rfl,rfl⟩|⟨hne,hi⟩
   · exact ⟨hU,hB2 G'.F (fun _ _=>.inl) (fun b hb q=>.inr hb) (fun q hn hf=>hf.elim hn fun hb=>(hB1 _ hb).2 rfl) G' rfl rfl rfl rfl rfl rfl⟩
   · obtain ⟨k1,k2⟩:=h.objs i ob hi
     exact ⟨k1,k2.mono hle k1 hFm (fun b q hf=>hf.elim .inl fun hb=>.inr fun hbl=>hne (h.sep i j ob _ b hi hj hbl (hB1 b hb).1)) (fun _ _=>rfl) rfl rfl⟩
  blk:=fun i ob b hi hb=>by
   obtain ⟨ob',hi'⟩:=ho2 i ob hi;exact h.blk i ob' b hi' hb
  pl:=fun i ob b hi hb=>by
   obtain ⟨ob',hi'⟩:=ho2 i ob hi;exact h.pl i ob' b hi' hb
  sep:=fun i i' ob ob' b hi hi'=>by
   obtain ⟨ob1,hi1⟩:=ho2 i ob hi;obtain ⟨ob2,hi2⟩:=ho2 i' ob' hi';exact h.sep i i' ob1 ob2 b hi1 hi2
  used:=h.used }
theorem Rel.storeTop (h:Rel E G st a w) {j:Nat} {e:TypeId} {ver ver2:Nat} {rows:ak} {te:TI} (hj:st.o j=some (.arr e .top ver rows none)) (hv2:ver<=ver2) (hte:E.H.ty e=some te) {i off n:Nat} (hi:i<rows.length) (hl:off+n<=te.lay.length)
 {ds:List D} {us:List Value} {B:List Nat} (hk:RL E.H w G.F ds ((te.lay.drop off).take n) us B) {o cap:Nat} (hhv:G.hv j=.slice (some ⟨G.bm j,o,none⟩) rows.length cap) {cur:Array Value} {ty:TypeId} (hg:w.heap[G.bm j]?=some (.cells cur ty (0,0))) :
 ∃ G',G.le G'/\Rel E G' (st.upd [(j,some (.arr e .top ver2 (over i [over off ds (rowAt rows i)] rows) none))]) a (w.setRow (G.bm j) (over (o+(i*te.lay.length+off)) us cur.toList).toArray):=by
 obtain ⟨hU,ho⟩:=h.objs j _ hj;obtain ⟨ti,o',cur',t',vs,cap',q1,q2,q3,q4,q5,q6,q7,q8,q9,q10,q11,q12⟩:=bu ho (by omega)
 rw [hte] at q1;obtain rfl:te=ti:=by simpa using q1
 rw [hhv] at q4;simp only [Value.slice.injEq,B7.injEq,Addr.mk.injEq,and_true,true_and] at q4;obtain ⟨rfl,rfl⟩:=q4;rw [hg] at q6;simp only [B7.injEq,Go.Obj.cells.injEq,and_true] at q6;obtain ⟨rfl,rfl⟩:=q6;simp only [bc] at q11;obtain ⟨m1,B0,m2⟩:=q11;obtain ⟨B2,_,_,hov⟩:=m2.cell_ hk hi hl;have hlu:us.length=n:=by have:=hk.length.1; simp at this; omega
 have hmul:i*te.lay.length+te.lay.length<=rows.length*te.lay.length:=by
  calc i*te.lay.length+te.lay.length=(i+1)*te.lay.length:=by rw [E0]; omega
   _<=rows.length*te.lay.length:=C3 _ hi
 have hmul2:rows.length*te.lay.length<=gb j rows.length cap*te.lay.length:=C3 _ (gm q10);have hvm:G.vm j=ver:=by simp only [OR] at ho; obtain ⟨_,_,_,_,_,_,hvm,_⟩:=ho; exact hvm
 have hF:∀ b q,G.F b q->(w.setRow (G.bm j) (over (o+(i*te.lay.length+off)) us cur.toList).toArray).cell? ⟨b,q,none⟩=w.cell? ⟨b,q,none⟩:=fun b q hf=>cy hg b q fun e=>m1 q (e▸hf)
 have hrl:(over i [over off ds (rowAt rows i)] rows).length=rows.length:=av _ _ _ (by simp; omega)
 have hdt:((over (o+(i*te.lay.length+off)) us cur.toList).drop o).take (rows.length*te.lay.length)=over (i*te.lay.length+off) us vs:=by
  apply F1;intro q;rw [D7,D6,bi _ _ _ _ (by simp; omega),bi _ _ _ _ (by omega),q7,D7,D6]
  by_cases hq:q<rows.length*te.lay.length
  · simp only [hq,if_true]
    by_cases h1:i*te.lay.length+off<=q/\q<i*te.lay.length+off+us.length
    · rw [H5 h1,H5 (by omega)]; congr 1; omega
    · rw [H6 h1,H6 (by omega)]
  · simp only [hq,if_false]
    rw [H6 (by omega)]
 obtain ⟨k1,k2⟩:=h.edit (w':=w.setRow (G.bm j) (over (o+(i*te.lay.length+off)) us cur.toList).toArray) (ob':=.arr e .top ver2 (over i [over off ds (rowAt rows i)] rows) none) hj (blk:=G.blk j) (ver:=ver2) (nh:=G.nh j) (pv:=G.pv j) (by omega) (fun _ _=>rfl) (fun _ _=>rfl)
  (fun hle=>by
    simp only [OR];refine ⟨te,_,cap,hte,q2,q3,by simp only [Gh.edit,ae],by rw [hrl]; exact hhv,by rw [hrl]; exact q10,.inr ⟨o,_,ty,rfl,by simp only [Gh.edit,ae]; exact q5,setRow_heap w _ cur _ ty _ hg,by
     rw [hrl]; simp only [K8]; rw [av _ _ _ (by simp; omega)]; simpa using q9,?_⟩⟩
    simp only [bc,bj,hrl,hdt];exact ⟨m1,B2,af.mono _ _ _ _ (fun b _ q hf=>⟨hf,hF b q hf⟩) hov⟩)
  (by simp) rfl rfl rfl (fun b _ hb=>setRow_other w _ b _ fun e=>hb (e▸q5)) hF
  (fun b hb=>⟨by simpa using (h.blk j _ b hj hb).1,(h.blk j _ b hj hb).2,fun i ob hne hi hbi=>hne (h.sep i j ob _ b hi hj hbi hb)⟩)
  (fun b hb _=>h.pl j _ b hj hb)
  (fun b hlt hp _=>fh hg _ (hp (by simpa using hlt)))
 exact ⟨_,k1,k2⟩
theorem Rel.storeDeep (h:Rel E G st a w) {j:Nat} {e:TypeId} {ver:Nat} {rows:ak} {te:TI} (hj:st.o j=some (.arr e .deep ver rows none)) (hte:E.H.ty e=some te) {i off n:Nat} (hi:i<rows.length) (hl:off+n<=te.lay.length)
 {ds:List D} {us:List Value} {B1:List Nat} (hk:RL E.H w br ds ((te.lay.drop off).take n) us B1) (hn1:B1.Nodup) (hlo:dp E G st w B1) {o cap:Nat} (hhv:G.hv j=.slice (some ⟨G.bm j,o,none⟩) rows.length cap) {cur:Array Value} {ty:TypeId} (hg:w.heap[G.bm j]?=some (.cells cur ty (0,0))) :
 ∃ G',G.le G'/\Rel E G' (st.upd [(j,some (.arr e .deep (bif flat ((te.lay.drop off).take n) then ver else ver.succ) (over i [over off ds (rowAt rows i)] rows) none))]) a (w.setRow (G.bm j) (over (o+(i*te.lay.length+off)) us cur.toList).toArray):=by
 obtain ⟨hU,ho⟩:=h.objs j _ hj;obtain ⟨ti,o',cur',t',vs,cap',q1,q2,q3,q4,q5,q6,q7,q8,q9,q10,q11,q12⟩:=bu ho (by omega)
 rw [hte] at q1;obtain rfl:te=ti:=by simpa using q1
 rw [hhv] at q4;simp only [Value.slice.injEq,B7.injEq,Addr.mk.injEq,and_true,true_and] at q4;obtain ⟨rfl,rfl⟩:=q4;rw [hg] at q6;simp only [B7.injEq,Go.Obj.cells.injEq,and_true] at q6;obtain ⟨rfl,rfl⟩:=q6;simp only [bc] at q11;obtain ⟨m1,m0,⟨B0,m2,m3,m4⟩,m5⟩:=q11;obtain ⟨B2,hB2,hB2n,hov⟩:=m2.cell_ hk hi hl;have hlu:us.length=n:=by have:=hk.length.1; simp at this; omega
 have hmul:i*te.lay.length+te.lay.length<=rows.length*te.lay.length:=by
  calc i*te.lay.length+te.lay.length=(i+1)*te.lay.length:=by rw [E0]; omega
   _<=rows.length*te.lay.length:=C3 _ hi
 have hmul2:rows.length*te.lay.length<=gb j rows.length cap*te.lay.length:=C3 _ (gm q10);have hvm:G.vm j=ver:=by simp only [OR] at ho; obtain ⟨_,_,_,_,_,_,hvm,_⟩:=ho; exact hvm
 have hF:∀ b q,G.F b q->(w.setRow (G.bm j) (over (o+(i*te.lay.length+off)) us cur.toList).toArray).cell? ⟨b,q,none⟩=w.cell? ⟨b,q,none⟩:=fun b q hf=>cy hg b q fun e=>m1 q (e▸hf)
 have hrl:(over i [over off ds (rowAt rows i)] rows).length=rows.length:=av _ _ _ (by simp; omega)
 have hdt:((over (o+(i*te.lay.length+off)) us cur.toList).drop o).take (rows.length*te.lay.length)=over (i*te.lay.length+off) us vs:=by
  apply F1;intro q;rw [D7,D6,bi _ _ _ _ (by simp; omega),bi _ _ _ _ (by omega),q7,D7,D6]
  by_cases hq:q<rows.length*te.lay.length
  · simp only [hq,if_true]
    by_cases h1:i*te.lay.length+off<=q/\q<i*te.lay.length+off+us.length
    · rw [H5 h1,H5 (by omega)]; congr 1; omega
    · rw [H6 h1,H6 (by omega)]
  · simp only [hq,if_false]
    rw [H6 (by omega)]
 have hbB:∀ b∈B0++B1,b≠G.bm j:=fun b hb e=>by
  subst e;rcases B8.1 hb with hb | hb
  · exact (C4.1 m3).1 hb
  · exact (hlo _ hb).2.2.2.1 j _ hj q5
 have hBB:(B0++B1).Nodup:=C7.2 ⟨(C4.1 m3).2,hn1,fun x hx y hy e=>by subst e; exact (hlo _ hy).2.2.2.1 j _ hj (m4 x hx)⟩
 have hidx:∀ i' c e',i'<rows.length->te.lay[c]?=some (.sl e')->i'*te.lay.length+c<rows.length*te.lay.length:=fun i' c e' hi' hc=>by
  have hc':=(B9.1 hc).1
  calc i'*te.lay.length+c<i'*te.lay.length+te.lay.length:=by omega
   _=(i'+1)*te.lay.length:=by rw [E0]; omega
   _<=rows.length*te.lay.length:=C3 _ hi'
 have key:∀ (ver2:Nat) (nh:Nat->Nat->Nat->Value),ver<=ver2->(∀ v,v<=ver->nh v=G.nh j v)->(∀ i' c e',i'<rows.length->te.lay[c]?=some (.sl e')->(over (i*te.lay.length+off) us vs)[i'*te.lay.length+c]?=some (nh ver2 i' c)) →
  ∃ G',G.le G'/\Rel E G' (st.upd [(j,some (.arr e .deep ver2 (over i [over off ds (rowAt rows i)] rows) none))]) a (w.setRow (G.bm j) (over (o+(i*te.lay.length+off)) us cur.toList).toArray):=by
  intro ver2 nh hv2 hnh hhd;obtain ⟨k1,k2⟩:=h.edit (w':=w.setRow (G.bm j) (over (o+(i*te.lay.length+off)) us cur.toList).toArray) (ob':=.arr e .deep ver2 (over i [over off ds (rowAt rows i)] rows) none) hj (blk:=fun b=>G.blk j b\/b∈B1) (ver:=ver2) (nh:=nh) (pv:=G.pv j) (by omega) (by rw [hvm]; exact hnh) (fun _ _=>rfl)
   (fun hle=>by
     simp only [OR];refine ⟨te,_,cap,hte,q2,q3,by simp only [Gh.edit,ae],by rw [hrl]; exact hhv,by rw [hrl]; exact q10,.inr ⟨o,_,ty,rfl,by simp only [Gh.edit,ae]; exact .inl q5,setRow_heap w _ cur _ ty _ hg,by
      rw [hrl]; simp only [K8]; rw [av _ _ _ (by simp; omega)]; simpa using q9,?_⟩⟩
     simp only [bc,bj,hrl,hdt,Gh.edit,ae];refine ⟨m1,fun b hb q=>?_,⟨B2,af.mono _ _ _ _ (fun b hb q hf=>⟨trivial,cy hg b q (hbB b (hB2 b hb))⟩) hov,C4.2 ⟨fun hb=>hbB _ (hB2 _ hb) rfl,hB2n hBB⟩,fun b hb=>?_⟩,hhd⟩
     · rcases hb with hb | hb
       · exact m0 b hb q
       · exact (hlo b hb).2.2.1 q
     · rcases B8.1 (hB2 b hb) with hb | hb
       · exact .inl (m4 b hb)
       · exact .inr hb)
   (by simp) rfl rfl rfl (fun b _ hb=>setRow_other w _ b _ fun e=>hb (e▸q5)) hF
   (fun b hb=>by
     rcases hb with hb | hb
     · exact ⟨by simpa using (h.blk j _ b hj hb).1,(h.blk j _ b hj hb).2,fun i ob hne hi hbi=>hne (h.sep i j ob _ b hi hj hbi hb)⟩
     · exact ⟨by simpa using (hlo b hb).1,(hlo b hb).2.1,fun i ob hne hi=>(hlo b hb).2.2.2.1 i ob hi⟩)
   (fun b hb _=>hb.elim (fun hb=>h.pl j _ b hj hb) fun hb=>(hlo b hb).2.2.2.2)
   (fun b hlt hp _=>fh hg _ (hp (by simpa using hlt)))
  exact ⟨_,k1,k2⟩
 cases hfl:flat ((te.lay.drop off).take n) with
 | true =>
  simp only [H1];refine key ver (G.nh j) (D1 _) (fun _ _=>rfl) fun i' c e' hi' hc=>?_
  have hc':=(B9.1 hc).1;rw [bi _ _ _ _ (by omega),H6]
  · exact m5 i' c e' hi' hc
  · intro hh
    have hii:i'=i:=by
     rcases Nat.lt_trichotomy i' i with h1 | h1 | h1
     · have:(i'+1)*te.lay.length<=i*te.lay.length:=C3 _ h1
       rw [E0] at this; omega
     · exact h1
     · have:(i+1)*te.lay.length<=i'*te.lay.length:=C3 _ h1
       rw [E0] at this; omega
    subst hii;have hm:((te.lay.drop off).take n)[c-off]?=some (.sl e'):=by
     rw [D7,D6,H5 (by omega),show off+(c-off)=c by omega]; exact hc
    have:=C6.1 hfl _ (List.mem_of_getElem? hm);simp [Ce] at this
 | false =>
  simp only [H2];refine key ver.succ (fun v=>if v<=ver then G.nh j v else fun i' c=>(over (i*te.lay.length+off) us vs).getD (i'*te.lay.length+c) undef) (Nat.le_succ _) (fun v hv=>by simp only [H5 hv]) fun i' c e' hi' hc=>?_
  have hlt:=hidx i' c e' hi' hc;have hlv:(over (i*te.lay.length+off) us vs).length=rows.length*te.lay.length:=by rw [av _ _ _ (by omega)]; exact q8
  rw [H6 (by omega)]
  simp [K1,D5 (show i'*te.lay.length+c<(over (i*te.lay.length+off) us vs).length by omega)]
end
end Go.Q
end
section
namespace Go.Q
open Go
open Go.RowKit (Below)
section
variable {call:Key->List D->R} {E:Env} {G G0:Gh} {st st0:St} {a:Act} {w:World}
theorem jc (h:Rel E G st a w) (hH:bv E.P E.H) {sh:Bool} {t:TypeId} {x v:Val} {ux uv:Value} {eff:Eff} (hx:VR E.H G w x ux) (hv:VR E.H G w v uv) (hr:ah call st (gk E.H sh t x v)=some eff) :
 ∃ w',(Instr.storeAt t ux uv).run E.P w=.ok () w'/\db E G st a eff undef w':=by
 unfold gk at hr;split at hr
 case h_2=>simp only [aa] at hr
 rename_i ti hti;have ht:=TyR.of (hH t ti hti);simp only [ag,B4,ay,bh] at hr;obtain ⟨⟨hok,hlen⟩,hr⟩:=hr;obtain ⟨vs,c1,c2,c3,c4⟩:=fg hv hok;split at hr
 · -- a box
   rename_i j off;simp only [ax] at hr;split at hr
   case h_2=>simp only [aa] at hr
   rename_i cs hj;simp only [ag,ab,dn,bh] at hr;obtain ⟨hle,rfl⟩:=hr;simp only [VR] at hx;obtain ⟨hU,rfl⟩:=hx;have ho:=(h.objs j _ hj).2;simp only [OR] at ho;obtain ⟨k1,k2,cur,t',k3,k4,k5⟩:=ho;have hl:=k4.length;have hrun:=er ht k3 c1 (by omega) (o:=off) (by simp; omega) c4
   simp only [] at hrun;have hF:∀ b q,G.F b q->(w.setRow (G.bm j) (over off vs cur).toArray).cell? ⟨b,q,none⟩=w.cell? ⟨b,q,none⟩:=fun b q hf=>by
    have:=cy k3 (o:=off) (vs:=vs) b q fun e=>k2 q (e▸hf)
    simpa using this
   refine ⟨_,hrun,?_⟩;obtain ⟨p1,p2⟩:=h.edit (w':=w.setRow (G.bm j) (over off vs cur).toArray) (ob':=.box (over off (dg v) cs)) hj (blk:=G.blk j) (ver:=G.vm j) (nh:=G.nh j) (pv:=G.pv j) (D1 _) (fun _ _=>rfl) (fun _ _=>rfl)
    (fun hle'=>by
      simp only [OR];have hbk:(G.edit j (G.blk j) (G.vm j) (G.nh j) (G.pv j)).blk j=G.blk j:=by simp only [Gh.edit,ae]
      rw [hbk];refine ⟨k1,k2,over off vs cur,t',setRow_heap w _ _ _ t' _ k3,VRL.mono hle' (fun b q hf=>⟨hf,hF b q hf⟩) _ _ (k4.over_ c2 (by omega)),fun u hu=>?_⟩
      rw [cg _ _ _ (by omega)] at hu
      simp only [B8] at hu;rcases hu with (hu | hu) | hu
      · exact k5 u (J6 hu)
      · exact c4 u hu
      · exact k5 u (G9 hu))
    (by simp) rfl rfl rfl (fun b _ hb=>setRow_other w _ b _ fun e=>hb (e▸k1)) hF
    (fun b hb=>⟨by simpa using (h.blk j _ b hj hb).1,(h.blk j _ b hj hb).2,fun i ob hne hi hbi=>hne (h.sep i j ob _ b hi hj hbi hb)⟩)
    (fun b hb _=>h.pl j _ b hj hb)
    (fun b hlt hp _=>fh k3 _ (hp (by simpa using hlt)))
   exact ⟨_,p1,by simpa [St.mark] using p2,by simp only [VR]⟩
 · rename_i j i off
   simp only [VR] at hx;obtain ⟨hU,b,o,n,cp,hhv,hin,rfl⟩:=hx;simp only [ax] at hr;split at hr
   case h_2=>simp only [aa] at hr
   rename_i e lv ver rows hj;split at hr
   case h_2=>simp only [aa] at hr
   rename_i te hte;simp only [pc,ag,ab,run_bind,dn,bh,dh,di,C5,decide_eq_false_iff_not] at hr;obtain ⟨hle,hlv,⟨ds,own,ups⟩,hds,hap,rfl⟩:=hr;have ho:=(h.objs j _ hj).2;have ho':=ho;simp only [OR] at ho';obtain ⟨_,A,cap,_,_,_,h3v,h4,h5,_⟩:=ho';rw [hhv] at h4;simp only [Value.slice.injEq] at h4;obtain ⟨rfl,rfl,rfl⟩:=h4;obtain ⟨ti',o',cur,t',vs0,cap',q1,q2,q3,q4,q5,q6,q7,q8,q9,q10,q11,q12⟩:=bu ho (by omega)
   rw [hte] at q1;obtain rfl:te=ti':=by simpa using q1
   rw [hhv] at q4;simp only [Value.slice.injEq,B7.injEq,Addr.mk.injEq,and_true,true_and] at q4;obtain ⟨⟨rfl,rfl⟩,rfl⟩:=q4;have hL:nq E.H ((te.lay.drop off).take ti.lay.length):=fun e' he'=>(hH.lay hte) e' (G9 (J6 he'))
   obtain ⟨G1,s1,r1,B1,b1,b2⟩:=pj h hL c2 hds;have hj1:(st.upd ups).o j=some (.arr e lv ver rows none):=by rw [ce ups st fun p hp=>ic.1 hap p hp (j,none) (by simp)]; exact hj
   have hbm:G1.bm j=G.bm j:=s1.le.bm j hU;have hhv1:G1.hv j=.slice (some ⟨G1.bm j,o,none⟩) rows.length cp:=by rw [s1.le.hv j hU,hbm]; exact hhv
   have hg1:w.heap[G1.bm j]?=some (.cells cur t' (0,0)):=by rw [hbm]; exact q6
   have hmul:i*te.lay.length+te.lay.length<=rows.length*te.lay.length:=by
    calc i*te.lay.length+te.lay.length=(i+1)*te.lay.length:=by rw [E0]; omega
     _<=rows.length*te.lay.length:=C3 _ hin
   have hmul2:rows.length*te.lay.length<=gb j rows.length cp*te.lay.length:=C3 _ (gm q10);have hrun:=er ht q6 c1 (by omega) (o:=o+(i*te.lay.length+off)) (by omega) c4
   refine ⟨_,by rw [q3,show o+i*te.lay.length+off=o+(i*te.lay.length+off) by omega]; exact hrun,?_⟩
   have hfin:∀ {ver2:Nat} {lv2:Lv},(∃ G',G.le G'/\Rel E G' ((st.upd ups).upd [(j,some (.arr e lv2 ver2 (over i [over off ds (rowAt rows i)] rows) none))]) a (w.setRow (G.bm j) (over (o+(i*te.lay.length+off)) vs cur.toList).toArray)) →
    db E G st a ⟨.dead,ups++[(j,some (.arr e lv2 ver2 (over i [over off ds (rowAt rows i)] rows) none))],[]⟩ undef (w.setRow (G.bm j) (over (o+(i*te.lay.length+off)) vs cur.toList).toArray):=by
    intro ver2 lv2 ⟨G',k1,k2⟩;exact ⟨G',k1,by simpa only [ba,St.mark] using k2,by simp only [VR]⟩
   have hvv:ver<=(bif flat ((te.lay.drop off).take ti.lay.length) then ver else ver.succ):=by cases flat ((te.lay.drop off).take ti.lay.length) <;> simp
   cases own with
   | true =>
    obtain ⟨d1,d2,d3,d4⟩:=b1 rfl;cases lv with
    | ap=>exact absurd rfl hlv
    | deep =>
     obtain ⟨G',k1,k2⟩:=r1.storeDeep hj1 hte hin hle d1 d2 d3 hhv1 hg1;rw [hbm] at k2;exact hfin ⟨G',s1.le.trans k1,k2⟩
    | top =>
     obtain ⟨G2,f1,f2,f3,f4,f5,f6,f7⟩:=r1.freezeLoose d3;have hbm2:G2.bm j=G.bm j:=(f1.bm j (s1.le.U j hU)).trans hbm;obtain ⟨G',k1,k2⟩:=f5.storeTop (ver2:=bif flat ((te.lay.drop off).take ti.lay.length) then ver else ver.succ) hj1 hvv hte hin hle (RL.mono _ _ _ _ (fun b hb q _=>⟨f6 b hb q,rfl⟩) d1) (o:=o) (cap:=cp) (by rw [f1.hv j (s1.le.U j hU),f1.bm j (s1.le.U j hU)]; exact hhv1) (by rw [hbm2]; exact q6)
     rw [hbm2] at k2;exact hfin ⟨G',s1.le.trans (f1.trans k1),k2⟩
   | false =>
    have d1:=b2 rfl;cases lv with
    | ap=>exact absurd rfl hlv
    | top =>
     obtain ⟨G',k1,k2⟩:=r1.storeTop (ver2:=bif flat ((te.lay.drop off).take ti.lay.length) then ver else ver.succ) hj1 hvv hte hin hle d1 hhv1 hg1
     rw [hbm] at k2;exact hfin ⟨G',s1.le.trans k1,k2⟩
    | deep =>
     obtain ⟨G2,f1,f2,f3,_⟩:=r1.demote hj1;have hbm2:G2.bm j=G.bm j:=(f1.bm j (s1.le.U j hU)).trans hbm;have hj2:((st.upd ups).upd [(j,some (.arr e .top ver rows none))]).o j=some (.arr e .top ver rows none):=by simp only [St.upd,ae]
     obtain ⟨G',k1,k2⟩:=f3.storeTop (ver2:=bif flat ((te.lay.drop off).take ti.lay.length) then ver else ver.succ) hj2 hvv hte hin hle (RL.mono _ _ _ _ (fun b _ q hf=>⟨f2 b q hf,rfl⟩) d1) (o:=o) (cap:=cp) (by rw [f1.hv j (s1.le.U j hU),f1.bm j (s1.le.U j hU)]; exact hhv1) (by rw [hbm2]; exact q6)
     rw [hbm2,mv] at k2;exact hfin ⟨G',s1.le.trans (f1.trans k1),k2⟩
 · simp only [aa] at hr
theorem kq {α:Type} {st st':St} (h:st.o=st'.o):∀ (m:M α),ah call st m=ah call st' m
 | .ret a=>rfl
 | .fail=>rfl
 | .chk b m=>by simp only [ah,kq h m]
 | .alt b m n=>by simp only [ah,kq h m,kq h n]
 | .get j k=>by simp only [ah,h]; exact kq h _
 | .ask key ls k=>by
  simp only [ah];congr 1
  funext r
  exact kq h _
theorem dj {α:Type} (st:St) (x y:Nat×Option Obj):∀ (m:M α),ah call st (m.over x y)=ah call (st.upd [x,y]) m
 | .ret a=>rfl
 | .fail=>rfl
 | .chk b m=>by simp only [M.over,ah,dj st x y m]
 | .alt b m n=>by simp only [M.over,ah,dj st x y m,dj st x y n]
 | .get j k=>by
  simp only [M.over,ah];have e:(st.upd [x,y]).o j=bif C2 j y.1 then y.2 else bif C2 j x.1 then x.2 else st.o j:=by simp only [St.upd,cd]
  rw [e];cases h1:C2 j y.1 with
  | true=>simp only [H1]; exact dj st x y _
  | false =>
   cases h2:C2 j x.1 with
   | true=>simp only [H1,H2]; exact dj st x y _
   | false=>simp only [H2,ah]; exact dj st x y _
 | .ask key ls k=>by
  simp only [M.over,ah];congr 1
  funext r
  exact dj st x y _
theorem Rel.unslot (h:Rel E G st a w) {j v1 i c:Nat} {e0:TypeId} {rows:ak} (hj:st.o j=some (.arr e0 .deep v1 rows (some (i,c)))) (hi:i<rows.length) {te:TI} (hte:E.H.ty e0=some te) (hcl:c<te.lay.length) :
 ∃ G' o cur t cap,G.le G'/\G'.F=G.F/\G.hv j=.slice (some ⟨G.bm j,o,none⟩) rows.length cap/\G.ly j=te.lay/\w.heap[G.bm j]?=some (.cells cur t (0,0))/\o+(i*te.lay.length+c)+1<=cur.size ∧
  (∀ q,¬ G.F (G.bm j) q) ∧
  Rel E G' (st.upd [(j,some (.arr e0 .deep v1 rows none))]) a (w.setRow (G.bm j) (over (o+(i*te.lay.length+c)) [.slice none 0 0] cur.toList).toArray):=by
 obtain ⟨hU,ho⟩:=h.objs j _ hj;have hlt:i*te.lay.length+c<rows.length*te.lay.length:=by
  calc i*te.lay.length+c<i*te.lay.length+te.lay.length:=by omega
   _=(i+1)*te.lay.length:=by rw [E0]; omega
   _<=rows.length*te.lay.length:=C3 _ hi
 simp only [OR] at ho;obtain ⟨te',A,cap,r1,r2,r3,r4,r5,r6,r7⟩:=ho;rw [hte] at r1;obtain rfl:te=te':=by simpa using r1
 rcases r7 with ⟨_,r7⟩|⟨o,cur,t,rfl,k2,k3,k4,k5⟩
 · simp at r7
 have hmul2:rows.length*te.lay.length<=gb j rows.length cap*te.lay.length:=C3 _ (gm r6);generalize hvs:(cur.toList.drop o).take (rows.length*te.lay.length)=vs at k5;have hvl:vs.length=rows.length*te.lay.length:=by rw [<- hvs]; simp; omega
 rw [ovl,Hi] at k5;by_cases hraw:vs[i*te.lay.length+c]?=some (G.pv j v1)
 case neg =>
  rw [H6 hraw] at k5;simp only [bc] at k5;have:=k5.2.2.1.choose_spec.1.length;simp at this;omega
 rw [H5 hraw] at k5;simp only [bc] at k5;obtain ⟨m1,m2,⟨B,m3,m4,m5⟩,m6⟩:=k5;have hdt:((over (o+(i*te.lay.length+c)) [Value.slice none 0 0] cur.toList).drop o).take (rows.length*te.lay.length)=vs.set (i*te.lay.length+c) (.slice none 0 0):=by
  apply F1;intro q;rw [D7,D6,bi _ _ _ _ (by simp; omega),List.getElem?_set,<- hvs,D7,D6]
  by_cases hq:q<rows.length*te.lay.length
  · simp only [hq,if_true]
    by_cases h1:i*te.lay.length+c=q
    · rw [H5 (by simp; omega),H5 h1,H5 (by simp; omega),show o+q-(o+(i*te.lay.length+c))=0 by omega]; rfl
    · rw [H6 (by simp; omega),H6 h1]
  · simp only [hq,if_false]
    rw [H6 (by omega)]
 have hF:∀ b q,G.F b q->(w.setRow (G.bm j) (over (o+(i*te.lay.length+c)) [Value.slice none 0 0] cur.toList).toArray).cell? ⟨b,q,none⟩=w.cell? ⟨b,q,none⟩:=fun b q hf=>cy k3 b q fun e=>m1 q (e▸hf)
 obtain ⟨p1,p2⟩:=h.edit (w':=w.setRow (G.bm j) (over (o+(i*te.lay.length+c)) [Value.slice none 0 0] cur.toList).toArray) (ob':=.arr e0 .deep v1 rows none) hj (blk:=G.blk j) (ver:=v1) (nh:=G.nh j) (pv:=G.pv j)
  (by omega) (fun _ _=>rfl) (fun _ _=>rfl)
  (fun hle=>by
    simp only [OR];refine ⟨te,_,cap,hte,r2,r3,by simp only [Gh.edit,ae],r5,r6,.inr ⟨o,_,t,rfl,by simp only [Gh.edit,ae]; exact k2,setRow_heap w _ cur _ t _ k3,by
     simp only [K8]; rw [av _ _ _ (by simp; omega)]; simpa using k4,?_⟩⟩
    simp only [bc,bj,hdt,Gh.edit,ae];exact ⟨m1,m2,⟨B,af.mono _ _ _ _ (fun b hb q hf=>⟨trivial,cy k3 b q fun e=>(C4.1 m4).1 (e▸hb)⟩) m3,m4,m5⟩,m6⟩)
  (by simp) rfl rfl rfl (fun b _ hb=>setRow_other w _ b _ fun e=>hb (e▸k2)) hF
  (fun b hb=>⟨by simpa using (h.blk j _ b hj hb).1,(h.blk j _ b hj hb).2,fun i' ob hne hi' hbi=>hne (h.sep i' j ob _ b hi' hj hbi hb)⟩)
  (fun b hb _=>h.pl j _ b hj hb)
  (fun b hlt hp _=>fh k3 _ (hp (by simpa using hlt)))
 exact ⟨_,o,cur,t,cap,p1,rfl,r5,r3,k3,by omega,m1,p2⟩
theorem yi (h:Rel E G st a w) (hH:bv E.P E.H) {sh:Bool} {t:TypeId} {x v:Val} {ux uv:Value} {eff:Eff} (hx:VR E.H G w x ux) (hv:VR E.H G w v uv) (hr:ah call st (tn E.H sh t x v)=some eff) :
 ∃ w',(Instr.storeAt t ux uv).run E.P w=.ok () w'/\db E G st a eff undef w':=by
 unfold tn at hr;split at hr
 case h_2=>exact jc h hH hx hv hr
 rename_i j i off;simp only [ax] at hr;split at hr
 case h_2=>exact jc h hH hx hv hr
 rename_i e ver rows i' c' hj;simp only [ag,run_bind,dj,ab,B4,ay,bh] at hr;obtain ⟨⟨hty,rfl,hv1,rfl,hi⟩,eff1,he,rfl⟩:=hr;have hi:i<rows.length:=E3 hi;cases hte:E.H.ty e with
 | none=>rw [hte] at hty; simp at hty
 | some te =>
 rw [hte] at hty;have hcl:off<te.lay.length:=E3 hty;rw [show st.upd [(j,some (Obj.arr e .deep ver rows none)),(j,some (.arr e .deep ver rows none))]=st.upd [(j,some (.arr e .deep ver rows none))] from mv st j _ _] at he
 obtain ⟨G',o,cur,t',cap,hle,hGF,hhv,hly,hg,hsz,hnF,hrel⟩:=h.unslot hj hi hte hcl;have hF:∀ b q,G.F b q->G'.F b q/\(w.setRow (G.bm j) (over (o+(i*te.lay.length+off)) [Value.slice none 0 0] cur.toList).toArray).cell? ⟨b,q,none⟩=w.cell? ⟨b,q,none⟩:=fun b q hf=>⟨hGF▸hf,cy hg b q fun e=>hnF q (e▸hf)⟩
 obtain ⟨w2,k1,k2⟩:=jc hrel hH (VR.mono hle hF _ _ hx) (VR.mono hle hF _ _ hv) he
 -- the same from the world at hand
 unfold gk at he;split at he
 case h_2=>simp only [aa] at he
 rename_i ti hti;have ht:=TyR.of (hH t ti hti);simp only [ag,B4,ay,bh] at he;obtain ⟨⟨hok,hlen⟩,_⟩:=he;obtain ⟨vs,c1,c2,c3,c4⟩:=fg hv hok;simp only [VR] at hx;obtain ⟨hU,b,o2,n,cp,hhv2,hin,rfl⟩:=hx;rw [hhv] at hhv2;simp only [Value.slice.injEq,B7.injEq,Addr.mk.injEq,and_true] at hhv2;obtain ⟨⟨rfl,rfl⟩,rfl,rfl⟩:=hhv2;rw [hly,show o+i*te.lay.length+off=o+(i*te.lay.length+off) by omega] at k1 ⊢
 have hg1:=setRow_heap w (G.bm j) cur (over (o+(i*te.lay.length+off)) [Value.slice none 0 0] cur.toList).toArray t' _ hg;have hl1:(over (o+(i*te.lay.length+off)) [Value.slice none 0 0] cur.toList).length=cur.size:=by rw [av _ _ _ (by simp; omega)]; simp
 have q1:=er ht hg c1 (by omega) (o:=o+(i*te.lay.length+off)) (by omega) c4
 have q2:=er ht hg1 c1 (by omega) (o:=o+(i*te.lay.length+off)) (by simp only [K8]; omega) c4
 rw [k1] at q2;simp only [Result.ok.injEq,true_and] at q2;have hov:over (o+(i*te.lay.length+off)) vs (over (o+(i*te.lay.length+off)) [Value.slice none 0 0] cur.toList)=over (o+(i*te.lay.length+off)) vs cur.toList:=by
  apply F1;intro q;rw [bi _ _ _ _ (by omega),bi _ _ _ _ (by simp; omega),bi _ _ _ _ (by simp; omega)]
  split
  · rfl
  · rename_i hne
    rw [H6 (by simp; omega)]
 refine ⟨w2,by rw [q1,q2]; simp only [setRow_setRow,List.toList_toArray,hov],?_⟩
 obtain ⟨G2,l1,r1,v1⟩:=k2;exact ⟨G2,hle.trans l1,r1,v1⟩
end
end Go.Q
end
