/- A machine over trees of data that runs the given code, and the proof that what it answers holds of the program, part 4. -/
import Derived.Test.YtebeihhcaaaaiaaGreatQC
import Derived.Shelf.Sort.Plain
import Derived.Shelf.Slices.In.SortNone
import Derived.Shelf.Slices.CompactS
import Derived.Shelf.Spec.SlicesGrow
set_option linter.unusedVariables false
set_option linter.unusedSimpArgs false
open Array renaming getElem?_eq_getElem->N3
open List renaming length_cons->C2,map_cons->C4,length_nil->C5,map_nil->D4,getD_cons_zero->E0,mem_singleton->F1,length_eq_zero_iff->F9,getElem?_take->J5,getElem?_drop->J6,replicate->Q3,getElem?_map->R4
open Nat renaming lt_of_lt_of_le->J9,le_of_ble_eq_true->N7,zero_lt_one->U0
open Prod renaming mk->J1
section
namespace Go.Q
open Go
open Go.RowKit (Below)
open Go.Sort (Holds putRow putCells grow onCells mapBlock)
open Go.Proofs (encStr)
theorem vi{P:Program}{f:FuncId}{fn:Func}{us:List Value}{w:World}{R:Value->World->Prop}{Q:Ending->World->Prop}(hfn:P.funcs[f]?=some fn)(hb:fn.body≠none)(hn:¬ fn.name="runtime.NumGoroutine")
 (h:Calls P f us.toArray w Q) (hq:∀ e w',Q e w'->∃ v,e=.returned v/\R v w'):aa0 P f us w R:=by
 refine⟨.enter f us.toArray,w,by simp[callFunc,program,Sem.run,hfn,hb,hn,pure,Bind.bind,Sem.bind],?_⟩
 refine Calls.mono h fun e w' he=>?_
 obtain⟨v,rfl,hr⟩:=hq e w' he;exact hr
theorem Ec{H:Tab}{w:World}{F:Fz}:∀ {ss:List (List UInt8)} {vs:List Value} {B:List Nat},al H w F (ss.map gb) [.str] vs B->vs=ss.map encStr/\B=[]
 | [],vs,B,h=>by simp only[D4,al] at h;exact⟨h.1,h.2⟩
 |s::ss,vs,B,h=>by
  simp only[C4,al,gb,RL,RC] at h;obtain⟨v1,v2,B1,B2,rfl,rfl,⟨ct,cts,u,us,B3,B4,e1,rfl,rfl,⟨rfl,rfl,rfl⟩,rfl,rfl,rfl⟩,h2⟩:=h;obtain⟨rfl,rfl⟩:=Ec h2;exact⟨rfl,rfl⟩
theorem tj{H:Tab}{w:World}{F:Fz}:∀ (ss:List (List UInt8)),al H w F (ss.map gb) [.str] (ss.map encStr) []
 | []=>by simp[al]
 |s::ss=>by
  simp only[C4,al,gb,RL,RC];exact⟨[_],_,[],[],rfl,rfl,⟨_,[],_,[],[],[],rfl,rfl,rfl,⟨rfl,rfl,rfl⟩,rfl,rfl,rfl⟩,tj ss⟩
section
variable{w:World}{blk off n:Nat}{cur:Array Value}{t:TypeId}{d:Array (List UInt8)}{os:Array Go.Obj}
theorem vj(hg:w.heap[blk]?=some (.cells cur t (0,0))):(grow (putRow encStr (Go.Sort.ahead w n) blk off d) os).heap[blk]?=some (.cells (putCells encStr off d cur) t (0,0)):=by
 have hlt:=(Array.getElem?_eq_some_iff.1 hg).1;have hs:blk<(putRow encStr (Go.Sort.ahead w n) blk off d).heap.size:=by simpa[Go.Sort.ahead] using hlt
 rw[Go.Sort.heap_grow_old _ _ hs];simp[putRow,mapBlock,Go.Sort.ahead,Array.getElem?_modify,hg,onCells]
theorem lp{b:Nat}(hb:b≠blk)(hlt:b<w.heap.size):(grow (putRow encStr (Go.Sort.ahead w n) blk off d) os).heap[b]?=w.heap[b]?:=by
 have hs:b<(putRow encStr (Go.Sort.ahead w n) blk off d).heap.size:=by simpa[Go.Sort.ahead] using hlt
 rw[Go.Sort.heap_grow_old _ _ hs];simp[putRow,mapBlock,Go.Sort.ahead,Array.getElem?_modify,Ne.symm hb]
theorem Iv{b q:Nat}(hb:b≠blk)(hlt:b<w.heap.size):(grow (putRow encStr (Go.Sort.ahead w n) blk off d) os).cell? ⟨b,q,none⟩=w.cell? ⟨b,q,none⟩:=by
 simp only[World.cell?,lp hb hlt]
theorem Ed:w.heap.size<=(grow (putRow encStr (Go.Sort.ahead w n) blk off d) os).heap.size:=by simp[Go.Sort.ahead]
theorem Iw:(putCells encStr off d cur).size=cur.size:=by simp[putCells]
theorem Ix{m:Nat}(hm:m<=d.size)(hf:off+d.size<=cur.size):((putCells encStr off d cur).toList.drop off).take m=(d.toList.take m).map encStr:=by
 apply List.ext_getElem?;intro k;rw[J5,J6,R4,J5];by_cases hk:k<m
 ·rw[H5 hk,H5 hk]
  rw[Array.getElem?_toList,Array.getElem?_toList];have h1:off+k<cur.size:=by omega
  have h2:k<d.size:=by omega
  simp only[putCells,Array.getElem?_mapIdx];rw[N3 h1,Option.map_some,H5 ⟨by omega,by omega⟩,show off+k-off=k by omega,N3 h2,Option.map_some,getElem!_pos d k h2]
 ·rw[H6 hk,H6 hk];rfl
end
section
variable{P:Program}{H:Tab}{G:Gh}{w:World}{E:Nat}{xs:List XS}{rows:aa}{us:List Value}
theorem aa1(hin:In H G w ⟨[(0,.hd 0)],[(0,.arr E .deep)],xs⟩ [.sl rows] us) :
 us=[G.hv 0]/\G.U 0/\OR H G w 0 (.arr E .deep 0 rows none)/\(∀ b,G.blk 0 b->b<w.heap.size)/\∀ b,G.blk 0 b->Pl w b:=by
 have hv:=hin.vals;simp only[C4,D4,bi,unV,VRL,VR] at hv;obtain⟨u,us',rfl,⟨h1,rfl,_⟩,rfl⟩:=hv;have ho:=hin.objs 0 (.arr E .deep 0 rows none) (by simp[bi,unV,unO,nth,D.L])
 exact⟨rfl,h1,ho.2.1,ho.2.2,fun b hb=>hin.plain b ⟨0,by simp,hb⟩⟩
theorem Iy{n:Nat}{L:List Nat}{blk off m:Nat}{cur:Array Value}{t:TypeId}{d:Array (List UInt8)}{os:Array Go.Obj}(hF:∀ b o,G.F b o->b<w.heap.size)(hnF:∀ q,¬ G.F blk q)(hl:qc G L blk) :
 mh ⟨P,H,n,w,G.F,qc G L⟩ G (grow (putRow encStr (Go.Sort.ahead w m) blk off d) os):=by
 have hcell:∀ b o,G.F b o->(grow (putRow encStr (Go.Sort.ahead w m) blk off d) os).cell? ⟨b,o,none⟩=w.cell? ⟨b,o,none⟩:=fun b o hf=>Iv (fun e=>hnF o (e▸hf)) (hF b o hf)
 exact⟨fun b o hf=>J9 (hF b o hf) Ed,fun _ _ h=>h,fun _ _ h=>.inl h,hcell,fun b hb hn=>lp (fun e=>hn (e▸hl)) hb,Ed,rfl,rfl,rfl⟩
theorem Ee{n:Nat}{L:List Nat}(hF:∀ b o,G.F b o->b<w.heap.size):mh ⟨P,H,n,w,G.F,qc G L⟩ G w :=
 ⟨hF,fun _ _ h=>h,fun _ _ h=>.inl h,fun _ _ _=>rfl,fun _ _ _=>rfl,Nat.le_refl _,rfl,rfl,rfl⟩
theorem ag7{fl:List (Nat×TypeId)}(hE:H.ty E=some ⟨false,[.str],fl⟩){ss:List (List UInt8)}(h:OR H G w 0 (.arr E .deep 0 (ss.map gb) none)) :
 ∃ A cap,G.hv 0=.slice A ss.length cap/\G.ly 0=[.str]/\G.vm 0=0/\ss.length<=cap/\((ss=[]/\cap=0)\/∃ o cur t,A=some ⟨G.bm 0,o,none⟩/\G.blk 0 (G.bm 0)/\w.heap[G.bm 0]?=some (.cells cur t (0,0))/\o+cap<=cur.size ∧
  (∀ q,¬ G.F (G.bm 0) q)/\(∀ b,G.blk 0 b->∀ q,¬ G.F b q)/\(cur.toList.drop o).take ss.length=ss.map encStr):=by
 simp only[OR] at h;obtain⟨ti,A,cap,h1,h2,h3,h4,h5,h6,h7⟩:=h;rw[hE] at h1;obtain rfl:(⟨false,[.str],fl⟩:TI)=ti:=by simpa using h1
 rw[List.length_map] at h5 h6 h7;refine⟨A,cap,h5,h3,h4,h6,?_⟩;rcases h7 with ⟨h7,_⟩|⟨o,cur,t,k1,k2,k3,k4,k5⟩
 ·have h7:cap=0:=h7
  exact .inl ⟨F9.1 (by omega),h7⟩
 ·have hc:km 0 ss.length cap=cap:=mg
  rw[hc] at k4;simp only[C2,C5,Nat.zero_add,Nat.mul_one] at k4 k5;rw[cn] at k5;simp only[cg] at k5;obtain⟨m1,m2,⟨B,m3,_⟩,_⟩:=k5;exact .inr ⟨o,cur,t,k1,k2,k3,k4,m1,m2,(Ec m3).1⟩
theorem Ef{blk o:Nat}{cur:Array Value}{t:TypeId}{ss:List (List UInt8)}(hg:w.heap[blk]?=some (.cells cur t (0,0)))(hr:(cur.toList.drop o).take ss.length=ss.map encStr):Holds encStr w blk o ss.toArray:=fun j hj=>by
 have hj':j<ss.length:=by simpa using hj
 refine⟨?_,by simp[World.frozen?,hg]⟩
 have:((cur.toList.drop o).take ss.length)[j]?=(ss.map encStr)[j]?:=by rw[hr]
 rw[J5,H5 hj',J6,R4,List.getElem?_eq_getElem hj'] at this;simp only[World.cell?,hg];rw[Array.getElem?_toList] at this;rw[this];simp[hj']
theorem Sq{ρ:Go.Shelf.Ren}{f v:Nat}{fl:List (Nat×TypeId)}{fn:Func}(Ly:Go.Proofs.Lays.n190 P ρ)(hf:ρ.f 190=f)(hE:H.ty E=some ⟨false,[.str],fl⟩)(hfn:P.funcs[f]?=some fn)(hb:fn.body≠none)(hn:¬ fn.name="runtime.NumGoroutine")
 (hki:∀ i,H.ki ⟨f,v,0⟩=some i->i=⟨[(0,.hd 0)],[(0,.arr E .deep)],[⟨.ret,[],[(0,.arr E .deep)]⟩]⟩) {ls:List D} {x:Nat×List D} (hr:Ea v ls=some x):FnT P H ⟨f,v,0⟩ ls x:=by
 intro i hi G w us hin;obtain rfl:=hki i hi;unfold Ea at hr;split at hr
 case h_2=>simp at hr
 rename_i rows;split at hr
 case h_2=>simp at hr
 rename_i ss hss;cases hlt:Nat.blt ss.length 4611686018427387904 with
 |false=>rw[hlt] at hr;simp at hr
 |true =>
 rw[hlt] at hr;simp only[H1,Option.some.injEq] at hr;subst hr;obtain rfl:=xi hss;have hlen:ss.length<4611686018427387904:=N7 hlt;obtain⟨rfl,hU,hO,hbs,hpl⟩:=aa1 hin;obtain⟨A,cap,h1,h2,h3,h4,h5⟩:=ag7 hE hO;have hOut:∀ {w':World},mh ⟨P,H,0,w,G.F,qc G [0]⟩ G w'->OR H G w' 0 (.arr E .deep 0 ((ss.mergeSort fun x y=>decide (x<=y)).map gb) none)->(∀ b,G.blk 0 b->Pl w' b) →
  Out P H G w ⟨[(0,.hd 0)],[(0,.arr E .deep)],[⟨.ret,[],[(0,.arr E .deep)]⟩]⟩ (0,[.sl ((ss.mergeSort fun x y=>decide (x<=y)).map gb)]) (.tuple #[]) w':=fun {w'} hc hO' hp=>by
  refine⟨_,G,[],rfl,rfl,hc,Fix.refl G,by simp[bi,VRL],fun c ob hm=>?_,fun c ob b hm hb=>?_,fun c c' ob ob' b hm hm' _ _=>?_⟩
  ·simp only[D4,bi,unO,nth,E0,D.L,F1,J1.injEq] at hm
   obtain⟨rfl,rfl⟩:=hm;exact⟨hU,hO',fun b hb=>⟨J9 (hbs b hb) hc.size,.inr ⟨0,by simp,hb⟩⟩⟩
  ·simp only[D4,bi,unO,F1,J1.injEq] at hm
   obtain⟨rfl,_⟩:=hm;exact hp b hb
  ·simp only[D4,bi,unO,F1,J1.injEq] at hm hm'
   rw[hm.1,hm'.1]
 rcases h5 with ⟨rfl,rfl⟩|⟨o,cur,t,rfl,k1,k2,k3,k4,k5,k6⟩
 ·have hc:=Go.Proofs.Any.slices_Sort_string_none Ly A 0 w
  rw[hf] at hc;refine vi hfn hb hn (by rw[h1];exact hc) fun e w' he=>?_
  obtain⟨rfl,rfl⟩:=he;exact⟨_,rfl,hOut (Ee hin.fsz) (by simpa using hO) hpl⟩
 ·have hc:=Go.Proofs.Any.slices_Sort_string Ly (G.bm 0) o cap ss w (Ef k2 k6) (hbs _ k1) hlen
  rw[hf] at hc;refine vi hfn hb hn (by rw[h1];exact hc) fun e w' he=>?_
  obtain⟨rfl,n,os,rfl⟩:=he;refine⟨_,rfl,hOut (Iy (cur:=cur) (t:=t) hin.fsz k4 ⟨0,by simp,k1⟩) ?_ fun b hb=>?_⟩
  ·simp only[OR]
   have hl:((ss.mergeSort fun x y=>decide (x<=y)).map gb).length=ss.length:=by simp
   refine⟨_,_,cap,hE,U0,h2,h3,by rw[hl];exact h1,by rw[hl];exact h4,.inr ⟨o,_,t,rfl,k1,vj k2,?_,?_⟩⟩
   ·rw[mg,Iw];simpa using k3
   ·rw[cn,hl]
    simp only[C2,C5,Nat.zero_add,Nat.mul_one,cg];have hp:=Ix (off:=o) (cur:=cur) (d:=(ss.mergeSort fun x y=>decide (x<=y)).toArray) (m:=ss.length) (by simp) (by simp;omega)
    refine⟨k4,k5,⟨[],?_,by simp,by simp⟩,fun i c e _ hc=>by cases c<;>simp at hc⟩
    rw[hp];have:List.take ss.length (ss.mergeSort fun x y=>decide (x<=y)).toArray.toList=ss.mergeSort fun x y=>decide (x<=y):=by
     rw[List.toList_toArray];exact List.take_of_length_le (by simp)
    rw[this];exact tj _
  ·by_cases e:b=G.bm 0
   ·subst e;exact⟨_,_,vj k2⟩
   ·unfold Pl;rw[lp e (hbs b hb)];exact hpl b hb
theorem Iz(ss:List (List UInt8)):(Lib.compact ss).length<=ss.length:=by
 unfold Lib.compact Lib.compactUpTo;rw[List.length_map];exact Nat.le_trans (List.length_filter_le _ _) (by simp)
theorem mh.ofF{E:Env}{G G':Gh}{w:World}(h:mh E G w)(hF:G'.F=G.F):mh E G' w:=by
 obtain⟨h1,h2,h3,h4,h5,h6,h7,h8,h9⟩:=h;exact⟨by rw[hF];exact h1,by rw[hF];exact h2,by rw[hF];exact h3,h4,h5,h6,h7,h8,h9⟩
theorem Sr{ρ:Go.Shelf.Ren}{f v:Nat}{fl:List (Nat×TypeId)}{fn:Func}(Ly:Go.Proofs.Lays.n194 P ρ)(hf:ρ.f 194=f)(hE:H.ty E=some ⟨false,[.str],fl⟩)(hfn:P.funcs[f]?=some fn)(hb:fn.body≠none)(hn:¬ fn.name="runtime.NumGoroutine")
 (hki:∀ i,H.ki ⟨f,v,0⟩=some i->i=⟨[(0,.hd 0)],[(0,.arr E .deep)],[⟨.ret,[(0,.hd 16)],[(16,.arr E .deep)]⟩]⟩) {ls:List D} {x:Nat×List D} (hr:Eb v ls=some x):FnT P H ⟨f,v,0⟩ ls x:=by
 intro i hi G w us hin;obtain rfl:=hki i hi;unfold Eb at hr;split at hr
 case h_2=>simp at hr
 rename_i rows;split at hr
 case h_2=>simp at hr
 rename_i ss hss;cases hlt:Nat.ble ss.length 9223372036854775807 with
 |false=>rw[hlt] at hr;simp at hr
 |true =>
 rw[hlt] at hr;simp only[H1,Option.some.injEq] at hr;subst hr;obtain rfl:=xi hss;have hlen:=N7 hlt;obtain⟨rfl,hU,hO,hbs,hpl⟩:=aa1 hin;obtain⟨A,cap,h1,h2,h3,h4,h5⟩:=ag7 hE hO;have hcl:(Lib.compact ss).length<=ss.length:=Iz ss;let Gr:Gh:={ G with U:=fun j=>G.U j\/j=16,hv:=eb G.hv 16 (.slice A (Lib.compact ss).length cap),bm:=eb G.bm 16 (G.bm 0),ly:=eb G.ly 16 [.str],blk:=eb G.blk 16 (G.blk 0),vm:=eb G.vm 16 0 }
 have hOut:∀ {w':World},mh ⟨P,H,0,w,G.F,qc G [0]⟩ G w'->OR H Gr w' 16 (.arr E .deep 0 ((Lib.compact ss).map gb) none)->(∀ b,G.blk 0 b->Pl w' b) →
  Out P H G w ⟨[(0,.hd 0)],[(0,.arr E .deep)],[⟨.ret,[(0,.hd 16)],[(16,.arr E .deep)]⟩]⟩ (0,[.sl ((Lib.compact ss).map gb)]) (.slice A (Lib.compact ss).length cap) w':=fun {w'} hc hO' hp=>by
  have hbk:Gr.blk 16=G.blk 0:=ai G.blk 16 _;refine⟨_,Gr,[.slice A (Lib.compact ss).length cap],rfl,rfl,hc.ofF rfl,fun c hc' hUc=>?_,?_,fun c ob hm=>?_,fun c ob b hm hb=>?_,fun c c' ob ob' b hm hm' _ _=>?_⟩
  ·have hne:c≠16:=by omega
   exact⟨.inl hUc,ax _ _ hne,ax _ _ hne,ax _ _ hne⟩
  ·simp only[C4,D4,bi,unV,VRL,VR]
   exact⟨_,_,rfl,⟨.inr rfl,(ai G.hv 16 _).symm,rfl⟩,rfl⟩
  ·simp only[C4,D4,bi,unV,unO,nth,E0,D.L,F1,J1.injEq] at hm
   obtain⟨rfl,rfl⟩:=hm;exact⟨.inr rfl,hO',fun b hb=>by rw[hbk] at hb;exact⟨J9 (hbs b hb) hc.size,.inr ⟨0,by simp,hb⟩⟩⟩
  ·simp only[C4,D4,bi,unV,unO,F1,J1.injEq] at hm
   obtain⟨rfl,_⟩:=hm;rw[hbk] at hb;exact hp b hb
  ·simp only[C4,D4,bi,unV,unO,F1,J1.injEq] at hm hm'
   rw[hm.1,hm'.1]
 have hl:((Lib.compact ss).map gb).length=(Lib.compact ss).length:=by simp
 rcases h5 with ⟨rfl,rfl⟩|⟨o,cur,t,rfl,k1,k2,k3,k4,k5,k6⟩
 ·have hc:=Go.Proofs.Any.slices_Compact_string_empty Ly A 0 w
  rw[hf] at hc;refine vi hfn hb hn (by rw[h1];exact hc) fun e w' he=>?_
  obtain⟨rfl,rfl⟩:=he;have h0:Lib.compact ([]:List (List UInt8))=[]:=F9.1 (by simpa using hcl)
  rw[h0] at hOut hl;simp only[h0];refine⟨_,rfl,hOut (Ee hin.fsz) ?_ hpl⟩;have hv16:Gr.hv 16=.slice A 0 0:=by rw[<-C5 (α:=List UInt8),<-h0];exact ai G.hv 16 _
  simp only[OR];exact⟨_,_,0,hE,U0,ai G.ly 16 _,ai G.vm 16 _,hv16,Nat.le_refl _,.inl ⟨rfl,trivial⟩⟩
 ·have hc:=Go.Proofs.Any.slices_Compact_string Ly (G.bm 0) o cap ss w (Ef k2 k6) hlen h4
  rw[hf] at hc;refine vi hfn hb hn (by rw[h1];exact hc) fun e w' he=>?_
  obtain⟨rfl,n,hw⟩:=he;rw[<-Go.Sort.grow_empty (putRow _ _ _ _ _)] at hw;subst hw;have hds:(Lib.compact ss++Q3 (ss.length-(Lib.compact ss).length) []).toArray.size=ss.length:=by simp;omega
  refine⟨_,rfl,hOut (Iy (cur:=cur) (t:=t) hin.fsz k4 ⟨0,by simp,k1⟩) ?_ fun b hb=>?_⟩
  ·simp only[OR,Gr,ai]
   refine⟨_,_,cap,hE,U0,rfl,trivial,by rw[hl],by rw[hl];omega,.inr ⟨o,_,t,rfl,k1,vj k2,?_,?_⟩⟩
   ·rw[mg,Iw];simpa using k3
   ·rw[cn,hl]
    simp only[C2,C5,Nat.zero_add,Nat.mul_one,cg,ai];have hp:=Ix (off:=o) (cur:=cur) (d:=(Lib.compact ss++Q3 (ss.length-(Lib.compact ss).length) []).toArray) (m:=(Lib.compact ss).length) (by rw[hds];exact hcl) (by rw[hds];omega)
    refine⟨k4,k5,⟨[],?_,by simp,by simp⟩,fun i c e _ hc=>by cases c<;>simp at hc⟩
    rw[hp];rw[List.toList_toArray,List.take_left']
    ·exact tj _
    ·rfl
  ·by_cases e:b=G.bm 0
   ·subst e;exact⟨_,_,vj k2⟩
   ·unfold Pl;rw[lp e (hbs b hb)];exact hpl b hb
end
end Go.Q
end
section
namespace Go.Q
open Go
open Go.RowKit (Below)
open Go.Sort (grow)
section
variable{P:Program}{H:Tab}{G:Gh}{w:World}{E:Nat}
end
end Go.Q
end
