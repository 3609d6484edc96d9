/- A machine over trees of data that runs the given code, and the proof that what it answers holds of the program, part 4. -/
import Derived.Test.YtgjeildmnmfofaaGreatDoorQC
import Derived.Shelf.Sort.Plain
import Derived.Shelf.Slices.In.SortNone
import Derived.Shelf.Slices.CompactS
import Derived.Shelf.Spec.SlicesGrow
import Derived.Shelf.Strconv.Itoa3
import Derived.Shelf.Strings.OnBuilder
import Derived.Shelf.Small.Wraps
import Derived.Shelf.Strings.Cut
import Derived.Shelf.Strings.Split
import Derived.Shelf.Strconv.AtoiAll
import Derived.Handed
import Derived.HandedShaped
import Derived.Stop.LaidErr
import Derived.MakeChecks
import Derived.Shelf.Vars
set_option linter.unusedVariables false
set_option linter.unusedSimpArgs false
open Array renaming getElem?_eq_some_iff->E5,length_toList->G7
open List renaming map_cons->C0,mem_singleton->E1,map_nil->J5,getD_cons_zero->J8,length_map->O2
open Nat renaming le_refl->D1,le_of_ble_eq_true->E3,ble->J1
open Option renaming some->B7
section
namespace Go.Q
open Go
open Go.RowKit (Below)
open Go.Sort (Holds putRow putCells grow onCells mapBlock)
open Go.Proofs (encStr)
theorem gu {P:Program} {f:FuncId} {fn:Func} {us:List Value} {w:World} {R:Value->World->Prop} {Q:Ending->World->Prop} (hfn:P.funcs[f]?=some fn) (hb:fn.body≠none) (hn:¬ fn.name="runtime.NumGoroutine")
 (h:Calls P f us.toArray w Q) (hq:∀ e w',Q e w'->∃ v,e=.returned v/\R v w'):Lp P f us w R:=by
 refine ⟨.enter f us.toArray,w,by simp [callFunc,program,Sem.run,hfn,hb,hn,pure,Bind.bind,Sem.bind],?_⟩
 refine Calls.mono h fun e w' he=>?_
 obtain ⟨v,rfl,hr⟩:=hq e w' he;exact hr
theorem qs {H:Tab} {w:World} {F:Fz}:∀ (ss:List (List UInt8)),af H w F (ss.map Du) [.str] (ss.map encStr) []
 | []=>by simp [af]
 | s::ss=>by
  simp only [C0,af,Du,RL,RC];exact ⟨[_],_,[],[],rfl,rfl,⟨_,[],_,[],[],[],rfl,rfl,rfl,⟨rfl,rfl,rfl⟩,rfl,rfl,rfl⟩,qs ss⟩
section
variable {w:World} {blk off n:Nat} {cur:Array Value} {t:TypeId} {d:Array (List UInt8)} {os:Array Go.Obj}
end
section
variable {P:Program} {H:Tab} {G:Gh} {w:World} {E:Nat} {xs:List XS} {rows:ak} {us:List Value}
theorem gz.ofF {E:Env} {G G':Gh} {w:World} (h:gz E G w) (hF:G'.F=G.F):gz E G' w:=by
 obtain ⟨h1,h2,h3,h4,h5,h6,h7,h8,h9,h10⟩:=h;exact ⟨by rw [hF]; exact h1,by rw [hF]; exact h2,by rw [hF]; exact h3,h4,h5,h6,h7,h8,h9,h10⟩
end
end Go.Q
end
section
namespace Go.Q
open Go
open Go.RowKit (Below)
section
variable {P:Program} {H:Tab} {G:Gh} {w:World} {E:Nat}
end
end Go.Q
end
section
namespace Go.Q
open Go
open Go.RowKit (Below)
open Go.Proofs (encStr)
section
variable {P:Program} {H:Tab} {G:Gh} {w:World} {E:Nat}
theorem ky {n:Nat} {l:Nat->Prop} {w':World} (hF:∀ b o,G.F b o->b<w.heap.size) (hgv:∀ p∈H.gv,p.1<w.heap.size/\¬ l p.1/\∃ cs t z,w.heap[p.1]?=some (.cells cs t z)/\p.2 cs) (hb:Below w.heap.size w w'):gz ⟨P,H,n,w,G.F,l⟩ G w' :=
 ⟨fun b o hf=>Nat.lt_of_lt_of_le (hF b o hf) hb.size,fun _ _ h=>h,fun _ _ h=>.inl h,fun b o hf=>hb.cell (p:=⟨b,o,none⟩) (hF b o hf),fun b h _=>hb.block b h,hb.size,hb.os,hb.tape,hb.output,hgv⟩
theorem Ii {ps:List (Nat×Sh)} {ob:List (Nat×OSh)} {w':World} {s:ByteArray} (hF:∀ b o,G.F b o->b<w.heap.size) (hgv:∀ p∈H.gv,p.1<w.heap.size/\¬ mg G (ob.map (·.1)) p.1/\∃ cs t z,w.heap[p.1]?=some (.cells cs t z)/\p.2 cs) (hb:Below w.heap.size w w') :
 Out P H G w ⟨ps,ob,[⟨.ret,[(0,.str)],[]⟩]⟩ (0,[.str s]) (.string s) w' :=
 ⟨_,G,[.string s],rfl,rfl,ky hF hgv hb,Fix.refl G,by simp [ar,unV,VRL,VR,nth,D.S],fun c ob hm=>by simp [unO] at hm,fun c ob b hm=>by simp [unO] at hm,fun c c' ob ob' b hm=>by simp [unO] at hm⟩
theorem Bl {ρ:Go.Shelf.Ren} {f v:Nat} {fn:Func} (Ly:Go.Proofs.Lays.n171 P ρ) (hf:ρ.f 171=f) (hfn:P.funcs[f]?=some fn) (hb:fn.body≠none) (hn:¬ fn.name="runtime.NumGoroutine")
 (hki:∀ i,H.ki ⟨f,v,0⟩=some i->i=⟨[(0,.int .i64)],[],[⟨.ret,[(0,.str)],[]⟩]⟩) {ls:List D} {x:Nat×List D} (hr:zt v ls=some x):FnT P H ⟨f,v,0⟩ ls x:=by
 intro i hi G w us hin;obtain rfl:=hki i hi;unfold zt at hr;split at hr
 case h_2=>simp at hr
 rename_i n;cases hlt:(decide (0<=n)&&decide (n<100)) with
 | false=>rw [hlt] at hr; simp at hr
 | true =>
 rw [hlt] at hr;simp only [H1,B7.injEq] at hr;subst hr;simp only [Bool.and_eq_true,decide_eq_true_eq] at hlt;have hv:=hin.vals;simp only [C0,J5,ar,unV,VRL,VR,nth,J8,D.I] at hv;obtain ⟨u,us',rfl,rfl,rfl⟩:=hv;obtain ⟨m,rfl⟩:=Int.eq_ofNat_of_zero_le hlt.1;have hc:=Go.Proofs.Any.strconv_Itoa_small Ly m (by omega) w
 rw [hf] at hc;refine gu hfn hb hn hc fun e w' he=>?_
 obtain ⟨rfl,rfl⟩:=he;exact ⟨_,rfl,Ii hin.fsz hin.vars (Below.refl _ _)⟩
end
end Go.Q
end
section
namespace Go.Q
open Go
open Go.RowKit (Below)
open Go.Proofs (encStr)
theorem jv:∀ s p:List UInt8,Lib.index s p=match qr s p with | some i=>(i:Int) | none=>-1
 | [],p=>by unfold Lib.index qr; cases p.isEmpty <;> rfl
 | b::l,p=>by
  unfold Lib.index qr;have h:=jv l p;cases hp:p.isPrefixOf (b::l) with
  | true=>rfl
  | false =>
   simp only [H2,Bool.false_eq_true,if_false];rw [h];cases qr l p with
   | none=>rfl
   | some i =>
    simp only [Option.map_some];rw [H6 (by intro e; have:=beq_iff_eq.1 e; omega)]
    push_cast; rfl
theorem Bo (s p:List UInt8):Lib.cut s p=Dv s p:=by
 unfold Lib.cut Dv;rw [jv];cases qr s p with
 | none=>simp
 | some i=>simp
theorem Dw {s:ByteArray} {i:Nat}:(s.extract 0 i).data.toList=s.data.toList.take i:=by
 simp [ByteArray.data_extract,Array.toList_extract]
theorem xc {s:ByteArray} {i:Nat}:(s.extract i s.size).data.toList=s.data.toList.drop i:=by
 rw [ByteArray.data_extract,Array.toList_extract];have:s.size=s.data.toList.length:=by rw [G7]; rfl
 rw [this];simp [List.take_of_length_le]
theorem si (p:ByteArray):∀ (k:Nat) (s:ByteArray),(Lib.splitB p 0 k s).map (fun x=>x.data.toList)=ph p.data.toList k s.data.toList
 | 0,s=>rfl
 | k+1,s=>by
  unfold Lib.splitB ph;have h:=jv s.data.toList p.data.toList;have h':Lib.indexB s p=Lib.index s.data.toList p.data.toList:=rfl;rw [h',h];cases hi:qr s.data.toList p.data.toList with
  | none=>rfl
  | some i =>
   simp only [];rw [H6 (by intro e; have:=beq_iff_eq.1 e; omega)]
   rw [C0,si p k,Int.toNat_natCast,Nat.add_zero,Dw,xc];have:p.size=p.data.toList.length:=by rw [G7]; rfl
   rw [this]
theorem xd (p:ByteArray) (hp:1<=p.size):∀ (k:Nat) (s:ByteArray),Lib.countB s p=k->∀ m,k<=m->ph p.data.toList m s.data.toList=ph p.data.toList k s.data.toList
 | k,s,hk,0,hm=>by obtain rfl:k=0:=by omega
                   rfl
 | k,s,hk,m+1,hm=>by
  have h:=jv s.data.toList p.data.toList;rcases Lib.indexB_cases s p with hix | ⟨i,hix,_⟩
  · have h':Lib.index s.data.toList p.data.toList=-1:=hix
    cases hi:qr s.data.toList p.data.toList with
    | some i=>rw [hi] at h; simp only [] at h; omega
    | none =>
     cases k with
     | zero=>simp only [ph,hi]
     | succ k=>simp only [ph,hi]
  · have h':Lib.index s.data.toList p.data.toList=(i:Int):=hix
    have hc:=Lib.countB_hit s p i hp hix;cases hi:qr s.data.toList p.data.toList with
    | none=>rw [hi] at h; simp only [] at h; omega
    | some i' =>
     rw [hi] at h;obtain rfl:i'=i:=by simp only [] at h; omega
     cases k with
     | zero=>omega
     | succ k =>
      have ih:=xd p hp k (s.extract (i'+p.size) s.size) (by omega) m (by omega)
      rw [xc] at ih;have e:p.size=p.data.toList.length:=by rw [G7]; rfl
      rw [e] at ih;simp only [ph,hi,ih]
section
variable {P:Program} {H:Tab} {G:Gh} {w:World} {E:Nat}
theorem jw {ps:List (Nat×Sh)} {ob:List (Nat×OSh)} {ys:List (Nat×Sh)} {ds:List D} {us:List Value} {w':World} (hF:∀ b o,G.F b o->b<w.heap.size)
 (hgv:∀ p∈H.gv,p.1<w.heap.size/\¬ mg G (ob.map (·.1)) p.1/\∃ cs t z,w.heap[p.1]?=some (.cells cs t z)/\p.2 cs) (hb:Below w.heap.size w w') (hv:VRL H G w' (ar (fun c=>c) ds (ys.map (·.2)) 0).1 us) :
 Out P H G w ⟨ps,ob,[⟨.ret,ys,[]⟩]⟩ (0,ds) (qo us) w' :=
 ⟨_,G,us,rfl,rfl,ky hF hgv hb,Fix.refl G,hv,fun c ob hm=>by simp [unO] at hm,fun c ob b hm=>by simp [unO] at hm,fun c c' ob ob' b hm=>by simp [unO] at hm⟩
theorem Ij {ρ:Go.Shelf.Ren} {f v:Nat} {fn:Func} (Ly:Go.Proofs.Lays.n103 P ρ) (hf:ρ.f 103=f) (hfn:P.funcs[f]?=some fn) (hb:fn.body≠none) (hn:¬ fn.name="runtime.NumGoroutine")
 (hki:∀ i,H.ki ⟨f,v,0⟩=some i->i=⟨[(0,.str),(1,.str)],[],[⟨.ret,[(0,.str),(1,.bool)],[]⟩]⟩) {ls:List D} {x:Nat×List D} (hr:Ib v ls=some x):FnT P H ⟨f,v,0⟩ ls x:=by
 intro i hi G w us hin;obtain rfl:=hki i hi;unfold Ib at hr;split at hr
 case h_2=>simp at hr
 rename_i s p;simp only [B7.injEq] at hr;subst hr;have hv:=hin.vals;simp only [C0,J5,ar,unV,VRL,VR,nth,J8,List.getD_cons_succ,D.S] at hv;obtain ⟨u,us',rfl,rfl,u2,us2,rfl,rfl,rfl⟩:=hv;have hc:=Go.Proofs.Any.strings_CutPrefix Ly s p w;rw [hf] at hc;refine gu hfn hb hn hc fun e w' he=>?_
 obtain ⟨rfl,rfl⟩:=he;exact ⟨_,rfl,jw (us:=[_,_]) hin.fsz hin.vars (Below.refl _ _) (by simp [ar,unV,VRL,VR,nth,D.S,D.B])⟩
theorem Ik {ρ:Go.Shelf.Ren} {f v:Nat} {fn:Func} {q:Array Value->Prop} (Ly:Go.Proofs.Lays.n145 P ρ) (hf:ρ.f 145=f) (hq:(ρ.g 1,q)∈H.gv) (hqc:∀ cs,q cs->∃ m,cs[0]?=some (.int .i64 m)) (hfn:P.funcs[f]?=some fn) (hb:fn.body≠none) (hn:¬ fn.name="runtime.NumGoroutine")
 (hki:∀ i,H.ki ⟨f,v,0⟩=some i->i=⟨[(0,.str),(1,.str)],[],[⟨.ret,[(0,.str),(1,.str),(2,.bool)],[]⟩]⟩) {ls:List D} {x:Nat×List D} (hr:Ic v ls=some x):FnT P H ⟨f,v,0⟩ ls x:=by
 intro i hi G w us hin;obtain rfl:=hki i hi;unfold Ic at hr;split at hr
 case h_2=>simp at hr
 rename_i s p;cases hlt:Ia s with
 | false=>rw [hlt] at hr; simp at hr
 | true =>
 rw [hlt] at hr;simp only [H1,B7.injEq] at hr;subst hr;have hs:s.size<4294967281:=E3 hlt;have hv:=hin.vals;simp only [C0,J5,ar,unV,VRL,VR,nth,J8,List.getD_cons_succ,D.S] at hv;obtain ⟨u,us',rfl,rfl,u2,us2,rfl,rfl,rfl⟩:=hv;obtain ⟨_,_,cs,t,z,h1,h2⟩:=hin.vars _ hq;obtain ⟨m,hm⟩:=hqc cs h2;have hc:=Go.Proofs.Any.strings_Cut Ly s p m w hs (by simp only [World.cell?,h1]; simpa using hm)
 rw [hf,Bo] at hc;refine gu hfn hb hn hc fun e w' he=>?_
 obtain ⟨rfl,n,rfl⟩:=he;exact ⟨_,rfl,jw (us:=[_,_,_]) hin.fsz hin.vars ⟨rfl,rfl,rfl,D1 _,fun _ _=>rfl⟩ (by simp [ar,unV,VRL,VR,nth,D.S,D.B])⟩
theorem Il {ρ:Go.Shelf.Ren} {f v:Nat} {fn:Func} {q:Array Value->Prop} (Ly:Go.Proofs.LaysC.n172 P ρ) (hf:ρ.f 172=f) (hq:(ρ.g 15,q)∈H.gv) (hqc:∀ cs,q cs->∃ ev,cs[0]?=some ev/\(ev=.nilIface\/∃ te pe,ev=.iface te pe)) (hfn:P.funcs[f]?=some fn) (hb:fn.body≠none) (hn:¬ fn.name="runtime.NumGoroutine")
 (hki:∀ i,H.ki ⟨f,v,0⟩=some i->i=⟨[(0,.str)],[],[⟨.ret,[(0,.int .i64),(1,.err)],[]⟩]⟩) {ls:List D} {x:Nat×List D} (hr:If v ls=some x):FnT P H ⟨f,v,0⟩ ls x:=by
 intro i hi G w us hin;obtain rfl:=hki i hi;unfold If at hr;split at hr
 case h_2=>simp at hr
 rename_i s;cases hlt:J1 s.size 18 with
 | false=>rw [hlt] at hr; simp at hr
 | true =>
 rw [hlt] at hr;simp only [H1] at hr;have hs:s.size<=18:=E3 hlt;have hv:=hin.vals;simp only [C0,J5,ar,unV,VRL,VR,nth,J8,D.S] at hv;obtain ⟨u,us',rfl,rfl,rfl⟩:=hv;split at hr
 · rename_i v0 hv0
   simp only [B7.injEq] at hr;subst hr;have hc:=Go.Proofs.Any.strconv_Atoi_ok Ly s (by omega) v0 hv0 w
   rw [hf] at hc;refine gu hfn hb hn hc fun e w' he=>?_
   obtain ⟨rfl,he⟩:=he;have hbl:Below w.heap.size w w':=by
    rcases he with rfl | ⟨t,rfl⟩
    · exact Below.refl _ _
    · exact Lib.bytesWorld_below _ _ _
   exact ⟨_,rfl,jw (us:=[_,_]) hin.fsz hin.vars hbl (by simp [ar,unV,VRL,VR,nth,D.I,D.B])⟩
 · rename_i hv0
   simp only [B7.injEq] at hr;subst hr;obtain ⟨_,_,cs,t,z,h1,h2⟩:=hin.vars _ hq;obtain ⟨ev,hm,hev⟩:=hqc cs h2;have hc:=Go.Proofs.Any.strconv_Atoi_syntax Ly s (by omega) hv0 ev w (by simp only [World.cell?,h1]; simpa using hm) hev
   rw [hf] at hc;refine gu hfn hb hn hc fun e w' he=>?_
   obtain ⟨N,rfl,_,_,hbl⟩:=he;refine ⟨_,rfl,jw (us:=[_,_]) hin.fsz hin.vars hbl ?_⟩;simp [ar,unV,VRL,VR,nth,D.I,D.B];exact ⟨_,_,⟨rfl,rfl⟩,rfl,_,rfl,_,_,rfl⟩
 · simp at hr
theorem Im {ρ:Go.Shelf.Ren} {f v:Nat} {fl:List (Nat×TypeId)} {fn:Func} {q:Array Value->Prop} (Ly:Go.Proofs.Lays.n146 P ρ) (hf:ρ.f 146=f) (hi9:(P.info? (ρ.t 9)).map (fun i=>(i.zero,i.size,i.bytes))=some (some (.string ByteArray.empty),1,16)) (hq:(ρ.g 1,q)∈H.gv) (hqc:∀ cs,q cs->∃ m,cs[0]?=some (.int .i64 m)) (hE:H.ty E=some ⟨false,[.str],fl⟩) (hfn:P.funcs[f]?=some fn) (hb:fn.body≠none) (hn:¬ fn.name="runtime.NumGoroutine")
 (hki:∀ i,H.ki ⟨f,v,0⟩=some i->i=⟨[(0,.str),(1,.str)],[],[⟨.ret,[(0,.hd 16)],[(16,.arr E .deep)]⟩]⟩) {ls:List D} {x:Nat×List D} (hr:Ie v ls=some x):FnT P H ⟨f,v,0⟩ ls x:=by
 intro i hi G w us hin;obtain rfl:=hki i hi;unfold Ie at hr;split at hr
 case h_2=>simp at hr
 rename_i s p;cases hlt:(Ia s&&J1 1 p.size) with
 | false=>rw [hlt] at hr; simp at hr
 | true =>
 rw [hlt] at hr;simp only [H1,B7.injEq] at hr;subst hr;rw [Bool.and_eq_true] at hlt;have hs:s.size<4294967281:=E3 hlt.1;have hp:1<=p.size:=E3 hlt.2;have hv:=hin.vals;simp only [C0,J5,ar,unV,VRL,VR,nth,J8,List.getD_cons_succ,D.S] at hv;obtain ⟨u,us',rfl,rfl,u2,us2,rfl,rfl,rfl⟩:=hv;obtain ⟨_,_,cs,t,z,h1,h2⟩:=hin.vars _ hq;obtain ⟨m,hm⟩:=hqc cs h2;have hc:=Go.Proofs.Any.strings_Split Ly hi9 s p m w hs (by simp only [World.cell?,h1]; simpa using hm) hp
 rw [hf] at hc;have hle:=Lib.countB_le p hp s.size s (D1 _);have hlen:=Lib.splitB_all p hp 0 _ s rfl;have hsp:=si p (Lib.countB s p) s;rw [<- xd p hp _ s rfl s.size hle] at hsp;have hll:(ph p.data.toList s.size s.data.toList).length=Lib.countB s p+1:=by rw [<- hsp,O2]; exact hlen
 have hcells:((Lib.splitB p 0 (Lib.countB s p) s).map Value.string)=(ph p.data.toList s.size s.data.toList).map encStr:=by
  rw [<- hsp,List.map_map];exact List.map_congr_left fun x _=>rfl
 rw [hcells] at hc;generalize ph p.data.toList s.size s.data.toList=ss at *;generalize Lib.countB s p+1=n at *;have hrl:(ss.map Du).length=n:=by rw [O2]; exact hll
 refine gu hfn hb hn hc fun e w' he=>?_
 obtain ⟨rfl,rfl⟩:=he;let Gr:Gh:={ G with U:=fun j=>G.U j\/j=16,hv:=cd G.hv 16 (.slice (some ⟨w.heap.size,0,none⟩) n n),bm:=cd G.bm 16 w.heap.size,ly:=cd G.ly 16 [.str],blk:=cd G.blk 16 (fun b=>b=w.heap.size),vm:=cd G.vm 16 0 }
 have hbk:Gr.blk 16=fun b=>b=w.heap.size:=ae G.blk 16 _
 have hv16:Gr.hv 16=.slice (some ⟨w.heap.size,0,none⟩) n n:=ae G.hv 16 _;have hnF:∀ q,¬ G.F w.heap.size q:=fun q hq=>Nat.lt_irrefl _ (hin.fsz _ _ hq)
 have hat:(w.alloc (.cells (ss.map encStr).toArray (ρ.t 9))).heap[w.heap.size]?=some (.cells (ss.map encStr).toArray (ρ.t 9) (0,0)):=by simp only [World.alloc]; simp
 have hOR:OR H Gr (w.alloc (.cells (ss.map encStr).toArray (ρ.t 9))) 16 (.arr E .deep 0 (ss.map Du) none):=by
  simp only [OR,Gr,ae];refine ⟨_,_,n,hE,Nat.zero_lt_one,rfl,trivial,by rw [hrl],by rw [hrl]; exact D1 _,.inr ⟨0,_,ρ.t 9,rfl,trivial,hat,?_,?_⟩⟩
  · rw [lq]; simp; omega
  · rw [bj,hrl]
    simp only [List.length_cons,List.length_nil,Nat.zero_add,Nat.mul_one,bc,ae,List.drop_zero];rw [List.take_of_length_le (by simp; omega)]
    exact ⟨hnF,fun b hb q=>by rw [hb]; exact hnF q,⟨[],qs _,by simp,by simp⟩,fun i c e _ hc=>by cases c <;> simp at hc⟩
 have hbl:Below w.heap.size w (w.alloc (.cells (ss.map encStr).toArray (ρ.t 9))):=(Below.refl _ _).alloc (D1 _) _;refine ⟨_,rfl,_,Gr,[Gr.hv 16],rfl,by rw [hv16]; rfl,(ky hin.fsz hin.vars hbl).ofF rfl,fun c hc' hUc=>?_,?_,fun c ob hm=>?_,fun c ob b hm hb=>?_,fun c c' ob ob' b hm hm' _ _=>?_⟩
 · have hne:c≠16:=by omega
   exact ⟨.inl hUc,aj _ _ hne,aj _ _ hne,aj _ _ hne⟩
 · simp only [C0,J5,ar,unV,VRL,VR]
   exact ⟨_,_,rfl,⟨.inr rfl,rfl,by rw [hv16]; rfl⟩,rfl⟩
 · simp only [C0,J5,ar,unV,unO,nth,J8,D.L,E1,Prod.mk.injEq] at hm
   obtain ⟨rfl,rfl⟩:=hm;exact ⟨.inr rfl,hOR,fun b hb=>by rw [hbk] at hb; subst hb; exact ⟨by simp only [World.alloc]; simp,.inl (D1 _)⟩⟩
 · simp only [C0,J5,ar,unV,unO,E1,Prod.mk.injEq] at hm
   obtain ⟨rfl,_⟩:=hm;rw [hbk] at hb;subst hb;exact ⟨_,_,hat⟩
 · simp only [C0,J5,ar,unV,unO,E1,Prod.mk.injEq] at hm hm'
   rw [hm.1,hm'.1]
end
end Go.Q
end
section
namespace Go.Q
open Go
open Go.ChangeShapes Go.WideShapes Go.ChangeAt Go.RowKit
variable {H:Type} {enc:TypeId×Value->H}
theorem mi {a:Assume} {C:Checked} {os:Os} {f:FuncId} {fn:Func} {s:ChangeSpec} {conds:List PathCond} {apart fresh handsOn again:Bool} {X:World->Array Value->Prop}
 (hX:∀ (w w':World) (args:Array Value),w.heap=w'.heap->X w args->X w' args)
 (own:ownKnob C.prog.godebug=none) (started:os.Started) (noInit:C.prog.inits.idxOf? f=none) (hfn:C.prog.funcs[f]?=some fn)
 (witness:∃ (w:World) (tape:Tape) (i:Input),w.os=os/\(w.forCall tape i).Shaped C.prog/\i.vars=[]/\Input.okWide C.prog (w.forCall tape i) .any w.heap.size f i ∧
   ((s.pre enc C.prog fn conds apart (w.forCall tape i).memory i.args/\X (w.forCall tape i).memory i.args)/\sizedMet enc C.prog fn (OpenSpec.ofChange s) apart (w.forCall tape i).memory i.args)/\a.holds C.prog (lone (Frame.enter C.prog f i.args .normal) [] (w.forCall tape i)))
 (contract:∀ (W:World) (base:Nat) (args:Array Value) (ds gs:List (DataW H)) (before:List MemPlace),
   (∀ (j:Nat) t v,fn.params[j]?=some t->args[j]?=some v->Value.okWide C.prog W .any base t v) →
   DataW.Whole enc C.prog fn.params.toList s.vars apart W args.toList ds gs before->W.ShapedOpen C.prog->X W args →
   Calls C.prog f args W fun e W'=>∃ v,e=.returned v/\s.post enc C.prog fn apart fresh handsOn again W args v W') :
 ReturnsInHanded a C os f .any (fun w args=>(s.pre enc C.prog fn conds apart w args/\X w args)/\sizedMet enc C.prog fn (OpenSpec.ofChange s) apart w args) (s.post enc C.prog fn apart fresh handsOn again):=by
 refine returnsInHanded_of_calls own started noInit witness ?_;intro w tape i _ hsh _ hok hpre hholds;obtain ⟨_,_,_,fn',hfn',_,_,_,_,hval⟩:=hok;have e:fn'=fn:=B7.inj (hfn'.symm.trans hfn);subst e;obtain ⟨⟨⟨ds,gs,before,hw,hc⟩,hx⟩,hz⟩:=hpre;have hw':=DataW.Whole.of_heap (w':=w.forCall tape i) (by rfl) hw
 refine (contract (w.forCall tape i) w.heap.size i.args ds gs before hval hw' hsh (hX _ _ _ (by rfl) hx)).mono fun e W' ⟨v,he,hp⟩=>?_
 subst he;exact ChangeSpec.post_blind hp
theorem yx {P:Program} {n nm:String} {d:DataW Unit} {r:List (String×DataW Unit)} {W:World} {g:Nat} (ti:TypeId) (h:laidMet P ((n,.iface nm d)::r) W)
 (hg:P.globalNamed n=some g) (ht:(P.globals[g]?).map (·.type)=some ti) (hi0:(match P.underlying ti with | some (.interface _)=>true | _=>false)=true):g<W.heap.size/\∃ cs t z,W.heap[g]?=some (.cells cs t z)/\Ih cs:=by
 obtain ⟨ms,hi⟩:∃ ms,P.underlying ti=some (.interface ms):=by
  split at hi0
  · exact ⟨_,by assumption⟩
  · simp at hi0
 obtain ⟨ps,⟨g0,t0,cs0,f0,p0,q0,hg0,ht0,hv0,hd0,_,e0⟩,_,hrows⟩:=h;obtain rfl:=B7.inj (hg.symm.trans hg0);obtain rfl:=B7.inj (ht.symm.trans ht0);have hq:Ih cs0:=by
  cases f0 with
  | zero=>simp [DataW.trod] at hd0
  | succ f0 =>
   simp only [DataW.trod,hi] at hd0;split at hd0;all_goals first | (simp at hd0; done) | (simp_all; done) | skip
   rename_i e;exact ⟨_,by rw [<- Array.getElem?_toList,e]; rfl,.inr ⟨_,_,rfl⟩⟩
 unfold World.var? at hv0;simp only [hg,Option.bind_some] at hv0;split at hv0
 · rename_i cs t z hh
   obtain rfl:=B7.inj hv0;exact ⟨(E5.1 hh).1,cs,t,z,hh,hq⟩
 · simp at hv0
theorem yy {P:Program} {W:World} {g:Nat} {t:TypeId} {zero:Array Value} (h:W.ShapedOpen P) (hg:g<P.globals.size) (h0:((begin P (fun _ _=>0) default).world.heap[g]?).bind Go.Obj.row?=some (zero,t)) (hz:zero.size=1)
 (hb:P.buildable t=true) (hc:P.cellTypes P.depth t=some [t]) (hu:P.underlying t=some (.int .i64)):g<W.heap.size/\∃ cs t z,W.heap[g]?=some (.cells cs t z)/\Ig cs:=by
 obtain ⟨m,hm⟩:=Go.Proofs.cell_of_shapedOpen_int h hg h0 hz hb hc hu;obtain ⟨cs,hh,_,_⟩:=h.1 g zero t hg h0;refine ⟨(E5.1 hh).1,cs,t,_,hh,m,?_⟩;simp only [World.cell?,hh] at hm;simpa using hm
end Go.Q
end
