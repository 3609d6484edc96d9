/- A machine over trees of data that runs the given code, and the proof that what it answers holds of the program, part 4. -/
import Derived.Test.YtellefgblgipoaaDoorQC
import Derived.Shelf.Sort.Plain
import Derived.Shelf.Slices.In.SortNone
import Derived.Shelf.Slices.CompactS
import Derived.Shelf.Spec.SlicesGrow
import Derived.Shelf.Strconv.Itoa3
import Derived.Shelf.Strings.OnBuilder
set_option linter.unusedVariables false
set_option linter.unusedSimpArgs false
open List renaming map_cons->B9,getD_cons_zero->C9,map_nil->N4,getElem?_map->P7
section
namespace Go.Q
open Go
open Go.RowKit (Below)
open Go.Sort (Holds putRow putCells grow onCells mapBlock)
open Go.Proofs (encStr)
theorem callW_of {P:Program} {f:FuncId} {fn:Func} {us:List Value} {w:World} {R:Value->World->Prop} {Q:Ending->World->Prop} (hfn:P.funcs[f]?=some fn) (hb:fn.body≠none) (hn:¬ fn.name="runtime.NumGoroutine")
 (h:Calls P f us.toArray w Q) (hq:∀ e w',Q e w'->∃ v,e=.returned v/\R v w'):CallW P f us w R:=by
 refine ⟨.enter f us.toArray,w,by simp [callFunc,program,Sem.run,hfn,hb,hn,pure,Bind.bind,Sem.bind],?_⟩
 refine Calls.mono h fun e w' he=>?_
 obtain ⟨v,rfl,hr⟩:=hq e w' he;exact hr
theorem rrows_str {H:Tab} {w:World} {F:Fz}:∀ {ss:List (List UInt8)} {vs:List Value} {B:List Nat},RRows H w F (ss.map rowS) [.str] vs B->vs=ss.map encStr/\B=[]
 | [],vs,B,h=>by simp only [N4,RRows] at h; exact ⟨h.1,h.2⟩
 | s::ss,vs,B,h=>by
  simp only [B9,RRows,rowS,RL,RC] at h;obtain ⟨v1,v2,B1,B2,rfl,rfl,⟨ct,cts,u,us,B3,B4,e1,rfl,rfl,⟨rfl,rfl,rfl⟩,rfl,rfl,rfl⟩,h2⟩:=h;obtain ⟨rfl,rfl⟩:=rrows_str h2;exact ⟨rfl,rfl⟩
section
variable {w:World} {blk off n:Nat} {cur:Array Value} {t:TypeId} {d:Array (List UInt8)} {os:Array Go.Obj}
end
section
variable {P:Program} {H:Tab} {G:Gh} {w:World} {E:Nat} {xs:List XS} {rows:Rows} {us:List Value}
end
end Go.Q
end
section
namespace Go.Q
open Go
open Go.RowKit (Below)
section
variable {P:Program} {H:Tab} {G:Gh} {w:World} {E:Nat}
end
end Go.Q
end
section
namespace Go.Q
open Go
open Go.RowKit (Below)
open Go.Proofs (encStr)
section
variable {P:Program} {H:Tab} {G:Gh} {w:World} {E:Nat}
theorem core_below {n:Nat} {l:Nat->Prop} {w':World} (hF:∀ b o,G.F b o->b<w.heap.size) (hgv:∀ p∈H.gv,p.1<w.heap.size/\¬ l p.1/\∃ cs t z,w.heap[p.1]?=some (.cells cs t z)/\p.2 cs) (hb:Below w.heap.size w w'):Core ⟨P,H,n,w,G.F,l⟩ G w' :=
 ⟨fun b o hf=>Nat.lt_of_lt_of_le (hF b o hf) hb.size,fun _ _ h=>h,fun _ _ h=>.inl h,fun b o hf=>hb.cell (p:=⟨b,o,none⟩) (hF b o hf),fun b h _=>hb.block b h,hb.size,hb.os,hb.tape,hb.output,hgv⟩
theorem out_str {ps:List (Nat×Sh)} {ob:List (Nat×OSh)} {w':World} {s:ByteArray} (hF:∀ b o,G.F b o->b<w.heap.size) (hgv:∀ p∈H.gv,p.1<w.heap.size/\¬ lentB G (ob.map (·.1)) p.1/\∃ cs t z,w.heap[p.1]?=some (.cells cs t z)/\p.2 cs) (hb:Below w.heap.size w w') :
 Out P H G w ⟨ps,ob,[⟨.ret,[(0,.str)],[]⟩]⟩ (0,[.str s]) (.string s) w' :=
 ⟨_,G,[.string s],rfl,rfl,core_below hF hgv hb,Fix.refl G,by simp [unVs,unV,VRL,VR,nth,D.S],fun c ob hm=>by simp [unO] at hm,fun c ob b hm=>by simp [unO] at hm,fun c c' ob ob' b hm=>by simp [unO] at hm⟩
theorem itoaS_fnT {ρ:Go.Shelf.Ren} {f v:Nat} {fn:Func} (Ly:Go.Proofs.Lays.n171 P ρ) (hf:ρ.f 171=f) (hfn:P.funcs[f]?=some fn) (hb:fn.body≠none) (hn:¬ fn.name="runtime.NumGoroutine")
 (hki:∀ i,H.ki ⟨f,v,0⟩=some i->i=⟨[(0,.int .i64)],[],[⟨.ret,[(0,.str)],[]⟩]⟩) {ls:List D} {x:Nat×List D} (hr:itoaS v ls=some x):FnT P H ⟨f,v,0⟩ ls x:=by
 intro i hi G w us hin;obtain rfl:=hki i hi;unfold itoaS at hr;split at hr
 case h_2=>simp at hr
 rename_i n;cases hlt:(decide (0<=n)&&decide (n<100)) with
 | false=>rw [hlt] at hr; simp at hr
 | true =>
 rw [hlt] at hr;simp only [H1,Option.some.injEq] at hr;subst hr;simp only [Bool.and_eq_true,decide_eq_true_eq] at hlt;have hv:=hin.vals;simp only [B9,N4,unVs,unV,VRL,VR,nth,C9,D.I] at hv;obtain ⟨u,us',rfl,rfl,rfl⟩:=hv;obtain ⟨m,rfl⟩:=Int.eq_ofNat_of_zero_le hlt.1;have hc:=Go.Proofs.Any.strconv_Itoa_small Ly m (by omega) w
 rw [hf] at hc;refine callW_of hfn hb hn hc fun e w' he=>?_
 obtain ⟨rfl,rfl⟩:=he;exact ⟨_,rfl,out_str hin.fsz hin.vars (Below.refl _ _)⟩
theorem rrows_len {H:Tab} {w:World} {F:Fz} {ss:List (List UInt8)} {vs:List Value} {B:List Nat} (h:RRows H w F (ss.map rowS) [.str] vs B):vs=ss.map encStr:=(rrows_str h).1
theorem join_fnT {ρ:Go.Shelf.Ren} {f v:Nat} {fl:List (Nat×TypeId)} {fn:Func} (Ly:Go.Proofs.Lays.n156 P ρ) (X:Go.Proofs.Builder.Extra P ρ) (hf:ρ.f 156=f) (hE:H.ty E=some ⟨false,[.str],fl⟩) (hfn:P.funcs[f]?=some fn) (hb:fn.body≠none) (hn:¬ fn.name="runtime.NumGoroutine")
 (hki:∀ i,H.ki ⟨f,v,0⟩=some i->i=⟨[(0,.im E),(1,.str)],[],[⟨.ret,[(0,.str)],[]⟩]⟩) {ls:List D} {x:Nat×List D} (hr:joinG v ls=some x):FnT P H ⟨f,v,0⟩ ls x:=by
 intro i hi G w us hin;obtain rfl:=hki i hi;unfold joinG at hr;split at hr
 case h_2=>simp at hr
 rename_i rows sep;split at hr
 case h_2=>simp at hr
 rename_i ss hss;cases hlt:(Nat.ble ss.length 140737488355328&&Nat.ble (Lib.join ss sep.data.toList).length 140737488355328) with
 | false=>rw [hlt] at hr; simp at hr
 | true =>
 rw [hlt] at hr;simp only [H1,Option.some.injEq] at hr;subst hr;obtain rfl:=strL_spec hss;rw [Bool.and_eq_true] at hlt;have hl1:=Nat.le_of_ble_eq_true hlt.1;have hl2:=Nat.le_of_ble_eq_true hlt.2;have hv:=hin.vals;simp only [B9,N4,unVs,unV,VRL,VR,nth,C9,List.getD_cons_succ,D.L,D.S] at hv;obtain ⟨u,us',rfl,⟨B,hrc⟩,u2,us2,rfl,rfl,rfl⟩:=hv;simp only [RC] at hrc;obtain ⟨e,ti,A,cap,he,hti,rfl,hcap,hrr⟩:=hrc;obtain rfl:E=e:=by simpa using he
 rw [hE] at hti;obtain rfl:(⟨false,[.str],fl⟩:TI)=ti:=by simpa using hti
 rcases hrr with ⟨h0,rfl⟩|⟨b,o,vs,B',rfl,rfl,hlies,hrows⟩
 · obtain rfl:ss=[]:=by simpa using h0
   have hc:=Go.Proofs.Any.strings_Join_none Ly X A cap sep w;rw [hf] at hc;refine callW_of hfn hb hn hc fun e w' he=>?_
   obtain ⟨rfl,rfl⟩:=he;exact ⟨_,rfl,out_str hin.fsz hin.vars (Below.refl _ _)⟩
 · obtain rfl:=rrows_len hrows
   cases ss with
   | nil =>
    have hc:=Go.Proofs.Any.strings_Join_none Ly X (some ⟨b,o,none⟩) cap sep w;rw [hf] at hc;refine callW_of hfn hb hn hc fun e w' he=>?_
    obtain ⟨rfl,rfl⟩:=he;exact ⟨_,rfl,out_str hin.fsz hin.vars (Below.refl _ _)⟩
   | cons s0 sr =>
    generalize hS:s0::sr=ss at *;have hxs:(ss.map fun s=>(⟨s.toArray⟩:ByteArray)).map (·.data.toList)=ss:=by
     rw [List.map_map];refine (List.map_congr_left fun x _=>?_).trans (List.map_id ss)
     simp
    have hlen:(ss.map fun s=>(⟨s.toArray⟩:ByteArray)).length=ss.length:=by simp
    have hF0:G.F b o:=(hlies 0 (encStr s0) (by rw [<- hS]; rfl)).2
    have hc:=Go.Proofs.Any.strings_Join Ly X b o cap (ss.map fun s=>(⟨s.toArray⟩:ByteArray)) sep w (fun j x hj=>by
     rw [P7] at hj;obtain ⟨y,hy,rfl⟩:=Option.map_eq_some_iff.1 hj;exact (hlies j (encStr y) (by rw [P7,hy]; rfl)).1) (hin.fsz _ _ hF0) (by rw [hlen]; exact hl1) (by rw [hlen]; simpa using hcap.1) (by rw [hxs]; exact hl2)
    rw [hf,hxs,hlen] at hc;rw [List.length_map];refine callW_of hfn hb hn hc fun e w' he=>?_
    obtain ⟨rfl,hbl⟩:=he;exact ⟨_,rfl,out_str hin.fsz hin.vars hbl⟩
end
end Go.Q
end
