/- A machine over trees of data that runs the given code, and the proof that what it answers holds of the program, part 4. -/
import Derived.Test.YtlhkpdimkimogaaQC
import Derived.Shelf.Sort.Plain
import Derived.Shelf.Slices.In.SortNone
import Derived.Shelf.Slices.CompactS
import Derived.Shelf.Spec.SlicesGrow
set_option linter.unusedVariables false
set_option linter.unusedSimpArgs false
open Array renaming getElem?_eq_getElem->J0
open List renaming map_cons->B9,length_map->C4,length_cons->C7,length_nil->D4,mem_singleton->D8,length_eq_zero_iff->D9,getElem?_take->E3,getElem?_drop->E4,getD_cons_zero->E6,map_nil->F7,replicate->N0,getElem?_map->P8
open Nat renaming zero_add->D6,le_refl->E0,lt_of_lt_of_le->E8,ble->G7,le_of_ble_eq_true->J4,zero_le->K8,zero_lt_one->Q5
open Prod renaming mk->D2
section
namespace Go.Q
open Go
open Go.RowKit (Below)
open Go.Sort (Holds putRow putCells grow onCells mapBlock)
open Go.Proofs (encStr)
theorem callW_of {P:Program} {f:FuncId} {fn:Func} {us:List Value} {w:World} {R:Value->World->Prop} {Q:Ending->World->Prop} (hfn:P.funcs[f]?=some fn) (hb:fn.body≠none) (hn:¬ fn.name="runtime.NumGoroutine")
 (h:Calls P f us.toArray w Q) (hq:∀ e w',Q e w'->∃ v,e=.returned v/\R v w'):CallW P f us w R:=by
 refine ⟨.enter f us.toArray,w,by simp [callFunc,program,Sem.run,hfn,hb,hn,pure,Bind.bind,Sem.bind],?_⟩
 refine Calls.mono h fun e w' he=>?_
 obtain ⟨v,rfl,hr⟩:=hq e w' he;exact hr
theorem rrows_str {H:Tab} {w:World} {F:Fz}:∀ {ss:List (List UInt8)} {vs:List Value} {B:List Nat},RRows H w F (ss.map rowS) [.str] vs B->vs=ss.map encStr/\B=[]
 | [],vs,B,h=>by simp only [F7,RRows] at h; exact ⟨h.1,h.2⟩
 | s::ss,vs,B,h=>by
  simp only [B9,RRows,rowS,RL,RC] at h;obtain ⟨v1,v2,B1,B2,rfl,rfl,⟨ct,cts,u,us,B3,B4,e1,rfl,rfl,⟨rfl,rfl,rfl⟩,rfl,rfl,rfl⟩,h2⟩:=h;obtain ⟨rfl,rfl⟩:=rrows_str h2;exact ⟨rfl,rfl⟩
theorem rrows_strs {H:Tab} {w:World} {F:Fz}:∀ (ss:List (List UInt8)),RRows H w F (ss.map rowS) [.str] (ss.map encStr) []
 | []=>by simp [RRows]
 | s::ss=>by
  simp only [B9,RRows,rowS,RL,RC];exact ⟨[_],_,[],[],rfl,rfl,⟨_,[],_,[],[],[],rfl,rfl,rfl,⟨rfl,rfl,rfl⟩,rfl,rfl,rfl⟩,rrows_strs ss⟩
section
variable {w:World} {blk off n:Nat} {cur:Array Value} {t:TypeId} {d:Array (List UInt8)} {os:Array Go.Obj}
theorem heap_row (hg:w.heap[blk]?=some (.cells cur t (0,0))):(grow (putRow encStr (Go.Sort.ahead w n) blk off d) os).heap[blk]?=some (.cells (putCells encStr off d cur) t (0,0)):=by
 have hlt:=(Array.getElem?_eq_some_iff.1 hg).1;have hs:blk<(putRow encStr (Go.Sort.ahead w n) blk off d).heap.size:=by simpa [Go.Sort.ahead] using hlt
 rw [Go.Sort.heap_grow_old _ _ hs];simp [putRow,mapBlock,Go.Sort.ahead,Array.getElem?_modify,hg,onCells]
theorem heap_row_ne {b:Nat} (hb:b≠blk) (hlt:b<w.heap.size):(grow (putRow encStr (Go.Sort.ahead w n) blk off d) os).heap[b]?=w.heap[b]?:=by
 have hs:b<(putRow encStr (Go.Sort.ahead w n) blk off d).heap.size:=by simpa [Go.Sort.ahead] using hlt
 rw [Go.Sort.heap_grow_old _ _ hs];simp [putRow,mapBlock,Go.Sort.ahead,Array.getElem?_modify,Ne.symm hb]
theorem cell_row_ne {b q:Nat} (hb:b≠blk) (hlt:b<w.heap.size):(grow (putRow encStr (Go.Sort.ahead w n) blk off d) os).cell? ⟨b,q,none⟩=w.cell? ⟨b,q,none⟩:=by
 simp only [World.cell?,heap_row_ne hb hlt]
theorem size_rowW:w.heap.size<=(grow (putRow encStr (Go.Sort.ahead w n) blk off d) os).heap.size:=by simp [Go.Sort.ahead]
theorem put_size:(putCells encStr off d cur).size=cur.size:=by simp [putCells]
theorem put_part {m:Nat} (hm:m<=d.size) (hf:off+d.size<=cur.size):((putCells encStr off d cur).toList.drop off).take m=(d.toList.take m).map encStr:=by
 apply List.ext_getElem?;intro k;rw [E3,E4,P8,E3];by_cases hk:k<m
 · rw [H5 hk,H5 hk]
   rw [Array.getElem?_toList,Array.getElem?_toList];have h1:off+k<cur.size:=by omega
   have h2:k<d.size:=by omega
   simp only [putCells,Array.getElem?_mapIdx];rw [J0 h1,Option.map_some,H5 ⟨by omega,by omega⟩,show off+k-off=k by omega,J0 h2,Option.map_some,getElem!_pos d k h2]
 · rw [H6 hk,H6 hk]; rfl
end
section
variable {P:Program} {H:Tab} {G:Gh} {w:World} {E:Nat} {xs:List XS} {rows:Rows} {us:List Value}
theorem lent0 (hin:In H G w ⟨[(0,.hd 0)],[(0,.arr E .deep)],xs⟩ [.sl rows] us) :
 us=[G.hv 0]/\G.U 0/\OR H G w 0 (.arr E .deep 0 rows none)/\(∀ b,G.blk 0 b->b<w.heap.size)/\∀ b,G.blk 0 b->Pl w b:=by
 have hv:=hin.vals;simp only [B9,F7,unVs,unV,VRL,VR] at hv;obtain ⟨u,us',rfl,⟨h1,rfl,_⟩,rfl⟩:=hv;have ho:=hin.objs 0 (.arr E .deep 0 rows none) (by simp [unVs,unV,unO,nth,D.L])
 exact ⟨rfl,h1,ho.2.1,ho.2.2,fun b hb=>hin.plain b ⟨0,by simp,hb⟩⟩
theorem core_row {n:Nat} {L:List Nat} {blk off m:Nat} {cur:Array Value} {t:TypeId} {d:Array (List UInt8)} {os:Array Go.Obj} (hF:∀ b o,G.F b o->b<w.heap.size) (hgv:∀ p∈H.gv,p.1<w.heap.size/\¬ lentB G L p.1/\∃ cs t z,w.heap[p.1]?=some (.cells cs t z)/\p.2 cs) (hnF:∀ q,¬ G.F blk q) (hl:lentB G L blk) :
 Core ⟨P,H,n,w,G.F,lentB G L⟩ G (grow (putRow encStr (Go.Sort.ahead w m) blk off d) os):=by
 have hcell:∀ b o,G.F b o->(grow (putRow encStr (Go.Sort.ahead w m) blk off d) os).cell? ⟨b,o,none⟩=w.cell? ⟨b,o,none⟩:=fun b o hf=>cell_row_ne (fun e=>hnF o (e▸hf)) (hF b o hf)
 exact ⟨fun b o hf=>E8 (hF b o hf) size_rowW,fun _ _ h=>h,fun _ _ h=>.inl h,hcell,fun b hb hn=>heap_row_ne (fun e=>hn (e▸hl)) hb,size_rowW,rfl,rfl,rfl,hgv⟩
theorem core_same {n:Nat} {L:List Nat} (hF:∀ b o,G.F b o->b<w.heap.size) (hgv:∀ p∈H.gv,p.1<w.heap.size/\¬ lentB G L p.1/\∃ cs t z,w.heap[p.1]?=some (.cells cs t z)/\p.2 cs):Core ⟨P,H,n,w,G.F,lentB G L⟩ G w :=
 ⟨hF,fun _ _ h=>h,fun _ _ h=>.inl h,fun _ _ _=>rfl,fun _ _ _=>rfl,E0 _,rfl,rfl,rfl,hgv⟩
theorem row0 {fl:List (Nat×TypeId)} (hE:H.ty E=some ⟨false,[.str],fl⟩) {ss:List (List UInt8)} (h:OR H G w 0 (.arr E .deep 0 (ss.map rowS) none)) :
 ∃ A cap,G.hv 0=.slice A ss.length cap/\G.ly 0=[.str]/\G.vm 0=0/\ss.length<=cap/\((ss=[]/\cap=0)\/∃ o cur t,A=some ⟨G.bm 0,o,none⟩/\G.blk 0 (G.bm 0)/\w.heap[G.bm 0]?=some (.cells cur t (0,0))/\o+cap<=cur.size ∧
  (∀ q,¬ G.F (G.bm 0) q)/\(∀ b,G.blk 0 b->∀ q,¬ G.F b q)/\(cur.toList.drop o).take ss.length=ss.map encStr):=by
 simp only [OR] at h;obtain ⟨ti,A,cap,h1,h2,h3,h4,h5,h6,h7⟩:=h;rw [hE] at h1;obtain rfl:(⟨false,[.str],fl⟩:TI)=ti:=by simpa using h1
 rw [C4] at h5 h6 h7;refine ⟨A,cap,h5,h3,h4,h6,?_⟩;rcases h7 with ⟨h7,_⟩|⟨o,cur,t,k1,k2,k3,k4,k5⟩
 · have h7:cap=0:=h7
   exact .inl ⟨D9.1 (by omega),h7⟩
 · have hc:capOf 0 ss.length cap=cap:=capOf_eq
   rw [hc] at k4;simp only [C7,D4,D6,Nat.mul_one] at k4 k5;rw [ovl_none] at k5;simp only [ArrR] at k5;obtain ⟨m1,m2,⟨B,m3,_⟩,_⟩:=k5;exact .inr ⟨o,cur,t,k1,k2,k3,k4,m1,m2,(rrows_str m3).1⟩
theorem holds_row {blk o:Nat} {cur:Array Value} {t:TypeId} {ss:List (List UInt8)} (hg:w.heap[blk]?=some (.cells cur t (0,0))) (hr:(cur.toList.drop o).take ss.length=ss.map encStr):Holds encStr w blk o ss.toArray:=fun j hj=>by
 have hj':j<ss.length:=by simpa using hj
 refine ⟨?_,by simp [World.frozen?,hg]⟩
 have:((cur.toList.drop o).take ss.length)[j]?=(ss.map encStr)[j]?:=by rw [hr]
 rw [E3,H5 hj',E4,P8,List.getElem?_eq_getElem hj'] at this;simp only [World.cell?,hg];rw [Array.getElem?_toList] at this;rw [this];simp [hj']
theorem sort_fnT {ρ:Go.Shelf.Ren} {f v:Nat} {fl:List (Nat×TypeId)} {fn:Func} (Ly:Go.Proofs.Lays.n190 P ρ) (hf:ρ.f 190=f) (hE:H.ty E=some ⟨false,[.str],fl⟩) (hfn:P.funcs[f]?=some fn) (hb:fn.body≠none) (hn:¬ fn.name="runtime.NumGoroutine")
 (hki:∀ i,H.ki ⟨f,v,0⟩=some i->i=⟨[(0,.hd 0)],[(0,.arr E .deep)],[⟨.ret,[],[(0,.arr E .deep)]⟩]⟩) {ls:List D} {x:Nat×List D} (hr:sortG v ls=some x):FnT P H ⟨f,v,0⟩ ls x:=by
 intro i hi G w us hin;obtain rfl:=hki i hi;unfold sortG at hr;split at hr
 case h_2=>simp at hr
 rename_i rows;split at hr
 case h_2=>simp at hr
 rename_i ss hss;cases hlt:Nat.blt ss.length 4611686018427387904 with
 | false=>rw [hlt] at hr; simp at hr
 | true =>
 rw [hlt] at hr;simp only [H1,Option.some.injEq] at hr;subst hr;obtain rfl:=strL_spec hss;have hlen:ss.length<4611686018427387904:=J4 hlt;obtain ⟨rfl,hU,hO,hbs,hpl⟩:=lent0 hin;obtain ⟨A,cap,h1,h2,h3,h4,h5⟩:=row0 hE hO;have hOut:∀ {w':World},Core ⟨P,H,0,w,G.F,lentB G [0]⟩ G w'->OR H G w' 0 (.arr E .deep 0 ((ss.mergeSort fun x y=>decide (x<=y)).map rowS) none)->(∀ b,G.blk 0 b->Pl w' b) →
  Out P H G w ⟨[(0,.hd 0)],[(0,.arr E .deep)],[⟨.ret,[],[(0,.arr E .deep)]⟩]⟩ (0,[.sl ((ss.mergeSort fun x y=>decide (x<=y)).map rowS)]) (.tuple #[]) w':=fun {w'} hc hO' hp=>by
  refine ⟨_,G,[],rfl,rfl,hc,Fix.refl G,by simp [unVs,VRL],fun c ob hm=>?_,fun c ob b hm hb=>?_,fun c c' ob ob' b hm hm' _ _=>?_⟩
  · simp only [F7,unVs,unO,nth,E6,D.L,D8,D2.injEq] at hm
    obtain ⟨rfl,rfl⟩:=hm;exact ⟨hU,hO',fun b hb=>⟨E8 (hbs b hb) hc.size,.inr ⟨0,by simp,hb⟩⟩⟩
  · simp only [F7,unVs,unO,D8,D2.injEq] at hm
    obtain ⟨rfl,_⟩:=hm;exact hp b hb
  · simp only [F7,unVs,unO,D8,D2.injEq] at hm hm'
    rw [hm.1,hm'.1]
 rcases h5 with ⟨rfl,rfl⟩|⟨o,cur,t,rfl,k1,k2,k3,k4,k5,k6⟩
 · have hc:=Go.Proofs.Any.slices_Sort_string_none Ly A 0 w
   rw [hf] at hc;refine callW_of hfn hb hn (by rw [h1]; exact hc) fun e w' he=>?_
   obtain ⟨rfl,rfl⟩:=he;exact ⟨_,rfl,hOut (core_same hin.fsz hin.vars) (by simpa using hO) hpl⟩
 · have hc:=Go.Proofs.Any.slices_Sort_string Ly (G.bm 0) o cap ss w (holds_row k2 k6) (hbs _ k1) hlen
   rw [hf] at hc;refine callW_of hfn hb hn (by rw [h1]; exact hc) fun e w' he=>?_
   obtain ⟨rfl,n,os,rfl⟩:=he;refine ⟨_,rfl,hOut (core_row (cur:=cur) (t:=t) hin.fsz hin.vars k4 ⟨0,by simp,k1⟩) ?_ fun b hb=>?_⟩
   · simp only [OR]
     have hl:((ss.mergeSort fun x y=>decide (x<=y)).map rowS).length=ss.length:=by simp
     refine ⟨_,_,cap,hE,Q5,h2,h3,by rw [hl]; exact h1,by rw [hl]; exact h4,.inr ⟨o,_,t,rfl,k1,heap_row k2,?_,?_⟩⟩
     · rw [capOf_eq,put_size]; simpa using k3
     · rw [ovl_none,hl]
       simp only [C7,D4,D6,Nat.mul_one,ArrR];have hp:=put_part (off:=o) (cur:=cur) (d:=(ss.mergeSort fun x y=>decide (x<=y)).toArray) (m:=ss.length) (by simp) (by simp; omega)
       refine ⟨k4,k5,⟨[],?_,by simp,by simp⟩,fun i c e _ hc=>by cases c <;> simp at hc⟩
       rw [hp];have:List.take ss.length (ss.mergeSort fun x y=>decide (x<=y)).toArray.toList=ss.mergeSort fun x y=>decide (x<=y):=by
        rw [List.toList_toArray]; exact List.take_of_length_le (by simp)
       rw [this];exact rrows_strs _
   · by_cases e:b=G.bm 0
     · subst e; exact ⟨_,_,heap_row k2⟩
     · unfold Pl; rw [heap_row_ne e (hbs b hb)]; exact hpl b hb
theorem compact_len (ss:List (List UInt8)):(Lib.compact ss).length<=ss.length:=by
 unfold Lib.compact Lib.compactUpTo;rw [C4];exact Nat.le_trans (List.length_filter_le _ _) (by simp)
theorem Core.ofF {E:Env} {G G':Gh} {w:World} (h:Core E G w) (hF:G'.F=G.F):Core E G' w:=by
 obtain ⟨h1,h2,h3,h4,h5,h6,h7,h8,h9,h10⟩:=h;exact ⟨by rw [hF]; exact h1,by rw [hF]; exact h2,by rw [hF]; exact h3,h4,h5,h6,h7,h8,h9,h10⟩
theorem comp_fnT {ρ:Go.Shelf.Ren} {f v:Nat} {fl:List (Nat×TypeId)} {fn:Func} (Ly:Go.Proofs.Lays.n194 P ρ) (hf:ρ.f 194=f) (hE:H.ty E=some ⟨false,[.str],fl⟩) (hfn:P.funcs[f]?=some fn) (hb:fn.body≠none) (hn:¬ fn.name="runtime.NumGoroutine")
 (hki:∀ i,H.ki ⟨f,v,0⟩=some i->i=⟨[(0,.hd 0)],[(0,.arr E .deep)],[⟨.ret,[(0,.hd 16)],[(16,.arr E .deep)]⟩]⟩) {ls:List D} {x:Nat×List D} (hr:compG v ls=some x):FnT P H ⟨f,v,0⟩ ls x:=by
 intro i hi G w us hin;obtain rfl:=hki i hi;unfold compG at hr;split at hr
 case h_2=>simp at hr
 rename_i rows;split at hr
 case h_2=>simp at hr
 rename_i ss hss;cases hlt:G7 ss.length 9223372036854775807 with
 | false=>rw [hlt] at hr; simp at hr
 | true =>
 rw [hlt] at hr;simp only [H1,Option.some.injEq] at hr;subst hr;obtain rfl:=strL_spec hss;have hlen:=J4 hlt;obtain ⟨rfl,hU,hO,hbs,hpl⟩:=lent0 hin;obtain ⟨A,cap,h1,h2,h3,h4,h5⟩:=row0 hE hO;have hcl:(Lib.compact ss).length<=ss.length:=compact_len ss;let Gr:Gh:={ G with U:=fun j=>G.U j\/j=16,hv:=putF G.hv 16 (.slice A (Lib.compact ss).length cap),bm:=putF G.bm 16 (G.bm 0),ly:=putF G.ly 16 [.str],blk:=putF G.blk 16 (G.blk 0),vm:=putF G.vm 16 0 }
 have hOut:∀ {w':World},Core ⟨P,H,0,w,G.F,lentB G [0]⟩ G w'->OR H Gr w' 16 (.arr E .deep 0 ((Lib.compact ss).map rowS) none)->(∀ b,G.blk 0 b->Pl w' b) →
  Out P H G w ⟨[(0,.hd 0)],[(0,.arr E .deep)],[⟨.ret,[(0,.hd 16)],[(16,.arr E .deep)]⟩]⟩ (0,[.sl ((Lib.compact ss).map rowS)]) (.slice A (Lib.compact ss).length cap) w':=fun {w'} hc hO' hp=>by
  have hbk:Gr.blk 16=G.blk 0:=putF_same G.blk 16 _;refine ⟨_,Gr,[.slice A (Lib.compact ss).length cap],rfl,rfl,hc.ofF rfl,fun c hc' hUc=>?_,?_,fun c ob hm=>?_,fun c ob b hm hb=>?_,fun c c' ob ob' b hm hm' _ _=>?_⟩
  · have hne:c≠16:=by omega
    exact ⟨.inl hUc,putF_ne _ _ hne,putF_ne _ _ hne,putF_ne _ _ hne⟩
  · simp only [B9,F7,unVs,unV,VRL,VR]
    exact ⟨_,_,rfl,⟨.inr rfl,(putF_same G.hv 16 _).symm,rfl⟩,rfl⟩
  · simp only [B9,F7,unVs,unV,unO,nth,E6,D.L,D8,D2.injEq] at hm
    obtain ⟨rfl,rfl⟩:=hm;exact ⟨.inr rfl,hO',fun b hb=>by rw [hbk] at hb; exact ⟨E8 (hbs b hb) hc.size,.inr ⟨0,by simp,hb⟩⟩⟩
  · simp only [B9,F7,unVs,unV,unO,D8,D2.injEq] at hm
    obtain ⟨rfl,_⟩:=hm;rw [hbk] at hb;exact hp b hb
  · simp only [B9,F7,unVs,unV,unO,D8,D2.injEq] at hm hm'
    rw [hm.1,hm'.1]
 have hl:((Lib.compact ss).map rowS).length=(Lib.compact ss).length:=by simp
 rcases h5 with ⟨rfl,rfl⟩|⟨o,cur,t,rfl,k1,k2,k3,k4,k5,k6⟩
 · have hc:=Go.Proofs.Any.slices_Compact_string_empty Ly A 0 w
   rw [hf] at hc;refine callW_of hfn hb hn (by rw [h1]; exact hc) fun e w' he=>?_
   obtain ⟨rfl,rfl⟩:=he;have h0:Lib.compact ([]:List (List UInt8))=[]:=D9.1 (by simpa using hcl)
   rw [h0] at hOut hl;simp only [h0];refine ⟨_,rfl,hOut (core_same hin.fsz hin.vars) ?_ hpl⟩;have hv16:Gr.hv 16=.slice A 0 0:=by rw [<- D4 (α:=List UInt8),<- h0]; exact putF_same G.hv 16 _
   simp only [OR];exact ⟨_,_,0,hE,Q5,putF_same G.ly 16 _,putF_same G.vm 16 _,hv16,E0 _,.inl ⟨rfl,trivial⟩⟩
 · have hc:=Go.Proofs.Any.slices_Compact_string Ly (G.bm 0) o cap ss w (holds_row k2 k6) hlen h4
   rw [hf] at hc;refine callW_of hfn hb hn (by rw [h1]; exact hc) fun e w' he=>?_
   obtain ⟨rfl,n,hw⟩:=he;rw [<- Go.Sort.grow_empty (putRow _ _ _ _ _)] at hw;subst hw;have hds:(Lib.compact ss++N0 (ss.length-(Lib.compact ss).length) []).toArray.size=ss.length:=by simp; omega
   refine ⟨_,rfl,hOut (core_row (cur:=cur) (t:=t) hin.fsz hin.vars k4 ⟨0,by simp,k1⟩) ?_ fun b hb=>?_⟩
   · simp only [OR,Gr,putF_same]
     refine ⟨_,_,cap,hE,Q5,rfl,trivial,by rw [hl],by rw [hl]; omega,.inr ⟨o,_,t,rfl,k1,heap_row k2,?_,?_⟩⟩
     · rw [capOf_eq,put_size]; simpa using k3
     · rw [ovl_none,hl]
       simp only [C7,D4,D6,Nat.mul_one,ArrR,putF_same];have hp:=put_part (off:=o) (cur:=cur) (d:=(Lib.compact ss++N0 (ss.length-(Lib.compact ss).length) []).toArray) (m:=(Lib.compact ss).length) (by rw [hds]; exact hcl) (by rw [hds]; omega)
       refine ⟨k4,k5,⟨[],?_,by simp,by simp⟩,fun i c e _ hc=>by cases c <;> simp at hc⟩
       rw [hp];rw [List.toList_toArray,List.take_left']
       · exact rrows_strs _
       · rfl
   · by_cases e:b=G.bm 0
     · subst e; exact ⟨_,_,heap_row k2⟩
     · unfold Pl; rw [heap_row_ne e (hbs b hb)]; exact hpl b hb
end
end Go.Q
end
section
namespace Go.Q
open Go
open Go.RowKit (Below)
section
variable {P:Program} {H:Tab} {G:Gh} {w:World} {E:Nat}
theorem size_zc (z:Array Value) (n:Nat):(Builtin.zeroCells z n).size=n*z.size:=Go.size_zeroCells _ _
theorem alloc_old {w:World} {ob:Go.Obj} {b:Nat} (h:b<w.heap.size):(w.drew.alloc ob).heap[b]?=w.heap[b]?:=by
 simp only [World.alloc,World.drew];rw [Array.getElem?_push_lt h,J0 h]
theorem alloc_at {w:World} {ob:Go.Obj}:(w.drew.alloc ob).heap[w.heap.size]?=some ob:=by simp only [World.alloc,World.drew]; simp
theorem alloc_sz {w:World} {ob:Go.Obj}:(w.drew.alloc ob).heap.size=w.heap.size+1:=by simp only [World.alloc,World.drew]; simp
theorem core_new {n:Nat} {l:Nat->Prop} {ob:Go.Obj} (hF:∀ b o,G.F b o->b<w.heap.size) (hgv:∀ p∈H.gv,p.1<w.heap.size/\¬ l p.1/\∃ cs t z,w.heap[p.1]?=some (.cells cs t z)/\p.2 cs):Core ⟨P,H,n,w,G.F,l⟩ G (w.drew.alloc ob) :=
 ⟨fun b o hf=>by rw [alloc_sz]; have:=hF b o hf; omega,fun _ _ h=>h,fun _ _ h=>.inl h,fun b o hf=>by simp only [World.cell?]; rw [alloc_old (hF b o hf)],fun b hb _=>alloc_old hb,by rw [alloc_sz]; exact Nat.le_succ _,rfl,rfl,rfl,hgv⟩
theorem grow_fnT {ρ:Go.Shelf.Ren} {f v:Nat} {ti:TI} {fn:Func} (Ly:Go.Proofs.Lays8.n4 P ρ) (hf:ρ.f 4=f) (hE:H.ty E=some ti) (hti:0<ti.lay.length) (hinf:(P.info? (ρ.t 25)).map (fun i=>(i.zero.map (·.cells.size),i.size,G7 i.bytes 1024))=some (some ti.lay.length,ti.lay.length,true))
 (hfn:P.funcs[f]?=some fn) (hb:fn.body≠none) (hn:¬ fn.name="runtime.NumGoroutine")
 (hki:∀ i,H.ki ⟨f,v,0⟩=some i->i=⟨[(0,.nils),(1,.int .i64)],[],[⟨.ret,[(0,.hd 16)],[(16,.arr E .deep)]⟩]⟩) {ls:List D} {x:Nat×List D} (hr:growG v ls=some x):FnT P H ⟨f,v,0⟩ ls x:=by
 intro i hi G w us hin;obtain rfl:=hki i hi;obtain ⟨i0,hi0,hinf⟩:=Option.map_eq_some_iff.1 hinf;simp only [D2.injEq] at hinf;obtain ⟨hz,hs0,hby⟩:=hinf;obtain ⟨z,hz0,hzs⟩:=Option.map_eq_some_iff.1 hz;have hby:=J4 hby;unfold growG at hr;split at hr
 case h_2=>simp at hr
 rename_i n;cases hlt:(decide (0<=n)&&decide (n<=4194304)) with
 | false=>rw [hlt] at hr; simp at hr
 | true =>
 rw [hlt] at hr;simp only [H1,Option.some.injEq] at hr;subst hr;simp only [Bool.and_eq_true,decide_eq_true_eq] at hlt;obtain ⟨m,rfl⟩:=Int.eq_ofNat_of_zero_le hlt.1;have hm:m<=4194304:=by omega
 have hv:=hin.vals;simp only [B9,F7,unVs,unV,VRL,VR,nth,E6,D.I] at hv;obtain ⟨u,us',rfl,⟨A,rfl,rfl⟩,u2,us2,rfl,rfl,rfl⟩:=hv
 -- the result in general
 have hOut:∀ {w':World} (Gr:Gh),Gr.F=G.F->Fix G Gr->Gr.U 16->Core ⟨P,H,0,w,G.F,lentB G []⟩ G w'->OR H Gr w' 16 (.arr E .deep 0 [] none)->(∀ b,Gr.blk 16 b->b<w'.heap.size/\w.heap.size<=b)->(∀ b,Gr.blk 16 b->Pl w' b) →
  Out P H G w ⟨[(0,.nils),(1,.int .i64)],[],[⟨.ret,[(0,.hd 16)],[(16,.arr E .deep)]⟩]⟩ (0,[.sl []]) (Gr.hv 16) w':=fun {w'} Gr hGF hfx hU16 hc hO' hbl hp=>by
  refine ⟨_,Gr,[Gr.hv 16],rfl,rfl,hc.ofF hGF,hfx,?_,fun c ob hm=>?_,fun c ob b hm hb=>?_,fun c c' ob ob' b hm hm' _ _=>?_⟩
  · simp only [B9,F7,unVs,unV,VRL,VR]
    refine ⟨_,_,rfl,⟨hU16,rfl,?_⟩,rfl⟩;simp only [OR] at hO';obtain ⟨_,A',cap',_,_,_,_,q5,_⟩:=hO';rw [q5]; rfl
  · simp only [B9,F7,unVs,unV,unO,nth,E6,D.L,D8,D2.injEq] at hm
    obtain ⟨rfl,rfl⟩:=hm;exact ⟨hU16,hO',fun b hb=>⟨(hbl b hb).1,.inl (hbl b hb).2⟩⟩
  · simp only [B9,F7,unVs,unV,unO,D8,D2.injEq] at hm
    obtain ⟨rfl,_⟩:=hm;exact hp b hb
  · simp only [B9,F7,unVs,unV,unO,D8,D2.injEq] at hm hm'
    rw [hm.1,hm'.1]
 have hfix:∀ Gr:Gh,(∀ j,Gr.U j↔G.U j\/j=16)->(∀ j,j≠16->Gr.hv j=G.hv j/\Gr.bm j=G.bm j/\Gr.ly j=G.ly j)->Fix G Gr:=fun Gr hu hr c hc' hUc=>by
  have hne:c≠16:=by omega
  exact ⟨(hu c).2 (.inl hUc),(hr c hne).1,(hr c hne).2.1,(hr c hne).2.2⟩
 by_cases hroom:m=0
 · -- there is room
   subst hroom;have hc:=Go.Proofs.Any8.slices_Grow_room Ly none 0 0 0 w (by omega) (by omega) (by omega) (by omega)
   rw [hf] at hc;refine callW_of hfn hb hn hc fun e w' he=>?_
   obtain ⟨rfl,rfl⟩:=he;let Gr:Gh:={ G with U:=fun j=>G.U j\/j=16,hv:=putF G.hv 16 (.slice none 0 0),ly:=putF G.ly 16 ti.lay,blk:=putF G.blk 16 (fun _=>False),vm:=putF G.vm 16 0 }
   have hbk:Gr.blk 16=fun _=>False:=putF_same G.blk 16 _
   have hv16:Gr.hv 16=.slice none 0 0:=putF_same G.hv 16 _;refine ⟨_,rfl,hv16▸hOut Gr rfl (hfix Gr (fun _=>Iff.rfl) fun j hj=>⟨putF_ne _ _ hj,rfl,putF_ne _ _ hj⟩) (.inr rfl) ⟨hin.fsz,fun _ _ h=>h,fun _ _ h=>.inl h,fun _ _ _=>rfl,fun _ _ _=>rfl,E0 _,rfl,rfl,rfl,hin.vars⟩ ?_ (fun b hb=>?_) fun b hb=>?_⟩
   · simp only [OR,Gr,putF_same]
     exact ⟨ti,none,0,hE,hti,rfl,trivial,rfl,K8 _,.inl ⟨rfl,trivial⟩⟩
   · rw [hbk] at hb; exact hb.elim
   · rw [hbk] at hb; exact hb.elim
 · -- a new row
   have hG63:=Go.grownCap_ge w (0+m) 0 (ρ.t 25);have hc:=Go.Proofs.Any8.slices_Grow_grow Ly i0 z hi0 hz0 (by omega) none 0 0 m [] w (by omega) (by omega) (by rw [D6]; have:=Nat.mul_le_mul hm hby; omega) (by omega) (by simp) (fun _=>rfl) (fun a ha=>by simp at ha)
   rw [hf] at hc;refine callW_of hfn hb hn hc fun e w' he=>?_
   obtain ⟨rfl,rfl⟩:=he;generalize Go.grownCap w (0+m) 0 (ρ.t 25)=g at hG63 ⊢;generalize hcz:(List.toArray []++Builtin.zeroCells z.cells (0+m-0)++Builtin.zeroCells z.cells (g-(0+m)):Array Value)=cur;have hsz:cur.size=g*ti.lay.length:=by
    rw [<- hcz];simp only [Array.size_append,size_zc,hzs];simp only [List.size_toArray,D4,D6,<- Nat.add_mul];congr 1
    omega
   let Gr:Gh:={ G with U:=fun j=>G.U j\/j=16,hv:=putF G.hv 16 (.slice (some ⟨w.heap.size,0,none⟩) 0 g),bm:=putF G.bm 16 w.heap.size,ly:=putF G.ly 16 ti.lay,blk:=putF G.blk 16 (fun b=>b=w.heap.size),vm:=putF G.vm 16 0 }
   have hbk:Gr.blk 16=fun b=>b=w.heap.size:=putF_same G.blk 16 _
   have hv16:Gr.hv 16=.slice (some ⟨w.heap.size,0,none⟩) 0 g:=putF_same G.hv 16 _;have hnF:∀ q,¬ G.F w.heap.size q:=fun q hq=>Nat.lt_irrefl _ (hin.fsz _ _ hq)
   refine ⟨_,rfl,hv16▸hOut Gr rfl (hfix Gr (fun _=>Iff.rfl) fun j hj=>⟨putF_ne _ _ hj,putF_ne _ _ hj,putF_ne _ _ hj⟩) (.inr rfl) (core_new hin.fsz hin.vars) ?_ (fun b hb=>?_) fun b hb=>?_⟩
   · simp only [OR,Gr,putF_same]
     refine ⟨ti,_,g,hE,hti,rfl,trivial,rfl,K8 _,.inr ⟨0,cur,ρ.t 25,rfl,trivial,alloc_at,?_,?_⟩⟩
     · rw [capOf_eq,hsz]; omega
     · simp only [ovl_none,D4,Nat.zero_mul,List.take_zero,ArrR,putF_same]
       exact ⟨hnF,fun b hb q=>by rw [hb]; exact hnF q,⟨[],by simp [RRows],by simp,by simp⟩,fun i c e hi=>by simp at hi⟩
   · rw [hbk] at hb
     subst hb;exact ⟨by rw [alloc_sz]; omega,E0 _⟩
   · rw [hbk] at hb
     subst hb;exact ⟨_,_,alloc_at⟩
end
end Go.Q
end
