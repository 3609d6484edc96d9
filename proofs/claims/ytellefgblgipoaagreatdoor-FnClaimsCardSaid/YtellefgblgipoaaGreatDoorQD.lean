/- A machine over trees of data that runs the given code, and the proof that what it answers holds of the program, part 4. -/
import Derived.Test.YtellefgblgipoaaGreatDoorQC
import Derived.Shelf.Sort.Plain
import Derived.Shelf.Slices.In.SortNone
import Derived.Shelf.Slices.CompactS
import Derived.Shelf.Spec.SlicesGrow
import Derived.Shelf.Strconv.Itoa3
import Derived.Shelf.Strings.OnBuilder
set_option linter.unusedVariables false
set_option linter.unusedSimpArgs false
open Array renaming getElem?_eq_getElem->K7
open List renaming length_map->B6,map_cons->C2,length_cons->C5,length_nil->C8,getD_cons_zero->D1,map_nil->D2,length_eq_zero_iff->F1,mem_singleton->F8,getElem?_take->J1,getElem?_drop->J2,replicate->P0,getElem?_map->P1,toList_toArray->S7
open Nat renaming lt_of_lt_of_le->J5,le_of_ble_eq_true->K3,zero_lt_one->S8
open Option renaming some->C7,map_some->N2
open Prod renaming mk->G5
section
namespace Go.Q
open Go
open Go.RowKit (Below)
open Go.Sort (Holds putRow putCells grow onCells mapBlock)
open Go.Proofs (encStr)
theorem iz {P:Program} {f:FuncId} {fn:Func} {us:List Value} {w:World} {R:Value->World->Prop} {Q:Ending->World->Prop} (hfn:P.funcs[f]?=some fn) (hb:fn.body≠none) (hn:¬ fn.name="runtime.NumGoroutine")
 (h:Calls P f us.toArray w Q) (hq:∀ e w',Q e w'->∃ v,e=.returned v/\R v w'):Vy P f us w R:=by
 refine ⟨.enter f us.toArray,w,by simp [callFunc,program,Sem.run,hfn,hb,hn,pure,Bind.bind,Sem.bind],?_⟩
 refine Calls.mono h fun e w' he=>?_
 obtain ⟨v,rfl,hr⟩:=hq e w' he;exact hr
theorem vf {H:Tab} {w:World} {F:Fz}:∀ {ss:List (List UInt8)} {vs:List Value} {B:List Nat},aj H w F (ss.map et) [.str] vs B->vs=ss.map encStr/\B=[]
 | [],vs,B,h=>by simp only [D2,aj] at h; exact ⟨h.1,h.2⟩
 | s::ss,vs,B,h=>by
  simp only [C2,aj,et,RL,RC] at h;obtain ⟨v1,v2,B1,B2,rfl,rfl,⟨ct,cts,u,us,B3,B4,e1,rfl,rfl,⟨rfl,rfl,rfl⟩,rfl,rfl,rfl⟩,h2⟩:=h;obtain ⟨rfl,rfl⟩:=vf h2;exact ⟨rfl,rfl⟩
theorem re {H:Tab} {w:World} {F:Fz}:∀ (ss:List (List UInt8)),aj H w F (ss.map et) [.str] (ss.map encStr) []
 | []=>by simp [aj]
 | s::ss=>by
  simp only [C2,aj,et,RL,RC];exact ⟨[_],_,[],[],rfl,rfl,⟨_,[],_,[],[],[],rfl,rfl,rfl,⟨rfl,rfl,rfl⟩,rfl,rfl,rfl⟩,re ss⟩
section
variable {w:World} {blk off n:Nat} {cur:Array Value} {t:TypeId} {d:Array (List UInt8)} {os:Array Go.Obj}
theorem sy (hg:w.heap[blk]?=some (.cells cur t (0,0))):(grow (putRow encStr (Go.Sort.ahead w n) blk off d) os).heap[blk]?=some (.cells (putCells encStr off d cur) t (0,0)):=by
 have hlt:=(Array.getElem?_eq_some_iff.1 hg).1;have hs:blk<(putRow encStr (Go.Sort.ahead w n) blk off d).heap.size:=by simpa [Go.Sort.ahead] using hlt
 rw [Go.Sort.heap_grow_old _ _ hs];simp [putRow,mapBlock,Go.Sort.ahead,Array.getElem?_modify,hg,onCells]
theorem kq {b:Nat} (hb:b≠blk) (hlt:b<w.heap.size):(grow (putRow encStr (Go.Sort.ahead w n) blk off d) os).heap[b]?=w.heap[b]?:=by
 have hs:b<(putRow encStr (Go.Sort.ahead w n) blk off d).heap.size:=by simpa [Go.Sort.ahead] using hlt
 rw [Go.Sort.heap_grow_old _ _ hs];simp [putRow,mapBlock,Go.Sort.ahead,Array.getElem?_modify,Ne.symm hb]
theorem Gn {b q:Nat} (hb:b≠blk) (hlt:b<w.heap.size):(grow (putRow encStr (Go.Sort.ahead w n) blk off d) os).cell? ⟨b,q,none⟩=w.cell? ⟨b,q,none⟩:=by
 simp only [World.cell?,kq hb hlt]
theorem Ce:w.heap.size<=(grow (putRow encStr (Go.Sort.ahead w n) blk off d) os).heap.size:=by simp [Go.Sort.ahead]
theorem Gp:(putCells encStr off d cur).size=cur.size:=by simp [putCells]
theorem Gq {m:Nat} (hm:m<=d.size) (hf:off+d.size<=cur.size):((putCells encStr off d cur).toList.drop off).take m=(d.toList.take m).map encStr:=by
 apply List.ext_getElem?;intro k;rw [J1,J2,P1,J1];by_cases hk:k<m
 · rw [H5 hk,H5 hk]
   rw [Array.getElem?_toList,Array.getElem?_toList];have h1:off+k<cur.size:=by omega
   have h2:k<d.size:=by omega
   simp only [putCells,Array.getElem?_mapIdx];rw [K7 h1,N2,H5 ⟨by omega,by omega⟩,show off+k-off=k by omega,K7 h2,N2,getElem!_pos d k h2]
 · rw [H6 hk,H6 hk]; rfl
end
section
variable {P:Program} {H:Tab} {G:Gh} {w:World} {E:Nat} {xs:List XS} {rows:aa} {us:List Value}
theorem Vz (hin:In H G w ⟨[(0,.hd 0)],[(0,.arr E .deep)],xs⟩ [.sl rows] us) :
 us=[G.hv 0]/\G.U 0/\OR H G w 0 (.arr E .deep 0 rows none)/\(∀ b,G.blk 0 b->b<w.heap.size)/\∀ b,G.blk 0 b->Pl w b:=by
 have hv:=hin.vals;simp only [C2,D2,bf,unV,VRL,VR] at hv;obtain ⟨u,us',rfl,⟨h1,rfl,_⟩,rfl⟩:=hv;have ho:=hin.objs 0 (.arr E .deep 0 rows none) (by simp [bf,unV,unO,nth,D.L])
 exact ⟨rfl,h1,ho.2.1,ho.2.2,fun b hb=>hin.plain b ⟨0,by simp,hb⟩⟩
theorem Gs {n:Nat} {L:List Nat} {blk off m:Nat} {cur:Array Value} {t:TypeId} {d:Array (List UInt8)} {os:Array Go.Obj} (hF:∀ b o,G.F b o->b<w.heap.size) (hgv:∀ p∈H.gv,p.1<w.heap.size/\¬ jz G L p.1/\∃ cs t z,w.heap[p.1]?=some (.cells cs t z)/\p.2 cs) (hnF:∀ q,¬ G.F blk q) (hl:jz G L blk) :
 jv ⟨P,H,n,w,G.F,jz G L⟩ G (grow (putRow encStr (Go.Sort.ahead w m) blk off d) os):=by
 have hcell:∀ b o,G.F b o->(grow (putRow encStr (Go.Sort.ahead w m) blk off d) os).cell? ⟨b,o,none⟩=w.cell? ⟨b,o,none⟩:=fun b o hf=>Gn (fun e=>hnF o (e▸hf)) (hF b o hf)
 exact ⟨fun b o hf=>J5 (hF b o hf) Ce,fun _ _ h=>h,fun _ _ h=>.inl h,hcell,fun b hb hn=>kq (fun e=>hn (e▸hl)) hb,Ce,rfl,rfl,rfl,hgv⟩
theorem Cf {n:Nat} {L:List Nat} (hF:∀ b o,G.F b o->b<w.heap.size) (hgv:∀ p∈H.gv,p.1<w.heap.size/\¬ jz G L p.1/\∃ cs t z,w.heap[p.1]?=some (.cells cs t z)/\p.2 cs):jv ⟨P,H,n,w,G.F,jz G L⟩ G w :=
 ⟨hF,fun _ _ h=>h,fun _ _ h=>.inl h,fun _ _ _=>rfl,fun _ _ _=>rfl,Nat.le_refl _,rfl,rfl,rfl,hgv⟩
theorem Yk {fl:List (Nat×TypeId)} (hE:H.ty E=some ⟨false,[.str],fl⟩) {ss:List (List UInt8)} (h:OR H G w 0 (.arr E .deep 0 (ss.map et) none)) :
 ∃ A cap,G.hv 0=.slice A ss.length cap/\G.ly 0=[.str]/\G.vm 0=0/\ss.length<=cap/\((ss=[]/\cap=0)\/∃ o cur t,A=some ⟨G.bm 0,o,none⟩/\G.blk 0 (G.bm 0)/\w.heap[G.bm 0]?=some (.cells cur t (0,0))/\o+cap<=cur.size ∧
  (∀ q,¬ G.F (G.bm 0) q)/\(∀ b,G.blk 0 b->∀ q,¬ G.F b q)/\(cur.toList.drop o).take ss.length=ss.map encStr):=by
 simp only [OR] at h;obtain ⟨ti,A,cap,h1,h2,h3,h4,h5,h6,h7⟩:=h;rw [hE] at h1;obtain rfl:(⟨false,[.str],fl⟩:TI)=ti:=by simpa using h1
 rw [B6] at h5 h6 h7;refine ⟨A,cap,h5,h3,h4,h6,?_⟩;rcases h7 with ⟨h7,_⟩|⟨o,cur,t,k1,k2,k3,k4,k5⟩
 · have h7:cap=0:=h7
   exact .inl ⟨F1.1 (by omega),h7⟩
 · have hc:ju 0 ss.length cap=cap:=kz
   rw [hc] at k4;simp only [C5,C8,Nat.zero_add,Nat.mul_one] at k4 k5;rw [bx] at k5;simp only [bw] at k5;obtain ⟨m1,m2,⟨B,m3,_⟩,_⟩:=k5;exact .inr ⟨o,cur,t,k1,k2,k3,k4,m1,m2,(vf m3).1⟩
theorem Cg {blk o:Nat} {cur:Array Value} {t:TypeId} {ss:List (List UInt8)} (hg:w.heap[blk]?=some (.cells cur t (0,0))) (hr:(cur.toList.drop o).take ss.length=ss.map encStr):Holds encStr w blk o ss.toArray:=fun j hj=>by
 have hj':j<ss.length:=by simpa using hj
 refine ⟨?_,by simp [World.frozen?,hg]⟩
 have:((cur.toList.drop o).take ss.length)[j]?=(ss.map encStr)[j]?:=by rw [hr]
 rw [J1,H5 hj',J2,P1,List.getElem?_eq_getElem hj'] at this;simp only [World.cell?,hg];rw [Array.getElem?_toList] at this;rw [this];simp [hj']
theorem Ps {ρ:Go.Shelf.Ren} {f v:Nat} {fl:List (Nat×TypeId)} {fn:Func} (Ly:Go.Proofs.Lays.n190 P ρ) (hf:ρ.f 190=f) (hE:H.ty E=some ⟨false,[.str],fl⟩) (hfn:P.funcs[f]?=some fn) (hb:fn.body≠none) (hn:¬ fn.name="runtime.NumGoroutine")
 (hki:∀ i,H.ki ⟨f,v,0⟩=some i->i=⟨[(0,.hd 0)],[(0,.arr E .deep)],[⟨.ret,[],[(0,.arr E .deep)]⟩]⟩) {ls:List D} {x:Nat×List D} (hr:Cc v ls=some x):FnT P H ⟨f,v,0⟩ ls x:=by
 intro i hi G w us hin;obtain rfl:=hki i hi;unfold Cc at hr;split at hr
 case h_2=>simp at hr
 rename_i rows;split at hr
 case h_2=>simp at hr
 rename_i ss hss;cases hlt:Nat.blt ss.length 4611686018427387904 with
 | false=>rw [hlt] at hr; simp at hr
 | true =>
 rw [hlt] at hr;simp only [H1,C7.injEq] at hr;subst hr;obtain rfl:=pt hss;have hlen:ss.length<4611686018427387904:=K3 hlt;obtain ⟨rfl,hU,hO,hbs,hpl⟩:=Vz hin;obtain ⟨A,cap,h1,h2,h3,h4,h5⟩:=Yk hE hO;have hOut:∀ {w':World},jv ⟨P,H,0,w,G.F,jz G [0]⟩ G w'->OR H G w' 0 (.arr E .deep 0 ((ss.mergeSort fun x y=>decide (x<=y)).map et) none)->(∀ b,G.blk 0 b->Pl w' b) →
  Out P H G w ⟨[(0,.hd 0)],[(0,.arr E .deep)],[⟨.ret,[],[(0,.arr E .deep)]⟩]⟩ (0,[.sl ((ss.mergeSort fun x y=>decide (x<=y)).map et)]) (.tuple #[]) w':=fun {w'} hc hO' hp=>by
  refine ⟨_,G,[],rfl,rfl,hc,Fix.refl G,by simp [bf,VRL],fun c ob hm=>?_,fun c ob b hm hb=>?_,fun c c' ob ob' b hm hm' _ _=>?_⟩
  · simp only [D2,bf,unO,nth,D1,D.L,F8,G5.injEq] at hm
    obtain ⟨rfl,rfl⟩:=hm;exact ⟨hU,hO',fun b hb=>⟨J5 (hbs b hb) hc.size,.inr ⟨0,by simp,hb⟩⟩⟩
  · simp only [D2,bf,unO,F8,G5.injEq] at hm
    obtain ⟨rfl,_⟩:=hm;exact hp b hb
  · simp only [D2,bf,unO,F8,G5.injEq] at hm hm'
    rw [hm.1,hm'.1]
 rcases h5 with ⟨rfl,rfl⟩|⟨o,cur,t,rfl,k1,k2,k3,k4,k5,k6⟩
 · have hc:=Go.Proofs.Any.slices_Sort_string_none Ly A 0 w
   rw [hf] at hc;refine iz hfn hb hn (by rw [h1]; exact hc) fun e w' he=>?_
   obtain ⟨rfl,rfl⟩:=he;exact ⟨_,rfl,hOut (Cf hin.fsz hin.vars) (by simpa using hO) hpl⟩
 · have hc:=Go.Proofs.Any.slices_Sort_string Ly (G.bm 0) o cap ss w (Cg k2 k6) (hbs _ k1) hlen
   rw [hf] at hc;refine iz hfn hb hn (by rw [h1]; exact hc) fun e w' he=>?_
   obtain ⟨rfl,n,os,rfl⟩:=he;refine ⟨_,rfl,hOut (Gs (cur:=cur) (t:=t) hin.fsz hin.vars k4 ⟨0,by simp,k1⟩) ?_ fun b hb=>?_⟩
   · simp only [OR]
     have hl:((ss.mergeSort fun x y=>decide (x<=y)).map et).length=ss.length:=by simp
     refine ⟨_,_,cap,hE,S8,h2,h3,by rw [hl]; exact h1,by rw [hl]; exact h4,.inr ⟨o,_,t,rfl,k1,sy k2,?_,?_⟩⟩
     · rw [kz,Gp]; simpa using k3
     · rw [bx,hl]
       simp only [C5,C8,Nat.zero_add,Nat.mul_one,bw];have hp:=Gq (off:=o) (cur:=cur) (d:=(ss.mergeSort fun x y=>decide (x<=y)).toArray) (m:=ss.length) (by simp) (by simp; omega)
       refine ⟨k4,k5,⟨[],?_,by simp,by simp⟩,fun i c e _ hc=>by cases c <;> simp at hc⟩
       rw [hp];have:List.take ss.length (ss.mergeSort fun x y=>decide (x<=y)).toArray.toList=ss.mergeSort fun x y=>decide (x<=y):=by
        rw [S7]; exact List.take_of_length_le (by simp)
       rw [this];exact re _
   · by_cases e:b=G.bm 0
     · subst e; exact ⟨_,_,sy k2⟩
     · unfold Pl; rw [kq e (hbs b hb)]; exact hpl b hb
theorem Gv (ss:List (List UInt8)):(Lib.compact ss).length<=ss.length:=by
 unfold Lib.compact Lib.compactUpTo;rw [B6];exact Nat.le_trans (List.length_filter_le _ _) (by simp)
theorem jv.ofF {E:Env} {G G':Gh} {w:World} (h:jv E G w) (hF:G'.F=G.F):jv E G' w:=by
 obtain ⟨h1,h2,h3,h4,h5,h6,h7,h8,h9,h10⟩:=h;exact ⟨by rw [hF]; exact h1,by rw [hF]; exact h2,by rw [hF]; exact h3,h4,h5,h6,h7,h8,h9,h10⟩
theorem Pt {ρ:Go.Shelf.Ren} {f v:Nat} {fl:List (Nat×TypeId)} {fn:Func} (Ly:Go.Proofs.Lays.n194 P ρ) (hf:ρ.f 194=f) (hE:H.ty E=some ⟨false,[.str],fl⟩) (hfn:P.funcs[f]?=some fn) (hb:fn.body≠none) (hn:¬ fn.name="runtime.NumGoroutine")
 (hki:∀ i,H.ki ⟨f,v,0⟩=some i->i=⟨[(0,.hd 0)],[(0,.arr E .deep)],[⟨.ret,[(0,.hd 16)],[(16,.arr E .deep)]⟩]⟩) {ls:List D} {x:Nat×List D} (hr:Cd v ls=some x):FnT P H ⟨f,v,0⟩ ls x:=by
 intro i hi G w us hin;obtain rfl:=hki i hi;unfold Cd at hr;split at hr
 case h_2=>simp at hr
 rename_i rows;split at hr
 case h_2=>simp at hr
 rename_i ss hss;cases hlt:Nat.ble ss.length 9223372036854775807 with
 | false=>rw [hlt] at hr; simp at hr
 | true =>
 rw [hlt] at hr;simp only [H1,C7.injEq] at hr;subst hr;obtain rfl:=pt hss;have hlen:=K3 hlt;obtain ⟨rfl,hU,hO,hbs,hpl⟩:=Vz hin;obtain ⟨A,cap,h1,h2,h3,h4,h5⟩:=Yk hE hO;have hcl:(Lib.compact ss).length<=ss.length:=Gv ss;let Gr:Gh:={ G with U:=fun j=>G.U j\/j=16,hv:=dh G.hv 16 (.slice A (Lib.compact ss).length cap),bm:=dh G.bm 16 (G.bm 0),ly:=dh G.ly 16 [.str],blk:=dh G.blk 16 (G.blk 0),vm:=dh G.vm 16 0 }
 have hOut:∀ {w':World},jv ⟨P,H,0,w,G.F,jz G [0]⟩ G w'->OR H Gr w' 16 (.arr E .deep 0 ((Lib.compact ss).map et) none)->(∀ b,G.blk 0 b->Pl w' b) →
  Out P H G w ⟨[(0,.hd 0)],[(0,.arr E .deep)],[⟨.ret,[(0,.hd 16)],[(16,.arr E .deep)]⟩]⟩ (0,[.sl ((Lib.compact ss).map et)]) (.slice A (Lib.compact ss).length cap) w':=fun {w'} hc hO' hp=>by
  have hbk:Gr.blk 16=G.blk 0:=ah G.blk 16 _;refine ⟨_,Gr,[.slice A (Lib.compact ss).length cap],rfl,rfl,hc.ofF rfl,fun c hc' hUc=>?_,?_,fun c ob hm=>?_,fun c ob b hm hb=>?_,fun c c' ob ob' b hm hm' _ _=>?_⟩
  · have hne:c≠16:=by omega
    exact ⟨.inl hUc,av _ _ hne,av _ _ hne,av _ _ hne⟩
  · simp only [C2,D2,bf,unV,VRL,VR]
    exact ⟨_,_,rfl,⟨.inr rfl,(ah G.hv 16 _).symm,rfl⟩,rfl⟩
  · simp only [C2,D2,bf,unV,unO,nth,D1,D.L,F8,G5.injEq] at hm
    obtain ⟨rfl,rfl⟩:=hm;exact ⟨.inr rfl,hO',fun b hb=>by rw [hbk] at hb; exact ⟨J5 (hbs b hb) hc.size,.inr ⟨0,by simp,hb⟩⟩⟩
  · simp only [C2,D2,bf,unV,unO,F8,G5.injEq] at hm
    obtain ⟨rfl,_⟩:=hm;rw [hbk] at hb;exact hp b hb
  · simp only [C2,D2,bf,unV,unO,F8,G5.injEq] at hm hm'
    rw [hm.1,hm'.1]
 have hl:((Lib.compact ss).map et).length=(Lib.compact ss).length:=by simp
 rcases h5 with ⟨rfl,rfl⟩|⟨o,cur,t,rfl,k1,k2,k3,k4,k5,k6⟩
 · have hc:=Go.Proofs.Any.slices_Compact_string_empty Ly A 0 w
   rw [hf] at hc;refine iz hfn hb hn (by rw [h1]; exact hc) fun e w' he=>?_
   obtain ⟨rfl,rfl⟩:=he;have h0:Lib.compact ([]:List (List UInt8))=[]:=F1.1 (by simpa using hcl)
   rw [h0] at hOut hl;simp only [h0];refine ⟨_,rfl,hOut (Cf hin.fsz hin.vars) ?_ hpl⟩;have hv16:Gr.hv 16=.slice A 0 0:=by rw [<- C8 (α:=List UInt8),<- h0]; exact ah G.hv 16 _
   simp only [OR];exact ⟨_,_,0,hE,S8,ah G.ly 16 _,ah G.vm 16 _,hv16,Nat.le_refl _,.inl ⟨rfl,trivial⟩⟩
 · have hc:=Go.Proofs.Any.slices_Compact_string Ly (G.bm 0) o cap ss w (Cg k2 k6) hlen h4
   rw [hf] at hc;refine iz hfn hb hn (by rw [h1]; exact hc) fun e w' he=>?_
   obtain ⟨rfl,n,hw⟩:=he;rw [<- Go.Sort.grow_empty (putRow _ _ _ _ _)] at hw;subst hw;have hds:(Lib.compact ss++P0 (ss.length-(Lib.compact ss).length) []).toArray.size=ss.length:=by simp; omega
   refine ⟨_,rfl,hOut (Gs (cur:=cur) (t:=t) hin.fsz hin.vars k4 ⟨0,by simp,k1⟩) ?_ fun b hb=>?_⟩
   · simp only [OR,Gr,ah]
     refine ⟨_,_,cap,hE,S8,rfl,trivial,by rw [hl],by rw [hl]; omega,.inr ⟨o,_,t,rfl,k1,sy k2,?_,?_⟩⟩
     · rw [kz,Gp]; simpa using k3
     · rw [bx,hl]
       simp only [C5,C8,Nat.zero_add,Nat.mul_one,bw,ah];have hp:=Gq (off:=o) (cur:=cur) (d:=(Lib.compact ss++P0 (ss.length-(Lib.compact ss).length) []).toArray) (m:=(Lib.compact ss).length) (by rw [hds]; exact hcl) (by rw [hds]; omega)
       refine ⟨k4,k5,⟨[],?_,by simp,by simp⟩,fun i c e _ hc=>by cases c <;> simp at hc⟩
       rw [hp];rw [S7,List.take_left']
       · exact re _
       · rfl
   · by_cases e:b=G.bm 0
     · subst e; exact ⟨_,_,sy k2⟩
     · unfold Pl; rw [kq e (hbs b hb)]; exact hpl b hb
end
end Go.Q
end
section
namespace Go.Q
open Go
open Go.RowKit (Below)
section
variable {P:Program} {H:Tab} {G:Gh} {w:World} {E:Nat}
end
end Go.Q
end
section
namespace Go.Q
open Go
open Go.RowKit (Below)
open Go.Proofs (encStr)
section
variable {P:Program} {H:Tab} {G:Gh} {w:World} {E:Nat}
theorem Jj {n:Nat} {l:Nat->Prop} {w':World} (hF:∀ b o,G.F b o->b<w.heap.size) (hgv:∀ p∈H.gv,p.1<w.heap.size/\¬ l p.1/\∃ cs t z,w.heap[p.1]?=some (.cells cs t z)/\p.2 cs) (hb:Below w.heap.size w w'):jv ⟨P,H,n,w,G.F,l⟩ G w' :=
 ⟨fun b o hf=>J5 (hF b o hf) hb.size,fun _ _ h=>h,fun _ _ h=>.inl h,fun b o hf=>hb.cell (p:=⟨b,o,none⟩) (hF b o hf),fun b h _=>hb.block b h,hb.size,hb.os,hb.tape,hb.output,hgv⟩
theorem yf {ps:List (Nat×Sh)} {ob:List (Nat×OSh)} {w':World} {s:ByteArray} (hF:∀ b o,G.F b o->b<w.heap.size) (hgv:∀ p∈H.gv,p.1<w.heap.size/\¬ jz G (ob.map (·.1)) p.1/\∃ cs t z,w.heap[p.1]?=some (.cells cs t z)/\p.2 cs) (hb:Below w.heap.size w w') :
 Out P H G w ⟨ps,ob,[⟨.ret,[(0,.str)],[]⟩]⟩ (0,[.str s]) (.string s) w' :=
 ⟨_,G,[.string s],rfl,rfl,Jj hF hgv hb,Fix.refl G,by simp [bf,unV,VRL,VR,nth,D.S],fun c ob hm=>by simp [unO] at hm,fun c ob b hm=>by simp [unO] at hm,fun c c' ob ob' b hm=>by simp [unO] at hm⟩
theorem Mq {ρ:Go.Shelf.Ren} {f v:Nat} {fn:Func} (Ly:Go.Proofs.Lays.n171 P ρ) (hf:ρ.f 171=f) (hfn:P.funcs[f]?=some fn) (hb:fn.body≠none) (hn:¬ fn.name="runtime.NumGoroutine")
 (hki:∀ i,H.ki ⟨f,v,0⟩=some i->i=⟨[(0,.int .i64)],[],[⟨.ret,[(0,.str)],[]⟩]⟩) {ls:List D} {x:Nat×List D} (hr:Gl v ls=some x):FnT P H ⟨f,v,0⟩ ls x:=by
 intro i hi G w us hin;obtain rfl:=hki i hi;unfold Gl at hr;split at hr
 case h_2=>simp at hr
 rename_i n;cases hlt:(decide (0<=n)&&decide (n<100)) with
 | false=>rw [hlt] at hr; simp at hr
 | true =>
 rw [hlt] at hr;simp only [H1,C7.injEq] at hr;subst hr;simp only [Bool.and_eq_true,decide_eq_true_eq] at hlt;have hv:=hin.vals;simp only [C2,D2,bf,unV,VRL,VR,nth,D1,D.I] at hv;obtain ⟨u,us',rfl,rfl,rfl⟩:=hv;obtain ⟨m,rfl⟩:=Int.eq_ofNat_of_zero_le hlt.1;have hc:=Go.Proofs.Any.strconv_Itoa_small Ly m (by omega) w
 rw [hf] at hc;refine iz hfn hb hn hc fun e w' he=>?_
 obtain ⟨rfl,rfl⟩:=he;exact ⟨_,rfl,yf hin.fsz hin.vars (Below.refl _ _)⟩
theorem Mr {H:Tab} {w:World} {F:Fz} {ss:List (List UInt8)} {vs:List Value} {B:List Nat} (h:aj H w F (ss.map et) [.str] vs B):vs=ss.map encStr:=(vf h).1
theorem Pu {ρ:Go.Shelf.Ren} {f v:Nat} {fl:List (Nat×TypeId)} {fn:Func} (Ly:Go.Proofs.Lays.n156 P ρ) (X:Go.Proofs.Builder.Extra P ρ) (hf:ρ.f 156=f) (hE:H.ty E=some ⟨false,[.str],fl⟩) (hfn:P.funcs[f]?=some fn) (hb:fn.body≠none) (hn:¬ fn.name="runtime.NumGoroutine")
 (hki:∀ i,H.ki ⟨f,v,0⟩=some i->i=⟨[(0,.im E),(1,.str)],[],[⟨.ret,[(0,.str)],[]⟩]⟩) {ls:List D} {x:Nat×List D} (hr:Gm v ls=some x):FnT P H ⟨f,v,0⟩ ls x:=by
 intro i hi G w us hin;obtain rfl:=hki i hi;unfold Gm at hr;split at hr
 case h_2=>simp at hr
 rename_i rows sep;split at hr
 case h_2=>simp at hr
 rename_i ss hss;cases hlt:(Nat.ble ss.length 140737488355328&&Nat.ble (Lib.join ss sep.data.toList).length 140737488355328) with
 | false=>rw [hlt] at hr; simp at hr
 | true =>
 rw [hlt] at hr;simp only [H1,C7.injEq] at hr;subst hr;obtain rfl:=pt hss;rw [Bool.and_eq_true] at hlt;have hl1:=K3 hlt.1;have hl2:=K3 hlt.2;have hv:=hin.vals;simp only [C2,D2,bf,unV,VRL,VR,nth,D1,List.getD_cons_succ,D.L,D.S] at hv;obtain ⟨u,us',rfl,⟨B,hrc⟩,u2,us2,rfl,rfl,rfl⟩:=hv;simp only [RC] at hrc;obtain ⟨e,ti,A,cap,he,hti,rfl,hcap,hrr⟩:=hrc;obtain rfl:E=e:=by simpa using he
 rw [hE] at hti;obtain rfl:(⟨false,[.str],fl⟩:TI)=ti:=by simpa using hti
 rcases hrr with ⟨h0,rfl⟩|⟨b,o,vs,B',rfl,rfl,hlies,hrows⟩
 · obtain rfl:ss=[]:=by simpa using h0
   have hc:=Go.Proofs.Any.strings_Join_none Ly X A cap sep w;rw [hf] at hc;refine iz hfn hb hn hc fun e w' he=>?_
   obtain ⟨rfl,rfl⟩:=he;exact ⟨_,rfl,yf hin.fsz hin.vars (Below.refl _ _)⟩
 · obtain rfl:=Mr hrows
   cases ss with
   | nil =>
    have hc:=Go.Proofs.Any.strings_Join_none Ly X (some ⟨b,o,none⟩) cap sep w;rw [hf] at hc;refine iz hfn hb hn hc fun e w' he=>?_
    obtain ⟨rfl,rfl⟩:=he;exact ⟨_,rfl,yf hin.fsz hin.vars (Below.refl _ _)⟩
   | cons s0 sr =>
    generalize hS:s0::sr=ss at *;have hxs:(ss.map fun s=>(⟨s.toArray⟩:ByteArray)).map (·.data.toList)=ss:=by
     rw [List.map_map];refine (List.map_congr_left fun x _=>?_).trans (List.map_id ss)
     simp
    have hlen:(ss.map fun s=>(⟨s.toArray⟩:ByteArray)).length=ss.length:=by simp
    have hF0:G.F b o:=(hlies 0 (encStr s0) (by rw [<- hS]; rfl)).2
    have hc:=Go.Proofs.Any.strings_Join Ly X b o cap (ss.map fun s=>(⟨s.toArray⟩:ByteArray)) sep w (fun j x hj=>by
     rw [P1] at hj;obtain ⟨y,hy,rfl⟩:=Option.map_eq_some_iff.1 hj;exact (hlies j (encStr y) (by rw [P1,hy]; rfl)).1) (hin.fsz _ _ hF0) (by rw [hlen]; exact hl1) (by rw [hlen]; simpa using hcap.1) (by rw [hxs]; exact hl2)
    rw [hf,hxs,hlen] at hc;rw [B6];refine iz hfn hb hn hc fun e w' he=>?_
    obtain ⟨rfl,hbl⟩:=he;exact ⟨_,rfl,yf hin.fsz hin.vars hbl⟩
end
end Go.Q
end
