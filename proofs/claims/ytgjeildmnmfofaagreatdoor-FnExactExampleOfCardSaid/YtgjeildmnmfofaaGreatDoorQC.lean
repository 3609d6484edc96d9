/- A machine over trees of data that runs the given code, and the proof that what it answers holds of the program, part 3. -/
import Derived.Test.YtgjeildmnmfofaaGreatDoorQB
import Derived.ChangeArms
import Derived.Carry
import Derived.ProofKit
import Derived.OpenShut
import Derived.Lib.SlicesCompact
import Derived.Lib.ItoaNum
import Derived.Lib.Join
import Derived.Lib.AtoiAll
import Derived.Lib.Strings
set_option linter.unusedVariables false
set_option linter.unusedSimpArgs false
open Array renaming getD_eq_getD_getElem?->D8,getElem?_eq_some_iff->E5,getElem?_eq_getElem->F2,getElem?_eq_none->F5
open Bool renaming and_eq_true->B4,not_eq_true'->C5,or_eq_true->K6
open List renaming mem_cons_self->B5,mem_cons_of_mem->B6,mem_append->B8,getElem?_eq_some_iff->B9,map_cons->C0,mem_cons->C1,nodup_cons->C4,all_eq_true->C6,nodup_append->C7,mem_map->D0,getElem?_append_left->D2,length_eq_zero_iff->D4,getElem?_eq_getElem->D5,mem_flatMap->E4,length_append->E6,length_cons->E8,cons_append->E9,mem_append_left->J0,getD->K1,take_append_drop->N2,drop_drop->N4,any_eq_true->N5,cons->N7,all_cons->O0,flatten_cons->O6
open Nat renaming mul_le_mul_right->C3,le_refl->D1,lt_of_lt_of_le->D9,add_mul->E0,blt->E7,le_trans->F4,zero_add->G8,ble->J1,lt_or_ge->N8
open Option renaming some->B7,bind_eq_some_iff->E2,isSome_iff_exists->F6,getD_some->K2
open Prod renaming mk->C8
section
namespace Go.Q
open Go
open Go.RowKit (Below)
section
variable {call:Key->List D->R} {E:Env} {X G G0:Gh} {st st0:St} {a:Act} {w:World} {H:Tab} {key:Key} {ops:Array Oper}
def AP (ops:Array Oper) (p q:Fp):Prop:=((Region.before ops).getD q.ix 0).testBit p.ix=true\/Ap ops p q
def Ord (ops:Array Oper) (p:Fp):Prop:=∀ o,ops[p.ix]?=some o->∀ e∈o.after,Region.binds .any e=true->e.on<p.ix
theorem rx {bef:Nat} {o:Oper} {fp:Fp} (ho:ops[fp.ix]?=some o):∀ (l:List Fp),apart ops bef o fp l=true->(∀ p∈l,bef.testBit p.ix=true\/Ap ops p fp)/\Ord ops fp
 | [],h=>by
  refine ⟨fun p hp=>by simp at hp,fun o' ho' e he hb=>?_⟩
  obtain rfl:o=o':=by rw [ho] at ho'; simpa using ho'
  simp only [apart,C6] at h;have:=h e (by simpa using he)
  rw [hb] at this;simpa [E7,dn,Nat.lt_iff_add_one_le] using this
 | p::l,h=>by
  simp only [apart,B4,K6] at h;obtain ⟨h1,h2⟩:=h;obtain ⟨h3,h4⟩:=rx ho l h2;refine ⟨fun p' hp'=>?_,h4⟩
  rcases C1.1 hp' with rfl | hp'
  · rcases h1 with h1 | h1
    · exact .inl h1
    · cases hx:ops[p'.ix]? with
      | none=>rw [hx] at h1; simp at h1
      | some x =>
       rw [hx] at h1;simp only [B4,C6,C5,<- Bool.not_eq_true,cx] at h1;exact .inr ⟨x,o,hx,ho,h1.1.1,h1.1.2,h1.2⟩
  · exact h3 p' hp'
theorem yt {o:Oper} {n:Nat} {fps:List Fp} {k:List Fp->St->R} {r:Nat×List D} (h:je H call key true ops (Region.before ops) o n fps st k=some r) :
 ∃ eff,ah call st (opM H key (ev st) o)=some eff/\rm st.n o.dst/\(∀ j∈eff.nw,st.u j=false)/\eff.nw.Nodup ∧
  apart ops ((Region.before ops).getD n 0) o ⟨n,rdO call st (opM H key (ev st) o) [],eff.ups.map (·.1)⟩ fps=true ∧
  k (⟨n,rdO call st (opM H key (ev st) o) [],eff.ups.map (·.1)⟩::fps) (next st eff o.dst)=some r:=by
 unfold je at h;rw [eb,E2] at h;obtain ⟨eff,h1,h2⟩:=h;revert h2
 generalize rdO call st (opM H key (ev st) o) []=rd;generalize hb:((!true||apart ops ((Region.before ops).getD n 0) o ⟨n,rd,eff.ups.map (·.1)⟩ fps)&&((match o.dst with | some d=>E7 d st.n | none=>true)&&dw eff.nw&&eff.nw.all fun j=>!st.u j))=b
 intro h2;cases b with
 | false=>simp at h2
 | true =>
  simp only [Bool.not_true,Bool.false_or,B4,fo,C6,C5] at hb;obtain ⟨ha,⟨hd,hn⟩,hu⟩:=hb;refine ⟨eff,h1,fun d hd'=>?_,hu,hn,ha,h2⟩
  rw [hd'] at hd;simp only [E7,dn] at hd; exact hd
theorem Dg {t:Nat} {v:Val} (hv:st.t t=v):st.put (some t) v=st:=by
 cases st with
 | mk n tt o u =>
  simp only [St.put] at hv ⊢;congr 1
  funext i
  by_cases e:i=t
  · subst e; rw [ae]; exact hv.symm
  · rw [aj _ _ e]
theorem ry {k:St->R} {r:Nat×List D}:∀ (l:List Oper) (n:Nat) {fps:List Fp} {st:St},ops.toList.drop n=l->cm H call key true ops (Region.before ops) l n fps st k=some r →
 ∃ tr st',Tr H call key ops tr st st'/\k st'=some r/\tr.map (·.ix)=List.range' n l.length/\(∀ p∈fps,∀ q∈tr,AP ops p q)/\tr.Pairwise (AP ops)/\∀ p∈tr,Ord ops p
 | [],n,fps,st,hl,hr=>by
  simp only [cm] at hr;exact ⟨[],st,.nil st,hr,rfl,fun p _ q hq=>by simp at hq,.nil,fun p hp=>by simp at hp⟩
 | o::l,n,fps,st,hl,hr=>by
  have ho:ops[n]?=some o:=by
   have:=congrArg (fun l=>l[0]?) hl
   simpa using this
  have hl':ops.toList.drop (n+1)=l:=by rw [<- N4,hl]; rfl
  have ih:=fun {fps st}=>ry (k:=k) (r:=r) l (n+1) (fps:=fps) (st:=st) hl'
  rw [jf] at hr;have fin:∀ {p:Fp} {st1:St},p.ix=n->One H call key ops p st st1->apart ops ((Region.before ops).getD n 0) o p fps=true->cm H call key true ops (Region.before ops) l (n+1) (p::fps) st1 k=some r →
   ∃ tr st',Tr H call key ops tr st st'/\k st'=some r/\tr.map (·.ix)=List.range' n (o::l).length/\(∀ p∈fps,∀ q∈tr,AP ops p q)/\tr.Pairwise (AP ops)/\∀ p∈tr,Ord ops p:=by
   intro p st1 hp h1 ha hr;obtain ⟨tr,st',t1,t2,t3,t4,t5,t6⟩:=ih hr;have hap:=rx (by rw [hp]; exact ho) fps ha
   have hap1:∀ p'∈fps,AP ops p' p:=fun p' hp'=>by
    have:=hap.1 p' hp';unfold AP;rwa [hp]
   refine ⟨p::tr,st',.cons h1 t1,t2,?_,?_,List.pairwise_cons.2 ⟨fun q hq=>t4 p (B5 ..) q hq,t5⟩,?_⟩
   · simp [t3,hp,List.range'_succ]
   · intro p' hp' q hq
     rcases C1.1 hq with rfl | hq
     · exact hap1 p' hp'
     · exact t4 p' (B6 _ hp') q hq
   · intro p' hp'
     rcases C1.1 hp' with rfl | hp'
     · exact hap.2
     · exact t6 p' hp'
  have go:Gd ops st o=some true->je H call key true ops (Region.before ops) o n fps st (fun fps st=>cm H call key true ops (Region.before ops) l n.succ fps st k)=some r →
   ∃ tr st',Tr H call key ops tr st st'/\k st'=some r/\tr.map (·.ix)=List.range' n (o::l).length/\(∀ p∈fps,∀ q∈tr,AP ops p q)/\tr.Pairwise (AP ops)/\∀ p∈tr,Ord ops p:=by
   intro hg hr;obtain ⟨eff,h1,h2,h3,h4,h5,h6⟩:=yt hr;exact fin rfl ⟨o,eff,ho,rfl,rfl,.inr ⟨hg,h1,rfl,h2,h4,h3⟩⟩ h5 h6
  have skip:Gd ops st o=some false->ig true ops (Region.before ops) o n fps st (fun fps st=>cm H call key true ops (Region.before ops) l n.succ fps st k)=some r →
   ∃ tr st',Tr H call key ops tr st st'/\k st'=some r/\tr.map (·.ix)=List.range' n (o::l).length/\(∀ p∈fps,∀ q∈tr,AP ops p q)/\tr.Pairwise (AP ops)/\∀ p∈tr,Ord ops p:=by
   intro hg hr;obtain ⟨h1,h2⟩:=ii hr;exact fin (p:=⟨n,[],[]⟩) rfl ⟨o,Ln,ho,rfl,rfl,.inl ⟨hg,rfl⟩⟩ (by simpa using h1) h2
  cases hg:o.guard with
  | none =>
   simp only [hg] at hr;exact go (by simp [Gd,hg]) hr
  | some gw =>
   obtain ⟨g,want⟩:=gw;simp only [hg] at hr;cases ht:(ops[g]?).bind (·.dst) with
   | none=>simp only [ht] at hr; simp at hr
   | some tg =>
    simp only [ht] at hr;cases hs:st.t tg <;> simp only [hs] at hr <;> try (simp at hr; done)
    · rename_i b
      rw [Dg hs] at hr;by_cases hb:b=want
      · rw [H5 hb] at hr
        exact go (by simp [Gd,hg,ht,hs,hb]) hr
      · rw [H6 hb] at hr
        exact skip (by simp [Gd,hg,ht,hs,hb]) hr
    · exact skip (by simp [Gd,hg,ht,hs]) hr
theorem One.wp {p:Fp} {st1:St} {Q:Exit->Act->World->Prop} {K:Act->World->Prop} (hop:∀ o,OpS E X call key o) (h1:One E.H call key ops p st st1) (h:Rel E G st a w) (hX:Fix X G) (hn:st.n=E.nt)
 (hK:∀ G' a' w',Rel E G' st1 a' w'->Fix X G'->K a' w'):wpOp E.P ops Q p.ix K a w:=by
 obtain ⟨o,eff,ho,hw,rfl,hok⟩:=h1;unfold wpOp;simp only [ho];have hgd:∀ b,Gd ops st o=some b->Region.wanted o (yielded ops a.tmps)=b:=by
  intro b hg;unfold Gd at hg;unfold Region.wanted;cases hq:o.guard with
  | none=>simp only [hq] at hg; simpa using hg
  | some gw =>
   obtain ⟨g,want⟩:=gw;simp only [hq] at hg ⊢;cases ht:(ops[g]?).bind (·.dst) with
   | none=>simp [ht] at hg
   | some tg =>
    simp only [ht] at hg;have hv:=h.tmps tg;cases hs:st.t tg <;> simp only [hs] at hg <;> try (simp at hg; done)
    · rename_i b'
      rw [hs] at hv;simp only [VR] at hv;have:a.tmps[tg]?=some (.bool b'):=by
       cases hq:a.tmps[tg]? with
       | none=>simp [hq,undef] at hv
       | some x=>simp [hq] at hv; rw [hv]
      have hy:yielded ops a.tmps g=some b':=by simp [yielded,ht,this]
      rw [hy];simpa using hg
    · rw [hs] at hv
      simp only [VR] at hv;have hy:yielded ops a.tmps g=none:=by
       cases hq:a.tmps[tg]? with
       | none=>simp [yielded,ht,hq]
       | some x=>simp [hq] at hv; subst hv; simp [yielded,ht,hq,undef]
      rw [hy];simpa using hg
 rcases hok with ⟨hg,rfl⟩|⟨hg,k1,k2,k3,k4,k5⟩
 · rw [H6 (by simp [hgd _ hg])]
   exact hK G _ w (h.putUnd o.dst) hX
 · rw [H5 (by simp [hgd _ hg])]
   exact .inl (hop o G st a w eff K Q h hX k1 (hn▸k3) k5 k4 hK)
def wq (acc:Array Nat) (o:Oper):Nat:=o.after.foldl (fun s e=>if Region.binds .any e then s ||| 2 ^ e.on ||| acc.getD e.on 0 else s) 0
def ma (l:List Oper):Array Nat:=l.foldl (fun acc o=>acc.push (wq acc o)) #[]
theorem wt:Region.before ops=ma ops.toList:=by
 unfold Region.before ma wq;rw [<- Array.foldl_toList]
theorem Dh {acc:Array Nat} {o:Oper} {i:Nat} (h:(wq acc o).testBit i=true):∃ e∈o.after,Region.binds .any e=true/\(e.on=i\/(acc.getD e.on 0).testBit i=true):=by
 unfold wq at h;rw [<- Array.foldl_toList] at h;have key:∀ (l:List Edge) (s:Nat),(l.foldl (fun s e=>if Region.binds .any e then s ||| 2 ^ e.on ||| acc.getD e.on 0 else s) s).testBit i=true →
  s.testBit i=true\/∃ e∈l,Region.binds .any e=true/\(e.on=i\/(acc.getD e.on 0).testBit i=true):=by
  intro l;induction l with
  | nil=>intro s h; exact .inl h
  | cons e l ih =>
   intro s h;simp only [List.foldl_cons] at h;rcases ih _ h with h | ⟨e',h1,h2⟩
   · by_cases hb:Region.binds .any e=true
     · rw [H5 hb] at h
       simp only [Nat.testBit_or,K6,Nat.testBit_two_pow,decide_eq_true_eq] at h;rcases h with (h | h) | h
       · exact .inl h
       · exact .inr ⟨e,B5 ..,hb,.inl h⟩
       · exact .inr ⟨e,B5 ..,hb,.inr h⟩
     · rw [H6 hb] at h
       exact .inl h
   · exact .inr ⟨e',B6 _ h1,h2⟩
 rcases key _ _ h with h | ⟨e,h1,h2⟩
 · simp at h
 · exact ⟨e,by simpa using h1,h2⟩
theorem nb (l:List Oper):(ma l).size=l.length:=by
 have key:∀ (l:List Oper) (acc:Array Nat),(l.foldl (fun acc o=>acc.push (wq acc o)) acc).size=acc.size+l.length:=by
  intro l;induction l with
  | nil=>intro acc; rfl
  | cons o l ih=>intro acc; simp only [List.foldl_cons,ih,Array.size_push,E8]; omega
 simpa [ma] using key l #[]
theorem Bh (l:List Oper) (o:Oper):ma (l++[o])=(ma l).push (wq (ma l) o):=by simp [ma,List.foldl_append]
theorem nc {acc:Array Nat} {x j:Nat} (h:j≠acc.size):(acc.push x).getD j 0=acc.getD j 0:=by
 simp only [D8,Array.getElem?_push,h,if_false]
theorem Di {i:Nat}:∀ (n:Nat) (l:List Oper) (j:Nat) (o:Oper),l.length=n->l[j]?=some o->((ma l).getD j 0).testBit i=true->∃ e∈o.after,Region.binds .any e=true/\(e.on=i\/(e.on<j/\((ma l).getD e.on 0).testBit i=true)):=by
 intro n;induction n with
 | zero=>intro l j o hl h; rw [D4.1 hl] at h; simp at h
 | succ n ih =>
  intro l' j o hln hj hb;rcases List.eq_nil_or_concat l' with rfl | ⟨l,o',rfl⟩
  · simp at hj
  have hln:l.length=n:=by simp at hln; omega
  rw [List.concat_eq_append] at hj hb ⊢;rw [Bh] at hb ⊢;by_cases he:j=l.length
  · subst he
    obtain rfl:o'=o:=by simpa using hj
    have hsz:(ma l).size=l.length:=nb l;have hx:((ma l).push (wq (ma l) o')).getD l.length 0=wq (ma l) o':=by simp [D8,<- hsz]
    rw [hx] at hb;obtain ⟨e,h1,h2,h3⟩:=Dh hb;refine ⟨e,h1,h2,h3.imp id fun h3=>?_⟩
    have hlt:e.on<l.length:=by
     rcases N8 e.on l.length with h | h
     · exact h
     · rw [D8,F5 (by rw [hsz]; exact h)] at h3
       simp at h3
    exact ⟨hlt,by rw [nc (by rw [hsz]; omega)]; exact h3⟩
  · have hlt:j<l.length:=by
     have:=(B9.1 hj).1;simp at this; omega
    rw [D2 hlt] at hj;rw [nc (by rw [nb]; exact he)] at hb
    obtain ⟨e,h1,h2,h3⟩:=ih l j o hln hj hb;exact ⟨e,h1,h2,h3.imp id fun ⟨h3,h4⟩=>⟨h3,by rw [nc (by rw [nb]; omega)]; exact h4⟩⟩
theorem yu {i j:Nat} {o:Oper} (ho:ops[j]?=some o) (h:((Region.before ops).getD j 0).testBit i=true):∃ e∈o.after,Region.binds .any e=true/\(e.on=i\/(e.on<j/\((Region.before ops).getD e.on 0).testBit i=true)):=by
 rw [wt] at h ⊢;exact Di _ _ j o rfl (by simpa using ho) h
def Lo (ops:Array Oper) (listed:Array Bool):Prop:=∀ j o,ops[j]?=some o->listed.getD j true=true->∀ e∈o.after,Region.binds .any e=true->listed.getD e.on false=true
theorem rz {listed:Array Bool} (hsz:listed.size=ops.size) (hc:Lo ops listed) {i:Nat}:∀ (n j:Nat) (o:Oper),j<n->ops[j]?=some o->(∀ e∈o.after,Region.binds .any e=true->listed.getD e.on false=true) →
 ((Region.before ops).getD j 0).testBit i=true->listed.getD i false=true
 | 0,j,o,hn,_,_,_=>absurd hn (by omega)
 | n+1,j,o,hn,ho,hr,hb=>by
  obtain ⟨e,h1,h2,h3⟩:=yu ho hb;rcases h3 with rfl | ⟨h3,h4⟩
  · exact hr e h1 h2
  · have hl:=hr e h1 h2
    have hlt:e.on<listed.size:=by
     rcases N8 e.on listed.size with h | h
     · exact h
     · simp [D8,F5 h] at hl
    have ho':∃ o',ops[e.on]?=some o':=by rw [F2 (by omega)]; exact ⟨_,rfl⟩
    obtain ⟨o',ho'⟩:=ho';refine rz hsz hc n e.on o' (by omega) ho' (hc e.on o' ho' ?_) h4
    simp only [D8,F2 hlt,K2] at hl ⊢;exact hl
theorem Dj {listed:Array Bool} {i j:Nat} (d:Bool) (h:i<listed.size):(listed.setIfInBounds i true).getD j d=if i=j then true else listed.getD j d:=by
 by_cases e:i=j
 · subst e; simp [h]
 · rw [H6 e,getD_set_ne d e]
theorem Dk {Q:Exit->Act->World->Prop} {st':St} (hop:∀ o,OpS E X call key o) (hQ:∀ G a w,Rel E G st' a w->Fix X G->st'.n=E.nt->Q .normal a w) :
 ∀ (n:Nat) (tr:List Fp) {st:St} {G:Gh} {a:Act} {w:World} {listed:Array Bool},tr.length=n->Tr E.H call key ops tr st st'->Rel E G st a w->Fix X G->st.n=E.nt->tr.Pairwise (AP ops)->(∀ p∈tr,Ord ops p)->(tr.map (·.ix)).Nodup →
  listed.size=ops.size->Lo ops listed->(∀ j,(∃ p∈tr,p.ix=j)↔listed.getD j true=false)->wpAny E.P .any ops Q n listed a w
 | 0,tr,st,G,a,w,listed,hlen,ht,h,hX,hn,hp,ho,hnd,hsz,hc,hl=>by
  obtain rfl:=D4.1 hlen;cases ht with
  | nil =>
   refine ⟨List.eq_nil_iff_forall_not_mem.2 fun j hj=>?_,hQ G a w h hX hn⟩
   obtain ⟨h1,_⟩:=mem_ready.1 hj;obtain ⟨p,hp,_⟩:=(hl j).2 h1;simp at hp
 | n+1,tr,st,G,a,w,listed,hlen,ht,h,hX,hn,hp,ho,hnd,hsz,hc,hl=>by
  refine ⟨fun hr=>?_,fun i hi=>?_⟩
  · exfalso
    have key:∀ (n:Nat) (q:Fp),q∈tr->q.ix<n->False:=by
     intro n;induction n with
     | zero=>intro q _ h; omega
     | succ n ih =>
      intro q hq hqn;have hun:=(hl q.ix).1 ⟨q,hq,rfl⟩;have hlt:q.ix<ops.size:=by
       rcases N8 q.ix ops.size with h | h
       · exact h
       · simp [D8,F5 (by rw [hsz]; exact h:listed.size<=q.ix)] at hun
      have hoq:ops[q.ix]?=some ops[q.ix]:=F2 hlt;have:q.ix∈Region.ready .any ops listed:=mem_ready.2 ⟨hun,ops[q.ix],hoq,fun e he hb=>by
       have hlt':=ho q hq _ hoq e he hb;cases hle:listed.getD e.on false with
       | true=>rfl
       | false =>
        exfalso
        have hle':listed.getD e.on true=false:=by
         have:e.on<listed.size:=by omega
         simp only [D8,F2 this,K2] at hle ⊢;exact hle
        obtain ⟨p',hp',e'⟩:=(hl e.on).2 hle';exact ih p' hp' (by omega)⟩
      rw [hr] at this;simp at this
    obtain ⟨p0,hp0⟩:∃ p0,p0∈tr:=by
     cases tr with
     | nil=>simp at hlen
     | cons p0 tr=>exact ⟨p0,B5 ..⟩
    exact key (p0.ix+1) p0 hp0 (by omega)
  · obtain ⟨hun,o,hoi,hall⟩:=mem_ready.1 hi
    obtain ⟨q,hq,rfl⟩:=(hl i).2 hun;obtain ⟨pre,post,hpp⟩:=List.append_of_mem hq;rw [hpp] at ht hp ho hnd hl hlen;have hlt:q.ix<listed.size:=by
     rcases N8 q.ix listed.size with h | h
     · exact h
     · simp [D8,F5 h] at hun
    have hap:∀ p∈pre,Ap ops p q:=fun p hpm=>by
     rcases (List.pairwise_append.1 hp).2.2 p hpm q (B5 ..) with h1 | h1
     · exfalso
       have h2:=rz hsz hc (q.ix+1) q.ix o (by omega) hoi hall h1
       have h3:=(hl p.ix).1 ⟨p,J0 _ hpm,rfl⟩;rcases N8 p.ix listed.size with h | h
       · simp only [D8,F2 h,K2] at h2 h3
         rw [h2] at h3; simp at h3
       · simp [D8,F5 h] at h3
     · exact h1
    have hnd':∀ p∈pre++post,p.ix≠q.ix:=fun p hpm e=>by
     rw [List.map_append,C0,C7] at hnd;obtain ⟨_,h2,h3⟩:=hnd;rcases B8.1 hpm with hpm | hpm
     · exact h3 p.ix (D0.2 ⟨p,hpm,rfl⟩) q.ix (B5 ..) e
     · exact (C4.1 h2).1 (e▸D0.2 ⟨p,hpm,rfl⟩)
    have hsub:(pre++post).Sublist (pre++q::post):=List.Sublist.append (List.Sublist.refl _) (List.sublist_cons_self ..);cases ht.front hap with
    | cons k1 k2 =>
     refine k1.wp hop h hX hn fun G' a' w' h' hX'=>?_
     have hl0:(pre++post).length=n:=by simp at hlen ⊢; omega
     refine Dk hop hQ n (pre++post) hl0 k2 h' hX' ?_ (hp.sublist hsub) (fun p hpm=>ho p (hsub.subset hpm)) (List.Sublist.nodup (hsub.map _) hnd) (by simpa using hsz) ?_ ?_
     · obtain ⟨_,_,_,_,rfl,_⟩:=k1
       exact (qh ..).trans hn
     · intro j o' hj hlj e he hb
       by_cases hjq:q.ix=j
       · subst hjq
         obtain rfl:o=o':=by rw [hoi] at hj; simpa using hj
         exact getD_set_true (hall e he hb)
       · rw [getD_set_ne true hjq] at hlj
         exact getD_set_true (hc j o' hj hlj e he hb)
     · intro j
       rw [Dj true hlt];by_cases hjq:q.ix=j
       · rw [H5 hjq]
         simp only [Bool.true_eq_false,iff_false]
         rintro ⟨p,hpm,e⟩
         exact hnd' p hpm (e.trans hjq.symm)
       · rw [H6 hjq,<- hl j]
         constructor
         · rintro ⟨p,hpm,e⟩
           exact ⟨p,hsub.subset hpm,e⟩
         · rintro ⟨p,hpm,e⟩
           refine ⟨p,?_,e⟩;rcases B8.1 hpm with h1 | h1
           · exact J0 _ h1
           · rcases C1.1 h1 with rfl | h1
             · exact absurd e hjq
             · exact List.mem_append_right _ h1
theorem Ns {f v:Nat} (hm:E.P.follows .mixedOrders=true) (hop:∀ o,OpS E X call key o):wn E X call key:=by
 intro id ops G st a w k r Q h hX hn hr hQ;obtain ⟨tr,st',t1,t2,t3,_,t5,t6⟩:=ry ops.toList 0 rfl hr;have hlen:tr.length=ops.size:=by
  have:=congrArg List.length t3;simpa using this
 refine wp_region_any hm ?_;have h':Rel E G st a { w with drawn:=w.drawn+1 }:=h.below ⟨rfl,rfl,rfl,D1 _,fun _ _=>rfl⟩ (fun b h1 h2=>absurd h1 (Nat.not_le_of_lt h2))
 refine Dk hop (fun G a w h hX hn=>hQ G st' a w h hX hn t2) ops.size tr hlen t1 h' hX hn t5 t6 ?_ (by simp) ?_ ?_
 · rw [t3]; exact List.nodup_range'
 · intro j o hj hlj
   exfalso
   have:=(E5.1 hj).1;simp [D8,this] at hlj
 · intro j
   have hmem:(∃ p∈tr,p.ix=j)↔j∈tr.map (·.ix):=by simp
   rw [hmem,t3,List.mem_range'];simp only [D8];constructor
   · rintro ⟨i,h1,rfl⟩
     simp at h1;simp [h1]
   · intro h1
     by_cases hj:j<ops.size
     · exact ⟨j,by simpa using hj,by simp⟩
     · simp [hj] at h1
end
end Go.Q
end
section
namespace Go.Q
open Go
open Go.RowKit (Below)
mutual
theorem zp (mp mp':Nat->Nat) (r:List D):∀ (sh:Sh) (n:Nat),(unV mp r sh n).2=(unV mp' r sh n).2
 | .int k,n=>rfl
 | .bool,n=>rfl
 | .tt,n=>rfl
 | .ff,n=>rfl
 | .str,n=>rfl
 | .im e,n=>rfl
 | .hd c,n=>rfl
 | .bp c off,n=>rfl
 | .bq c off,n=>rfl
 | .fn f cs,n=>by simp only [unV]; exact jj mp mp' r cs n
 | .agg cs,n=>by simp only [unV]; exact jj mp mp' r cs n
 | .nilp,n=>rfl
 | .nils,n=>rfl
 | .err,n=>rfl
 | .dead,n=>rfl
theorem jj (mp mp':Nat->Nat) (r:List D):∀ (shs:List Sh) (n:Nat),(ar mp r shs n).2=(ar mp' r shs n).2
 | [],n=>rfl
 | h::hs,n=>by simp only [ar]; rw [zp mp mp' r h n]; exact jj mp mp' r hs _
end
mutual
theorem VR.ren {H:Tab} {G G':Gh} {w:World} {mp:Nat->Nat} {r:List D}:∀ (sh:Sh) (n:Nat) (u:Value),(∀ c∈sh.refs,G'.U (mp c)/\G'.hv (mp c)=G.hv c/\G'.bm (mp c)=G.bm c) →
 (sh.escs H.ty=true->∀ b o,G.F b o->G'.F b o)->VR H G w (unV (fun c=>c) r sh n).1 u->VR H G' w (unV mp r sh n).1 u
 | .int k,n,u,hc,hF,h=>by simpa only [unV,VR] using h
 | .bool,n,u,hc,hF,h=>by simpa only [unV,VR] using h
 | .tt,n,u,hc,hF,h=>by simpa only [unV,VR] using h
 | .ff,n,u,hc,hF,h=>by simpa only [unV,VR] using h
 | .str,n,u,hc,hF,h=>by simpa only [unV,VR] using h
 | .im e,n,u,hc,hF,h=>by
  simp only [unV,VR] at h ⊢;obtain ⟨B,h⟩:=h;exact ⟨B,RC.mono _ _ _ _ (fun b _ q hq=>⟨hF (by simp [Sh.escs]) b q hq,rfl⟩) h⟩
 | .hd c,n,u,hc,hF,h=>by
  simp only [unV,VR] at h ⊢;obtain ⟨k1,k2,k3⟩:=hc c (by simp [Sh.refs])
  exact ⟨k1,by rw [k2]; exact h.2⟩
 | .bp c off,n,u,hc,hF,h=>by
  simp only [unV,VR] at h ⊢;obtain ⟨k1,k2,k3⟩:=hc c (by simp [Sh.refs])
  exact ⟨k1,by rw [k3]; exact h.2⟩
 | .bq c off,n,u,hc,hF,h=>by
  simp only [unV,VR] at h ⊢;obtain ⟨k1,k2,k3⟩:=hc c (by simp [Sh.refs])
  exact h.imp_right fun h=>⟨k1,by rw [k3]; exact h.2⟩
 | .fn f cs,n,u,hc,hF,h=>by
  simp only [unV,VR] at h ⊢;obtain ⟨vs,h1,h2⟩:=h;exact ⟨vs,h1,VRL.ren cs n vs (by simpa only [Sh.refs] using hc) (by simpa only [Sh.escs] using hF) h2⟩
 | .agg cs,n,u,hc,hF,h=>by
  simp only [unV,VR] at h ⊢;obtain ⟨vs,h1,h2,h3⟩:=h;exact ⟨vs,h1,VRL.ren cs n vs (by simpa only [Sh.refs] using hc) (by simpa only [Sh.escs] using hF) h2,h3⟩
 | .nilp,n,u,hc,hF,h=>by simpa only [unV,VR] using h
 | .nils,n,u,hc,hF,h=>by simpa only [unV,VR] using h
 | .err,n,u,hc,hF,h=>by simpa only [unV,VR] using h
 | .dead,n,u,hc,hF,h=>by simp only [unV,VR]
theorem VRL.ren {H:Tab} {G G':Gh} {w:World} {mp:Nat->Nat} {r:List D}:∀ (shs:List Sh) (n:Nat) (us:List Value),(∀ c∈Sh.refsL shs,G'.U (mp c)/\G'.hv (mp c)=G.hv c/\G'.bm (mp c)=G.bm c) →
 (Sh.escsL H.ty shs=true->∀ b o,G.F b o->G'.F b o)->VRL H G w (ar (fun c=>c) r shs n).1 us->VRL H G' w (ar mp r shs n).1 us
 | [],n,us,hc,hF,h=>by simpa only [ar,VRL] using h
 | x::xs,n,us,hc,hF,h=>by
  simp only [ar,VRL] at h ⊢;obtain ⟨u,us',h1,h2,h3⟩:=h;simp only [Sh.refsL,B8] at hc;simp only [Sh.escsL,K6] at hF;refine ⟨u,us',h1,VR.ren x n u (fun c hm=>hc c (.inl hm)) (fun he=>hF (.inl he)) h2,?_⟩
  rw [zp mp (fun c=>c) r x n]
  exact VRL.ren xs _ us' (fun c hm=>hc c (.inr hm)) (fun he=>hF (.inr he)) h3
end
theorem RL.anyF {H:Tab} {w:World} {F F':Fz}:∀ {ds:List D} {cts:List CT} {vs:List Value} {B:List Nat},Q.flat cts=true->RL H w F ds cts vs B->RL H w F' ds cts vs B
 | [],cts,vs,B,hf,h=>by simpa only [RL] using h
 | d::ds,cts,vs,B,hf,h=>by
  simp only [RL] at h ⊢;obtain ⟨ct,cts',u,us,B1,B2,rfl,h2,h3,h4,h5⟩:=h;simp only [Q.flat,O0,B4,C5] at hf;refine ⟨ct,cts',u,us,B1,B2,rfl,h2,h3,?_,RL.anyF (by simpa [Q.flat] using hf.2) h5⟩
  cases d with
  | sl rows =>
   simp only [RC] at h4;obtain ⟨e,ti,A,cap,rfl,_⟩:=h4;simp [Ce] at hf
  | _=>simpa only [RC] using h4
theorem af.anyF {H:Tab} {w:World} {F F':Fz} {lay:List CT} (hf:Q.flat lay=true):∀ {rs:List (List D)} {vs:List Value} {B:List Nat},af H w F rs lay vs B->af H w F' rs lay vs B
 | [],vs,B,h=>by simpa only [af] using h
 | r::rs,vs,B,h=>by
  simp only [af] at h ⊢;obtain ⟨v1,v2,B1,B2,h1,h2,h3,h4⟩:=h;exact ⟨v1,v2,B1,B2,h1,h2,h3.anyF hf,af.anyF hf h4⟩
inductive ObR (mp:Nat->Nat) (r:List D) (osh:OSh) (v:Nat):Obj->Obj->Prop
 | box {shs:List Sh} {m:Nat}:osh=.box shs->ObR mp r osh v (.box (ar (fun c=>c) r shs m).1) (.box (ar mp r shs m).1)
 | arr {e:TypeId} {lv:Lv} {rows:ak}:osh=.arr e lv->ObR mp r osh v (.arr e lv 0 rows none) (.arr e lv v rows none)
theorem ju {mp:Nat->Nat} {ver:Nat->Nat} {r:List D}:∀ (objs:List (Nat×OSh)) (n:Nat) (c:Nat) (ob':Obj),(c,ob')∈unO mp ver r objs n →
 ∃ ob osh,(c,ob)∈unO (fun c=>c) (fun _=>0) r objs n/\(c,osh)∈objs/\ObR mp r osh (ver c) ob ob'
 | [],n,c,ob',h=>by simp [unO] at h
 | (c0,.box shs)::os,n,c,ob',h=>by
  simp only [unO,C1] at h;rcases h with h | h
  · simp only [C8.injEq] at h
    obtain ⟨rfl,rfl⟩:=h;exact ⟨_,.box shs,by simp [unO],B5 ..,.box rfl⟩
  · rw [jj mp (fun c=>c) r shs n] at h
    obtain ⟨ob,osh,k1,k2,k3⟩:=ju os _ c ob' h;exact ⟨ob,osh,by simp only [unO]; exact B6 _ k1,B6 _ k2,k3⟩
 | (c0,.arr e lv)::os,n,c,ob',h=>by
  simp only [unO,C1] at h;rcases h with h | h
  · simp only [C8.injEq] at h
    obtain ⟨rfl,rfl⟩:=h;exact ⟨_,.arr e lv,by simp [unO],B5 ..,.arr rfl⟩
  · obtain ⟨ob,osh,k1,k2,k3⟩:=ju os _ c ob' h
    exact ⟨ob,osh,by simp only [unO]; exact B6 _ k1,B6 _ k2,k3⟩
theorem jk (mp ver:Nat->Nat) (r:List D):∀ (objs:List (Nat×OSh)) (n:Nat),(unO mp ver r objs n).map (·.1)=objs.map (·.1)
 | [],n=>rfl
 | (c,.box shs)::os,n=>by simp only [unO,C0,jk mp ver r os]
 | (c,.arr e lv)::os,n=>by simp only [unO,C0,jk mp ver r os]
def cw (sg:List (Nat×Tgt)) (c:Nat):Prop:=∀ j,ai sg c≠some (.obj j)
theorem mc {dst:Option Tmp} {sg:List (Nat×Tgt)}:∀ {l:List (Nat×Obj)} {j:Nat} {x:Option Obj},(j,x)∈news dst sg l↔∃ c ob,(c,ob)∈l/\cw sg c/\j=aw dst c/\x=some ob
 | [],j,x=>by simp [news]
 | (c,ob)::r,j,x=>by
  have ih:=mc (dst:=dst) (sg:=sg) (l:=r) (j:=j) (x:=x);have new:cw sg c->((j,x)∈(aw dst c,some ob)::news dst sg r↔∃ c' ob',(c',ob')∈(c,ob)::r/\cw sg c'/\j=aw dst c'/\x=some ob'):=fun hn=>by
   rw [C1,ih];constructor
   · rintro (h | ⟨c',ob',h1,h2⟩)
     · simp only [C8.injEq] at h
       exact ⟨c,ob,B5 ..,hn,h.1,h.2⟩
     · exact ⟨c',ob',B6 _ h1,h2⟩
   · rintro ⟨c',ob',h1,h2,h3,h4⟩
     rcases C1.1 h1 with h1 | h1
     · simp only [C8.injEq] at h1
       obtain ⟨rfl,rfl⟩:=h1;exact .inl (by rw [h3,h4])
     · exact .inr ⟨c',ob',h1,h2,h3,h4⟩
  simp only [news];split
  · rename_i hl; exact new fun j' e=>by rw [hl] at e; simp at e
  · rename_i hl; exact new fun j' e=>by rw [hl] at e; simp at e
  · rename_i t hne hl
    obtain ⟨j',hj'⟩:∃ j',ai sg c=some (.obj j'):=by
     cases t with
     | obj j'=>exact ⟨j',hl⟩
     | new=>exact absurd rfl hne
    rw [ih];constructor
    · rintro ⟨c',ob',h1,h2⟩
      exact ⟨c',ob',B6 _ h1,h2⟩
    · rintro ⟨c',ob',h1,h2,h3⟩
      rcases C1.1 h1 with h1 | h1
      · simp only [C8.injEq] at h1
        obtain ⟨rfl,rfl⟩:=h1;exact absurd hj' (h2 j')
      · exact ⟨c',ob',h1,h2,h3⟩
theorem wu {dst:Option Tmp} {sg:List (Nat×Tgt)}:∀ {l:List (Nat×Obj)},((news dst sg l).map (·.1)).Nodup->∀ {c c':Nat} {ob ob':Obj},(c,ob)∈l->(c',ob')∈l->cw sg c->cw sg c'->aw dst c=aw dst c'->c=c'
 | [],_,c,c',ob,ob',h,h',hn,hn',he=>by simp at h
 | (c0,ob0)::r,hnd,c,c',ob,ob',h,h',hn,hn',he=>by
  have hr:((news dst sg r).map (·.1)).Nodup:=by
   simp only [news] at hnd;split at hnd
   · exact (C4.1 hnd).2
   · exact (C4.1 hnd).2
   · exact hnd
  have hd:cw sg c0->∀ c1 ob1,(c1,ob1)∈r->cw sg c1->aw dst c0=aw dst c1->False:=fun h0 c1 ob1 h1 h2 h3=>by
   have hn1:aw dst c0∉(news dst sg r).map (·.1):=by
    simp only [news] at hnd;split at hnd
    · exact (C4.1 hnd).1
    · exact (C4.1 hnd).1
    · rename_i t hne hl
      cases t with
      | obj j'=>exact absurd hl (h0 j')
      | new=>exact absurd rfl hne
   exact hn1 (D0.2 ⟨(aw dst c0,some ob1),mc.2 ⟨c1,ob1,h1,h2,h3,rfl⟩,rfl⟩)
  rcases C1.1 h with h1 | h1 <;> rcases C1.1 h' with h2 | h2
  · simp only [C8.injEq] at h1 h2; rw [h1.1,h2.1]
  · simp only [C8.injEq] at h1; rw [h1.1] at hn he; exact (hd hn c' ob' h2 hn' he).elim
  · simp only [C8.injEq] at h2; rw [h2.1] at hn' he; exact (hd hn' c ob h1 hn he.symm).elim
  · exact wu hr h1 h2 hn hn' he
theorem md {j:Nat} {x:Option Obj}:∀ {l:List (Nat×Option Obj)} {st:St},(l.map (·.1)).Nodup->(j,x)∈l->(st.upd l).o j=x
 | [],st,_,h=>by simp at h
 | (i,y)::r,st,hn,h=>by
  simp only [C0,C4] at hn;simp only [St.upd];rcases C1.1 h with h | h
  · simp only [C8.injEq] at h
    obtain ⟨rfl,rfl⟩:=h;rw [aq _ _ hn.1];exact ae ..
  · exact md hn.2 h
theorem kw {call:Key->List D->R} {st:St} {dst:Option Tmp} {objs:List (Nat×Obj)}:∀ {sg:List (Nat×Tgt)} {u:List (Nat×Option Obj)},ah call st (pk dst objs sg)=some u →
 u.map (·.1)=sg.flatMap (fun p=>cu p.2)/\∀ j x,(j,x)∈u->∃ c,(c,Tgt.obj j)∈sg/\((ai objs c=none/\x=none)\/(∃ cs,ai objs c=some (.box cs)/\x=some (.box cs)) ∨
  ∃ e lv v rows ov e' lv' ver rows' ov',ai objs c=some (.arr e lv v rows ov)/\st.o j=some (.arr e' lv' ver rows' ov')/\x=some (.arr e lv ver.succ rows ov))
 | [],u,h=>by
  simp only [pk,ab] at h;subst h;exact ⟨rfl,fun j x h=>by simp at h⟩
 | (c,.new)::r,u,h=>by
  simp only [pk] at h;obtain ⟨k1,k2⟩:=kw h;refine ⟨by simpa [cu] using k1,fun j x hm=>?_⟩
  obtain ⟨c',k3,k4⟩:=k2 j x hm;exact ⟨c',B6 _ k3,k4⟩
 | (c,.obj j0)::r,u,h=>by
  simp only [pk,run_bind] at h;obtain ⟨u',h1,h2⟩:=h;obtain ⟨k1,k2⟩:=kw h1;have fin:∀ {x0:Option Obj},u=(j0,x0)::u'->((ai objs c=none/\x0=none)\/(∃ cs,ai objs c=some (.box cs)/\x0=some (.box cs)) ∨
   ∃ e lv v rows ov e' lv' ver rows' ov',ai objs c=some (.arr e lv v rows ov)/\st.o j0=some (.arr e' lv' ver rows' ov')/\x0=some (.arr e lv ver.succ rows ov)) →
    u.map (·.1)=((c,Tgt.obj j0)::r).flatMap (fun p=>cu p.2)/\∀ j x,(j,x)∈u->∃ c',(c',Tgt.obj j)∈(c,Tgt.obj j0)::r/\((ai objs c'=none/\x=none)\/(∃ cs,ai objs c'=some (.box cs)/\x=some (.box cs)) ∨
   ∃ e lv v rows ov e' lv' ver rows' ov',ai objs c'=some (.arr e lv v rows ov)/\st.o j=some (.arr e' lv' ver rows' ov')/\x=some (.arr e lv ver.succ rows ov)):=by
   rintro x0 rfl hx
   refine ⟨by simp [cu,k1],fun j x hm=>?_⟩
   rcases C1.1 hm with hm | hm
   · simp only [C8.injEq] at hm
     obtain ⟨rfl,rfl⟩:=hm;exact ⟨c,B5 ..,hx⟩
   · obtain ⟨c',k3,k4⟩:=k2 j x hm
     exact ⟨c',B6 _ k3,k4⟩
  split at h2
  · rename_i e lv v rows ov hl
    simp only [ax] at h2;split at h2
    · rename_i e' lv' ver rows' ov' ho
      simp only [ab] at h2;exact fin h2.symm (.inr (.inr ⟨e,lv,v,rows,ov,e',lv',ver,rows',ov',hl,ho,rfl⟩))
    · simp [aa] at h2
  · rename_i ob hl
    simp only [ab] at h2;refine fin h2.symm ?_;cases hq:ai objs c with
    | none=>exact .inl ⟨rfl,rfl⟩
    | some x =>
     cases x with
     | box cs=>exact .inr (.inl ⟨cs,rfl,rfl⟩)
     | arr e lv v rows ov=>exact absurd hq (hl e lv v rows ov)
theorem me {call:Key->List D->R} {st:St}:∀ {l:List Nat} {z:List (Nat×Option Obj)},ah call st (lb l)=some z →
 (∀ j x,(j,x)∈z->j∈l/\∃ e lv ver rows,st.o j=some (.arr e lv ver rows none)/\x=some (.arr e .ap ver rows none))/\∀ j∈l,j∈z.map (·.1)
 | [],z,h=>by
  simp only [lb,ab] at h;subst h;exact ⟨fun j x h=>by simp at h,fun j h=>by simp at h⟩
 | j::r,z,h=>by
  simp only [lb,run_bind,ax] at h;obtain ⟨u,h1,h2⟩:=h;obtain ⟨k1,k2⟩:=me h1;split at h2
  · rename_i e lv ver rows ho
    simp only [ab] at h2;subst h2;refine ⟨fun i x hm=>?_,fun i hi=>?_⟩
    · rcases C1.1 hm with hm | hm
      · simp only [C8.injEq] at hm
        obtain ⟨rfl,rfl⟩:=hm;exact ⟨B5 ..,e,lv,ver,rows,ho,rfl⟩
      · obtain ⟨k3,k4⟩:=k1 i x hm
        exact ⟨B6 _ k3,k4⟩
    · rcases C1.1 hi with rfl | hi
      · simp
      · exact B6 _ (k2 i hi)
  · simp [aa] at h2
end Go.Q
end
section
namespace Go.Q
open Go
open Go.RowKit (Below)
def eh (dst:Option Tmp) (sg:List (Nat×Tgt)):Nat->Nat:=fun c=>match ai sg c with | some (.obj j)=>j | _=>aw dst c
theorem gt {dst:Option Tmp} {sg:List (Nat×Tgt)} {c j:Nat} (h:ai sg c=some (.obj j)):eh dst sg c=j:=by simp only [eh,h]
theorem mf {dst:Option Tmp} {sg:List (Nat×Tgt)} {c:Nat} (h:cw sg c):eh dst sg c=aw dst c:=by
 unfold eh;cases hl:ai sg c with
 | none=>rfl
 | some t=>cases t with
  | obj j=>exact absurd hl (h j)
  | new=>rfl
theorem Hq (sg:List (Nat×Tgt)) (c:Nat):(∃ j,ai sg c=some (.obj j))\/cw sg c:=by
 by_cases h:∃ j,ai sg c=some (.obj j)
 · exact .inl h
 · exact .inr fun j e=>h ⟨j,e⟩
def Dl (sg:List (Nat×Tgt)) (st:St) (G:Gh) (b:Nat):Prop:=∃ c j ob,ai sg c=some (.obj j)/\st.o j=some ob/\G.blk j b
open Classical in
noncomputable def qm (sg:List (Nat×Tgt)) (j:Nat):Option Nat:=if h:∃ c,ai sg c=some (.obj j) then some h.choose else none
open Classical in
noncomputable def iv (dst:Option Tmp) (sg:List (Nat×Tgt)) (ks:List Nat) (j:Nat):Option Nat:=if h:∃ c,c∈ks/\cw sg c/\aw dst c=j then some h.choose else none
theorem ut {mp:Nat->Nat} {r:List D} {v:Nat} {c:Nat} {e:TypeId} {lv:Lv} {rows:ak}:∀ (os:List (Nat×OSh)) (n:Nat),(c,Obj.arr e lv 0 rows none)∈unO mp (fun _=>0) r os n->(c,Obj.arr e lv v rows none)∈unO mp (fun _=>v) r os n
 | [],n,h=>by simp [unO] at h
 | (c0,.box shs)::os,n,h=>by
  simp only [unO,C1,C8.injEq] at h ⊢;rcases h with ⟨_,h⟩ | h
  · simp at h
  · exact .inr (ut os _ h)
 | (c0,.arr e' lv')::os,n,h=>by
  simp only [unO,C1,C8.injEq,Obj.arr.injEq] at h ⊢;rcases h with ⟨h1,h2,h3,_,h4,_⟩ | h
  · exact .inl ⟨h1,h2,h3,trivial,h4,trivial⟩
  · exact .inr (ut os _ h)
noncomputable def ghB (Gb Gr:Gh) (F3:Fz) (hF:F3≠br) (dst:Option Tmp) (sg:List (Nat×Tgt)) (ks:List Nat):Gh where
 F:=F3
 nA:=hF
 U j:=Gb.U j\/(iv dst sg ks j).isSome=true
 bm j:=match iv dst sg ks j with | some c=>Gr.bm c | none=>Gb.bm j
 hv j:=match iv dst sg ks j with | some c=>Gr.hv c | none=>Gb.hv j
 ly j:=match iv dst sg ks j with | some c=>Gr.ly c | none=>Gb.ly j
 blk j:=match iv dst sg ks j with | some c=>Gr.blk c | none=>match qm sg j with | some c=>Gr.blk c | none=>Gb.blk j
 nh j v:=match iv dst sg ks j with | some c=>Gr.nh c v | none=>match qm sg j with | some c=>if v<=Gb.vm j then Gb.nh j v else Gr.nh c 0 | none=>Gb.nh j v
 pv j v:=match iv dst sg ks j with | some c=>Gr.pv c v | none=>Gb.pv j v
 vm j:=match iv dst sg ks j with | some c=>Gr.vm c | none=>match qm sg j with | some c=>(Gb.vm j).succ | none=>Gb.vm j
theorem kx {sg:List (Nat×Tgt)} (hsn:(sg.flatMap fun p=>cu p.2).Nodup) {c j:Nat} (h:ai sg c=some (.obj j)):qm sg j=some c:=by
 unfold qm;have hex:∃ c,ai sg c=some (.obj j):=⟨c,h⟩;rw [dif_pos hex];exact congrArg some (mz hsn (al hex.choose_spec) (al h))
theorem yv {sg:List (Nat×Tgt)} {j:Nat} (h:∀ c,ai sg c≠some (.obj j)):qm sg j=none:=by
 unfold qm;rw [dif_neg fun ⟨c,e⟩=>h c e]
theorem sa {dst:Option Tmp} {sg:List (Nat×Tgt)} {l:List (Nat×Obj)} (hnd:((news dst sg l).map (·.1)).Nodup) {c:Nat} (hc:c∈l.map (·.1)) (hn:cw sg c):iv dst sg (l.map (·.1)) (aw dst c)=some c:=by
 unfold iv;have hex:∃ c',c'∈l.map (·.1)/\cw sg c'/\aw dst c'=aw dst c:=⟨c,hc,hn,rfl⟩
 rw [dif_pos hex];obtain ⟨k1,k2,k3⟩:=hex.choose_spec;obtain ⟨⟨c1,ob1⟩,m1,e1⟩:=D0.1 k1;obtain ⟨⟨c2,ob2⟩,m2,e2⟩:=D0.1 hc;simp only at e1 e2;rw [<- e1] at k2 k3 ⊢;rw [<- e2] at hn k3 ⊢;exact congrArg some (wu hnd m1 m2 k2 hn k3)
theorem qn {dst:Option Tmp} {sg:List (Nat×Tgt)} {ks:List Nat} {j c:Nat} (h:iv dst sg ks j=some c):c∈ks/\cw sg c/\aw dst c=j:=by
 unfold iv at h;split at h
 · rename_i hex
   simp only [B7.injEq] at h;subst h;exact hex.choose_spec
 · simp at h
structure Nt (E:Env) (Gb:Gh) (stb:St) (w:World) (Gr:Gh) (w':World) (F3:Fz) (sg:List (Nat×Tgt)) (y:XS) (r:List D) (us:List Value):Prop where
 hsn:(sg.flatMap fun p=>cu p.2).Nodup
 hon:(y.objs.map (·.1)).Nodup
 refs:∀ c∈Sh.refsL (y.vals.map (·.2)),c∈y.objs.map (·.1)
 refo:∀ p∈y.objs,∀ c∈p.2.refs,c∈y.objs.map (·.1)
 hv:VRL E.H Gr w' (ar (fun c=>c) r (y.vals.map (·.2)) 0).1 us
 ho:∀ c ob,(c,ob)∈unO (fun c=>c) (fun _=>0) r y.objs (ar (fun c=>c) r (y.vals.map (·.2)) 0).2->Gr.U c/\OR E.H Gr w' c ob/\∀ b,Gr.blk c b->b<w'.heap.size/\(w.heap.size<=b\/Dl sg stb Gb b)
 hsep:∀ c c' ob ob' b,(c,ob)∈unO (fun c=>c) (fun _=>0) r y.objs (ar (fun c=>c) r (y.vals.map (·.2)) 0).2->(c',ob')∈unO (fun c=>c) (fun _=>0) r y.objs (ar (fun c=>c) r (y.vals.map (·.2)) 0).2 →
  Gr.blk c b->Gr.blk c' b->c=c'
 fix:∀ c j,ai sg c=some (.obj j)->c∈y.objs.map (·.1)->Gr.hv c=Gb.hv j/\Gr.bm c=Gb.bm j/\Gr.ly c=Gb.ly j
 lU:∀ c j,ai sg c=some (.obj j)->Gb.U j
 fle:∀ b o,F3 b o->Gr.F b o
 feq:y.escs E.H.ty=true->∀ b o,Gr.F b o->F3 b o
 fb:∀ b o,Gb.F b o->F3 b o
 fn:∀ b o,F3 b o->Gb.F b o\/w.heap.size<=b\/Dl sg stb Gb b
 fs:∀ b o,F3 b o->b<w'.heap.size
 cell:∀ b o,Gb.F b o->w'.cell? ⟨b,o,none⟩=w.cell? ⟨b,o,none⟩
 kept:∀ b,b<w.heap.size->¬ Dl sg stb Gb b->w'.heap[b]?=w.heap[b]?
 size:w.heap.size<=w'.heap.size
 plain:∀ c ob b,(c,ob)∈unO (fun c=>c) (fun _=>0) r y.objs (ar (fun c=>c) r (y.vals.map (·.2)) 0).2->Gr.blk c b->Pl w' b
 os:w'.os=w.os
 tape:w'.tape=w.tape
 out:w'.output=w.output
section
variable {E:Env} {Gb Gr:Gh} {stb:St} {a:Act} {w w':World} {F3:Fz} {sg:List (Nat×Tgt)} {y:XS} {r:List D} {us:List Value} {dst:Option Tmp} {u:List (Nat×Option Obj)}
theorem Hr (hb:Rel E Gb stb a w) (hc:Nt E Gb stb w Gr w' F3 sg y r us) {R:List (Nat×Obj)} (hR:R=unO (eh dst sg) (fun _=>0) r y.objs (ar (eh dst sg) r (y.vals.map (·.2)) 0).2)
 (hu1:u.map (·.1)=sg.flatMap fun p=>cu p.2)
 (hu2:∀ j x,(j,x)∈u->∃ c,ai sg c=some (.obj j)/\((ai R c=none/\x=none)\/(∃ cs,ai R c=some (.box cs)/\x=some (.box cs))\/∃ e lv v rows ov,ai R c=some (.arr e lv v rows ov)/\x=some (.arr e lv (Gb.vm j).succ rows ov)))
 (hnd:((news dst sg R).map (·.1)).Nodup) (hnu:∀ j∈(news dst sg R).map (·.1),stb.u j=false) (hmf:∀ c∈y.objs.map (·.1),fk c=true->fk (eh dst sg c)=true) :
 ∃ G3,Gb.le G3/\Rel E G3 ((stb.upd (u++news dst sg R)).mark ((news dst sg R).map (·.1))) a w'/\VRL E.H G3 w' (ar (eh dst sg) r (y.vals.map (·.2)) 0).1 us:=by
 have hkeys:R.map (·.1)=y.objs.map (·.1):=by rw [hR,jk]
 have hRn:(R.map (·.1)).Nodup:=hkeys▸hc.hon
 have hnew:∀ {c:Nat},c∈R.map (·.1)->cw sg c->aw dst c∈(news dst sg R).map (·.1):=fun hm hn=>by
  obtain ⟨⟨c,ob⟩,h1,rfl⟩:=D0.1 hm;exact D0.2 ⟨(aw dst c,some ob),mc.2 ⟨c,ob,h1,hn,rfl,rfl⟩,rfl⟩
 have hnU:∀ {c:Nat},c∈R.map (·.1)->cw sg c->¬ Gb.U (aw dst c):=fun hm hn hU=>by
  have:=hnu _ (hnew hm hn);rw [hb.used _ hU] at this;simp at this
 have hold:∀ {j:Nat},Gb.U j->iv dst sg (R.map (·.1)) j=none:=fun {j} hU=>by
  cases hq:iv dst sg (R.map (·.1)) j with
  | none=>rfl
  | some c =>
   obtain ⟨k1,k2,k3⟩:=qn hq;exact absurd (k3▸hU) (hnU k1 k2)
 let G3:=ghB Gb Gr F3 (Fz.nA hc.fs) dst sg (R.map (·.1))
 have hle:Gb.le G3:={
  U:=fun j h=>.inl h
  bm:=fun j h=>by simp only [G3,ghB,hold h]
  hv:=fun j h=>by simp only [G3,ghB,hold h]
  ly:=fun j h=>by simp only [G3,ghB,hold h]
  nh:=fun j v h hv=>by
   simp only [G3,ghB,hold h];split
   · rw [H5 hv]
   · rfl
  pv:=fun j v h hv=>by simp only [G3,ghB,hold h]
  vm:=fun j h=>by
   simp only [G3,ghB,hold h];split
   · exact Nat.le_succ _
   · exact D1 _ }
 -- an object that came back,under its number here
 have hres:∀ {c:Nat},c∈R.map (·.1)->G3.U (eh dst sg c)/\G3.bm (eh dst sg c)=Gr.bm c/\G3.hv (eh dst sg c)=Gr.hv c/\G3.ly (eh dst sg c)=Gr.ly c/\G3.blk (eh dst sg c)=Gr.blk c:=fun {c} hm=>by
  rcases Hq sg c with ⟨j,hj⟩ | hn
  · rw [gt hj]
    have hU:=hc.lU c j hj;obtain ⟨f1,f2,f3⟩:=hc.fix c j hj (hkeys▸hm);exact ⟨.inl hU,by rw [hle.bm j hU,f2],by rw [hle.hv j hU,f1],by rw [hle.ly j hU,f3],by simp only [G3,ghB,hold hU,kx hc.hsn hj]⟩
  · rw [mf hn]
    have:=sa hnd hm hn;refine ⟨.inr ?_,?_,?_,?_,?_⟩ <;> simp only [G3,ghB,this];rfl
 have hren:∀ c∈y.objs.map (·.1),G3.U (eh dst sg c)/\G3.hv (eh dst sg c)=Gr.hv c/\G3.bm (eh dst sg c)=Gr.bm c:=fun c hm=>by
  obtain ⟨k1,k2,k3,_,_⟩:=hres (hkeys▸hm);exact ⟨k1,k3,k2⟩
 have hsnd:(ar (eh dst sg) r (y.vals.map (·.2)) 0).2=(ar (fun c=>c) r (y.vals.map (·.2)) 0).2:=jj _ _ _ _ _
 -- its contents
 have hor:∀ {c:Nat} {ob':Obj} {v:Nat},(c,ob')∈unO (eh dst sg) (fun _=>v) r y.objs (ar (fun c=>c) r (y.vals.map (·.2)) 0).2->(∀ e lv rows,ob'=.arr e lv v rows none->G3.vm (eh dst sg c)=v/\G3.nh (eh dst sg c) v=Gr.nh c 0) →
  OR E.H G3 w' (eh dst sg c) ob':=fun {c ob' v} hm hv=>by
  obtain ⟨ob,osh,m1,m2,m3⟩:=ju _ _ _ _ hm;have hmk:c∈y.objs.map (·.1):=D0.2 ⟨_,m2,rfl⟩
  obtain ⟨g1,g2,g3,g4,g5⟩:=hres (hkeys▸hmk);obtain ⟨o1,o2,o3⟩:=hc.ho c ob m1;have hesc:osh.escs E.H.ty=true->∀ b o,Gr.F b o->F3 b o:=fun he=>hc.feq (by
   simp only [XS.escs,K6,N5];exact .inr ⟨_,m2,he⟩)
  cases m3 with
  | box hs =>
   rename_i shs m;simp only [OR] at o2 ⊢;obtain ⟨p1,p2,vs,t,p3,p4,p5⟩:=o2;rw [g2,g5];refine ⟨p1,fun q hq=>p2 q (hc.fle _ _ hq),vs,t,p3,VRL.ren shs m vs (fun c' hc'=>hren c' (hc.refo _ m2 c' ?_)) ?_ p4,p5⟩
   · rw [hs]; exact hc'
   · intro he; exact hesc (by rw [hs]; exact he)
  | arr hs =>
   rename_i e lv rows;obtain ⟨v1,v2⟩:=hv e lv rows rfl;simp only [OR] at o2 ⊢;obtain ⟨ti,A,cap,p1,p2,p3,p4,p5,p6,p7⟩:=o2;rw [g2,g3,g4,g5];refine ⟨ti,A,cap,p1,p2,p3,v1,p5,p6,p7.imp (fun h=>⟨h.1.to (hmf c hmk),h.2⟩) fun ⟨o,cur,t,x1,x2,x3,x4,x5⟩=>⟨o,cur,t,x1,x2,x3,by have:=Cm (hmf c hmk) p6 ti.lay.length; omega,?_⟩⟩
   simp only [bj] at x5 ⊢;cases lv with
   | deep =>
    simp only [bc,g2,g5,v2] at x5 ⊢;obtain ⟨q1,q2,q3⟩:=x5;exact ⟨fun q hq=>q1 q (hc.fle _ _ hq),fun b hb q hq=>q2 b hb q (hc.fle _ _ hq),q3⟩
   | top =>
    simp only [bc,g2] at x5 ⊢;obtain ⟨q1,B,q2⟩:=x5;refine ⟨fun q hq=>q1 q (hc.fle _ _ hq),B,?_⟩
    cases hfl:Q.flat ti.lay with
    | true=>exact q2.anyF hfl
    | false =>
     have:osh.escs E.H.ty=true:=by rw [hs]; simp [OSh.escs,p1,hfl]
     exact af.mono _ _ _ _ (fun b _ q hq=>⟨hesc this b q hq,rfl⟩) q2
   | ap =>
    have:osh.escs E.H.ty=true:=by rw [hs]; simp [OSh.escs]
    simp only [bc,g2] at x5 ⊢;obtain ⟨q0,q1,B,q2⟩:=x5;exact ⟨fun q hq hf=>q0 q hq (hc.fle _ _ hf),q1.mono fun q hq=>⟨hesc this _ q hq,rfl⟩,B,af.mono _ _ _ _ (fun b _ q hq=>⟨hesc this b q hq,rfl⟩) q2⟩
 have hmem:∀ {c:Nat} {ob:Obj},(c,ob)∈R->ai R c=some ob:=fun hm=>ef hRn hm
 have hRm:∀ {c:Nat} {ob:Obj},(c,ob)∈R->(c,ob)∈unO (eh dst sg) (fun _=>0) r y.objs (ar (fun c=>c) r (y.vals.map (·.2)) 0).2:=fun hm=>by rwa [hR,hsnd] at hm
 -- what an object is after the call
 have hst:∀ {j:Nat} {ob':Obj},((stb.upd (u++news dst sg R)).mark ((news dst sg R).map (·.1))).o j=some ob' →
  (∃ c ob,(c,ob)∈unO (fun c=>c) (fun _=>0) r y.objs (ar (fun c=>c) r (y.vals.map (·.2)) 0).2/\j=eh dst sg c/\c∈R.map (·.1)/\OR E.H G3 w' j ob') ∨
  ((∀ c,ai sg c≠some (.obj j))/\iv dst sg (R.map (·.1)) j=none/\stb.o j=some ob'):=by
  intro j ob' hj;rw [(cq _ _).2.1,ba] at hj;by_cases hjn:j∈(news dst sg R).map (·.1)
  · obtain ⟨⟨j',x⟩,hm,rfl⟩:=D0.1 hjn
    rw [md hnd hm] at hj;obtain ⟨c,ob,m1,m2,m3,m4⟩:=mc.1 hm;rw [hj] at m4;simp only [B7.injEq] at m4;subst m4;have hck:c∈R.map (·.1):=D0.2 ⟨_,m1,rfl⟩
    obtain ⟨ob0,osh,k1,k2,k3⟩:=ju _ _ _ _ (hRm m1);refine .inl ⟨c,ob0,k1,by rw [mf m2]; exact m3,hck,?_⟩
    show OR E.H G3 w' j' _
    rw [m3,<- mf m2 (dst:=dst)];refine hor (v:=0) (hRm m1) fun e lv rows he=>?_
    rw [mf m2];have hnc:=sa hnd hck m2;refine ⟨?_,by simp only [G3,ghB,hnc]⟩
    have hvm:G3.vm (aw dst c)=Gr.vm c:=by simp only [G3,ghB,hnc]
    rw [hvm];obtain ⟨_,o2,_⟩:=hc.ho c ob0 k1;subst he;cases k3 with
    | arr hs=>simp only [OR] at o2; obtain ⟨_,_,_,_,_,_,p4,_⟩:=o2; exact p4
  · rw [aq _ _ hjn] at hj
    have hnc:iv dst sg (R.map (·.1)) j=none:=by
     cases hq:iv dst sg (R.map (·.1)) j with
     | none=>rfl
     | some c =>
      obtain ⟨k1,k2,k3⟩:=qn hq;exact absurd (k3▸hnew k1 k2) hjn
    by_cases hju:j∈u.map (·.1)
    · obtain ⟨⟨j',x⟩,hm,rfl⟩:=D0.1 hju
      rw [md (hu1▸hc.hsn) hm] at hj;obtain ⟨c,hcl,hx⟩:=hu2 _ _ hm;simp only at hj hcl hx hnc ⊢;subst hj;left;rcases hx with ⟨_,hx⟩|⟨cs,hx1,hx2⟩|⟨e,lv,v,rows,ov,hx1,hx2⟩
      · simp at hx
      · simp only [B7.injEq] at hx2
        subst hx2;have hm1:=al hx1;have hck:c∈R.map (·.1):=D0.2 ⟨_,hm1,rfl⟩
        obtain ⟨ob0,osh,k1,k2,k3⟩:=ju _ _ _ _ (hRm hm1);refine ⟨c,ob0,k1,(gt hcl).symm,hck,?_⟩;rw [<- gt hcl (dst:=dst)];exact hor (v:=0) (hRm hm1) fun e lv rows he=>by simp at he
      · simp only [B7.injEq] at hx2
        subst hx2;have hm1:=al hx1;have hck:c∈R.map (·.1):=D0.2 ⟨_,hm1,rfl⟩
        obtain ⟨ob0,osh,k1,k2,k3⟩:=ju _ _ _ _ (hRm hm1);refine ⟨c,ob0,k1,(gt hcl).symm,hck,?_⟩;cases k3 with
        | arr hs =>
         have hm2:(c,Obj.arr e lv (Gb.vm j').succ rows none)∈unO (eh dst sg) (fun _=>(Gb.vm j').succ) r y.objs (ar (fun c=>c) r (y.vals.map (·.2)) 0).2:=by
          exact ut _ _ (hRm hm1)
         have hU:=hc.lU c j' hcl;have:=hor (v:=(Gb.vm j').succ) hm2 fun e2 lv2 rows2 he2=>by
          rw [gt hcl];exact ⟨by simp only [G3,ghB,hold hU,kx hc.hsn hcl],by simp only [G3,ghB,hold hU,kx hc.hsn hcl]; rw [H6 (Nat.not_succ_le_self _)]⟩
         rwa [gt hcl] at this
    · rw [aq _ _ hju] at hj
      refine .inr ⟨fun c hcl=>hju ?_,hnc,hj⟩
      rw [hu1];exact E4.2 ⟨_,al hcl,by simp [cu]⟩
 have hoth:∀ {j:Nat},(∀ c,ai sg c≠some (.obj j))->iv dst sg (R.map (·.1)) j=none->G3.blk j=Gb.blk j/\G3.vm j=Gb.vm j:=fun h1 h2=>by
  simp only [G3,ghB,h2,yv h1]; exact ⟨trivial,trivial⟩
 have hlb:∀ {b:Nat},Dl sg stb Gb b->b<w.heap.size/\(E.w0.heap.size<=b\/E.lent b):=fun {b} ⟨c,j,ob,h1,h2,h3⟩=>hb.blk j ob b h2 h3
 -- what other objects own is not lent
 have hnl:∀ {j:Nat} {ob:Obj} {b:Nat},(∀ c,ai sg c≠some (.obj j))->stb.o j=some ob->Gb.blk j b->¬ Dl sg stb Gb b:=fun {j ob b} h1 h2 h3 ⟨c,j',ob',k1,k2,k3⟩=>by
  obtain rfl:=hb.sep j j' ob ob' b h2 k2 h3 k3;exact h1 c k1
 have hkept:∀ {j:Nat} {ob:Obj} {b:Nat},(∀ c,ai sg c≠some (.obj j))->stb.o j=some ob->Gb.blk j b->w'.heap[b]?=w.heap[b]?:=fun {j ob b} h1 h2 h3=>hc.kept b (hb.blk _ _ _ h2 h3).1 (hnl h1 h2 h3)
 refine ⟨G3,hle,?_,VRL.ren _ _ _ (fun c hm=>hren c (hc.refs c hm)) (fun he=>hc.feq (by
  simp only [XS.escs,K6,N5];left;have:∀ (l:List (Nat×Sh)),Sh.escsL E.H.ty (l.map (·.2))=true->∃ x∈l,x.2.escs E.H.ty=true:=fun l=>by
   induction l with
   | nil=>simp [Sh.escsL]
   | cons p l ih =>
    simp only [C0,Sh.escsL,K6]
    rintro (h | h)
    · exact ⟨p,B5 ..,h⟩
    · obtain ⟨x,hx,hx'⟩:=ih h; exact ⟨x,B6 _ hx,hx'⟩
  exact this _ he)) hc.hv⟩
 have hst_t:((stb.upd (u++news dst sg R)).mark ((news dst sg R).map (·.1))).t=stb.t:=(cq _ _).1.trans (co stb _ _).1
 exact {
  core:={
   fsz:=hc.fs
   f0:=fun b o h=>hc.fb b o (hb.core.f0 b o h)
   f1:=fun b o h=>by
    rcases hc.fn b o h with h | h | h
    · exact hb.core.f1 b o h
    · exact .inr (.inl (F4 hb.core.size h))
    · exact .inr (hlb h).2
   fc:=fun b o h=>(hc.cell b o (hb.core.f0 b o h)).trans (hb.core.fc b o h)
   kept:=fun b h1 h2=>(hc.kept b (D9 h1 hb.core.size) fun hl=>(hlb hl).2.elim (fun h=>by omega) h2).trans (hb.core.kept b h1 h2)
   size:=F4 hb.core.size hc.size
   os:=hc.os.trans hb.core.os
   tape:=hc.tape.trans hb.core.tape
   out:=hc.out.trans hb.core.out
   vars:=hb.core.vars }
  nt:=hb.nt
  dfs:=hb.dfs
  tmps:=fun t=>by
   rw [hst_t];exact VR.mono hle (fun b o hf=>⟨hc.fb b o hf,hc.cell b o hf⟩) _ _ (hb.tmps t)
  objs:=fun j ob' hj=>by
   rcases hst hj with ⟨c,ob,h1,rfl,h3,h4⟩|⟨h1,h2,h3⟩
   · exact ⟨(hres h3).1,h4⟩
   · obtain ⟨q1,q2⟩:=hb.objs j ob' h3
     obtain ⟨q3,q4⟩:=hoth h1 h2;refine ⟨.inl q1,q2.mono hle q1 (fun b o hf=>⟨hc.fb b o hf,hc.cell b o hf⟩) (fun b o hf=>?_) (fun b hbl=>hkept h1 h3 hbl) q3 q4⟩
     rcases hc.fn b o hf with hf | hf | hf
     · exact .inl hf
     · exact .inr fun hbl=>by have:=(hb.blk j ob' b h3 hbl).1; omega
     · exact .inr fun hbl=>hnl h1 h3 hbl hf
  blk:=fun j ob' b hj hbl=>by
   rcases hst hj with ⟨c,ob,h1,rfl,h3,h4⟩|⟨h1,h2,h3⟩
   · rw [(hres h3).2.2.2.2] at hbl
     obtain ⟨k1,k2⟩:=(hc.ho c ob h1).2.2 b hbl;exact ⟨k1,k2.elim (fun h=>.inl (F4 hb.core.size h)) fun h=>(hlb h).2⟩
   · rw [(hoth h1 h2).1] at hbl
     obtain ⟨k1,k2⟩:=hb.blk j ob' b h3 hbl;exact ⟨D9 k1 hc.size,k2⟩
  pl:=fun j ob' b hj hbl=>by
   rcases hst hj with ⟨c,ob,h1,rfl,h3,h4⟩|⟨h1,h2,h3⟩
   · rw [(hres h3).2.2.2.2] at hbl
     exact hc.plain c ob b h1 hbl
   · rw [(hoth h1 h2).1] at hbl
     unfold Pl;rw [hkept h1 h3 hbl];exact hb.pl j ob' b h3 hbl
  sep:=fun j j' ob ob' b hj hj' hbl hbl'=>by
   rcases hst hj with ⟨c,ob1,h1,rfl,h3,h4⟩|⟨h1,h2,h3⟩ <;> rcases hst hj' with ⟨c',ob1',h1',rfl,h3',h4'⟩|⟨h1',h2',h3'⟩
   · rw [(hres h3).2.2.2.2] at hbl
     rw [(hres h3').2.2.2.2] at hbl';rw [hc.hsep c c' ob1 ob1' b h1 h1' hbl hbl']
   · rw [(hres h3).2.2.2.2] at hbl
     rw [(hoth h1' h2').1] at hbl';rcases ((hc.ho c ob1 h1).2.2 b hbl).2 with h | h
     · have:=(hb.blk j' ob' b h3' hbl').1; omega
     · exact absurd h (hnl h1' h3' hbl')
   · rw [(hres h3').2.2.2.2] at hbl'
     rw [(hoth h1 h2).1] at hbl;rcases ((hc.ho c' ob1' h1').2.2 b hbl').2 with h | h
     · have:=(hb.blk j ob b h3 hbl).1; omega
     · exact absurd h (hnl h1 h3 hbl)
   · rw [(hoth h1 h2).1] at hbl
     rw [(hoth h1' h2').1] at hbl';exact hb.sep j j' ob ob' b h3 h3' hbl hbl'
  used:=fun j hj=>by
   rw [ku,(co stb _ _).2.1];rcases hj with hj | hj
   · rw [hb.used j hj,Bool.or_true]
   · obtain ⟨c,hc'⟩:=F6.1 hj
     obtain ⟨k1,k2,k3⟩:=qn hc';rw [(cx _ _).2 (k3▸hnew k1 k2),Bool.true_or] }
end
end Go.Q
end
section
namespace Go.Q
open Go
open Go.RowKit (Below)
def Lp (P:Program) (f:FuncId) (us:List Value) (w:World) (R:Value->World->Prop):Prop :=
 ∃ n w1,(callFunc f us.toArray).run P w=.ok n w1/\match n with
  | .value v=>R v w1
  | .enter g args=>Calls P g args w1 fun e w'=>match e with
   | .returned v=>R v w'
   | _=>False
  | _=>False
def qo:List Value->Value
 | [v]=>v
 | vs=>.tuple vs.toArray
theorem VR.tup_ {H:Tab} {G:Gh} {w:World} {vs:List Val} {us:List Value} (h:VRL H G w vs us):VR H G w (vo vs) (qo us):=by
 cases vs with
 | nil=>simp only [VRL] at h; subst h; simp only [vo,qo,VR]; exact ⟨[],rfl,by simp [VRL]⟩
 | cons x vs =>
  cases vs with
  | nil =>
   simp only [VRL] at h;obtain ⟨u,us',rfl,h1,rfl⟩:=h;exact h1
  | cons y vs =>
   obtain ⟨u,us',rfl,h1,h2⟩:=(by simpa only [VRL] using h:∃ u us',us=u::us'/\VR H G w x u/\∃ u_1 us_1,us'=u_1::us_1/\VR H G w y u_1/\VRL H G w vs us_1)
   obtain ⟨u',us'',rfl,h3,h4⟩:=h2;simp only [vo,qo,VR];exact ⟨_,rfl,h⟩
def mg (G:Gh) (ks:List Nat) (b:Nat):Prop:=∃ c∈ks,G.blk c b
structure In (H:Tab) (G:Gh) (w:World) (i:KI) (ls:List D) (us:List Value):Prop where
 vals:VRL H G w (ar (fun c=>c) ls (i.pars.map (·.2)) 0).1 us
 objs:∀ c ob,(c,ob)∈unO (fun c=>c) (fun _=>0) ls i.objs (ar (fun c=>c) ls (i.pars.map (·.2)) 0).2->G.U c/\OR H G w c ob/\∀ b,G.blk c b->b<w.heap.size
 sep:∀ c c' ob ob' b,(c,ob)∈unO (fun c=>c) (fun _=>0) ls i.objs (ar (fun c=>c) ls (i.pars.map (·.2)) 0).2->(c',ob')∈unO (fun c=>c) (fun _=>0) ls i.objs (ar (fun c=>c) ls (i.pars.map (·.2)) 0).2->G.blk c b->G.blk c' b->c=c'
 ids:∀ c,G.U c->c<64
 fsz:∀ b o,G.F b o->b<w.heap.size
 vars:∀ p∈H.gv,p.1<w.heap.size/\¬ mg G (i.objs.map (·.1)) p.1/\∃ cs t z,w.heap[p.1]?=some (.cells cs t z)/\p.2 cs
 plain:∀ b,mg G (i.objs.map (·.1)) b->∃ cur t,w.heap[b]?=some (.cells cur t (0,0))
def Out (P:Program) (H:Tab) (G:Gh) (w:World) (i:KI) (x:Nat×List D) (v:Value) (w':World):Prop :=
 ∃ y Gr us,i.xs[x.1]?=some y/\v=qo us/\gz ⟨P,H,0,w,G.F,mg G (i.objs.map (·.1))⟩ Gr w'/\Fix G Gr ∧
  VRL H Gr w' (ar (fun c=>c) x.2 (y.vals.map (·.2)) 0).1 us ∧
  (∀ c ob,(c,ob)∈unO (fun c=>c) (fun _=>0) x.2 y.objs (ar (fun c=>c) x.2 (y.vals.map (·.2)) 0).2->Gr.U c/\OR H Gr w' c ob/\∀ b,Gr.blk c b->b<w'.heap.size/\(w.heap.size<=b\/mg G (i.objs.map (·.1)) b)) ∧
  (∀ c ob b,(c,ob)∈unO (fun c=>c) (fun _=>0) x.2 y.objs (ar (fun c=>c) x.2 (y.vals.map (·.2)) 0).2->Gr.blk c b->Pl w' b) ∧
  ∀ c c' ob ob' b,(c,ob)∈unO (fun c=>c) (fun _=>0) x.2 y.objs (ar (fun c=>c) x.2 (y.vals.map (·.2)) 0).2->(c',ob')∈unO (fun c=>c) (fun _=>0) x.2 y.objs (ar (fun c=>c) x.2 (y.vals.map (·.2)) 0).2->Gr.blk c b->Gr.blk c' b->c=c'
def FnT (P:Program) (H:Tab) (key:Key) (ls:List D) (x:Nat×List D):Prop :=
 ∀ i,H.ki key=some i->∀ G w us,In H G w i ls us->Lp P key.f us w (Out P H G w i x)
theorem sc {call:Key->List D->R} {H:Tab} {st:St} {dst:Option Tmp} {s:FS} {x:Nat×List D} {eff:Eff}:∀ (xs:List XS) (n i:Nat) (y:XS),x.1=n+i->xs[i]?=some y->ah call st (pm H dst s x xs n)=some eff->ah call st (vp H dst s x.2 y)=some eff
 | [],n,i,y,_,hy,h=>by simp at hy
 | [z],0,i,y,_,hy,h=>by
  cases i with
  | zero=>obtain rfl:z=y:=by simpa using hy
          simpa only [pm] using h
  | succ i=>simp at hy
 | [z],n+1,i,y,hx,hy,h=>by
  cases i with
  | zero =>
   obtain rfl:z=y:=by simpa using hy
   simp only [pm,pi,aa,and_false,or_false] at h;exact h.2
  | succ i=>simp at hy
 | z::z'::zs,n,i,y,hx,hy,h=>by
  replace h:ah call st (.alt (Nat.beq x.1 n) (vp H dst s x.2 z) (pm H dst s x (z'::zs) n.succ))=some eff:=h
  rw [pi] at h;rcases h with ⟨h1,h2⟩|⟨h1,h2⟩
  · have:=ay.1 h1
    obtain rfl:i=0:=by omega
    obtain rfl:z=y:=by simpa using hy
    exact h2
  · have:=bf.1 h1
    cases i with
    | zero=>exact absurd hx this
    | succ i=>exact sc (z'::zs) (n+1) i y (by omega) (by simpa using hy) h2
section
variable {call:Key->List D->R} {E:Env} {X G G0:Gh} {st st0:St} {a:Act} {w:World}
theorem ww (h:Rel E G st a w):∀ (objs:List (Nat×OSh)) {s s':FS} {ls:List D},ah call st (flO E.H objs s)=some (ls,s')->(s'.sg.map (·.1)).Nodup->∀ p∈objs,∀ j,(p.1,Tgt.obj j)∈s'.sg->∃ ob,st.o j=some ob
 | [],s,s',ls,hr,hn,p,hp,j,hj=>by simp at hp
 | (c,osh)::r,s,s',ls,hr,hn,p,hp,j,hj=>by
  simp only [flO,run_bind,ab] at hr;obtain ⟨⟨l1,s1⟩,h1,⟨l2,s2⟩,h2,h3⟩:=hr;simp only [C8.injEq] at h3;obtain ⟨_,rfl⟩:=h3;obtain ⟨⟨t2,q1⟩,_,_⟩:=yp h r h2;rcases C1.1 hp with rfl | hp
  · simp only at hj
    revert h1
    cases hl:ai s.sg c with
    | none=>simp only [aa]; exact fun h=>h.elim
    | some t =>
     cases t with
     | obj j' =>
      intro h1;dsimp only at h1;rw [ax] at h1;have hsub:∃ t,s1.sg=s.sg++t:=by
       cases ho:st.o j' with
       | none=>rw [ho] at h1; cases osh <;> simp [aa] at h1
       | some ob =>
        rw [ho] at h1;cases osh <;> cases ob <;> try (simp [aa] at h1; done)
        · rename_i shs cs
          obtain ⟨_,_,vs,t,_,hvr,_⟩:=(by simpa only [OR] using (h.objs j' _ ho).2:_/\_/\∃ (vs:List Value) (t:TypeId),_/\VRL E.H G w cs vs/\_)
          exact (jt h shs hvr h1).sg
        · rename_i e lv e' lv' ver rows ov
          cases ov with
          | none =>
           simp only [ag,ab,C8.injEq] at h1;obtain ⟨_,_,rfl⟩:=h1;exact ⟨[],by simp⟩
          | some p=>simp [aa] at h1
      obtain ⟨t1,q0⟩:=hsub;have hm:(c,Tgt.obj j')∈s2.sg:=by rw [q1,q0]; simp [al hl]
      have:=ef hn hm;rw [ef hn hj] at this;simp only [B7.injEq,Tgt.obj.injEq] at this;subst this;cases ho:st.o j with
      | none=>rw [ho] at h1; cases osh <;> simp [aa] at h1
      | some ob=>exact ⟨ob,rfl⟩
     | new =>
      intro h1;have hs1:s1=s:=by
       cases osh with
       | box shs=>simp [aa] at h1
       | arr e lv=>simp only [ag,ab,C8.injEq] at h1; exact h1.2.2.symm
      have hm:(c,Tgt.new)∈s2.sg:=by rw [q1,hs1]; simp [al hl]
      have:=ef hn hm;rw [ef hn hj] at this;simp at this
  · exact ww h r h2 hn p hp j hj
theorem wx {y:XS} (h:y.refsOk=true):(∀ c∈Sh.refsL (y.vals.map (·.2)),c∈y.objs.map (·.1))/\(∀ p∈y.objs,∀ c∈p.2.refs,c∈y.objs.map (·.1))/\(y.objs.map (·.1)).Nodup:=by
 simp only [XS.refsOk,B4,fo,C6,cx] at h;exact ⟨h.1.1,h.1.2,h.2⟩
theorem Bi {objs:List (Nat×OSh)} {sg:List (Nat×Tgt)} (h:Lz objs sg=true):∀ p∈sg,p.1<16/\∃ osh,(p.1,osh)∈objs:=fun p hp=>by
 have:=C6.1 h p hp;simp only [B4,E7,dn] at this;obtain ⟨osh,ho⟩:=F6.1 this.2;exact ⟨this.1,osh,al ho⟩
theorem om {j:Nat} {x:Option Obj}:∀ {l:List (Nat×Option Obj)} {st:St},(∀ x',(j,x')∈l->x'=x)->j∈l.map (·.1)->(st.upd l).o j=x
 | [],st,_,h=>by simp at h
 | (i,y)::r,st,hx,h=>by
  simp only [St.upd];by_cases hr:j∈r.map (·.1)
  · exact om (fun x' hx'=>hx x' (B6 _ hx')) hr
  · rw [aq _ _ hr]
    simp only [C0,C1] at h;obtain rfl:=h.resolve_right hr;have:y=x:=hx y (B5 ..);subst this;exact ae ..
theorem zq (h:Rel E G st a w) {i:KI} {vs:List Val} {us:List Value} {s1 s2:FS} {l1 l2:List D} {dst:Option Tmp} {eff:Eff} {x:Nat×List D} (hv:VRL E.H G w vs us)
 (h1:ah call st (pa E.H (i.pars.map (·.2)) vs ⟨[],[]⟩)=some (l1,s1)) (h2:ah call st (flO E.H i.objs s1)=some (l2,s2)) (hok:s2.ok i.objs=true) (hsg:Lz i.objs s2.sg=true)
 (hr:ah call st (pm E.H dst s2 x i.xs 0)=some eff) (hnu:∀ j∈eff.nw,st.u j=false) (hnd:eff.nw.Nodup) :
 ∃ Gc,In E.H Gc w i (l1++l2) us/\∀ v w',Out E.P E.H Gc w i x v w'->∃ G3,G.le G3/\Rel E G3 ((st.upd eff.ups).mark eff.nw) a w'/\VR E.H G3 w' eff.v v:=by
 obtain ⟨G2,st2,r2,fz,k1,k2,k3,k4,k5,k6,k7,k8,k9⟩:=un h hv h1 h2 hok;obtain ⟨o1,o2,o3,o4,o5⟩:=FS.ok_spec hok;have hin:=Bi hsg;have hlk:∀ {c:Nat} {t:Tgt},(c,t)∈s2.sg->ai s2.sg c=some t:=fun hm=>ef o3 hm
 have hex:∀ {c j:Nat},ai s2.sg c=some (.obj j)->∃ ob,st.o j=some ob:=fun {c j} hm=>by
  obtain ⟨_,osh,ho⟩:=hin _ (al hm);exact ww h i.objs h2 o3 _ ho j (al hm)
 -- blocks that were lent
 have hlb:∀ {b:Nat},mg (ghR E.H G2 s2.sg i.objs) (i.objs.map (·.1)) b->∃ c j ob,ai s2.sg c=some (.obj j)/\st.o j=some ob/\G2.blk j b:=fun {b} ⟨c,hc,hb⟩=>by
  simp only [ghR] at hb;cases hl:ai s2.sg c with
  | none=>rw [hl] at hb; exact hb.elim
  | some t =>
   rw [hl] at hb;cases t with
   | new=>exact hb.elim
   | obj j =>
    obtain ⟨ob,hob⟩:=hex hl;exact ⟨c,j,ob,hl,hob,hb⟩
 refine ⟨ghR E.H G2 s2.sg i.objs,⟨k6,fun c ob hm=>?_,fun c c' ob ob' b hm hm' hb hb'=>?_,fun c hc=>?_,fun b o hf=>k3.fsz b o hf,fun p hp=>?_,fun b hb=>?_⟩,?_⟩
 · rw [k7] at hm
   obtain ⟨m1,m2,m3⟩:=k8 c ob hm;exact ⟨m1,m2,fun b hb=>(m3 b hb).1⟩
 · rw [k7] at hm hm'
   obtain ⟨_,_,j,ob1,e1,e2,e3⟩:=(k8 c ob hm).2.2 b hb;obtain ⟨_,_,j',ob2,e4,e5,e6⟩:=(k8 c' ob' hm').2.2 b hb';obtain rfl:=h.sep j j' ob1 ob2 b e2 e5 e3 e6;exact mz o1 (al e1) (al e4)
 · rcases hc with ⟨t,ht⟩|⟨hc,_⟩
   · exact o4 _ (al ht)
   · omega
 · obtain ⟨v1,v2,v3⟩:=h.core.vars_ p hp
   refine ⟨D9 v1 h.core.size,fun hb=>?_,v3⟩
   obtain ⟨c,j,ob,e1,e2,e3⟩:=hlb hb;rcases (h.blk j ob p.1 e2 (k5 _ _ e3)).2 with x | x
   · omega
   · exact v2 x
 · obtain ⟨c,j,ob,e1,e2,e3⟩:=hlb hb
   obtain ⟨x1,x2⟩:=h.blk j ob b e2 (k5 _ _ e3);exact h.pl j ob b e2 (k5 _ _ e3)
 · rintro v w' ⟨y,Gr,us',y1,rfl,y2,y3,y4,y5,ypl,y6⟩
   have hb1:=sc i.xs 0 x.1 y (by omega) y1 hr
   simp only [vp,ag,run_bind,ab] at hb1;obtain ⟨hro0,u,hu,z,hz,heff⟩:=hb1;rw [B4] at hro0;obtain ⟨hro,hmf0⟩:=hro0;have hmf:∀ c∈y.objs.map (·.1),fk c=true->fk (eh dst s2.sg c)=true:=fun c hc hf=>by
    obtain ⟨p,hp,rfl⟩:=D0.1 hc;have:=C6.1 hmf0 p hp;simp only [hf,Bool.not_true,Bool.false_or] at this;exact this
   obtain ⟨t1,t2,t3⟩:=wx hro;obtain ⟨u1,u2⟩:=kw hu;have hs2:∀ {j:Nat} {ob:Obj},(∃ c,ai s2.sg c=some (.obj j))->st.o j=some ob->∃ ob',st2.o j=some ob':=fun {j ob} ⟨c,hc⟩ ho=>by
    cases ob with
    | box cs=>exact ⟨_,fz.box j cs ho⟩
    | arr e lv ver rows ov=>obtain ⟨lv',h'⟩:=fz.arr c j (al hc) e lv ver rows ov ho; exact ⟨_,h'⟩
   have hlU:∀ c j,ai s2.sg c=some (.obj j)->G.U j:=fun c j hm=>by
    obtain ⟨ob,hob⟩:=hex hm;exact (h.objs j ob hob).1
   have hfix:∀ c j,ai s2.sg c=some (.obj j)->Gr.hv c=G.hv j/\Gr.bm c=G.bm j/\Gr.ly c=G.ly j:=fun c j hm=>by
    obtain ⟨q1,q2,q3,q4⟩:=y3 c (hin _ (al hm)).1 (.inl ⟨_,hm⟩);obtain ⟨p1,p2,p3,p4⟩:=k9.obj c j (al hm) (hlU c j hm);exact ⟨q2.trans p2,q3.trans p3,q4.trans p4⟩
   have hF0:∀ b o,G2.F b o->Gr.F b o:=fun b o hf=>y2.f0 b o hf
   have hcell:∀ b o,G2.F b o->w'.cell? ⟨b,o,none⟩=w.cell? ⟨b,o,none⟩:=fun b o hf=>y2.fc b o hf
   let R:=unO (eh dst s2.sg) (fun _=>0) x.2 y.objs (ar (eh dst s2.sg) x.2 (y.vals.map (·.2)) 0).2
   have heff':eff=⟨vo (ar (eh dst s2.sg) x.2 (y.vals.map (·.2)) 0).1,u++z++news dst s2.sg R,(news dst s2.sg R).map (·.1)⟩:=heff.symm
   rw [heff'] at hnu hnd;simp only at hnu hnd;have hu2:∀ j x',(j,x')∈u->∃ c,ai s2.sg c=some (.obj j)/\((ai R c=none/\x'=none)\/(∃ cs,ai R c=some (.box cs)/\x'=some (.box cs)) ∨
    ∃ e lv v rows ov ver,ai R c=some (.arr e lv v rows ov)/\(∃ e' lv' rows' ov',st.o j=some (.arr e' lv' ver rows' ov'))/\x'=some (.arr e lv ver.succ rows ov)):=fun j x' hm=>by
    obtain ⟨c,q1,q2⟩:=u2 j x' hm;refine ⟨c,hlk q1,?_⟩;rcases q2 with q2 | q2 | ⟨e,lv,v,rows,ov,e',lv',ver,rows',ov',q3,q4,q5⟩
    · exact .inl q2
    · exact .inr (.inl q2)
    · exact .inr (.inr ⟨e,lv,v,rows,ov,ver,q3,⟨e',lv',rows',ov',q4⟩,q5⟩)
   have fin:∀ {Gb:Gh} {stb:St},Rel E Gb stb a w->G.le Gb->stb.u=st.u->(∀ j,(∃ c,ai s2.sg c=some (.obj j))->∀ e lv ver rows ov,st.o j=some (.arr e lv ver rows ov)->Gb.vm j=ver) →
    ∀ F3:Fz,Nt E Gb stb w Gr w' F3 s2.sg y x.2 us'->((st.upd (u++z++news dst s2.sg R)).mark ((news dst s2.sg R).map (·.1)))=((stb.upd (u++news dst s2.sg R)).mark ((news dst s2.sg R).map (·.1))) →
    ∃ G3,G.le G3/\Rel E G3 ((st.upd eff.ups).mark eff.nw) a w'/\VR E.H G3 w' eff.v (qo us'):=fun {Gb stb} hb hle hueq hvm F3 hcame hst=>by
    obtain ⟨G3,g1,g2,g3⟩:=Hr (dst:=dst) (u:=u) hb hcame (R:=R) rfl u1 (fun j x' hm=>by
     obtain ⟨c,q1,q2⟩:=hu2 j x' hm;refine ⟨c,q1,?_⟩;rcases q2 with q2 | q2 | ⟨e,lv,v,rows,ov,ver,q3,⟨e',lv',rows',ov',q4⟩,q5⟩
     · exact .inl q2
     · exact .inr (.inl q2)
     · exact .inr (.inr ⟨e,lv,v,rows,ov,q3,by rw [hvm j ⟨c,q1⟩ _ _ _ _ _ q4]; exact q5⟩)) hnd (fun j hj=>by rw [hueq]; exact hnu j hj) hmf
    refine ⟨G3,hle.trans g1,?_,?_⟩
    · rw [heff']; simp only; rw [hst]; exact g2
    · rw [heff']; exact VR.tup_ g3
   cases hesc:y.escs E.H.ty with
   | true =>
    rw [hesc] at hz;simp only [H1] at hz;obtain ⟨z1,z2⟩:=me hz;refine fin r2 k1 fz.alike.2.1 (fun j ⟨c,hc⟩ e lv ver rows ov ho=>?_) Gr.F { plain:=ypl,hsn:=o1,hon:=t3,refs:=t1,refo:=t2,hv:=y4,ho:=?_,hsep:=y6,fix:=?_,lU:=?_,fle:=fun _ _ h=>h,feq:=fun _ _ _ h=>h,fb:=hF0,fn:=?_,fs:=y2.fsz,cell:=hcell,kept:=?_,size:=y2.size,os:=y2.os,tape:=y2.tape,out:=y2.out } ?_
    · obtain ⟨lv',h'⟩:=fz.arr c j (al hc) e lv ver rows ov ho
      have:=(r2.objs j _ h').2;simp only [OR] at this;obtain ⟨_,_,_,_,_,_,this,_⟩:=this;exact this
    · intro c ob hm
      obtain ⟨q1,q2,q3⟩:=y5 c ob hm;refine ⟨q1,q2,fun b hb=>⟨(q3 b hb).1,(q3 b hb).2.imp id fun hl=>?_⟩⟩
      obtain ⟨c',j,ob',p1,p2,p3⟩:=hlb hl;obtain ⟨ob2,p4⟩:=hs2 ⟨c',p1⟩ p2;exact ⟨c',j,ob2,p1,p4,p3⟩
    · intro c j hm _
      obtain ⟨q1,q2,q3⟩:=hfix c j hm;have hU:=hlU c j hm;exact ⟨q1.trans (k1.hv j hU).symm,q2.trans (k1.bm j hU).symm,q3.trans (k1.ly j hU).symm⟩
    · exact fun c j hm=>k1.U j (hlU c j hm)
    · intro b o hf
      rcases y2.f1 b o hf with q | q | q
      · exact .inl q
      · exact .inr (.inl q)
      · obtain ⟨c',j,ob',p1,p2,p3⟩:=hlb q
        obtain ⟨ob2,p4⟩:=hs2 ⟨c',p1⟩ p2;exact .inr (.inr ⟨c',j,ob2,p1,p4,p3⟩)
    · intro b hb hn
      refine y2.kept b hb fun hl=>hn ?_
      obtain ⟨c',j,ob',p1,p2,p3⟩:=hlb hl;obtain ⟨ob2,p4⟩:=hs2 ⟨c',p1⟩ p2;exact ⟨c',j,ob2,p1,p4,p3⟩
    · refine St.ext' ?_ (fun t=>?_) (fun j=>?_) (fun j=>?_)
      · rw [uo,uo,(co st _ _).2.2,(co st2 _ _).2.2]; exact fz.alike.2.2.symm
      · rw [(cq _ _).1,(cq _ _).1,(co st _ _).1,(co st2 _ _).1,fz.alike.1]
      · rw [(cq _ _).2.1,(cq _ _).2.1,ba (u++z),ba u _ st2]
        by_cases hj:j∈(news dst s2.sg R).map (·.1)
        · exact du _ _ _ hj
        rw [aq _ _ hj,aq _ _ hj,ba];by_cases hjz:j∈z.map (·.1)
        · obtain ⟨⟨j',x'⟩,hm,rfl⟩:=D0.1 hjz
          obtain ⟨m1,e,lv,ver,rows,m2,rfl⟩:=z1 j' x' hm;simp only at hj hjz ⊢;have hnu':j'∉u.map (·.1):=by rw [u1]; exact o2 j' m1
          rw [aq u _ hnu',fz.fz j' m1 e lv ver rows m2];refine om (fun x' hx'=>?_) hjz
          obtain ⟨_,e',lv',ver',rows',m3,rfl⟩:=z1 j' x' hx';rw [m2] at m3;simp only [B7.injEq,Obj.arr.injEq,and_true] at m3;obtain ⟨rfl,_,rfl,rfl⟩:=m3;rfl
        · rw [aq z _ hjz]
          by_cases hju:j∈u.map (·.1)
          · exact du _ _ _ hju
          · rw [aq _ _ hju,aq _ _ hju]
            refine (fz.out j (fun hf=>hjz (z2 j hf)) fun c hc=>hju ?_).symm
            rw [u1];exact E4.2 ⟨_,hc,by simp [cu]⟩
      · rw [ku,ku,(co st _ _).2.1,(co st2 _ _).2.1,fz.alike.2.1]
   | false =>
    rw [hesc] at hz;simp only [H2,ab] at hz;subst hz;refine fin h (Gh.le.refl G) rfl (fun j ⟨c,hc⟩ e lv ver rows ov ho=>?_) G.F { plain:=ypl,hsn:=o1,hon:=t3,refs:=t1,refo:=t2,hv:=y4,ho:=?_,hsep:=y6,fix:=?_,lU:=hlU,fle:=fun b o hf=>hF0 b o (k2 b o hf),feq:=fun hh=>by rw [hesc] at hh; simp at hh,fb:=fun _ _ h=>h,fn:=fun _ _ h=>.inl h,fs:=fun b o hf=>D9 (h.core.fsz b o hf) y2.size,cell:=fun b o hf=>hcell b o (k2 b o hf),kept:=?_,size:=y2.size,os:=y2.os,tape:=y2.tape,out:=y2.out } (by simp)
    · have:=(h.objs j _ ho).2
      simp only [OR] at this;obtain ⟨_,_,_,_,_,_,this,_⟩:=this;exact this
    · intro c ob hm
      obtain ⟨q1,q2,q3⟩:=y5 c ob hm;refine ⟨q1,q2,fun b hb=>⟨(q3 b hb).1,(q3 b hb).2.imp id fun hl=>?_⟩⟩
      obtain ⟨c',j,ob',p1,p2,p3⟩:=hlb hl;exact ⟨c',j,ob',p1,p2,k5 _ _ p3⟩
    · exact fun c j hm _=>hfix c j hm
    · intro b hb hn
      refine y2.kept b hb fun hl=>hn ?_
      obtain ⟨c',j,ob',p1,p2,p3⟩:=hlb hl;exact ⟨c',j,ob',p1,p2,k5 _ _ p3⟩
end
end Go.Q
namespace Go.Q
open Go
open Go.RowKit (Below)
section
variable {call:Key->List D->R} {E:Env} {X G G0:Gh} {st st0:St} {a:Act} {w:World}
theorem Rel.put_ (h:Rel E G st a w) {j x v1 ver2 i c:Nat} {e0 e:TypeId} {rows rows2:ak} {te:TI} (hj:st.o j=some (.arr e0 .deep v1 rows (some (i,c)))) (hx:st.o x=some (.arr e .deep ver2 rows2 none)) (hpv:G.pv j v1=G.hv x)
 (hte:E.H.ty e0=some te) (hc:te.lay[c]?=some (.sl e)) (hi:i<rows.length) :
 ∃ G',G.le G'/\Rel E G' (st.upd [(x,none),(j,some (.arr e0 .deep v1.succ (over i [over c [.sl rows2] (rowAt rows i)] rows) none))]) a w/\∀ b o,G.F b o->G'.F b o:=by
 have hxj:x≠j:=fun e=>by subst e; rw [hj] at hx; simp at hx
 obtain ⟨hU,ho⟩:=h.objs j _ hj;obtain ⟨hUx,hox⟩:=h.objs x _ hx;have hcl:=(B9.1 hc).1;have hlt:i*te.lay.length+c<rows.length*te.lay.length:=by
  calc i*te.lay.length+c<i*te.lay.length+te.lay.length:=by omega
   _=(i+1)*te.lay.length:=by rw [E0]; omega
   _<=rows.length*te.lay.length:=C3 _ hi
 -- what was lent
 have hrc:=zj hox;obtain ⟨Bx,x1,x2,x3,x4⟩:=hrc;simp only [OR] at ho;obtain ⟨te',A,cap,r1,r2,r3,r4,r5,r6,r7⟩:=ho;rw [hte] at r1;obtain rfl:te=te':=by simpa using r1
 rcases r7 with ⟨_,r7⟩|⟨o,cur,t,rfl,k2,k3,k4,k5⟩
 · simp at r7
 have hmul2:rows.length*te.lay.length<=gb j rows.length cap*te.lay.length:=C3 _ (gm r6);generalize hvs:(cur.toList.drop o).take (rows.length*te.lay.length)=vs at k5;have hvl:vs.length=rows.length*te.lay.length:=by rw [<- hvs]; simp; omega
 rw [ovl,hpv,Hi] at k5;by_cases hraw:vs[i*te.lay.length+c]?=some (G.hv x)
 case neg =>
  rw [H6 hraw] at k5;simp only [bc] at k5;have:=k5.2.2.1.choose_spec.1.length;simp at this;omega
 rw [H5 hraw] at k5;simp only [bc] at k5;obtain ⟨m1,m2,⟨B,m3,m4,m5⟩,m6⟩:=k5;have h1:RL E.H w br [.sl rows2] ((te.lay.drop c).take 1) [G.hv x] Bx:=by
  have e1:(te.lay.drop c).take 1=[.sl e]:=by
   rw [List.drop_eq_getElem_cons hcl];have:=(B9.1 hc).2;simp [this]
  rw [e1];simp only [RL];exact ⟨_,_,_,_,Bx,[],rfl,rfl,by simp,x1,rfl,rfl,rfl⟩
 obtain ⟨B2,n1,n2,n3⟩:=m3.cell_ h1 hi (by omega)
 have hback:over (i*te.lay.length+c) [G.hv x] (vs.set (i*te.lay.length+c) (.slice none 0 0))=vs:=by
  apply List.ext_getElem?;intro q;rw [bi _ _ _ _ (by simp; omega),List.getElem?_set]
  by_cases hq:i*te.lay.length+c=q
  · subst hq; rw [H5 (by simp),hraw]; simp
  · rw [H6 (by simp; omega),H6 hq]
 rw [hback] at n3;have hdis:∀ b,b∈B->b∈Bx->False:=fun b hb hb'=>hxj (h.sep x j _ _ b hx hj (x3 b hb') (m5 b hb))
 have hbmx:∀ b∈Bx,b≠G.bm j:=fun b hb e=>hxj (h.sep x j _ _ b hx hj (x3 b hb) (e▸k2))
 have hrem:=h.remove x;have hj':(st.upd [(x,none)]).o j=some (.arr e0 .deep v1 rows (some (i,c))):=by simp only [St.upd,aj _ _ (Ne.symm hxj)]; exact hj
 have hrl:(over i [over c [D.sl rows2] (rowAt rows i)] rows).length=rows.length:=av _ _ _ (by simp; omega)
 obtain ⟨p1,p2⟩:=hrem.edit (w':=w) (ob':=.arr e0 .deep v1.succ (over i [over c [.sl rows2] (rowAt rows i)] rows) none) hj' (blk:=fun b=>G.blk j b\/b∈Bx) (ver:=v1.succ)
  (nh:=fun v=>if v<=v1 then G.nh j v else fun i' c'=>vs.getD (i'*te.lay.length+c') undef) (pv:=G.pv j)
  (by omega) (fun v hv=>by rw [r4] at hv; simp only [H5 hv]) (fun _ _=>rfl)
  (fun hle=>by
    simp only [OR];refine ⟨te,_,cap,hte,r2,r3,by simp only [Gh.edit,ae],by rw [hrl]; exact r5,by rw [hrl]; exact r6,.inr ⟨o,cur,t,rfl,by simp only [Gh.edit,ae]; exact .inl k2,k3,by rw [hrl]; exact k4,?_⟩⟩
    rw [bj,hrl,hvs];simp only [bc,Gh.edit,ae];refine ⟨m1,fun b hb q=>hb.elim (fun hb=>m2 b hb q) fun hb=>x4 b hb q,⟨B2,n3,C4.2 ⟨fun hb=>?_,n2 (C7.2 ⟨(C4.1 m4).2,x2,fun y hy z hz e=>hdis y hy (e▸hz)⟩)⟩,fun b hb=>?_⟩,fun i' c' e' hi' hc'=>?_⟩
    · rcases B8.1 (n1 _ hb) with hb | hb
      · exact (C4.1 m4).1 hb
      · exact hbmx _ hb rfl
    · exact (B8.1 (n1 _ hb)).imp (fun hb=>m5 b hb) id
    · rw [H6 (by omega)]
      rw [hrl] at hi';have hcl':=(B9.1 hc').1;have hlt':i'*te.lay.length+c'<rows.length*te.lay.length:=by
       calc i'*te.lay.length+c'<i'*te.lay.length+te.lay.length:=by omega
        _=(i'+1)*te.lay.length:=by rw [E0]; omega
        _<=rows.length*te.lay.length:=C3 _ hi'
      simp [K1,D5 (show i'*te.lay.length+c'<vs.length by omega)])
  (D1 _) rfl rfl rfl (fun _ _ _=>rfl) (fun _ _ _=>rfl)
  (fun b hb=>by
    rcases hb with hb | hb
    · exact ⟨(h.blk j _ b hj hb).1,(h.blk j _ b hj hb).2,fun i' ob hne hi' hbi=>hne (h.sep i' j ob _ b (bw hi').1 hj hbi hb)⟩
    · exact ⟨(h.blk x _ b hx (x3 b hb)).1,(h.blk x _ b hx (x3 b hb)).2,fun i' ob hne hi' hbi=>(bw hi').2 (h.sep i' x ob _ b (bw hi').1 hx hbi (x3 b hb))⟩)
  (fun b hb _=>hb.elim (fun hb=>h.pl j _ b hj hb) fun hb=>h.pl x _ b hx (x3 b hb))
  (fun b hlt hp _=>hp hlt)
 exact ⟨_,p1,by simpa only [St.upd] using p2,fun _ _ h=>h⟩
theorem Hs {H:Tab} {j:Nat} {e:TypeId} {lv:Lv} {ver i:Nat} {rows:ak} {te:TI} (h:OR H G w j (.arr e lv ver rows none)) (hi:i<rows.length) (hte:H.ty e=some te):(rowAt rows i).length=te.lay.length:=by
 obtain ⟨ti,o,cur,t,vs,cap,q1,q2,q3,q4,q5,q6,q7,q8,q9,q10,q11,q12⟩:=bu h (by omega)
 rw [hte] at q1;obtain rfl:te=ti:=by simpa using q1
 obtain ⟨F,B,hrr,_⟩:=q11.rows;obtain ⟨va,v,vb,Ba,Bm,Bb,_,_,_,k4,_,_⟩:=hrr.cut i hi;exact k4.length.2
theorem wy {H:Tab} {x j ver ri c:Nat} {e:TypeId}:∀ {hs:List Sh} {vs vs':List Val} {us:List Value},lf x hs vs=some (j,ver,ri,c,e,vs')->VRL H G w vs us →
 ∃ u,VR H G w (.hn j ver ri c e) u/\∀ G1,VR H G1 w (.hd x) u->(∀ v u,VR H G w v u->VR H G1 w v u)->VRL H G1 w vs' us
 | [],vs,vs',us,h,hv=>by cases vs <;> simp [lf] at h
 | sh::hs,[],vs',us,h,hv=>by cases sh <;> simp [lf] at h
 | sh::hs,v::vs,vs',us,h,hv=>by
  have hv':=hv;simp only [VRL] at hv;obtain ⟨u,us',rfl,h1,h2⟩:=hv;have hall:∀ {G1:Gh},(∀ v u,VR H G w v u->VR H G1 w v u)->∀ {vs:List Val} {us:List Value},VRL H G w vs us->VRL H G1 w vs us:=by
   intro G1 hm vs;induction vs with
   | nil=>intro us h; simpa only [VRL] using h
   | cons v vs ih =>
    intro us h;simp only [VRL] at h ⊢;obtain ⟨u,us',e,a,b⟩:=h;exact ⟨u,us',e,hm _ _ a,ih b⟩
  have next:(match lf x hs vs with | some (j,ver,i,c,e,r)=>some (j,ver,i,c,e,v::r) | none=>none)=some (j,ver,ri,c,e,vs') →
   ∃ u',VR H G w (.hn j ver ri c e) u'/\∀ G1,VR H G1 w (.hd x) u'->(∀ v u,VR H G w v u->VR H G1 w v u)->VRL H G1 w vs' (u::us'):=fun hn=>by
   cases hq:lf x hs vs with
   | none=>rw [hq] at hn; simp at hn
   | some p =>
    obtain ⟨j',ver',ri',c',e',r⟩:=p;rw [hq] at hn;simp only [B7.injEq,C8.injEq] at hn;obtain ⟨rfl,rfl,rfl,rfl,rfl,rfl⟩:=hn;obtain ⟨u',k1,k2⟩:=wy hq h2;refine ⟨u',k1,fun G1 g1 g2=>?_⟩
    simp only [VRL];exact ⟨u,us',rfl,g2 _ _ h1,k2 G1 g1 g2⟩
  cases sh <;> first
   | exact next h
   | (cases v <;> first
       | exact next h
       | (simp only [lf,B7.injEq,C8.injEq] at h
          obtain ⟨rfl,rfl,rfl,rfl,rfl,rfl⟩:=h;exact ⟨u,h1,fun G1 g1 g2=>by simp only [VRL]; exact ⟨u,us',rfl,g1,hall g2 h2⟩⟩))
end
end Go.Q
end
section
namespace Go.Q
open Go
open Go.RowKit (Below)
section
variable {call:Key->List D->R} {E:Env} {X G G0:Gh} {st st0:St} {a:Act} {w:World}
theorem VRL.evs (h:Rel E G st a w):∀ (l:List Operand),VRL E.H G w (l.map (ev st)) (l.map a.eval)
 | []=>by simp [VRL]
 | x::l=>by simp only [C0,VRL]; exact ⟨_,_,rfl,h.ev x,VRL.evs h l⟩
theorem Ht {key:Key} (hH:bv E.P E.H) (hQ:Ct E.P E.H) (hcall:∀ f v ls x,call ⟨f,v,0⟩ ls=some x->FnT E.P E.H ⟨f,v,0⟩ ls x) (o:Oper):OpS E X call key o:=by
 intro G st a w eff K Q h hX hr hd hnu hnd hK;rcases Mi h hH hQ hr hnu with ⟨c,f,g,caps,ho,hc,hf,hr'⟩ | hran
 · unfold Cf at hr'
   simp only at hr';cases hi:E.H.ki ⟨g,E.H.vr key (o.dst.getD 9999),0⟩ with
   | none=>simp only [hi,aa] at hr'
   | some i =>
    simp only [hi] at hr';have hv:=h.ev f;rw [hf] at hv;simp only [VR] at hv;obtain ⟨cvs,hv1,hv2⟩:=hv;have hva:=(VRL.evs h c.args.toList).append hv2;have hexe:(execOp a.eval o).run E.P w=(callFunc g (c.args.toList.map a.eval++cvs).toArray).run E.P w:=by
     have:(c.args.map a.eval)++cvs.toArray=(c.args.toList.map a.eval++cvs).toArray:=by simp
     rw [<- this];simp [execOp,ho,resolve,hc,hv1,Deferred.ofValue,invoke,pure]
    have fin0:∀ {Gc:Gh} {ls:List D} {x:Nat×List D},call ⟨g,E.H.vr key (o.dst.getD 9999),0⟩ ls=some x->In E.H Gc w i ls (c.args.toList.map a.eval++cvs) →
     (∀ v w',Out E.P E.H Gc w i x v w'->∃ G3,G.le G3/\Rel E G3 ((st.upd eff.ups).mark eff.nw) a w'/\VR E.H G3 w' eff.v v)->o.wp E.P a w K Q:=fun {Gc ls x} h3 hin hout=>by
     have hcw:=hcall g _ _ x h3 i hi Gc w _ hin;obtain ⟨n,w1,c1,c2⟩:=hcw;unfold Oper.wp;rw [hexe,c1];have fin:∀ v w',Out E.P E.H Gc w i x v w'->K (a.put o.dst v) w':=fun v w' hh=>by
      obtain ⟨G3,g1,g2,g3⟩:=hout v w' hh;exact hK G3 _ w' (g2.put hd g3) (hX.le g1)
     cases n <;> simp only at c2 <;> try exact c2.elim
     · rename_i v; exact fin v w1 c2
     · rename_i g' args
       refine Calls.mono c2 fun e w' he=>?_
       cases e with
       | returned v=>exact fin v w' he
       | panicked ch=>exact he.elim
       | outgrown=>exact he.elim
    cases hn:lf (aw o.dst 63) (i.pars.map (·.2)) (c.args.toList.map (ev st)++caps) with
    | none =>
     simp only [hn,vq,run_bind,ag,zg,B4] at hr';obtain ⟨⟨l1,s1⟩,h1,⟨l2,s2⟩,h2,⟨hsg,hok⟩,x,h3,h4⟩:=hr';obtain ⟨Gc,hin,hout⟩:=zq h hva h1 h2 hok hsg h4 hnu hnd;exact fin0 h3 hin hout
    | some p =>
     obtain ⟨j,ver,ri,c',e,vs'⟩:=p;simp only [hn] at hr';obtain ⟨u,q1,q2⟩:=wy hn hva;simp only [Lj,ax] at hr';split at hr'
     case h_2=>simp only [aa] at hr'
     rename_i e0 ver' rows hj;split at hr'
     case h_2=>simp only [aa] at hr'
     rename_i te hte;split at hr'
     case h_2=>simp only [aa] at hr'
     rename_i e' hc';simp only [ag,run_bind,B4,ay] at hr';obtain ⟨⟨hfx,hti,rfl,rfl⟩,eff1,hr1,hr2⟩:=hr';rw [dj] at hr1;cases hte':E.H.ty e with
     | none=>rw [hte'] at hti; simp at hti
     | some ti =>
     rw [hte'] at hti;simp only [E7,dn,bh] at hti;split at hr2
     case h_2=>simp only [aa] at hr2
     rename_i e2 ver2 rows2 hlk;simp only [ag,ab,B4,ay,C5,fo] at hr2;obtain ⟨⟨hjn,hnd1,rfl⟩,rfl⟩:=hr2;simp only at hnu hnd;have hx:st.u (aw o.dst 63)=false:=hnu _ (B5 ..);have hU:=(h.objs j _ hj).1;have hxj:aw o.dst 63≠j:=fun he=>by rw [he,h.used _ hU] at hx; simp at hx
     have hi':ri<rows.length:=by
      simp only [VR] at q1;obtain ⟨_,_,_,_,_,A,n,cp,hv,hin⟩:=q1;have ho':=(h.objs j _ hj).2;simp only [OR] at ho';obtain ⟨_,_,_,_,_,_,_,h4,_⟩:=ho';rw [hv] at h4; simp at h4; omega
     have hu:u=G.nh j ver ri c':=by simp only [VR] at q1; exact q1.2.2.1
     obtain ⟨G1,k1,k2,k3,k4,k5⟩:=h.take_ (x:=aw o.dst 63) hj hte hc' hte' (by omega) hi' hx
     have hva1:=q2 G1 (hu▸k3) fun v u hvu=>VR.mono k1 (fun b o hf=>⟨k5 b o hf,rfl⟩) _ _ hvu
     have hrun:ah call (ck st j (aw o.dst 63) ver ri c' e0 e2 rows) (vq E.H ⟨g,E.H.vr key (o.dst.getD 9999),0⟩ i o.dst vs')=some eff1:=by
      rw [<- hr1]; exact kq (by simp only [ck,(cq _ _).2.1]) _
     simp only [vq,run_bind,ag,zg,B4] at hrun;obtain ⟨⟨l1,s1⟩,h1,⟨l2,s2⟩,h2,⟨hsg,hok⟩,x,h3,h4⟩:=hrun;have hnu1:∀ j'∈eff1.nw,(ck st j (aw o.dst 63) ver ri c' e0 e2 rows).u j'=false:=fun j' hj'=>by
      simp only [ck,ku,Bool.or_eq_false_iff];refine ⟨?_,hnu j' (B6 _ hj')⟩;cases hm:dm [aw o.dst 63] j' with
      | false=>rfl
      | true =>
       rw [cx] at hm;simp only [List.mem_singleton] at hm;subst hm;exact absurd hj' (C4.1 hnd).1
     obtain ⟨Gc,hin,hout⟩:=zq k2 hva1 h1 h2 hok hsg h4 hnu1 (C4.1 hnd).2;refine fin0 h3 hin fun v w' hh=>?_
     obtain ⟨G3,g1,g2,g3⟩:=hout v w' hh
     -- the slice goes back to its place
     have hrow:=Hs (h.objs j _ hj).2 hi' hte;have hcl:=(B9.1 hc').1;have hjst:(((ck st j (aw o.dst 63) ver ri c' e0 e2 rows).upd eff1.ups).mark eff1.nw).o j=some (.arr e0 .deep ver.succ (over ri [over c' [.sl []] (rowAt rows ri)] rows) (some (ri,c'))):=by
      rw [(cq _ _).2.1,aq _ _ (fun hm=>by rw [(cx _ _).2 hm] at hjn; simp at hjn)]
      simp only [ck,(cq _ _).2.1,St.upd,aj _ _ (Ne.symm hxj),ae]
     have hxst:(((ck st j (aw o.dst 63) ver ri c' e0 e2 rows).upd eff1.ups).mark eff1.nw).o (aw o.dst 63)=some (.arr e2 .deep ver2 rows2 none):=by
      rw [(cq _ _).2.1];exact md hnd1 (al hlk)
     have hvm1:G1.vm j=ver.succ:=by
      have hj1:(ck st j (aw o.dst 63) ver ri c' e0 e2 rows).o j=some (.arr e0 .deep ver.succ (over ri [over c' [.sl []] (rowAt rows ri)] rows) (some (ri,c'))):=by
       simp only [ck,(cq _ _).2.1,St.upd,aj _ _ (Ne.symm hxj),ae]
      have:=(k2.objs j _ hj1).2;simp only [OR] at this;obtain ⟨_,_,_,_,_,_,this,_⟩:=this;exact this
     have hpv:G3.pv j ver.succ=G3.hv (aw o.dst 63):=by
      rw [g1.pv j _ (k1.U j hU) (Nat.le_of_eq hvm1.symm),g1.hv _ (by simp only [VR] at k3; exact k3.1)]
      exact k4
     have hrl:(over ri [over c' [D.sl []] (rowAt rows ri)] rows).length=rows.length:=av _ _ _ (by simp; omega)
     obtain ⟨G4,f1,f2,f3⟩:=g2.put_ hjst hxst hpv hte hc' (by rw [hrl]; exact hi')
     rw [og hi',jr hi',jr (by omega)] at f2
     refine ⟨G4,k1.trans (g1.trans f1),?_,?_⟩
     · refine (congrArg (fun s=>Rel E G4 s a w') ?_).mp f2
       refine St.ext' ?_ (fun t=>?_) (fun j'=>?_) (fun j'=>?_)
       · simp only [ck,uo,(co st _ _).2.2]
       · simp only [ck,(cq _ _).1,(co st _ _).1]
       · have e1:∀ (l:List (Nat×Option Obj)),(((st.upd ((j,some (.arr e0 .deep ver.succ (over ri [over c' [.sl []] (rowAt rows ri)] rows) (some (ri,c'))))::(aw o.dst 63,some (.arr e2 .deep 0 (nth (rowAt rows ri) c').L none))::eff1.ups++l)).mark (aw o.dst 63::eff1.nw)).o j')=(((ck st j (aw o.dst 63) ver ri c' e0 e2 rows).upd eff1.ups).upd l).o j':=fun l=>by
          rw [(cq _ _).2.1,ba];by_cases hl:j'∈l.map (·.1)
          · exact du _ _ _ hl
          rw [aq _ _ hl,aq _ _ hl];rw [show ∀ (p q:Nat×Option Obj),p::q::eff1.ups=[p,q]++eff1.ups from fun _ _=>rfl,ba]
          by_cases hu:j'∈eff1.ups.map (·.1)
          · exact du _ _ _ hu
          rw [aq _ _ hu,aq _ _ hu];simp only [ck,(cq _ _).2.1]
         rw [e1];by_cases hl:j'∈([(aw o.dst 63,none),(j,some (.arr e0 .deep ver.succ.succ (over ri [over c' [.sl rows2] (rowAt rows ri)] rows) none))]:List (Nat×Option Obj)).map (·.1)
         · exact du _ _ _ hl
         · rw [aq _ _ hl,aq _ _ hl,(cq _ _).2.1]
       · simp only [ck,ku,(co st _ _).2.1]
         simp only [dm,List.any_cons,List.any_nil,Bool.or_false];cases Nat.beq j' (aw o.dst 63) <;> simp
     · exact VR.mono f1 (fun b o hf=>⟨f3 b o hf,rfl⟩) _ _ g3
 · exact yq (key:=key) h hX hran hd hK
end
end Go.Q
end
section
namespace Go.Q
open Go
open Go.RowKit (Below)
def sd (tmps:Array Value):ResultVar->Sem Value
 | .tmp t=>pure (tmps.getD t undef)
 | .cell a t=>do loadVar t (<- asAddr (tmps.getD a undef))
section
variable {call:Key->List D->R} {E:Env} {X G G0:Gh} {st st0:St} {a:Act} {w:World}
theorem uu (hH:bv E.P E.H) (h:Rel E G st a w):∀ (l:List ResultVar) {vs:List Val},ah call st (tw E.H st l)=some vs->∃ us,VRL E.H G w vs us/\(l.mapM (sd a.tmps)).run E.P w=.ok us w
 | [],vs,hr=>by
  simp only [tw,ab] at hr;subst hr;exact ⟨[],by simp [VRL],by simp [pure]⟩
 | .tmp t::r,vs,hr=>by
  simp only [tw,run_bind,ab] at hr;obtain ⟨vs',h1,rfl⟩:=hr;obtain ⟨us,k1,k2⟩:=uu hH h r h1;refine ⟨a.tmps.getD t undef::us,by simp only [VRL]; exact ⟨_,_,rfl,h.tmps t,k1⟩,?_⟩
  simp [List.mapM_cons,sd,k2,pure]
 | .cell p t::r,vs,hr=>by
  simp only [tw] at hr;split at hr
  · rename_i j off ti hj hti
    simp only [ax] at hr;split at hr
    · rename_i cs hcs
      simp only [ag,run_bind,ab] at hr;obtain ⟨hle,vs',h1,rfl⟩:=hr;obtain ⟨us,k1,k2⟩:=uu hH h r h1;have hv:=h.tmps p;rw [hj] at hv;have hl:ah call st (pp E.H t (.bp j off))=some (mkV ti.agg (iw (len ti.lay) (iy off cs))):=by
       unfold pp;rw [hti];simp only [ax,hcs,ag,ab];exact ⟨hle,trivial⟩
      obtain ⟨u,q1,q2⟩:=ro h hH hv hl;simp only [VR] at hv;rw [hv.2,fq] at q1;refine ⟨u::us,by simp only [VRL]; exact ⟨_,_,rfl,q2,k1⟩,?_⟩
      simp [List.mapM_cons,sd,hv.2,asAddr,q1,k2,pure]
    · simp [aa] at hr
  · simp [aa] at hr
theorem wz {P:Program} {fn:Func} {tmps:Array Value} {us:List Value} (h:(fn.results.toList.mapM (sd tmps)).run P w=.ok us w):(results fn tmps).run P w=.ok (qo us) w:=by
 have e2:(fn.results.mapM (sd tmps)).run P w=.ok us.toArray w:=by
  rw [Array.mapM_eq_mapM_toList,<- bind_pure_comp];simp [h,pure]
 have e1:results fn tmps=(do let vs <- fn.results.mapM (sd tmps); pure (if h:vs.size=1 then vs[0] else .tuple vs)):=by
  unfold results;congr 1
 rw [e1];have e3:(if h:us.toArray.size=1 then us.toArray[0] else .tuple us.toArray)=qo us:=by
  match us with
  | []=>rfl
  | [u]=>rfl
  | u1::u2::ur=>simp [qo]
 rw [Sem.run_bind,e2];simp only [Result.andThen_ok,e3];rfl
theorem xa {H:Tab} {vs:List Val} {r:Nat×List D}:∀ (xs:List XS) (n:Nat),ah call st (tz H vs xs n)=some r->∃ i y,xs[i]?=some y/\r.1=n+i/\ah call st (Cl H vs y)=some r.2
 | [],n,h=>by simp only [tz,aa] at h
 | [y],n,h=>by
  simp only [tz,run_bind,ab] at h;obtain ⟨l,h1,rfl⟩:=h;exact ⟨0,y,rfl,rfl,h1⟩
 | y::z::xs,n,h=>by
  replace h:ah call st ((ze (y.vals.map (·.2)) vs).bind fun b=>bif b then (Cl H vs y).bind fun l=>.ret (n,l) else tz H vs (z::xs) n.succ)=some r:=h
  rw [run_bind] at h;obtain ⟨b,_,h⟩:=h;cases b with
  | true =>
   simp only [H1,run_bind,ab] at h;obtain ⟨l,h1,rfl⟩:=h;exact ⟨0,y,rfl,rfl,h1⟩
  | false =>
   simp only [H2] at h;obtain ⟨i,y',h1,h2,h3⟩:=xa (z::xs) n.succ h;exact ⟨i+1,y',by simpa using h1,by omega,h3⟩
theorem gz.nt {P:Program} {H:Tab} {n n':Nat} {w0:World} {F0:Fz} {l:Nat->Prop} (h:gz ⟨P,H,n,w0,F0,l⟩ G w):gz ⟨P,H,n',w0,F0,l⟩ G w:=⟨h.fsz,h.f0,h.f1,h.fc,h.kept,h.size,h.os,h.tape,h.out,h.vars⟩
theorem Mm {P:Program} {H:Tab} {n:Nat} {w0:World} {Gc:Gh} {i:KI} (h:Rel ⟨P,H,n,w0,Gc.F,mg Gc (i.objs.map (·.1))⟩ G st a w) (hX:Fix Gc G) {vs:List Val} {us:List Value} {r:Nat×List D} (hv:VRL H G w vs us)
 (hr:ah call st (tz H vs i.xs 0)=some r):Out P H Gc w0 i r (qo us) w:=by
 obtain ⟨j,y,y1,y2,y3⟩:=xa i.xs 0 hr;rw [G8] at y2;simp only [Cl,run_bind,ag,ab,B4] at y3;obtain ⟨⟨l1,s1⟩,h1,⟨l2,s2⟩,h2,⟨hok,hsg⟩,h3⟩:=y3;simp only at h1 h2 hok hsg h3;obtain ⟨G2,_,_,_,k1,k2,k3,k4,k5,k6,k7,k8,k9⟩:=un h hv h1 h2 hok;obtain ⟨o1,o2,o3,o4,o5⟩:=FS.ok_spec hok;refine ⟨y,ghR H G2 s2.sg y.objs,us,by rw [y2]; exact y1,rfl,k3.ghR.nt,(hX.le k1).ghR hsg,by rw [<- h3]; exact k6,fun c ob hm=>?_,fun c ob b hm hb=>?_,fun c c' ob ob' b hm hm' hb hb'=>?_⟩
 · rw [<- h3,k7] at hm
   obtain ⟨m1,m2,m3⟩:=k8 c ob hm;exact ⟨m1,m2,fun b hb=>⟨(m3 b hb).1,(m3 b hb).2.1⟩⟩
 · rw [<- h3,k7] at hm
   obtain ⟨_,_,j,ob1,e1,e2,e3⟩:=(k8 c ob hm).2.2 b hb;exact h.pl j ob1 b e2 e3
 · rw [<- h3,k7] at hm hm'
   obtain ⟨_,_,j,ob1,e1,e2,e3⟩:=(k8 c ob hm).2.2 b hb;obtain ⟨_,_,j',ob2,e4,e5,e6⟩:=(k8 c' ob' hm').2.2 b hb';obtain rfl:=h.sep j j' ob1 ob2 b e2 e5 e3 e6;exact mz o1 (al e1) (al e4)
end
theorem oo (mp:Nat->Nat) (r:List D):∀ (shs:List Sh) (n:Nat),(ar mp r shs n).1.length=shs.length
 | [],n=>rfl
 | h::hs,n=>by simp only [ar,E8,oo mp r hs]
theorem qp:∀ {l:List Nat} {n:Nat},lc l n=true->∀ i t,l[i]?=some t->t=n+i
 | [],n,h,i,t,hi=>by simp at hi
 | x::l,n,h,i,t,hi=>by
  simp only [lc,B4] at h;cases i with
  | zero=>simp only [List.getElem?_cons_zero,B7.injEq] at hi; rw [<- hi]; exact ay.1 h.1
  | succ i=>have:=qp h.2 i t (by simpa using hi); omega
theorem Dm {call:Key->List D->R} {P:Program} {H:Tab} {f v:Nat} {fn:Func} {body:Code} (hH:bv P H) (hext:H.ext f=none) (hfn:P.funcs[f]?=some fn) (hbd:fn.body=some body) (hnm:(fn.name=="runtime.NumGoroutine")=false)
 (hop:∀ (E:Env) (X:Gh),E.P=P->E.H=H->∀ o,OpS E X call ⟨f,v,0⟩ o) (hdr:∀ (E:Env) (X:Gh),E.P=P->E.H=H->wn E X call ⟨f,v,0⟩)
 (hcall:∀ m ls x,call ⟨f,v,m+1⟩ ls=some x->kt P H fn.ntmps body ⟨f,v,m+1⟩ m ls x) {ls:List D} {r:Nat×List D} (hr:step H call P ⟨f,v,0⟩ ls=some r):FnT P H ⟨f,v,0⟩ ls r:=by
 unfold step at hr;simp only [hext,hfn,hbd] at hr;cases hoc:fm H f v body with
 | false=>rw [hoc] at hr; simp at hr
 | true =>
  rw [hoc] at hr;simp only [H1] at hr;cases hi:H.ki ⟨f,v,0⟩ with
  | none=>simp only [hi] at hr; simp at hr
  | some i =>
   simp only [hi] at hr;intro i' hi' G w us hin;rw [hi] at hi';obtain rfl:i=i':=by simpa using hi'
   revert hr
   cases hsl:lc (i.pars.map (·.1)) 0&&J1 (len i.pars) fn.ntmps with
   | false=>intro hr; simp at hr
   | true =>
    simp only [H1];intro hr;simp only [B4,dn,bh] at hsl;obtain ⟨hs1,hs2⟩:=hsl;let E:Env:=⟨P,H,fn.ntmps,w,G.F,mg G (i.objs.map (·.1))⟩
    let a:Act:={ tmps:=us.toArray++Array.replicate (fn.ntmps-us.toArray.size) undef,defers:=[] }
    have hus:us.length=i.pars.length:=by
     have:=hin.vals.length;rw [oo] at this;simpa using this
    have hrel:Rel E G (eo fn.ntmps i.pars i.objs ls) a w:=by
     refine Rel.unSt_ (us:=us) ⟨hin.fsz,fun _ _ h=>h,fun _ _ h=>.inl h,fun _ _ _=>rfl,fun _ _ _=>rfl,D1 _,rfl,rfl,rfl,hin.vars⟩ ?_ rfl hin.vals (fun j t hj=>.inl ?_) (fun c ob hm=>?_) (fun c ob b hm hb=>hin.plain b ⟨c,by rw [<- jk (fun c=>c) (fun _=>0) ls i.objs]; exact D0.2 ⟨_,hm,rfl⟩,hb⟩) hin.sep hin.ids
     · simp [a,E]; omega
     · have e:=qp hs1 j t hj
       rw [G8] at e;subst e;have hlt:t<us.length:=by
        have:=(B9.1 hj).1;simp at this; omega
       simp [a,Array.getD,hlt,Array.getElem_append_left];omega
     · obtain ⟨q1,q2,q3⟩:=hin.objs c ob hm
       exact ⟨q1,q2,fun b hb=>⟨q3 b hb,.inr ⟨c,by rw [<- jk (fun c=>c) (fun _=>0) ls i.objs]; exact D0.2 ⟨_,hm,rfl⟩,hb⟩⟩⟩
    have hbl:∀ id b,Sub (.block id b) body->ik E G call ⟨f,v,id+1⟩ (.block id b):=fun id b hs=>lz hoc hs fun ls x hx=>hcall id ls x hx
    have hco:∀ t a b,Sub (.cond (.tmp t) a b) body->ik E G call ⟨f,v,1000+t⟩ (.cond (.tmp t) a b):=fun t x y hs=>ol hoc hs fun ls x hx=>by
     have e:1000+t=(999+t)+1:=Nat.add_right_comm 999 1 t;rw [e] at hx ⊢;exact hcall (999+t) ls x hx
    have hb':fn.body≠none:=fun he=>by rw [he] at hbd; simp at hbd
    have hn':¬ fn.name="runtime.NumGoroutine":=fun he=>by rw [he] at hnm; simp at hnm
    refine ⟨.enter f us.toArray,w,by simp [callFunc,program,Sem.run,hfn,hb',hn',pure,Bind.bind,Sem.bind],?_⟩
    refine calls_of_wp hfn hbd ?_;refine ge (E:=E) (X:=G) hoc (hop E G rfl rfl) (hdr E G rfl rfl) hbl hco body .refl hrel (Fix.refl G) (Df ..) hr fun e st' G' a' w' h' hX' hn' hr'=>?_
    have fin:(ex call ((tw H st' fn.results.toList).bind fun vs=>tz H vs i.xs 0) st' [] fun out _=>some out)=some r →
     a'.defers=[]/\∃ v,(results fn a'.tmps).run P w'=.ok v w'/\Out P H G w i r v w':=fun hq=>by
     rw [eb,E2] at hq;obtain ⟨out,q1,q2⟩:=hq;simp only [B7.injEq] at q2;subst q2;rw [run_bind] at q1;obtain ⟨vs,q1,q2⟩:=q1;obtain ⟨us',p1,p2⟩:=uu (E:=E) hH h' fn.results.toList q1;exact ⟨h'.dfs,qo us',wz p2,Mm h' hX' p1 q2⟩
    cases e <;> simp only at hr' <;> first | exact fin hr' | (simp at hr'; done)
end Go.Q
end
section
namespace Go.Q
open Go
open Go.RowKit (Below)
def Dn (P:Program) (H:Tab) (key:Key) (ls:List D) (x:Nat×List D):Prop :=
 match H.ext key.f,key.n with
 | some _,0=>FnT P H key ls x
 | some _,_+1=>True
 | none,0=>FnT P H key ls x
 | none,m+1=>∀ fn body,P.funcs[key.f]?=some fn->fn.body=some body->kt P H fn.ntmps body key m ls x
structure Hu (P:Program) (H:Tab):Prop where
 ty:bv P H
 eq:Ct P H
 mixed:P.follows .mixedOrders=true
 names:∀ (f:Nat) (fn:Func),P.funcs[f]?=some fn->(fn.name=="runtime.NumGoroutine")=false
 ext:∀ f g,H.ext f=some g->∀ v ls x,g v ls=some x->FnT P H ⟨f,v,0⟩ ls x
theorem nd {P:Program} {H:Tab} (h:Hu P H):uj H P (Dn P H):=by
 intro call hc key ls r hr;obtain ⟨f,v,n⟩:=key;have hfn:∀ g v ls x,call ⟨g,v,0⟩ ls=some x->FnT P H ⟨g,v,0⟩ ls x:=fun g v ls x hx=>by
  have:=hc _ _ _ hx;unfold Dn at this;cases he:H.ext g <;> simp only [he] at this <;> exact this
 have hop:∀ (E:Env) (X:Gh),E.P=P->E.H=H->∀ o,OpS E X call ⟨f,v,0⟩ o:=fun E X eP eH o=>Ht (by rw [eP,eH]; exact h.ty) (by rw [eP,eH]; exact h.eq) (fun g v ls x hx=>by rw [eP,eH]; exact hfn g v ls x hx) o
 have hdr:∀ (E:Env) (X:Gh),E.P=P->E.H=H->wn E X call ⟨f,v,0⟩:=fun E X eP eH=>Ns (f:=f) (v:=v) (by rw [eP]; exact h.mixed) (hop E X eP eH)
 unfold Dn;cases he:H.ext f with
 | some g =>
  cases n with
  | zero =>
   simp only [];unfold step at hr;simp only [he] at hr;exact h.ext f g he v ls r hr
  | succ n=>simp only []
 | none =>
  have hpc:∀ m ls x,call ⟨f,v,m+1⟩ ls=some x->∀ fn body,P.funcs[f]?=some fn->fn.body=some body->kt P H fn.ntmps body ⟨f,v,m+1⟩ m ls x:=fun m ls x hx=>by
   have:=hc _ _ _ hx;unfold Dn at this;simp only [he] at this;exact this
  have hex:∃ fn body,P.funcs[f]?=some fn/\fn.body=some body:=by
   unfold step at hr;simp only [he] at hr;cases hf:P.funcs[f]? with
   | none=>simp [hf] at hr
   | some fn =>
    simp only [hf] at hr;cases hb:fn.body with
    | none=>simp [hb] at hr
    | some body=>exact ⟨fn,body,rfl,hb⟩
  obtain ⟨fn,body,hf,hb⟩:=hex;cases n with
  | zero =>
   simp only [];exact Dm h.ty he hf hb (h.names f fn hf) hop hdr (fun m ls x hx=>hpc m ls x hx fn body hf hb) hr
  | succ n =>
   simp only [];intro fn' body' hf' hb';rw [hf] at hf';obtain rfl:fn=fn':=by simpa using hf'
   rw [hb] at hb';obtain rfl:body=body':=by simpa using hb'
   exact wo he hf hb hop hdr (fun m ls x hx=>hpc m ls x hx fn body hf hb) hr
theorem Do {P:Program} {H:Tab} (h:Hu P H) {f v:Nat} {ls:List D} {x:Nat×List D} (hr:run H P ⟨f,v,0⟩ ls=some x):FnT P H ⟨f,v,0⟩ ls x:=by
 have:=my (nd h) hr;unfold Dn at this;cases he:H.ext f <;> simp only [he] at this <;> exact this
end Go.Q
end
section
namespace Go.Q
open Go
open Go.RowKit (Below)
mutual
def WD (H:Tab):D->CT->Prop
 | .int n,ct=>∃ k,ct=.int k/\(Lit.int k n).wf=true
 | .bool _,ct=>ct=.bool
 | .str s,ct=>ct=.str/\s.size<=maxLen
 | .sl rows,ct=>∃ e ti,ct=.sl e/\H.ty e=some ti/\rows.length<=maxLen/\WRs H rows ti.lay
def WL (H:Tab):List D->List CT->Prop
 | [],cts=>cts=[]
 | d::ds,cts=>∃ ct cts',cts=ct::cts'/\WD H d ct/\WL H ds cts'
def WRs (H:Tab):List (List D)->List CT->Prop
 | [],_=>True
 | r::rs,lay=>WL H r lay/\WRs H rs lay
end
theorem WL.append {H:Tab}:∀ {d1 d2:List D} {c1 c2:List CT},WL H d1 c1->WL H d2 c2->WL H (d1++d2) (c1++c2)
 | [],d2,c1,c2,h,h'=>by simp only [WL] at h; subst h; simpa using h'
 | d::ds,d2,c1,c2,h,h'=>by
  simp only [WL] at h;obtain ⟨ct,cts,rfl,h1,h2⟩:=h;simp only [E9,WL];exact ⟨ct,cts++c2,rfl,h1,h2.append h'⟩
theorem WRs.append {H:Tab} {lay:List CT}:∀ {r1 r2:List (List D)},WRs H r1 lay->WRs H r2 lay->WRs H (r1++r2) lay
 | [],r2,h,h'=>by simpa using h'
 | r::rs,r2,h,h'=>by
  simp only [WRs] at h;simp only [E9,WRs];exact ⟨h.1,h.2.append h'⟩
def xb (P:Program) (n:Nat):List Field->Nat->Bool
 | [],i=>i==n
 | f::fs,i=>f.offset==i&&xb P n fs (i+P.cellsOf f.type)
def uw (P:Program) (H:Tab) (S:List TypeId):Bool :=
 S.all fun t=>(match H.ty t with | some ti=>Nat.beq (P.cellsOf t) (len ti.lay) | none=>false)&&match P.underlying t with
  | some .bool | some (.int _) | some .string=>P.cellsOf t==1
  | some (.slice e)=>S.contains e&&decide (0<P.cellsOf e)&&P.cellsOf t==1
  | some (.struct fs)=>fs.toList.all (fun f=>S.contains f.type)&&xb P (P.cellsOf t) fs.toList 0
  | _=>false
section
variable {A:Type} {enc:TypeId×Value->A} {P:Program} {H:Tab} {W:World} {sp:Nat->Bool}
theorem oq {cs:List Value} {lay:List CT} {F:Fz} (hlc:lay.length=cs.length):∀ (fs:List Field) (i:Nat),xb P cs.length fs i=true →
 (∀ f∈fs,∃ ds B tl,RL H W F ds tl ((cs.drop f.offset).take (P.cellsOf f.type)) B/\WL H ds tl/\(lay.drop f.offset).take (P.cellsOf f.type)=tl) →
 ∃ ds B,RL H W F ds (lay.drop i) (cs.drop i) B/\WL H ds (lay.drop i)
 | [],i,hl,h=>by
  simp only [xb,beq_iff_eq] at hl;subst hl;have h1:lay.drop cs.length=[]:=List.drop_eq_nil_of_le (by omega)
  exact ⟨[],[],by rw [h1]; simp [RL],by rw [h1]; simp [WL]⟩
 | f::fs,i,hl,h=>by
  simp only [xb,B4,beq_iff_eq] at hl;obtain ⟨ho,hl⟩:=hl;obtain ⟨d1,B1,tl,h1,h2,h3⟩:=h f (by simp)
  obtain ⟨d2,B2,h4,h5⟩:=oq (F:=F) hlc fs _ hl (fun f hf=>h f (by simp [hf]))
  subst h3;rw [ho] at h1 h2;have e1:=N2 (P.cellsOf f.type) (lay.drop i);have e2:=N2 (P.cellsOf f.type) (cs.drop i);rw [N4] at e1 e2;exact ⟨d1++d2,B1++B2,by have:=h1.append h4; rwa [e1,e2] at this,by have:=h2.append h5; rwa [e1] at this⟩
theorem Hv {t:TypeId} {ti:TI} (hH:bv P H) (hty:H.ty t=some ti) {td:TypeDesc} (hu:P.underlying t=some td) :
 match td with
 | .bool=>ti.lay=[.bool]
 | .int k=>ti.lay=[.int k]
 | .string=>ti.lay=[.str]
 | .slice e=>ti.lay=[.sl e]
 | .struct fs=>fs.toList.all (fun f=>match H.ty f.type with | some tf=>decide (iw (len tf.lay) (iy f.offset ti.lay)=tf.lay)&&E7 0 (len tf.lay) | none=>false)=true
 | _=>True:=by
 have:=hH t ti hty;cases td <;> simp only [tyB,hu,B4] at this ⊢ <;> first | exact this.2.2 | (simp_all; done)
theorem mh {S:List TypeId} (hH:bv P H) (hS:uw P H S=true):∀ (fuel:Nat) (t:TypeId) (cs:List Value) (x:DataW A×List MemPlace),t∈S->DataW.trod enc P W 0 sp true fuel t cs=some x →
 ∃ ti ds B,H.ty t=some ti/\RL H W (fun b _=>b<W.heap.size) ds ti.lay cs B/\WL H ds ti.lay/\P.cellsOf t=ti.lay.length
 | 0,t,cs,x,ht,h=>by simp [DataW.trod] at h
 | fuel+1,t,cs,x,ht,h=>by
  have hp:=C6.1 hS t ht;have IH:=fun t cs x=>mh hH hS fuel t cs x
  simp only [B4] at hp;obtain ⟨hc,hp⟩:=hp;cases hty:H.ty t with
  | none=>rw [hty] at hc; simp at hc
  | some ti =>
   rw [hty] at hc;have hcl:P.cellsOf t=ti.lay.length:=by simpa [ay,bh] using hc
   cases hu:P.underlying t with
   | none=>rw [hu] at hp; simp at hp
   | some td =>
    rw [hu] at hp;have htd:=Hv hH hty hu;cases td with
    | bool =>
     obtain ⟨b,rfl,_⟩:=DataW.trod_bool hu h;simp only at htd;refine ⟨ti,[.bool b],[],rfl,?_,?_,hcl⟩
     · rw [htd]; simp only [RL,RC]; exact ⟨_,[],_,[],[],[],rfl,rfl,rfl,⟨rfl,rfl,rfl⟩,rfl,rfl,rfl⟩
     · rw [htd]; simp only [WL,WD]; exact ⟨_,[],rfl,rfl,rfl⟩
    | int k =>
     obtain ⟨n,rfl,_,hw⟩:=DataW.trod_int hu h;simp only at htd;refine ⟨ti,[.int n],[],rfl,?_,?_,hcl⟩
     · rw [htd]; simp only [RL,RC]; exact ⟨_,[],_,[],[],[],rfl,rfl,rfl,⟨k,rfl,rfl,rfl⟩,rfl,rfl,rfl⟩
     · rw [htd]; simp only [WL,WD]; exact ⟨_,[],rfl,⟨k,rfl,hw⟩,rfl⟩
    | string =>
     obtain ⟨s,rfl,_,hs⟩:=DataW.trod_string hu h;simp only at htd;refine ⟨ti,[.str s],[],rfl,?_,?_,hcl⟩
     · rw [htd]; simp only [RL,RC]; exact ⟨_,[],_,[],[],[],rfl,rfl,rfl,⟨rfl,rfl,rfl⟩,rfl,rfl,rfl⟩
     · rw [htd]; simp only [WL,WD]; exact ⟨_,[],rfl,⟨rfl,hs⟩,rfl⟩
    | slice e =>
     simp only [B4,decide_eq_true_eq] at hp;obtain ⟨⟨hpe,hpc⟩,_⟩:=hp;have hpe:e∈S:=by simpa using hpe
     simp only at htd;obtain ⟨te,hte⟩:∃ te,H.ty e=some te:=by
      have:=C6.1 hS e hpe;simp only [B4] at this;cases hq:H.ty e with
      | none=>rw [hq] at this; simp at this
      | some te=>exact ⟨te,rfl⟩
     rcases DataW.trod_slice hu h with ⟨rfl,_⟩|⟨a,len,cap,elems,rest,n,hn,rfl,_,_,hlc,hcm,hel,hat,_⟩
     · refine ⟨ti,[.sl []],[],rfl,?_,?_,hcl⟩
       · rw [htd]; simp only [RL,RC]
         exact ⟨_,[],_,[],[],[],rfl,rfl,rfl,⟨e,te,none,0,rfl,hte,rfl,.no (D1 _) (Fz.nA (n:=W.heap.size) fun _ _ h=>h),.inl ⟨trivial,rfl⟩⟩,rfl,rfl,rfl⟩
       · rw [htd]; simp only [WL,WD,WRs]; exact ⟨_,[],rfl,⟨e,te,rfl,hte,Nat.zero_le _,trivial⟩,rfl⟩
     · obtain rfl:n=fuel:=by omega
       have hce:∀ {te'},H.ty e=some te'->P.cellsOf e=te'.lay.length:=fun {te'} hq=>by
        have:=C6.1 hS e hpe;simp only [B4] at this;rw [hq] at this;simpa [ay,bh] using this.1
       have hrow:∀ i,i<len->∃ r vs B,(∀ j u,vs[j]?=some u->W.cell? (a.add (i*P.cellsOf e+j))=some u)/\RL H W (fun b _=>b<W.heap.size) r te.lay vs B/\WL H r te.lay:=by
        intro i hi;have h1:=hat i hi;have hlt:i<elems.length:=by omega
        rw [D5 hlt] at h1;obtain ⟨vs,hvs,htr⟩:=E2.1 h1;obtain ⟨te',r,B,k0,k1,k2,_⟩:=IH e vs _ hpe htr;rw [hte] at k0;obtain rfl:te=te':=by simpa using k0
        refine ⟨r,vs,B,fun j u hj=>?_,k1,k2⟩
        unfold World.cells? at hvs;split at hvs
        · have hlen:=mapM_some_length hvs
          have hjl:j<P.cellsOf e:=by
           have:=(B9.1 hj).1;simpa [hlen] using this
          have:=mapM_some_get hvs j j (by simp [hjl])
          rw [hj] at this;rw [<- this,Addr.add_add]
        · simp at hvs
       have hall:∀ m,m<=len->∃ es vs B,(∀ j u,vs[j]?=some u->W.cell? (a.add j)=some u)/\vs.length=m*P.cellsOf e/\es.length=m/\WRs H es te.lay/\af H W (fun b _=>b<W.heap.size) es te.lay vs B:=by
        intro m;induction m with
        | zero=>intro _; exact ⟨[],[],[],by simp,by simp,rfl,by simp [WRs],by simp [af]⟩
        | succ m ih =>
         intro hm;obtain ⟨es,vs,B,q1,q2,q3,q4,q5⟩:=ih (by omega)
         obtain ⟨r,vs',B',k1,k2,k3⟩:=hrow m (by omega)
         have hl':=(RL.length k2).1;refine ⟨es++[r],vs++vs',B++(B'++[]),fun j u hj=>?_,by rw [E6,q2,hl',hce hte,Nat.succ_mul],by simp [q3],q4.append (by simp only [WRs]; exact ⟨k3,trivial⟩),q5.append (by simp only [af]; exact ⟨vs',[],B',[],by simp,rfl,k2,rfl,rfl⟩)⟩
         by_cases hjl:j<vs.length
         · rw [D2 hjl] at hj; exact q1 j u hj
         · rw [List.getElem?_append_right (by omega)] at hj
           have:=k1 _ u hj;rw [q2] at this;rw [<- this]; congr 2;have:m*P.cellsOf e<=j:=by omega
           omega
       obtain ⟨es,vs,B,q1,q2,q3,q4,q5⟩:=hall len (D1 _);have hrd:∃ B,RC H W (fun b _=>b<W.heap.size) (.sl es) (.sl e) (.slice (some a) len cap) B:=by
        by_cases hz:len=0
        · subst hz
          obtain rfl:es=[]:=by simpa using q3
          exact ⟨[],by simp only [RC]; exact ⟨e,te,some a,cap,rfl,hte,rfl,.no (Nat.zero_le _) (Fz.nA (n:=W.heap.size) fun _ _ h=>h),.inl ⟨trivial,trivial⟩⟩⟩
        · have hv0:0<vs.length:=by rw [q2]; exact Nat.mul_pos (by omega) hpc
          have hc0:=q1 0 vs[0] (by simp [hv0])
          have hsp:a.spot=none:=by simpa [Addr.add] using World.cell?_spot hc0
          obtain ⟨b,o,s⟩:=a;simp only [] at hsp;subst hsp;refine ⟨b::B,?_⟩;simp only [RC];refine ⟨e,te,some ⟨b,o,none⟩,cap,rfl,hte,by rw [q3],.no (by omega) (Fz.nA (n:=W.heap.size) fun _ _ h=>h),.inr ⟨b,o,vs,B,rfl,rfl,fun j u hj=>?_,q5⟩⟩
          have:=q1 j u hj;rw [ed] at this;refine ⟨this,?_⟩;simp only [World.cell?] at this;rcases N8 b W.heap.size with hb | hb
          · exact hb
          · rw [F5 hb] at this; simp at this
       obtain ⟨B',hrd⟩:=hrd;refine ⟨ti,[.sl es],B'++[],rfl,?_,?_,hcl⟩
       · rw [htd]; simp only [RL]; exact ⟨_,[],_,[],B',[],rfl,rfl,rfl,hrd,rfl,rfl,rfl⟩
       · rw [htd]; simp only [WL,WD]; exact ⟨_,[],rfl,⟨e,te,rfl,hte,by omega,q4⟩,rfl⟩
    | struct fs =>
     simp only [B4] at hp;obtain ⟨hp1,hp2⟩:=hp;simp only at htd;obtain ⟨xs,n,hn,_,hcs,hxl,hf⟩:=DataW.trod_struct hu h;obtain rfl:n=fuel:=by omega
     obtain ⟨ds,B,h1,h2⟩:=oq (P:=P) (H:=H) (W:=W) (cs:=cs) (lay:=ti.lay) (F:=fun b _=>b<W.heap.size) (by omega) fs.toList 0 (by rw [hcs]; exact hp2) (fun f hfm=>by
      obtain ⟨i,hi⟩:=List.getElem?_of_mem hfm;have hi':fs[i]?=some f:=by simpa using hi
      have h3:=hf i f hi';have hlt:i<xs.length:=by rw [hxl]; exact (E5.1 hi').1
      rw [D5 hlt] at h3;obtain ⟨tf,ds,B,k0,k1,k2,k3⟩:=IH _ _ _ (by simpa using C6.1 hp1 f hfm) h3
      refine ⟨ds,B,tf.lay,k1,k2,?_⟩;have:=C6.1 htd f hfm;rw [k0] at this;simp only [B4,decide_eq_true_eq,dh,di,bh] at this;rw [k3]; exact this.1)
     exact ⟨ti,ds,B,rfl,by simpa using h1,by simpa using h2,hcl⟩
    | _=>simp at hp
end
end Go.Q
end
section
namespace Go.Q
open Go
open Go.RowKit (Below)
def rj:CT->Sh
 | .int k=>.int k
 | .bool=>.bool
 | .str=>.str
 | .sl e=>.im e
 | .ptr=>.dead
 | .fn=>.dead
 | .err=>.err
def qq (ti:TI):Sh:=bif ti.agg then .agg (ti.lay.map rj) else match ti.lay with | [c]=>rj c | _=>.dead
section
variable {H:Tab} {P:Program} {W:World} {G:Gh}
theorem se (hF:∀ b o,b<W.heap.size->G.F b o):∀ {ds:List D} {cts:List CT} {vs:List Value} {B:List Nat} {r:List D} {n:Nat},RL H W (fun b _=>b<W.heap.size) ds cts vs B->Rds r n ds->(∀ c∈cts,c≠.ptr/\c≠.fn/\c≠.err) →
 VRL H G W (ar (fun c=>c) r (cts.map rj) n).1 vs/\(ar (fun c=>c) r (cts.map rj) n).2=n+ds.length
 | [],cts,vs,B,r,n,h,hr,hc=>by
  simp only [RL] at h;obtain ⟨rfl,rfl,rfl⟩:=h;simp [ar,VRL]
 | d::ds,cts,vs,B,r,n,h,hr,hc=>by
  simp only [RL] at h;obtain ⟨ct,cts',u,us,B1,B2,rfl,rfl,rfl,h4,h5⟩:=h;have hd:nth r n=d:=by simpa using hr 0 d rfl
  have htl:Rds r (n+1) ds:=fun i x hi=>by
   have:=hr (i+1) x (by simpa using hi)
   rwa [show n+(i+1)=n+1+i by omega] at this
  obtain ⟨k1,k2⟩:=se hF h5 htl fun c hm=>hc c (B6 _ hm)
  have one:VR H G W (unV (fun c=>c) r (rj ct) n).1 u/\(unV (fun c=>c) r (rj ct) n).2=n+1:=by
   cases d with
   | int m =>
    simp only [RC] at h4;obtain ⟨k,rfl,rfl,_⟩:=h4;simp only [rj,unV,hd,D.I,VR];exact ⟨trivial,trivial⟩
   | bool b =>
    simp only [RC] at h4;obtain ⟨rfl,rfl,_⟩:=h4;simp only [rj,unV,hd,D.B,VR];exact ⟨trivial,trivial⟩
   | str s =>
    simp only [RC] at h4;obtain ⟨rfl,rfl,_⟩:=h4;simp only [rj,unV,hd,D.S,VR];exact ⟨trivial,trivial⟩
   | sl rows =>
    have h6:=h4;simp only [RC] at h4;obtain ⟨e,ti,A,cap,rfl,_⟩:=h4;simp only [rj,unV,hd,D.L,VR];exact ⟨⟨B1,RC.mono _ _ _ _ (fun b _ q hq=>⟨hF b q hq,rfl⟩) h6⟩,trivial⟩
  simp only [C0,ar];rw [one.2];refine ⟨by simp only [VRL]; exact ⟨u,us,rfl,one.1,k1⟩,?_⟩
  rw [k2]; simp only [E8]; omega
inductive ot (H:Tab) (W:World):List TypeId->List (List D)->List Value->Prop
 | nil:ot H W [] [] []
 | cons {t:TypeId} {ti:TI} {ds:List D} {v:Value} {B:List Nat} {ts:List TypeId} {dss:List (List D)} {vs:List Value}:H.ty t=some ti->RL H W (fun b _=>b<W.heap.size) ds ti.lay v.cells.toList B->(ti.agg=false->ti.lay.length=1)->v.cells.toList.length=ti.lay.length →
  (ti.agg=true->v=.agg v.cells)->(ti.agg=false->v.oneCell'=true)->fj ti.lay=true->ot H W ts dss vs->ot H W (t::ts) (ds::dss) (v::vs)
theorem zr (hF:∀ b o,b<W.heap.size->G.F b o):∀ {ts:List TypeId} {dss:List (List D)} {vs:List Value} {r:List D} {n:Nat},ot H W ts dss vs->Rds r n dss.flatten →
 VRL H G W (ar (fun c=>c) r (ts.map fun t=>qq ((H.ty t).getD default)) n).1 vs/\(ar (fun c=>c) r (ts.map fun t=>qq ((H.ty t).getD default)) n).2=n+dss.flatten.length
 | _,_,_,r,n,.nil,hr=>by simp [ar,VRL]
 | _,_,_,r,n,.cons (t:=t) (ti:=ti) (ds:=ds) (v:=v) (B:=B) (ts:=ts) (dss:=dss) (vs:=vs) h1 h2 h3 h4 h5 h6 h7 h8,hr=>by
  simp only [O6] at hr;have hpl:∀ c∈ti.lay,c≠.ptr/\c≠.fn/\c≠.err:=fun c hc=>by
   have:=C6.1 h7 c hc;cases c <;> simp at this ⊢
  obtain ⟨k1,k2⟩:=se hF h2 hr.left hpl;obtain ⟨k3,k4⟩:=zr hF h8 hr.right;have one:VR H G W (unV (fun c=>c) r (qq ti) n).1 v/\(unV (fun c=>c) r (qq ti) n).2=n+ds.length:=by
   unfold qq;cases hag:ti.agg with
   | true =>
    simp only [H1,unV,VR];refine ⟨⟨v.cells.toList,?_,k1,RL.one h2⟩,k2⟩;have:=h5 hag;simpa using this
   | false =>
    have hl1:=h3 hag;simp only [H2]
    match hlay:ti.lay,hl1 with
    | [c],_ =>
     simp only [];rw [hlay] at k1 k2;simp only [C0,List.map_nil,ar] at k1 k2;have hv:v.cells.toList=[v]:=by
      have:=h6 hag;cases v <;> first | rfl | (simp [Value.oneCell'] at this)
     rw [hv] at k1;simp only [VRL] at k1;obtain ⟨u,us,e,q1,_⟩:=k1;simp only [N7.injEq] at e;rw [e.1];exact ⟨q1,k2⟩
  simp only [C0,ar,h1,K2];rw [one.2];refine ⟨by simp only [VRL]; exact ⟨v,vs,rfl,one.1,k3⟩,?_⟩
  rw [k4]; simp only [O6,E6]; omega
theorem Bj (hfit:Hu P H) {f:FuncId} {fn:Func} {ts:List TypeId} {dss:List (List D)} {args:Array Value} {ps:List (Nat×Sh)} {y:XS} (hfn:P.funcs[f]?=some fn) (hbd:fn.body.isSome=true) (hki:H.ki ⟨f,0,0⟩=some ⟨ps,[],[y]⟩)
 (hps:ps.map (·.2)=ts.map fun t=>qq ((H.ty t).getD default)) (hy:y.vals.map (·.2)=[.bool]) (ha:ot H W ts dss args.toList) (hgv:∀ p∈H.gv,p.1<W.heap.size/\∃ cs t z,W.heap[p.1]?=some (.cells cs t z)/\p.2 cs) {b:Bool} (hr:run H P ⟨f,0,0⟩ dss.flatten=some (0,[.bool b])) :
 Calls P f args W fun e W'=>e=.returned (.bool b)/\Below W.heap.size W W':=by
 let G:Gh:={ F:=fun b _=>b<W.heap.size,U:=fun _=>False,bm:=fun _=>0,hv:=fun _=>undef,ly:=fun _=>[],blk:=fun _ _=>False,nh:=fun _ _ _ _=>undef,pv:=fun _ _=>undef,vm:=fun _=>0,nA:=Fz.nA (n:=W.heap.size) fun _ _ h=>h }
 have hs:=Do hfit hr _ hki G W args.toList ?_
 · obtain ⟨n,w1,c1,c2⟩:=hs
   have hb':fn.body≠none:=fun he=>by rw [he] at hbd; simp at hbd
   have hn':¬ fn.name="runtime.NumGoroutine":=fun he=>by
    have:=hfit.names f fn hfn;rw [he] at this; simp at this
   have hrun:(callFunc f args).run P W=.ok (.enter f args) W:=by simp [callFunc,program,Sem.run,hfn,hb',hn',pure,Bind.bind,Sem.bind]
   simp only [Array.toArray_toList] at c1;rw [hrun] at c1;simp only [Result.ok.injEq] at c1;obtain ⟨rfl,rfl⟩:=c1;refine Calls.mono c2 fun e w' he=>?_
   cases e with
   | panicked ch=>exact he.elim
   | outgrown=>exact he.elim
   | returned v =>
    obtain ⟨y',Gr,us,y1,y2,y3,_,y4,_⟩:=he;obtain rfl:y=y':=by simpa using y1
    rw [hy] at y4;simp only [ar,unV,nth,VRL,VR] at y4;obtain ⟨u,us',rfl,rfl,rfl⟩:=y4;refine ⟨by rw [y2]; rfl,y3.os,y3.tape,y3.out,y3.size,fun k hk=>y3.kept k hk ?_⟩
    rintro ⟨c,hc,hb⟩
    exact hb
 · have hr0:Rds dss.flatten 0 dss.flatten:=fun i d hi=>by simp [nth,K1,hi]
   have:=zr (G:=G) (fun b o h=>h) ha hr0
   refine ⟨by rw [hps]; exact this.1,fun c ob hm=>?_,fun c c' ob ob' b hm=>?_,fun c hc=>hc.elim,fun b o h=>h,fun p hp=>⟨(hgv p hp).1,fun ⟨c,hc,hb⟩=>hb.elim,(hgv p hp).2⟩,fun b ⟨c,hc,hb⟩=>hb.elim⟩
   · simp [unO] at hm
   · simp [unO] at hm
end
end Go.Q
end
section
namespace Go.Q
open Go
open Go.RowKit (Below)
section
variable {A:Type} {enc:TypeId×Value->A} {P:Program} {H:Tab} {W:World} {sp:Nat->Bool}
theorem WL.plain:∀ {ds:List D} {cts:List CT},WL H ds cts->fj cts=true
 | [],cts,h=>by simp only [WL] at h; subst h; rfl
 | d::ds,cts,h=>by
  simp only [WL] at h;obtain ⟨ct,cts',rfl,h1,h2⟩:=h;have:=WL.plain h2;simp only [fj,O0,B4] at this ⊢;refine ⟨?_,this⟩;cases d <;> simp only [WD] at h1
  · obtain ⟨k,rfl,_⟩:=h1; rfl
  · subst h1; rfl
  · obtain ⟨rfl,_⟩:=h1; rfl
  · obtain ⟨e,ti,rfl,_⟩:=h1; rfl
theorem Dp {S:List TypeId} (hH:bv P H) (hS:uw P H S=true) {t:TypeId} {v:Value} {r:Reach} {base:Nat} {d:DataW A} {p:List MemPlace} (ht:t∈S) (hv:Value.okWide P W r base t v) (h:DataW.Trod enc P W 0 sp true t v d p) :
 ∃ ti ds,H.ty t=some ti/\WL H ds ti.lay/\∀ {ts dss vs},ot H W ts dss vs->ot H W (t::ts) (ds::dss) (v::vs):=by
 obtain ⟨fuel,h⟩:=h;obtain ⟨ti,ds,B,h1,h2,h3,h4⟩:=mh hH hS fuel t _ _ ht h;refine ⟨ti,ds,h1,h3,fun ha=>?_⟩
 have hlen:=(RL.length h2).1;have hb:=hH t ti h1;simp only [tyB,B4] at hb;obtain ⟨_,hb⟩:=hb;have hp:=C6.1 hS t ht;simp only [B4] at hp;obtain ⟨_,hp⟩:=hp;unfold Value.okWide at hv;cases hu:P.underlying t with
 | none=>rw [hu] at hp; simp at hp
 | some td =>
  rw [hu] at hp hb hv;cases fuel with
  | zero=>simp [DataW.trod] at h
  | succ fuel =>
  cases td with
  | struct fs =>
   simp only at hv hb;obtain ⟨cs,rfl,_⟩:=hv;simp only [B4] at hb;have hag:ti.agg=true:=hb.1.1;exact .cons h1 h2 (fun he=>by rw [hag] at he; simp at he) hlen (fun _=>rfl) (fun he=>by rw [hag] at he; simp at he) h3.plain ha
  | bool =>
   simp only [B4,C5,decide_eq_true_eq] at hb;have hone:v.oneCell'=true:=by
    simp only [Cell.okWide,hu] at hv;cases v <;> simp_all [Cell.ok,Value.oneCell']
   exact .cons h1 h2 (fun _=>by rw [hb.2]; rfl) hlen (fun he=>by rw [hb.1] at he; simp at he) (fun _=>hone) h3.plain ha
  | int k =>
   simp only [B4,C5,decide_eq_true_eq] at hb;have hone:v.oneCell'=true:=by
    simp only [Cell.okWide,hu] at hv;cases v <;> simp_all [Cell.ok,Value.oneCell']
   exact .cons h1 h2 (fun _=>by rw [hb.2]; rfl) hlen (fun he=>by rw [hb.1] at he; simp at he) (fun _=>hone) h3.plain ha
  | string =>
   simp only [B4,C5,decide_eq_true_eq] at hb;have hone:v.oneCell'=true:=by
    simp only [Cell.okWide,hu] at hv;cases v <;> simp_all [Cell.ok,Value.oneCell']
   exact .cons h1 h2 (fun _=>by rw [hb.2]; rfl) hlen (fun he=>by rw [hb.1] at he; simp at he) (fun _=>hone) h3.plain ha
  | slice e =>
   simp only [B4,C5,decide_eq_true_eq] at hb;have hone:v.oneCell'=true:=by
    simp only [Cell.okWide,hu] at hv;cases v <;> simp_all [Cell.ok,Value.oneCell']
   exact .cons h1 h2 (fun _=>by rw [hb.1.2]; rfl) hlen (fun he=>by rw [hb.1.1] at he; simp at he) (fun _=>hone) h3.plain ha
  | _=>simp at hp
end
end Go.Q
end
section
namespace Go.Q
open Go
def sub (b:Int) (n:Nat):Int:=if (n:Int)<=b then b-n else -1
def Bd (b:Int):Prop:=-1<=b/\b<=4611686018427387904
theorem Bd.sub {b:Int} (h:Bd b) (n:Nat):Bd (sub b n):=by unfold Bd Q.sub at *; split <;> omega
open Classical in
noncomputable def eqb {α:Type} (a b:α):Bool:=decide (a=b)
theorem Hw {α:Type} {a b:α}:eqb a b=true↔a=b:=by simp [eqb]
theorem WL.len {H:Tab}:∀ {ds:List D} {lay:List CT},WL H ds lay->ds.length=lay.length
 | [],lay,h=>by simp only [WL] at h; simp [h]
 | d::ds,lay,h=>by
  simp only [WL] at h;obtain ⟨ct,cts,rfl,_,h2⟩:=h;simp [WL.len h2]
theorem Dq {H:Tab} {ds:List D} (h:WL H ds []):ds=[]:=by
 cases ds with
 | nil=>rfl
 | cons d ds=>simp [WL] at h
theorem Dr {H:Tab} {k:IntKind} {ds:List D} {cts:List CT} (h:WL H ds (.int k::cts)):∃ n ds',ds=.int n::ds'/\(Lit.int k n).wf=true/\WL H ds' cts:=by
 cases ds with
 | nil=>simp [WL] at h
 | cons d ds =>
  simp only [WL,N7.injEq] at h;obtain ⟨_,_,⟨rfl,rfl⟩,h1,h2⟩:=h;cases d <;> simp [WD] at h1
  exact ⟨_,ds,rfl,h1,h2⟩
end Go.Q
namespace Go.Q
open Go
theorem WL.part {H:Tab}:∀ {ds:List D} {cts:List CT} (off n:Nat),WL H ds cts->WL H ((ds.drop off).take n) ((cts.drop off).take n)
 | [],cts,off,n,h=>by simp only [WL] at h; subst h; simp [WL]
 | d::ds,cts,0,0,h=>by simp [WL]
 | d::ds,cts,0,n+1,h=>by
  simp only [WL] at h;obtain ⟨ct,cts',rfl,h1,h2⟩:=h;have:=WL.part 0 n h2;simp only [List.drop_zero,List.take_succ_cons,WL] at this ⊢;exact ⟨ct,_,rfl,h1,this⟩
 | d::ds,cts,off+1,n,h=>by
  simp only [WL] at h;obtain ⟨ct,cts',rfl,h1,h2⟩:=h;simpa using WL.part off n h2
end Go.Q
end
section
namespace Go.Q
open Go
open Go.RowKit (Below)
section
variable {A:Type} {enc:TypeId×Value->A} {P:Program} {H:Tab} {W:World}
theorem sf {S:List TypeId} (hH:bv P H) (hS:uw P H S=true) {r:Reach} {base:Nat} {sp:Nat->Bool}:∀ (ts:List TypeId) (vs:List Value) (ds:List (DataW A)) (ps:List MemPlace),DataW.TrodAll enc P W 0 sp true ts vs ds ps->(∀ t∈ts,t∈S) →
 (∀ (j:Nat) t v,ts[j]?=some t->vs[j]?=some v->Value.okWide P W r base t v)->∃ dss:List (List D),ot H W ts dss vs/\dss.length=ts.length/\∀ (j:Nat) (t:TypeId) (ds:List D),ts[j]?=some t->dss[j]?=some ds->∃ ti,H.ty t=some ti/\WL H ds ti.lay
 | [],vs,ds,ps,h,_,_=>by
  cases vs with
  | nil=>exact ⟨[],.nil,rfl,fun j t ds h=>by simp at h⟩
  | cons v vs=>simp [DataW.TrodAll] at h
 | t::ts,[],ds,ps,h,_,_=>by simp [DataW.TrodAll] at h
 | t::ts,v::vs,[],ps,h,_,_=>by simp [DataW.TrodAll] at h
 | t::ts,v::vs,d::ds,ps,h,hts,hv=>by
  obtain ⟨p,q,h1,h2,_⟩:=h;obtain ⟨ti,x,k1,k2,k3⟩:=Dp hH hS (hts t (B5 ..)) (hv 0 t v rfl rfl) h1;obtain ⟨dss,m1,m2,m3⟩:=sf hH hS ts vs ds q h2 (fun t ht=>hts t (B6 _ ht)) (fun j t v h h'=>hv (j+1) t v (by simpa using h) (by simpa using h'))
  refine ⟨x::dss,k3 m1,by simp [m2],fun j t' ds' hj hj'=>?_⟩
  cases j with
  | zero =>
   obtain rfl:t=t':=by simpa using hj
   obtain rfl:x=ds':=by simpa using hj'
   exact ⟨ti,k1,k2⟩
  | succ j=>exact m3 j t' ds' (by simpa using hj) (by simpa using hj')
theorem kg (hl:laidOutB P=true) {W':World}:∀ (ts:List TypeId) (vs:List Value) (ds:List (DataW A)) (ps:List MemPlace),(∀ t∈ts,P.readableRec t=true/\t<P.types.size)->DataW.TrodAll enc P W 0 (fun _=>true) true ts vs ds ps->Below W.heap.size W W' →
 (∀ x∈ps,x.block<W.heap.size)->DataW.TrodAll enc P W' 0 (fun b=>decide (b<W.heap.size)) true ts vs ds ps
 | [],vs,ds,ps,_,h,hb,hlt=>by
  cases vs with
  | nil=>cases ds with
   | nil=>exact h
   | cons d ds=>simp [DataW.TrodAll] at h
  | cons v vs=>simp [DataW.TrodAll] at h
 | t::ts,[],ds,ps,_,h,hb,hlt=>by simp [DataW.TrodAll] at h
 | t::ts,v::vs,[],ps,_,h,hb,hlt=>by simp [DataW.TrodAll] at h
 | t::ts,v::vs,d::ds,ps,ht,h,hb,hlt=>by
  obtain ⟨p,q,h1,h2,rfl⟩:=h;obtain ⟨a1,a2⟩:=ht t (B5 ..);exact ⟨p,q,Below.trod hl a1 a2 h1 hb fun x hx=>hlt x (by simp [hx]),kg hl ts vs ds q (fun t ht'=>ht t (B6 _ ht')) h2 hb (fun x hx=>hlt x (by simp [hx])),rfl⟩
end
end Go.Q
end
section
namespace Go.Q
open Go
theorem Hx {P:Program} {H:Tab} {l:List (Nat×TI)} (h:∀ t,H.ty t=ai l t) (ha:(l.all fun p=>tyB P H p.1 p.2)=true):bv P H:=fun t ti ht=>by
 rw [h] at ht;exact C6.1 ha _ (al ht)
theorem Hy {P:Program} {H:Tab} {l:List Nat} (h:∀ t,H.eqt t=dm l t) (ha:(l.all fun t=>Mh P H t)=true):Ct P H:=fun t ht=>by
 rw [h,cx] at ht;exact C6.1 ha _ ht
theorem Ds {P:Program} (ha:(P.funcs.toList.all fun fn=>!(fn.name=="runtime.NumGoroutine"))=true):∀ (f:Nat) (fn:Func),P.funcs[f]?=some fn->(fn.name=="runtime.NumGoroutine")=false:=fun f fn h=>by
 have:=C6.1 ha fn (by
  obtain ⟨hlt,he⟩:=E5.1 h;rw [<- he]; simp)
 simpa using this
theorem Hz {P:Program} {ts:List TypeId} (h:(ts.all fun t=>P.readableRec t&&decide (t<P.types.size))=true):∀ t∈ts,P.readableRec t=true/\t<P.types.size:=fun t ht=>by
 have:=C6.1 h t ht;simpa using this
def ctB (Rl:List (Nat×Nat)):CT->CT->Bool
 | .sl e,.sl e'=>Rl.any fun p=>Nat.beq p.1 e&&Nat.beq p.2 e'
 | a,b=>decide (a=b)
def yw (Rl:List (Nat×Nat)):List CT->List CT->Bool
 | [],[]=>true
 | a::as,b::bs=>ctB Rl a b&&yw Rl as bs
 | _,_=>false
def Mn (H:Tab) (Rl:List (Nat×Nat)):Bool:=Rl.all fun p=>match H.ty p.1,H.ty p.2 with
 | some a,some b=>yw Rl a.lay b.lay
 | _,_=>false
theorem Mo {Rl:List (Nat×Nat)} {e:TypeId} {c:CT} (h:ctB Rl (.sl e) c=true):∃ e',c=.sl e'/\(e,e')∈Rl:=by
 cases c <;> simp only [ctB,N5,B4] at h <;> try (simp at h; done)
 obtain ⟨⟨a,b⟩,h1,h2,h3⟩:=h;have e1:=ay.1 h2;have e2:=ay.1 h3;simp only at e1 e2;subst e1; subst e2;exact ⟨_,rfl,h1⟩
mutual
theorem WD.conv {H:Tab} {Rl:List (Nat×Nat)} (hR:Mn H Rl=true):∀ (d:D) {c c':CT},WD H d c->ctB Rl c c'=true->WD H d c'
 | .int n,c,c',h,hc=>by
  simp only [WD] at h ⊢;obtain ⟨k,rfl,h⟩:=h;simp only [ctB,decide_eq_true_eq] at hc;exact ⟨k,hc.symm,h⟩
 | .bool b,c,c',h,hc=>by
  simp only [WD] at h ⊢;subst h;simp only [ctB,decide_eq_true_eq] at hc;exact hc.symm
 | .str s,c,c',h,hc=>by
  simp only [WD] at h ⊢;obtain ⟨rfl,h⟩:=h;simp only [ctB,decide_eq_true_eq] at hc;exact ⟨hc.symm,h⟩
 | .sl rows,c,c',h,hc=>by
  simp only [WD] at h ⊢;obtain ⟨e,ti,rfl,h1,h2,h3⟩:=h;obtain ⟨e',rfl,hm⟩:=Mo hc;have:=C6.1 hR _ hm;simp only [h1] at this;cases h4:H.ty e' with
  | none=>rw [h4] at this; simp at this
  | some ti' =>
   rw [h4] at this;exact ⟨e',ti',rfl,h4,h2,WRs.conv hR rows h3 this⟩
theorem WL.conv {H:Tab} {Rl:List (Nat×Nat)} (hR:Mn H Rl=true):∀ (ds:List D) {cs cs':List CT},WL H ds cs->yw Rl cs cs'=true->WL H ds cs'
 | [],cs,cs',h,hc=>by
  simp only [WL] at h ⊢;subst h;cases cs' with
  | nil=>rfl
  | cons c cs'=>simp [yw] at hc
 | d::ds,cs,cs',h,hc=>by
  simp only [WL] at h ⊢;obtain ⟨c,cs,rfl,h1,h2⟩:=h;cases cs' with
  | nil=>simp [yw] at hc
  | cons c' cs' =>
   simp only [yw,B4] at hc;exact ⟨c',cs',rfl,WD.conv hR d h1 hc.1,WL.conv hR ds h2 hc.2⟩
theorem WRs.conv {H:Tab} {Rl:List (Nat×Nat)} (hR:Mn H Rl=true):∀ (rs:List (List D)) {lay lay':List CT},WRs H rs lay->yw Rl lay lay'=true->WRs H rs lay'
 | [],lay,lay',h,hc=>by simp only [WRs]
 | r::rs,lay,lay',h,hc=>by
  simp only [WRs] at h ⊢;exact ⟨WL.conv hR r h.1 hc,WRs.conv hR rs h.2 hc⟩
end
end Go.Q
end
section
namespace Go.Q
open Go
def Du (l:List UInt8):List D:=[.str ⟨l.toArray⟩]
def zt (_:Nat):List D->R
 | [.int n]=>bif decide (0<=n)&&decide (n<100) then some (0,[.str ⟨(Lib.decDigits n.toNat).toArray⟩]) else none
 | _=>none
def qr:List UInt8->List UInt8->Option Nat
 | [],p=>bif p.isEmpty then some 0 else none
 | b::l,p=>bif p.isPrefixOf (b::l) then some 0 else (qr l p).map (·+1)
def Dv (s p:List UInt8):List UInt8×List UInt8×Bool:=match qr s p with
 | some i=>(s.take i,s.drop (i+p.length),true)
 | none=>(s,[],false)
def ph (p:List UInt8):Nat->List UInt8->List (List UInt8)
 | 0,s=>[s]
 | k+1,s=>match qr s p with
  | some i=>s.take i::ph p k (s.drop (i+p.length))
  | none=>[s]
def Ia (s:ByteArray):Bool:=E7 s.size 4294967281
def Ib (_:Nat):List D->R
 | [.str s,.str p]=>some (0,[.str ⟨(Lib.trimPrefix s.data.toList p.data.toList).toArray⟩,.bool (Lib.hasPrefix s.data.toList p.data.toList)])
 | _=>none
def Ic (_:Nat):List D->R
 | [.str s,.str p]=>bif Ia s then some (0,[.str ⟨(Dv s.data.toList p.data.toList).1.toArray⟩,.str ⟨(Dv s.data.toList p.data.toList).2.1.toArray⟩,.bool (Dv s.data.toList p.data.toList).2.2]) else none
 | _=>none
def Ie (_:Nat):List D->R
 | [.str s,.str p]=>bif Ia s&&J1 1 p.size then some (0,[.sl ((ph p.data.toList s.size s.data.toList).map Du)]) else none
 | _=>none
def If (_:Nat):List D->R
 | [.str s]=>bif J1 s.size 18 then (match Lib.atoiAll s.data.toList with
  | .ok v=>some (0,[.int v,.bool false])
  | .«syntax»=>some (0,[.int 0,.bool true])
  | .range=>none) else none
 | _=>none
def Ig (cs:Array Value):Prop:=∃ m,cs[0]?=some (.int .i64 m)
def Ih (cs:Array Value):Prop:=∃ ev,cs[0]?=some ev/\(ev=.nilIface\/∃ te pe,ev=.iface te pe)
end Go.Q
end
