/- The functions of this seat, as that machine runs them, part 2. -/
import Derived.Test.YtebncngjklhbfaaGreatPA
import Derived.Test.YtebncngjklhbfaaGreatMA
import Derived.Test.YtebncngjklhbfaaGreatQD
import Derived.Test.YtebncngjklhbfaaGreatfcX2
import Derived.Test.YtebncngjklhbfaaGreatChecked
set_option linter.unusedVariables false
set_option linter.unusedSimpArgs false
open Int renaming toNat_natCast->B9,ofNat_lt->C0,natCast_zero->C6
open List renaming length_map->B6,map_cons->C3,getElem_mem->C4,length_cons->C5,length_nil->C8,drop_length->C9,mem_append->D0,map_nil->D1,mem_cons->D6,nil_append->D9,map_append->E0,mem_singleton->G5,take_succ_eq_append_getElem->N6,take_length->P2,not_mem_nil->Q0,take_zero->R3,length_take->R5
open Nat renaming lt_irrefl->D4,zero_add->E1,beq_refl->E4,beq->E5,ble->F6,le_refl->G6,le_trans->G7
open Option renaming bind_some->B5,some->C7
section
namespace Go.Q.S
open Go Go.Q Go.Proofs
theorem word_ok {code:Rows} (hl:code.length<=1048576):∀ (d:Nat) (g:Bool) (i:Nat) (h:Int),d<=64->Good (rn ⟨108,0,0⟩ [.str (⟨#[119,111,114,100]⟩:ByteArray),.int (d:Int),.bool g,.sl code,.int (i:Int),.int h]) (DTk code 8 (4 ^ d)):=by
 intro d;induction d with
 | zero =>
  intro g i h hd;rw [e108_0_0];rw [H7 (rfl:(⟨#[119,111,114,100]⟩:ByteArray)=(⟨#[119,111,114,100]⟩:ByteArray)),H8 (by decide:¬(1:Int)<((0:Nat):Int))]
  simp only [H1,H2];repeat' (first
   | refine Good.ite (fun _=>?_) (fun _=>?_)
   | (refine Good.bind (once_ok hl _ _ (by decide) (by decide)) ?_; rintro _ ⟨b,i,h,rfl⟩; simp only [nv0,nvS,dvI,dvB,dvS,dvL,B5])
   | (refine Good.bind (below_ok hl _ _ (by decide) (by decide)) ?_; rintro _ ⟨b,i,h,_,_,rfl⟩; simp only [nv0,nvS,dvI,dvB,dvS,dvL,B5])
   | (refine Good.bind (pick_ok hl _ _ (by decide) (by decide) 8 (by decide)) ?_; rintro _ ⟨b,i,h,_,rfl⟩; simp only [nv0,nvS,dvI,dvB,dvS,dvL,B5])
   | (simp only [r133,r81,r78,r78b,nv0,nvS,dvI,dvB,dvS,dvL,B5]))
  all_goals (first | exact lfV (by assumption) (by decide) | exact lfW (by assumption) (by omega) (by decide))
 | succ d ih =>
  intro g i h hd;have hp:4 ^ (d+1)=4*4 ^ d:=by omega
  have h1:1<=4 ^ d:=Nat.one_le_pow _ _ (by decide)
  rw [e108_0_0];rw [H7 (rfl:(⟨#[119,111,114,100]⟩:ByteArray)=(⟨#[119,111,114,100]⟩:ByteArray))];simp only [H1,wrap_dec (show d<=64 by omega)]
  repeat' (first
   | (refine Good.bind (ih _ _ _ (by omega)) ?_; rintro _ ⟨t,i,h,_,_,rfl⟩; simp only [nv0,nvS,dvI,dvB,dvS,dvL,B5])
   | refine Good.ite (fun _=>?_) (fun _=>?_)
   | (refine Good.bind (once_ok hl _ _ (by decide) (by decide)) ?_; rintro _ ⟨b,i,h,rfl⟩; simp only [nv0,nvS,dvI,dvB,dvS,dvL,B5])
   | (refine Good.bind (below_ok hl _ _ (by decide) (by decide)) ?_; rintro _ ⟨b,i,h,_,_,rfl⟩; simp only [nv0,nvS,dvI,dvB,dvS,dvL,B5])
   | (refine Good.bind (pick_ok hl _ _ (by decide) (by decide) 8 (by decide)) ?_; rintro _ ⟨b,i,h,_,rfl⟩; simp only [nv0,nvS,dvI,dvB,dvS,dvL,B5])
   | (simp only [r133,r81,r78,r78b,r38,r134,nv0,nvS,dvI,dvB,dvS,dvL,B5]))
  all_goals (first | exact lfV (by assumption) (by omega) | exact lfW (by assumption) (by omega) (by omega) | exact lf2 (by assumption) (by assumption) (by assumption) (by omega))
theorem term_ok {code:Rows} (hl:code.length<=1048576) {s:ByteArray} (hs:s≠(⟨#[119,111,114,100]⟩:ByteArray)):∀ (d:Nat) (g:Bool) (i:Nat) (h:Int),d<=64->Good (rn ⟨108,0,0⟩ [.str s,.int (d:Int),.bool g,.sl code,.int (i:Int),.int h]) (DTk code 8 (8*4 ^ d)):=by
 have hE:(⟨#[101]⟩:ByteArray)≠(⟨#[119,111,114,100]⟩:ByteArray):=by decide
 have hW1:∀ g i h,Good (rn ⟨108,0,0⟩ [.str (⟨#[119,111,114,100]⟩:ByteArray),.int 1,.bool g,.sl code,.int ((i:Nat):Int),.int h]) (DTk code 8 4):=fun g i h=>word_ok hl 1 g i h (by decide)
 intro d;induction d generalizing s with
 | zero =>
  intro g i h hd;rw [e108_0_0];rw [H8 hs,H7 (by decide:((0:Nat):Int)<2)]
  simp only [H1,H2];repeat' (first
   | (refine Good.bind (hW1 _ _ _) ?_; rintro _ ⟨t,i,h,_,_,rfl⟩; simp only [nv0,nvS,dvI,dvB,dvS,dvL,B5])
   | refine Good.ite (fun _=>?_) (fun _=>?_)
   | (refine Good.bind (once_ok hl _ _ (by decide) (by decide)) ?_; rintro _ ⟨b,i,h,rfl⟩; simp only [nv0,nvS,dvI,dvB,dvS,dvL,B5])
   | (refine Good.bind (below_ok hl _ _ (by decide) (by decide)) ?_; rintro _ ⟨b,i,h,_,_,rfl⟩; simp only [nv0,nvS,dvI,dvB,dvS,dvL,B5])
   | (refine Good.bind (pick_ok hl _ _ (by decide) (by decide) 8 (by decide)) ?_; rintro _ ⟨b,i,h,_,rfl⟩; simp only [nv0,nvS,dvI,dvB,dvS,dvL,B5])
   | (simp only [r133,r81,r78,r78b,r38,r134,nv0,nvS,dvI,dvB,dvS,dvL,B5]))
  all_goals (first | exact lfV (by assumption) (by decide) | exact lfC (by assumption) (by decide) | exact lf1 (by first | assumption | decide) (by assumption) (by omega))
 | succ d ih =>
  intro g i h hd;have hp:4 ^ (d+1)=4*4 ^ d:=by omega
  have h1:1<=4 ^ d:=Nat.one_le_pow _ _ (by decide)
  rw [e108_0_0];rw [H8 hs];simp only [H2,wrap_dec (show d<=64 by omega)]
  repeat' (first
   | (refine Good.bind (hW1 _ _ _) ?_; rintro _ ⟨t,i,h,_,_,rfl⟩; simp only [nv0,nvS,dvI,dvB,dvS,dvL,B5])
   | (refine Good.bind (ih hE _ _ _ (by omega)) ?_; rintro _ ⟨t,i,h,_,_,rfl⟩; simp only [nv0,nvS,dvI,dvB,dvS,dvL,B5])
   | (refine Good.bind (word_ok hl d _ _ _ (by omega)) ?_; rintro _ ⟨t,i,h,_,_,rfl⟩; simp only [nv0,nvS,dvI,dvB,dvS,dvL,B5])
   | refine Good.ite (fun _=>?_) (fun _=>?_)
   | (refine Good.bind (once_ok hl _ _ (by decide) (by decide)) ?_; rintro _ ⟨b,i,h,rfl⟩; simp only [nv0,nvS,dvI,dvB,dvS,dvL,B5])
   | (refine Good.bind (below_ok hl _ _ (by decide) (by decide)) ?_; rintro _ ⟨b,i,h,_,_,rfl⟩; simp only [nv0,nvS,dvI,dvB,dvS,dvL,B5])
   | (refine Good.bind (pick_ok hl _ _ (by decide) (by decide) 8 (by decide)) ?_; rintro _ ⟨b,i,h,_,rfl⟩; simp only [nv0,nvS,dvI,dvB,dvS,dvL,B5])
   | (simp only [r133,r81,r78,r78b,r38,r134,nv0,nvS,dvI,dvB,dvS,dvL,B5]))
  all_goals (first | exact lfV (by assumption) (by omega) | exact lfC (by assumption) (by omega) | exact lf1 (by first | assumption | decide) (by assumption) (by omega) | exact lf2 (by first | assumption | decide) (by assumption) (by assumption) (by omega))
theorem DTk.mono {code:Rows} {k m m':Nat} {x:Nat × List D} (h:DTk code k m x) (hm:m<=m'):DTk code k m' x:=by
 obtain ⟨t,i,h',h1,h2,e⟩:=h;exact ⟨t,i,h',h1,G7 h2 hm,e⟩
theorem wordN {code:Rows} (hl:code.length<=1048576) (d:Nat) (k:Int) (e:(d:Int)=k) (m:Nat) (hm:4 ^ d<=m) (hd:d<=64) (g:Bool) (i:Nat) (h:Int):Good (rn ⟨108,0,0⟩ [.str (⟨#[119,111,114,100]⟩:ByteArray),.int k,.bool g,.sl code,.int (i:Int),.int h]) (DTk code 8 m):=by
 subst e;exact Good.mono (word_ok hl d g i h hd) fun x hx=>hx.mono hm
theorem termN {code:Rows} (hl:code.length<=1048576) (d:Nat) (k:Int) (e:(d:Int)=k) (m:Nat) (hm:8*4 ^ d<=m) (hd:d<=64) (g:Bool) (i:Nat) (h:Int):Good (rn ⟨108,0,0⟩ [.str (⟨#[101]⟩:ByteArray),.int k,.bool g,.sl code,.int (i:Int),.int h]) (DTk code 8 m):=by
 subst e;exact Good.mono (term_ok hl (by decide) d g i h hd) fun x hx=>hx.mono hm
theorem anyN {code:Rows} (hl:code.length<=1048576) (s:ByteArray) (d:Nat) (k:Int) (e:(d:Int)=k) (m:Nat) (hm:8*4 ^ d<=m) (hd:d<=64) (g:Bool) (i:Nat) (h:Int):Good (rn ⟨108,0,0⟩ [.str s,.int k,.bool g,.sl code,.int (i:Int),.int h]) (DTk code 8 m):=by
 subst e;by_cases hs:s=(⟨#[119,111,114,100]⟩:ByteArray)
 · subst hs
   exact Good.mono (word_ok hl d g i h hd) fun x hx=>hx.mono (by omega)
 · exact Good.mono (term_ok hl hs d g i h hd) fun x hx=>hx.mono hm
def DW (code:Rows) (m:Nat) (x:Nat × List D):Prop:=∃ t:Tm,∃ i':Nat,∃ h':Int,Wn m t/\x=(0,[.int t.k,.int t.n,.str t.s,.sl code,.int (i':Int),.int h',.sl (t.as.map Tm.row)])
theorem bent_ok {code:Rows} (hl:code.length<=1048576) (i:Nat) (h:Int):Good (rn ⟨39,0,0⟩ [.sl code,.int (i:Int),.int h]) (DW code 60):=by
 have key:∀ (n j:Nat) (t:Tm) (i:Nat) (h:Int) (m:Nat),j+n=16->Wn m t->∃ u:Tm,Wn (m+n) u/\rn ⟨39,0,2⟩ [.int (j:Int),.sl code,.int (i:Int),.int h,.int 0,.int 0,.str ⟨#[]⟩,.int t.k,.int t.n,.str t.s,.sl [],.sl (t.as.map Tm.row)]=some (0,[.sl code,.int (i:Int),.int h,.int 0,.int 0,.str ⟨#[]⟩,.int u.k,.int u.n,.str u.s,.sl [],.sl (u.as.map Tm.row)]):=by
  intro n;induction n with
  | zero =>
   intro j t i h m hj ht;rw [e39_0_2,H8 (by omega:¬(j:Int)<16)]
   exact ⟨t,ht,rfl⟩
  | succ n ih =>
   intro j t i h m hj ht;rw [e39_0_2,H7 (by omega:(j:Int)<16)]
   have ew:IntKind.i64.wrap ((j:Int)+1)=((j+1:Nat):Int):=by rw [IntWalk.i64_in _ (by omega)]; omega
   simp only [H1,r38,nv0,nvS,dvI,dvB,dvS,dvL,B5,ew];obtain ⟨u,hu,e⟩:=ih (j+1) (tO (⟨#[103]⟩:ByteArray) t) i h (m+1) (by omega) (wn_O (by decide) ht)
   exact ⟨u,hu.mono (by omega),e⟩
 rw [e39_0_0];refine Good.bind (below_ok hl _ _ (by decide) (by decide)) ?_
 rintro _ ⟨b1,i,h,hb0,hb1,rfl⟩
 simp only [nv0,nvS,dvI,dvB,dvS,dvL,B5];refine Good.bind (once_ok hl _ _ (by decide) (by decide)) ?_
 rintro _ ⟨g,i,h,rfl⟩
 simp only [nv0,nvS,dvI,dvB,dvS,dvL,B5];have e:∃ d:Nat,IntKind.i64.wrap (1+b1)=(d:Int)/\d<=4:=⟨(1+b1).toNat,by rw [IntWalk.i64_in _ (by omega)]; omega,by omega⟩
 obtain ⟨d,e,hd2⟩:=e;rw [e];refine Good.bind (draw_ok hl d g _ _ (by omega)) ?_
 rintro _ ⟨t,i,h,ht,htn,rfl⟩
 have hq:2 ^ (d+1)<=2 ^ 5:=Nat.pow_le_pow_right (by decide) (by omega)
 have hq8:(2:Nat) ^ 5=32:=rfl;have hw:Wn 31 t:=ht.wn (by decide) (by omega)
 have hal:t.as.length<=2:=by
  cases ht with
  | var _=>simp [Tm.as]
  | word _ _=>simp [Tm.as]
  | app _ h _=>exact h
 have hk:-1000<=t.k/\t.k<=1000/\-1000<=t.n/\t.n<=1000/\t.s.size<=1000:=by
  cases ht with
  | var h=>refine ⟨?_,?_,?_,?_,?_⟩ <;> simp [Tm.k,Tm.n,Tm.s]; omega
  | word h0 h1=>exact ⟨by show (-1000:Int)<=3; decide,by show (3:Int)<=1000; decide,by simp only [Tm.n]; omega,by simp only [Tm.n]; omega,by show (⟨#[]⟩:ByteArray).size<=1000; decide⟩
  | app h _ _=>refine ⟨?_,?_,?_,?_,?_⟩ <;> simp [Tm.k,Tm.n,Tm.s]; omega
 obtain ⟨k1,k2,k3,k4,k5⟩:=hk;have hsub:∀ a∈t.as,Wt a:=fun a ha=>hw.w.sub ha
 have hnod:∀ (k n:Int) (s:ByteArray),(Tm.mk k n s t.as).nodes<=31:=fun k n s=>by have:=hw.n; rw [Tm.nodes_eq] at this ⊢; exact this
 simp only [nv0,nvS,dvI,dvB,dvS,dvL,B5];refine Good.bind (below_ok hl _ _ (by decide) (by decide)) ?_
 rintro _ ⟨c,i,h,hc0,hc1,rfl⟩
 simp only [nv0,nvS,dvI,dvB,dvS,dvL,B5];refine Good.ite (fun _=>?_) (fun _=>?_)
 · refine Good.bind (below_ok hl _ _ (by decide) (by decide)) ?_
   rintro _ ⟨b,i,h,b0,b1,rfl⟩
   exact Good.ret ⟨.mk b t.n t.s t.as,i,h,⟨wt_of (by omega) (by omega) k3 k4 k5 (by omega) hsub,G7 (hnod _ _ _) (by decide)⟩,rfl⟩
 refine Good.ite (fun _=>?_) (fun _=>?_)
 · refine Good.bind (pickI_ok hl _ _ (by decide) (by decide) (by decide)) ?_
   rintro _ ⟨b,i,h,b0,b1,rfl⟩
   exact Good.ret ⟨.mk t.k b t.s t.as,i,h,⟨wt_of k1 k2 b0 b1 k5 (by omega) hsub,G7 (hnod _ _ _) (by decide)⟩,rfl⟩
 refine Good.ite (fun _=>?_) (fun _=>?_)
 · refine Good.bind (pick_ok hl _ _ (by decide) (by decide) 8 (by decide)) ?_
   rintro _ ⟨s,i,h,hs,rfl⟩
   exact Good.ret ⟨.mk t.k t.n s t.as,i,h,⟨wt_of k1 k2 k3 k4 (by omega) (by omega) hsub,G7 (hnod _ _ _) (by decide)⟩,rfl⟩
 refine Good.ite (fun _=>?_) (fun _=>?_)
 · have hb63:F6 (t.as.length+1) M63=true:=nb (by omega)
   simp only [r81,nv0,nvS,dvI,dvB,dvS,dvL,B5,B6,C5,C8,E1,hb63,H1];refine Good.ret ⟨.mk t.k t.n t.s (t.as++[tW 1]),i,h,⟨wt_of k1 k2 k3 k4 k5 (by simp; omega) (fun a ha=>?_),?_⟩,?_⟩
   · rcases D0.1 ha with ha | ha
     · exact hsub a ha
     · rw [G5.1 ha]; exact (wn_W (by decide) (by decide)).w
   · have:=hw.n
     rw [Tm.nodes_eq] at this ⊢;have h1:(tW 1).nodes=1:=by simp [tW,Tm.nodes,Tm.nodesL]
     simp only [Tm.as_mk,E0,C3,D1,List.sum_append,List.sum_cons,List.sum_nil,h1];omega
   · simp only [Tm.k_mk,Tm.s_mk,Tm.as_mk,E0,C3,D1,tW,Tm.row,Tm.rows]; rfl
 refine Good.ite (fun _=>?_) (fun _=>?_)
 · obtain ⟨u,hu,e⟩:=key 16 0 t i h 31 rfl hw
   simp only [C6] at e;simp only [e,nv0,nvS,dvI,dvB,dvS,dvL,B5,E4,H1,H2];exact Good.ret ⟨u,i,h,hu.mono (by decide),rfl⟩
 · exact Good.ret ⟨t,i,h,hw.mono (by decide),rfl⟩
def DGu (code:Rows) (x:Nat × List D):Prop:=∃ g:Gu,∃ i':Nat,∃ h':Int,GuW g/\x=(0,[.int g.k,.int g.l.k,.int g.l.n,.str g.l.s,.int g.r.k,.int g.r.n,.str g.r.s,.sl code,.int (i':Int),.int h',.sl (g.l.as.map Tm.row),.sl (g.r.as.map Tm.row)])
theorem guard_ok {code:Rows} (hl:code.length<=1048576) (i:Nat) (h:Int):Good (rn ⟨185,0,0⟩ [.sl code,.int (i:Int),.int h]) (DGu code):=by
 rw [e185_0_0];refine Good.bind (once_ok hl _ _ (by decide) (by decide)) ?_
 rintro _ ⟨g,i,h,rfl⟩
 simp only [nv0,nvS,dvI,dvB,dvS,dvL,B5];refine Good.bind (below_ok hl _ _ (by decide) (by decide)) ?_
 rintro _ ⟨b,i,h,b0,b1,rfl⟩
 simp only [nv0,nvS,dvI,dvB,dvS,dvL,B5];have ew:IntKind.i64.wrap (1+b)=1+b:=IntWalk.i64_in _ (by omega)
 rw [ew];refine Good.bind (wordN hl 3 _ rfl 64 (by decide) (by decide) _ _ _) ?_
 rintro _ ⟨t,i,h,ht,htn,rfl⟩
 simp only [nv0,nvS,dvI,dvB,dvS,dvL,B5];refine Good.bind (wordN hl 2 _ rfl 64 (by decide) (by decide) _ _ _) ?_
 rintro _ ⟨u,i,h,hu,hun,rfl⟩
 simp only [nv0,nvS,dvI,dvB,dvS,dvL,B5];refine Good.bind (once_ok hl _ _ (by decide) (by decide)) ?_
 rintro _ ⟨q,i,h,rfl⟩
 simp only [nv0,nvS,dvI,dvB,dvS,dvL,B5];refine Good.ite (fun _=>?_) (fun _=>?_)
 · refine Good.bind (termN hl 2 _ rfl 128 (by decide) (by decide) _ _ _) ?_
   rintro _ ⟨t',i,h,ht',htn',rfl⟩
   simp only [nv0,nvS,dvI,dvB,dvS,dvL,B5];refine Good.bind (termN hl 2 _ rfl 128 (by decide) (by decide) _ _ _) ?_
   rintro _ ⟨u',i,h,hu',hun',rfl⟩
   exact Good.ret ⟨⟨1+b,t',u'⟩,i,h,⟨⟨by show 0<=1+b; omega,by show 1+b<=5; omega⟩,ht'.wn (by decide) (by show t'.nodes<=_; omega),hu'.wn (by decide) (by show u'.nodes<=_; omega)⟩,rfl⟩
 · exact Good.ret ⟨⟨1+b,t,u⟩,i,h,⟨⟨by show 0<=1+b; omega,by show 1+b<=5; omega⟩,ht.wn (by decide) (by show t.nodes<=_; omega),hu.wn (by decide) (by show u.nodes<=_; omega)⟩,rfl⟩
theorem vV (s:ByteArray):rn ⟨133,0,0⟩ [.str s]=some (0,[.int (tV s).k,.int (tV s).n,.str (tV s).s,.sl ((tV s).as.map Tm.row)]):=r133 s
theorem vC (s:ByteArray):rn ⟨78,1,0⟩ [.str s,.sl []]=some (0,[.int (tC s).k,.int (tC s).n,.str (tC s).s,.sl ((tC s).as.map Tm.row)]):=r78b s []
theorem vW (n:Int):rn ⟨81,0,0⟩ [.int n]=some (0,[.int (tW n).k,.int (tW n).n,.str (tW n).s,.sl ((tW n).as.map Tm.row)]):=r81 n
theorem vO (s:ByteArray) (t:Tm):rn ⟨38,0,0⟩ [.str s,.int t.k,.int t.n,.str t.s,.sl (t.as.map Tm.row)]=some (0,[.int (tO s t).k,.int (tO s t).n,.str (tO s t).s,.sl ((tO s t).as.map Tm.row)]):=r38 s t
theorem vP (s:ByteArray) (t u:Tm):rn ⟨134,0,0⟩ [.str s,.int t.k,.int t.n,.str t.s,.sl (t.as.map Tm.row),.int u.k,.int u.n,.str u.s,.sl (u.as.map Tm.row)]=some (0,[.int (tP s t u).k,.int (tP s t u).n,.str (tP s t u).s,.sl ((tP s t u).as.map Tm.row)]):=r134 s t u
def DRu (code:Rows) (s:ByteArray) (x:Nat × List D):Prop:=∃ r:RuM,∃ i':Nat,∃ h':Int,r.n=s/\RuW r/\x=(0,[.str r.n,.int r.l.k,.int r.l.n,.str r.l.s,.int (r.r).k,.int (r.r).n,.str (r.r).s,.sl ((r.r).as.map Tm.row),.sl code,.int (i':Int),.int h',.sl (r.l.as.map Tm.row),.sl (r.g.map Gu.row)])
theorem rule_ok {code:Rows} (hl:code.length<=1048576) (s:ByteArray) (hs:s.size<=1000) (i:Nat) (h:Int):Good (rn ⟨129,0,0⟩ [.str s,.sl code,.int (i:Int),.int h]) (DRu code s):=by
 have W:∀ {m:Nat} {t:Tm},Wn m t->m<=3000->Wn 3000 t:=fun h hm=>h.mono hm
 have x1:Wn 1 (tV (⟨#[88]⟩:ByteArray)):=wn_V (by decide)
 have n1:Wn 1 (tV (⟨#[78]⟩:ByteArray)):=wn_V (by decide)
 have y1:Wn 1 (tV (⟨#[89]⟩:ByteArray)):=wn_V (by decide)
 have m1:Wn 1 (tV (⟨#[77]⟩:ByteArray)):=wn_V (by decide)
 have a1:Wn 1 (tC (⟨#[97]⟩:ByteArray)):=wn_C (by decide)
 have b1:Wn 1 (tC (⟨#[98]⟩:ByteArray)):=wn_C (by decide)
 rw [e129_0_0];simp only [vV,nv0,nvS,dvI,dvB,dvS,dvL,B5];refine Good.bind (below_ok hl _ _ (by decide) (by decide)) ?_
 rintro _ ⟨b,i,h,b0,b1',rfl⟩
 simp only [vV,vO,vP,vW,vC,nv0,nvS,dvI,dvB,dvS,dvL,B5];refine Good.ite (fun _=>?_) (fun _=>?_)
 · skip
   refine Good.bind (once_ok hl _ _ (by decide) (by decide)) ?_
   rintro _ ⟨q,i,h,rfl⟩
   simp only [nv0,nvS,dvI,dvB,dvS,dvL,B5];refine Good.ite (fun _=>?_) (fun _=>?_)
   · refine Good.bind (guard_ok hl _ _) ?_
     rintro _ ⟨g,i,h,hg,rfl⟩
     have hb63:F6 1 M63=true:=by decide
     simp only [nv0,nvS,dvI,dvB,dvS,dvL,B5,C5,C8,E1,hb63,H1];exact Good.ret ⟨⟨s,tO (⟨#[103]⟩:ByteArray) (tV (⟨#[88]⟩:ByteArray)),tV (⟨#[88]⟩:ByteArray),[g]⟩,i,h,rfl,⟨hs,W (wn_O (by decide) x1) (by decide),W x1 (by decide),by simp,by simp [hg]⟩,rfl⟩
   · exact Good.ret ⟨⟨s,tO (⟨#[103]⟩:ByteArray) (tV (⟨#[88]⟩:ByteArray)),tV (⟨#[88]⟩:ByteArray),[]⟩,i,h,rfl,⟨hs,W (wn_O (by decide) x1) (by decide),W x1 (by decide),by simp,by simp⟩,rfl⟩
 refine Good.ite (fun _=>?_) (fun _=>?_)
 · skip
   have hp:=pickT_ok hl i h [tV (⟨#[88]⟩:ByteArray),tV (⟨#[89]⟩:ByteArray),tC (⟨#[97]⟩:ByteArray)] (by decide) (by decide)
   simp only [C3,D1,Tm.row_eq] at hp;refine Good.bind hp ?_
   rintro _ ⟨t,i,h,ht,rfl⟩
   have hw:Wn 3000 t:=by
    simp only [D6,Q0,or_false] at ht;rcases ht with rfl | rfl | rfl
    · exact W x1 (by decide)
    · exact W y1 (by decide)
    · exact W a1 (by decide)
   simp only [nv0,nvS,dvI,dvB,dvS,dvL,B5];refine Good.bind (once_ok hl _ _ (by decide) (by decide)) ?_
   rintro _ ⟨q,i,h,rfl⟩
   simp only [nv0,nvS,dvI,dvB,dvS,dvL,B5];refine Good.ite (fun _=>?_) (fun _=>?_)
   · refine Good.bind (guard_ok hl _ _) ?_
     rintro _ ⟨g,i,h,hg,rfl⟩
     have hb63:F6 1 M63=true:=by decide
     simp only [nv0,nvS,dvI,dvB,dvS,dvL,B5,C5,C8,E1,hb63,H1];exact Good.ret ⟨⟨s,tP (⟨#[102]⟩:ByteArray) (tV (⟨#[88]⟩:ByteArray)) (tV (⟨#[89]⟩:ByteArray)),t,[g]⟩,i,h,rfl,⟨hs,W (wn_P (by decide) x1 y1) (by decide),hw,by simp,by simp [hg]⟩,rfl⟩
   · exact Good.ret ⟨⟨s,tP (⟨#[102]⟩:ByteArray) (tV (⟨#[88]⟩:ByteArray)) (tV (⟨#[89]⟩:ByteArray)),t,[]⟩,i,h,rfl,⟨hs,W (wn_P (by decide) x1 y1) (by decide),hw,by simp,by simp⟩,rfl⟩
 refine Good.ite (fun _=>?_) (fun _=>?_)
 · skip
   have hg0:GuW ⟨3,tW 0,tV (⟨#[78]⟩:ByteArray)⟩:=⟨by show (0:Int)<=3/\(3:Int)<=5; decide,W (wn_W (by decide) (by decide)) (by decide),W n1 (by decide)⟩
   refine Good.bind (once_ok hl _ _ (by decide) (by decide)) ?_
   rintro _ ⟨q,i,h,rfl⟩
   simp only [nv0,nvS,dvI,dvB,dvS,dvL,B5];refine Good.ite (fun _=>?_) (fun _=>?_)
   · refine Good.bind (guard_ok hl _ _) ?_
     rintro _ ⟨g,i,h,hg,rfl⟩
     have hb63:F6 (1+1) M63=true:=by decide
     simp only [nv0,nvS,dvI,dvB,dvS,dvL,B5,C5,C8,E1,hb63,H1];exact Good.ret ⟨⟨s,tP (⟨#[104]⟩:ByteArray) (tV (⟨#[88]⟩:ByteArray)) (tV (⟨#[78]⟩:ByteArray)),tP (⟨#[104]⟩:ByteArray) (tV (⟨#[88]⟩:ByteArray)) (tP (⟨#[109,105,110,117,115]⟩:ByteArray) (tV (⟨#[78]⟩:ByteArray)) (tW 1)),[⟨3,tW 0,tV (⟨#[78]⟩:ByteArray)⟩,g]⟩,i,h,rfl,⟨hs,W (wn_P (by decide) x1 n1) (by decide),W (wn_P (by decide) x1 (wn_P (by decide) n1 (wn_W (by decide) (by decide)))) (by decide),by simp,by simp [hg,hg0]⟩,rfl⟩
   · exact Good.ret ⟨⟨s,tP (⟨#[104]⟩:ByteArray) (tV (⟨#[88]⟩:ByteArray)) (tV (⟨#[78]⟩:ByteArray)),tP (⟨#[104]⟩:ByteArray) (tV (⟨#[88]⟩:ByteArray)) (tP (⟨#[109,105,110,117,115]⟩:ByteArray) (tV (⟨#[78]⟩:ByteArray)) (tW 1)),[⟨3,tW 0,tV (⟨#[78]⟩:ByteArray)⟩]⟩,i,h,rfl,⟨hs,W (wn_P (by decide) x1 n1) (by decide),W (wn_P (by decide) x1 (wn_P (by decide) n1 (wn_W (by decide) (by decide)))) (by decide),by simp,by simp [hg0]⟩,rfl⟩
 refine Good.ite (fun _=>?_) (fun _=>?_)
 · skip
   refine Good.bind (once_ok hl _ _ (by decide) (by decide)) ?_
   rintro _ ⟨q,i,h,rfl⟩
   simp only [nv0,nvS,dvI,dvB,dvS,dvL,B5];refine Good.ite (fun _=>?_) (fun _=>?_)
   · refine Good.bind (guard_ok hl _ _) ?_
     rintro _ ⟨g,i,h,hg,rfl⟩
     have hb63:F6 1 M63=true:=by decide
     simp only [nv0,nvS,dvI,dvB,dvS,dvL,B5,C5,C8,E1,hb63,H1];exact Good.ret ⟨⟨s,tP (⟨#[104]⟩:ByteArray) (tV (⟨#[88]⟩:ByteArray)) (tW 0),tV (⟨#[88]⟩:ByteArray),[g]⟩,i,h,rfl,⟨hs,W (wn_P (by decide) x1 (wn_W (by decide) (by decide))) (by decide),W x1 (by decide),by simp,by simp [hg]⟩,rfl⟩
   · exact Good.ret ⟨⟨s,tP (⟨#[104]⟩:ByteArray) (tV (⟨#[88]⟩:ByteArray)) (tW 0),tV (⟨#[88]⟩:ByteArray),[]⟩,i,h,rfl,⟨hs,W (wn_P (by decide) x1 (wn_W (by decide) (by decide))) (by decide),W x1 (by decide),by simp,by simp⟩,rfl⟩
 refine Good.ite (fun _=>?_) (fun _=>?_)
 · skip
   refine Good.bind (pick_ok hl _ _ (by decide) (by decide) 8 (by decide)) ?_
   rintro _ ⟨z,i,h,hz,rfl⟩
   simp only [vV,vO,vP,vW,vC,nv0,nvS,dvI,dvB,dvS,dvL,B5];refine Good.bind (once_ok hl _ _ (by decide) (by decide)) ?_
   rintro _ ⟨q,i,h,rfl⟩
   simp only [nv0,nvS,dvI,dvB,dvS,dvL,B5];refine Good.ite (fun _=>?_) (fun _=>?_)
   · refine Good.bind (guard_ok hl _ _) ?_
     rintro _ ⟨g,i,h,hg,rfl⟩
     have hb63:F6 1 M63=true:=by decide
     simp only [nv0,nvS,dvI,dvB,dvS,dvL,B5,C5,C8,E1,hb63,H1];exact Good.ret ⟨⟨s,tP (⟨#[102]⟩:ByteArray) (tO (⟨#[110,117,109]⟩:ByteArray) (tV (⟨#[78]⟩:ByteArray))) (tO (⟨#[110,117,109]⟩:ByteArray) (tV (⟨#[77]⟩:ByteArray))),tO (⟨#[110,117,109]⟩:ByteArray) (tP z (tV (⟨#[78]⟩:ByteArray)) (tV (⟨#[77]⟩:ByteArray))),[g]⟩,i,h,rfl,⟨hs,W (wn_P (by decide) (wn_O (by decide) n1) (wn_O (by decide) m1)) (by decide),W (wn_O (by decide) (wn_P (by omega) n1 m1)) (by decide),by simp,by simp [hg]⟩,rfl⟩
   · exact Good.ret ⟨⟨s,tP (⟨#[102]⟩:ByteArray) (tO (⟨#[110,117,109]⟩:ByteArray) (tV (⟨#[78]⟩:ByteArray))) (tO (⟨#[110,117,109]⟩:ByteArray) (tV (⟨#[77]⟩:ByteArray))),tO (⟨#[110,117,109]⟩:ByteArray) (tP z (tV (⟨#[78]⟩:ByteArray)) (tV (⟨#[77]⟩:ByteArray))),[]⟩,i,h,rfl,⟨hs,W (wn_P (by decide) (wn_O (by decide) n1) (wn_O (by decide) m1)) (by decide),W (wn_O (by decide) (wn_P (by omega) n1 m1)) (by decide),by simp,by simp⟩,rfl⟩
 refine Good.ite (fun _=>?_) (fun _=>?_)
 · skip
   refine Good.bind (once_ok hl _ _ (by decide) (by decide)) ?_
   rintro _ ⟨q,i,h,rfl⟩
   simp only [nv0,nvS,dvI,dvB,dvS,dvL,B5];refine Good.ite (fun _=>?_) (fun _=>?_)
   · refine Good.bind (guard_ok hl _ _) ?_
     rintro _ ⟨g,i,h,hg,rfl⟩
     have hb63:F6 1 M63=true:=by decide
     simp only [nv0,nvS,dvI,dvB,dvS,dvL,B5,C5,C8,E1,hb63,H1];exact Good.ret ⟨⟨s,tO (⟨#[103]⟩:ByteArray) (tO (⟨#[110,117,109]⟩:ByteArray) (tV (⟨#[78]⟩:ByteArray))),tP (⟨#[104]⟩:ByteArray) (tC (⟨#[98]⟩:ByteArray)) (tV (⟨#[78]⟩:ByteArray)),[g]⟩,i,h,rfl,⟨hs,W (wn_O (by decide) (wn_O (by decide) n1)) (by decide),W (wn_P (by decide) b1 n1) (by decide),by simp,by simp [hg]⟩,rfl⟩
   · exact Good.ret ⟨⟨s,tO (⟨#[103]⟩:ByteArray) (tO (⟨#[110,117,109]⟩:ByteArray) (tV (⟨#[78]⟩:ByteArray))),tP (⟨#[104]⟩:ByteArray) (tC (⟨#[98]⟩:ByteArray)) (tV (⟨#[78]⟩:ByteArray)),[]⟩,i,h,rfl,⟨hs,W (wn_O (by decide) (wn_O (by decide) n1)) (by decide),W (wn_P (by decide) b1 n1) (by decide),by simp,by simp⟩,rfl⟩
 refine Good.ite (fun _=>?_) (fun _=>?_)
 · skip
   have hp:=pickT_ok hl i h [tC (⟨#[98]⟩:ByteArray),tO (⟨#[110,117,109]⟩:ByteArray) (tW 2)] (by decide) (by decide)
   simp only [C3,D1,Tm.row_eq] at hp;refine Good.bind hp ?_
   rintro _ ⟨t,i,h,ht,rfl⟩
   have hw:Wn 3000 t:=by
    simp only [D6,Q0,or_false] at ht;rcases ht with rfl | rfl
    · exact W b1 (by decide)
    · exact W (wn_O (by decide) (wn_W (by decide) (by decide))) (by decide)
   simp only [nv0,nvS,dvI,dvB,dvS,dvL,B5];refine Good.bind (once_ok hl _ _ (by decide) (by decide)) ?_
   rintro _ ⟨q,i,h,rfl⟩
   simp only [nv0,nvS,dvI,dvB,dvS,dvL,B5];refine Good.ite (fun _=>?_) (fun _=>?_)
   · refine Good.bind (guard_ok hl _ _) ?_
     rintro _ ⟨g,i,h,hg,rfl⟩
     have hb63:F6 1 M63=true:=by decide
     simp only [nv0,nvS,dvI,dvB,dvS,dvL,B5,C5,C8,E1,hb63,H1];exact Good.ret ⟨⟨s,tC (⟨#[97]⟩:ByteArray),t,[g]⟩,i,h,rfl,⟨hs,W a1 (by decide),hw,by simp,by simp [hg]⟩,rfl⟩
   · exact Good.ret ⟨⟨s,tC (⟨#[97]⟩:ByteArray),t,[]⟩,i,h,rfl,⟨hs,W a1 (by decide),hw,by simp,by simp⟩,rfl⟩
 refine Good.ite (fun _=>?_) (fun _=>?_)
 · skip
   refine Good.bind (once_ok hl _ _ (by decide) (by decide)) ?_
   rintro _ ⟨q,i,h,rfl⟩
   simp only [nv0,nvS,dvI,dvB,dvS,dvL,B5];refine Good.ite (fun _=>?_) (fun _=>?_)
   · refine Good.bind (guard_ok hl _ _) ?_
     rintro _ ⟨g,i,h,hg,rfl⟩
     have hb63:F6 1 M63=true:=by decide
     simp only [nv0,nvS,dvI,dvB,dvS,dvL,B5,C5,C8,E1,hb63,H1];exact Good.ret ⟨⟨s,tP (⟨#[102]⟩:ByteArray) (tV (⟨#[88]⟩:ByteArray)) (tV (⟨#[88]⟩:ByteArray)),tO (⟨#[103]⟩:ByteArray) (tV (⟨#[88]⟩:ByteArray)),[g]⟩,i,h,rfl,⟨hs,W (wn_P (by decide) x1 x1) (by decide),W (wn_O (by decide) x1) (by decide),by simp,by simp [hg]⟩,rfl⟩
   · exact Good.ret ⟨⟨s,tP (⟨#[102]⟩:ByteArray) (tV (⟨#[88]⟩:ByteArray)) (tV (⟨#[88]⟩:ByteArray)),tO (⟨#[103]⟩:ByteArray) (tV (⟨#[88]⟩:ByteArray)),[]⟩,i,h,rfl,⟨hs,W (wn_P (by decide) x1 x1) (by decide),W (wn_O (by decide) x1) (by decide),by simp,by simp⟩,rfl⟩
 refine Good.bind (termN hl 3 _ rfl 512 (by decide) (by decide) _ _ _) ?_
 rintro _ ⟨t,i,h,ht,htn,rfl⟩
 simp only [nv0,nvS,dvI,dvB,dvS,dvL,B5];refine Good.bind (termN hl 2 _ rfl 128 (by decide) (by decide) _ _ _) ?_
 rintro _ ⟨u,i,h,hu,hun,rfl⟩
 simp only [nv0,nvS,dvI,dvB,dvS,dvL,B5];refine Good.bind (once_ok hl _ _ (by decide) (by decide)) ?_
 rintro _ ⟨q,i,h,rfl⟩
 simp only [nv0,nvS,dvI,dvB,dvS,dvL,B5];refine Good.ite (fun _=>?_) (fun _=>?_)
 · refine Good.bind (guard_ok hl _ _) ?_
   rintro _ ⟨g,i,h,hg,rfl⟩
   have hb63:F6 1 M63=true:=by decide
   simp only [nv0,nvS,dvI,dvB,dvS,dvL,B5,C5,C8,E1,hb63,H1];exact Good.ret ⟨⟨s,t,u,[g]⟩,i,h,rfl,⟨hs,ht.wn (by decide) (by show t.nodes<=_; omega),hu.wn (by decide) (by show u.nodes<=_; omega),by simp,by simp [hg]⟩,rfl⟩
 · exact Good.ret ⟨⟨s,t,u,[]⟩,i,h,rfl,⟨hs,ht.wn (by decide) (by show t.nodes<=_; omega),hu.wn (by decide) (by show u.nodes<=_; omega),by simp,by simp⟩,rfl⟩
theorem fmt_ok (n:Nat) (hn:n<10):∃ s:ByteArray,s.size<=2/\rn ⟨130,0,0⟩ [.int (n:Int)]=some (0,[.str s]):=by
 rw [e130_0_0];by_cases h0:n=0
 · subst h0; exact ⟨_,by decide,rfl⟩
 have e0:¬(n:Int)=0:=by omega
 rw [H8 e0,H8 (by omega:¬(n:Int)<0)]
 simp only [H2];have hm:Int.tmod (n:Int) 10=(n:Int):=Int.tmod_eq_of_lt (by omega) (by omega)
 have hd:Int.tdiv (n:Int) 10=0:=Int.tdiv_eq_zero_of_lt (by omega) (by omega)
 have hl:∀ s:ByteArray,rn ⟨130,0,1⟩ [.int 0,.bool false,.str s]=some (0,[.bool false,.str s]):=fun s=>by
  rw [e130_0_1]; rfl
 have h1:∃ s:ByteArray,s.size<=2/\rn ⟨130,0,1⟩ [.int (n:Int),.bool false,.str ⟨#[]⟩]=some (0,[.bool false,.str s]):=by
  rw [e130_0_1];rw [H8 e0,hm,hd,H8 (by omega:¬(n:Int)<0)]
  have hw:IntKind.i64.wrap 0=0:=rfl;simp only [Bool.not_false,H1,H2,show decide ((10:Int)=0)=false from rfl,hw,hl]
  refine ⟨_,?_,by rw [H7 (by show _<=i64max; unfold i64max; simp [bytesOf,ByteArray.size])]; rfl⟩
  rw [ByteArray.size_append]; simp [bytesOf,ByteArray.size]
 obtain ⟨s,h2,e⟩:=h1;exact ⟨s,h2,by rw [e]; rfl⟩
def DDf (code:Rows) (x:Nat × List D):Prop:=∃ d:DfM,∃ i':Nat,∃ h':Int,DfW d/\x=(0,[.sl code,.int (i':Int),.int h',.sl (d.so.map sRow),.sl (d.op.map OpM.row),.sl (d.ru.map RuM.row),.sl (d.st.map StM.row)])
theorem ddef_ok {code:Rows} (hl:code.length<=1048576) (i:Nat) (h:Int):Good (rn ⟨76,0,0⟩ [.sl code,.int (i:Int),.int h]) (DDf code):=by
 have hso:baseSo.length<=10:=by decide
 have hop:baseOp.length<=10:=by decide
 have hsig:SigB baseOp:=⟨by decide,fun o ho=>by have:=(baseOp_ok o ho).2.1; show o.a.length<=_; omega⟩
 have k1:∀ (m j:Nat) (b:Int),b<=5->(j:Int)+m=b->∀ (i:Nat) (h:Int) (R:List RuM),R.length<=j->(∀ r∈R,RuW r)->∃ R':List RuM,∃ i':Nat,∃ h':Int,R'.length<=5/\(∀ r∈R',RuW r) ∧
  rn ⟨76,0,1⟩ [.int b,.int (j:Int),.sl code,.int (i:Int),.int h,.sl [],.sl [],.sl [],.sl [],.sl (baseSo.map sRow),.sl (baseOp.map OpM.row),.sl (R.map RuM.row),.sl []]=some (0,[.sl code,.int (i':Int),.int h',.sl [],.sl [],.sl [],.sl [],.sl (baseSo.map sRow),.sl (baseOp.map OpM.row),.sl (R'.map RuM.row),.sl []]):=by
  intro m;induction m with
  | zero =>
   intro j b hb hj i h R hR hRa;rw [e76_0_1,H8 (by omega:¬(j:Int)<b)]
   exact ⟨R,i,h,by omega,hRa,rfl⟩
  | succ m ih =>
   intro j b hb hj i h R hR hRa;rw [e76_0_1,H7 (by omega:(j:Int)<b)]
   obtain ⟨s,hs,e1⟩:=fmt_ok j (by omega)
   have hsz:((⟨#[114]⟩:ByteArray)++s).size<=1000:=by rw [ByteArray.size_append]; show 1+s.size<=1000; omega
   have hi:decide ((⟨#[114]⟩:ByteArray).size+s.size<=i64max)=true:=H7 (by show 1+s.size<=i64max; unfold i64max; omega)
   obtain ⟨_,e2,r,i',h',hn,hr,rfl⟩:=rule_ok hl ((⟨#[114]⟩:ByteArray)++s) hsz i h;have e3:=r131 (baseSo.map sRow) baseOp hsig r hr.b;have hb63:F6 (R.length+1) M63=true:=nb (by omega)
   have ew:IntKind.i64.wrap ((j:Int)+1)=((j+1:Nat):Int):=by rw [IntWalk.i64_in _ (by omega)]; omega
   simp only [H1,e1,nv0,nvS,dvI,dvB,dvS,dvL,B5,hi,e2,e3,B6,C5,C8,E1,hb63,ew];cases rulOK baseOp r with
   | true =>
    obtain ⟨R',i2,h2,q1,q2,q3⟩:=ih (j+1) b hb (by omega) i' h' (R++[r]) (by simp; omega) (fun x hx=>by
     rcases D0.1 hx with hx | hx
     · exact hRa x hx
     · rw [G5.1 hx]; exact hr)
    simp only [E0,C3,D1,RuM.row] at q3;exact ⟨R',i2,h2,q1,q2,q3⟩
   | false =>
    exact ih (j+1) b hb (by omega) i' h' R (by omega) hRa
 have k2:∀ (R:List RuM),R.length<=5->(∀ r∈R,RuW r)->∀ (m j:Nat) (b:Int),b<=5->(j:Int)+m=b->∀ (i:Nat) (h:Int) (S:List StM),S.length<=j->∃ S':List StM,∃ i':Nat,∃ h':Int,S'.length<=5 ∧
  rn ⟨76,0,3⟩ [.int b,.int (j:Int),.sl code,.int (i:Int),.int h,.sl [],.sl [],.sl [],.sl [],.sl (baseSo.map sRow),.sl (baseOp.map OpM.row),.sl (R.map RuM.row),.sl (S.map StM.row)]=some (0,[.sl code,.int (i':Int),.int h',.sl [],.sl [],.sl [],.sl [],.sl (baseSo.map sRow),.sl (baseOp.map OpM.row),.sl (R.map RuM.row),.sl (S'.map StM.row)]):=by
  intro R hR hRa m;induction m with
  | zero =>
   intro j b hb hj i h S hS;rw [e76_0_3,H8 (by omega:¬(j:Int)<b)]
   exact ⟨S,i,h,by omega,rfl⟩
  | succ m ih =>
   intro j b hb hj i h S hS;rw [e76_0_3,H7 (by omega:(j:Int)<b)]
   simp only [H1];obtain ⟨_,e1,s,i1,h1,hs,rfl⟩:=pick_ok hl i h (l:=[[.str ⟨#[102]⟩],[.str ⟨#[102]⟩],[.str ⟨#[103]⟩],[.str ⟨#[104]⟩],[.str ⟨#[116,111,112]⟩]]) (by decide) (by decide) 8 (by decide)
   obtain ⟨_,e2,n,i2,h2,n0,n1,rfl⟩:=below_ok hl i1 h1 (n:=2) (by decide) (by decide)
   have hdf:DfW ⟨baseSo,baseOp,R,S++[⟨s,n⟩]⟩:=⟨hso,baseSo_ok,hop,baseOp_ok,by show R.length<=10; omega,hRa,by show (S++[_]).length<=10; simp; omega⟩
   have e3:=r97 _ hdf.b;have hb63:F6 (S.length+1) M63=true:=nb (by omega)
   have ew:IntKind.i64.wrap ((j:Int)+1)=((j+1:Nat):Int):=by rw [IntWalk.i64_in _ (by omega)]; omega
   simp only [E0,C3,D1,StM.row] at e3;simp only [e1,e2,nv0,nvS,dvI,dvB,dvS,dvL,B5,e3,B6,List.length_append,C5,C8,E1,hb63,ew,H1];cases DfM.valid ⟨baseSo,baseOp,R,S++[⟨s,n⟩]⟩ with
   | true =>
    obtain ⟨S',i3,h3,q1,q2⟩:=ih (j+1) b hb (by omega) i2 h2 (S++[⟨s,n⟩]) (by simp; omega)
    simp only [E0,C3,D1,StM.row] at q2;exact ⟨S',i3,h3,q1,q2⟩
   | false =>
    have ew2:IntKind.i64.wrap (((S.length+1:Nat):Int)-1)=(S.length:Int):=by rw [IntWalk.i64_in _ (by omega)]; omega
    have ed:(decide ((0:Int)<=(S.length:Int))&&decide ((S.length:Int)<=((S.length+1:Nat):Int)))=true:=by simp; omega
    have etk:(S.map StM.row++[[D.str s,.int n]]).take (Int.toNat (S.length:Int))=S.map StM.row:=by
     have e:S.length=(S.map StM.row).length:=(B6 ..).symm;rw [B9,e,List.take_left]
    simp only [Bool.not_false,H1,ew2,ed,etk];exact ih (j+1) b hb (by omega) i2 h2 S (by omega)
 have hbase:rn ⟨128,0,0⟩ []=some (0,[.sl (baseSo.map sRow),.sl (baseOp.map OpM.row)]):=by rw [e128_0_0]; rfl
 rw [e76_0_0];simp only [hbase,nv0,nvS,dvI,dvB,dvS,dvL,B5];refine Good.bind (below_ok hl _ _ (by decide) (by decide)) ?_
 rintro _ ⟨b,i,h,b0,b1,rfl⟩
 simp only [nv0,nvS,dvI,dvB,dvS,dvL,B5];have ew:IntKind.i64.wrap (1+b)=1+b:=IntWalk.i64_in _ (by omega)
 obtain ⟨R,i1,h1,q1,q2,q3⟩:=k1 (1+b).toNat 0 (1+b) (by omega) (by omega) i h [] (G6 _) (by simp)
 simp only [C6,D1] at q3;simp only [ew,q3,nv0,nvS,dvI,dvB,dvS,dvL,B5,E4,H1,H2];refine Good.bind (below_ok hl _ _ (by decide) (by decide)) ?_
 rintro _ ⟨c,i,h,c0,c1,rfl⟩
 simp only [nv0,nvS,dvI,dvB,dvS,dvL,B5];obtain ⟨S,i2,h2,p1,p2⟩:=k2 R q1 q2 c.toNat 0 c (by omega) (by omega) i h [] (G6 _)
 simp only [C6,D1] at p2;simp only [p2,nv0,nvS,dvI,dvB,dvS,dvL,B5,E4,H1,H2];exact Good.ret ⟨⟨baseSo,baseOp,R,S⟩,i2,h2,⟨hso,baseSo_ok,hop,baseOp_ok,by show R.length<=10; omega,q2,by show S.length<=10; omega⟩,rfl⟩
end Go.Q.S
end
section
namespace Go.Q.S
open Go Go.Q Go.Proofs
def clB:List Bnd:=[(⟨#[88]⟩,tC ⟨#[97]⟩),(⟨#[89]⟩,tC ⟨#[98]⟩)]
theorem closed_ok (t:Tm) (ht:Wn 2048 t):∃ u:Tm,Wn 2048 u/\rn ⟨167,0,0⟩ [.int t.k,.int t.n,.str t.s,.sl (t.as.map Tm.row)]=some (0,[.int u.k,.int u.n,.str u.s,.sl (u.as.map Tm.row)]):=by
 have hw:∀ b∈clB,Wn 1 b.2:=fun b hb=>by
  simp only [clB,D6,Q0,or_false] at hb;rcases hb with rfl | rfl
  · exact wn_C (by decide)
  · exact wn_C (by decide)
 have h1:=r107 clB (by decide) (fun b hb=>(hw b hb).small (by decide)) t (ht.small (by decide))
 have h2:=aS_nodesM (l:=clB) (m:=1) (by decide) (fun b hb=>(hw b hb).n) t
 have h3:=ht.n;refine ⟨aS clB t,⟨wt_aS (fun b hb=>(hw b hb).w) t ht.w,by omega⟩,?_⟩
 simp only [clB,C3,D1,bd_row] at h1;rw [e167_0_0];simp only [vC,nv0,nvS,dvI,dvB,dvS,dvL,B5,h1];rfl
structure SyW (vl:List ByteArray) (tm:Tm) (cl:List Int):Prop where
 v:vl.length<=10
 vs:∀ x∈vl,x.size<=1000
 t:Wn 3000 tm
 c:cl.length<=100
 ci:∀ x∈cl,S.i64ok x
theorem SyW.b {v:List ByteArray} {t:Tm} {c:List Int} (h:SyW v t c) {d:DfM} (hd:DfB d):SyB ⟨d,v,t,c⟩ :=
 ⟨hd,by have:=h.v; show v.length<=_; omega,fun x hx=>by have:=h.vs x hx; unfold maxLen; omega,h.t.w,by have:=h.t.n; show t.nodes<=_; omega,by have:=h.c; show c.length<=_; omega⟩
def DSy (code:Rows) (x:Nat × List D):Prop:=∃ v:List ByteArray,∃ t:Tm,∃ c:List Int,∃ i':Nat,∃ h':Int,SyW v t c/\x=(0,[.int t.k,.int t.n,.str t.s,.sl code,.int (i':Int),.int h',.sl (v.map sRow),.sl (t.as.map Tm.row),.sl (c.map iRow)])
def nmL:List ByteArray:=[⟨#[78]⟩,⟨#[77]⟩]
theorem nmL_ok:∀ x∈nmL,x.size<=1000:=fun x hx=>by
 have:=List.all_eq_true.1 (show nmL.all (fun x=>decide (x.size<=1000))=true from by decide) x hx
 simpa using this
theorem nmL_rows:([[.str (⟨#[78]⟩:ByteArray)],[.str (⟨#[77]⟩:ByteArray)]]:Rows)=nmL.map sRow:=rfl
theorem cases_ok (gs:List Gu) (hg:∀ g∈gs,GuW g) (hn:gs.length<=10):∃ c:List Int,c.length<=100/\(∀ x∈c,S.i64ok x)/\rn ⟨168,0,0⟩ [.sl (nmL.map sRow),.sl (gs.map Gu.row)]=some (0,[.sl (c.map iRow)]):=by
 have h1:=r168 nmL gs (by omega) (fun g h=>⟨(hg g h).b.ln,(hg g h).b.rn⟩)
 have h2:=allC_len nmL gs;refine ⟨(allC nmL gs).map (fun n:Nat=>(n:Int)),by rw [B6]; omega,fun x hx=>?_,?_⟩
 · obtain ⟨n,hn,rfl⟩:=List.mem_map.1 hx
   exact allC_ok nmL gs n hn
 · rw [h1,List.map_map]; rfl
theorem dsym_ok {code:Rows} (hl:code.length<=1048576) (i:Nat) (h:Int):Good (rn ⟨109,0,0⟩ [.sl code,.int (i:Int),.int h]) (DSy code):=by
 rw [e109_0_0];refine Good.bind (below_ok hl _ _ (by decide) (by decide)) ?_
 rintro _ ⟨b,i,h,b0,b1,rfl⟩
 simp only [nv0,nvS,dvI,dvB,dvS,dvL,B5];have e:∃ d:Nat,IntKind.i64.wrap (2+b)=(d:Int)/\d<=4:=⟨(2+b).toNat,by rw [IntWalk.i64_in _ (by omega)]; omega,by omega⟩
 obtain ⟨d,e,hd⟩:=e;rw [e];have hp:4 ^ d<=4 ^ 4:=Nat.pow_le_pow_right (by decide) hd
 have hp4:4 ^ 4=256:=rfl;refine Good.bind (termN hl d _ rfl 2048 (by omega) (by omega) _ _ _) ?_
 rintro _ ⟨t,i,h,ht,htn,rfl⟩
 obtain ⟨u,hu,e1⟩:=closed_ok t (ht.wn (by decide) htn)
 have e2:=r106 u (hu.small (by decide))
 have hr:=wn_rW hu;simp only [nv0,nvS,dvI,dvB,dvS,dvL,B5,e1,e2];refine Good.bind (once_ok hl _ _ (by decide) (by decide)) ?_
 rintro _ ⟨q,i,h,rfl⟩
 simp only [nv0,nvS,dvI,dvB,dvS,dvL,B5];refine Good.ite (fun _=>?_) (fun _=>?_)
 · refine Good.bind (below_ok hl _ _ (by decide) (by decide)) ?_
   rintro _ ⟨b,i,h,b0,b1,rfl⟩
   simp only [vV,nv0,nvS,dvI,dvB,dvS,dvL,B5];have ew:IntKind.i64.wrap (1+b)=1+b:=IntWalk.i64_in _ (by omega)
   rw [ew];refine Good.bind (wordN hl 2 _ rfl 64 (by decide) (by decide) _ _ _) ?_
   rintro _ ⟨z,i,h,hz,hzn,rfl⟩
   have hg:GuW ⟨1+b,tV ⟨#[78]⟩,z⟩:=⟨by show 0<=1+b/\1+b<=5; omega,(wn_V (by decide)).mono (by decide),hz.wn (by decide) (by show z.nodes<=_; omega)⟩
   obtain ⟨c,c1,c2,c3⟩:=cases_ok [⟨1+b,tV ⟨#[78]⟩,z⟩] (by simpa using hg) (by simp)
   simp only [C3,D1,Gu.row] at c3;have hb63:F6 (0+1) M63=true:=by decide
   simp only [nv0,nvS,dvI,dvB,dvS,dvL,B5,C5,C8,hb63,H1,nmL_rows,D9,c3];exact Good.ret ⟨nmL,rW u,c,i,h,⟨by decide,nmL_ok,hr.mono (by decide),c1,c2⟩,rfl⟩
 · obtain ⟨c,c1,c2,c3⟩:=cases_ok [] (by simp) (by decide)
   simp only [D1] at c3;simp only [nmL_rows,c3,nv0,nvS,dvI,dvB,dvS,dvL,B5];exact Good.ret ⟨nmL,rW u,c,i,h,⟨by decide,nmL_ok,hr.mono (by decide),c1,c2⟩,rfl⟩
theorem dany_ok {code:Rows} (hl:code.length<=1048576) (i:Nat) (h:Int):Good (rn ⟨170,0,0⟩ [.sl code,.int (i:Int),.int h]) (DW code 3000):=by
 rw [e170_0_0];refine Good.bind (once_ok hl _ _ (by decide) (by decide)) ?_
 rintro _ ⟨q,i,h,rfl⟩
 simp only [nv0,nvS,dvI,dvB,dvS,dvL,B5];refine Good.ite (fun _=>?_) (fun _=>?_)
 · refine Good.bind (bent_ok hl _ _) ?_
   rintro _ ⟨u,i,h,hu,rfl⟩
   exact Good.ret ⟨u,i,h,hu.mono (by decide),rfl⟩
 · refine Good.bind (pick_ok hl _ _ (by decide) (by decide) 8 (by decide)) ?_
   rintro _ ⟨s,i,h,hs,rfl⟩
   simp only [nv0,nvS,dvI,dvB,dvS,dvL,B5];refine Good.bind (once_ok hl _ _ (by decide) (by decide)) ?_
   rintro _ ⟨q,i,h,rfl⟩
   simp only [nv0,nvS,dvI,dvB,dvS,dvL,B5];refine Good.bind (anyN hl s 4 _ rfl 2048 (by decide) (by decide) _ _ _) ?_
   rintro _ ⟨t,i,h,ht,htn,rfl⟩
   exact Good.ret ⟨t,i,h,ht.wn (by decide) (by omega),rfl⟩
theorem dsbent_ok {code:Rows} (hl:code.length<=1048576) (i:Nat) (h:Int):Good (rn ⟨112,0,0⟩ [.sl code,.int (i:Int),.int h]) fun x=>∃ v:List ByteArray,∃ t:Tm,∃ c:List Int,∃ i':Nat,∃ h':Int,v.length<=20/\(∀ x∈v,x.size<=1000)/\Wn 3000 t/\c.length<=200/\(∀ x∈c,S.i64ok x)/\x=(0,[.int t.k,.int t.n,.str t.s,.sl code,.int (i':Int),.int h',.sl (v.map sRow),.sl (t.as.map Tm.row),.sl (c.map iRow)]):=by
 rw [e112_0_0];refine Good.bind (dsym_ok hl _ _) ?_
 rintro _ ⟨v,t,c,i,h,hs,rfl⟩
 have h1:=hs.v;have h2:=hs.c;simp only [nv0,nvS,dvI,dvB,dvS,dvL,B5];refine Good.bind (below_ok hl _ _ (by decide) (by decide)) ?_
 rintro _ ⟨b,i,h,b0,b1,rfl⟩
 simp only [nv0,nvS,dvI,dvB,dvS,dvL,B5];refine Good.ite (fun _=>?_) (fun _=>?_)
 · refine Good.bind (pickI_ok hl _ _ (by decide) (by decide) (by decide)) ?_
   rintro _ ⟨n,i,h,n0,n1,rfl⟩
   have hb63:F6 (c.length+1) M63=true:=nb (by omega)
   simp only [nv0,nvS,dvI,dvB,dvS,dvL,B5,B6,C5,C8,E1,hb63,H1];refine Good.ret ⟨v,t,c++[n],i,h,by omega,hs.vs,hs.t,by simp; omega,fun x hx=>?_,by rw [E0]; rfl⟩
   rcases D0.1 hx with hx | hx
   · exact hs.ci x hx
   · rw [G5.1 hx]; exact S.i64ok_of (by omega) (by omega)
 refine Good.ite (fun _=>?_) (fun _=>?_)
 · refine Good.bind (pick_ok hl _ _ (by decide) (by decide) 8 (by decide)) ?_
   rintro _ ⟨s,i,h,hz,rfl⟩
   have hb63:F6 (v.length+1) M63=true:=nb (by omega)
   simp only [nv0,nvS,dvI,dvB,dvS,dvL,B5,B6,C5,C8,E1,hb63,H1];refine Good.ret ⟨v++[s],t,c,i,h,by simp; omega,fun x hx=>?_,hs.t,by omega,hs.ci,by rw [E0]; rfl⟩
   rcases D0.1 hx with hx | hx
   · exact hs.vs x hx
   · rw [G5.1 hx]; omega
 refine Good.ite (fun _=>?_) (fun _=>?_)
 · refine Good.bind (dany_ok hl _ _) ?_
   rintro _ ⟨u,i,h,hu,rfl⟩
   exact Good.ret ⟨v,u,c,i,h,by omega,hs.vs,hu,by omega,hs.ci,rfl⟩
 · exact Good.ret ⟨v,t,c,i,h,by omega,hs.vs,hs.t,by omega,hs.ci,rfl⟩
theorem gcopy_ok (g:Gu) (hg:GuW g):rn ⟨169,0,0⟩ [.int g.k,.int g.l.k,.int g.l.n,.str g.l.s,.sl (g.l.as.map Tm.row),.int g.r.k,.int g.r.n,.str g.r.s,.sl (g.r.as.map Tm.row)]=some (0,[.int g.k,.int g.l.k,.int g.l.n,.str g.l.s,.int g.r.k,.int g.r.n,.str g.r.s,.sl (g.l.as.map Tm.row),.sl (g.r.as.map Tm.row)]):=by
 have h1:=r60 g.l (hg.l.small (by decide))
 have h2:=r60 g.r (hg.r.small (by decide))
 rw [e169_0_0];simp only [h1,h2,nv0,nvS,dvI,dvB,dvS,dvL,B5]
theorem dcopy_ok (d:DfM) (hd:DfW d):rn ⟨110,0,0⟩ [.sl (d.so.map sRow),.sl (d.op.map OpM.row),.sl (d.ru.map RuM.row),.sl (d.st.map StM.row)]=some (0,[.sl (d.so.map sRow),.sl (d.op.map OpM.row),.sl (d.ru.map RuM.row),.sl (d.st.map StM.row)]):=by
 have h1:=hd.so;have h2:=hd.op;have h3:=hd.ru;have h4:=hd.st;have k1:∀ n i,i+n=d.op.length->rn ⟨110,0,1⟩ [.int (i:Int),.sl (d.so.map sRow),.sl (d.op.map OpM.row),.sl (d.ru.map RuM.row),.sl (d.st.map StM.row),.sl [],.sl [],.sl [],.sl [],.sl (d.so.map sRow),.sl ((d.op.take i).map OpM.row),.sl [],.sl (d.st.map StM.row)]=some (0,[.sl (d.so.map sRow),.sl (d.op.map OpM.row),.sl (d.ru.map RuM.row),.sl (d.st.map StM.row),.sl [],.sl [],.sl [],.sl [],.sl (d.so.map sRow),.sl (d.op.map OpM.row),.sl [],.sl (d.st.map StM.row)]):=by
  intro n;induction n with
  | zero =>
   intro i hi;obtain rfl:i=d.op.length:=by omega
   rw [e110_0_1];simp only [B6,C0,D4,H4,H2,C9,P2]
  | succ n ih =>
   intro i hi;have hlt:i<d.op.length:=by omega
   have ho:=hd.opa _ (C4 hlt);have ho1:=ho.2.1;have hb1:F6 (0+d.op[i].a.length) M63=true:=nb (by omega)
   have hb2:F6 ((d.op.take i).length+1) M63=true:=nb (by rw [R5]; omega)
   have h:=ih (i+1) (by omega)
   rw [N6 hlt,E0] at h;simp only [C3,D1,OpM.row] at h;rw [e110_0_1];simp only [B6,C0,hlt,H3,H1,inbN,B9,rowAt_map hlt,wrap_succ hlt (maxB (by omega)),OpM.row,nv0,nvS,dvI,dvB,dvS,dvL,B5,C8,C5,E1,D9,h]
   rw [show F6 d.op[i].a.length M63=true by simpa using hb1,show F6 ((d.op.take i).length+1) M63=true from hb2]
   rfl
 have k3:∀ (i:Nat) (hi:i<d.ru.length) (S1 S2 S3:Rows) (A B:Rows) (n1:ByteArray) (a1 a2 b1 b2:Int) (s1 s2:ByteArray),∀ n j,j+n=d.ru[i].g.length->rn ⟨110,0,5⟩ [.int (i:Int),.int (j:Int),.sl (d.so.map sRow),.sl (d.op.map OpM.row),.sl (d.ru.map RuM.row),.sl (d.st.map StM.row),.str n1,.int a1,.int a2,.str s1,.int b1,.int b2,.str s2,.sl [],.sl [],.sl [],.sl [],.sl S1,.sl S2,.sl S3,.sl (d.st.map StM.row),.sl A,.sl B,.sl ((d.ru[i].g.take j).map Gu.row)]=some (0,[.int (i:Int),.sl (d.so.map sRow),.sl (d.op.map OpM.row),.sl (d.ru.map RuM.row),.sl (d.st.map StM.row),.str n1,.int a1,.int a2,.str s1,.int b1,.int b2,.str s2,.sl [],.sl [],.sl [],.sl [],.sl S1,.sl S2,.sl S3,.sl (d.st.map StM.row),.sl A,.sl B,.sl (d.ru[i].g.map Gu.row)]):=by
  intro i hi S1 S2 S3 A B n1 a1 a2 b1 b2 s1 s2 n;have hr:=hd.rua _ (C4 hi);have hrg:=hr.g;induction n with
  | zero =>
   intro j hj;obtain rfl:j=d.ru[i].g.length:=by omega
   rw [e110_0_5];simp only [B6,inbN,hi,H3,H1,B9,rowAt_map hi,RuM.row,nv0,nvS,dvI,dvB,dvS,dvL,B5,C0,D4,H4,H2,P2]
  | succ n ih =>
   intro j hj;have hlt:j<d.ru[i].g.length:=by omega
   have h:=ih (j+1) (by omega)
   have hg:=gcopy_ok d.ru[i].g[j] (hr.ga _ (C4 hlt));have hb2:F6 ((d.ru[i].g.take j).length+1) M63=true:=nb (by rw [R5]; omega)
   rw [N6 hlt,E0] at h;simp only [C3,D1,Gu.row] at h;rw [e110_0_5];simp only [B6,inbN,hi,H3,H1,B9,rowAt_map hi,RuM.row,nv0,nvS,dvI,dvB,dvS,dvL,B5,C0,hlt,rowAt_map hlt,wrap_succ hlt (maxB (by omega)),Gu.row,hg,C5,C8,E1,hb2,h]
 have k2:∀ n i,i+n=d.ru.length->rn ⟨110,0,3⟩ [.int (i:Int),.sl (d.so.map sRow),.sl (d.op.map OpM.row),.sl (d.ru.map RuM.row),.sl (d.st.map StM.row),.sl [],.sl [],.sl [],.sl [],.sl (d.so.map sRow),.sl (d.op.map OpM.row),.sl ((d.ru.take i).map RuM.row),.sl (d.st.map StM.row)]=some (0,[.sl [],.sl [],.sl [],.sl [],.sl (d.so.map sRow),.sl (d.op.map OpM.row),.sl (d.ru.map RuM.row),.sl (d.st.map StM.row)]):=by
  intro n;induction n with
  | zero =>
   intro i hi;obtain rfl:i=d.ru.length:=by omega
   rw [e110_0_3];simp only [B6,C0,D4,H4,H2,C9,P2]
  | succ n ih =>
   intro i hi;have hlt:i<d.ru.length:=by omega
   have hr:=hd.rua _ (C4 hlt);have c1:=r60 d.ru[i].l (hr.l.small (by decide))
   have c2:=r60 d.ru[i].r (hr.r.small (by decide))
   have hb2:F6 ((d.ru.take i).length+1) M63=true:=nb (by rw [R5]; omega)
   have h:=ih (i+1) (by omega)
   have hk:=k3 i hlt (d.so.map sRow) (d.op.map OpM.row) ((d.ru.take i).map RuM.row) (d.ru[i].l.as.map Tm.row) (d.ru[i].r.as.map Tm.row) d.ru[i].n d.ru[i].l.k d.ru[i].l.n d.ru[i].r.k d.ru[i].r.n d.ru[i].l.s d.ru[i].r.s d.ru[i].g.length 0 (E1 _);rw [N6 hlt,E0] at h;simp only [C3,D1,RuM.row] at h;simp only [C6,R3,D1] at hk;rw [e110_0_3];simp only [B6,C0,hlt,H3,H1,inbN,B9,rowAt_map hlt,wrap_succ hlt (maxB (by omega)),RuM.row,nv0,nvS,dvI,dvB,dvS,dvL,B5,c1,c2,hk,E4,H1,H2,C5,C8,E1,hb2]
   exact h
 have q1:=k1 d.op.length 0 (E1 _);have q2:=k2 d.ru.length 0 (E1 _);simp only [C6,R3,D1] at q1 q2;have hb1:F6 (0+d.st.length) M63=true:=nb (by omega)
 have hb2:F6 (0+d.so.length) M63=true:=nb (by omega)
 rw [e110_0_0];simp only [B6,C8,hb1,hb2,H1,D9,q1,q2,nv0,nvS,dvI,dvB,dvS,dvL,B5,E4,H1,H2]
theorem scopy_ok (v:List ByteArray) (t:Tm) (c:List Int) (h:SyW v t c):rn ⟨111,0,0⟩ [.sl (v.map sRow),.int t.k,.int t.n,.str t.s,.sl (t.as.map Tm.row),.sl (c.map iRow)]=some (0,[.int t.k,.int t.n,.str t.s,.sl (v.map sRow),.sl (t.as.map Tm.row),.sl (c.map iRow)]):=by
 have h1:=r60 t (h.t.small (by decide))
 have h2:=h.v;have h3:=h.c;have hb1:F6 (0+v.length) M63=true:=nb (by omega)
 have hb2:F6 (0+c.length) M63=true:=nb (by omega)
 rw [e111_0_0];simp only [B6,C8,hb1,hb2,H1,D9,h1,nv0,nvS,dvI,dvB,dvS,dvL,B5]
end Go.Q.S
end
section
namespace Go.Proofs
open Go.Shelf
def Tryz.lays190_ren:Go.Shelf.Ren:=⟨fun | 190=>206 | 125=>218 | 258=>217 | 128=>229 | 129=>230 | 302=>220 | 303=>221 | 304=>222 | 305=>223 | 306=>224 | 307=>225 | 308=>226 | 309=>227 | 310=>228 | 333=>231 | 329=>232 | 330=>233 | 334=>234 | 335=>235 | 336=>236 | 344=>237 | n=>n,fun | 31=>24 | 9=>9 | 3=>3 | 46=>169 | 0=>0 | 51=>221 | 53=>223 | 4=>4 | 183=>213 | 182=>212 | 131=>218 | 5=>5 | 218=>224 | 222=>228 | 228=>230 | 229=>231 | n=>n,fun | n=>n⟩
theorem Tryz.lays190:Go.Proofs.Lays.n190 Tryz.prog Tryz.lays190_ren:={
 mixed:=by kernel_rfl
 f125:=Tryz.func218.trans (congrArg some (by kernel_rfl))
 f128:=Tryz.func229.trans (congrArg some (by kernel_rfl))
 f129:=Tryz.func230.trans (congrArg some (by kernel_rfl))
 f190:=Tryz.func206.trans (congrArg some (by kernel_rfl))
 f258:=Tryz.func217.trans (congrArg some (by kernel_rfl))
 f302:=Tryz.func220.trans (congrArg some (by kernel_rfl))
 f303:=Tryz.func221.trans (congrArg some (by kernel_rfl))
 f304:=Tryz.func222.trans (congrArg some (by kernel_rfl))
 f305:=Tryz.func223.trans (congrArg some (by kernel_rfl))
 f306:=Tryz.func224.trans (congrArg some (by kernel_rfl))
 f307:=Tryz.func225.trans (congrArg some (by kernel_rfl))
 f308:=Tryz.func226.trans (congrArg some (by kernel_rfl))
 f309:=Tryz.func227.trans (congrArg some (by kernel_rfl))
 f310:=Tryz.func228.trans (congrArg some (by kernel_rfl))
 f329:=Tryz.func232.trans (congrArg some (by kernel_rfl))
 f330:=Tryz.func233.trans (congrArg some (by kernel_rfl))
 f333:=Tryz.func231.trans (congrArg some (by kernel_rfl))
 f334:=Tryz.func234.trans (congrArg some (by kernel_rfl))
 f335:=Tryz.func235.trans (congrArg some (by kernel_rfl))
 f336:=Tryz.func236.trans (congrArg some (by kernel_rfl))
 f344:=Tryz.func237.trans (congrArg some (by kernel_rfl))
 t0:=Tryz.underlying0
 a0:=Tryz.isAgg0
 z0:=Tryz.sizeOf0
 v0:=Tryz.zeroValue0
 t3:=Tryz.underlying3
 a3:=Tryz.isAgg3
 z3:=Tryz.sizeOf3
 v3:=Tryz.zeroValue3
 t4:=Tryz.underlying4
 a4:=Tryz.isAgg4
 z4:=Tryz.sizeOf4
 v4:=Tryz.zeroValue4
 t5:=Tryz.underlying5
 a5:=Tryz.isAgg5
 z5:=Tryz.sizeOf5
 v5:=Tryz.zeroValue5
 t9:=Tryz.underlying9
 a9:=Tryz.isAgg9
 z9:=Tryz.sizeOf9
 v9:=Tryz.zeroValue9
 t31:=Tryz.underlying24
 a31:=Tryz.isAgg24
 z31:=Tryz.sizeOf24
 v31:=Tryz.zeroValue24
 t46:=Tryz.underlying169
 a46:=Tryz.isAgg169
 z46:=Tryz.sizeOf169
 v46:=Tryz.zeroValue169
 t51:=Tryz.underlying221
 a51:=Tryz.isAgg221
 z51:=Tryz.sizeOf221
 v51:=Tryz.zeroValue221
 t53:=Tryz.underlying223
 a53:=Tryz.isAgg223
 z53:=Tryz.sizeOf223
 v53:=Tryz.zeroValue223
 t131:=Tryz.underlying218
 a131:=Tryz.isAgg218
 z131:=Tryz.sizeOf218
 v131:=Tryz.zeroValue218
 t182:=Tryz.underlying212
 a182:=Tryz.isAgg212
 z182:=Tryz.sizeOf212
 v182:=Tryz.zeroValue212
 t183:=Tryz.underlying213
 a183:=Tryz.isAgg213
 z183:=Tryz.sizeOf213
 v183:=Tryz.zeroValue213
 t218:=Tryz.underlying224
 a218:=Tryz.isAgg224
 z218:=Tryz.sizeOf224
 v218:=Tryz.zeroValue224
 t222:=Tryz.underlying228
 a222:=Tryz.isAgg228
 z222:=Tryz.sizeOf228
 v222:=Tryz.zeroValue228
 t228:=Tryz.underlying230
 a228:=Tryz.isAgg230
 z228:=Tryz.sizeOf230
 v228:=Tryz.zeroValue230
 t229:=Tryz.underlying231
 a229:=Tryz.isAgg231
 z229:=Tryz.sizeOf231
 v229:=Tryz.zeroValue231 }
def Tryz.lays194_ren:Go.Shelf.Ren:=⟨fun | 194=>207 | n=>n,fun | 31=>24 | 9=>9 | 3=>3 | 4=>4 | 0=>0 | n=>n,fun | n=>n⟩
theorem Tryz.lays194:Go.Proofs.Lays.n194 Tryz.prog Tryz.lays194_ren:={
 mixed:=by kernel_rfl
 f194:=Tryz.func207.trans (congrArg some (by kernel_rfl))
 t0:=Tryz.underlying0
 a0:=Tryz.isAgg0
 z0:=Tryz.sizeOf0
 v0:=Tryz.zeroValue0
 t3:=Tryz.underlying3
 a3:=Tryz.isAgg3
 z3:=Tryz.sizeOf3
 v3:=Tryz.zeroValue3
 t4:=Tryz.underlying4
 a4:=Tryz.isAgg4
 z4:=Tryz.sizeOf4
 v4:=Tryz.zeroValue4
 t9:=Tryz.underlying9
 a9:=Tryz.isAgg9
 z9:=Tryz.sizeOf9
 v9:=Tryz.zeroValue9
 t31:=Tryz.underlying24
 a31:=Tryz.isAgg24
 z31:=Tryz.sizeOf24
 v31:=Tryz.zeroValue24 }
end Go.Proofs
namespace Go.Q.S
open Go Go.Q Go.Proofs
theorem kiF_mem:∀ {l:List (Nat × Nat × KI)} {v n:Nat} {i:KI},kiF l v n=some i->∃ a b,(a,b,i)∈l
 | [],v,n,i,h=>by simp [kiF] at h
 | (a,b,x)::r,v,n,i,h=>by
  unfold kiF at h;cases hb:E5 a v&&E5 b n with
  | true=>rw [hb] at h; simp only [H1,C7.injEq] at h; exact ⟨a,b,by rw [h]; exact List.mem_cons_self ..⟩
  | false =>
   rw [hb] at h;obtain ⟨a',b',h'⟩:=kiF_mem h;exact ⟨a',b',List.mem_cons_of_mem _ h'⟩
theorem ext_ok:∀ f g,H.ext f=some g->∀ v ls x,g v ls=some x->FnT Tryz.prog H ⟨f,v,0⟩ ls x:=fun f g h v ls x hx=>by
 have h:lookN extL f=some g:=h;simp only [extL,lookN] at h;cases h1:E5 206 f with
 | true =>
  rw [h1] at h;simp only [H1,C7.injEq] at h;subst h;obtain rfl:=beqN.1 h1;refine sort_fnT Go.Proofs.Tryz.lays190 rfl (E:=9) (fl:=[]) rfl Tryz.func206 (fun he=>by cases he) (of_decide_eq_false (by kernel_rfl)) (fun i hi=>?_) hx
  obtain ⟨a,b,hm⟩:=kiF_mem (l:=[(0,0,⟨[(0,.hd 0)],[(0,.arr 9 .deep)],[⟨.ret,[],[(0,.arr 9 .deep)]⟩]⟩)]) hi;simp only [D6,Q0,or_false,Prod.mk.injEq] at hm;exact hm.2.2
 | false =>
 rw [h1] at h;simp only [H2] at h;cases h1:E5 207 f with
 | true =>
  rw [h1] at h;simp only [H1,C7.injEq] at h;subst h;obtain rfl:=beqN.1 h1;refine comp_fnT Go.Proofs.Tryz.lays194 rfl (E:=9) (fl:=[]) rfl Tryz.func207 (fun he=>by cases he) (of_decide_eq_false (by kernel_rfl)) (fun i hi=>?_) hx
  obtain ⟨a,b,hm⟩:=kiF_mem (l:=[(0,0,⟨[(0,.hd 0)],[(0,.arr 9 .deep)],[⟨.ret,[(0,.hd 16)],[(16,.arr 9 .deep)]⟩]⟩)]) hi;simp only [D6,Q0,or_false,Prod.mk.injEq] at hm;exact hm.2.2
 | false =>
 rw [h1] at h;simp only [H2] at h;simp at h
theorem fits:Fits Tryz.prog H where
 ty:=tyOK_of (l:=tyL) (fun _=>rfl) (by kernel_rfl)
 eq:=eqOK_of (l:=eqL) (fun _=>rfl) (by kernel_rfl)
 mixed:=Tryz.checked.mixed
 names:=names_of (by kernel_rfl)
 ext:=ext_ok
end Go.Q.S
end
