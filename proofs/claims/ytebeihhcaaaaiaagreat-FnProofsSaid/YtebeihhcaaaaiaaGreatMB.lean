/- The plain laws of what the functions answer, part 2. -/
import Derived.Test.YtebeihhcaaaaiaaGreatMA
set_option linter.unusedVariables false
set_option linter.unusedSimpArgs false
open Bool renaming and_eq_true->B8
open Nat renaming eq_of_beq_eq_true->S1
section
/- aa of proofs that are changed;loops that go through. -/
namespace Go.Q
open Go
theorem pnK(x:PnM)(b:Int):over 0 [D.int b] (PnM.row x)=PnM.row ⟨b,x.nx,x.c,x.s⟩:=rfl
theorem pnS(x:PnM):over 3 [D.sl []] (PnM.row x)=PnM.row ⟨x.k,x.nx,x.c,[]⟩:=rfl
theorem pnC(x:PnM)(b:Int):over 2 [D.int b] (PnM.row x)=PnM.row ⟨x.k,x.nx,b,x.s⟩:=rfl
theorem pnE(x:PnM):over 1 [D.sl []] (PnM.row x)=PnM.row ⟨x.k,[],x.c,x.s⟩:=rfl
theorem pnN(x:PnM)(b:Int):over 1 [D.sl (x.nx.map am++[[D.int b]])] (PnM.row ⟨x.k,[],x.c,x.s⟩)=PnM.row ⟨x.k,x.nx++[b],x.c,x.s⟩:=by
 show _=[D.int x.k,D.sl ((x.nx++[b]).map am),D.int x.c,D.sl (x.s.map Bnd.row)]
 rw[List.map_append];rfl
theorem pn1(x:PnM):(nth (PnM.row x) 1).L=x.nx.map am:=rfl
section
variable{L:List PnM}{m:Nat}
theorem ov1(hm:m<L.length)(y:PnM):over m [PnM.row y] (L.map PnM.row)=(L.set m y).map PnM.row:=by
 rw[ii _ _ _ (by simpa using hm),List.map_set]
theorem ovN(hm:m<L.length)(y z:PnM):over m [PnM.row z] (over m [PnM.row y] (L.map PnM.row))=(L.set m z).map PnM.row:=by
 rw[S.over_row_two (by simpa using hm),ov1 hm]
theorem ovA(hm:m<L.length)(y:PnM):rowAt (over m [PnM.row y] (L.map PnM.row)) m=PnM.row y:=S.over_row_at (by simpa using hm)
theorem ovL(hm:m<L.length)(y:PnM):(over m [PnM.row y] (L.map PnM.row)).length=L.length:=by
 rw[S.over_row_len (by simpa using hm),List.length_map]
theorem gq(h:∀ n∈L,PnB n)(y:PnM)(hy:PnB y):∀ n∈L.set m y,PnB n:=fun n hn=>by
 rcases List.mem_or_eq_of_mem_set hn with hn |rfl
 ·exact h n hn
 ·exact hy
end
theorem xf.b{n:PnM}(h:xf n):PnB n:=⟨by have:=h.nl;omega,by have:=h.sl;omega,fun b hb=>ao _ (by have:=(h.sb b hb).2.2;omega)⟩
def dfN:List PnM:=[⟨2,[1],0,[]⟩,⟨1,[],0,[]⟩]
theorem Nz:([[.int 2,.sl [[.int 1]],.int 0,.sl []],[.int 1,.sl [],.int 0,.sl []]]:aa)=dfN.map PnM.row:=rfl
theorem Gq:∀ n∈dfN,PnB n/\n.nx.length<=64:=fun n hn=>by
 simp only[dfN,List.mem_cons,List.not_mem_nil,or_false] at hn;rcases hn with rfl |rfl<;>exact⟨⟨by simp,by simp,by simp⟩,by simp⟩
structure ClL(df:DfM)(cs:List ClM):Prop where
 d:DfW df
 l:0<cs.length/\cs.length<=2
 b:∀ c∈cs,ClB c
 e:∀ c∈cs,c.d=df
structure NdL(ns:List PnM):Prop where
 l:ns.length<=60
 b:∀ n∈ns,PnB n
theorem Ye{d:DfM}{cs:List ClM}{ps:List (List PnM)}(h:Cp d cs ps=true):ps.length=cs.length/\∀ j (hj:j<ps.length),Bz d cs (j:Int) ps[j]=true:=by
 unfold Cp at h;simp only[B8,decide_eq_true_eq] at h;obtain⟨h1,h2,_⟩:=h;have all:∀ (ps:List (List PnM)) (i:Nat),vj d cs i ps=true->∀ j (hj:j<ps.length),Bz d cs ((i+j:Nat):Int) ps[j]=true:=by
  intro ps;induction ps with
  |nil=>intro i _ j hj;simp at hj
  |cons p r ihp =>
   intro i h j hj;simp only[vj,B8] at h;cases j with
   |zero=>exact h.1
   |succ j =>
    have:=ihp (i+1) h.2 j (by simpa using hj)
    rw[show i+1+j=i+(j+1) by omega] at this
    exact this
 exact⟨h1,fun j hj=>by have:=all ps 0 h2 j hj;rwa[Nat.zero_add] at this⟩
theorem Oa{F:Nat->R}{n:Nat}{A:R}(hs:∀ i,i<n->F i=F (i+1))(he:F n=A):F 0=A:=by
 have key:∀ k i,i+k=n->F i=A:=by
  intro k;induction k with
  |zero =>
   intro i hi;have e:i=n:=by omega
   rw[e];exact he
  |succ k ih=>intro i hi;rw[hs i (by omega)];exact ih (i+1) (by omega)
 exact key n 0 (Nat.zero_add n)
end Go.Q
end
section
/- An evaluator that asks proved summaries. -/
namespace Go.Q
open Go
mutual
def dqD:D->D->Bool
 |.int a,.int b=>decide (a=b)
 |.bool a,.bool b=>decide (a=b)
 |.str a,.str b=>decide (a=b)
 |.sl a,.sl b=>dqR a b
 |_,_=>false
def dqL:List D->List D->Bool
 | [],[]=>true
 |x::xs,y::ys=>dqD x y&&dqL xs ys
 |_,_=>false
def dqR:List (List D)->List (List D)->Bool
 | [],[]=>true
 |x::xs,y::ys=>dqL x y&&dqR xs ys
 |_,_=>false
end
mutual
theorem ab9:∀ a b,dqD a b=true->a=b
 |.int a,b,h=>by cases b<;>simp[dqD] at h ⊢;exact h
 |.bool a,b,h=>by cases b<;>simp[dqD] at h ⊢;exact h
 |.str a,b,h=>by cases b<;>simp[dqD] at h ⊢;exact h
 |.sl a,b,h=>by
  cases b with
  |sl b=>rw[dqD] at h;rw[Ub a b h]
  |_=>simp[dqD] at h
theorem Mc:∀ a b,dqL a b=true->a=b
 | [],b,h=>by cases b with
  |nil=>rfl
  |cons y ys=>simp[dqL] at h
 |x::xs,b,h=>by
  cases b with
  |nil=>simp[dqL] at h
  |cons y ys =>
   rw[dqL,B8] at h;rw[ab9 x y h.1,Mc xs ys h.2]
theorem Ub:∀ a b,dqR a b=true->a=b
 | [],b,h=>by cases b with
  |nil=>rfl
  |cons y ys=>simp[dqR] at h
 |x::xs,b,h=>by
  cases b with
  |nil=>simp[dqR] at h
  |cons y ys =>
   rw[dqR,B8] at h;rw[Mc x y h.1,Ub xs ys h.2]
end
def orc(T:List (List D))(l:List D):R:=bif T.any (dqL l) then some (0,[.bool true]) else none
theorem Uc{H:Tab}{P:Program}{k:Key}{T:List (List D)}{l:List D}{r:Nat×List D}(h:∀ x∈T,run H P k x=some (0,[.bool true]))(e:orc T l=some r):run H P k l=some r:=by
 unfold orc at e;cases ha:T.any (dqL l) with
 |false=>rw[ha] at e;simp at e
 |true =>
  rw[ha] at e;obtain⟨x,hx,hq⟩:=List.any_eq_true.1 ha;rw[Mc _ _ hq];exact(h x hx).trans e
theorem Sd.rn{H:Tab}{P:Program}{c:Key->List D->R}{k:Key}{v:List D->R}(hc:∀ k l r,c k l=some r->run H P k l=some r)(h:Sd H P c k (fun l=>l) v){l:List D}{r:Nat×List D}(e:v l=some r):run H P k l=some r:=Ku (qh hc (h l r e))
structure En(H:Tab)(P:Program) where
 k:Key
 v:List D->R
 h:∀ l r,v l=some r->run H P k l=some r
def OkC(H:Tab)(P:Program)(c:Key->List D->R):Prop:=∀ k l r,c k l=some r->run H P k l=some r
theorem Sd.en{H:Tab}{P:Program}{c:Key->List D->R}{k:Key}{v:List D->R}(hc:OkC H P c)(h:Sd H P c k (fun l=>l) v):∀ l r,v l=some r->run H P k l=some r:=fun l r e=>Sd.rn hc h e
def lkE{H:Tab}{P:Program}(k:Key)(l:List D):List (En H P)->R
 | []=>none
 |e::t=>bif Nat.beq k.f e.k.f&&(Nat.beq k.n e.k.n&&Nat.beq k.v e.k.v) then e.v l else lkE k l t
theorem Ud{H:Tab}{P:Program}{k:Key}{l:List D}{r:Nat×List D}:∀ T:List (En H P),lkE k l T=some r->run H P k l=some r
 | [],h=>by simp[lkE] at h
 |e::t,h=>cnd h (fun a b=>by
  simp only[B8] at a;have e1:k=e.k:=by
   obtain⟨f,v,n⟩:=k;have a1:=S1 a.1;have a2:=S1 a.2.1;have a3:=S1 a.2.2;simp only at a1 a2 a3;rw[a1,a2,a3]
  rw[e1];exact e.h l r b) fun _ b=>Ud t b
def evE{H:Tab}{P:Program}(T:(c:Key->List D->R)->OkC H P c->List (En H P)):Nat->{c:Key->List D->R // OkC H P c}
 |0=>⟨fun _ _=>none,fun k l r h=>by simp at h⟩
 |n+1=>⟨fun k l=>lkE k l (T (evE T n).1 (evE T n).2),fun k l r h=>Ud _ h⟩
def lpT:List Tm:=[tP ⟨#[108,111,111,112]⟩ tNn tMm,tP ⟨#[108,111,111,112]⟩ (tP ⟨#[109,105,110,117,115]⟩ tNn (tW 1)) (tP ⟨#[112,108,117,115]⟩ tMm (tW 1)),tW 0,tNn,tP ⟨#[108,111,111,112]⟩ (tW 0) tMm,tO ⟨#[100,111,110,101]⟩ tMm]
theorem ac0:∀ t∈lpT,Wn 9 t:=fun t ht=>by
 have n1:Wn 1 tNn:=Cd (by decide)
 have m1:Wn 1 tMm:=Cd (by decide)
 have w0:Wn 1 (tW 0):=vp (by decide) (by decide)
 have w1:Wn 1 (tW 1):=vp (by decide) (by decide)
 simp only[lpT,List.mem_cons,List.not_mem_nil,or_false] at ht;rcases ht with rfl |rfl |rfl |rfl |rfl |rfl
 ·exact(gp (by decide) n1 m1).mono (by decide)
 ·exact(gp (by decide) (gp (by decide) n1 w1) (gp (by decide) m1 w1)).mono (by decide)
 ·exact w0.mono (by decide)
 ·exact n1.mono (by decide)
 ·exact(gp (by decide) w0 m1).mono (by decide)
 ·exact(ow (by decide) m1).mono (by decide)
end Go.Q
end
