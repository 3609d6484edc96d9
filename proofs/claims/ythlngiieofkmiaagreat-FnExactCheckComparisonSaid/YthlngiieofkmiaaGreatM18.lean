/- The functions of this seat, as that machine runs them. -/
import Derived.Test.YthlngiieofkmiaaGreatM17
set_option linter.unusedVariables false
set_option linter.unusedSimpArgs false
namespace Go.Q
open Go
def rtD : Option RunR -> List D
 | some r => [.int r.o,.int r.t.k,.int r.t.n,.str r.t.s,.int (r.rd.length : Int),.sl (r.t.as.map Tm.row)]
 | none => [.int 0,.int 0,.int 0,.str e0,.int 0,.sl []]
theorem at_ints : ∀ (p : List Int) (t u : Tm),atT t p = some u -> t.nodes <= 60 -> ∀ j ∈ p,0 <= j /\ j < 60
 | [],_,_,_,_,j,hj => by simp at hj
 | i :: p,t,u,h,hn,j,hj => by
  obtain ⟨hi,h0,h1⟩ := atT_cons h
  have hls := len_sum (xs := t.as)
  have hnd := Tm.nodes_eq t
  rcases List.mem_cons.1 hj with e | hj
  · subst e; omega
  · exact at_ints p _ u h1 (nodes_sub t _ hn (List.getElem_mem hi)) j hj
structure RunG (d : DfM) (n : Nat) (r : RunR) : Prop where
 t : Gt d.op r.t
 tn : r.t.nodes <= 60
 o : r.o = 1 \/ r.o = 2 \/ r.o = 3
 rl : r.rd.length <= n
 rg : ∀ x ∈ r.rd,x.1 < d.ru.length /\ x.2.length <= 60 /\ ∀ j ∈ x.2,0 <= j /\ j < 60
 sl : r.st.length <= n
 s : ∀ x ∈ r.st,Gt d.op x /\ x.nodes <= 60
theorem runF_good {d : DfM} (hd : DfG d) : ∀ n t,Gt d.op t -> t.nodes <= 60 -> RunG d n (runF d n t) := by
 intro n
 induction n with
 | zero =>
  intro t ht hn
  cases hx : nx d t with
  | none => rw [runF_none hx]; exact ⟨ht,hn,.inl rfl,Nat.le_refl _,by simp,Nat.le_refl _,by simp⟩
  | some x => rw [runF_zero hx]; exact ⟨ht,hn,.inr (.inl rfl),Nat.le_refl _,by simp,Nat.le_refl _,by simp⟩
 | succ n ih =>
  intro t ht hn
  cases hx : nx d t with
  | none => rw [runF_none hx]; exact ⟨ht,hn,.inl rfl,Nat.zero_le _,by simp,Nat.zero_le _,by simp⟩
  | some x =>
   obtain ⟨u,r,w,h1,h2,_,_,_,_,_,_,hg,hgn,hp,_⟩ := step_good hd ht hn hx
   cases hv : (stepT d t x.1 x.2).valid with
   | false => rw [runF_bad hx hv]; exact ⟨ht,hn,.inr (.inr rfl),Nat.zero_le _,by simp,Nat.zero_le _,by simp⟩
   | true =>
    rw [runF_ok hx hv]
    have h := ih _ hg (valid_nodes hv)
    obtain ⟨hi,_⟩ := List.getElem?_eq_some_iff.1 h2
    refine ⟨h.t,h.tn,h.o,Nat.succ_le_succ h.rl,fun y hy => ?_,Nat.succ_le_succ h.sl,fun y hy => ?_⟩
    · rcases List.mem_cons.1 hy with e | hy
      · subst e; exact ⟨hi,hp,at_ints _ _ _ h1 hn⟩
      · exact h.rg y hy
    · rcases List.mem_cons.1 hy with e | hy
      · subst e; exact ⟨hg,valid_nodes hv⟩
      · exact h.s y hy
theorem runT_good {d : DfM} (hb : DfB d) {t : Tm} (hw : Wt t) {f : Int} {r : RunR} (h : runT d t f = some r) : RunG d 200 r /\ t.nodes <= 60 := by
 unfold runT at h
 split at h
 · rename_i hc
   simp only [Option.some.injEq] at h
   subst h
   obtain ⟨hd,ht,hn⟩ := cfg_of hb hw hc.2.2
   have g := runF_good hd f.toNat t ht hn
   exact ⟨⟨g.t,g.tn,g.o,by have := g.rl; omega,g.rg,by have := g.sl; omega,g.s⟩,hn⟩
 · simp at h
theorem runT_if (d : DfM) (t : Tm) (f : Int) : runT d t f = bif (cfg d t && (decide (0 <= f) && decide (f <= 200))) then some (runF d f.toNat t) else none := by
 unfold runT
 by_cases h : 0 <= f /\ f <= 200 /\ cfg d t = true
 · rw [if_pos h]; simp [h.1,h.2.1,h.2.2]
 · rw [if_neg h]
   have : (cfg d t && (decide (0 <= f) && decide (f <= 200))) = false := by
    rw [Bool.eq_false_iff]
    intro hc
    simp only [Bool.and_eq_true,decide_eq_true_eq] at hc
    exact h ⟨hc.2.1,hc.2.2,hc.1⟩
   rw [this]; rfl
noncomputable def reachR : Option RunR -> Tm -> Tm -> Bool
 | some r,t,g => (t :: r.st).any fun x => eqb x.row g.row
 | none,_,_ => false
def trD : Option RunR -> Rows
 | some r => r.rd.map rdRow
 | none => []
end Go.Q
namespace Go.Q
open Go
def rtO : Option RunR -> Int
 | some r => r.o
 | none => 0
def rtT : Option RunR -> Tm
 | some r => r.t
 | none => tm0
def rtN : Option RunR -> Nat
 | some r => r.rd.length
 | none => 0
theorem rtD_eq (R : Option RunR) : rtD R = [.int (rtO R),.int (rtT R).k,.int (rtT R).n,.str (rtT R).s,.int (rtN R : Int),.sl ((rtT R).as.map Tm.row)] := by cases R <;> rfl
theorem wt0 : Wt tm0 := .mk (S.i64ok_of (by decide) (by decide)) (S.i64ok_of (by decide) (by decide)) (by decide) (by decide) (by intro a ha; simp [tm0,Tm.as] at ha)
theorem rt_good {d : DfM} (hb : DfB d) {t : Tm} (hw : Wt t) (f : Int) : Wt (rtT (runT d t f)) /\ (rtT (runT d t f)).nodes <= 60 /\ (0 <= rtO (runT d t f) /\ rtO (runT d t f) <= 3) /\ rtN (runT d t f) <= 200 := by
 cases h : runT d t f with
 | none => exact ⟨wt0,by decide,by decide,by decide⟩
 | some r =>
  obtain ⟨g,_⟩ := runT_good hb hw h
  refine ⟨g.t.w,g.tn,?_,g.rl⟩
  rcases g.o with e | e | e <;> (show 0 <= r.o /\ r.o <= 3; omega)
def trL : Option RunR -> List (Nat × List Int)
 | some r => r.rd
 | none => []
theorem trD_eq (R : Option RunR) : trD R = (trL R).map rdRow := by cases R <;> rfl
theorem tr_good {d : DfM} (hb : DfB d) {t : Tm} (hw : Wt t) (f : Int) : (trL (runT d t f)).length <= 200 /\ ∀ x ∈ trL (runT d t f),x.1 <= 1048576 /\ x.2.length <= 60 /\ ∀ j ∈ x.2,0 <= j /\ j < 60 := by
 cases h : runT d t f with
 | none => exact ⟨by decide,by intro x hx; simp [trL] at hx⟩
 | some r =>
  obtain ⟨g,_⟩ := runT_good hb hw h
  exact ⟨g.rl,fun x hx => ⟨by have := (g.rg x hx).1; have := hb.ru; omega,(g.rg x hx).2⟩⟩
theorem cnt_rd : ∀ l : List (Nat × List Int),(∀ x ∈ l,x.2.length <= 60) -> S.cntR (l.map rdRow) <= 61 * l.length
 | [],_ => by simp [S.cntR]
 | x :: l,h => by
  have h1 := cnt_rd l fun y hy => h y (List.mem_cons_of_mem _ hy)
  have h2 := h x (List.mem_cons_self ..)
  have h3 := S.cntR_ints x.2
  simp only [List.map_cons,S.cntR,rdRow,S.cntL,S.cntD,List.length_cons]
  omega
end Go.Q
