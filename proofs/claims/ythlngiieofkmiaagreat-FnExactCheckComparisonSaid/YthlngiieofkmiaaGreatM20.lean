/- The functions of this seat, as that machine runs them. -/
import Derived.Test.YthlngiieofkmiaaGreatM19
set_option linter.unusedVariables false
set_option linter.unusedSimpArgs false
/- Symbolic terms with cases; comparison. -/
namespace Go.Q
open Go
def incC (n : Nat) : Option Int -> List Int -> Bool
 | _,[] => true
 | p,c :: r => isC n c && ((match p with | some q => !decide (c <= q) | none => true) && incC n (some c) r)
def prv (cs : List Int) : Nat -> Option Int
 | 0 => none
 | i + 1 => cs[i]?
def symC (d : DfM) (vars : List ByteArray) (t : Tm) (cs : List Int) : Bool := symV d vars t && incC vars.length none cs
theorem incC_isC {n : Nat} : ∀ (cs : List Int) (p : Option Int),incC n p cs = true -> ∀ c ∈ cs,isC n c = true
 | [],_,_,c,hc => by simp at hc
 | x :: r,p,h,c,hc => by
  simp only [incC,Bool.and_eq_true] at h
  rcases List.mem_cons.1 hc with e | hc
  · subst e; exact h.1
  · exact incC_isC r _ h.2.2 c hc
def hasI (l : List Int) (x : Int) : Bool := l.any fun y => decide (y = x)
structure SyM where
 d : DfM
 v : List ByteArray
 t : Tm
 c : List Int
def SyM.row (s : SyM) : List D := [.sl (s.d.so.map sRow),.sl (s.d.op.map OpM.row),.sl (s.d.ru.map RuM.row),.sl (s.d.st.map StM.row),.sl (s.v.map sRow),.int s.t.k,.int s.t.n,.str s.t.s,.sl (s.t.as.map Tm.row),.sl (s.c.map iRow)]
structure SyB (s : SyM) : Prop where
 d : DfB s.d
 v : s.v.length <= 1048576
 vs : ∀ x ∈ s.v,x.size <= maxLen
 w : Wt s.t
 n : s.t.nodes <= 1048577
 c : s.c.length <= 1048576
structure CmR where
 k : Int
 c : Int
 a : Tm
 b : Tm
noncomputable def cmpF (x y : SyM) : List Int -> CmR -> CmR
 | [],s => s
 | c :: r,s => if hasI y.c c = true then (match runT x.d (S.instR x.v x.t c) 200,runT y.d (S.instR y.v y.t c) 200 with
  | some p,some q => if p.o = 1 /\ q.o = 1 then (if eqb p.t.row q.t.row = true then cmpF x y r s else ⟨1,c,p.t,q.t⟩) else cmpF x y r (if s.k = 2 then ⟨3,c,tm0,tm0⟩ else s)
  | _,_ => cmpF x y r (if s.k = 2 then ⟨3,c,tm0,tm0⟩ else s)) else cmpF x y r s
def eqLs (a b : List ByteArray) : Bool := decide (a = b)
noncomputable def cmpR (x y : SyM) : CmR := if symC x.d x.v x.t x.c = true then (if symC y.d y.v y.t y.c = true then (if x.v = y.v then cmpF x y x.c ⟨2,0,tm0,tm0⟩ else ⟨0,0,tm0,tm0⟩) else ⟨0,0,tm0,tm0⟩) else ⟨0,0,tm0,tm0⟩
def cmD (r : CmR) : List D := [.int r.k,.int r.c,.int r.a.k,.int r.a.n,.str r.a.s,.int r.b.k,.int r.b.n,.str r.b.s,.sl (r.a.as.map Tm.row),.sl (r.b.as.map Tm.row)]
theorem cmpF_good {x y : SyM} (hx : SyB x) (hy : SyB y) : ∀ (l : List Int) (s : CmR),(∀ c ∈ l,S.i64ok c) -> Wt s.a /\ Wt s.b /\ S.i64ok s.c /\ (0 <= s.k /\ s.k <= 3) /\ s.a.nodes <= 60 /\ s.b.nodes <= 60 -> Wt (cmpF x y l s).a /\ Wt (cmpF x y l s).b /\ S.i64ok (cmpF x y l s).c /\ (0 <= (cmpF x y l s).k /\ (cmpF x y l s).k <= 3) /\ (cmpF x y l s).a.nodes <= 60 /\ (cmpF x y l s).b.nodes <= 60
 | [],s,_,h => by simpa only [cmpF] using h
 | c :: r,s,hc,h => by
  have ih := fun s h => cmpF_good hx hy r s (fun c' h' => hc c' (List.mem_cons_of_mem _ h')) h
  have h3 : Wt (if s.k = 2 then (⟨3,c,tm0,tm0⟩ : CmR) else s).a /\ Wt (if s.k = 2 then (⟨3,c,tm0,tm0⟩ : CmR) else s).b /\ S.i64ok (if s.k = 2 then (⟨3,c,tm0,tm0⟩ : CmR) else s).c /\ (0 <= (if s.k = 2 then (⟨3,c,tm0,tm0⟩ : CmR) else s).k /\ (if s.k = 2 then (⟨3,c,tm0,tm0⟩ : CmR) else s).k <= 3) /\ (if s.k = 2 then (⟨3,c,tm0,tm0⟩ : CmR) else s).a.nodes <= 60 /\ (if s.k = 2 then (⟨3,c,tm0,tm0⟩ : CmR) else s).b.nodes <= 60 := by
   split
   · exact ⟨wt0,wt0,hc c (List.mem_cons_self ..),show (0 : Int) <= 3 /\ (3 : Int) <= 3 by decide,show tm0.nodes <= 60 by decide,show tm0.nodes <= 60 by decide⟩
   · exact h
  simp only [cmpF]
  split
  · split
    · rename_i p q hp hq
      obtain ⟨g1,_⟩ := runT_good hx.d (wt_instR hx.w c) hp
      obtain ⟨g2,_⟩ := runT_good hy.d (wt_instR hy.w c) hq
      split
      · split
        · exact ih s h
        · exact ⟨g1.t.w,g2.t.w,hc c (List.mem_cons_self ..),show (0 : Int) <= 1 /\ (1 : Int) <= 3 by decide,g1.tn,g2.tn⟩
      · exact ih _ h3
    · exact ih _ h3
  · exact ih s h
theorem cmpR_good {x y : SyM} (hx : SyB x) (hy : SyB y) (hc : ∀ c ∈ x.c,S.i64ok c) : Wt (cmpR x y).a /\ Wt (cmpR x y).b /\ S.i64ok (cmpR x y).c /\ (0 <= (cmpR x y).k /\ (cmpR x y).k <= 3) /\ (cmpR x y).a.nodes <= 60 /\ (cmpR x y).b.nodes <= 60 := by
 have z : ∀ k : Int,0 <= k -> k <= 3 -> Wt (⟨k,0,tm0,tm0⟩ : CmR).a /\ Wt (⟨k,0,tm0,tm0⟩ : CmR).b /\ S.i64ok (⟨k,0,tm0,tm0⟩ : CmR).c /\ (0 <= (⟨k,0,tm0,tm0⟩ : CmR).k /\ (⟨k,0,tm0,tm0⟩ : CmR).k <= 3) /\ (⟨k,0,tm0,tm0⟩ : CmR).a.nodes <= 60 /\ (⟨k,0,tm0,tm0⟩ : CmR).b.nodes <= 60 := fun k h1 h2 => ⟨wt0,wt0,show S.i64ok 0 from S.i64ok_of (by decide) (by decide),⟨h1,h2⟩,show tm0.nodes <= 60 by decide,show tm0.nodes <= 60 by decide⟩
 unfold cmpR
 split
 · split
   · split
     · exact cmpF_good hx hy x.c _ hc (z 2 (by decide) (by decide))
     · exact z 0 (by decide) (by decide)
   · exact z 0 (by decide) (by decide)
 · exact z 0 (by decide) (by decide)
end Go.Q
