/- The functions of this seat, as that machine runs them. -/
import Derived.Test.YthlngiieofkmiaaGreatqP15
set_option linter.unusedVariables false
set_option linter.unusedSimpArgs false
namespace Go.Q.S
open Go Go.Q Go.Proofs
noncomputable def ckR (x y : SyM) (k c : Int) (a b : Tm) : Bool := !decide (k = 0) && (decide (k = (cmpR x y).k) && (decide (c = (cmpR x y).c) && (eqb a.row (cmpR x y).a.row && eqb b.row (cmpR x y).b.row)))
theorem r58 (x y : SyM) (hx : SyB x) (hy : SyB y) (k c : Int) (a : Tm) (ha : Small a) (b : Tm) (hb : Small b) : rn ⟨58,0,0⟩ (x.row ++ (y.row ++ [.int k,.int c,.int a.k,.int a.n,.str a.s,.sl (a.as.map Tm.row),.int b.k,.int b.n,.str b.s,.sl (b.as.map Tm.row)])) = some (0,[.bool (ckR x y k c a b)]) := by
 have h1 := r61 x y hx hy
 unfold SyM.row at h1 ⊢
 simp only [List.cons_append,List.nil_append] at h1 ⊢
 rw [e58_0_0,h1]
 unfold ckR
 generalize cmpR x y = R
 have h2 := r104 a R.a ha
 have h3 := r104 b R.b hb
 simp only [cmD,nv0,nvS,dvI,dvB,dvS,dvL,Option.bind_some,h2,h3]
 cases decide (k = 0) <;> cases decide (k = R.k) <;> cases decide (c = R.c) <;> cases eqb a.row R.a.row <;> cases eqb b.row R.b.row <;> rfl
theorem r56 (x y : SyM) (hx : SyB x) (hy : SyB y) (k c : Int) (a : Tm) (ha : Small a) (b : Tm) (hb : Small b) : rn ⟨56,0,0⟩ (x.row ++ (y.row ++ [.int k,.int c,.int a.k,.int a.n,.str a.s,.sl (a.as.map Tm.row),.int b.k,.int b.n,.str b.s,.sl (b.as.map Tm.row)])) = some (0,[.bool (ckR x y k c a b)]) := by
 have h1 := r60 x y hx hy
 unfold SyM.row at h1 ⊢
 simp only [List.cons_append,List.nil_append] at h1 ⊢
 rw [e56_0_0,h1]
 unfold ckR
 generalize cmpR x y = R
 have h2 := r99 a R.a ha
 have h3 := r99 b R.b hb
 simp only [cmD,nv0,nvS,dvI,dvB,dvS,dvL,Option.bind_some,h2,h3]
 by_cases e : k = R.k
 · subst e
   cases decide (R.k = 0) <;> cases decide (c = R.c) <;> cases eqb a.row R.a.row <;> cases eqb b.row R.b.row <;> simp
 · rw [decide_eq_false e]
   cases decide (R.k = 0) <;> cases decide (k = 0) <;> rfl
end Go.Q.S
