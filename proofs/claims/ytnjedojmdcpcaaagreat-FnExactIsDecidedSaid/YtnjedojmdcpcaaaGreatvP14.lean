/- The functions of this seat, as that machine runs them. -/
import Derived.Test.YtnjedojmdcpcaaaGreatvP12
import Derived.Test.YtnjedojmdcpcaaaGreatMA
set_option linter.unusedVariables false
set_option linter.unusedSimpArgs false
namespace Go.Q.S
open Go Go.Q Go.Proofs
theorem r120 (vars:List ByteArray) (t:Tm) (h:Small t) (cs:Rows) (c:Int):rn ⟨120,0,0⟩ [.sl (vars.map sRow),.int t.k,.int t.n,.str t.s,.sl (t.as.map Tm.row),.sl cs,.int c]=some (0,[.int (S.instR vars t c).k,.int (S.instR vars t c).n,.str (S.instR vars t c).s,.bool (isC vars.length c),.sl ((S.instR vars t c).as.map Tm.row)]):=by
 have e1:=r169 vars.length c
 have e2:=r199 vars c
 have e3:=r198 (caseS vars c) (caseS_len vars c) (caseS_small vars c) t h
 have e4:=r197 _ (aS_small (caseS_small vars c) t h)
 rw [e120_0_0]
 simp only [List.length_map,e1,nv0,nvS,dvI,dvB,dvS,dvL,Option.bind_some]
 unfold S.instR
 cases hc:isC vars.length c with
 | false=>rfl
 | true=>simp only [Bool.not_true,cond_false,e2,e3,e4,nv0,nvS,dvI,dvB,dvS,dvL,Option.bind_some,if_true]; rfl
end Go.Q.S
