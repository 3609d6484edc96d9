/- The functions of this seat, as that machine runs them. -/
import Derived.Test.YtnjedojmdcpcaaaGreatfP12
import Derived.Test.YtnjedojmdcpcaaaGreatMA
set_option linter.unusedVariables false
set_option linter.unusedSimpArgs false
namespace Go.Q.S
open Go Go.Q Go.Proofs
theorem r120 (vars:List ByteArray) (t:Tm) (h:Small t) (cs:Rows) (c:Int):rn ⟨120,0,0⟩ [.sl (vars.map sRow),.int t.k,.int t.n,.str t.s,.sl (t.as.map Tm.row),.sl cs,.int c]=some (0,[.int (S.instR vars t c).k,.int (S.instR vars t c).n,.str (S.instR vars t c).s,.bool (isC vars.length c),.sl ((S.instR vars t c).as.map Tm.row)]):=by
 have e1:=r169 vars.length c;have e2:=r199 vars c;have e3:=r198 (caseS vars c) (caseS_len vars c) (caseS_small vars c) t h;have e4:=r197 _ (aS_small (caseS_small vars c) t h);rw [e120_0_0];simp only [List.length_map,e1,nv0,nvS,dvI,dvB,dvS,dvL,Option.bind_some];unfold S.instR;cases hc:isC vars.length c with
 | false=>rfl
 | true=>simp only [Bool.not_true,cond_false,e2,e3,e4,nv0,nvS,dvI,dvB,dvS,dvL,Option.bind_some,if_true]; rfl
theorem r118 (vars:List ByteArray) (t:Tm) (h:Small t) (cs:Rows) (c:Int):rn ⟨118,0,0⟩ [.sl (vars.map sRow),.int t.k,.int t.n,.str t.s,.sl (t.as.map Tm.row),.sl cs,.int c]=some (0,[.int (S.instR vars t c).k,.int (S.instR vars t c).n,.str (S.instR vars t c).s,.bool (isC vars.length c),.sl ((S.instR vars t c).as.map Tm.row)]):=by
 have e1:=r155 vars.length;have e2:=r105 vars t h c;rw [e118_0_0];simp only [List.length_map,e1,nv0,nvS,dvI,dvB,dvS,dvL,Option.bind_some,rIn,wcnt];unfold S.instR;cases hc:isC vars.length c with
 | false=>rfl
 | true=>simp only [Bool.not_true,cond_false,e2,nv0,nvS,dvI,dvB,dvS,dvL,Option.bind_some,if_true]
theorem r221 (vars:List ByteArray) (l t:Tm) (h:Small t) (gs:Rows) (c:Int):rn ⟨221,0,0⟩ [.sl (vars.map sRow),.int l.k,.int l.n,.str l.s,.sl (l.as.map Tm.row),.int t.k,.int t.n,.str t.s,.sl (t.as.map Tm.row),.sl gs,.int c]=some (0,[.int (S.instR vars t c).k,.int (S.instR vars t c).n,.str (S.instR vars t c).s,.sl ((S.instR vars t c).as.map Tm.row)]):=by
 have e1:=r120 vars t h [] c;rw [e221_0_0];simp only [e1,nv0,nvS,dvI,dvB,dvS,dvL,Option.bind_some]
theorem r136 (vars:List ByteArray) (l t:Tm) (h:Small t) (gs:Rows) (c:Int):rn ⟨136,0,0⟩ [.sl (vars.map sRow),.int l.k,.int l.n,.str l.s,.sl (l.as.map Tm.row),.int t.k,.int t.n,.str t.s,.sl (t.as.map Tm.row),.sl gs,.int c]=some (0,[.int (S.instR vars t c).k,.int (S.instR vars t c).n,.str (S.instR vars t c).s,.sl ((S.instR vars t c).as.map Tm.row)]):=by
 have e1:=r118 vars t h [] c;rw [e136_0_0];simp only [e1,nv0,nvS,dvI,dvB,dvS,dvL,Option.bind_some]
end Go.Q.S
