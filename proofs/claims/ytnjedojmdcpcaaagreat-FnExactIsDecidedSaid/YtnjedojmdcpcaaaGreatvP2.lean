/- The functions of this seat, as that machine runs them. -/
import Derived.Test.YtnjedojmdcpcaaaGreatvT
set_option linter.unusedVariables false
set_option linter.unusedSimpArgs false
namespace Go.Q.S
open Go Go.Q Go.Proofs
theorem r174 (vs cs0 cs:Rows) (t:Tm) (h:Small t) (h1:vs.length<=274877906944) (h2:cs.length<=274877906944):rn ⟨174,0,0⟩ [.sl vs,.int t.k,.int t.n,.str t.s,.sl (t.as.map Tm.row),.sl cs0,.sl cs]=some (0,[.int t.k,.int t.n,.str t.s,.sl vs,.sl (t.as.map Tm.row),.sl cs]):=by
 rw [e174_0_0]
 simp only [rCloneS vs h1,rCloneI cs h2,r259 t h,nth0,nth1,nth2,nth3,nth4,nth5,nth6,nth7,nth8,nth9,nth10,nth11,nth12,nth13,nth14,nth15,nth16,nth17,nth18,nth19,nth20,nth21,nth22,nth23,nth24,nth25,dI,dB,dS,dL,Option.bind_some]
end Go.Q.S
