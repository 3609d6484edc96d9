/- The functions of this seat, as that machine runs them. -/
import Derived.Test.YthlngiieofkmiaaGreatqP11d
import Derived.Test.YthlngiieofkmiaaGreatM18
set_option linter.unusedVariables false
set_option linter.unusedSimpArgs false
namespace Go.Q.S
open Go Go.Q Go.Proofs
theorem r34 (d : DfM) (hb : DfB d) (t : Tm) (hw : Wt t) (hn : t.nodes <= 2097152) (f : Int) : rn ⟨34,0,0⟩ [.sl (d.so.map sRow),.sl (d.op.map OpM.row),.sl (d.ru.map RuM.row),.sl (d.st.map StM.row),.int t.k,.int t.n,.str t.s,.sl (t.as.map Tm.row),.int f] = some (0,rtD (runT d t f)) := by
 have h1 := r101 d hb t hw hn f
 rw [e34_0_0,h1]
 cases runT d t f <;> rfl
end Go.Q.S
