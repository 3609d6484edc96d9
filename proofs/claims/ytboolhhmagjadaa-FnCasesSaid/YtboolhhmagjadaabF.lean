/- The functions of this seat, as that machine runs them. -/
import Derived.Test.YtboolhhmagjadaaQC
import Derived.Test.YtboolhhmagjadaabX
set_option linter.unusedVariables false
set_option linter.unusedSimpArgs false
namespace Go.Q.S
open Go Go.Q Go.Proofs
noncomputable abbrev rn : Key → List D → R := run H Try.prog

end Go.Q.S
