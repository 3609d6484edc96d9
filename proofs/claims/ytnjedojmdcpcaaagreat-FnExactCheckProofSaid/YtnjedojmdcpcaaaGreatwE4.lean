/- The functions of this seat, as that machine runs them. -/
import Derived.Test.YtnjedojmdcpcaaaGreatwE1
import Derived.Test.YtnjedojmdcpcaaaGreatwE2
import Derived.Test.YtnjedojmdcpcaaaGreatwE3
import Derived.Test.YtnjedojmdcpcaaaGreatRows
import Derived.JoinedOf
import Derived.ProofKit
namespace Go.Proofs.YtnjedojmdcpcaaaGreat.fnExactCheckProof
open Go
theorem named:Tryz.pinned.checked.prog.funcNamed Rows.fnExactCheckProofRow.func=some 8:=by kernel_rfl
end Go.Proofs.YtnjedojmdcpcaaaGreat.fnExactCheckProof
