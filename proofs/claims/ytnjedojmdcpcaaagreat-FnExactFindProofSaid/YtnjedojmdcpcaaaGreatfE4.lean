/- The functions of this seat, as that machine runs them. -/
import Derived.Test.YtnjedojmdcpcaaaGreatfE1
import Derived.Test.YtnjedojmdcpcaaaGreatfE2
import Derived.Test.YtnjedojmdcpcaaaGreatfE3
import Derived.Test.YtnjedojmdcpcaaaGreatRows
import Derived.JoinedOf
import Derived.ProofKit
namespace Go.Proofs.YtnjedojmdcpcaaaGreat.fnExactFindProof
open Go
theorem named:Tryz.pinned.checked.prog.funcNamed Rows.fnExactFindProofRow.func=some 11:=by kernel_rfl
end Go.Proofs.YtnjedojmdcpcaaaGreat.fnExactFindProof
