/- The functions of this seat, as that machine runs them. -/
import Derived.Test.YtnjedojmdcpcaaaGreatvE1
import Derived.Test.YtnjedojmdcpcaaaGreatvE2
import Derived.Test.YtnjedojmdcpcaaaGreatvE3
import Derived.Test.YtnjedojmdcpcaaaGreatRows
import Derived.JoinedOf
import Derived.ProofKit
namespace Go.Proofs.YtnjedojmdcpcaaaGreat.fnExactIsDecided
open Go
theorem named:Tryz.pinned.checked.prog.funcNamed Rows.fnExactIsDecidedRow.func=some 3:=by kernel_rfl
end Go.Proofs.YtnjedojmdcpcaaaGreat.fnExactIsDecided
