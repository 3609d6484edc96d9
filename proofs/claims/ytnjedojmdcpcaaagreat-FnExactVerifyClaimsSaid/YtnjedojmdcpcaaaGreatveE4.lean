/- The functions of this seat, as that machine runs them. -/
import Derived.Test.YtnjedojmdcpcaaaGreatveE1
import Derived.Test.YtnjedojmdcpcaaaGreatveE2
import Derived.Test.YtnjedojmdcpcaaaGreatveE3
import Derived.Test.YtnjedojmdcpcaaaGreatRows
import Derived.JoinedOf
import Derived.ProofKit
namespace Go.Proofs.YtnjedojmdcpcaaaGreat.fnExactVerifyClaims
open Go
theorem named:Tryz.pinned.checked.prog.funcNamed Rows.fnExactVerifyClaimsRow.func=some 13:=by kernel_rfl
end Go.Proofs.YtnjedojmdcpcaaaGreat.fnExactVerifyClaims
