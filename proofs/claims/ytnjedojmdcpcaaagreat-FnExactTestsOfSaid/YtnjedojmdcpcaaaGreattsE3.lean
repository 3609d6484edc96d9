/- The functions of this seat, as that machine runs them. -/
import Derived.Test.YtnjedojmdcpcaaaGreatRows
import Derived.JoinedOf
import Derived.ProofKit
namespace Go.Proofs.YtnjedojmdcpcaaaGreat.fnExactTestsOf
open Go
theorem f27:(Tryz.pinned.checked.prog.make==some Rows.fnExactTestsOfRow.make)=true:=by kernel_rfl
end Go.Proofs.YtnjedojmdcpcaaaGreat.fnExactTestsOf
