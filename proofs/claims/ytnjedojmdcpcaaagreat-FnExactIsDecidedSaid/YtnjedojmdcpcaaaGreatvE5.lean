/- The functions of this seat, as that machine runs them. -/
import Derived.Test.YtnjedojmdcpcaaaGreatvE4
import Derived.Test.YtnjedojmdcpcaaaGreatRows
import Derived.JoinedOf
import Derived.ProofKit
namespace Go.Proofs.YtnjedojmdcpcaaaGreat.fnExactIsDecided
open Go
theorem closed:joinedFacts Tryz.pinned.checked.prog 3 Tryz.f3 Rows.fnExactIsDecidedSpec Rows.fnExactIsDecidedRow=true:=by
 unfold joinedFacts
 rw [f25,f26,f27]
 kernel_rfl
end Go.Proofs.YtnjedojmdcpcaaaGreat.fnExactIsDecided
