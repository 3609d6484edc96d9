/- The functions of this seat, as that machine runs them. -/
import Derived.Test.YtnjedojmdcpcaaaGreatfE4
import Derived.Test.YtnjedojmdcpcaaaGreatRows
import Derived.JoinedOf
import Derived.ProofKit
namespace Go.Proofs.YtnjedojmdcpcaaaGreat.fnExactFindProof
open Go
theorem closed:joinedFacts Tryz.pinned.checked.prog 11 Tryz.f11 Rows.fnExactFindProofSpec Rows.fnExactFindProofRow=true:=by
 unfold joinedFacts;rw [f25,f26,f27];kernel_rfl
end Go.Proofs.YtnjedojmdcpcaaaGreat.fnExactFindProof
