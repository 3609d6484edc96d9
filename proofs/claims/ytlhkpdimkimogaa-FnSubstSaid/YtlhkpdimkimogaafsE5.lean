/- The functions of this seat, as that machine runs them. -/
import Derived.Test.YtlhkpdimkimogaafsE4
import Derived.Test.YtlhkpdimkimogaaRows
import Derived.JoinedOf
import Derived.ProofKit
namespace Go.Proofs.Ytlhkpdimkimogaa.fnSubst
open Go
theorem closed:joinedFacts Try.pinned.checked.prog 3 Try.f3 Rows.fnSubstSpec Rows.fnSubstRow=true:=by
 unfold joinedFacts;rw [f25,f26,f27];kernel_rfl
end Go.Proofs.Ytlhkpdimkimogaa.fnSubst
