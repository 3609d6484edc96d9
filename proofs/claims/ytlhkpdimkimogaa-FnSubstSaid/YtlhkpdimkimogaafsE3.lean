/- The functions of this seat, as that machine runs them. -/
import Derived.Test.YtlhkpdimkimogaaRows
import Derived.JoinedOf
import Derived.ProofKit
namespace Go.Proofs.Ytlhkpdimkimogaa.fnSubst
open Go
theorem f27:(Try.pinned.checked.prog.make==some Rows.fnSubstRow.make)=true:=by kernel_rfl
end Go.Proofs.Ytlhkpdimkimogaa.fnSubst
