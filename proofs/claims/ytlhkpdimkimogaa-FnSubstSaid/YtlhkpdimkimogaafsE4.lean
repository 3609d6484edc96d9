/- The functions of this seat, as that machine runs them. -/
import Derived.Test.YtlhkpdimkimogaafsE1
import Derived.Test.YtlhkpdimkimogaafsE2
import Derived.Test.YtlhkpdimkimogaafsE3
import Derived.Test.YtlhkpdimkimogaaRows
import Derived.JoinedOf
import Derived.ProofKit
namespace Go.Proofs.Ytlhkpdimkimogaa.fnSubst
open Go
theorem named:Try.pinned.checked.prog.funcNamed Rows.fnSubstRow.func=some 3:=by kernel_rfl
end Go.Proofs.Ytlhkpdimkimogaa.fnSubst
