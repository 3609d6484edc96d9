/- The program's VerdictName answers what the reference's answers, at every argument that fits an int. -/
import Derived.Test.YtmahppdampmpfaaPFnExactVerdictNamex1
namespace Go.Proofs.Ytmahppdampmpfaa.Pure
open Go.RowKit Go.Proofs.Ytmahppdampmpfaa.PFnExactVerdictName Go.Proofs.YtmahppdampmpfaaW.PrintWords Go.Proofs.YtmahppdampmpfaaW.PrintLast

theorem FnExactVerdictName : laws_FnExactVerdictName.Pure := by
  intro a0 h
  unfold laws_FnExactVerdictName.f spec_VerdictName.f impl_VerdictName.f spec_l1In.f
  by_cases h0 : a0 < 0
  · have : ¬ a0 ≥ 0 := by omega
    simp [h0, this]
  · by_cases h3 : a0 > 3
    · have h4 : a0 ≥ 0 := by omega
      have h5 : ¬ a0 ≤ 3 := by omega
      simp [h0, h3, h4, h5]
    · have h4 : a0 ≥ 0 := by omega
      have h5 : a0 ≤ 3 := by omega
      have h6 : a0 < 4 := by omega
      simp [h0, h3, h4, h5, h6]

end Go.Proofs.Ytmahppdampmpfaa.Pure
