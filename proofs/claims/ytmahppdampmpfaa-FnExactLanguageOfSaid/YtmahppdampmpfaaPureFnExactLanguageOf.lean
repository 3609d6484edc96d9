/- The program's LanguageOf answers what the reference's answers, at every argument that fits an int. -/
import Derived.Test.YtmahppdampmpfaaPFnExactLanguageOfx1
namespace Go.Proofs.Ytmahppdampmpfaa.Pure
open Go.RowKit Go.Proofs.Ytmahppdampmpfaa.PFnExactLanguageOf Go.Proofs.YtmahppdampmpfaaW.PrintWords Go.Proofs.YtmahppdampmpfaaW.PrintLast

theorem same_of (k : Nat) (a0 : Int) (o : Option ByteArray) (h1 : o.isSome = true)
    (h2 : spec_LanguageOf.f k a0 = o) (h3 : impl_LanguageOf.f a0 = o) :
    laws_FnExactLanguageOf.f k a0 = some true := by
  unfold laws_FnExactLanguageOf.f
  rw [h2, h3]
  cases o with
  | none => cases h1
  | some b => simp

theorem FnExactLanguageOf : laws_FnExactLanguageOf.Pure := by
  intro a0 h
  refine ⟨40, ?_⟩
  by_cases h1 : a0 = 1
  · subst h1
    exact same_of 40 1 (impl_LanguageOf.f 1) (by kernel_rfl) (by kernel_rfl) rfl
  · by_cases h2 : a0 = 2
    · subst h2
      exact same_of 40 2 (impl_LanguageOf.f 2) (by kernel_rfl) (by kernel_rfl) rfl
    · by_cases h3 : a0 = 3
      · subst h3
        exact same_of 40 3 (impl_LanguageOf.f 3) (by kernel_rfl) (by kernel_rfl) rfl
      · refine same_of 40 a0 (some ⟨#[]⟩) rfl ?_ ?_
        · unfold spec_LanguageOf.f spec_l26Lines.f
          simp [h1, h2, h3]
        · unfold impl_LanguageOf.f
          simp [h1, h2, h3]

end Go.Proofs.Ytmahppdampmpfaa.Pure
