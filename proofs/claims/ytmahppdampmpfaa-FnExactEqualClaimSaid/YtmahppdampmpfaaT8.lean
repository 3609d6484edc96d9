/- The functions of this seat, walked in that logic. -/
import Derived.Test.YtmahppdampmpfaaT7
set_option linter.unusedVariables false
namespace Go.RF
def idxL (p : Tm → Bool) : List Tm → Int → Int
  | [], _ => -1
  | x :: xs, i => if p x then i else idxL p xs (i + 1)
theorem idxL_any (p : Tm → Bool) : ∀ (xs : List Tm) (i : Int), 0 ≤ i → decide (0 ≤ idxL p xs i) = xs.any p
  | [], i, h => by simp [idxL]
  | x :: xs, i, h => by
    rw [idxL, List.any_cons]
    by_cases hp : p x = true
    · simp [hp, h]
    · rw [if_neg hp, idxL_any p xs (i + 1) (by omega)]; simp [hp]
theorem idxL_drop (p : Tm → Bool) (xs : List Tm) (i : Nat) (h : i < xs.length) (z : Int) : idxL p (xs.drop i) z = if p xs[i] then z else idxL p (xs.drop (i + 1)) (z + 1) := by
  rw [List.drop_eq_getElem_cons h, idxL]
theorem hasOpL_any (a : ByteArray) : ∀ xs : List Tm, hasOpL a xs = xs.any (hasOp a)
  | [] => by simp [hasOpL]
  | x :: xs => by simp [hasOpL, hasOpL_any a xs]
attribute [go_sem] vF
attribute [go_sem] wantR_fn
@[go_sem] theorem spl_T (x : Tm) (a b c d : AC) : spl 0 (x.ds.map dv) [a, b, c, d] = x.ds.map dv := by
  cases x; rw [Tm.ds_mk]; rfl
end Go.RF
