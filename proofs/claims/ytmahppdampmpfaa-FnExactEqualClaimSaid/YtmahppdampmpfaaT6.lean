/- The functions of this seat, walked in that logic. -/
import Derived.Test.YtmahppdampmpfaaT5
set_option linter.unusedVariables false
namespace Go.RF
mutual
def eqT : Tm → Tm → Bool
  | .mk k n s xs, .mk k' n' s' xs' => decide (k = k') && decide (n = n') && decide (s = s') && (decide (xs.length = xs'.length) && eqL xs xs')
def eqL : List Tm → List Tm → Bool
  | x :: xs, y :: ys => eqT x y && eqL xs ys
  | _, _ => true
end
def eqS (xs ys : List Tm) : Bool := decide (xs.length = ys.length) && eqL xs ys
theorem eqT_mk (k n : Int) (s : ByteArray) (xs : List Tm) (k' n' : Int) (s' : ByteArray) (xs' : List Tm) :
    eqT (.mk k n s xs) (.mk k' n' s' xs') = (decide (k = k') && decide (n = n') && decide (s = s') && eqS xs xs') := by rw [eqT, eqS]
mutual
theorem eqT_self : ∀ x : Tm, eqT x x = true
  | .mk k n s xs => by simp [eqT, eqL_self xs]
theorem eqL_self : ∀ xs : List Tm, eqL xs xs = true
  | [] => by simp [eqL]
  | x :: xs => by simp [eqL, eqT_self x, eqL_self xs]
end
mutual
def hasOp (a : ByteArray) : Tm → Bool
  | .mk k n s xs => hasOpL a xs || (decide (k = 2) && decide (s = a))
def hasOpL (a : ByteArray) : List Tm → Bool
  | [] => false
  | x :: xs => hasOp a x || hasOpL a xs
end
theorem hasOp_mk (a : ByteArray) (k n : Int) (s : ByteArray) (xs : List Tm) : hasOp a (.mk k n s xs) = (hasOpL a xs || (decide (k = 2) && decide (s = a))) := by rw [hasOp]
theorem eqL_drop (xs ys : List Tm) (i : Nat) (h : i < xs.length) (h' : i < ys.length) : eqL (xs.drop i) (ys.drop i) = (eqT xs[i] ys[i] && eqL (xs.drop (i + 1)) (ys.drop (i + 1))) := by
  rw [List.drop_eq_getElem_cons h, List.drop_eq_getElem_cons h', eqL]
theorem hasOpL_drop (a : ByteArray) (xs : List Tm) (i : Nat) (h : i < xs.length) : hasOpL a (xs.drop i) = (hasOp a xs[i] || hasOpL a (xs.drop (i + 1))) := by
  rw [List.drop_eq_getElem_cons h, hasOpL]
end Go.RF
namespace Go.RF.S
open Go Go.Proofs Go.RF
theorem mixed : Try.prog.follows .mixedOrders = true := by kernel_rfl
end Go.RF.S
