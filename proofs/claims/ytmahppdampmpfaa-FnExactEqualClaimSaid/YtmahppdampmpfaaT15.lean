/- The functions of this seat, walked in that logic. -/
import Derived.Test.YtmahppdampmpfaaT14
set_option linter.unusedVariables false
namespace Go.RF
def dsS (s : ByteArray) : List D := [.raw (.string s)]
def vSs (xs : List ByteArray) : V := .one (.v (.sl 1 (xs.map dsS)) false false)
def zS : List AC := [.v (.raw (.string ByteArray.empty)) false true]
def szSt (s : ByteArray) (l : Int) : Int := l - s.size
theorem szSt_le (s : ByteArray) (l : Int) (h : 0 ≤ l) : szSt s l ≤ l := by unfold szSt; omega
def eqSt (s t : ByteArray) : Bool := decide (s = t)
theorem dsS_len (s : ByteArray) : (dsS s).length = 1 := rfl
end Go.RF
namespace Go.RF.S
open Go Go.Proofs Go.RF
theorem ty35 : ty Try.prog 35 = some (1, false) := by kernel_rfl
theorem se35 : se Try.prog 35 = some (1, 16) := by kernel_rfl
theorem ue35 : ue Try.prog 35 = some 9 := by kernel_rfl
theorem zi9 : zi Try.prog 9 = some zS := by kernel_rfl
attribute [go_sem] ty35 se35 ue35 zi9 dsS vSs Tm.ds_mk
theorem pc56 : ∀ (x y : Tm), x.ok 1048576 → PC Try.prog 56 ([vT x, vT y].map .val) [vB (eqT x y)] []
  | .mk k n s xs, .mk k' n' s' ys, hx => by
    obtain ⟨q1, q2, q3⟩ := Tm.ok_mk hx
    exact w56 k n s xs k' n' s' ys (w88 xs ys (by omega) 56 Try.f56 [] Try.func56 (by kernel_rfl) fun x hm y hm' => by simpa using pc56 x y (q3 x hm))
theorem pc52 : ∀ (x y : Tm), x.ok 1048576 → PC Try.prog 52 ([vT x, vT y].map .val) [vB (eqT x y)] []
  | .mk k n s xs, .mk k' n' s' ys, hx => by
    obtain ⟨q1, q2, q3⟩ := Tm.ok_mk hx
    exact w52 k n s xs k' n' s' ys (by omega) fun x hm y hm' => pc52 x y (q3 x hm)
end Go.RF.S
