/- The functions of this seat, walked in that logic. -/
import Derived.Test.YtmahppdampmpfaaT19
set_option linter.unusedVariables false
namespace Go.RF
structure Cl where
  vs : List ByteArray
  l : Tm
  r : Tm
  gs : List Gd
def Cl.ds (c : Cl) : List D := .sl 1 (c.vs.map dsS) :: (c.l.ds ++ (c.r.ds ++ [.sl 9 (c.gs.map Gd.ds)]))
theorem Cl.ds_len (c : Cl) : c.ds.length = 10 := by
  simp [Cl.ds, Tm.ds_len']
def vC (c : Cl) : V := .agg (c.ds.map dv)
def szCl (c : Cl) (l : Int) : Int :=
  if szR szSt c.vs l < 0 then -1 else
  if sz c.l (szR szSt c.vs l) < 0 then -1 else
  if sz c.r (sz c.l (szR szSt c.vs l)) < 0 then -1 else
  if szR szGd c.gs (sz c.r (sz c.l (szR szSt c.vs l))) < 0 then -1 else szR szGd c.gs (sz c.r (sz c.l (szR szSt c.vs l)))
def eqCl (a b : Cl) : Bool := eqR eqSt a.vs b.vs && (eqT a.l b.l && (eqT a.r b.r && eqR eqGd a.gs b.gs))
end Go.RF
namespace Go.RF.S
open Go Go.Proofs Go.RF
theorem ty38 : ty Try.prog 38 = some (10, true) := by kernel_rfl
theorem ty43 : ty Try.prog 43 = some (10, true) := by kernel_rfl
theorem fo38_0 : fo Try.prog 38 0 = some 0 := by kernel_rfl
theorem fo38_1 : fo Try.prog 38 1 = some 1 := by kernel_rfl
theorem fo38_2 : fo Try.prog 38 2 = some 5 := by kernel_rfl
theorem fo38_3 : fo Try.prog 38 3 = some 9 := by kernel_rfl
theorem fo43_0 : fo Try.prog 43 0 = some 0 := by kernel_rfl
theorem fo43_1 : fo Try.prog 43 1 = some 1 := by kernel_rfl
theorem fo43_2 : fo Try.prog 43 2 = some 5 := by kernel_rfl
theorem fo43_3 : fo Try.prog 43 3 = some 9 := by kernel_rfl
def z10 : List AC := [.v (.sl 1 []) true true, .v (.raw (.int .i64 0)) false true, .v (.raw (.int .i64 0)) false true, .v (.raw (.string ByteArray.empty)) false true, .v (.sl 4 []) true true,
  .v (.raw (.int .i64 0)) false true, .v (.raw (.int .i64 0)) false true, .v (.raw (.string ByteArray.empty)) false true, .v (.sl 4 []) true true, .v (.sl 9 []) true true]
theorem zi43 : zi Try.prog 43 = some z10 := by kernel_rfl
attribute [go_sem] ty38 ty43 fo38_0 fo38_1 fo38_2 fo38_3 fo43_0 fo43_1 fo43_2 fo43_3 z10 zi43 vC
@[go_sem] theorem Cl.ds_mk (vs : List ByteArray) (l r : Tm) (gs : List Gd) : Cl.ds ⟨vs, l, r, gs⟩ = .sl 1 (vs.map dsS) :: (l.ds ++ (r.ds ++ [.sl 9 (gs.map Gd.ds)])) := rfl
end Go.RF.S
