/- The functions of this seat, walked in that logic. -/
import Derived.Test.YtmahppdampmpfaaT16
set_option linter.unusedVariables false
namespace Go.RF
structure Gd where
  k : Int
  l : Tm
  r : Tm
def Gd.ds (g : Gd) : List D := .raw (.int .i64 g.k) :: (g.l.ds ++ g.r.ds)
theorem Gd.ds_len (g : Gd) : g.ds.length = 9 := by
  simp [Gd.ds, Tm.ds_len']
def z9 : List AC := [.v (.raw (.int .i64 0)) false true, .v (.raw (.int .i64 0)) false true, .v (.raw (.int .i64 0)) false true, .v (.raw (.string ByteArray.empty)) false true, .v (.sl 4 []) true true,
  .v (.raw (.int .i64 0)) false true, .v (.raw (.int .i64 0)) false true, .v (.raw (.string ByteArray.empty)) false true, .v (.sl 4 []) true true]
def vG (g : Gd) : V := .agg (g.ds.map dv)
def vGs (xs : List Gd) : V := .one (.v (.sl 9 (xs.map Gd.ds)) false false)
def szGd (g : Gd) (l : Int) : Int := if sz g.l l < 0 then -1 else if sz g.r (sz g.l l) < 0 then -1 else sz g.r (sz g.l l)
theorem szGd_le (g : Gd) (l : Int) (h : 0 ≤ l) : szGd g l ≤ l := by
  unfold szGd
  have h1 := S.sz_le g.l l h
  split
  · omega
  · have h2 := S.sz_le g.r (sz g.l l) (by omega)
    split <;> omega
def eqGd (a b : Gd) : Bool := decide (a.k = b.k) && (eqT a.l b.l && eqT a.r b.r)
end Go.RF
namespace Go.RF.S
open Go Go.Proofs Go.RF
theorem ty36 : ty Try.prog 36 = some (1, false) := by kernel_rfl
theorem ty41 : ty Try.prog 41 = some (1, false) := by kernel_rfl
theorem ty124 : ty Try.prog 124 = some (9, true) := by kernel_rfl
theorem ty90 : ty Try.prog 90 = some (9, true) := by kernel_rfl
theorem se36 : se Try.prog 36 = some (9, 120) := by kernel_rfl
theorem se41 : se Try.prog 41 = some (9, 120) := by kernel_rfl
theorem ue41 : ue Try.prog 41 = some 90 := by kernel_rfl
theorem zi90 : zi Try.prog 90 = some z9 := by kernel_rfl
theorem fo124_0 : fo Try.prog 124 0 = some 0 := by kernel_rfl
theorem fo124_1 : fo Try.prog 124 1 = some 1 := by kernel_rfl
theorem fo124_2 : fo Try.prog 124 2 = some 5 := by kernel_rfl
theorem fo90_0 : fo Try.prog 90 0 = some 0 := by kernel_rfl
theorem fo90_1 : fo Try.prog 90 1 = some 1 := by kernel_rfl
theorem fo90_2 : fo Try.prog 90 2 = some 5 := by kernel_rfl
attribute [go_sem] ty36 ty41 ty124 ty90 se36 se41 ue41 zi90 fo124_0 fo124_1 fo124_2 fo90_0 fo90_1 fo90_2 vG vGs
@[go_sem] theorem Gd.ds_mk (k : Int) (l r : Tm) : Gd.ds ⟨k, l, r⟩ = .raw (.int .i64 k) :: (l.ds ++ r.ds) := rfl
@[go_sem] theorem Gd.take' (g : Gd) : (g.ds.map dv).take 9 = g.ds.map dv := List.take_of_length_le (by simp [Gd.ds_len])
@[go_sem] theorem Gd.take (g : Gd) : g.ds.take 9 = g.ds := List.take_of_length_le (by simp [Gd.ds_len])
@[go_sem] theorem Gd.len (g : Gd) : g.ds.length = 9 := Gd.ds_len g
attribute [go_sem] wantR_dv List.map_append List.cons_append List.nil_append z9
end Go.RF.S
