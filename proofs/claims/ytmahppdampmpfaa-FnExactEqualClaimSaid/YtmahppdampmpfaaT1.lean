/- The functions of this seat, walked in that logic. -/
import Derived.Test.YtmahppdampmpfaaRF25
import Derived.Test.YtmahppdampmpfaaProg
set_option linter.unusedVariables false
namespace Go.RF.S
open Go Go.Proofs Go.RF

theorem ty3 : ty Try.prog 3 = some (1, false) := by kernel_rfl
theorem ty4 : ty Try.prog 4 = some (1, false) := by kernel_rfl
theorem ty9 : ty Try.prog 9 = some (1, false) := by kernel_rfl
theorem ty24 : ty Try.prog 24 = some (1, false) := by kernel_rfl
theorem ty29 : ty Try.prog 29 = some (1, false) := by kernel_rfl
theorem ty26 : ty Try.prog 26 = some (4, true) := by kernel_rfl
theorem ty31 : ty Try.prog 31 = some (4, true) := by kernel_rfl
theorem se24 : se Try.prog 24 = some (4, 56) := by kernel_rfl
theorem se29 : se Try.prog 29 = some (4, 56) := by kernel_rfl
theorem fo26_0 : fo Try.prog 26 0 = some 0 := by kernel_rfl
theorem fo26_1 : fo Try.prog 26 1 = some 1 := by kernel_rfl
theorem fo26_2 : fo Try.prog 26 2 = some 2 := by kernel_rfl
theorem fo26_3 : fo Try.prog 26 3 = some 3 := by kernel_rfl
theorem fo31_0 : fo Try.prog 31 0 = some 0 := by kernel_rfl
theorem fo31_1 : fo Try.prog 31 1 = some 1 := by kernel_rfl
theorem fo31_2 : fo Try.prog 31 2 = some 2 := by kernel_rfl
theorem fo31_3 : fo Try.prog 31 3 = some 3 := by kernel_rfl
theorem ue29 : ue Try.prog 29 = some 31 := by kernel_rfl
theorem ue24 : ue Try.prog 24 = some 26 := by kernel_rfl
theorem zi31 : zi Try.prog 31 = some [.v (.raw (.int .i64 0)) false true, .v (.raw (.int .i64 0)) false true, .v (.raw (.string ByteArray.empty)) false true, .v (.sl 4 []) true true] := by kernel_rfl
theorem und4 : Try.prog.underlying 4 = some .bool := by kernel_rfl
end Go.RF.S
