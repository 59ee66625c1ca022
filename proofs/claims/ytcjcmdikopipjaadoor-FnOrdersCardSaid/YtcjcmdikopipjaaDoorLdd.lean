/- The listed variables: closed facts. -/
import Derived.Test.YtcjcmdikopipjaaDoorDig
import Derived.Stop.LaidErr
import Derived.Stop.Joined
namespace Go.Proofs.YtcjcmdikopipjaaDoor
open Go.ChangeShapes Go.WideShapes Go.ChangeAt Go.RowKit Go.Deep
set_option linter.unusedVariables false

theorem gPow : Tryd.prog.globalNamed "internal/strconv.uint64pow10" = some 2 := by kernel_rfl
theorem gPowTy : (Tryd.prog.globals[2]?).map (·.type) = some 160 := by kernel_rfl
theorem cU64 : Tryd.prog.cellsOf 143 = 1 := by kernel_rfl
theorem cPow : Tryd.prog.cellsOf 160 = 20 := by kernel_rfl
theorem gRng : Tryd.prog.globalNamed "strconv.ErrRange" = some 1 := by kernel_rfl
theorem gSyn : Tryd.prog.globalNamed "strconv.ErrSyntax" = some 0 := by kernel_rfl
theorem gRngTy : (Tryd.prog.globals[1]?).map (·.type) = some 63 := by kernel_rfl
theorem gSynTy : (Tryd.prog.globals[0]?).map (·.type) = some 63 := by kernel_rfl
theorem starErr : "*" ++ "errors.errorString" = "*errors.errorString" := by decide
theorem rowErr (u : TypeId) (h : Tryd.prog.typeName? 3 u = some "*errors.errorString") : u = 165 :=
  typeName_ptr_named (nm := "errors.errorString") (by rw [starErr]; kernel_rfl) (by kernel_rfl) (by decide) u (by rw [starErr]; exact h)
theorem cErr : Tryd.prog.cellsOf 167 = 1 := by kernel_rfl
theorem cStr : Tryd.prog.cellsOf 9 = 1 := by kernel_rfl
end Go.Proofs.YtcjcmdikopipjaaDoor
