/- The listed variables: closed facts. -/
import Derived.Test.YtcjcmdikopipjaaDoorDig
import Derived.Stop.LaidErr
import Derived.Stop.Joined
namespace Go.Proofs.YtcjcmdikopipjaaDoor
open Go.ChangeShapes Go.WideShapes Go.ChangeAt Go.RowKit Go.Deep
set_option linter.unusedVariables false

theorem gPow : Tryd.prog.globalNamed "internal/strconv.uint64pow10" = some 2 := by kernel_rfl
theorem gPowTy : (Tryd.prog.globals[2]?).map (·.type) = some 160 := by kernel_rfl
theorem cU64 : Tryd.prog.cellsOf 143 = 1 := by kernel_rfl
theorem cPow : Tryd.prog.cellsOf 160 = 20 := by kernel_rfl
end Go.Proofs.YtcjcmdikopipjaaDoor
