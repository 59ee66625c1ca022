/- This seat's types in the words of the opening lemmas. -/
import Derived.Test.YtkpakpjbpmnbgaaRows
import Derived.Test.YtkpakpjbpmnbgaaOpen
namespace Go.Proofs.Ytkpakpjbpmnbgaa
open Go.ChangeShapes Go.WideShapes Go.ChangeAt Go.RowKit Go.Deep
set_option linter.unusedVariables false

theorem ownK : ownKnob Try.prog.godebug = none := by kernel_rfl
theorem laidO : laidOutB Try.prog = true := by kernel_rfl
theorem cInt : Try.prog.cellsOf 3 = 1 := by kernel_rfl
end Go.Proofs.Ytkpakpjbpmnbgaa
