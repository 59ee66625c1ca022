/- The laws' functions over a whole order: szRequest, toRequest, eqRequest. -/
import Derived.Test.YtkpakpjbpmnbgaaS1
namespace Go.Proofs.Ytkpakpjbpmnbgaa
open Go.ChangeShapes Go.WideShapes Go.ChangeAt Go.RowKit Go.Deep
set_option linter.unusedVariables false

end Go.Proofs.Ytkpakpjbpmnbgaa
