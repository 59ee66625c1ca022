/- The laws' functions over a whole order: szRequest, toRequest, eqRequest. -/
import Derived.Test.YtojmkkcjjlppiaaS1
namespace Go.Proofs.Ytojmkkcjjlppiaa
open Go.ChangeShapes Go.WideShapes Go.ChangeAt Go.RowKit Go.Deep
set_option linter.unusedVariables false

end Go.Proofs.Ytojmkkcjjlppiaa
