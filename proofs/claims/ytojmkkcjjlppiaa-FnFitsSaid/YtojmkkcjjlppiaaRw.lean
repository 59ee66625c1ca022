/- This seat's types in the words of the opening lemmas. -/
import Derived.Test.YtojmkkcjjlppiaaRows
import Derived.Test.YtojmkkcjjlppiaaOpen
namespace Go.Proofs.Ytojmkkcjjlppiaa
open Go.ChangeShapes Go.WideShapes Go.ChangeAt Go.RowKit Go.Deep
set_option linter.unusedVariables false

theorem ownK : ownKnob Try.prog.godebug = none := by kernel_rfl
theorem laidO : laidOutB Try.prog = true := by kernel_rfl
theorem cInt : Try.prog.cellsOf 3 = 1 := by kernel_rfl
theorem cPair : Try.prog.cellsOf 89 = 2 := by kernel_rfl
theorem rowPair : IntRow Try.prog 89 2 := intRow_2 Try.underlying89 cPair (by intro f hf; simp only [List.mem_cons, List.not_mem_nil, or_false] at hf; rcases hf with rfl | rfl <;> exact ⟨Try.underlying3, cInt⟩) ⟨rfl, rfl⟩
end Go.Proofs.Ytojmkkcjjlppiaa
