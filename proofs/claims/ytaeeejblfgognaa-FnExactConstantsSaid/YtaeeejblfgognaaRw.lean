/- This seat's types in the words of the opening lemmas. -/
import Derived.Test.YtaeeejblfgognaaRows
import Derived.Test.YtaeeejblfgognaaOpen
namespace Go.Proofs.Ytaeeejblfgognaa
open Go.ChangeShapes Go.WideShapes Go.ChangeAt Go.RowKit Go.Deep
set_option linter.unusedVariables false

theorem ownK : ownKnob Try.prog.godebug = none := by kernel_rfl
theorem laidO : laidOutB Try.prog = true := by kernel_rfl
theorem cInt : Try.prog.cellsOf 3 = 1 := by kernel_rfl
theorem cItem : Try.prog.cellsOf 34 = 7 := by kernel_rfl
theorem rowItem : IntRow Try.prog 34 7 := intRow_7 Try.underlying34 cItem (by intro f hf; simp only [List.mem_cons, List.not_mem_nil, or_false] at hf; rcases hf with rfl | rfl | rfl | rfl | rfl | rfl | rfl <;> exact ⟨Try.underlying3, cInt⟩) ⟨rfl, rfl, rfl, rfl, rfl, rfl, rfl⟩
theorem cType : Try.prog.cellsOf 40 = 7 := by kernel_rfl
theorem rowType : IntRow Try.prog 40 7 := intRow_7 Try.underlying40 cType (by intro f hf; simp only [List.mem_cons, List.not_mem_nil, or_false] at hf; rcases hf with rfl | rfl | rfl | rfl | rfl | rfl | rfl <;> exact ⟨Try.underlying3, cInt⟩) ⟨rfl, rfl, rfl, rfl, rfl, rfl, rfl⟩
theorem cPallet : Try.prog.cellsOf 28 = 4 := by kernel_rfl
theorem rowPallet : IntRow Try.prog 28 4 := intRow_4 Try.underlying28 cPallet (by intro f hf; simp only [List.mem_cons, List.not_mem_nil, or_false] at hf; rcases hf with rfl | rfl | rfl | rfl <;> exact ⟨Try.underlying3, cInt⟩) ⟨rfl, rfl, rfl, rfl⟩
end Go.Proofs.Ytaeeejblfgognaa
