/- This seat's types in the words of the opening lemmas. -/
import Derived.Test.YtbgcljpoiajcjaaRows
import Derived.Test.YtbgcljpoiajcjaaOpen
namespace Go.Proofs.Ytbgcljpoiajcjaa
open Go.ChangeShapes Go.WideShapes Go.ChangeAt Go.RowKit Go.Deep
set_option linter.unusedVariables false

theorem ownK : ownKnob Try.prog.godebug = none := by kernel_rfl
theorem laidO : laidOutB Try.prog = true := by kernel_rfl
theorem cInt : Try.prog.cellsOf 3 = 1 := by kernel_rfl
theorem cPair : Try.prog.cellsOf 93 = 2 := by kernel_rfl
theorem rowPair : IntRow Try.prog 93 2 := intRow_2 Try.underlying93 cPair (by intro f hf; simp only [List.mem_cons, List.not_mem_nil, or_false] at hf; rcases hf with rfl | rfl <;> exact ⟨Try.underlying3, cInt⟩) ⟨rfl, rfl⟩
theorem cItem : Try.prog.cellsOf 97 = 7 := by kernel_rfl
theorem rowItem : IntRow Try.prog 97 7 := intRow_7 Try.underlying97 cItem (by intro f hf; simp only [List.mem_cons, List.not_mem_nil, or_false] at hf; rcases hf with rfl | rfl | rfl | rfl | rfl | rfl | rfl <;> exact ⟨Try.underlying3, cInt⟩) ⟨rfl, rfl, rfl, rfl, rfl, rfl, rfl⟩
theorem cType : Try.prog.cellsOf 95 = 7 := by kernel_rfl
theorem rowType : IntRow Try.prog 95 7 := intRow_7 Try.underlying95 cType (by intro f hf; simp only [List.mem_cons, List.not_mem_nil, or_false] at hf; rcases hf with rfl | rfl | rfl | rfl | rfl | rfl | rfl <;> exact ⟨Try.underlying3, cInt⟩) ⟨rfl, rfl, rfl, rfl, rfl, rfl, rfl⟩
theorem cPallet : Try.prog.cellsOf 23 = 4 := by kernel_rfl
theorem rowPallet : IntRow Try.prog 23 4 := intRow_4 Try.underlying23 cPallet (by intro f hf; simp only [List.mem_cons, List.not_mem_nil, or_false] at hf; rcases hf with rfl | rfl | rfl | rfl <;> exact ⟨Try.underlying3, cInt⟩) ⟨rfl, rfl, rfl, rfl⟩
theorem cRq : Try.prog.cellsOf 28 = 10 := by kernel_rfl
theorem cPairS : Try.prog.cellsOf 24 = 1 := by kernel_rfl
theorem cTypeS : Try.prog.cellsOf 25 = 1 := by kernel_rfl
theorem cItemS : Try.prog.cellsOf 26 = 1 := by kernel_rfl
set_option maxRecDepth 100000 in
theorem openRq {H : Type} {enc : TypeId × Value → H} {W : World} {rr : Reach} {b0 : Nat} {v : Value} {d : DataW H} {p : List MemPlace}
    (hv : Value.okWide Try.prog W rr b0 28 v) (h : DataW.Trod enc Try.prog W 0 (fun _ => true) true 28 v d p) (hfz : W.noneFrozen p) :
    ∃ r : Rq, ∃ A1 n1 c1 A2 n2 c2 A3 n3 c3, v = .agg #[.int .i64 r.way, .int .i64 r.pal.w, .int .i64 r.pal.d, .int .i64 r.pal.h, .int .i64 r.pal.gram, .int .i64 r.cls, .slice A1 n1 c1, .slice A2 n2 c2, .int .i64 r.master, .slice A3 n3 c3] ∧ RqAt W 0 W.heap.size r A1 n1 c1 A2 n2 c2 A3 n3 c3 :=
  open_rq Try.underlying28 cRq ⟨rfl, rfl, rfl, rfl, rfl, rfl, rfl⟩ ⟨rfl, rfl, rfl, rfl⟩
    (by intro f hf; simp only [List.mem_cons, List.not_mem_nil, or_false] at hf; rcases hf with rfl | rfl | rfl <;> exact ⟨Try.underlying3, cInt⟩) rowPallet cPallet
    ⟨Try.underlying24, rowPair, cPair, cPairS⟩ ⟨Try.underlying25, rowType, cType, cTypeS⟩ ⟨Try.underlying26, rowItem, cItem, cItemS⟩ hv h hfz
end Go.Proofs.Ytbgcljpoiajcjaa
