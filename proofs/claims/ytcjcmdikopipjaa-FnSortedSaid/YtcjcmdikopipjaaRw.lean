/- This seat's types in the words of the opening lemmas. -/
import Derived.Test.YtcjcmdikopipjaaRows
import Derived.Test.YtcjcmdikopipjaaOpen
namespace Go.Proofs.Ytcjcmdikopipjaa
open Go.ChangeShapes Go.WideShapes Go.ChangeAt Go.RowKit Go.Deep
set_option linter.unusedVariables false

theorem ownK : ownKnob Try.prog.godebug = none := by kernel_rfl
theorem laidO : laidOutB Try.prog = true := by kernel_rfl
theorem cInt : Try.prog.cellsOf 3 = 1 := by kernel_rfl
theorem cPair : Try.prog.cellsOf 102 = 2 := by kernel_rfl
theorem rowPair : IntRow Try.prog 102 2 := intRow_2 Try.underlying102 cPair (by intro f hf; simp only [List.mem_cons, List.not_mem_nil, or_false] at hf; rcases hf with rfl | rfl <;> exact ⟨Try.underlying3, cInt⟩) ⟨rfl, rfl⟩
theorem cItem : Try.prog.cellsOf 106 = 7 := by kernel_rfl
theorem rowItem : IntRow Try.prog 106 7 := intRow_7 Try.underlying106 cItem (by intro f hf; simp only [List.mem_cons, List.not_mem_nil, or_false] at hf; rcases hf with rfl | rfl | rfl | rfl | rfl | rfl | rfl <;> exact ⟨Try.underlying3, cInt⟩) ⟨rfl, rfl, rfl, rfl, rfl, rfl, rfl⟩
theorem cType : Try.prog.cellsOf 104 = 7 := by kernel_rfl
theorem rowType : IntRow Try.prog 104 7 := intRow_7 Try.underlying104 cType (by intro f hf; simp only [List.mem_cons, List.not_mem_nil, or_false] at hf; rcases hf with rfl | rfl | rfl | rfl | rfl | rfl | rfl <;> exact ⟨Try.underlying3, cInt⟩) ⟨rfl, rfl, rfl, rfl, rfl, rfl, rfl⟩
theorem cPallet : Try.prog.cellsOf 35 = 4 := by kernel_rfl
theorem rowPallet : IntRow Try.prog 35 4 := intRow_4 Try.underlying35 cPallet (by intro f hf; simp only [List.mem_cons, List.not_mem_nil, or_false] at hf; rcases hf with rfl | rfl | rfl | rfl <;> exact ⟨Try.underlying3, cInt⟩) ⟨rfl, rfl, rfl, rfl⟩
theorem cRq : Try.prog.cellsOf 40 = 10 := by kernel_rfl
theorem cPairS : Try.prog.cellsOf 36 = 1 := by kernel_rfl
theorem cTypeS : Try.prog.cellsOf 37 = 1 := by kernel_rfl
theorem cItemS : Try.prog.cellsOf 38 = 1 := by kernel_rfl
set_option maxRecDepth 100000 in
theorem openRq {H : Type} {enc : TypeId × Value → H} {W : World} {rr : Reach} {b0 : Nat} {v : Value} {d : DataW H} {p : List MemPlace}
    (hv : Value.okWide Try.prog W rr b0 40 v) (h : DataW.Trod enc Try.prog W 0 (fun _ => true) true 40 v d p) (hfz : W.noneFrozen p) :
    ∃ r : Rq, ∃ A1 n1 c1 A2 n2 c2 A3 n3 c3, v = .agg #[.int .i64 r.way, .int .i64 r.pal.w, .int .i64 r.pal.d, .int .i64 r.pal.h, .int .i64 r.pal.gram, .int .i64 r.cls, .slice A1 n1 c1, .slice A2 n2 c2, .int .i64 r.master, .slice A3 n3 c3] ∧ RqAt W 0 W.heap.size r A1 n1 c1 A2 n2 c2 A3 n3 c3 :=
  open_rq Try.underlying40 cRq ⟨rfl, rfl, rfl, rfl, rfl, rfl, rfl⟩ ⟨rfl, rfl, rfl, rfl⟩
    (by intro f hf; simp only [List.mem_cons, List.not_mem_nil, or_false] at hf; rcases hf with rfl | rfl | rfl <;> exact ⟨Try.underlying3, cInt⟩) rowPallet cPallet
    ⟨Try.underlying36, rowPair, cPair, cPairS⟩ ⟨Try.underlying37, rowType, cType, cTypeS⟩ ⟨Try.underlying38, rowItem, cItem, cItemS⟩ hv h hfz
end Go.Proofs.Ytcjcmdikopipjaa
