/- This seat's types in the words of the opening lemmas. -/
import Derived.Test.YtehgdhekiogppaaGreatRows
import Derived.Test.YtehgdhekiogppaaGreatOpen
namespace Go.Proofs.YtehgdhekiogppaaGreat
open Go.ChangeShapes Go.WideShapes Go.ChangeAt Go.RowKit Go.Deep
set_option linter.unusedVariables false

theorem ownK : ownKnob Tryz.prog.godebug = none := by kernel_rfl
theorem laidO : laidOutB Tryz.prog = true := by kernel_rfl
theorem cInt : Tryz.prog.cellsOf 3 = 1 := by kernel_rfl
theorem cPair : Tryz.prog.cellsOf 106 = 2 := by kernel_rfl
theorem rowPair : IntRow Tryz.prog 106 2 := intRow_2 Tryz.underlying106 cPair (by intro f hf; simp only [List.mem_cons, List.not_mem_nil, or_false] at hf; rcases hf with rfl | rfl <;> exact ⟨Tryz.underlying3, cInt⟩) ⟨rfl, rfl⟩
theorem cItem : Tryz.prog.cellsOf 110 = 7 := by kernel_rfl
theorem rowItem : IntRow Tryz.prog 110 7 := intRow_7 Tryz.underlying110 cItem (by intro f hf; simp only [List.mem_cons, List.not_mem_nil, or_false] at hf; rcases hf with rfl | rfl | rfl | rfl | rfl | rfl | rfl <;> exact ⟨Tryz.underlying3, cInt⟩) ⟨rfl, rfl, rfl, rfl, rfl, rfl, rfl⟩
theorem cType : Tryz.prog.cellsOf 108 = 7 := by kernel_rfl
theorem rowType : IntRow Tryz.prog 108 7 := intRow_7 Tryz.underlying108 cType (by intro f hf; simp only [List.mem_cons, List.not_mem_nil, or_false] at hf; rcases hf with rfl | rfl | rfl | rfl | rfl | rfl | rfl <;> exact ⟨Tryz.underlying3, cInt⟩) ⟨rfl, rfl, rfl, rfl, rfl, rfl, rfl⟩
theorem cPallet : Tryz.prog.cellsOf 23 = 4 := by kernel_rfl
theorem rowPallet : IntRow Tryz.prog 23 4 := intRow_4 Tryz.underlying23 cPallet (by intro f hf; simp only [List.mem_cons, List.not_mem_nil, or_false] at hf; rcases hf with rfl | rfl | rfl | rfl <;> exact ⟨Tryz.underlying3, cInt⟩) ⟨rfl, rfl, rfl, rfl⟩
theorem cRq : Tryz.prog.cellsOf 28 = 10 := by kernel_rfl
theorem cPairS : Tryz.prog.cellsOf 24 = 1 := by kernel_rfl
theorem cTypeS : Tryz.prog.cellsOf 25 = 1 := by kernel_rfl
theorem cItemS : Tryz.prog.cellsOf 26 = 1 := by kernel_rfl
set_option maxRecDepth 100000 in
theorem openRq {H : Type} {enc : TypeId × Value → H} {W : World} {rr : Reach} {b0 : Nat} {v : Value} {d : DataW H} {p : List MemPlace}
    (hv : Value.okWide Tryz.prog W rr b0 28 v) (h : DataW.Trod enc Tryz.prog W 0 (fun _ => true) true 28 v d p) (hfz : W.noneFrozen p) :
    ∃ r : Rq, ∃ A1 n1 c1 A2 n2 c2 A3 n3 c3, v = .agg #[.int .i64 r.way, .int .i64 r.pal.w, .int .i64 r.pal.d, .int .i64 r.pal.h, .int .i64 r.pal.gram, .int .i64 r.cls, .slice A1 n1 c1, .slice A2 n2 c2, .int .i64 r.master, .slice A3 n3 c3] ∧ RqAt W 0 W.heap.size r A1 n1 c1 A2 n2 c2 A3 n3 c3 :=
  open_rq Tryz.underlying28 cRq ⟨rfl, rfl, rfl, rfl, rfl, rfl, rfl⟩ ⟨rfl, rfl, rfl, rfl⟩
    (by intro f hf; simp only [List.mem_cons, List.not_mem_nil, or_false] at hf; rcases hf with rfl | rfl | rfl <;> exact ⟨Tryz.underlying3, cInt⟩) rowPallet cPallet
    ⟨Tryz.underlying24, rowPair, cPair, cPairS⟩ ⟨Tryz.underlying25, rowType, cType, cTypeS⟩ ⟨Tryz.underlying26, rowItem, cItem, cItemS⟩ hv h hfz
end Go.Proofs.YtehgdhekiogppaaGreat
