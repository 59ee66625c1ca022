/- This seat's types in the words of the opening lemmas. -/
import Derived.Test.YtcjcmdikopipjaaDoorRows
import Derived.Test.YtcjcmdikopipjaaDoorOpen
namespace Go.Proofs.YtcjcmdikopipjaaDoor
open Go.ChangeShapes Go.WideShapes Go.ChangeAt Go.RowKit Go.Deep
set_option linter.unusedVariables false

theorem ownK : ownKnob Tryd.prog.godebug = none := by kernel_rfl
theorem laidO : laidOutB Tryd.prog = true := by kernel_rfl
theorem cInt : Tryd.prog.cellsOf 3 = 1 := by kernel_rfl
theorem cPair : Tryd.prog.cellsOf 113 = 2 := by kernel_rfl
theorem rowPair : IntRow Tryd.prog 113 2 := intRow_2 Tryd.underlying113 cPair (by intro f hf; simp only [List.mem_cons, List.not_mem_nil, or_false] at hf; rcases hf with rfl | rfl <;> exact ⟨Tryd.underlying3, cInt⟩) ⟨rfl, rfl⟩
theorem cItem : Tryd.prog.cellsOf 117 = 7 := by kernel_rfl
theorem rowItem : IntRow Tryd.prog 117 7 := intRow_7 Tryd.underlying117 cItem (by intro f hf; simp only [List.mem_cons, List.not_mem_nil, or_false] at hf; rcases hf with rfl | rfl | rfl | rfl | rfl | rfl | rfl <;> exact ⟨Tryd.underlying3, cInt⟩) ⟨rfl, rfl, rfl, rfl, rfl, rfl, rfl⟩
theorem cType : Tryd.prog.cellsOf 115 = 7 := by kernel_rfl
theorem rowType : IntRow Tryd.prog 115 7 := intRow_7 Tryd.underlying115 cType (by intro f hf; simp only [List.mem_cons, List.not_mem_nil, or_false] at hf; rcases hf with rfl | rfl | rfl | rfl | rfl | rfl | rfl <;> exact ⟨Tryd.underlying3, cInt⟩) ⟨rfl, rfl, rfl, rfl, rfl, rfl, rfl⟩
theorem cPallet : Tryd.prog.cellsOf 28 = 4 := by kernel_rfl
theorem rowPallet : IntRow Tryd.prog 28 4 := intRow_4 Tryd.underlying28 cPallet (by intro f hf; simp only [List.mem_cons, List.not_mem_nil, or_false] at hf; rcases hf with rfl | rfl | rfl | rfl <;> exact ⟨Tryd.underlying3, cInt⟩) ⟨rfl, rfl, rfl, rfl⟩
theorem cRq : Tryd.prog.cellsOf 33 = 10 := by kernel_rfl
theorem cPairS : Tryd.prog.cellsOf 29 = 1 := by kernel_rfl
theorem cTypeS : Tryd.prog.cellsOf 30 = 1 := by kernel_rfl
theorem cItemS : Tryd.prog.cellsOf 31 = 1 := by kernel_rfl
set_option maxRecDepth 100000 in
theorem openRq {H : Type} {enc : TypeId × Value → H} {W : World} {rr : Reach} {b0 : Nat} {v : Value} {d : DataW H} {p : List MemPlace}
    (hv : Value.okWide Tryd.prog W rr b0 33 v) (h : DataW.Trod enc Tryd.prog W 0 (fun _ => true) true 33 v d p) (hfz : W.noneFrozen p) :
    ∃ r : Rq, ∃ A1 n1 c1 A2 n2 c2 A3 n3 c3, v = .agg #[.int .i64 r.way, .int .i64 r.pal.w, .int .i64 r.pal.d, .int .i64 r.pal.h, .int .i64 r.pal.gram, .int .i64 r.cls, .slice A1 n1 c1, .slice A2 n2 c2, .int .i64 r.master, .slice A3 n3 c3] ∧ RqAt W 0 W.heap.size r A1 n1 c1 A2 n2 c2 A3 n3 c3 :=
  open_rq Tryd.underlying33 cRq ⟨rfl, rfl, rfl, rfl, rfl, rfl, rfl⟩ ⟨rfl, rfl, rfl, rfl⟩
    (by intro f hf; simp only [List.mem_cons, List.not_mem_nil, or_false] at hf; rcases hf with rfl | rfl | rfl <;> exact ⟨Tryd.underlying3, cInt⟩) rowPallet cPallet
    ⟨Tryd.underlying29, rowPair, cPair, cPairS⟩ ⟨Tryd.underlying30, rowType, cType, cTypeS⟩ ⟨Tryd.underlying31, rowItem, cItem, cItemS⟩ hv h hfz
end Go.Proofs.YtcjcmdikopipjaaDoor
