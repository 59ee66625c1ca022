/- The reference's stable sort: l1Places, l1Merge, SortUp, SortDown. -/
import Derived.Test.YtcjcmdikopipjaaDoorRows
import Derived.Test.YtcjcmdikopipjaaDoorApp
import Derived.Test.YtcjcmdikopipjaaDoorLex
namespace Go.Proofs.YtcjcmdikopipjaaDoor
open Go.ChangeShapes Go.WideShapes Go.ChangeAt Go.RowKit Go.Deep
set_option linter.unusedVariables false
set_option linter.unusedSimpArgs false

theorem intInfo : (Tryd.prog.info? 3).map (fun i => (i.zero, i.size, i.bytes)) = some (some zI, 1, 8) := by kernel_rfl
/-- One number more, out of a block of its own. -/
theorem app1 {w : World} {base : Nat} {v : Value} {xs : List Int} (ho : Own 1 encInt 3 w base v xs) (hb : base ≤ w.heap.size) (hn : xs.length ≤ 4194304) (x : Int) :
    AppOk Tryd.prog 1 encInt (w.alloc (.cells #[.int .i64 x] 3)) base 52 3 v xs (some ⟨w.heap.size, 0, none⟩) 1 1 [x] where
  hk := encInt_len
  h1 := encInt_one
  ht := Tryd.underlying52
  info := ⟨zI, 8, intInfo, rfl, by omega⟩
  pos := by omega
  own := ho.alloc _
  src := ⟨_, _, slk_one w x _⟩
  h63 := by unfold maxLen; omega
  hb := by simp; omega
/-- A list more. -/
theorem appL {w : World} {base : Nat} {v : Value} {xs : List Int} (ho : Own 1 encInt 3 w base v xs) (hb : base ≤ w.heap.size) {lo hi : Nat} {A : Option Addr} {m c : Nat} {ys : List Int} (hs : SlK 1 encInt w lo hi A m c ys) (hn : xs.length + m ≤ 4194304) :
    AppOk Tryd.prog 1 encInt w base 52 3 v xs A m c ys where
  hk := encInt_len
  h1 := encInt_one
  ht := Tryd.underlying52
  info := ⟨zI, 8, intInfo, rfl, by omega⟩
  pos := by omega
  own := ho
  src := ⟨_, _, hs⟩
  h63 := by unfold maxLen; omega
  hb := hb
end Go.Proofs.YtcjcmdikopipjaaDoor
