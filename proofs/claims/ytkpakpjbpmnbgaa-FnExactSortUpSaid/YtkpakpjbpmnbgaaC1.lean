/- The contracts of the smallest functions: in, isSide, Volume, ItemOk, TypeOk, PalletOk, ClassText and the laws' copies. -/
import Derived.Test.YtkpakpjbpmnbgaaRows
import Derived.Test.YtkpakpjbpmnbgaaBase
namespace Go.Proofs.Ytkpakpjbpmnbgaa
open Go.ChangeShapes Go.WideShapes Go.ChangeAt Go.RowKit
set_option linter.unusedVariables false

/-- The bytes of the texts of chapter 5. -/
def clText (k : Int) : ByteArray := if k = 0 then ⟨#[111, 107]⟩ else if k = 1 then ⟨#[116, 101, 120, 116]⟩ else if k = 2 then ⟨#[98, 111, 117, 110, 100, 115]⟩ else if k = 3 then ⟨#[110, 97, 109, 101, 115]⟩ else if k = 4 then ⟨#[116, 97, 98, 108, 101]⟩ else if k = 5 then ⟨#[117, 110, 105, 116]⟩ else if k = 6 then ⟨#[112, 97, 108, 108, 101, 116]⟩ else ⟨#[]⟩
theorem seven {k : Int} (h : inB k 0 6 = true) : k = 0 ∨ k = 1 ∨ k = 2 ∨ k = 3 ∨ k = 4 ∨ k = 5 ∨ k = 6 := by
  rw [inB_iff] at h
  omega
end Go.Proofs.Ytkpakpjbpmnbgaa
