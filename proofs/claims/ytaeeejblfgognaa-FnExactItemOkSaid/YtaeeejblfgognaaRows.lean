/-
  No cell of these rows narrows 'for every input' (looked for: loops, veiled, ifaces, maps, wideKeys, modest, calm, conditions, laid).
  DERIVED. THE GIVEN ROWS OF THIS SEAT. 6 by the template 'for every input the law returns true; each argument reads behind the call as it read before'; 0 by the template 'total and deterministic' (their statements: YtaeeejblfgognaaTotals.lean).
  GIVEN WITH THE SEED: the statements are not yours to turn. If you find one false, say at which input.
  Laid BY PROGRAM, IN A SANDBOX (cutbox-rows.mjs): the forced cells as the released guide's own fill.sh prints them over the translation 817653f479795621… (all of the seat's roots in one cut). By AI agents, Wed Nov 11 2026. No macro, syntax, notation, axiom, sorry.
-/
import Derived.Test.YtaeeejblfgognaaChecked
import GoSem.Claim
import GoSem.ClaimJoined
import GoSem.ClaimMapViews
import Derived.JoinedTies
import Derived.KernelRfl
namespace Go.Proofs.Ytaeeejblfgognaa
/- THE CELL 'sum', in the pinned program and in every row, IS THE sha256 OF THE DUMP (.gsa) THAT YtaeeejblfgognaaProg.lean LOADS. Nothing in Lean hashes anything: it is a label: what it is worth is what the hold of that sum in a sandbox is worth. -/
noncomputable def Try.pinned : Pinned := { name := "ytaeeejblfgognaa", sum := "817653f479795621a509de2df6d3cb3ccf7727904d26814b87f6428dd15b5fa8", checked := Try.checked }
namespace Rows
def none {H : Type} : Left H := { results := [], args := [] }

/-- 'laws.FnExactConstants': WHATEVER THE INPUT: true; the input reads as it did. -/
def fnExactConstantsSpec : ChangeSpec := { name := "fnExactConstants", fn := fun _ => fun
  | [] => { results := [.lit (.bool true)], args := [] }
  | _ => none }
def fnExactConstantsRow : OpenClaim := { program := "ytaeeejblfgognaa", sum := "817653f479795621a509de2df6d3cb3ccf7727904d26814b87f6428dd15b5fa8", func := "loop.example/g00489/laws.FnExactConstants", spec := "fnExactConstants", apart := false }
def FnExactConstantsSaid : Prop := fnExactConstantsRow.holds Try.pinned (OpenSpec.ofChange fnExactConstantsSpec)

/-- ITS FALSE NEIGHBOUR: 'it returns false'. Refute it at one input. -/
def fnExactConstantsWrong : ChangeSpec := { name := "fnExactConstants", fn := fun _ => fun
  | [] => { results := [.lit (.bool false)], args := [] }
  | _ => none }
def FnExactConstantsWrongFalsely : Prop := fnExactConstantsRow.holds Try.pinned (OpenSpec.ofChange fnExactConstantsWrong)

/-- 'laws.FnExactVolume': WHATEVER THE INPUT: true; the input reads as it did. -/
def fnExactVolumeSpec : ChangeSpec := { name := "fnExactVolume", fn := fun _ => fun
  | [d1, d2, d3] => { results := [.lit (.bool true)], args := [d1, d2, d3] }
  | _ => none }
def fnExactVolumeRow : OpenClaim := { program := "ytaeeejblfgognaa", sum := "817653f479795621a509de2df6d3cb3ccf7727904d26814b87f6428dd15b5fa8", func := "loop.example/g00489/laws.FnExactVolume", spec := "fnExactVolume", apart := false }
def FnExactVolumeSaid : Prop := fnExactVolumeRow.holds Try.pinned (OpenSpec.ofChange fnExactVolumeSpec)

/-- ITS FALSE NEIGHBOUR: 'it returns false'. Refute it at one input. -/
def fnExactVolumeWrong : ChangeSpec := { name := "fnExactVolume", fn := fun _ => fun
  | [d1, d2, d3] => { results := [.lit (.bool false)], args := [d1, d2, d3] }
  | _ => none }
def FnExactVolumeWrongFalsely : Prop := fnExactVolumeRow.holds Try.pinned (OpenSpec.ofChange fnExactVolumeWrong)

/-- 'laws.FnExactClassText': WHATEVER THE INPUT: true; the input reads as it did. -/
def fnExactClassTextSpec : ChangeSpec := { name := "fnExactClassText", fn := fun _ => fun
  | [d] => { results := [.lit (.bool true)], args := [d] }
  | _ => none }
def fnExactClassTextRow : OpenClaim := { program := "ytaeeejblfgognaa", sum := "817653f479795621a509de2df6d3cb3ccf7727904d26814b87f6428dd15b5fa8", func := "loop.example/g00489/laws.FnExactClassText", spec := "fnExactClassText", apart := false }
def FnExactClassTextSaid : Prop := fnExactClassTextRow.holds Try.pinned (OpenSpec.ofChange fnExactClassTextSpec)

/-- ITS FALSE NEIGHBOUR: 'it returns false'. Refute it at one input. -/
def fnExactClassTextWrong : ChangeSpec := { name := "fnExactClassText", fn := fun _ => fun
  | [d] => { results := [.lit (.bool false)], args := [d] }
  | _ => none }
def FnExactClassTextWrongFalsely : Prop := fnExactClassTextRow.holds Try.pinned (OpenSpec.ofChange fnExactClassTextWrong)

/-- 'laws.FnExactPalletOk': WHATEVER THE INPUT: true; the input reads as it did. -/
def fnExactPalletOkSpec : ChangeSpec := { name := "fnExactPalletOk", fn := fun _ => fun
  | [d] => { results := [.lit (.bool true)], args := [d] }
  | _ => none }
def fnExactPalletOkRow : OpenClaim := { program := "ytaeeejblfgognaa", sum := "817653f479795621a509de2df6d3cb3ccf7727904d26814b87f6428dd15b5fa8", func := "loop.example/g00489/laws.FnExactPalletOk", spec := "fnExactPalletOk", apart := false }
def FnExactPalletOkSaid : Prop := fnExactPalletOkRow.holds Try.pinned (OpenSpec.ofChange fnExactPalletOkSpec)

/-- ITS FALSE NEIGHBOUR: 'it returns false'. Refute it at one input. -/
def fnExactPalletOkWrong : ChangeSpec := { name := "fnExactPalletOk", fn := fun _ => fun
  | [d] => { results := [.lit (.bool false)], args := [d] }
  | _ => none }
def FnExactPalletOkWrongFalsely : Prop := fnExactPalletOkRow.holds Try.pinned (OpenSpec.ofChange fnExactPalletOkWrong)

/-- 'laws.FnExactItemOk': WHATEVER THE INPUT: true; the input reads as it did. -/
def fnExactItemOkSpec : ChangeSpec := { name := "fnExactItemOk", fn := fun _ => fun
  | [d] => { results := [.lit (.bool true)], args := [d] }
  | _ => none }
def fnExactItemOkRow : OpenClaim := { program := "ytaeeejblfgognaa", sum := "817653f479795621a509de2df6d3cb3ccf7727904d26814b87f6428dd15b5fa8", func := "loop.example/g00489/laws.FnExactItemOk", spec := "fnExactItemOk", apart := false }
def FnExactItemOkSaid : Prop := fnExactItemOkRow.holds Try.pinned (OpenSpec.ofChange fnExactItemOkSpec)

/-- ITS FALSE NEIGHBOUR: 'it returns false'. Refute it at one input. -/
def fnExactItemOkWrong : ChangeSpec := { name := "fnExactItemOk", fn := fun _ => fun
  | [d] => { results := [.lit (.bool false)], args := [d] }
  | _ => none }
def FnExactItemOkWrongFalsely : Prop := fnExactItemOkRow.holds Try.pinned (OpenSpec.ofChange fnExactItemOkWrong)

/-- 'laws.FnExactTypeOk': WHATEVER THE INPUT: true; the input reads as it did. -/
def fnExactTypeOkSpec : ChangeSpec := { name := "fnExactTypeOk", fn := fun _ => fun
  | [d] => { results := [.lit (.bool true)], args := [d] }
  | _ => none }
def fnExactTypeOkRow : OpenClaim := { program := "ytaeeejblfgognaa", sum := "817653f479795621a509de2df6d3cb3ccf7727904d26814b87f6428dd15b5fa8", func := "loop.example/g00489/laws.FnExactTypeOk", spec := "fnExactTypeOk", apart := false }
def FnExactTypeOkSaid : Prop := fnExactTypeOkRow.holds Try.pinned (OpenSpec.ofChange fnExactTypeOkSpec)

/-- ITS FALSE NEIGHBOUR: 'it returns false'. Refute it at one input. -/
def fnExactTypeOkWrong : ChangeSpec := { name := "fnExactTypeOk", fn := fun _ => fun
  | [d] => { results := [.lit (.bool false)], args := [d] }
  | _ => none }
def FnExactTypeOkWrongFalsely : Prop := fnExactTypeOkRow.holds Try.pinned (OpenSpec.ofChange fnExactTypeOkWrong)

/- THE SECOND FORM. 'bulk': how many values and letters a reading holds, each counted each time it is reached (what is shared counts as often as it is met; a slice's spare places count too). A statement '..UptoSaid' is the law's where the arguments, and the package variables that the reading takes, are together of bulk at most 1048576: NARROWER than '..Said'. Prove '..Said' where nothing that the law and all that it calls make is longer than what came in: it says more and counts as full. Else prove '..UptoSaid'. A law counts once. -/
mutual
def uptoBulk {H : Type} : DataW H → Nat
  | .lit (.string bytes) => bytes.length + 1
  | .lit _ => 1
  | .nil => 1
  | .ptr d => uptoBulk d + 1
  | .slice elems spare => uptoBulkAll elems + uptoBulkAll spare + 1
  | .agg parts => uptoBulkAll parts + 1
  | .iface _ d => uptoBulk d + 1
  | .map entries => uptoBulkEntries entries + 1
  | .held _ => 1
def uptoBulkAll {H : Type} : List (DataW H) → Nat
  | [] => 0
  | d :: r => uptoBulk d + uptoBulkAll r
def uptoBulkEntries {H : Type} : List (Lit × DataW H) → Nat
  | [] => 0
  | x :: r => uptoBulkEntry x + uptoBulkEntries r
def uptoBulkEntry {H : Type} : Lit × DataW H → Nat
  | (.string bytes, d) => bytes.length + uptoBulk d + 1
  | (_, d) => uptoBulk d + 1
 end
def uptoSmall : (H : Type) → List (DataW H) → Bool := fun _ ds => decide (uptoBulkAll ds ≤ 1048576)
def OpenSpec.upto (s : _root_.Go.ChangeSpec) : _root_.Go.OpenSpec := { _root_.Go.OpenSpec.ofChange s with cond := some uptoSmall }

/-- 'laws.FnExactConstants', WHERE WHAT IT READS IS OF BULK AT MOST 1048576: true; the input reads as it did. -/
def fnExactConstantsUptoRow : OpenClaim := { program := "ytaeeejblfgognaa", sum := "817653f479795621a509de2df6d3cb3ccf7727904d26814b87f6428dd15b5fa8", func := "loop.example/g00489/laws.FnExactConstants", spec := "fnExactConstants", apart := false, narrowed := true }
def FnExactConstantsUptoSaid : Prop := fnExactConstantsUptoRow.holds Try.pinned (OpenSpec.upto fnExactConstantsSpec)

/-- 'laws.FnExactVolume', WHERE WHAT IT READS IS OF BULK AT MOST 1048576: true; the input reads as it did. -/
def fnExactVolumeUptoRow : OpenClaim := { program := "ytaeeejblfgognaa", sum := "817653f479795621a509de2df6d3cb3ccf7727904d26814b87f6428dd15b5fa8", func := "loop.example/g00489/laws.FnExactVolume", spec := "fnExactVolume", apart := false, narrowed := true }
def FnExactVolumeUptoSaid : Prop := fnExactVolumeUptoRow.holds Try.pinned (OpenSpec.upto fnExactVolumeSpec)

/-- 'laws.FnExactClassText', WHERE WHAT IT READS IS OF BULK AT MOST 1048576: true; the input reads as it did. -/
def fnExactClassTextUptoRow : OpenClaim := { program := "ytaeeejblfgognaa", sum := "817653f479795621a509de2df6d3cb3ccf7727904d26814b87f6428dd15b5fa8", func := "loop.example/g00489/laws.FnExactClassText", spec := "fnExactClassText", apart := false, narrowed := true }
def FnExactClassTextUptoSaid : Prop := fnExactClassTextUptoRow.holds Try.pinned (OpenSpec.upto fnExactClassTextSpec)

/-- 'laws.FnExactPalletOk', WHERE WHAT IT READS IS OF BULK AT MOST 1048576: true; the input reads as it did. -/
def fnExactPalletOkUptoRow : OpenClaim := { program := "ytaeeejblfgognaa", sum := "817653f479795621a509de2df6d3cb3ccf7727904d26814b87f6428dd15b5fa8", func := "loop.example/g00489/laws.FnExactPalletOk", spec := "fnExactPalletOk", apart := false, narrowed := true }
def FnExactPalletOkUptoSaid : Prop := fnExactPalletOkUptoRow.holds Try.pinned (OpenSpec.upto fnExactPalletOkSpec)

/-- 'laws.FnExactItemOk', WHERE WHAT IT READS IS OF BULK AT MOST 1048576: true; the input reads as it did. -/
def fnExactItemOkUptoRow : OpenClaim := { program := "ytaeeejblfgognaa", sum := "817653f479795621a509de2df6d3cb3ccf7727904d26814b87f6428dd15b5fa8", func := "loop.example/g00489/laws.FnExactItemOk", spec := "fnExactItemOk", apart := false, narrowed := true }
def FnExactItemOkUptoSaid : Prop := fnExactItemOkUptoRow.holds Try.pinned (OpenSpec.upto fnExactItemOkSpec)

/-- 'laws.FnExactTypeOk', WHERE WHAT IT READS IS OF BULK AT MOST 1048576: true; the input reads as it did. -/
def fnExactTypeOkUptoRow : OpenClaim := { program := "ytaeeejblfgognaa", sum := "817653f479795621a509de2df6d3cb3ccf7727904d26814b87f6428dd15b5fa8", func := "loop.example/g00489/laws.FnExactTypeOk", spec := "fnExactTypeOk", apart := false, narrowed := true }
def FnExactTypeOkUptoSaid : Prop := fnExactTypeOkUptoRow.holds Try.pinned (OpenSpec.upto fnExactTypeOkSpec)

end Rows
end Go.Proofs.Ytaeeejblfgognaa
