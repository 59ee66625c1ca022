/-
  No cell of these rows narrows 'for every input' (looked for: loops, veiled, ifaces, maps, wideKeys, modest, calm, conditions, laid).
  DERIVED. THE GIVEN ROWS OF THIS SEAT. 4 by the template 'for every input the law returns true; each argument reads behind the call as it read before'; 0 by the template 'total and deterministic' (their statements: YtbbcmldhdebolaaGreatTotals.lean).
  GIVEN WITH THE SEED: the statements are not yours to turn. If you find one false, say at which input.
  Laid BY PROGRAM, IN A SANDBOX (cutbox-rows.mjs): the forced cells as the released guide's own fill.sh prints them over the translation 7dcc9cb88dc28ab5… (all of the seat's roots in one cut). By AI agents, Wed Nov 11 2026. No macro, syntax, notation, axiom, sorry.
-/
import Derived.Test.YtbbcmldhdebolaaGreatChecked
import GoSem.Claim
import GoSem.ClaimJoined
import GoSem.ClaimMapViews
import Derived.JoinedTies
import Derived.KernelRfl
namespace Go.Proofs.YtbbcmldhdebolaaGreat
/- THE CELL 'sum', in the pinned program and in every row, IS THE sha256 OF THE DUMP (.gsa) THAT YtbbcmldhdebolaaGreatProg.lean LOADS. Nothing in Lean hashes anything: it is a label: what it is worth is what the hold of that sum in a sandbox is worth. -/
noncomputable def Tryz.pinned : Pinned := { name := "ytbbcmldhdebolaagreat", sum := "7dcc9cb88dc28ab569291f8d3ba91c14e76a760c06083cc2f5cefa6000f24515", checked := Tryz.checked }
namespace Rows
def none {H : Type} : Left H := { results := [], args := [] }

/-- 'laws.FnExactLowerGram': WHATEVER THE INPUT: true; the input reads as it did. -/
def fnExactLowerGramSpec : ChangeSpec := { name := "fnExactLowerGram", fn := fun _ => fun
  | [d1, d2] => { results := [.lit (.bool true)], args := [d1, d2] }
  | _ => none }
def fnExactLowerGramRow : OpenClaim := { program := "ytbbcmldhdebolaagreat", sum := "7dcc9cb88dc28ab569291f8d3ba91c14e76a760c06083cc2f5cefa6000f24515", func := "loop.example/g00489/laws.FnExactLowerGram", spec := "fnExactLowerGram", unfollowed := true, recurses := true, apart := false }
def FnExactLowerGramSaid : Prop := fnExactLowerGramRow.holds Tryz.pinned (OpenSpec.ofChange fnExactLowerGramSpec)

/-- ITS FALSE NEIGHBOUR: 'it returns false'. Refute it at one input. -/
def fnExactLowerGramWrong : ChangeSpec := { name := "fnExactLowerGram", fn := fun _ => fun
  | [d1, d2] => { results := [.lit (.bool false)], args := [d1, d2] }
  | _ => none }
def FnExactLowerGramWrongFalsely : Prop := fnExactLowerGramRow.holds Tryz.pinned (OpenSpec.ofChange fnExactLowerGramWrong)

/-- 'laws.FnExactLowerVolume': WHATEVER THE INPUT: true; the input reads as it did. -/
def fnExactLowerVolumeSpec : ChangeSpec := { name := "fnExactLowerVolume", fn := fun _ => fun
  | [d1, d2] => { results := [.lit (.bool true)], args := [d1, d2] }
  | _ => none }
def fnExactLowerVolumeRow : OpenClaim := { program := "ytbbcmldhdebolaagreat", sum := "7dcc9cb88dc28ab569291f8d3ba91c14e76a760c06083cc2f5cefa6000f24515", func := "loop.example/g00489/laws.FnExactLowerVolume", spec := "fnExactLowerVolume", unfollowed := true, recurses := true, apart := false }
def FnExactLowerVolumeSaid : Prop := fnExactLowerVolumeRow.holds Tryz.pinned (OpenSpec.ofChange fnExactLowerVolumeSpec)

/-- ITS FALSE NEIGHBOUR: 'it returns false'. Refute it at one input. -/
def fnExactLowerVolumeWrong : ChangeSpec := { name := "fnExactLowerVolume", fn := fun _ => fun
  | [d1, d2] => { results := [.lit (.bool false)], args := [d1, d2] }
  | _ => none }
def FnExactLowerVolumeWrongFalsely : Prop := fnExactLowerVolumeRow.holds Tryz.pinned (OpenSpec.ofChange fnExactLowerVolumeWrong)

/-- 'laws.FnExactLowerGreat': WHATEVER THE INPUT: true; the input reads as it did. -/
def fnExactLowerGreatSpec : ChangeSpec := { name := "fnExactLowerGreat", fn := fun _ => fun
  | [d1, d2] => { results := [.lit (.bool true)], args := [d1, d2] }
  | _ => none }
def fnExactLowerGreatRow : OpenClaim := { program := "ytbbcmldhdebolaagreat", sum := "7dcc9cb88dc28ab569291f8d3ba91c14e76a760c06083cc2f5cefa6000f24515", func := "loop.example/g00489/laws.FnExactLowerGreat", spec := "fnExactLowerGreat", unfollowed := true, recurses := true, apart := false }
def FnExactLowerGreatSaid : Prop := fnExactLowerGreatRow.holds Tryz.pinned (OpenSpec.ofChange fnExactLowerGreatSpec)

/-- ITS FALSE NEIGHBOUR: 'it returns false'. Refute it at one input. -/
def fnExactLowerGreatWrong : ChangeSpec := { name := "fnExactLowerGreat", fn := fun _ => fun
  | [d1, d2] => { results := [.lit (.bool false)], args := [d1, d2] }
  | _ => none }
def FnExactLowerGreatWrongFalsely : Prop := fnExactLowerGreatRow.holds Tryz.pinned (OpenSpec.ofChange fnExactLowerGreatWrong)

/-- 'laws.FnExactGross': WHATEVER THE INPUT: true; the input reads as it did. -/
def fnExactGrossSpec : ChangeSpec := { name := "fnExactGross", fn := fun _ => fun
  | [d1, d2] => { results := [.lit (.bool true)], args := [d1, d2] }
  | _ => none }
def fnExactGrossRow : OpenClaim := { program := "ytbbcmldhdebolaagreat", sum := "7dcc9cb88dc28ab569291f8d3ba91c14e76a760c06083cc2f5cefa6000f24515", func := "loop.example/g00489/laws.FnExactGross", spec := "fnExactGross", unfollowed := true, recurses := true, apart := false }
def FnExactGrossSaid : Prop := fnExactGrossRow.holds Tryz.pinned (OpenSpec.ofChange fnExactGrossSpec)

/-- ITS FALSE NEIGHBOUR: 'it returns false'. Refute it at one input. -/
def fnExactGrossWrong : ChangeSpec := { name := "fnExactGross", fn := fun _ => fun
  | [d1, d2] => { results := [.lit (.bool false)], args := [d1, d2] }
  | _ => none }
def FnExactGrossWrongFalsely : Prop := fnExactGrossRow.holds Tryz.pinned (OpenSpec.ofChange fnExactGrossWrong)

/- THE SECOND FORM. 'bulk': how many values and letters a reading holds, each counted each time it is reached (what is shared counts as often as it is met; a slice's spare places count too). A statement '..UptoSaid' is the law's where the arguments, and the package variables that the reading takes, are together of bulk at most 1048576: NARROWER than '..Said'. Prove '..Said' where nothing that the law and all that it calls make is longer than what came in: it says more and counts as full. Else prove '..UptoSaid'. A law counts once. -/
mutual
def uptoBulk {H : Type} : DataW H → Nat
  | .lit (.string bytes) => bytes.length + 1
  | .lit _ => 1
  | .nil => 1
  | .ptr d => uptoBulk d + 1
  | .slice elems spare => uptoBulkAll elems + uptoBulkAll spare + 1
  | .agg parts => uptoBulkAll parts + 1
  | .iface _ d => uptoBulk d + 1
  | .map entries => uptoBulkEntries entries + 1
  | .held _ => 1
def uptoBulkAll {H : Type} : List (DataW H) → Nat
  | [] => 0
  | d :: r => uptoBulk d + uptoBulkAll r
def uptoBulkEntries {H : Type} : List (Lit × DataW H) → Nat
  | [] => 0
  | x :: r => uptoBulkEntry x + uptoBulkEntries r
def uptoBulkEntry {H : Type} : Lit × DataW H → Nat
  | (.string bytes, d) => bytes.length + uptoBulk d + 1
  | (_, d) => uptoBulk d + 1
 end
def uptoSmall : (H : Type) → List (DataW H) → Bool := fun _ ds => decide (uptoBulkAll ds ≤ 1048576)
def OpenSpec.upto (s : _root_.Go.ChangeSpec) : _root_.Go.OpenSpec := { _root_.Go.OpenSpec.ofChange s with cond := some uptoSmall }

/-- 'laws.FnExactLowerGram', WHERE WHAT IT READS IS OF BULK AT MOST 1048576: true; the input reads as it did. -/
def fnExactLowerGramUptoRow : OpenClaim := { program := "ytbbcmldhdebolaagreat", sum := "7dcc9cb88dc28ab569291f8d3ba91c14e76a760c06083cc2f5cefa6000f24515", func := "loop.example/g00489/laws.FnExactLowerGram", spec := "fnExactLowerGram", unfollowed := true, recurses := true, apart := false, narrowed := true }
def FnExactLowerGramUptoSaid : Prop := fnExactLowerGramUptoRow.holds Tryz.pinned (OpenSpec.upto fnExactLowerGramSpec)

/-- 'laws.FnExactLowerVolume', WHERE WHAT IT READS IS OF BULK AT MOST 1048576: true; the input reads as it did. -/
def fnExactLowerVolumeUptoRow : OpenClaim := { program := "ytbbcmldhdebolaagreat", sum := "7dcc9cb88dc28ab569291f8d3ba91c14e76a760c06083cc2f5cefa6000f24515", func := "loop.example/g00489/laws.FnExactLowerVolume", spec := "fnExactLowerVolume", unfollowed := true, recurses := true, apart := false, narrowed := true }
def FnExactLowerVolumeUptoSaid : Prop := fnExactLowerVolumeUptoRow.holds Tryz.pinned (OpenSpec.upto fnExactLowerVolumeSpec)

/-- 'laws.FnExactLowerGreat', WHERE WHAT IT READS IS OF BULK AT MOST 1048576: true; the input reads as it did. -/
def fnExactLowerGreatUptoRow : OpenClaim := { program := "ytbbcmldhdebolaagreat", sum := "7dcc9cb88dc28ab569291f8d3ba91c14e76a760c06083cc2f5cefa6000f24515", func := "loop.example/g00489/laws.FnExactLowerGreat", spec := "fnExactLowerGreat", unfollowed := true, recurses := true, apart := false, narrowed := true }
def FnExactLowerGreatUptoSaid : Prop := fnExactLowerGreatUptoRow.holds Tryz.pinned (OpenSpec.upto fnExactLowerGreatSpec)

/-- 'laws.FnExactGross', WHERE WHAT IT READS IS OF BULK AT MOST 1048576: true; the input reads as it did. -/
def fnExactGrossUptoRow : OpenClaim := { program := "ytbbcmldhdebolaagreat", sum := "7dcc9cb88dc28ab569291f8d3ba91c14e76a760c06083cc2f5cefa6000f24515", func := "loop.example/g00489/laws.FnExactGross", spec := "fnExactGross", unfollowed := true, recurses := true, apart := false, narrowed := true }
def FnExactGrossUptoSaid : Prop := fnExactGrossUptoRow.holds Tryz.pinned (OpenSpec.upto fnExactGrossSpec)

end Rows
end Go.Proofs.YtbbcmldhdebolaaGreat
