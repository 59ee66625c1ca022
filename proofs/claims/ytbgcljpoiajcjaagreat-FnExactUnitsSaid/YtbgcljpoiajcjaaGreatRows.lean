/-
  No cell of these rows narrows 'for every input' (looked for: loops, veiled, ifaces, maps, wideKeys, modest, calm, conditions, laid).
  DERIVED. THE GIVEN ROWS OF THIS SEAT. 7 by the template 'for every input the law returns true; each argument reads behind the call as it read before'; 0 by the template 'total and deterministic' (their statements: YtbgcljpoiajcjaaGreatTotals.lean).
  GIVEN WITH THE SEED: the statements are not yours to turn. If you find one false, say at which input.
  Laid BY PROGRAM, IN A SANDBOX (cutbox-rows.mjs): the forced cells as the released guide's own fill.sh prints them over the translation 4e4660050bbd6cae… (all of the seat's roots in one cut). By AI agents, Wed Nov 11 2026. No macro, syntax, notation, axiom, sorry.
-/
import Derived.Test.YtbgcljpoiajcjaaGreatChecked
import GoSem.Claim
import GoSem.ClaimJoined
import GoSem.ClaimMapViews
import Derived.JoinedTies
import Derived.KernelRfl
namespace Go.Proofs.YtbgcljpoiajcjaaGreat
/- THE CELL 'sum', in the pinned program and in every row, IS THE sha256 OF THE DUMP (.gsa) THAT YtbgcljpoiajcjaaGreatProg.lean LOADS. Nothing in Lean hashes anything: it is a label: what it is worth is what the hold of that sum in a sandbox is worth. -/
noncomputable def Tryz.pinned : Pinned := { name := "ytbgcljpoiajcjaagreat", sum := "4e4660050bbd6cae231377d2bee48e3a111d5bac9af450a662fd8e9a0fbff0b6", checked := Tryz.checked }
namespace Rows
def none {H : Type} : Left H := { results := [], args := [] }

/-- 'laws.FnCheapest': WHATEVER THE INPUT: true; the input reads as it did. -/
def fnCheapestSpec : ChangeSpec := { name := "fnCheapest", fn := fun _ => fun
  | [d] => { results := [.lit (.bool true)], args := [d] }
  | _ => none }
def fnCheapestRow : OpenClaim := { program := "ytbgcljpoiajcjaagreat", sum := "4e4660050bbd6cae231377d2bee48e3a111d5bac9af450a662fd8e9a0fbff0b6", func := "loop.example/g00489/laws.FnCheapest", spec := "fnCheapest", unfollowed := true, recurses := true, apart := false }
def FnCheapestSaid : Prop := fnCheapestRow.holds Tryz.pinned (OpenSpec.ofChange fnCheapestSpec)

/-- ITS FALSE NEIGHBOUR: 'it returns false'. Refute it at one input. -/
def fnCheapestWrong : ChangeSpec := { name := "fnCheapest", fn := fun _ => fun
  | [d] => { results := [.lit (.bool false)], args := [d] }
  | _ => none }
def FnCheapestWrongFalsely : Prop := fnCheapestRow.holds Tryz.pinned (OpenSpec.ofChange fnCheapestWrong)

/-- 'laws.FnExactHolds': WHATEVER THE INPUT: true; the input reads as it did. -/
def fnExactHoldsSpec : ChangeSpec := { name := "fnExactHolds", fn := fun _ => fun
  | [d1, d2, d3] => { results := [.lit (.bool true)], args := [d1, d2, d3] }
  | _ => none }
def fnExactHoldsRow : OpenClaim := { program := "ytbgcljpoiajcjaagreat", sum := "4e4660050bbd6cae231377d2bee48e3a111d5bac9af450a662fd8e9a0fbff0b6", func := "loop.example/g00489/laws.FnExactHolds", spec := "fnExactHolds", unfollowed := true, recurses := true, apart := false }
def FnExactHoldsSaid : Prop := fnExactHoldsRow.holds Tryz.pinned (OpenSpec.ofChange fnExactHoldsSpec)

/-- ITS FALSE NEIGHBOUR: 'it returns false'. Refute it at one input. -/
def fnExactHoldsWrong : ChangeSpec := { name := "fnExactHolds", fn := fun _ => fun
  | [d1, d2, d3] => { results := [.lit (.bool false)], args := [d1, d2, d3] }
  | _ => none }
def FnExactHoldsWrongFalsely : Prop := fnExactHoldsRow.holds Tryz.pinned (OpenSpec.ofChange fnExactHoldsWrong)

/-- 'laws.FnExactCheapest': WHATEVER THE INPUT: true; the input reads as it did. -/
def fnExactCheapestSpec : ChangeSpec := { name := "fnExactCheapest", fn := fun _ => fun
  | [d1, d2] => { results := [.lit (.bool true)], args := [d1, d2] }
  | _ => none }
def fnExactCheapestRow : OpenClaim := { program := "ytbgcljpoiajcjaagreat", sum := "4e4660050bbd6cae231377d2bee48e3a111d5bac9af450a662fd8e9a0fbff0b6", func := "loop.example/g00489/laws.FnExactCheapest", spec := "fnExactCheapest", unfollowed := true, recurses := true, apart := false }
def FnExactCheapestSaid : Prop := fnExactCheapestRow.holds Tryz.pinned (OpenSpec.ofChange fnExactCheapestSpec)

/-- ITS FALSE NEIGHBOUR: 'it returns false'. Refute it at one input. -/
def fnExactCheapestWrong : ChangeSpec := { name := "fnExactCheapest", fn := fun _ => fun
  | [d1, d2] => { results := [.lit (.bool false)], args := [d1, d2] }
  | _ => none }
def FnExactCheapestWrongFalsely : Prop := fnExactCheapestRow.holds Tryz.pinned (OpenSpec.ofChange fnExactCheapestWrong)

/-- 'laws.FnExactUnits': WHATEVER THE INPUT: true; the input reads as it did. -/
def fnExactUnitsSpec : ChangeSpec := { name := "fnExactUnits", fn := fun _ => fun
  | [d] => { results := [.lit (.bool true)], args := [d] }
  | _ => none }
def fnExactUnitsRow : OpenClaim := { program := "ytbgcljpoiajcjaagreat", sum := "4e4660050bbd6cae231377d2bee48e3a111d5bac9af450a662fd8e9a0fbff0b6", func := "loop.example/g00489/laws.FnExactUnits", spec := "fnExactUnits", unfollowed := true, recurses := true, apart := false }
def FnExactUnitsSaid : Prop := fnExactUnitsRow.holds Tryz.pinned (OpenSpec.ofChange fnExactUnitsSpec)

/-- ITS FALSE NEIGHBOUR: 'it returns false'. Refute it at one input. -/
def fnExactUnitsWrong : ChangeSpec := { name := "fnExactUnits", fn := fun _ => fun
  | [d] => { results := [.lit (.bool false)], args := [d] }
  | _ => none }
def FnExactUnitsWrongFalsely : Prop := fnExactUnitsRow.holds Tryz.pinned (OpenSpec.ofChange fnExactUnitsWrong)

/-- 'laws.FnExactVolumeOf': WHATEVER THE INPUT: true; the input reads as it did. -/
def fnExactVolumeOfSpec : ChangeSpec := { name := "fnExactVolumeOf", fn := fun _ => fun
  | [d1, d2] => { results := [.lit (.bool true)], args := [d1, d2] }
  | _ => none }
def fnExactVolumeOfRow : OpenClaim := { program := "ytbgcljpoiajcjaagreat", sum := "4e4660050bbd6cae231377d2bee48e3a111d5bac9af450a662fd8e9a0fbff0b6", func := "loop.example/g00489/laws.FnExactVolumeOf", spec := "fnExactVolumeOf", unfollowed := true, recurses := true, apart := false }
def FnExactVolumeOfSaid : Prop := fnExactVolumeOfRow.holds Tryz.pinned (OpenSpec.ofChange fnExactVolumeOfSpec)

/-- ITS FALSE NEIGHBOUR: 'it returns false'. Refute it at one input. -/
def fnExactVolumeOfWrong : ChangeSpec := { name := "fnExactVolumeOf", fn := fun _ => fun
  | [d1, d2] => { results := [.lit (.bool false)], args := [d1, d2] }
  | _ => none }
def FnExactVolumeOfWrongFalsely : Prop := fnExactVolumeOfRow.holds Tryz.pinned (OpenSpec.ofChange fnExactVolumeOfWrong)

/-- 'laws.FnExactGramOf': WHATEVER THE INPUT: true; the input reads as it did. -/
def fnExactGramOfSpec : ChangeSpec := { name := "fnExactGramOf", fn := fun _ => fun
  | [d1, d2] => { results := [.lit (.bool true)], args := [d1, d2] }
  | _ => none }
def fnExactGramOfRow : OpenClaim := { program := "ytbgcljpoiajcjaagreat", sum := "4e4660050bbd6cae231377d2bee48e3a111d5bac9af450a662fd8e9a0fbff0b6", func := "loop.example/g00489/laws.FnExactGramOf", spec := "fnExactGramOf", unfollowed := true, recurses := true, apart := false }
def FnExactGramOfSaid : Prop := fnExactGramOfRow.holds Tryz.pinned (OpenSpec.ofChange fnExactGramOfSpec)

/-- ITS FALSE NEIGHBOUR: 'it returns false'. Refute it at one input. -/
def fnExactGramOfWrong : ChangeSpec := { name := "fnExactGramOf", fn := fun _ => fun
  | [d1, d2] => { results := [.lit (.bool false)], args := [d1, d2] }
  | _ => none }
def FnExactGramOfWrongFalsely : Prop := fnExactGramOfRow.holds Tryz.pinned (OpenSpec.ofChange fnExactGramOfWrong)

/-- 'laws.FnExactRoom': WHATEVER THE INPUT: true; the input reads as it did. -/
def fnExactRoomSpec : ChangeSpec := { name := "fnExactRoom", fn := fun _ => fun
  | [d1, d2, d3] => { results := [.lit (.bool true)], args := [d1, d2, d3] }
  | _ => none }
def fnExactRoomRow : OpenClaim := { program := "ytbgcljpoiajcjaagreat", sum := "4e4660050bbd6cae231377d2bee48e3a111d5bac9af450a662fd8e9a0fbff0b6", func := "loop.example/g00489/laws.FnExactRoom", spec := "fnExactRoom", unfollowed := true, recurses := true, apart := false }
def FnExactRoomSaid : Prop := fnExactRoomRow.holds Tryz.pinned (OpenSpec.ofChange fnExactRoomSpec)

/-- ITS FALSE NEIGHBOUR: 'it returns false'. Refute it at one input. -/
def fnExactRoomWrong : ChangeSpec := { name := "fnExactRoom", fn := fun _ => fun
  | [d1, d2, d3] => { results := [.lit (.bool false)], args := [d1, d2, d3] }
  | _ => none }
def FnExactRoomWrongFalsely : Prop := fnExactRoomRow.holds Tryz.pinned (OpenSpec.ofChange fnExactRoomWrong)

/- THE SECOND FORM. 'bulk': how many values and letters a reading holds, each counted each time it is reached (what is shared counts as often as it is met; a slice's spare places count too). A statement '..UptoSaid' is the law's where the arguments, and the package variables that the reading takes, are together of bulk at most 1048576: NARROWER than '..Said'. Prove '..Said' where nothing that the law and all that it calls make is longer than what came in: it says more and counts as full. Else prove '..UptoSaid'. A law counts once. -/
mutual
def uptoBulk {H : Type} : DataW H → Nat
  | .lit (.string bytes) => bytes.length + 1
  | .lit _ => 1
  | .nil => 1
  | .ptr d => uptoBulk d + 1
  | .slice elems spare => uptoBulkAll elems + uptoBulkAll spare + 1
  | .agg parts => uptoBulkAll parts + 1
  | .iface _ d => uptoBulk d + 1
  | .map entries => uptoBulkEntries entries + 1
  | .held _ => 1
def uptoBulkAll {H : Type} : List (DataW H) → Nat
  | [] => 0
  | d :: r => uptoBulk d + uptoBulkAll r
def uptoBulkEntries {H : Type} : List (Lit × DataW H) → Nat
  | [] => 0
  | x :: r => uptoBulkEntry x + uptoBulkEntries r
def uptoBulkEntry {H : Type} : Lit × DataW H → Nat
  | (.string bytes, d) => bytes.length + uptoBulk d + 1
  | (_, d) => uptoBulk d + 1
 end
def uptoSmall : (H : Type) → List (DataW H) → Bool := fun _ ds => decide (uptoBulkAll ds ≤ 1048576)
def OpenSpec.upto (s : _root_.Go.ChangeSpec) : _root_.Go.OpenSpec := { _root_.Go.OpenSpec.ofChange s with cond := some uptoSmall }

/-- 'laws.FnCheapest', WHERE WHAT IT READS IS OF BULK AT MOST 1048576: true; the input reads as it did. -/
def fnCheapestUptoRow : OpenClaim := { program := "ytbgcljpoiajcjaagreat", sum := "4e4660050bbd6cae231377d2bee48e3a111d5bac9af450a662fd8e9a0fbff0b6", func := "loop.example/g00489/laws.FnCheapest", spec := "fnCheapest", unfollowed := true, recurses := true, apart := false, narrowed := true }
def FnCheapestUptoSaid : Prop := fnCheapestUptoRow.holds Tryz.pinned (OpenSpec.upto fnCheapestSpec)

/-- 'laws.FnExactHolds', WHERE WHAT IT READS IS OF BULK AT MOST 1048576: true; the input reads as it did. -/
def fnExactHoldsUptoRow : OpenClaim := { program := "ytbgcljpoiajcjaagreat", sum := "4e4660050bbd6cae231377d2bee48e3a111d5bac9af450a662fd8e9a0fbff0b6", func := "loop.example/g00489/laws.FnExactHolds", spec := "fnExactHolds", unfollowed := true, recurses := true, apart := false, narrowed := true }
def FnExactHoldsUptoSaid : Prop := fnExactHoldsUptoRow.holds Tryz.pinned (OpenSpec.upto fnExactHoldsSpec)

/-- 'laws.FnExactCheapest', WHERE WHAT IT READS IS OF BULK AT MOST 1048576: true; the input reads as it did. -/
def fnExactCheapestUptoRow : OpenClaim := { program := "ytbgcljpoiajcjaagreat", sum := "4e4660050bbd6cae231377d2bee48e3a111d5bac9af450a662fd8e9a0fbff0b6", func := "loop.example/g00489/laws.FnExactCheapest", spec := "fnExactCheapest", unfollowed := true, recurses := true, apart := false, narrowed := true }
def FnExactCheapestUptoSaid : Prop := fnExactCheapestUptoRow.holds Tryz.pinned (OpenSpec.upto fnExactCheapestSpec)

/-- 'laws.FnExactUnits', WHERE WHAT IT READS IS OF BULK AT MOST 1048576: true; the input reads as it did. -/
def fnExactUnitsUptoRow : OpenClaim := { program := "ytbgcljpoiajcjaagreat", sum := "4e4660050bbd6cae231377d2bee48e3a111d5bac9af450a662fd8e9a0fbff0b6", func := "loop.example/g00489/laws.FnExactUnits", spec := "fnExactUnits", unfollowed := true, recurses := true, apart := false, narrowed := true }
def FnExactUnitsUptoSaid : Prop := fnExactUnitsUptoRow.holds Tryz.pinned (OpenSpec.upto fnExactUnitsSpec)

/-- 'laws.FnExactVolumeOf', WHERE WHAT IT READS IS OF BULK AT MOST 1048576: true; the input reads as it did. -/
def fnExactVolumeOfUptoRow : OpenClaim := { program := "ytbgcljpoiajcjaagreat", sum := "4e4660050bbd6cae231377d2bee48e3a111d5bac9af450a662fd8e9a0fbff0b6", func := "loop.example/g00489/laws.FnExactVolumeOf", spec := "fnExactVolumeOf", unfollowed := true, recurses := true, apart := false, narrowed := true }
def FnExactVolumeOfUptoSaid : Prop := fnExactVolumeOfUptoRow.holds Tryz.pinned (OpenSpec.upto fnExactVolumeOfSpec)

/-- 'laws.FnExactGramOf', WHERE WHAT IT READS IS OF BULK AT MOST 1048576: true; the input reads as it did. -/
def fnExactGramOfUptoRow : OpenClaim := { program := "ytbgcljpoiajcjaagreat", sum := "4e4660050bbd6cae231377d2bee48e3a111d5bac9af450a662fd8e9a0fbff0b6", func := "loop.example/g00489/laws.FnExactGramOf", spec := "fnExactGramOf", unfollowed := true, recurses := true, apart := false, narrowed := true }
def FnExactGramOfUptoSaid : Prop := fnExactGramOfUptoRow.holds Tryz.pinned (OpenSpec.upto fnExactGramOfSpec)

/-- 'laws.FnExactRoom', WHERE WHAT IT READS IS OF BULK AT MOST 1048576: true; the input reads as it did. -/
def fnExactRoomUptoRow : OpenClaim := { program := "ytbgcljpoiajcjaagreat", sum := "4e4660050bbd6cae231377d2bee48e3a111d5bac9af450a662fd8e9a0fbff0b6", func := "loop.example/g00489/laws.FnExactRoom", spec := "fnExactRoom", unfollowed := true, recurses := true, apart := false, narrowed := true }
def FnExactRoomUptoSaid : Prop := fnExactRoomUptoRow.holds Tryz.pinned (OpenSpec.upto fnExactRoomSpec)

end Rows
end Go.Proofs.YtbgcljpoiajcjaaGreat
