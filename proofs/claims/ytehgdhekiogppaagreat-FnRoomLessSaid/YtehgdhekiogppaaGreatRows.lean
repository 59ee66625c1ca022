/-
  No cell of these rows narrows 'for every input' (looked for: loops, veiled, ifaces, maps, wideKeys, modest, calm, conditions, laid).
  DERIVED. THE GIVEN ROWS OF THIS SEAT. 5 by the template 'for every input the law returns true; each argument reads behind the call as it read before'; 0 by the template 'total and deterministic' (their statements: YtehgdhekiogppaaGreatTotals.lean).
  GIVEN WITH THE SEED: the statements are not yours to turn. If you find one false, say at which input.
  Laid BY PROGRAM, IN A SANDBOX (cutbox-rows.mjs): the forced cells as the released guide's own fill.sh prints them over the translation d7003c58c7602d75… (all of the seat's roots in one cut). By AI agents, Wed Nov 11 2026. No macro, syntax, notation, axiom, sorry.
-/
import Derived.Test.YtehgdhekiogppaaGreatChecked
import GoSem.Claim
import GoSem.ClaimJoined
import GoSem.ClaimMapViews
import Derived.JoinedTies
import Derived.KernelRfl
namespace Go.Proofs.YtehgdhekiogppaaGreat
/- THE CELL 'sum', in the pinned program and in every row, IS THE sha256 OF THE DUMP (.gsa) THAT YtehgdhekiogppaaGreatProg.lean LOADS. Nothing in Lean hashes anything: it is a label: what it is worth is what the hold of that sum in a sandbox is worth. -/
noncomputable def Tryz.pinned : Pinned := { name := "ytehgdhekiogppaagreat", sum := "d7003c58c7602d75b9f4ce86ae17ea1f832dd30c36a679512c63e86c252fbdca", checked := Tryz.checked }
namespace Rows
def none {H : Type} : Left H := { results := [], args := [] }

/-- 'laws.FnExactRoom': WHATEVER THE INPUT: true; the input reads as it did. -/
def fnExactRoomSpec : ChangeSpec := { name := "fnExactRoom", fn := fun _ => fun
  | [d1, d2, d3] => { results := [.lit (.bool true)], args := [d1, d2, d3] }
  | _ => none }
def fnExactRoomRow : OpenClaim := { program := "ytehgdhekiogppaagreat", sum := "d7003c58c7602d75b9f4ce86ae17ea1f832dd30c36a679512c63e86c252fbdca", func := "loop.example/g00489/laws.FnExactRoom", spec := "fnExactRoom", unfollowed := true, recurses := true, apart := false }
def FnExactRoomSaid : Prop := fnExactRoomRow.holds Tryz.pinned (OpenSpec.ofChange fnExactRoomSpec)

/-- ITS FALSE NEIGHBOUR: 'it returns false'. Refute it at one input. -/
def fnExactRoomWrong : ChangeSpec := { name := "fnExactRoom", fn := fun _ => fun
  | [d1, d2, d3] => { results := [.lit (.bool false)], args := [d1, d2, d3] }
  | _ => none }
def FnExactRoomWrongFalsely : Prop := fnExactRoomRow.holds Tryz.pinned (OpenSpec.ofChange fnExactRoomWrong)

/-- 'laws.FnCheapest': WHATEVER THE INPUT: true; the input reads as it did. -/
def fnCheapestSpec : ChangeSpec := { name := "fnCheapest", fn := fun _ => fun
  | [d] => { results := [.lit (.bool true)], args := [d] }
  | _ => none }
def fnCheapestRow : OpenClaim := { program := "ytehgdhekiogppaagreat", sum := "d7003c58c7602d75b9f4ce86ae17ea1f832dd30c36a679512c63e86c252fbdca", func := "loop.example/g00489/laws.FnCheapest", spec := "fnCheapest", unfollowed := true, recurses := true, apart := false }
def FnCheapestSaid : Prop := fnCheapestRow.holds Tryz.pinned (OpenSpec.ofChange fnCheapestSpec)

/-- ITS FALSE NEIGHBOUR: 'it returns false'. Refute it at one input. -/
def fnCheapestWrong : ChangeSpec := { name := "fnCheapest", fn := fun _ => fun
  | [d] => { results := [.lit (.bool false)], args := [d] }
  | _ => none }
def FnCheapestWrongFalsely : Prop := fnCheapestRow.holds Tryz.pinned (OpenSpec.ofChange fnCheapestWrong)

/-- 'laws.FnUnits': WHATEVER THE INPUT: true; the input reads as it did. -/
def fnUnitsSpec : ChangeSpec := { name := "fnUnits", fn := fun _ => fun
  | [d] => { results := [.lit (.bool true)], args := [d] }
  | _ => none }
def fnUnitsRow : OpenClaim := { program := "ytehgdhekiogppaagreat", sum := "d7003c58c7602d75b9f4ce86ae17ea1f832dd30c36a679512c63e86c252fbdca", func := "loop.example/g00489/laws.FnUnits", spec := "fnUnits", unfollowed := true, recurses := true, apart := false }
def FnUnitsSaid : Prop := fnUnitsRow.holds Tryz.pinned (OpenSpec.ofChange fnUnitsSpec)

/-- ITS FALSE NEIGHBOUR: 'it returns false'. Refute it at one input. -/
def fnUnitsWrong : ChangeSpec := { name := "fnUnits", fn := fun _ => fun
  | [d] => { results := [.lit (.bool false)], args := [d] }
  | _ => none }
def FnUnitsWrongFalsely : Prop := fnUnitsRow.holds Tryz.pinned (OpenSpec.ofChange fnUnitsWrong)

/-- 'laws.FnGroupsFew': WHATEVER THE INPUT: true; the input reads as it did. -/
def fnGroupsFewSpec : ChangeSpec := { name := "fnGroupsFew", fn := fun _ => fun
  | [d] => { results := [.lit (.bool true)], args := [d] }
  | _ => none }
def fnGroupsFewRow : OpenClaim := { program := "ytehgdhekiogppaagreat", sum := "d7003c58c7602d75b9f4ce86ae17ea1f832dd30c36a679512c63e86c252fbdca", func := "loop.example/g00489/laws.FnGroupsFew", spec := "fnGroupsFew", unfollowed := true, recurses := true, apart := false }
def FnGroupsFewSaid : Prop := fnGroupsFewRow.holds Tryz.pinned (OpenSpec.ofChange fnGroupsFewSpec)

/-- ITS FALSE NEIGHBOUR: 'it returns false'. Refute it at one input. -/
def fnGroupsFewWrong : ChangeSpec := { name := "fnGroupsFew", fn := fun _ => fun
  | [d] => { results := [.lit (.bool false)], args := [d] }
  | _ => none }
def FnGroupsFewWrongFalsely : Prop := fnGroupsFewRow.holds Tryz.pinned (OpenSpec.ofChange fnGroupsFewWrong)

/-- 'laws.FnRoomLess': WHATEVER THE INPUT: true; the input reads as it did. -/
def fnRoomLessSpec : ChangeSpec := { name := "fnRoomLess", fn := fun _ => fun
  | [d] => { results := [.lit (.bool true)], args := [d] }
  | _ => none }
def fnRoomLessRow : OpenClaim := { program := "ytehgdhekiogppaagreat", sum := "d7003c58c7602d75b9f4ce86ae17ea1f832dd30c36a679512c63e86c252fbdca", func := "loop.example/g00489/laws.FnRoomLess", spec := "fnRoomLess", unfollowed := true, recurses := true, apart := false }
def FnRoomLessSaid : Prop := fnRoomLessRow.holds Tryz.pinned (OpenSpec.ofChange fnRoomLessSpec)

/-- ITS FALSE NEIGHBOUR: 'it returns false'. Refute it at one input. -/
def fnRoomLessWrong : ChangeSpec := { name := "fnRoomLess", fn := fun _ => fun
  | [d] => { results := [.lit (.bool false)], args := [d] }
  | _ => none }
def FnRoomLessWrongFalsely : Prop := fnRoomLessRow.holds Tryz.pinned (OpenSpec.ofChange fnRoomLessWrong)

/- THE SECOND FORM. 'bulk': how many values and letters a reading holds, each counted each time it is reached (what is shared counts as often as it is met; a slice's spare places count too). A statement '..UptoSaid' is the law's where the arguments, and the package variables that the reading takes, are together of bulk at most 1048576: NARROWER than '..Said'. Prove '..Said' where nothing that the law and all that it calls make is longer than what came in: it says more and counts as full. Else prove '..UptoSaid'. A law counts once. -/
mutual
def uptoBulk {H : Type} : DataW H → Nat
  | .lit (.string bytes) => bytes.length + 1
  | .lit _ => 1
  | .nil => 1
  | .ptr d => uptoBulk d + 1
  | .slice elems spare => uptoBulkAll elems + uptoBulkAll spare + 1
  | .agg parts => uptoBulkAll parts + 1
  | .iface _ d => uptoBulk d + 1
  | .map entries => uptoBulkEntries entries + 1
  | .held _ => 1
def uptoBulkAll {H : Type} : List (DataW H) → Nat
  | [] => 0
  | d :: r => uptoBulk d + uptoBulkAll r
def uptoBulkEntries {H : Type} : List (Lit × DataW H) → Nat
  | [] => 0
  | x :: r => uptoBulkEntry x + uptoBulkEntries r
def uptoBulkEntry {H : Type} : Lit × DataW H → Nat
  | (.string bytes, d) => bytes.length + uptoBulk d + 1
  | (_, d) => uptoBulk d + 1
 end
def uptoSmall : (H : Type) → List (DataW H) → Bool := fun _ ds => decide (uptoBulkAll ds ≤ 1048576)
def OpenSpec.upto (s : _root_.Go.ChangeSpec) : _root_.Go.OpenSpec := { _root_.Go.OpenSpec.ofChange s with cond := some uptoSmall }

/-- 'laws.FnExactRoom', WHERE WHAT IT READS IS OF BULK AT MOST 1048576: true; the input reads as it did. -/
def fnExactRoomUptoRow : OpenClaim := { program := "ytehgdhekiogppaagreat", sum := "d7003c58c7602d75b9f4ce86ae17ea1f832dd30c36a679512c63e86c252fbdca", func := "loop.example/g00489/laws.FnExactRoom", spec := "fnExactRoom", unfollowed := true, recurses := true, apart := false, narrowed := true }
def FnExactRoomUptoSaid : Prop := fnExactRoomUptoRow.holds Tryz.pinned (OpenSpec.upto fnExactRoomSpec)

/-- 'laws.FnCheapest', WHERE WHAT IT READS IS OF BULK AT MOST 1048576: true; the input reads as it did. -/
def fnCheapestUptoRow : OpenClaim := { program := "ytehgdhekiogppaagreat", sum := "d7003c58c7602d75b9f4ce86ae17ea1f832dd30c36a679512c63e86c252fbdca", func := "loop.example/g00489/laws.FnCheapest", spec := "fnCheapest", unfollowed := true, recurses := true, apart := false, narrowed := true }
def FnCheapestUptoSaid : Prop := fnCheapestUptoRow.holds Tryz.pinned (OpenSpec.upto fnCheapestSpec)

/-- 'laws.FnUnits', WHERE WHAT IT READS IS OF BULK AT MOST 1048576: true; the input reads as it did. -/
def fnUnitsUptoRow : OpenClaim := { program := "ytehgdhekiogppaagreat", sum := "d7003c58c7602d75b9f4ce86ae17ea1f832dd30c36a679512c63e86c252fbdca", func := "loop.example/g00489/laws.FnUnits", spec := "fnUnits", unfollowed := true, recurses := true, apart := false, narrowed := true }
def FnUnitsUptoSaid : Prop := fnUnitsUptoRow.holds Tryz.pinned (OpenSpec.upto fnUnitsSpec)

/-- 'laws.FnGroupsFew', WHERE WHAT IT READS IS OF BULK AT MOST 1048576: true; the input reads as it did. -/
def fnGroupsFewUptoRow : OpenClaim := { program := "ytehgdhekiogppaagreat", sum := "d7003c58c7602d75b9f4ce86ae17ea1f832dd30c36a679512c63e86c252fbdca", func := "loop.example/g00489/laws.FnGroupsFew", spec := "fnGroupsFew", unfollowed := true, recurses := true, apart := false, narrowed := true }
def FnGroupsFewUptoSaid : Prop := fnGroupsFewUptoRow.holds Tryz.pinned (OpenSpec.upto fnGroupsFewSpec)

/-- 'laws.FnRoomLess', WHERE WHAT IT READS IS OF BULK AT MOST 1048576: true; the input reads as it did. -/
def fnRoomLessUptoRow : OpenClaim := { program := "ytehgdhekiogppaagreat", sum := "d7003c58c7602d75b9f4ce86ae17ea1f832dd30c36a679512c63e86c252fbdca", func := "loop.example/g00489/laws.FnRoomLess", spec := "fnRoomLess", unfollowed := true, recurses := true, apart := false, narrowed := true }
def FnRoomLessUptoSaid : Prop := fnRoomLessUptoRow.holds Tryz.pinned (OpenSpec.upto fnRoomLessSpec)

end Rows
end Go.Proofs.YtehgdhekiogppaaGreat
