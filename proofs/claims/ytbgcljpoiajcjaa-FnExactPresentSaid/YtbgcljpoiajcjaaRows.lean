/-
  No cell of these rows narrows 'for every input' (looked for: loops, veiled, ifaces, maps, wideKeys, modest, calm, conditions, laid).
  DERIVED. THE GIVEN ROWS OF THIS SEAT. 5 by the template 'for every input the law returns true; each argument reads behind the call as it read before'; 0 by the template 'total and deterministic' (their statements: YtbgcljpoiajcjaaTotals.lean).
  GIVEN WITH THE SEED: the statements are not yours to turn. If you find one false, say at which input.
  Laid BY PROGRAM, IN A SANDBOX (cutbox-rows.mjs): the forced cells as the released guide's own fill.sh prints them over the translation 9da7f84b3e57ed90… (all of the seat's roots in one cut). By AI agents, Wed Nov 11 2026. No macro, syntax, notation, axiom, sorry.
-/
import Derived.Test.YtbgcljpoiajcjaaChecked
import GoSem.Claim
import GoSem.ClaimJoined
import GoSem.ClaimMapViews
import Derived.JoinedTies
import Derived.KernelRfl
namespace Go.Proofs.Ytbgcljpoiajcjaa
/- THE CELL 'sum', in the pinned program and in every row, IS THE sha256 OF THE DUMP (.gsa) THAT YtbgcljpoiajcjaaProg.lean LOADS. Nothing in Lean hashes anything: it is a label: what it is worth is what the hold of that sum in a sandbox is worth. -/
noncomputable def Try.pinned : Pinned := { name := "ytbgcljpoiajcjaa", sum := "9da7f84b3e57ed900237c14478859859343ca7a53bba06d2ca2aa7dcbc060060", checked := Try.checked }
namespace Rows
def none {H : Type} : Left H := { results := [], args := [] }

/-- 'laws.FnExactTypeById': WHATEVER THE INPUT: true; the input reads as it did. -/
def fnExactTypeByIdSpec : ChangeSpec := { name := "fnExactTypeById", fn := fun _ => fun
  | [d1, d2] => { results := [.lit (.bool true)], args := [d1, d2] }
  | _ => none }
def fnExactTypeByIdRow : OpenClaim := { program := "ytbgcljpoiajcjaa", sum := "9da7f84b3e57ed900237c14478859859343ca7a53bba06d2ca2aa7dcbc060060", func := "loop.example/g00489/laws.FnExactTypeById", spec := "fnExactTypeById", unfollowed := true, recurses := true, apart := false }
def FnExactTypeByIdSaid : Prop := fnExactTypeByIdRow.holds Try.pinned (OpenSpec.ofChange fnExactTypeByIdSpec)

/-- ITS FALSE NEIGHBOUR: 'it returns false'. Refute it at one input. -/
def fnExactTypeByIdWrong : ChangeSpec := { name := "fnExactTypeById", fn := fun _ => fun
  | [d1, d2] => { results := [.lit (.bool false)], args := [d1, d2] }
  | _ => none }
def FnExactTypeByIdWrongFalsely : Prop := fnExactTypeByIdRow.holds Try.pinned (OpenSpec.ofChange fnExactTypeByIdWrong)

/-- 'laws.FnExactMasterOf': WHATEVER THE INPUT: true; the input reads as it did. -/
def fnExactMasterOfSpec : ChangeSpec := { name := "fnExactMasterOf", fn := fun _ => fun
  | [d] => { results := [.lit (.bool true)], args := [d] }
  | _ => none }
def fnExactMasterOfRow : OpenClaim := { program := "ytbgcljpoiajcjaa", sum := "9da7f84b3e57ed900237c14478859859343ca7a53bba06d2ca2aa7dcbc060060", func := "loop.example/g00489/laws.FnExactMasterOf", spec := "fnExactMasterOf", unfollowed := true, recurses := true, apart := false }
def FnExactMasterOfSaid : Prop := fnExactMasterOfRow.holds Try.pinned (OpenSpec.ofChange fnExactMasterOfSpec)

/-- ITS FALSE NEIGHBOUR: 'it returns false'. Refute it at one input. -/
def fnExactMasterOfWrong : ChangeSpec := { name := "fnExactMasterOf", fn := fun _ => fun
  | [d] => { results := [.lit (.bool false)], args := [d] }
  | _ => none }
def FnExactMasterOfWrongFalsely : Prop := fnExactMasterOfRow.holds Try.pinned (OpenSpec.ofChange fnExactMasterOfWrong)

/-- 'laws.FnExactClass': WHATEVER THE INPUT: true; the input reads as it did. -/
def fnExactClassSpec : ChangeSpec := { name := "fnExactClass", fn := fun _ => fun
  | [d] => { results := [.lit (.bool true)], args := [d] }
  | _ => none }
def fnExactClassRow : OpenClaim := { program := "ytbgcljpoiajcjaa", sum := "9da7f84b3e57ed900237c14478859859343ca7a53bba06d2ca2aa7dcbc060060", func := "loop.example/g00489/laws.FnExactClass", spec := "fnExactClass", unfollowed := true, recurses := true, apart := false }
def FnExactClassSaid : Prop := fnExactClassRow.holds Try.pinned (OpenSpec.ofChange fnExactClassSpec)

/-- ITS FALSE NEIGHBOUR: 'it returns false'. Refute it at one input. -/
def fnExactClassWrong : ChangeSpec := { name := "fnExactClass", fn := fun _ => fun
  | [d] => { results := [.lit (.bool false)], args := [d] }
  | _ => none }
def FnExactClassWrongFalsely : Prop := fnExactClassRow.holds Try.pinned (OpenSpec.ofChange fnExactClassWrong)

/-- 'laws.FnExactPresent': WHATEVER THE INPUT: true; the input reads as it did. -/
def fnExactPresentSpec : ChangeSpec := { name := "fnExactPresent", fn := fun _ => fun
  | [d] => { results := [.lit (.bool true)], args := [d] }
  | _ => none }
def fnExactPresentRow : OpenClaim := { program := "ytbgcljpoiajcjaa", sum := "9da7f84b3e57ed900237c14478859859343ca7a53bba06d2ca2aa7dcbc060060", func := "loop.example/g00489/laws.FnExactPresent", spec := "fnExactPresent", unfollowed := true, recurses := true, apart := false }
def FnExactPresentSaid : Prop := fnExactPresentRow.holds Try.pinned (OpenSpec.ofChange fnExactPresentSpec)

/-- ITS FALSE NEIGHBOUR: 'it returns false'. Refute it at one input. -/
def fnExactPresentWrong : ChangeSpec := { name := "fnExactPresent", fn := fun _ => fun
  | [d] => { results := [.lit (.bool false)], args := [d] }
  | _ => none }
def FnExactPresentWrongFalsely : Prop := fnExactPresentRow.holds Try.pinned (OpenSpec.ofChange fnExactPresentWrong)

/-- 'laws.FnExactCostOf': WHATEVER THE INPUT: true; the input reads as it did. -/
def fnExactCostOfSpec : ChangeSpec := { name := "fnExactCostOf", fn := fun _ => fun
  | [d1, d2] => { results := [.lit (.bool true)], args := [d1, d2] }
  | _ => none }
def fnExactCostOfRow : OpenClaim := { program := "ytbgcljpoiajcjaa", sum := "9da7f84b3e57ed900237c14478859859343ca7a53bba06d2ca2aa7dcbc060060", func := "loop.example/g00489/laws.FnExactCostOf", spec := "fnExactCostOf", unfollowed := true, recurses := true, apart := false }
def FnExactCostOfSaid : Prop := fnExactCostOfRow.holds Try.pinned (OpenSpec.ofChange fnExactCostOfSpec)

/-- ITS FALSE NEIGHBOUR: 'it returns false'. Refute it at one input. -/
def fnExactCostOfWrong : ChangeSpec := { name := "fnExactCostOf", fn := fun _ => fun
  | [d1, d2] => { results := [.lit (.bool false)], args := [d1, d2] }
  | _ => none }
def FnExactCostOfWrongFalsely : Prop := fnExactCostOfRow.holds Try.pinned (OpenSpec.ofChange fnExactCostOfWrong)

/- THE SECOND FORM. 'bulk': how many values and letters a reading holds, each counted each time it is reached (what is shared counts as often as it is met; a slice's spare places count too). A statement '..UptoSaid' is the law's where the arguments, and the package variables that the reading takes, are together of bulk at most 1048576: NARROWER than '..Said'. Prove '..Said' where nothing that the law and all that it calls make is longer than what came in: it says more and counts as full. Else prove '..UptoSaid'. A law counts once. -/
mutual
def uptoBulk {H : Type} : DataW H → Nat
  | .lit (.string bytes) => bytes.length + 1
  | .lit _ => 1
  | .nil => 1
  | .ptr d => uptoBulk d + 1
  | .slice elems spare => uptoBulkAll elems + uptoBulkAll spare + 1
  | .agg parts => uptoBulkAll parts + 1
  | .iface _ d => uptoBulk d + 1
  | .map entries => uptoBulkEntries entries + 1
  | .held _ => 1
def uptoBulkAll {H : Type} : List (DataW H) → Nat
  | [] => 0
  | d :: r => uptoBulk d + uptoBulkAll r
def uptoBulkEntries {H : Type} : List (Lit × DataW H) → Nat
  | [] => 0
  | x :: r => uptoBulkEntry x + uptoBulkEntries r
def uptoBulkEntry {H : Type} : Lit × DataW H → Nat
  | (.string bytes, d) => bytes.length + uptoBulk d + 1
  | (_, d) => uptoBulk d + 1
 end
def uptoSmall : (H : Type) → List (DataW H) → Bool := fun _ ds => decide (uptoBulkAll ds ≤ 1048576)
def OpenSpec.upto (s : _root_.Go.ChangeSpec) : _root_.Go.OpenSpec := { _root_.Go.OpenSpec.ofChange s with cond := some uptoSmall }

/-- 'laws.FnExactTypeById', WHERE WHAT IT READS IS OF BULK AT MOST 1048576: true; the input reads as it did. -/
def fnExactTypeByIdUptoRow : OpenClaim := { program := "ytbgcljpoiajcjaa", sum := "9da7f84b3e57ed900237c14478859859343ca7a53bba06d2ca2aa7dcbc060060", func := "loop.example/g00489/laws.FnExactTypeById", spec := "fnExactTypeById", unfollowed := true, recurses := true, apart := false, narrowed := true }
def FnExactTypeByIdUptoSaid : Prop := fnExactTypeByIdUptoRow.holds Try.pinned (OpenSpec.upto fnExactTypeByIdSpec)

/-- 'laws.FnExactMasterOf', WHERE WHAT IT READS IS OF BULK AT MOST 1048576: true; the input reads as it did. -/
def fnExactMasterOfUptoRow : OpenClaim := { program := "ytbgcljpoiajcjaa", sum := "9da7f84b3e57ed900237c14478859859343ca7a53bba06d2ca2aa7dcbc060060", func := "loop.example/g00489/laws.FnExactMasterOf", spec := "fnExactMasterOf", unfollowed := true, recurses := true, apart := false, narrowed := true }
def FnExactMasterOfUptoSaid : Prop := fnExactMasterOfUptoRow.holds Try.pinned (OpenSpec.upto fnExactMasterOfSpec)

/-- 'laws.FnExactClass', WHERE WHAT IT READS IS OF BULK AT MOST 1048576: true; the input reads as it did. -/
def fnExactClassUptoRow : OpenClaim := { program := "ytbgcljpoiajcjaa", sum := "9da7f84b3e57ed900237c14478859859343ca7a53bba06d2ca2aa7dcbc060060", func := "loop.example/g00489/laws.FnExactClass", spec := "fnExactClass", unfollowed := true, recurses := true, apart := false, narrowed := true }
def FnExactClassUptoSaid : Prop := fnExactClassUptoRow.holds Try.pinned (OpenSpec.upto fnExactClassSpec)

/-- 'laws.FnExactPresent', WHERE WHAT IT READS IS OF BULK AT MOST 1048576: true; the input reads as it did. -/
def fnExactPresentUptoRow : OpenClaim := { program := "ytbgcljpoiajcjaa", sum := "9da7f84b3e57ed900237c14478859859343ca7a53bba06d2ca2aa7dcbc060060", func := "loop.example/g00489/laws.FnExactPresent", spec := "fnExactPresent", unfollowed := true, recurses := true, apart := false, narrowed := true }
def FnExactPresentUptoSaid : Prop := fnExactPresentUptoRow.holds Try.pinned (OpenSpec.upto fnExactPresentSpec)

/-- 'laws.FnExactCostOf', WHERE WHAT IT READS IS OF BULK AT MOST 1048576: true; the input reads as it did. -/
def fnExactCostOfUptoRow : OpenClaim := { program := "ytbgcljpoiajcjaa", sum := "9da7f84b3e57ed900237c14478859859343ca7a53bba06d2ca2aa7dcbc060060", func := "loop.example/g00489/laws.FnExactCostOf", spec := "fnExactCostOf", unfollowed := true, recurses := true, apart := false, narrowed := true }
def FnExactCostOfUptoSaid : Prop := fnExactCostOfUptoRow.holds Try.pinned (OpenSpec.upto fnExactCostOfSpec)

end Rows
end Go.Proofs.Ytbgcljpoiajcjaa
