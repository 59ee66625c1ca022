/-
  No cell of these rows narrows 'for every input' (looked for: loops, veiled, ifaces, maps, wideKeys, modest, calm, conditions, laid).
  DERIVED. THE GIVEN ROWS OF THIS SEAT. 8 by the template 'for every input the law returns true; each argument reads behind the call as it read before'; 0 by the template 'total and deterministic' (their statements: YtojmkkcjjlppiaaTotals.lean).
  GIVEN WITH THE SEED: the statements are not yours to turn. If you find one false, say at which input.
  Laid BY PROGRAM, IN A SANDBOX (cutbox-rows.mjs): the forced cells as the released guide's own fill.sh prints them over the translation b996ef45a54490d4… (all of the seat's roots in one cut). By AI agents, Wed Nov 11 2026. No macro, syntax, notation, axiom, sorry.
-/
import Derived.Test.YtojmkkcjjlppiaaChecked
import GoSem.Claim
import GoSem.ClaimJoined
import GoSem.ClaimMapViews
import Derived.JoinedTies
import Derived.KernelRfl
namespace Go.Proofs.Ytojmkkcjjlppiaa
/- THE CELL 'sum', in the pinned program and in every row, IS THE sha256 OF THE DUMP (.gsa) THAT YtojmkkcjjlppiaaProg.lean LOADS. Nothing in Lean hashes anything: it is a label: what it is worth is what the hold of that sum in a sandbox is worth. -/
noncomputable def Try.pinned : Pinned := { name := "ytojmkkcjjlppiaa", sum := "b996ef45a54490d4295b93b8130a6cb5dadfd0ced779b40cf0a8437eb4dd16fb", checked := Try.checked }
namespace Rows
def none {H : Type} : Left H := { results := [], args := [] }

/-- 'laws.FnExactGroupOf': WHATEVER THE INPUT: true; the input reads as it did. -/
def fnExactGroupOfSpec : ChangeSpec := { name := "fnExactGroupOf", fn := fun _ => fun
  | [d1, d2] => { results := [.lit (.bool true)], args := [d1, d2] }
  | _ => none }
def fnExactGroupOfRow : OpenClaim := { program := "ytojmkkcjjlppiaa", sum := "b996ef45a54490d4295b93b8130a6cb5dadfd0ced779b40cf0a8437eb4dd16fb", func := "loop.example/g00489/laws.FnExactGroupOf", spec := "fnExactGroupOf", unfollowed := true, recurses := true, apart := false }
def FnExactGroupOfSaid : Prop := fnExactGroupOfRow.holds Try.pinned (OpenSpec.ofChange fnExactGroupOfSpec)

/-- ITS FALSE NEIGHBOUR: 'it returns false'. Refute it at one input. -/
def fnExactGroupOfWrong : ChangeSpec := { name := "fnExactGroupOf", fn := fun _ => fun
  | [d1, d2] => { results := [.lit (.bool false)], args := [d1, d2] }
  | _ => none }
def FnExactGroupOfWrongFalsely : Prop := fnExactGroupOfRow.holds Try.pinned (OpenSpec.ofChange fnExactGroupOfWrong)

/-- 'laws.FnTables': WHATEVER THE INPUT: true; the input reads as it did. -/
def fnTablesSpec : ChangeSpec := { name := "fnTables", fn := fun _ => fun
  | [d] => { results := [.lit (.bool true)], args := [d] }
  | _ => none }
def fnTablesRow : OpenClaim := { program := "ytojmkkcjjlppiaa", sum := "b996ef45a54490d4295b93b8130a6cb5dadfd0ced779b40cf0a8437eb4dd16fb", func := "loop.example/g00489/laws.FnTables", spec := "fnTables", apart := false }
def FnTablesSaid : Prop := fnTablesRow.holds Try.pinned (OpenSpec.ofChange fnTablesSpec)

/-- ITS FALSE NEIGHBOUR: 'it returns false'. Refute it at one input. -/
def fnTablesWrong : ChangeSpec := { name := "fnTables", fn := fun _ => fun
  | [d] => { results := [.lit (.bool false)], args := [d] }
  | _ => none }
def FnTablesWrongFalsely : Prop := fnTablesRow.holds Try.pinned (OpenSpec.ofChange fnTablesWrong)

/-- 'laws.FnBounded': WHATEVER THE INPUT: true; the input reads as it did. -/
def fnBoundedSpec : ChangeSpec := { name := "fnBounded", fn := fun _ => fun
  | [d] => { results := [.lit (.bool true)], args := [d] }
  | _ => none }
def fnBoundedRow : OpenClaim := { program := "ytojmkkcjjlppiaa", sum := "b996ef45a54490d4295b93b8130a6cb5dadfd0ced779b40cf0a8437eb4dd16fb", func := "loop.example/g00489/laws.FnBounded", spec := "fnBounded", unfollowed := true, recurses := true, apart := false }
def FnBoundedSaid : Prop := fnBoundedRow.holds Try.pinned (OpenSpec.ofChange fnBoundedSpec)

/-- ITS FALSE NEIGHBOUR: 'it returns false'. Refute it at one input. -/
def fnBoundedWrong : ChangeSpec := { name := "fnBounded", fn := fun _ => fun
  | [d] => { results := [.lit (.bool false)], args := [d] }
  | _ => none }
def FnBoundedWrongFalsely : Prop := fnBoundedRow.holds Try.pinned (OpenSpec.ofChange fnBoundedWrong)

/-- 'laws.FnExactTransitive': WHATEVER THE INPUT: true; the input reads as it did. -/
def fnExactTransitiveSpec : ChangeSpec := { name := "fnExactTransitive", fn := fun _ => fun
  | [d1, d2] => { results := [.lit (.bool true)], args := [d1, d2] }
  | _ => none }
def fnExactTransitiveRow : OpenClaim := { program := "ytojmkkcjjlppiaa", sum := "b996ef45a54490d4295b93b8130a6cb5dadfd0ced779b40cf0a8437eb4dd16fb", func := "loop.example/g00489/laws.FnExactTransitive", spec := "fnExactTransitive", unfollowed := true, recurses := true, apart := false }
def FnExactTransitiveSaid : Prop := fnExactTransitiveRow.holds Try.pinned (OpenSpec.ofChange fnExactTransitiveSpec)

/-- ITS FALSE NEIGHBOUR: 'it returns false'. Refute it at one input. -/
def fnExactTransitiveWrong : ChangeSpec := { name := "fnExactTransitive", fn := fun _ => fun
  | [d1, d2] => { results := [.lit (.bool false)], args := [d1, d2] }
  | _ => none }
def FnExactTransitiveWrongFalsely : Prop := fnExactTransitiveRow.holds Try.pinned (OpenSpec.ofChange fnExactTransitiveWrong)

/-- 'laws.FnFits': WHATEVER THE INPUT: true; the input reads as it did. -/
def fnFitsSpec : ChangeSpec := { name := "fnFits", fn := fun _ => fun
  | [d] => { results := [.lit (.bool true)], args := [d] }
  | _ => none }
def fnFitsRow : OpenClaim := { program := "ytojmkkcjjlppiaa", sum := "b996ef45a54490d4295b93b8130a6cb5dadfd0ced779b40cf0a8437eb4dd16fb", func := "loop.example/g00489/laws.FnFits", spec := "fnFits", recurses := true, apart := false }
def FnFitsSaid : Prop := fnFitsRow.holds Try.pinned (OpenSpec.ofChange fnFitsSpec)

/-- ITS FALSE NEIGHBOUR: 'it returns false'. Refute it at one input. -/
def fnFitsWrong : ChangeSpec := { name := "fnFits", fn := fun _ => fun
  | [d] => { results := [.lit (.bool false)], args := [d] }
  | _ => none }
def FnFitsWrongFalsely : Prop := fnFitsRow.holds Try.pinned (OpenSpec.ofChange fnFitsWrong)

/-- 'laws.FnGroups': WHATEVER THE INPUT: true; the input reads as it did. -/
def fnGroupsSpec : ChangeSpec := { name := "fnGroups", fn := fun _ => fun
  | [d] => { results := [.lit (.bool true)], args := [d] }
  | _ => none }
def fnGroupsRow : OpenClaim := { program := "ytojmkkcjjlppiaa", sum := "b996ef45a54490d4295b93b8130a6cb5dadfd0ced779b40cf0a8437eb4dd16fb", func := "loop.example/g00489/laws.FnGroups", spec := "fnGroups", unfollowed := true, recurses := true, apart := false }
def FnGroupsSaid : Prop := fnGroupsRow.holds Try.pinned (OpenSpec.ofChange fnGroupsSpec)

/-- ITS FALSE NEIGHBOUR: 'it returns false'. Refute it at one input. -/
def fnGroupsWrong : ChangeSpec := { name := "fnGroups", fn := fun _ => fun
  | [d] => { results := [.lit (.bool false)], args := [d] }
  | _ => none }
def FnGroupsWrongFalsely : Prop := fnGroupsRow.holds Try.pinned (OpenSpec.ofChange fnGroupsWrong)

/-- 'laws.FnExactGroups': WHATEVER THE INPUT: true; the input reads as it did. -/
def fnExactGroupsSpec : ChangeSpec := { name := "fnExactGroups", fn := fun _ => fun
  | [d1, d2] => { results := [.lit (.bool true)], args := [d1, d2] }
  | _ => none }
def fnExactGroupsRow : OpenClaim := { program := "ytojmkkcjjlppiaa", sum := "b996ef45a54490d4295b93b8130a6cb5dadfd0ced779b40cf0a8437eb4dd16fb", func := "loop.example/g00489/laws.FnExactGroups", spec := "fnExactGroups", unfollowed := true, recurses := true, apart := false }
def FnExactGroupsSaid : Prop := fnExactGroupsRow.holds Try.pinned (OpenSpec.ofChange fnExactGroupsSpec)

/-- ITS FALSE NEIGHBOUR: 'it returns false'. Refute it at one input. -/
def fnExactGroupsWrong : ChangeSpec := { name := "fnExactGroups", fn := fun _ => fun
  | [d1, d2] => { results := [.lit (.bool false)], args := [d1, d2] }
  | _ => none }
def FnExactGroupsWrongFalsely : Prop := fnExactGroupsRow.holds Try.pinned (OpenSpec.ofChange fnExactGroupsWrong)

/-- 'laws.FnTransitive': WHATEVER THE INPUT: true; the input reads as it did. -/
def fnTransitiveSpec : ChangeSpec := { name := "fnTransitive", fn := fun _ => fun
  | [d] => { results := [.lit (.bool true)], args := [d] }
  | _ => none }
def fnTransitiveRow : OpenClaim := { program := "ytojmkkcjjlppiaa", sum := "b996ef45a54490d4295b93b8130a6cb5dadfd0ced779b40cf0a8437eb4dd16fb", func := "loop.example/g00489/laws.FnTransitive", spec := "fnTransitive", unfollowed := true, recurses := true, apart := false }
def FnTransitiveSaid : Prop := fnTransitiveRow.holds Try.pinned (OpenSpec.ofChange fnTransitiveSpec)

/-- ITS FALSE NEIGHBOUR: 'it returns false'. Refute it at one input. -/
def fnTransitiveWrong : ChangeSpec := { name := "fnTransitive", fn := fun _ => fun
  | [d] => { results := [.lit (.bool false)], args := [d] }
  | _ => none }
def FnTransitiveWrongFalsely : Prop := fnTransitiveRow.holds Try.pinned (OpenSpec.ofChange fnTransitiveWrong)

/- THE SECOND FORM. 'bulk': how many values and letters a reading holds, each counted each time it is reached (what is shared counts as often as it is met; a slice's spare places count too). A statement '..UptoSaid' is the law's where the arguments, and the package variables that the reading takes, are together of bulk at most 1048576: NARROWER than '..Said'. Prove '..Said' where nothing that the law and all that it calls make is longer than what came in: it says more and counts as full. Else prove '..UptoSaid'. A law counts once. -/
mutual
def uptoBulk {H : Type} : DataW H → Nat
  | .lit (.string bytes) => bytes.length + 1
  | .lit _ => 1
  | .nil => 1
  | .ptr d => uptoBulk d + 1
  | .slice elems spare => uptoBulkAll elems + uptoBulkAll spare + 1
  | .agg parts => uptoBulkAll parts + 1
  | .iface _ d => uptoBulk d + 1
  | .map entries => uptoBulkEntries entries + 1
  | .held _ => 1
def uptoBulkAll {H : Type} : List (DataW H) → Nat
  | [] => 0
  | d :: r => uptoBulk d + uptoBulkAll r
def uptoBulkEntries {H : Type} : List (Lit × DataW H) → Nat
  | [] => 0
  | x :: r => uptoBulkEntry x + uptoBulkEntries r
def uptoBulkEntry {H : Type} : Lit × DataW H → Nat
  | (.string bytes, d) => bytes.length + uptoBulk d + 1
  | (_, d) => uptoBulk d + 1
 end
def uptoSmall : (H : Type) → List (DataW H) → Bool := fun _ ds => decide (uptoBulkAll ds ≤ 1048576)
def OpenSpec.upto (s : _root_.Go.ChangeSpec) : _root_.Go.OpenSpec := { _root_.Go.OpenSpec.ofChange s with cond := some uptoSmall }

/-- 'laws.FnExactGroupOf', WHERE WHAT IT READS IS OF BULK AT MOST 1048576: true; the input reads as it did. -/
def fnExactGroupOfUptoRow : OpenClaim := { program := "ytojmkkcjjlppiaa", sum := "b996ef45a54490d4295b93b8130a6cb5dadfd0ced779b40cf0a8437eb4dd16fb", func := "loop.example/g00489/laws.FnExactGroupOf", spec := "fnExactGroupOf", unfollowed := true, recurses := true, apart := false, narrowed := true }
def FnExactGroupOfUptoSaid : Prop := fnExactGroupOfUptoRow.holds Try.pinned (OpenSpec.upto fnExactGroupOfSpec)

/-- 'laws.FnTables', WHERE WHAT IT READS IS OF BULK AT MOST 1048576: true; the input reads as it did. -/
def fnTablesUptoRow : OpenClaim := { program := "ytojmkkcjjlppiaa", sum := "b996ef45a54490d4295b93b8130a6cb5dadfd0ced779b40cf0a8437eb4dd16fb", func := "loop.example/g00489/laws.FnTables", spec := "fnTables", apart := false, narrowed := true }
def FnTablesUptoSaid : Prop := fnTablesUptoRow.holds Try.pinned (OpenSpec.upto fnTablesSpec)

/-- 'laws.FnBounded', WHERE WHAT IT READS IS OF BULK AT MOST 1048576: true; the input reads as it did. -/
def fnBoundedUptoRow : OpenClaim := { program := "ytojmkkcjjlppiaa", sum := "b996ef45a54490d4295b93b8130a6cb5dadfd0ced779b40cf0a8437eb4dd16fb", func := "loop.example/g00489/laws.FnBounded", spec := "fnBounded", unfollowed := true, recurses := true, apart := false, narrowed := true }
def FnBoundedUptoSaid : Prop := fnBoundedUptoRow.holds Try.pinned (OpenSpec.upto fnBoundedSpec)

/-- 'laws.FnExactTransitive', WHERE WHAT IT READS IS OF BULK AT MOST 1048576: true; the input reads as it did. -/
def fnExactTransitiveUptoRow : OpenClaim := { program := "ytojmkkcjjlppiaa", sum := "b996ef45a54490d4295b93b8130a6cb5dadfd0ced779b40cf0a8437eb4dd16fb", func := "loop.example/g00489/laws.FnExactTransitive", spec := "fnExactTransitive", unfollowed := true, recurses := true, apart := false, narrowed := true }
def FnExactTransitiveUptoSaid : Prop := fnExactTransitiveUptoRow.holds Try.pinned (OpenSpec.upto fnExactTransitiveSpec)

/-- 'laws.FnFits', WHERE WHAT IT READS IS OF BULK AT MOST 1048576: true; the input reads as it did. -/
def fnFitsUptoRow : OpenClaim := { program := "ytojmkkcjjlppiaa", sum := "b996ef45a54490d4295b93b8130a6cb5dadfd0ced779b40cf0a8437eb4dd16fb", func := "loop.example/g00489/laws.FnFits", spec := "fnFits", recurses := true, apart := false, narrowed := true }
def FnFitsUptoSaid : Prop := fnFitsUptoRow.holds Try.pinned (OpenSpec.upto fnFitsSpec)

/-- 'laws.FnGroups', WHERE WHAT IT READS IS OF BULK AT MOST 1048576: true; the input reads as it did. -/
def fnGroupsUptoRow : OpenClaim := { program := "ytojmkkcjjlppiaa", sum := "b996ef45a54490d4295b93b8130a6cb5dadfd0ced779b40cf0a8437eb4dd16fb", func := "loop.example/g00489/laws.FnGroups", spec := "fnGroups", unfollowed := true, recurses := true, apart := false, narrowed := true }
def FnGroupsUptoSaid : Prop := fnGroupsUptoRow.holds Try.pinned (OpenSpec.upto fnGroupsSpec)

/-- 'laws.FnExactGroups', WHERE WHAT IT READS IS OF BULK AT MOST 1048576: true; the input reads as it did. -/
def fnExactGroupsUptoRow : OpenClaim := { program := "ytojmkkcjjlppiaa", sum := "b996ef45a54490d4295b93b8130a6cb5dadfd0ced779b40cf0a8437eb4dd16fb", func := "loop.example/g00489/laws.FnExactGroups", spec := "fnExactGroups", unfollowed := true, recurses := true, apart := false, narrowed := true }
def FnExactGroupsUptoSaid : Prop := fnExactGroupsUptoRow.holds Try.pinned (OpenSpec.upto fnExactGroupsSpec)

/-- 'laws.FnTransitive', WHERE WHAT IT READS IS OF BULK AT MOST 1048576: true; the input reads as it did. -/
def fnTransitiveUptoRow : OpenClaim := { program := "ytojmkkcjjlppiaa", sum := "b996ef45a54490d4295b93b8130a6cb5dadfd0ced779b40cf0a8437eb4dd16fb", func := "loop.example/g00489/laws.FnTransitive", spec := "fnTransitive", unfollowed := true, recurses := true, apart := false, narrowed := true }
def FnTransitiveUptoSaid : Prop := fnTransitiveUptoRow.holds Try.pinned (OpenSpec.upto fnTransitiveSpec)

end Rows
end Go.Proofs.Ytojmkkcjjlppiaa
