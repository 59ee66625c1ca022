/-
  No cell of these rows narrows 'for every input' (looked for: loops, veiled, ifaces, maps, wideKeys, modest, calm, conditions, laid).
  DERIVED. THE GIVEN ROWS OF THIS SEAT. 12 by the template 'for every input the law returns true; each argument reads behind the call as it read before'; 0 by the template 'total and deterministic' (their statements: YtcbmiodilfjjjaaTotals.lean).
  GIVEN WITH THE SEED: the statements are not yours to turn. If you find one false, say at which input.
  Laid BY PROGRAM, IN A SANDBOX (cutbox-rows.mjs): the forced cells as the released guide's own fill.sh prints them over the translation adc45a4632b76d72… (all of the seat's roots in one cut). By AI agents, Wed Nov 11 2026. No macro, syntax, notation, axiom, sorry.
-/
import Derived.Test.YtcbmiodilfjjjaaChecked
import GoSem.Claim
import GoSem.ClaimJoined
import GoSem.ClaimMapViews
import Derived.JoinedTies
import Derived.KernelRfl
namespace Go.Proofs.Ytcbmiodilfjjjaa
/- THE CELL 'sum', in the pinned program and in every row, IS THE sha256 OF THE DUMP (.gsa) THAT YtcbmiodilfjjjaaProg.lean LOADS. Nothing in Lean hashes anything: it is a label: what it is worth is what the hold of that sum in a sandbox is worth. -/
noncomputable def Try.pinned : Pinned := { name := "ytcbmiodilfjjjaa", sum := "adc45a4632b76d7232406d44416f422541172a13b80b3469b3eecd45150447d3", checked := Try.checked }
namespace Rows
def none {H : Type} : Left H := { results := [], args := [] }

/-- 'laws.FnExactSum': WHATEVER THE INPUT: true; the input reads as it did. -/
def fnExactSumSpec : ChangeSpec := { name := "fnExactSum", fn := fun _ => fun
  | [d] => { results := [.lit (.bool true)], args := [d] }
  | _ => none }
def fnExactSumRow : OpenClaim := { program := "ytcbmiodilfjjjaa", sum := "adc45a4632b76d7232406d44416f422541172a13b80b3469b3eecd45150447d3", func := "loop.example/g00489/laws.FnExactSum", spec := "fnExactSum", apart := false }
def FnExactSumSaid : Prop := fnExactSumRow.holds Try.pinned (OpenSpec.ofChange fnExactSumSpec)

/-- ITS FALSE NEIGHBOUR: 'it returns false'. Refute it at one input. -/
def fnExactSumWrong : ChangeSpec := { name := "fnExactSum", fn := fun _ => fun
  | [d] => { results := [.lit (.bool false)], args := [d] }
  | _ => none }
def FnExactSumWrongFalsely : Prop := fnExactSumRow.holds Try.pinned (OpenSpec.ofChange fnExactSumWrong)

/-- 'laws.FnExactParts': WHATEVER THE INPUT: true; the input reads as it did. -/
def fnExactPartsSpec : ChangeSpec := { name := "fnExactParts", fn := fun _ => fun
  | [d1, d2] => { results := [.lit (.bool true)], args := [d1, d2] }
  | _ => none }
def fnExactPartsRow : OpenClaim := { program := "ytcbmiodilfjjjaa", sum := "adc45a4632b76d7232406d44416f422541172a13b80b3469b3eecd45150447d3", func := "loop.example/g00489/laws.FnExactParts", spec := "fnExactParts", apart := false }
def FnExactPartsSaid : Prop := fnExactPartsRow.holds Try.pinned (OpenSpec.ofChange fnExactPartsSpec)

/-- ITS FALSE NEIGHBOUR: 'it returns false'. Refute it at one input. -/
def fnExactPartsWrong : ChangeSpec := { name := "fnExactParts", fn := fun _ => fun
  | [d1, d2] => { results := [.lit (.bool false)], args := [d1, d2] }
  | _ => none }
def FnExactPartsWrongFalsely : Prop := fnExactPartsRow.holds Try.pinned (OpenSpec.ofChange fnExactPartsWrong)

/-- 'laws.FnExactBeside': WHATEVER THE INPUT: true; the input reads as it did. -/
def fnExactBesideSpec : ChangeSpec := { name := "fnExactBeside", fn := fun _ => fun
  | [d1, d2, d3] => { results := [.lit (.bool true)], args := [d1, d2, d3] }
  | _ => none }
def fnExactBesideRow : OpenClaim := { program := "ytcbmiodilfjjjaa", sum := "adc45a4632b76d7232406d44416f422541172a13b80b3469b3eecd45150447d3", func := "loop.example/g00489/laws.FnExactBeside", spec := "fnExactBeside", apart := false }
def FnExactBesideSaid : Prop := fnExactBesideRow.holds Try.pinned (OpenSpec.ofChange fnExactBesideSpec)

/-- ITS FALSE NEIGHBOUR: 'it returns false'. Refute it at one input. -/
def fnExactBesideWrong : ChangeSpec := { name := "fnExactBeside", fn := fun _ => fun
  | [d1, d2, d3] => { results := [.lit (.bool false)], args := [d1, d2, d3] }
  | _ => none }
def FnExactBesideWrongFalsely : Prop := fnExactBesideRow.holds Try.pinned (OpenSpec.ofChange fnExactBesideWrong)

/-- 'laws.FnExactTableOk': WHATEVER THE INPUT: true; the input reads as it did. -/
def fnExactTableOkSpec : ChangeSpec := { name := "fnExactTableOk", fn := fun _ => fun
  | [d1, d2] => { results := [.lit (.bool true)], args := [d1, d2] }
  | _ => none }
def fnExactTableOkRow : OpenClaim := { program := "ytcbmiodilfjjjaa", sum := "adc45a4632b76d7232406d44416f422541172a13b80b3469b3eecd45150447d3", func := "loop.example/g00489/laws.FnExactTableOk", spec := "fnExactTableOk", apart := false }
def FnExactTableOkSaid : Prop := fnExactTableOkRow.holds Try.pinned (OpenSpec.ofChange fnExactTableOkSpec)

/-- ITS FALSE NEIGHBOUR: 'it returns false'. Refute it at one input. -/
def fnExactTableOkWrong : ChangeSpec := { name := "fnExactTableOk", fn := fun _ => fun
  | [d1, d2] => { results := [.lit (.bool false)], args := [d1, d2] }
  | _ => none }
def FnExactTableOkWrongFalsely : Prop := fnExactTableOkRow.holds Try.pinned (OpenSpec.ofChange fnExactTableOkWrong)

/-- 'laws.FnExactGroupOf': WHATEVER THE INPUT: true; the input reads as it did. -/
def fnExactGroupOfSpec : ChangeSpec := { name := "fnExactGroupOf", fn := fun _ => fun
  | [d1, d2] => { results := [.lit (.bool true)], args := [d1, d2] }
  | _ => none }
def fnExactGroupOfRow : OpenClaim := { program := "ytcbmiodilfjjjaa", sum := "adc45a4632b76d7232406d44416f422541172a13b80b3469b3eecd45150447d3", func := "loop.example/g00489/laws.FnExactGroupOf", spec := "fnExactGroupOf", unfollowed := true, recurses := true, apart := false }
def FnExactGroupOfSaid : Prop := fnExactGroupOfRow.holds Try.pinned (OpenSpec.ofChange fnExactGroupOfSpec)

/-- ITS FALSE NEIGHBOUR: 'it returns false'. Refute it at one input. -/
def fnExactGroupOfWrong : ChangeSpec := { name := "fnExactGroupOf", fn := fun _ => fun
  | [d1, d2] => { results := [.lit (.bool false)], args := [d1, d2] }
  | _ => none }
def FnExactGroupOfWrongFalsely : Prop := fnExactGroupOfRow.holds Try.pinned (OpenSpec.ofChange fnExactGroupOfWrong)

/-- 'laws.FnTables': WHATEVER THE INPUT: true; the input reads as it did. -/
def fnTablesSpec : ChangeSpec := { name := "fnTables", fn := fun _ => fun
  | [d] => { results := [.lit (.bool true)], args := [d] }
  | _ => none }
def fnTablesRow : OpenClaim := { program := "ytcbmiodilfjjjaa", sum := "adc45a4632b76d7232406d44416f422541172a13b80b3469b3eecd45150447d3", func := "loop.example/g00489/laws.FnTables", spec := "fnTables", apart := false }
def FnTablesSaid : Prop := fnTablesRow.holds Try.pinned (OpenSpec.ofChange fnTablesSpec)

/-- ITS FALSE NEIGHBOUR: 'it returns false'. Refute it at one input. -/
def fnTablesWrong : ChangeSpec := { name := "fnTables", fn := fun _ => fun
  | [d] => { results := [.lit (.bool false)], args := [d] }
  | _ => none }
def FnTablesWrongFalsely : Prop := fnTablesRow.holds Try.pinned (OpenSpec.ofChange fnTablesWrong)

/-- 'laws.FnBounded': WHATEVER THE INPUT: true; the input reads as it did. -/
def fnBoundedSpec : ChangeSpec := { name := "fnBounded", fn := fun _ => fun
  | [d] => { results := [.lit (.bool true)], args := [d] }
  | _ => none }
def fnBoundedRow : OpenClaim := { program := "ytcbmiodilfjjjaa", sum := "adc45a4632b76d7232406d44416f422541172a13b80b3469b3eecd45150447d3", func := "loop.example/g00489/laws.FnBounded", spec := "fnBounded", unfollowed := true, recurses := true, apart := false }
def FnBoundedSaid : Prop := fnBoundedRow.holds Try.pinned (OpenSpec.ofChange fnBoundedSpec)

/-- ITS FALSE NEIGHBOUR: 'it returns false'. Refute it at one input. -/
def fnBoundedWrong : ChangeSpec := { name := "fnBounded", fn := fun _ => fun
  | [d] => { results := [.lit (.bool false)], args := [d] }
  | _ => none }
def FnBoundedWrongFalsely : Prop := fnBoundedRow.holds Try.pinned (OpenSpec.ofChange fnBoundedWrong)

/-- 'laws.FnExactRequestSame': WHATEVER THE INPUT: true; the input reads as it did. -/
def fnExactRequestSameSpec : ChangeSpec := { name := "fnExactRequestSame", fn := fun _ => fun
  | [d1, d2] => { results := [.lit (.bool true)], args := [d1, d2] }
  | _ => none }
def fnExactRequestSameRow : OpenClaim := { program := "ytcbmiodilfjjjaa", sum := "adc45a4632b76d7232406d44416f422541172a13b80b3469b3eecd45150447d3", func := "loop.example/g00489/laws.FnExactRequestSame", spec := "fnExactRequestSame", apart := false }
def FnExactRequestSameSaid : Prop := fnExactRequestSameRow.holds Try.pinned (OpenSpec.ofChange fnExactRequestSameSpec)

/-- ITS FALSE NEIGHBOUR: 'it returns false'. Refute it at one input. -/
def fnExactRequestSameWrong : ChangeSpec := { name := "fnExactRequestSame", fn := fun _ => fun
  | [d1, d2] => { results := [.lit (.bool false)], args := [d1, d2] }
  | _ => none }
def FnExactRequestSameWrongFalsely : Prop := fnExactRequestSameRow.holds Try.pinned (OpenSpec.ofChange fnExactRequestSameWrong)

/-- 'laws.FnExactBoundsOk': WHATEVER THE INPUT: true; the input reads as it did. -/
def fnExactBoundsOkSpec : ChangeSpec := { name := "fnExactBoundsOk", fn := fun _ => fun
  | [d] => { results := [.lit (.bool true)], args := [d] }
  | _ => none }
def fnExactBoundsOkRow : OpenClaim := { program := "ytcbmiodilfjjjaa", sum := "adc45a4632b76d7232406d44416f422541172a13b80b3469b3eecd45150447d3", func := "loop.example/g00489/laws.FnExactBoundsOk", spec := "fnExactBoundsOk", unfollowed := true, recurses := true, apart := false }
def FnExactBoundsOkSaid : Prop := fnExactBoundsOkRow.holds Try.pinned (OpenSpec.ofChange fnExactBoundsOkSpec)

/-- ITS FALSE NEIGHBOUR: 'it returns false'. Refute it at one input. -/
def fnExactBoundsOkWrong : ChangeSpec := { name := "fnExactBoundsOk", fn := fun _ => fun
  | [d] => { results := [.lit (.bool false)], args := [d] }
  | _ => none }
def FnExactBoundsOkWrongFalsely : Prop := fnExactBoundsOkRow.holds Try.pinned (OpenSpec.ofChange fnExactBoundsOkWrong)

/-- 'laws.FnExactFits': WHATEVER THE INPUT: true; the input reads as it did. -/
def fnExactFitsSpec : ChangeSpec := { name := "fnExactFits", fn := fun _ => fun
  | [d1, d2] => { results := [.lit (.bool true)], args := [d1, d2] }
  | _ => none }
def fnExactFitsRow : OpenClaim := { program := "ytcbmiodilfjjjaa", sum := "adc45a4632b76d7232406d44416f422541172a13b80b3469b3eecd45150447d3", func := "loop.example/g00489/laws.FnExactFits", spec := "fnExactFits", recurses := true, apart := false }
def FnExactFitsSaid : Prop := fnExactFitsRow.holds Try.pinned (OpenSpec.ofChange fnExactFitsSpec)

/-- ITS FALSE NEIGHBOUR: 'it returns false'. Refute it at one input. -/
def fnExactFitsWrong : ChangeSpec := { name := "fnExactFits", fn := fun _ => fun
  | [d1, d2] => { results := [.lit (.bool false)], args := [d1, d2] }
  | _ => none }
def FnExactFitsWrongFalsely : Prop := fnExactFitsRow.holds Try.pinned (OpenSpec.ofChange fnExactFitsWrong)

/-- 'laws.FnExactTransitive': WHATEVER THE INPUT: true; the input reads as it did. -/
def fnExactTransitiveSpec : ChangeSpec := { name := "fnExactTransitive", fn := fun _ => fun
  | [d1, d2] => { results := [.lit (.bool true)], args := [d1, d2] }
  | _ => none }
def fnExactTransitiveRow : OpenClaim := { program := "ytcbmiodilfjjjaa", sum := "adc45a4632b76d7232406d44416f422541172a13b80b3469b3eecd45150447d3", func := "loop.example/g00489/laws.FnExactTransitive", spec := "fnExactTransitive", unfollowed := true, recurses := true, apart := false }
def FnExactTransitiveSaid : Prop := fnExactTransitiveRow.holds Try.pinned (OpenSpec.ofChange fnExactTransitiveSpec)

/-- ITS FALSE NEIGHBOUR: 'it returns false'. Refute it at one input. -/
def fnExactTransitiveWrong : ChangeSpec := { name := "fnExactTransitive", fn := fun _ => fun
  | [d1, d2] => { results := [.lit (.bool false)], args := [d1, d2] }
  | _ => none }
def FnExactTransitiveWrongFalsely : Prop := fnExactTransitiveRow.holds Try.pinned (OpenSpec.ofChange fnExactTransitiveWrong)

/-- 'laws.FnExactGroups': WHATEVER THE INPUT: true; the input reads as it did. -/
def fnExactGroupsSpec : ChangeSpec := { name := "fnExactGroups", fn := fun _ => fun
  | [d1, d2] => { results := [.lit (.bool true)], args := [d1, d2] }
  | _ => none }
def fnExactGroupsRow : OpenClaim := { program := "ytcbmiodilfjjjaa", sum := "adc45a4632b76d7232406d44416f422541172a13b80b3469b3eecd45150447d3", func := "loop.example/g00489/laws.FnExactGroups", spec := "fnExactGroups", unfollowed := true, recurses := true, apart := false }
def FnExactGroupsSaid : Prop := fnExactGroupsRow.holds Try.pinned (OpenSpec.ofChange fnExactGroupsSpec)

/-- ITS FALSE NEIGHBOUR: 'it returns false'. Refute it at one input. -/
def fnExactGroupsWrong : ChangeSpec := { name := "fnExactGroups", fn := fun _ => fun
  | [d1, d2] => { results := [.lit (.bool false)], args := [d1, d2] }
  | _ => none }
def FnExactGroupsWrongFalsely : Prop := fnExactGroupsRow.holds Try.pinned (OpenSpec.ofChange fnExactGroupsWrong)

/- THE SECOND FORM. 'bulk': how many values and letters a reading holds, each counted each time it is reached (what is shared counts as often as it is met; a slice's spare places count too). A statement '..UptoSaid' is the law's where the arguments, and the package variables that the reading takes, are together of bulk at most 1048576: NARROWER than '..Said'. Prove '..Said' where nothing that the law and all that it calls make is longer than what came in: it says more and counts as full. Else prove '..UptoSaid'. A law counts once. -/
mutual
def uptoBulk {H : Type} : DataW H → Nat
  | .lit (.string bytes) => bytes.length + 1
  | .lit _ => 1
  | .nil => 1
  | .ptr d => uptoBulk d + 1
  | .slice elems spare => uptoBulkAll elems + uptoBulkAll spare + 1
  | .agg parts => uptoBulkAll parts + 1
  | .iface _ d => uptoBulk d + 1
  | .map entries => uptoBulkEntries entries + 1
  | .held _ => 1
def uptoBulkAll {H : Type} : List (DataW H) → Nat
  | [] => 0
  | d :: r => uptoBulk d + uptoBulkAll r
def uptoBulkEntries {H : Type} : List (Lit × DataW H) → Nat
  | [] => 0
  | x :: r => uptoBulkEntry x + uptoBulkEntries r
def uptoBulkEntry {H : Type} : Lit × DataW H → Nat
  | (.string bytes, d) => bytes.length + uptoBulk d + 1
  | (_, d) => uptoBulk d + 1
 end
def uptoSmall : (H : Type) → List (DataW H) → Bool := fun _ ds => decide (uptoBulkAll ds ≤ 1048576)
def OpenSpec.upto (s : _root_.Go.ChangeSpec) : _root_.Go.OpenSpec := { _root_.Go.OpenSpec.ofChange s with cond := some uptoSmall }

/-- 'laws.FnExactSum', WHERE WHAT IT READS IS OF BULK AT MOST 1048576: true; the input reads as it did. -/
def fnExactSumUptoRow : OpenClaim := { program := "ytcbmiodilfjjjaa", sum := "adc45a4632b76d7232406d44416f422541172a13b80b3469b3eecd45150447d3", func := "loop.example/g00489/laws.FnExactSum", spec := "fnExactSum", apart := false, narrowed := true }
def FnExactSumUptoSaid : Prop := fnExactSumUptoRow.holds Try.pinned (OpenSpec.upto fnExactSumSpec)

/-- 'laws.FnExactParts', WHERE WHAT IT READS IS OF BULK AT MOST 1048576: true; the input reads as it did. -/
def fnExactPartsUptoRow : OpenClaim := { program := "ytcbmiodilfjjjaa", sum := "adc45a4632b76d7232406d44416f422541172a13b80b3469b3eecd45150447d3", func := "loop.example/g00489/laws.FnExactParts", spec := "fnExactParts", apart := false, narrowed := true }
def FnExactPartsUptoSaid : Prop := fnExactPartsUptoRow.holds Try.pinned (OpenSpec.upto fnExactPartsSpec)

/-- 'laws.FnExactBeside', WHERE WHAT IT READS IS OF BULK AT MOST 1048576: true; the input reads as it did. -/
def fnExactBesideUptoRow : OpenClaim := { program := "ytcbmiodilfjjjaa", sum := "adc45a4632b76d7232406d44416f422541172a13b80b3469b3eecd45150447d3", func := "loop.example/g00489/laws.FnExactBeside", spec := "fnExactBeside", apart := false, narrowed := true }
def FnExactBesideUptoSaid : Prop := fnExactBesideUptoRow.holds Try.pinned (OpenSpec.upto fnExactBesideSpec)

/-- 'laws.FnExactTableOk', WHERE WHAT IT READS IS OF BULK AT MOST 1048576: true; the input reads as it did. -/
def fnExactTableOkUptoRow : OpenClaim := { program := "ytcbmiodilfjjjaa", sum := "adc45a4632b76d7232406d44416f422541172a13b80b3469b3eecd45150447d3", func := "loop.example/g00489/laws.FnExactTableOk", spec := "fnExactTableOk", apart := false, narrowed := true }
def FnExactTableOkUptoSaid : Prop := fnExactTableOkUptoRow.holds Try.pinned (OpenSpec.upto fnExactTableOkSpec)

/-- 'laws.FnExactGroupOf', WHERE WHAT IT READS IS OF BULK AT MOST 1048576: true; the input reads as it did. -/
def fnExactGroupOfUptoRow : OpenClaim := { program := "ytcbmiodilfjjjaa", sum := "adc45a4632b76d7232406d44416f422541172a13b80b3469b3eecd45150447d3", func := "loop.example/g00489/laws.FnExactGroupOf", spec := "fnExactGroupOf", unfollowed := true, recurses := true, apart := false, narrowed := true }
def FnExactGroupOfUptoSaid : Prop := fnExactGroupOfUptoRow.holds Try.pinned (OpenSpec.upto fnExactGroupOfSpec)

/-- 'laws.FnTables', WHERE WHAT IT READS IS OF BULK AT MOST 1048576: true; the input reads as it did. -/
def fnTablesUptoRow : OpenClaim := { program := "ytcbmiodilfjjjaa", sum := "adc45a4632b76d7232406d44416f422541172a13b80b3469b3eecd45150447d3", func := "loop.example/g00489/laws.FnTables", spec := "fnTables", apart := false, narrowed := true }
def FnTablesUptoSaid : Prop := fnTablesUptoRow.holds Try.pinned (OpenSpec.upto fnTablesSpec)

/-- 'laws.FnBounded', WHERE WHAT IT READS IS OF BULK AT MOST 1048576: true; the input reads as it did. -/
def fnBoundedUptoRow : OpenClaim := { program := "ytcbmiodilfjjjaa", sum := "adc45a4632b76d7232406d44416f422541172a13b80b3469b3eecd45150447d3", func := "loop.example/g00489/laws.FnBounded", spec := "fnBounded", unfollowed := true, recurses := true, apart := false, narrowed := true }
def FnBoundedUptoSaid : Prop := fnBoundedUptoRow.holds Try.pinned (OpenSpec.upto fnBoundedSpec)

/-- 'laws.FnExactRequestSame', WHERE WHAT IT READS IS OF BULK AT MOST 1048576: true; the input reads as it did. -/
def fnExactRequestSameUptoRow : OpenClaim := { program := "ytcbmiodilfjjjaa", sum := "adc45a4632b76d7232406d44416f422541172a13b80b3469b3eecd45150447d3", func := "loop.example/g00489/laws.FnExactRequestSame", spec := "fnExactRequestSame", apart := false, narrowed := true }
def FnExactRequestSameUptoSaid : Prop := fnExactRequestSameUptoRow.holds Try.pinned (OpenSpec.upto fnExactRequestSameSpec)

/-- 'laws.FnExactBoundsOk', WHERE WHAT IT READS IS OF BULK AT MOST 1048576: true; the input reads as it did. -/
def fnExactBoundsOkUptoRow : OpenClaim := { program := "ytcbmiodilfjjjaa", sum := "adc45a4632b76d7232406d44416f422541172a13b80b3469b3eecd45150447d3", func := "loop.example/g00489/laws.FnExactBoundsOk", spec := "fnExactBoundsOk", unfollowed := true, recurses := true, apart := false, narrowed := true }
def FnExactBoundsOkUptoSaid : Prop := fnExactBoundsOkUptoRow.holds Try.pinned (OpenSpec.upto fnExactBoundsOkSpec)

/-- 'laws.FnExactFits', WHERE WHAT IT READS IS OF BULK AT MOST 1048576: true; the input reads as it did. -/
def fnExactFitsUptoRow : OpenClaim := { program := "ytcbmiodilfjjjaa", sum := "adc45a4632b76d7232406d44416f422541172a13b80b3469b3eecd45150447d3", func := "loop.example/g00489/laws.FnExactFits", spec := "fnExactFits", recurses := true, apart := false, narrowed := true }
def FnExactFitsUptoSaid : Prop := fnExactFitsUptoRow.holds Try.pinned (OpenSpec.upto fnExactFitsSpec)

/-- 'laws.FnExactTransitive', WHERE WHAT IT READS IS OF BULK AT MOST 1048576: true; the input reads as it did. -/
def fnExactTransitiveUptoRow : OpenClaim := { program := "ytcbmiodilfjjjaa", sum := "adc45a4632b76d7232406d44416f422541172a13b80b3469b3eecd45150447d3", func := "loop.example/g00489/laws.FnExactTransitive", spec := "fnExactTransitive", unfollowed := true, recurses := true, apart := false, narrowed := true }
def FnExactTransitiveUptoSaid : Prop := fnExactTransitiveUptoRow.holds Try.pinned (OpenSpec.upto fnExactTransitiveSpec)

/-- 'laws.FnExactGroups', WHERE WHAT IT READS IS OF BULK AT MOST 1048576: true; the input reads as it did. -/
def fnExactGroupsUptoRow : OpenClaim := { program := "ytcbmiodilfjjjaa", sum := "adc45a4632b76d7232406d44416f422541172a13b80b3469b3eecd45150447d3", func := "loop.example/g00489/laws.FnExactGroups", spec := "fnExactGroups", unfollowed := true, recurses := true, apart := false, narrowed := true }
def FnExactGroupsUptoSaid : Prop := fnExactGroupsUptoRow.holds Try.pinned (OpenSpec.upto fnExactGroupsSpec)

end Rows
end Go.Proofs.Ytcbmiodilfjjjaa
