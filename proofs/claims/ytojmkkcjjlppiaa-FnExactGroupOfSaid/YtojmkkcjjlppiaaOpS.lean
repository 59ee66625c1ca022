/- From a law's arguments to this text's words: slices of slices of numbers. -/
import Derived.Test.YtojmkkcjjlppiaaRw
import Derived.Test.YtojmkkcjjlppiaaOpG
import Derived.Test.YtojmkkcjjlppiaaF2
namespace Go.Proofs.Ytojmkkcjjlppiaa
open Go.ChangeShapes Go.WideShapes Go.ChangeAt Go.RowKit Go.Deep
set_option linter.unusedVariables false
set_option linter.unusedSimpArgs false

section
variable {H : Type} {enc : TypeId × Value → H} {P : Program} {W : World}
instance : Inhabited IRow := ⟨⟨none, 0, 0, []⟩⟩
theorem open_iss {t e f : TypeId} {fuel : Nat} {v : Value} {x : DataW H × List MemPlace} (ht : P.underlying t = some (.slice e)) (hC : P.cellsOf e = 1) (he : P.underlying e = some (.slice f)) (hf : P.underlying f = some (.int .i64)) (hfC : P.cellsOf f = 1)
    (h : DataW.trod enc P W 0 (fun _ => true) true fuel t [v] = some x) (hfz : W.noneFrozen x.2) : ∃ A n c rows, v = .slice A n c ∧ RowsAt W 0 W.heap.size A n c rows := by
  obtain ⟨A, n, c, ys, hv, hs, hr⟩ := open_gen (encA := encRow) (R := fun x => SlK 1 encInt W 0 W.heap.size x.A x.n x.c x.xs) ht hC (by omega) (fun m cs y hy hz => by
    have hcs : ∃ u, cs = [u] := by
      rcases open_slice he hy with ⟨h0, _⟩ | ⟨a, len, cap, m, n, D, Pl, h0, _⟩
      · exact ⟨_, h0⟩
      · exact ⟨_, h0⟩
    obtain ⟨u, rfl⟩ := hcs
    obtain ⟨A', n', c', xs, rfl, hs⟩ := open_is he hf hfC hy hz
    exact ⟨⟨A', n', c', xs⟩, rfl, rfl, hs⟩) h hfz
  exact ⟨A, n, c, ys, hv, hs, hr⟩
end
end Go.Proofs.Ytojmkkcjjlppiaa
