/- slices.Sort, slices.Clone, slices.Compact at []int: the shelf's contracts in this text's words; kinds. -/
import Derived.Test.YtcjcmdikopipjaaShelf
import Derived.Test.YtcjcmdikopipjaaRow1
import Derived.Test.YtcjcmdikopipjaaApp
namespace Go.Proofs.Ytcjcmdikopipjaa
open Go.ChangeShapes Go.WideShapes Go.ChangeAt Go.RowKit Go.Deep
set_option linter.unusedVariables false
set_option linter.unusedSimpArgs false

theorem sort_own (base : Nat) (v : Value) (zs : List Int) (w : World) (h : Own 1 encInt 3 w base v zs) (hn : zs.length ≤ 4194304) :
    Calls Try.prog 109 #[v] w fun e w' => e = .returned (.tuple #[]) ∧ Own 1 encInt 3 w' base v (sortL zs) ∧ w.grownBy w' v.ownBlock := by
  rcases own_form h with ⟨rfl, rfl⟩ | ⟨g, cap, rfl, hg, hlt, hnc, hcm⟩
  · refine (Try.slices_Sort_int_none none 0 w).mono ?_
    rintro e w' ⟨rfl, rfl⟩
    exact ⟨rfl, by simpa [sortL] using h, World.grownBy.refl _ _⟩
  · refine (Try.slices_Sort_int g 0 cap zs w (own_holds (ints_of_own h)) hlt (by omega)).mono ?_
    rintro e w' ⟨rfl, n, os, rfl⟩
    refine ⟨rfl, ?_, put_grown⟩
    have hp := own_put (k := n) (os := os) (d := sortL zs) (m := zs.length) (ints_of_own h) (sortL_len zs) (Nat.le_refl _)
    rw [List.take_of_length_le (by rw [sortL_len]; exact Nat.le_refl _), ← sortL_len zs] at hp
    have := own_of_ints hp
    rwa [sortL_len] at this
end Go.Proofs.Ytcjcmdikopipjaa
