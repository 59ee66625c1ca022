/- slices.Sort, slices.Clone, slices.Compact at []int: the shelf's contracts in this text's words; kinds. -/
import Derived.Test.YtbgcljpoiajcjaaGreatShelf
import Derived.Test.YtbgcljpoiajcjaaGreatRow1
import Derived.Test.YtbgcljpoiajcjaaGreatApp
namespace Go.Proofs.YtbgcljpoiajcjaaGreat
open Go.ChangeShapes Go.WideShapes Go.ChangeAt Go.RowKit Go.Deep
set_option linter.unusedVariables false
set_option linter.unusedSimpArgs false

theorem sort_own (base : Nat) (v : Value) (zs : List Int) (w : World) (h : Own 1 encInt 3 w base v zs) (hn : zs.length ≤ 4194304) :
    Calls Tryz.prog 77 #[v] w fun e w' => e = .returned (.tuple #[]) ∧ Own 1 encInt 3 w' base v (sortL zs) ∧ w.grownBy w' v.ownBlock := by
  rcases own_form h with ⟨rfl, rfl⟩ | ⟨g, cap, rfl, hg, hlt, hnc, hcm⟩
  · refine (Tryz.slices_Sort_int_none none 0 w).mono ?_
    rintro e w' ⟨rfl, rfl⟩
    exact ⟨rfl, by simpa [sortL] using h, World.grownBy.refl _ _⟩
  · refine (Tryz.slices_Sort_int g 0 cap zs w (own_holds (ints_of_own h)) hlt (by omega)).mono ?_
    rintro e w' ⟨rfl, n, os, rfl⟩
    refine ⟨rfl, ?_, put_grown⟩
    have hp := own_put (k := n) (os := os) (d := sortL zs) (m := zs.length) (ints_of_own h) (sortL_len zs) (Nat.le_refl _)
    rw [List.take_of_length_le (by rw [sortL_len]; exact Nat.le_refl _), ← sortL_len zs] at hp
    have := own_of_ints hp
    rwa [sortL_len] at this
theorem clone_ints (lo hi : Nat) (A : Option Addr) (n c : Nat) (xs : List Int) (w : World) (hs : SlK 1 encInt w lo hi A n c xs) (hn : n ≤ 4194304) :
    Calls Tryz.prog 68 #[.slice A n c] w fun e w' => ∃ v, e = .returned v ∧ Own 1 encInt 3 w' w.heap.size v xs ∧ Below w.heap.size w w' := by
  rcases Nat.eq_zero_or_pos n with h0 | h0
  · subst h0
    have hx : xs = [] := List.eq_nil_of_length_eq_zero hs.len
    subst hx
    rcases A with _ | a
    · refine (Tryz.slices_Clone_int_nil 0 c w).mono ?_
      rintro e w' ⟨rfl, rfl⟩
      exact ⟨_, rfl, Own.nil_ _ _, Below.refl _ _⟩
    · refine (Tryz.slices_Clone_int_zero a c w).mono ?_
      rintro e w' ⟨v, rfl, ho, _, hb⟩
      exact ⟨v, rfl, own_of_ints (zs := []) ho, hb⟩
  · obtain ⟨h1, h2, h3, h4⟩ := hs
    obtain ⟨b, off, rfl, hl, hb, hc⟩ := h4 h0
    refine (Tryz.slices_Clone_int b off n c xs w (by omega) (by omega) fun j hj => ?_).mono ?_
    · have := (hc j xs[j] (List.getElem?_eq_getElem hj) 0 _ rfl).1
      simp only [Nat.mul_one, Nat.add_zero] at this
      rw [this]
      simp [List.getD, hj]
    · rintro e w' ⟨v, rfl, ho, _, hb⟩
      rw [List.take_of_length_le (by omega)] at ho
      exact ⟨v, rfl, own_of_ints ho, hb⟩
end Go.Proofs.YtbgcljpoiajcjaaGreat
