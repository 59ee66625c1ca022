/- slices.Sort, slices.Clone, slices.Compact at []int: the shelf's contracts in this text's words; kinds. -/
import Derived.Test.YtehgdhekiogppaaGreatShelf
import Derived.Test.YtehgdhekiogppaaGreatRow1
import Derived.Test.YtehgdhekiogppaaGreatApp
namespace Go.Proofs.YtehgdhekiogppaaGreat
open Go.ChangeShapes Go.WideShapes Go.ChangeAt Go.RowKit Go.Deep
set_option linter.unusedVariables false
set_option linter.unusedSimpArgs false

theorem sort_own (base : Nat) (v : Value) (zs : List Int) (w : World) (h : Own 1 encInt 3 w base v zs) (hn : zs.length ≤ 4194304) :
    Calls Tryz.prog 93 #[v] w fun e w' => e = .returned (.tuple #[]) ∧ Own 1 encInt 3 w' base v (sortL zs) ∧ w.grownBy w' v.ownBlock := by
  rcases own_form h with ⟨rfl, rfl⟩ | ⟨g, cap, rfl, hg, hlt, hnc, hcm⟩
  · refine (Tryz.slices_Sort_int_none none 0 w).mono ?_
    rintro e w' ⟨rfl, rfl⟩
    exact ⟨rfl, by simpa [sortL] using h, World.grownBy.refl _ _⟩
  · refine (Tryz.slices_Sort_int g 0 cap zs w (own_holds (ints_of_own h)) hlt (by omega)).mono ?_
    rintro e w' ⟨rfl, n, os, rfl⟩
    refine ⟨rfl, ?_, put_grown⟩
    have hp := own_put (k := n) (os := os) (d := sortL zs) (m := zs.length) (ints_of_own h) (sortL_len zs) (Nat.le_refl _)
    rw [List.take_of_length_le (by rw [sortL_len]; exact Nat.le_refl _), ← sortL_len zs] at hp
    have := own_of_ints hp
    rwa [sortL_len] at this
theorem clone_ints (lo hi : Nat) (A : Option Addr) (n c : Nat) (xs : List Int) (w : World) (hs : SlK 1 encInt w lo hi A n c xs) (hn : n ≤ 4194304) :
    Calls Tryz.prog 52 #[.slice A n c] w fun e w' => ∃ v, e = .returned v ∧ Own 1 encInt 3 w' w.heap.size v xs ∧ Below w.heap.size w w' := by
  rcases Nat.eq_zero_or_pos n with h0 | h0
  · subst h0
    have hx : xs = [] := List.eq_nil_of_length_eq_zero hs.len
    subst hx
    rcases A with _ | a
    · refine (Tryz.slices_Clone_int_nil 0 c w).mono ?_
      rintro e w' ⟨rfl, rfl⟩
      exact ⟨_, rfl, Own.nil_ _ _, Below.refl _ _⟩
    · refine (Tryz.slices_Clone_int_zero a c w).mono ?_
      rintro e w' ⟨v, rfl, ho, _, hb⟩
      exact ⟨v, rfl, own_of_ints (zs := []) ho, hb⟩
  · obtain ⟨h1, h2, h3, h4⟩ := hs
    obtain ⟨b, off, rfl, hl, hb, hc⟩ := h4 h0
    refine (Tryz.slices_Clone_int b off n c xs w (by omega) (by omega) fun j hj => ?_).mono ?_
    · have := (hc j xs[j] (List.getElem?_eq_getElem hj) 0 _ rfl).1
      simp only [Nat.mul_one, Nat.add_zero] at this
      rw [this]
      simp [List.getD, hj]
    · rintro e w' ⟨v, rfl, ho, _, hb⟩
      rw [List.take_of_length_le (by omega)] at ho
      exact ⟨v, rfl, own_of_ints ho, hb⟩
theorem compact_len (zs : List Int) : (Go.Lib.compact zs).length ≤ zs.length := by
  unfold Go.Lib.compact Go.Lib.compactUpTo
  rw [List.length_map]
  exact Nat.le_trans (List.length_filter_le _ _) (by simp)
theorem compact_own (base : Nat) (v : Value) (zs : List Int) (w : World) (h : Own 1 encInt 3 w base v zs) (hn : zs.length ≤ 4194304) :
    Calls Tryz.prog 112 #[v] w fun e w' => ∃ v', e = .returned v' ∧ Own 1 encInt 3 w' base v' (Go.Lib.compact zs) ∧ v'.ownBlock = v.ownBlock ∧ w.grownBy w' v.ownBlock := by
  rcases own_form h with ⟨rfl, rfl⟩ | ⟨g, cap, rfl, hg, hlt, hnc, hcm⟩
  · refine (Tryz.slices_Compact_int_empty none 0 w).mono ?_
    rintro e w' ⟨rfl, rfl⟩
    exact ⟨_, rfl, h, rfl, World.grownBy.refl _ _⟩
  · refine (Tryz.slices_Compact_int g 0 cap zs w (own_holds (ints_of_own h)) (by omega) hnc).mono ?_
    rintro e w' ⟨rfl, q, rfl⟩
    have hg0 : w.grownBy _ (some g) := put_grown (w := w) (g := g) (k := q) (d := (Go.Lib.compact zs ++ List.replicate (zs.length - (Go.Lib.compact zs).length) 0).toArray) (os := #[])
    have hl := compact_len zs
    have hp := own_put (k := q) (os := #[]) (d := Go.Lib.compact zs ++ List.replicate (zs.length - (Go.Lib.compact zs).length) 0) (m := (Go.Lib.compact zs).length) (ints_of_own h) (by simp; omega) hl
    rw [List.take_left' rfl] at hp
    rw [Go.Sort.grow_empty] at hp hg0
    exact ⟨_, rfl, own_of_ints hp, rfl, hg0⟩
theorem kindsL_len (zs : List Int) : (kindsL zs).length ≤ zs.length := Nat.le_trans (compact_len _) (by rw [sortL_len]; exact Nat.le_refl _)
set_option maxHeartbeats 400000 in
theorem kinds_any (lo hi : Nat) (A : Option Addr) (n c : Nat) (xs : List Int) (w : World) (hs : SlK 1 encInt w lo hi A n c xs) (hn : n ≤ 4194304) :
    Calls Tryz.prog 72 #[.slice A n c] w fun e w' => ∃ v, e = .returned v ∧ Own 1 encInt 3 w' w.heap.size v (kindsL xs) ∧ Below w.heap.size w w' := by
  have HL := hide hs.len
  go_enter Tryz.func72, Tryz.ntmps72
  go_wp2_with fail
  refine (clone_ints lo hi A n c xs _ hs hn).mono ?_
  rintro e w1 ⟨v1, rfl, ho1, hb1⟩
  have HO1 := hide ho1
  have z1 := hb1.size
  clear ho1 hs
  go_wp2_with fail
  refine (sort_own w.heap.size v1 xs _ HO1.out (by rw [HL.out]; exact hn)).mono ?_
  rintro e w2 ⟨rfl, ho2, hg2⟩
  have HO2 := hide ho2
  have hb2 := below_app0 hb1 HO1.out z1 hg2
  have z2 := hb2.size
  clear ho2
  go_wp2_with fail
  refine (compact_own w.heap.size v1 (sortL xs) _ HO2.out (by rw [sortL_len, HL.out]; exact hn)).mono ?_
  rintro e w3 ⟨v3, rfl, ho3, hv3, hg3⟩
  have hb3 := below_app0 hb2 HO2.out z2 hg3
  have HV := hide hv3
  clear hv3
  go_wp2
  go_ret
  exact ⟨_, rfl, ho3, hb3⟩
end Go.Proofs.YtehgdhekiogppaaGreat
