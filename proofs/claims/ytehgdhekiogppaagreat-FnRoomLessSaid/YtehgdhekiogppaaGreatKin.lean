/- What kinds of a list are: ascending, each once. -/
import Derived.Test.YtehgdhekiogppaaGreatSrt
namespace Go.Proofs.YtehgdhekiogppaaGreat
open Go.ChangeShapes Go.WideShapes Go.ChangeAt Go.RowKit Go.Deep
set_option linter.unusedVariables false
set_option linter.unusedSimpArgs false

/-- Of an ascending list its compact is strictly ascending, with the same members. -/
theorem compact_sorted (zs : List Int) (hs : zs.Pairwise (· ≤ ·)) : ∀ m, m ≤ zs.length → (Go.Lib.compactUpTo zs.toArray m).Pairwise (· < ·) ∧ ∀ y, y ∈ Go.Lib.compactUpTo zs.toArray m ↔ y ∈ zs.take m
  | 0, _ => ⟨by simp [Go.Lib.compactUpTo], fun y => by simp [Go.Lib.compactUpTo]⟩
  | m + 1, hm => by
    obtain ⟨h1, h2⟩ := compact_sorted zs hs m (by omega)
    have hg : zs.toArray[m]! = zs[m] := by simp [getElem!_pos, show m < zs.length by omega]
    have ht : zs.take (m + 1) = zs.take m ++ [zs[m]] := by rw [List.take_add_one, List.getElem?_eq_getElem (by omega)]; rfl
    rw [Go.Lib.compactUpTo_succ, hg, ht]
    have hle : ∀ i (hi : i < m), zs[i] ≤ zs[m] := fun i hi => List.pairwise_iff_getElem.1 hs i m (by omega) (by omega) hi
    rcases Nat.eq_zero_or_pos m with h0 | h0
    · subst h0
      have hk : Go.Lib.keeps zs.toArray 0 = true := by simp [Go.Lib.keeps]
      rw [if_pos hk]
      refine ⟨by simp [Go.Lib.compactUpTo], fun y => by simp [Go.Lib.compactUpTo]⟩
    · have hg2 : zs.toArray[m - 1]! = zs[m - 1] := by simp [getElem!_pos, show m - 1 < zs.length by omega]
      by_cases he : zs[m] = zs[m - 1]
      · have hk : Go.Lib.keeps zs.toArray m = false := Go.Lib.keeps_neg h0 (by rw [hg, hg2]; exact he)
        rw [hk]
        refine ⟨by simpa using h1, fun y => ?_⟩
        have hm1 : zs[m] ∈ zs.take m := by
          rw [he, List.mem_take_iff_getElem]
          exact ⟨m - 1, by omega, rfl⟩
        rw [if_neg (by simp), List.append_nil, h2, List.mem_append]
        constructor
        · exact .inl
        · rintro (h | h)
          · exact h
          · rw [List.mem_singleton] at h; rw [h]; exact hm1
      · have hk : Go.Lib.keeps zs.toArray m = true := Go.Lib.keeps_pos (by rw [hg, hg2]; exact he)
        rw [if_pos hk]
        refine ⟨?_, fun y => by rw [List.mem_append, List.mem_append, h2]⟩
        rw [List.pairwise_append]
        refine ⟨h1, List.pairwise_singleton _ _, fun y hy z hz => ?_⟩
        rw [List.mem_singleton] at hz
        subst hz
        rw [h2, List.mem_take_iff_getElem] at hy
        obtain ⟨i, hi, rfl⟩ := hy
        have hlt : zs[m - 1] < zs[m] := by have := hle (m - 1) (by omega); omega
        rcases Nat.lt_or_ge i (m - 1) with hlt' | hge
        · have := List.pairwise_iff_getElem.1 hs i (m - 1) (by omega) (by omega) hlt'
          omega
        · have : i = m - 1 := by omega
          subst this
          exact hlt
theorem kinds_asc (zs : List Int) : (kindsL zs).Pairwise (· < ·) ∧ ∀ y, y ∈ kindsL zs ↔ y ∈ zs := by
  obtain ⟨h1, h2⟩ := compact_sorted (sortL zs) (sortL_sorted zs) (sortL zs).length (Nat.le_refl _)
  refine ⟨h1, fun y => (h2 y).trans ?_⟩
  rw [List.take_length]
  exact (sortL_perm zs).mem_iff
theorem asc_unique {xs ys : List Int} (hx : xs.Pairwise (· < ·)) (hy : ys.Pairwise (· < ·)) (h : ∀ z, z ∈ xs ↔ z ∈ ys) : xs = ys := by
  refine sorted_unique (hx.imp (by intro a b; omega)) (hy.imp (by intro a b; omega)) ?_
  refine (List.perm_ext_iff_of_nodup ?_ ?_).2 h
  · exact hx.imp (by intro a b; omega)
  · exact hy.imp (by intro a b; omega)
end Go.Proofs.YtehgdhekiogppaaGreat
