/- Transitive and GroupOf, the program's and the reference's. -/
import Derived.Test.YtehgdhekiogppaaGreatF2
import Derived.Test.YtehgdhekiogppaaGreatC4
import Derived.Test.YtehgdhekiogppaaGreatKin
namespace Go.Proofs.YtehgdhekiogppaaGreat
open Go.ChangeShapes Go.WideShapes Go.ChangeAt Go.RowKit Go.Deep
set_option linter.unusedVariables false
set_option linter.unusedSimpArgs false

/-- No triple of the list breaks the table. -/
def trBadAB (ps : List Pr) (xs : List Int) (a b : Int) : Bool := xs.any fun c => besB ps b c && !besB ps a c
def trB (ps : List Pr) (xs : List Int) : Bool := xs.all fun b => xs.all fun a => !(besB ps a b && trBadAB ps xs a b)
theorem trB_iff (ps : List Pr) (xs : List Int) : trB ps xs = true ↔ ∀ a ∈ xs, ∀ b ∈ xs, ∀ c ∈ xs, besB ps a b = true → besB ps b c = true → besB ps a c = true := by
  simp only [trB, trBadAB, List.all_eq_true, Bool.not_eq_true', Bool.and_eq_false_iff, List.any_eq_false, Bool.and_eq_true, not_and, Bool.not_eq_true, Bool.not_eq_false]
  constructor
  · intro h a ha b hb c hc h1 h2
    rcases h b hb a ha with h3 | h3
    · rw [h1] at h3; cases h3
    · exact h3 c hc h2
  · intro h b hb a ha
    cases h1 : besB ps a b
    · exact .inl rfl
    · exact .inr fun c hc h2 => h a ha b hb c hc h1 h2
theorem trB_kinds (ps : List Pr) (xs ys : List Int) (h : ∀ y, y ∈ ys ↔ y ∈ xs) : trB ps ys = trB ps xs := by
  rw [Bool.eq_iff_iff, trB_iff, trB_iff]
  simp only [h]
/-- No a of the list breaks the table in front of b. -/
def badAB (ps : List Pr) (xs : List Int) (a b : Int) : Bool := besB ps a b && trBadAB ps xs a b
theorem trB_no {ps : List Pr} {xs : List Int} {a b : Int} (hb : b ∈ xs) (ha : a ∈ xs) (h : badAB ps xs a b = true) : trB ps xs = false := by
  unfold trB
  rw [List.all_eq_false]
  refine ⟨b, hb, ?_⟩
  rw [Bool.not_eq_true, List.all_eq_false]
  exact ⟨a, ha, by unfold badAB at h; rw [h]; simp⟩
theorem trB_yes {ps : List Pr} {xs : List Int} {m : Nat} (hm : xs.length ≤ m) (h : ∀ b ∈ xs.take m, ∀ a ∈ xs, badAB ps xs a b = false) : trB ps xs = true := by
  rw [List.take_of_length_le hm] at h
  unfold trB
  rw [List.all_eq_true]
  intro b hb
  rw [List.all_eq_true]
  intro a ha
  have := h b hb a ha
  unfold badAB at this
  rw [this]
  rfl
theorem cols_snoc {ps : List Pr} {xs : List Int} {k m : Nat} {b : Int} (hx : xs[k]? = some b) (hm : xs.length ≤ m) (h : ∀ b ∈ xs.take k, ∀ a ∈ xs, badAB ps xs a b = false) (h2 : ∀ a ∈ xs.take m, badAB ps xs a b = false) : ∀ b ∈ xs.take (k + 1), ∀ a ∈ xs, badAB ps xs a b = false := by
  rw [List.take_of_length_le hm] at h2
  intro y hy
  rcases mem_take_succ hx hy with h3 | h3
  · exact h y h3
  · rw [h3]; exact h2
theorem row_snoc {ps : List Pr} {xs : List Int} {j : Nat} {a b : Int} (hx : xs[j]? = some a) (h : ∀ a ∈ xs.take j, badAB ps xs a b = false) (h2 : badAB ps xs a b = false) : ∀ a ∈ xs.take (j + 1), badAB ps xs a b = false := by
  intro y hy
  rcases mem_take_succ hx hy with h3 | h3
  · exact h y h3
  · rw [h3]; exact h2
end Go.Proofs.YtehgdhekiogppaaGreat
