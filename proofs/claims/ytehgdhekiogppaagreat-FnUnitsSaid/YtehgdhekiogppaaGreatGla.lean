/- What the laws say of groups, in plain words. -/
import Derived.Test.YtehgdhekiogppaaGreatGlw
import Derived.Test.YtehgdhekiogppaaGreatGps
import Derived.Test.YtehgdhekiogppaaGreatTr
import Derived.Test.YtehgdhekiogppaaGreatLw
namespace Go.Proofs.YtehgdhekiogppaaGreat
open Go.ChangeShapes Go.WideShapes Go.ChangeAt Go.RowKit Go.Deep
set_option linter.unusedVariables false
set_option linter.unusedSimpArgs false

theorem mem_kindsTo {xs : List Int} {k : Nat} {z : Int} : z ∈ kindsTo xs k ↔ (0 ≤ z ∧ z < k) ∧ z ∈ xs := by
  unfold kindsTo
  rw [List.mem_filter, mem_rng, hasB_iff]
theorem table_same {ps : List Pr} {a b : Int} (h : tableB ps 4 = true) (ha : 0 ≤ a ∧ a < 4) (hb : 0 ≤ b ∧ b < 4) : besB ps a b = besB ps b a := by
  unfold tableB at h
  rw [Bool.and_eq_true] at h
  have h1 := List.all_eq_true.1 h.2 a.toNat (List.mem_range.2 (by show a.toNat < (4 : Int).toNat; omega))
  unfold rowB at h1
  rw [Bool.and_eq_true] at h1
  have h2 := List.all_eq_true.1 h1.2 b.toNat (List.mem_range.2 (by show b.toNat < (4 : Int).toNat; omega))
  unfold symB at h2
  rw [beq_iff_eq, Int.toNat_of_nonneg ha.1, Int.toNat_of_nonneg hb.1] at h2
  exact h2
theorem table_self {ps : List Pr} {a : Int} (h : tableB ps 4 = true) (ha : 0 ≤ a ∧ a < 4) : besB ps a a = true := by
  unfold tableB at h
  rw [Bool.and_eq_true] at h
  have h1 := List.all_eq_true.1 h.2 a.toNat (List.mem_range.2 (by show a.toNat < (4 : Int).toNat; omega))
  unfold rowB at h1
  rw [Bool.and_eq_true, Int.toNat_of_nonneg ha.1] at h1
  exact h1.1
theorem mutB_sym (ps : List Pr) (a b : Int) : mutB ps a b = mutB ps b a := Bool.and_comm _ _
theorem apart_bes {ps : List Pr} {xs : List Int} (ht : tableB ps 4 = true) (hr : trB ps xs = true) {i k : Nat} {gi gk : List Int} (hk : k < i) (hi : (grpR ps xs)[i]? = some gi) (hgk : (grpR ps xs)[k]? = some gk) {x y : Int} (hx : x ∈ gi) (hy : y ∈ gk) : besB ps x y = false := by
  have hin : ∀ (j : Nat) g, (grpR ps xs)[j]? = some g → ∀ z ∈ g, (0 ≤ z ∧ z < 4) ∧ z ∈ xs := fun j g hj z hz => mem_kindsTo.1 (((ginv_all (mutB ps) (kindsTo xs 4)).mem z).2 ⟨g, List.mem_of_getElem? hj, hz⟩)
  have h1 := groups_apart (m := mutB ps) (ks := kindsTo xs 4) (mutB_sym ps) (fun a ha b hb c hc hab hbc => by
      have ha' := mem_kindsTo.1 ha
      have hb' := mem_kindsTo.1 hb
      have hc' := mem_kindsTo.1 hc
      simp only [mutB, Bool.and_eq_true] at hab hbc ⊢
      exact ⟨(trB_iff ps xs).1 hr a ha'.2 b hb'.2 c hc'.2 hab.1 hbc.1, (trB_iff ps xs).1 hr c hc'.2 b hb'.2 a ha'.2 hbc.2 hab.2⟩)
    (fun a ha => by
      have ha' := mem_kindsTo.1 ha
      simp only [mutB, Bool.and_eq_true]
      exact ⟨table_self ht ha'.1, table_self ht ha'.1⟩) hk hi hgk hx hy
  have e := table_same ht (hin i gi hi x hx).1 (hin k gk hgk y hy).1
  unfold mutB at h1
  rw [← e, Bool.and_self] at h1
  exact h1
/-- In a group all may lie beside all. -/
theorem group_bes {ps : List Pr} {xs : List Int} {i : Nat} {g : List Int} (hi : (grpR ps xs)[i]? = some g) {a b : Nat} {x y : Int} (ha : g[a]? = some x) (hb : g[b]? = some y) (hne : a ≠ b) : besB ps x y = true := by
  have h := (ginv_all (mutB ps) (kindsTo xs 4)).pair g (List.mem_of_getElem? hi)
  rw [List.pairwise_iff_getElem] at h
  obtain ⟨ha1, rfl⟩ := List.getElem?_eq_some_iff.1 ha
  obtain ⟨hb1, rfl⟩ := List.getElem?_eq_some_iff.1 hb
  rcases Nat.lt_or_ge a b with hl | hl
  · have := h a b ha1 hb1 hl
    simp only [mutB, Bool.and_eq_true] at this
    exact this.1
  · have := h b a hb1 ha1 (by omega)
    simp only [mutB, Bool.and_eq_true] at this
    exact this.2
theorem group_pos {ps : List Pr} {xs : List Int} {i : Nat} {g : List Int} (hi : (grpR ps xs)[i]? = some g) : 0 < g.length := by
  obtain ⟨h, t, rfl, _⟩ := (ginv_all (mutB ps) (kindsTo xs 4)).head i g hi
  simp
/-- The first of a later group may not with all of an earlier one. -/
theorem group_head {ps : List Pr} {xs : List Int} {i k : Nat} {g gk : List Int} (hi : (grpR ps xs)[i]? = some g) (hk : (grpR ps xs)[k]? = some gk) (hlt : k < i) {h : Int} (hh : g[0]? = some h) : joinB (mutB ps) gk h = false := by
  obtain ⟨h', t, rfl, hall⟩ := (ginv_all (mutB ps) (kindsTo xs 4)).head i g hi
  simp only [List.getElem?_cons_zero, Option.some.injEq] at hh
  subst hh
  obtain ⟨y, hy, hf⟩ := hall k gk hlt hk
  unfold joinB
  rw [List.all_eq_false]
  exact ⟨y, hy, by rw [hf]; simp⟩
theorem gofL_spec {ps : List Pr} {xs : List Int} {cl : Int} (hc : 0 ≤ cl ∧ cl < 4) : decide (0 ≤ gofL (grpR ps xs) cl) = hasB xs cl := by
  unfold gofL
  rw [idxOf_nonneg, Bool.eq_iff_iff, List.any_eq_true, hasB_iff]
  have h := (ginv_all (mutB ps) (kindsTo xs 4)).mem cl
  rw [mem_kindsTo] at h
  constructor
  · rintro ⟨g, hg, hb⟩
    exact (h.2 ⟨g, hg, (hasB_iff g cl).1 hb⟩).2
  · intro hx
    obtain ⟨g, hg, hb⟩ := h.1 ⟨hc, hx⟩
    exact ⟨g, hg, (hasB_iff g cl).2 hb⟩
theorem gofL_lt (gs : List (List Int)) (cl : Int) : gofL gs cl < gs.length ∧ -1 ≤ gofL gs cl := by
  unfold gofL
  rcases idxOf_cases (fun g => hasB g cl) gs with h | ⟨i, hi, h⟩
  · rw [h]; omega
  · rw [h]; omega
/-- joinB from a place on. -/
theorem joinB_take {m : Int → Int → Bool} {g : List Int} {k x : Int} {j : Nat} (hx : g[j]? = some x) : joinB m (g.take (j + 1)) k = (joinB m (g.take j) k && m x k) := by
  unfold joinB
  rw [take_snoc hx, List.all_append]
  simp
end Go.Proofs.YtehgdhekiogppaaGreat
