/- A row of numbers that is written over: what stands in it afterwards. No program in sight. -/
import Derived.Test.YtkpakpjbpmnbgaaMem
import Derived.Sort.Grow
import Derived.Lib.SlicesCompact
namespace Go.Proofs.Ytkpakpjbpmnbgaa
open Go.ChangeShapes Go.WideShapes Go.ChangeAt Go.RowKit Go.Deep
set_option linter.unusedVariables false
set_option linter.unusedSimpArgs false

theorem ints_flat : ∀ zs : List Int, zs.flatMap encInt = zs.map (Value.int .i64)
  | [] => rfl
  | z :: zs => by rw [List.flatMap_cons, ints_flat zs]; rfl
theorem put_take (d : List Int) (c : Array Value) (h : d.length ≤ c.size) : (Go.Sort.putCells (Value.int .i64) 0 d.toArray c).toList.take d.length = d.map (Value.int .i64) := by
  apply List.ext_getElem?
  intro i
  rw [List.getElem?_take, List.getElem?_map]
  by_cases hi : i < d.length
  · rw [if_pos hi]
    simp only [Go.Sort.putCells, Array.getElem?_toList, Array.getElem?_mapIdx]
    rw [Array.getElem?_eq_getElem (by omega), List.getElem?_eq_getElem hi]
    simp [hi]
  · rw [if_neg hi, List.getElem?_eq_none (by omega)]
    rfl
theorem put_grown {w : World} {g k : Nat} {d : Array Int} {os : Array Obj} : w.grownBy (Go.Sort.grow (Go.Sort.putRow (Value.int .i64) (Go.Sort.ahead w k) g 0 d) os) (some g) := by
  refine ⟨rfl, rfl, rfl, by simp [Go.Sort.grow], fun i hi hne => ?_⟩
  rw [Go.Sort.heap_grow_old _ _ (by simpa using hi)]
  have : g ≠ i := fun e => hne (by rw [e])
  simp [Go.Sort.putRow, Go.Sort.mapBlock, Array.getElem?_modify, this]
/-- The row's first n cells are written over; the slice is cut to m. -/
theorem own_put {w : World} {base : Nat} {e : TypeId} {g n cap m k : Nat} {xs : List Value} {d : List Int} {os : Array Obj} (h : w.ownsRow base e 1 (.slice (some ⟨g, 0, none⟩) n cap) n xs) (hd : d.length = n) (hm : m ≤ n) :
    (Go.Sort.grow (Go.Sort.putRow (Value.int .i64) (Go.Sort.ahead w k) g 0 d.toArray) os).ownsRow base e 1 (.slice (some ⟨g, 0, none⟩) m cap) m ((d.take m).map (Value.int .i64)) := by
  obtain ⟨h1, h2⟩ := h
  rcases h2 with ⟨h2, _⟩ | ⟨g', cap', cur, hv, hg, hh, hnc, hcm, hcs, htake⟩
  · cases h2
  · injection hv with e1 e2 e3
    injection e1 with e1
    injection e1 with e1
    subst e1 e3
    have hlt : g < w.heap.size := (Array.getElem?_eq_some_iff.1 hh).1
    refine ⟨by simp [hd]; omega, .inr ⟨g, cap, Go.Sort.putCells (Value.int .i64) 0 d.toArray cur, rfl, hg, ?_, by omega, hcm, by simpa [Go.Sort.putCells] using hcs, ?_⟩⟩
    · rw [Go.Sort.heap_grow_old _ _ (by simpa using hlt)]
      simp [Go.Sort.putRow, Go.Sort.mapBlock, Array.getElem?_modify, Go.Sort.onCells, hh]
    · have h3 := put_take d cur (by omega)
      rw [Nat.mul_one, ← List.map_take.symm, ← h3, List.take_take, hd, Nat.min_eq_left hm]
/-- What lies in an own row, as the sort's words ask it. -/
theorem own_holds {w : World} {base : Nat} {e : TypeId} {g n cap : Nat} {zs : List Int} (h : w.ownsRow base e 1 (.slice (some ⟨g, 0, none⟩) n cap) n (zs.map (Value.int .i64))) : Go.Sort.Holds (Value.int .i64) w g 0 zs.toArray := by
  intro j hj
  have hl : zs.length = n := by have := h.1; simpa using this
  have hj' : j < zs.length := by simpa using hj
  rw [Nat.zero_add]
  refine ⟨?_, h.frozenAt _⟩
  rw [h.cellAt _ (by omega), List.getElem?_map, List.getElem?_eq_getElem hj']
  simp [hj']
theorem own_of_ints {w : World} {base : Nat} {e : TypeId} {v : Value} {n : Nat} {zs : List Int} (h : w.ownsRow base e 1 v n (zs.map (Value.int .i64))) : Own 1 encInt e w base v zs := by
  have hl : zs.length = n := by have := h.1; simpa using this
  show w.ownsRow base e 1 v zs.length (zs.flatMap encInt)
  rw [ints_flat, hl]
  exact h
theorem ints_of_own {w : World} {base : Nat} {e : TypeId} {v : Value} {zs : List Int} (h : Own 1 encInt e w base v zs) : w.ownsRow base e 1 v zs.length (zs.map (Value.int .i64)) := by
  have h' : w.ownsRow base e 1 v zs.length (zs.flatMap encInt) := h
  rwa [ints_flat] at h'
theorem own_form {w : World} {base : Nat} {e : TypeId} {v : Value} {zs : List Int} (h : Own 1 encInt e w base v zs) : (v = .slice none 0 0 ∧ zs = []) ∨ ∃ g cap, v = .slice (some ⟨g, 0, none⟩) zs.length cap ∧ base ≤ g ∧ g < w.heap.size ∧ zs.length ≤ cap ∧ cap ≤ maxLen := by
  obtain ⟨_, h2⟩ := h
  rcases h2 with ⟨h2, h3⟩ | ⟨g, cap, cur, hv, hg, hh, hnc, hcm, _⟩
  · exact .inl ⟨h2, List.eq_nil_of_length_eq_zero h3⟩
  · exact .inr ⟨g, cap, hv, hg, (Array.getElem?_eq_some_iff.1 hh).1, hnc, hcm⟩

/-! ### sorted lists -/
def sortL (zs : List Int) : List Int := zs.mergeSort fun x y => decide (x ≤ y)
theorem sortL_perm (zs : List Int) : (sortL zs).Perm zs := List.mergeSort_perm _ _
theorem sortL_len (zs : List Int) : (sortL zs).length = zs.length := (sortL_perm zs).length_eq
theorem sortL_sorted (zs : List Int) : (sortL zs).Pairwise (· ≤ ·) := by
  have := List.pairwise_mergeSort (le := fun x y : Int => decide (x ≤ y)) (by intro a b c; simp; omega) (by intro a b; simp; omega) zs
  exact this.imp (by simp)
theorem sorted_unique : ∀ {xs ys : List Int}, xs.Pairwise (· ≤ ·) → ys.Pairwise (· ≤ ·) → xs.Perm ys → xs = ys := by
  intro xs ys hx hy hp
  exact hp.eq_of_pairwise (fun a b _ _ h1 h2 => Int.le_antisymm h1 h2) hx hy
/-- Ascending, each once. -/
def kindsL (zs : List Int) : List Int := Go.Lib.compact (sortL zs)
end Go.Proofs.Ytkpakpjbpmnbgaa
