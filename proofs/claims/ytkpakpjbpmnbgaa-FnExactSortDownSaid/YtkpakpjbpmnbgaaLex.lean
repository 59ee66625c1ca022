/- Stable sorting of places by keys: the plain law. No program in sight. -/
import Derived.Test.YtkpakpjbpmnbgaaRow1
namespace Go.Proofs.Ytkpakpjbpmnbgaa
set_option linter.unusedVariables false
set_option linter.unusedSimpArgs false

def keyAt (ks : List Int) (i : Int) : Int := ks.getD i.toNat 0
/-- Place x goes ahead of place y by its key alone. -/
def lessK (ks : List Int) (down : Bool) (x y : Int) : Bool := if down then decide (keyAt ks y < keyAt ks x) else decide (keyAt ks x < keyAt ks y)
def leK (ks : List Int) (down : Bool) (x y : Int) : Bool := lessK ks down x y || (!lessK ks down y x && decide (x ≤ y))
def sortBy (ks : List Int) (down : Bool) (l : List Int) : List Int := l.mergeSort (leK ks down)
theorem leK_iff (ks : List Int) (down : Bool) (x y : Int) : leK ks down x y = true ↔
    (down = true ∧ (keyAt ks y < keyAt ks x ∨ (keyAt ks y = keyAt ks x ∧ x ≤ y))) ∨ (down = false ∧ (keyAt ks x < keyAt ks y ∨ (keyAt ks x = keyAt ks y ∧ x ≤ y))) := by
  unfold leK lessK
  cases down
  · simp; omega
  · simp; omega
theorem leK_trans (ks : List Int) (down : Bool) (a b c : Int) (h : leK ks down a b = true) (h' : leK ks down b c = true) : leK ks down a c = true := by
  rw [leK_iff] at *
  cases down
  · simp at *; omega
  · simp at *; omega
theorem leK_total (ks : List Int) (down : Bool) (a b : Int) : (leK ks down a b || leK ks down b a) = true := by
  rw [Bool.or_eq_true, leK_iff, leK_iff]
  cases down
  · simp; omega
  · simp; omega
theorem leK_anti (ks : List Int) (down : Bool) (a b : Int) (h : leK ks down a b = true) (h' : leK ks down b a = true) : a = b := by
  rw [leK_iff] at *
  cases down
  · simp at *; omega
  · simp at *; omega
theorem sortBy_perm (ks : List Int) (down : Bool) (l : List Int) : (sortBy ks down l).Perm l := List.mergeSort_perm _ _
theorem sortBy_len (ks : List Int) (down : Bool) (l : List Int) : (sortBy ks down l).length = l.length := (sortBy_perm ks down l).length_eq
theorem sortBy_sorted (ks : List Int) (down : Bool) (l : List Int) : (sortBy ks down l).Pairwise (fun a b => leK ks down a b = true) :=
  List.pairwise_mergeSort (leK_trans ks down) (leK_total ks down) l
theorem sortBy_unique {ks : List Int} {down : Bool} {l l' : List Int} (hs : l'.Pairwise (fun a b => leK ks down a b = true)) (hp : l'.Perm l) : l' = sortBy ks down l :=
  (hp.trans (sortBy_perm ks down l).symm).eq_of_pairwise (fun a b _ _ h1 h2 => leK_anti ks down a b h1 h2) hs (sortBy_sorted ks down l)
theorem sortBy_small (ks : List Int) (down : Bool) {l : List Int} (h : l.length < 2) : sortBy ks down l = l := by
  refine (sortBy_unique ?_ (List.Perm.refl l)).symm
  match l, h with
  | [], _ => exact List.Pairwise.nil
  | [x], _ => exact List.pairwise_singleton _ _
def mrg (ks : List Int) (down : Bool) (a b : List Int) : List Int := List.merge a b (leK ks down)
theorem mrg_sorted (ks : List Int) (down : Bool) (l l' : List Int) : mrg ks down (sortBy ks down l) (sortBy ks down l') = sortBy ks down (l ++ l') := by
  refine sortBy_unique (List.pairwise_merge (leK_trans ks down) (leK_total ks down) _ _ (sortBy_sorted ks down l) (sortBy_sorted ks down l')) ?_
  exact (List.merge_perm_append (leK ks down)).trans ((sortBy_perm ks down l).append (sortBy_perm ks down l'))
/-- The loop's state: what has been put out, and what is still to be merged. -/
def MrgAt (ks : List Int) (down : Bool) (a b : List Int) (i j : Nat) (out : List Int) : Prop := mrg ks down a b = out ++ mrg ks down (a.drop i) (b.drop j)
theorem mrg0 (ks : List Int) (down : Bool) (a b : List Int) : MrgAt ks down a b 0 0 [] := by simp [MrgAt]
theorem drop_of {xs : List Int} {i : Nat} {x : Int} (h : xs[i]? = some x) : xs.drop i = x :: xs.drop (i + 1) := by
  obtain ⟨hi, rfl⟩ := List.getElem?_eq_some_iff.1 h
  exact List.drop_eq_getElem_cons hi
theorem MrgAt.left {ks : List Int} {down : Bool} {a b : List Int} {i j : Nat} {out : List Int} {x : Int} (h : MrgAt ks down a b i j out) (hx : a[i]? = some x) (hb : b.length ≤ j) : MrgAt ks down a b (i + 1) j (out ++ [x]) := by
  unfold MrgAt mrg at *
  rw [h, drop_of hx, List.drop_of_length_le hb]
  simp
theorem MrgAt.right {ks : List Int} {down : Bool} {a b : List Int} {i j : Nat} {out : List Int} {y : Int} (h : MrgAt ks down a b i j out) (hy : b[j]? = some y) (ha : a.length ≤ i) : MrgAt ks down a b i (j + 1) (out ++ [y]) := by
  unfold MrgAt mrg at *
  rw [h, drop_of hy, List.drop_of_length_le ha]
  simp
theorem leK_apart {ks : List Int} {down : Bool} {x y : Int} (h : x < y) : leK ks down x y = !lessK ks down y x := by
  unfold leK lessK
  cases down
  · simp; rw [Bool.eq_iff_iff]; simp; omega
  · simp; rw [Bool.eq_iff_iff]; simp; omega
theorem MrgAt.stepR {ks : List Int} {down : Bool} {a b : List Int} {i j : Nat} {out : List Int} {x y : Int} (h : MrgAt ks down a b i j out) (hx : a[i]? = some x) (hy : b[j]? = some y) (hxy : x < y) (hl : lessK ks down y x = true) : MrgAt ks down a b i (j + 1) (out ++ [y]) := by
  unfold MrgAt mrg at *
  rw [h, drop_of hx, drop_of hy, List.cons_merge_cons, leK_apart hxy, hl]
  simp
theorem MrgAt.stepL {ks : List Int} {down : Bool} {a b : List Int} {i j : Nat} {out : List Int} {x y : Int} (h : MrgAt ks down a b i j out) (hx : a[i]? = some x) (hy : b[j]? = some y) (hxy : x < y) (hl : lessK ks down y x = false) : MrgAt ks down a b (i + 1) j (out ++ [x]) := by
  unfold MrgAt mrg at *
  rw [h, drop_of hx, drop_of hy, List.cons_merge_cons, leK_apart hxy, hl]
  simp
theorem MrgAt.done {ks : List Int} {down : Bool} {a b : List Int} {i j : Nat} {out : List Int} (h : MrgAt ks down a b i j out) (ha : a.length ≤ i) (hb : b.length ≤ j) : out = mrg ks down a b := by
  unfold MrgAt mrg at *
  rw [h, List.drop_of_length_le ha, List.drop_of_length_le hb]
  simp
/-- The places from 0 to n - 1. -/
def rng (n : Nat) : List Int := (List.range n).map fun i : Nat => (i : Int)
theorem rng_len (n : Nat) : (rng n).length = n := by simp [rng]
theorem rng_succ (n : Nat) : rng (n + 1) = rng n ++ [(n : Int)] := by simp [rng, List.range_succ]
theorem rng_lt (n : Nat) : (rng n).Pairwise (· < ·) := by
  unfold rng
  rw [List.pairwise_map]
  exact List.pairwise_lt_range.imp (by intro a b h; omega)
theorem mem_rng {n : Nat} {x : Int} : x ∈ rng n ↔ 0 ≤ x ∧ x < n := by
  simp only [rng, List.mem_map, List.mem_range]
  constructor
  · rintro ⟨i, hi, rfl⟩; omega
  · intro h; exact ⟨x.toNat, by omega, by omega⟩
/-- The keys in the order of the sorted places, ascending, are the sorted keys. -/
theorem keys_sorted (ks : List Int) : (sortBy ks false (rng ks.length)).map (keyAt ks) = sortL ks := by
  refine sorted_unique ?_ (sortL_sorted ks) ?_
  · rw [List.pairwise_map]
    refine (sortBy_sorted ks false _).imp ?_
    intro a b h
    rw [leK_iff] at h
    simp at h
    omega
  · refine ((sortBy_perm ks false _).map (keyAt ks)).trans ?_
    refine (List.Perm.of_eq ?_).trans (sortL_perm ks).symm
    unfold rng
    rw [List.map_map]
    apply List.ext_getElem
    · simp
    · intro i h1 h2
      have : i < ks.length := by simpa using h1
      simp [keyAt, this]
/-! ### three numbers -/
def lo3 (a b c : Int) : Int := min (min a b) c
def hi3 (a b c : Int) : Int := max (max a b) c
def mid3 (a b c : Int) : Int := a + b + c - lo3 a b c - hi3 a b c
theorem perm3 (a b c : Int) : [lo3 a b c, mid3 a b c, hi3 a b c].Perm [a, b, c] := by
  have P1 : [a, c, b].Perm [a, b, c] := (List.Perm.swap b c []).cons a
  have P2 : [b, a, c].Perm [a, b, c] := List.Perm.swap a b [c]
  have P3 : [c, a, b].Perm [a, b, c] := (List.Perm.swap a c [b]).trans P1
  have P4 : [b, c, a].Perm [a, b, c] := ((List.Perm.swap a c []).cons b).trans P2
  have P5 : [c, b, a].Perm [a, b, c] := (List.Perm.swap b c [a]).trans P4
  by_cases h1 : a ≤ b
  · by_cases h2 : b ≤ c
    · rw [show lo3 a b c = a by unfold lo3; omega, show hi3 a b c = c by unfold hi3; omega, show mid3 a b c = b by unfold mid3 lo3 hi3; omega]
    · by_cases h3 : a ≤ c
      · rw [show lo3 a b c = a by unfold lo3; omega, show hi3 a b c = b by unfold hi3; omega, show mid3 a b c = c by unfold mid3 lo3 hi3; omega]; exact P1
      · rw [show lo3 a b c = c by unfold lo3; omega, show hi3 a b c = b by unfold hi3; omega, show mid3 a b c = a by unfold mid3 lo3 hi3; omega]; exact P3
  · by_cases h2 : a ≤ c
    · rw [show lo3 a b c = b by unfold lo3; omega, show hi3 a b c = c by unfold hi3; omega, show mid3 a b c = a by unfold mid3 lo3 hi3; omega]; exact P2
    · by_cases h3 : b ≤ c
      · rw [show lo3 a b c = b by unfold lo3; omega, show hi3 a b c = a by unfold hi3; omega, show mid3 a b c = c by unfold mid3 lo3 hi3; omega]; exact P4
      · rw [show lo3 a b c = c by unfold lo3; omega, show hi3 a b c = a by unfold hi3; omega, show mid3 a b c = b by unfold mid3 lo3 hi3; omega]; exact P5
theorem sort3 (a b c : Int) : sortL [a, b, c] = [lo3 a b c, mid3 a b c, hi3 a b c] := by
  refine (sorted_unique ?_ (sortL_sorted _) ((perm3 a b c).trans (sortL_perm _).symm)).symm
  simp [mid3, lo3, hi3]
  omega
end Go.Proofs.Ytkpakpjbpmnbgaa
