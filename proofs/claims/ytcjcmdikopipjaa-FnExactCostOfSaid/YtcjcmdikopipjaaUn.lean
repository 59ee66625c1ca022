/- The units of an order, their items and loads: plain words. No program in sight. -/
import Derived.Test.YtcjcmdikopipjaaCls
namespace Go.Proofs.Ytcjcmdikopipjaa
open Go.ChangeShapes Go.WideShapes Go.ChangeAt Go.RowKit Go.Deep
set_option linter.unusedVariables false
set_option linter.unusedSimpArgs false

def it0 : It := ⟨0, 0, 0, 0, 0, 0, 0⟩
def itAt (xs : List It) (i : Int) : It := xs.getD i.toNat it0
/-- The units of the first k items: each item's place, as often as it counts. -/
def unitsTo (xs : List It) : Nat → List Int
  | 0 => []
  | k + 1 => unitsTo xs k ++ List.replicate (xs.getD k it0).cnt.toNat (k : Int)
def unitsL (xs : List It) : List Int := unitsTo xs xs.length
/-- The units of an order; none if something is wrong with it. -/
def unitsR (r : Rq) : List Int := if classN r = 0 then unitsL r.items else []
theorem unitsTo_succ {xs : List It} {k : Nat} {x : It} (h : xs[k]? = some x) : unitsTo xs (k + 1) = unitsTo xs k ++ List.replicate x.cnt.toNat (k : Int) := by
  simp [unitsTo, List.getD, h]
theorem unitsTo_len {xs : List It} (h : ∀ x ∈ xs, itemOkB x = true) : ∀ k, k ≤ xs.length → ((unitsTo xs k).length : Int) = cntSum (xs.take k)
  | 0, _ => by simp [unitsTo, cntSum]
  | k + 1, hk => by
    have hx : xs[k]? = some xs[k] := List.getElem?_eq_getElem (by omega)
    have hc := itemOk_cnt (h xs[k] (List.getElem_mem (by omega)))
    rw [unitsTo_succ hx, cntSum_snoc hx, ← unitsTo_len h k (by omega), List.length_append, List.length_replicate]
    omega
theorem unitsTo_le {xs : List It} (h : ∀ x ∈ xs, itemOkB x = true) (k : Nat) (hk : k ≤ xs.length) : (unitsTo xs k).length ≤ 6 * k := by
  have h1 := unitsTo_len h k hk
  have h2 := (cntSum_bd (xs := xs.take k) fun x hx => h x (List.mem_of_mem_take hx)).2
  rw [List.length_take, Nat.min_eq_left hk] at h2
  omega
theorem mem_unitsTo {xs : List It} {u : Int} : ∀ k, u ∈ unitsTo xs k → 0 ≤ u ∧ u < k
  | 0, h => by simp [unitsTo] at h
  | k + 1, h => by
    simp only [unitsTo, List.mem_append, List.mem_replicate] at h
    rcases h with h | ⟨_, rfl⟩
    · have := mem_unitsTo k h
      omega
    · omega
theorem class0_bounds {r : Rq} (h : classN r = 0) : boundsB r = true := by
  cases hb : boundsB r
  · simp [classN, hb] at h
  · rfl
theorem bounds_items {r : Rq} (h : boundsB r = true) : (∀ x ∈ r.items, itemOkB x = true) ∧ r.items.length ≤ 8 ∧ cntSum r.items ≤ 12 := by
  simp only [boundsB, Bool.and_eq_true, decide_eq_true_eq] at h
  refine ⟨?_, by omega, h.2⟩
  have := h.1.2
  unfold itemsOkB at this
  rw [List.all_eq_true] at this
  exact this
theorem unitsR_len (r : Rq) : (unitsR r).length ≤ 12 := by
  unfold unitsR
  split
  · rename_i h
    obtain ⟨h1, h2, h3⟩ := bounds_items (class0_bounds h)
    have := unitsTo_len h1 r.items.length (Nat.le_refl _)
    rw [List.take_length] at this
    unfold unitsL
    omega
  · simp
theorem mem_unitsR {r : Rq} {u : Int} (h : u ∈ unitsR r) : 0 ≤ u ∧ u < r.items.length := by
  unfold unitsR at h
  split at h
  · exact mem_unitsTo _ h
  · simp at h
/-- Is there a unit of that number. -/
def isUnit (r : Rq) (u : Int) : Bool := inB u 0 ((unitsR r).length - 1)
/-- The item of a unit. -/
def unitIt (r : Rq) (u : Int) : Option It := if isUnit r u then some (itAt r.items ((unitsR r).getD u.toNat 0)) else none
def itD (o : Option It) : It := o.getD it0
def itemsOfL (r : Rq) (us : List Int) : List It := us.filterMap (unitIt r)
theorem itemsOf_snoc {r : Rq} {us : List Int} {k : Nat} {u : Int} (h : us[k]? = some u) : itemsOfL r (us.take (k + 1)) = itemsOfL r (us.take k) ++ (unitIt r u).toList := by
  unfold itemsOfL
  rw [List.take_add_one, h, List.filterMap_append]
  cases hq : unitIt r u <;> simp [hq]
theorem unitIt_no {r : Rq} {u : Int} (h : isUnit r u = false) : unitIt r u = none := by simp [unitIt, h]
/-- A unit that is there: its place among the units, its item. -/
theorem unitIt_yes {r : Rq} {u : Int} (h : isUnit r u = true) : ∃ i x, (unitsR r)[u.toNat]? = some i ∧ 0 ≤ i ∧ i < r.items.length ∧ r.items[i.toNat]? = some x ∧ unitIt r u = some x := by
  have h' := h
  unfold isUnit at h'
  rw [inB_iff] at h'
  have hlt : u.toNat < (unitsR r).length := by omega
  have hm := mem_unitsR (List.getElem_mem hlt)
  have hlt2 : ((unitsR r)[u.toNat]).toNat < r.items.length := by omega
  refine ⟨(unitsR r)[u.toNat], r.items[((unitsR r)[u.toNat]).toNat], List.getElem?_eq_getElem hlt, hm.1, hm.2, List.getElem?_eq_getElem hlt2, ?_⟩
  simp [unitIt, h, itAt, List.getD, List.getElem?_eq_getElem hlt, List.getElem?_eq_getElem hlt2]
theorem unitIt_mem {r : Rq} {u : Int} {x : It} (h : unitIt r u = some x) : x ∈ r.items := by
  cases hu : isUnit r u
  · rw [unitIt_no hu] at h; cases h
  · obtain ⟨i, y, _, _, _, hy, e⟩ := unitIt_yes hu
    rw [e] at h
    injection h with h
    subst h
    exact List.mem_of_getElem? hy
theorem isUnit_sound {r : Rq} {u : Int} (h : isUnit r u = true) : classN r = 0 := by
  unfold isUnit at h
  rw [inB_iff] at h
  by_cases hc : classN r = 0
  · exact hc
  · have : unitsR r = [] := by simp [unitsR, hc]
    rw [this] at h
    simp at h
    omega
theorem itemsOf_ok {r : Rq} {us : List Int} {x : It} (h : x ∈ itemsOfL r us) : itemOkB x = true := by
  unfold itemsOfL at h
  obtain ⟨u, _, hu⟩ := List.mem_filterMap.1 h
  have hs : isUnit r u = true := by
    cases hq : isUnit r u
    · rw [unitIt_no hq] at hu; cases hu
    · rfl
  exact (bounds_items (class0_bounds (isUnit_sound hs))).1 x (unitIt_mem hu)
theorem itemsOf_len (r : Rq) (us : List Int) : (itemsOfL r us).length ≤ us.length := List.length_filterMap_le _ _
def volI (x : It) : Int := vol x.w x.h x.d
def volS (xs : List It) : Int := (xs.map volI).sum
def gramS (xs : List It) : Int := (xs.map fun x => x.gram).sum
theorem volS_snoc {xs : List It} {k : Nat} {x : It} (hx : xs[k]? = some x) : volS (xs.take (k + 1)) = volS (xs.take k) + volI x := by
  unfold volS
  rw [List.take_add_one, hx]
  simp
theorem gramS_snoc {xs : List It} {k : Nat} {x : It} (hx : xs[k]? = some x) : gramS (xs.take (k + 1)) = gramS (xs.take k) + x.gram := by
  unfold gramS
  rw [List.take_add_one, hx]
  simp
theorem volI_bd (x : It) : 0 ≤ volI x ∧ volI x ≤ 8000000000 := vol_range _ _ _
theorem volS_bd : ∀ xs : List It, 0 ≤ volS xs ∧ volS xs ≤ 8000000000 * xs.length
  | [] => by simp [volS]
  | x :: xs => by
    have ih := volS_bd xs
    have hx := volI_bd x
    have e : volS (x :: xs) = volI x + volS xs := by simp [volS]
    rw [e, List.length_cons]
    omega
theorem itemOk_gram {x : It} (h : itemOkB x = true) : 1 ≤ x.gram ∧ x.gram ≤ 100000 := by
  simp only [itemOkB, Bool.and_eq_true, inB_iff] at h
  exact h.1.1.2
theorem gramS_bd : ∀ {xs : List It}, (∀ x ∈ xs, itemOkB x = true) → 0 ≤ gramS xs ∧ gramS xs ≤ 100000 * xs.length
  | [], _ => by simp [gramS]
  | x :: xs, h => by
    have ih := gramS_bd (xs := xs) fun y hy => h y (by simp [hy])
    have hx := itemOk_gram (h x (by simp))
    have e : gramS (x :: xs) = x.gram + gramS xs := by simp [gramS]
    rw [e, List.length_cons]
    omega
/-- The volume and the weight of units, those that are not there counting nothing. -/
def volU (r : Rq) (us : List Int) : Int := (us.map fun u => volI (itD (unitIt r u))).sum
def gramU (r : Rq) (us : List Int) : Int := (us.map fun u => (itD (unitIt r u)).gram).sum
theorem volI_0 : volI it0 = 0 := by decide
theorem volU_eq (r : Rq) : ∀ us, volU r us = volS (itemsOfL r us)
  | [] => rfl
  | u :: us => by
    have ih := volU_eq r us
    have e : volU r (u :: us) = volI (itD (unitIt r u)) + volU r us := by simp [volU]
    rw [e, ih]
    unfold itemsOfL
    cases hq : unitIt r u <;> simp [hq, itD, volI_0, volS]
theorem gramU_eq (r : Rq) : ∀ us, gramU r us = gramS (itemsOfL r us)
  | [] => rfl
  | u :: us => by
    have ih := gramU_eq r us
    have e : gramU r (u :: us) = (itD (unitIt r u)).gram + gramU r us := by simp [gramU]
    rw [e, ih]
    unfold itemsOfL
    cases hq : unitIt r u <;> simp [hq, itD, it0, gramS]
theorem volU_snoc {r : Rq} {us : List Int} {k : Nat} {u : Int} (h : us[k]? = some u) : volU r (us.take (k + 1)) = volU r (us.take k) + volI (itD (unitIt r u)) := by
  unfold volU
  rw [List.take_add_one, h]
  simp
theorem gramU_snoc {r : Rq} {us : List Int} {k : Nat} {u : Int} (h : us[k]? = some u) : gramU r (us.take (k + 1)) = gramU r (us.take k) + (itD (unitIt r u)).gram := by
  unfold gramU
  rw [List.take_add_one, h]
  simp
theorem volU_bd (r : Rq) (us : List Int) : 0 ≤ volU r us ∧ volU r us ≤ 8000000000 * us.length := by
  rw [volU_eq]
  have h := volS_bd (itemsOfL r us)
  have := itemsOf_len r us
  omega
theorem gramU_bd (r : Rq) (us : List Int) : 0 ≤ gramU r us ∧ gramU r us ≤ 100000 * us.length := by
  rw [gramU_eq]
  have h := gramS_bd (xs := itemsOfL r us) fun x hx => itemsOf_ok hx
  have := itemsOf_len r us
  omega
theorem itD_gram (r : Rq) (u : Int) : 0 ≤ (itD (unitIt r u)).gram ∧ (itD (unitIt r u)).gram ≤ 100000 := by
  have := gramU_bd r [u]
  simp [gramU] at this
  omega
end Go.Proofs.Ytcjcmdikopipjaa
