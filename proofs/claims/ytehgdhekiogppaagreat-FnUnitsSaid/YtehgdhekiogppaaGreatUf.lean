/- Plain facts for FnUnits: the groups' units together are all units, each once. -/
import Derived.Test.YtehgdhekiogppaaGreatGf
namespace Go.Proofs.YtehgdhekiogppaaGreat
open Go.ChangeShapes Go.WideShapes Go.ChangeAt Go.RowKit Go.Deep
set_option linter.unusedVariables false
set_option linter.unusedSimpArgs false

theorem flat_modify (k : Int) : ∀ (out : List (List Int)) (i : Nat), i < out.length → (out.modify i (· ++ [k])).flatten.Perm (out.flatten ++ [k])
  | [], i, h => by simp at h
  | g :: out, 0, _ => by
    rw [List.modify_zero_cons, List.flatten_cons, List.flatten_cons, List.append_assoc, List.append_assoc]
    exact List.Perm.append_left g List.perm_append_comm
  | g :: out, i + 1, h => by
    rw [List.modify_succ_cons, List.flatten_cons, List.flatten_cons, List.append_assoc]
    exact List.Perm.append_left g (flat_modify k out i (by simpa using h))
theorem addG_flat (m : Int → Int → Bool) (out : List (List Int)) (k : Int) : (addG m out k).flatten.Perm (out.flatten ++ [k]) := by
  rcases idxOf_cases (fun g => joinB m g k) out with hi | ⟨i, hil, hi⟩
  · rw [addG_new hi, List.flatten_append]
    simp
  · rw [addG_old hi]
    exact flat_modify k out i hil
theorem foldG_flat (m : Int → Int → Bool) : ∀ (ks : List Int) (out : List (List Int)), (ks.foldl (addG m) out).flatten.Perm (out.flatten ++ ks)
  | [], out => by simp
  | k :: ks, out => by
    rw [List.foldl_cons]
    refine (foldG_flat m ks (addG m out k)).trans ?_
    rw [show k :: ks = [k] ++ ks from rfl, ← List.append_assoc]
    exact List.Perm.append_right ks (addG_flat m out k)
theorem groupsL_flat (m : Int → Int → Bool) (ks : List Int) : (groupsL m ks).flatten.Perm ks := by
  have := foldG_flat m ks []
  simpa [groupsL] using this
theorem rng_nodup (n : Nat) : (rng n).Nodup := by
  refine (rng_lt n).imp ?_
  intro a b h e
  omega
theorem gsR_flat (r : Rq) : (gsR r).flatten.Perm (presR r) := by
  have := groupsL_flat (mutB r.pairs) (kindsTo (presR r) 4)
  rw [kindsTo_pres] at this
  unfold gsR grpR
  rw [kindsTo_pres]
  exact this
theorem presR_nodup (r : Rq) : (presR r).Nodup := by
  unfold presR
  split
  · exact (rng_nodup 4).filter _
  · exact List.nodup_nil
theorem filter_perm_or (p q : Int → Bool) : ∀ us : List Int, (∀ u ∈ us, p u = true → q u = false) → (us.filter p ++ us.filter q).Perm (us.filter fun u => p u || q u)
  | [], _ => by simp
  | u :: us, h => by
    have ih := filter_perm_or p q us (fun x hx => h x (List.mem_cons_of_mem _ hx))
    have h0 := h u (List.mem_cons_self ..)
    simp only [List.filter_cons]
    cases hp : p u
    · cases hq : q u
      · simpa using ih
      · simp only [Bool.or_true, if_true, Bool.false_eq_true, if_false]
        exact List.perm_middle.trans (List.Perm.cons u ih)
    · rw [h0 hp]
      simpa using ih
theorem has_flat (gs : List (List Int)) (c : Int) : hasB gs.flatten c = gs.any fun g => hasB g c := by
  rw [Bool.eq_iff_iff, hasB_iff, List.any_eq_true]
  simp only [hasB_iff, List.mem_flatten]
theorem groups_part (f : Int → Int) (us : List Int) : ∀ gs : List (List Int), gs.flatten.Nodup → (gs.flatMap fun g => us.filter fun u => hasB g (f u)).Perm (us.filter fun u => hasB gs.flatten (f u))
  | [], _ => by
    simp [hasB]
  | g :: gs, h => by
    rw [List.flatten_cons, List.nodup_append] at h
    have ih := groups_part f us gs h.2.1
    rw [List.flatMap_cons]
    refine (List.Perm.append_left _ ih).trans ?_
    refine (filter_perm_or _ _ us ?_).trans ?_
    · intro u _ h1
      rw [hasB_iff] at h1
      cases h2 : hasB gs.flatten (f u)
      · rfl
      · rw [hasB_iff] at h2
        exact absurd rfl (h.2.2 _ h1 _ h2)
    · rw [List.flatten_cons]
      have e : ∀ u, (hasB g (f u) || hasB gs.flatten (f u)) = hasB (g ++ gs.flatten) (f u) := fun u => by
        unfold hasB
        rw [List.any_append]
      simp only [e]
      exact List.Perm.refl _
theorem unit_cls {r : Rq} {u : Int} (hu : u ∈ rng (unitsR r).length) : (itAt r.items ((unitsR r).getD u.toNat 0)).cls ∈ presR r := by
  rw [mem_rng] at hu
  have h : classN r = 0 := by
    by_cases h : classN r = 0
    · exact h
    · unfold unitsR at hu
      rw [if_neg h] at hu
      simp at hu
      omega
  have hul : u.toNat < (unitsR r).length := by omega
  have hm : (unitsR r)[u.toNat]? = some (unitsR r)[u.toNat] := List.getElem?_eq_getElem hul
  have hj := unitsR_mem (List.mem_of_getElem? hm)
  generalize (unitsR r)[u.toNat] = j at hm hj
  have hx : r.items[j.toNat]? = some r.items[j.toNat] := List.getElem?_eq_getElem (by omega)
  have e1 : (unitsR r).getD u.toNat 0 = j := by
    rw [List.getD_eq_getElem?_getD, hm]
    rfl
  rw [e1, itAt_at hx]
  have hmem : r.items[j.toNat] ∈ r.items := List.mem_of_getElem? hx
  generalize r.items[j.toNat] = x at hx hmem
  have hok := (bounds_items (class0_bounds h)).1 x hmem
  simp only [itemOkB, Bool.and_eq_true, inB_iff] at hok
  unfold presR
  rw [if_pos h]
  unfold presTo
  rw [List.mem_filter, mem_rng]
  refine ⟨by omega, ?_⟩
  unfold hasCls
  rw [List.any_eq_true]
  exact ⟨x, hmem, by simp⟩
/-- The units of groups, one group after another. -/
def flatG (r : Rq) (gs : List (List Int)) : List Int := gs.flatMap fun g => uoTo r g (unitsR r).length
theorem flatG_perm (r : Rq) : (flatG r (gsR r)).Perm (rng (unitsR r).length) := by
  have hnd : (gsR r).flatten.Nodup := (gsR_flat r).nodup_iff.2 (presR_nodup r)
  have h := groups_part (fun u => (itAt r.items ((unitsR r).getD u.toNat 0)).cls) (rng (unitsR r).length) (gsR r) hnd
  have e : (rng (unitsR r).length).filter (fun u => hasB (gsR r).flatten ((itAt r.items ((unitsR r).getD u.toNat 0)).cls)) = rng (unitsR r).length := by
    rw [List.filter_eq_self]
    intro u hu
    rw [hasB_iff]
    exact (gsR_flat r).mem_iff.2 (unit_cls hu)
  rw [e] at h
  exact h
theorem uoL_at {r : Rq} {k : Nat} {g : List Int} (h : (gsR r)[k]? = some g) : uoL r k = uoTo r g (unitsR r).length := by
  have hk := (List.getElem?_eq_some_iff.1 h).1
  unfold uoL
  have hin : inB (k : Int) 0 ((gsR r).length - 1) = true := by
    rw [inB_iff]
    omega
  rw [if_pos hin, Int.toNat_natCast, List.getD_eq_getElem?_getD, h]
  rfl
theorem flatG_snoc (r : Rq) {k : Nat} (hk : k < (gsR r).length) : flatG r ((gsR r).take (k + 1)) = flatG r ((gsR r).take k) ++ uoL r k := by
  have h : (gsR r)[k]? = some (gsR r)[k] := List.getElem?_eq_getElem hk
  rw [uoL_at h]
  unfold flatG
  rw [take_snoc h, List.flatMap_append]
  simp
theorem flatG_len (r : Rq) (k : Nat) : (flatG r ((gsR r).take k)).length ≤ (unitsR r).length := by
  have h1 := (flatG_perm r).length_eq
  rw [rng_len] at h1
  have h2 : flatG r (gsR r) = flatG r ((gsR r).take k) ++ flatG r ((gsR r).drop k) := by
    unfold flatG
    rw [← List.flatMap_append, List.take_append_drop]
  rw [h2, List.length_append] at h1
  omega
theorem flatG_all (r : Rq) : (flatG r (gsR r)).length = (unitsR r).length := by
  have h1 := (flatG_perm r).length_eq
  rwa [rng_len] at h1
theorem flatG_cnt (r : Rq) {u : Nat} (hu : u < (unitsR r).length) : cntL (flatG r (gsR r)) u = 1 := by
  unfold cntL
  rw [(flatG_perm r).countP_eq]
  have hm : (u : Int) ∈ rng (unitsR r).length := by
    rw [mem_rng]
    omega
  have := (rng_nodup (unitsR r).length).count (a := (u : Int))
  rw [if_pos hm] at this
  exact this
theorem uoL_len (r : Rq) (k : Int) : (uoL r k).length ≤ (unitsR r).length := by
  unfold uoL
  split
  · exact uoTo_len _ _ _
  · exact Nat.zero_le _
theorem volU_app (r : Rq) (a b : List Int) : volU r (a ++ b) = volU r a + volU r b := by
  unfold volU
  rw [List.map_append, List.sum_append]
theorem gramU_app (r : Rq) (a b : List Int) : gramU r (a ++ b) = gramU r a + gramU r b := by
  unfold gramU
  rw [List.map_append, List.sum_append]
theorem sum_perm {a b : List Int} (h : a.Perm b) : a.sum = b.sum := by
  induction h with
  | nil => rfl
  | cons x _ ih => simp [ih]
  | swap x y l => simp only [List.sum_cons]; omega
  | trans _ _ h1 h2 => exact h1.trans h2
theorem volU_all (r : Rq) : volU r (flatG r (gsR r)) = volU r (rng (unitsR r).length) := sum_perm ((flatG_perm r).map _)
theorem gramU_all (r : Rq) : gramU r (flatG r (gsR r)) = gramU r (rng (unitsR r).length) := sum_perm ((flatG_perm r).map _)
theorem units_no {r : Rq} (h : ¬ classN r = 0) : (unitsR r).length = 0 := by
  unfold unitsR
  rw [if_neg h]
  rfl
end Go.Proofs.YtehgdhekiogppaaGreat
