/- What FnGroupsFew asks: laws.sameInts, and plain facts of the groups of an order. -/
import Derived.Test.YtehgdhekiogppaaGreatUo
import Derived.Test.YtehgdhekiogppaaGreatGla
namespace Go.Proofs.YtehgdhekiogppaaGreat
open Go.ChangeShapes Go.WideShapes Go.ChangeAt Go.RowKit Go.Deep
set_option linter.unusedVariables false
set_option linter.unusedSimpArgs false

theorem ne_at {α : Type} {xs ys : List α} {k : Nat} {x y : α} (hx : xs[k]? = some x) (hy : ys[k]? = some y) (h : ¬ x = y) : ¬ xs = ys := by
  rintro rfl
  rw [hx] at hy
  exact h (Option.some.inj hy)
set_option maxHeartbeats 800000 in
theorem sameInts_any (lo hi lo' hi' : Nat) (A A' : Option Addr) (n c n' c' : Nat) (xs ys : List Int) (w : World) (hs : SlK 1 encInt w lo hi A n c xs) (hB : hi ≤ w.heap.size) (hs' : SlK 1 encInt w lo' hi' A' n' c' ys) (hB' : hi' ≤ w.heap.size) :
    Calls Tryz.prog 23 #[.slice A n c, .slice A' n' c'] w fun e w' => e = .returned (.bool (decide (xs = ys))) ∧ Below w.heap.size w w' := by
  have hm := hs.max
  have hc := hs.cap
  have hm' := hs'.max
  have hc' := hs'.cap
  have hl := hs.len
  have hl' := hs'.len
  by_cases hn : n = n'
  case neg =>
    have hnn : ¬ (n : Int) = (n' : Int) := by omega
    have hne : ¬ xs = ys := by
      rintro rfl
      exact hn (hl.symm.trans hl')
    have hd : decide (xs = ys) = false := decide_eq_false hne
    rw [hd]
    clear hl hl' hs hs' hne hd hn
    go_enter Tryz.func23, Tryz.ntmps23
    go_wp2
    go_ret
    exact ⟨rfl, Below.refl _ _⟩
  case pos =>
  subst hn
  have HL := hide hl
  have HL' := hide hl'
  clear hl hl'
  go_enter Tryz.func23, Tryz.ntmps23
  go_wp2
  go_loopw [5] (fun i wr => ∃ k : Nat, k ≤ n ∧ i = .int .i64 k ∧ Hid (xs.take k = ys.take k) ∧ Below w.heap.size w wr) (fun i _ => n - (intOf i).toNat)
  case atStart => exact ⟨0, Nat.zero_le _, rfl, hide rfl, Below.refl _ _⟩
  case round =>
    obtain ⟨k, hk, rfl, HT, hbel⟩ := hrel
    by_cases hlt : k < n
    · obtain ⟨b0, off, x, hx, rfl, _, hb0, c0, _⟩ := (hs.below hbel hB).int hlt
      obtain ⟨b0', off', x', hx', rfl, _, hb0', d0, _⟩ := (hs'.below hbel hB').int hlt
      have i0 : (0 : Int) ≤ (k : Int) := by omega
      have i1 : (k : Int) < (n : Int) := by omega
      have z0 : b0 < wr.heap.size := by have := hbel.size; omega
      have z1 : b0' < wr.heap.size := by have := hbel.size; omega
      have HX := hide hx
      have HX' := hide hx'
      have HS := hide hs
      have HS' := hide hs'
      clear hs hs' hx hx'
      by_cases hxe : x = x'
      · subst hxe
        have HT2 : Hid (xs.take (k + 1) = ys.take (k + 1)) := hide (by rw [take_snoc HX.out, take_snoc HX'.out, HT.out])
        go_wp2_with fail
        go_quiet (fail)
        go_wp2
        go_roundw
        case rel => exact ⟨k + 1, by omega, by go_num, HT2, below_drewN hbel _⟩
        case measure => simp [intOf]; omega
      · have hd : Hid (decide (xs = ys) = false) := hide (decide_eq_false (ne_at HX.out HX'.out hxe))
        go_wp2_with fail
        go_quiet (fail)
        go_wp2
        go_ret
        exact ⟨by rw [hd.out]; rfl, below_drewN hbel _⟩
    · have hge : n ≤ k := by omega
      have hd : Hid (decide (xs = ys) = true) := hide (decide_eq_true (by
        have := HT.out
        rwa [List.take_of_length_le (by rw [HL.out]; exact hge), List.take_of_length_le (by rw [HL'.out]; exact hge)] at this))
      clear hlt
      go_wp2
      go_ret
      exact ⟨by rw [hd.out]; rfl, hbel⟩
theorem class0_nm {r : Rq} (h : classN r = 0) : namesB r = true := by
  cases hb : namesB r
  · have := class0_bounds h
    simp [classN, hb, this] at h
  · rfl
theorem presTo_cls {xs : List It} {c : Nat} (h : ∀ x ∈ xs, x.cls < c) : ∀ k, (presTo xs k).length ≤ c
  | 0 => by simp [presTo, rng]
  | k + 1 => by
    have h1 := presTo_len xs k
    have h2 := presTo_cls h k
    rw [presTo_succ, List.length_append]
    by_cases hc : hasCls xs k = true
    · unfold hasCls at hc
      rw [List.any_eq_true] at hc
      obtain ⟨x, hx, he⟩ := hc
      have := h x hx
      have he : x.cls = (k : Int) := by simpa using he
      split <;> simp only [List.length_cons, List.length_nil] <;> omega
    · rw [if_neg hc]
      simpa using h2
theorem item_cls {r : Rq} (h : classN r = 0) {x : It} (hx : x ∈ r.items) : x.cls < r.cls := by
  obtain ⟨i, hi, rfl⟩ := List.getElem_of_mem hx
  rcases Int.lt_or_le (r.items[i]).cls r.cls with h1 | h1
  · exact h1
  · have hn := class0_nm h
    rw [namesB_it hi (by rw [itBadAt_of (List.getElem?_eq_getElem hi)]; simp [h1])] at hn
    cases hn
theorem pres_cls (r : Rq) (h : classN r = 0) : ((presR r).length : Int) ≤ r.cls := by
  unfold presR
  rw [if_pos h]
  rcases Int.lt_or_le r.cls 0 with hc | hc
  · have : presTo r.items 4 = [] := by
      unfold presTo
      rw [List.filter_eq_nil_iff]
      intro z hz hh
      unfold hasCls at hh
      rw [List.any_eq_true] at hh
      obtain ⟨x, hx, he⟩ := hh
      have h1 := item_cls h hx
      have he : x.cls = z := by simpa using he
      rw [mem_rng] at hz
      omega
    rw [this]
    exfalso
    have hb := class0_bounds h
    simp only [boundsB, Bool.and_eq_true, decide_eq_true_eq, inB_iff] at hb
    omega
  · have := presTo_cls (xs := r.items) (c := r.cls.toNat) (fun x hx => by have := item_cls h hx; omega) 4
    omega
theorem kindsTo_pres (r : Rq) : kindsTo (presR r) 4 = presR r := by
  by_cases h : classN r = 0
  · unfold presR
    rw [if_pos h]
    unfold kindsTo presTo
    apply List.filter_congr
    intro z hz
    rw [Bool.eq_iff_iff, hasB_iff, List.mem_filter]
    exact ⟨fun h => h.2, fun h => ⟨hz, h⟩⟩
  · unfold presR
    rw [if_neg h]
    exact kindsTo_nil 4
theorem gs_pres (r : Rq) : (gsR r).length ≤ (presR r).length := by
  have := groupsL_len (mutB r.pairs) (kindsTo (presR r) 4)
  rw [kindsTo_pres] at this
  unfold gsR grpR
  rw [kindsTo_pres]
  exact this
theorem one_rng (a : Int) : ∀ k : Nat, ((rng k).filter fun z => a == z).length ≤ 1 ∧ ((k : Int) ≤ a → ((rng k).filter fun z => a == z).length = 0)
  | 0 => by simp [rng]
  | k + 1 => by
    have ⟨h1, h2⟩ := one_rng a k
    rw [rng_succ, List.filter_append, List.length_append]
    by_cases h : a = (k : Int)
    · have e : List.filter (fun z => a == z) [(k : Int)] = [(k : Int)] := by simp [h]
      rw [e, h2 (by omega)]
      exact ⟨Nat.le_refl _, fun h' => by omega⟩
    · have e : List.filter (fun z => a == z) [(k : Int)] = [] := by simp [h]
      rw [e]
      refine ⟨by simpa using h1, fun h' => ?_⟩
      rw [h2 (by omega)]
      rfl
theorem filter_or (p q : Int → Bool) : ∀ zs : List Int, (zs.filter fun z => p z || q z).length ≤ (zs.filter p).length + (zs.filter q).length
  | [] => by simp
  | z :: zs => by
    have := filter_or p q zs
    simp only [List.filter_cons]
    cases p z <;> cases q z <;> simp <;> omega
theorem presTo_items (k : Nat) : ∀ xs : List It, (presTo xs k).length ≤ xs.length
  | [] => by simp [presTo, hasCls]
  | x :: xs => by
    have h1 := presTo_items k xs
    have h2 := filter_or (fun z => x.cls == z) (hasCls xs) (rng k)
    have h3 := (one_rng x.cls k).1
    have e : presTo (x :: xs) k = (rng k).filter fun z => (x.cls == z) || hasCls xs z := by
      unfold presTo
      congr 1
    rw [e, List.length_cons]
    unfold presTo at h1
    omega
theorem unitsTo_ge {xs : List It} (h : ∀ x ∈ xs, itemOkB x = true) : ∀ k, k ≤ xs.length → k ≤ (unitsTo xs k).length
  | 0, _ => Nat.zero_le _
  | k + 1, hk => by
    have hx : xs[k]? = some xs[k] := List.getElem?_eq_getElem (by omega)
    have hc := itemOk_cnt (h xs[k] (List.getElem_mem (by omega)))
    have := unitsTo_ge h k (by omega)
    rw [unitsTo_succ hx, List.length_append, List.length_replicate]
    omega
theorem gs_units (r : Rq) : (gsR r).length ≤ (unitsR r).length := by
  by_cases h : classN r = 0
  · have h1 := gs_pres r
    have h2 := presTo_items 4 r.items
    have h3 := unitsTo_ge (bounds_items (class0_bounds h)).1 r.items.length (Nat.le_refl _)
    unfold presR at h1
    rw [if_pos h] at h1
    unfold unitsR unitsL
    rw [if_pos h]
    omega
  · rw [gsR_no h]
    exact Nat.zero_le _
theorem idxOf_at {α : Type} (p : α → Bool) (xs : List α) (h : 0 ≤ idxOf p xs) : ∃ x, xs[(idxOf p xs).toNat]? = some x ∧ p x = true ∧ idxOf p xs < xs.length := by
  unfold idxOf at h ⊢
  cases e : xs.findIdx? p with
  | none => rw [e] at h; simp at h
  | some i =>
    rw [List.findIdx?_eq_some_iff_getElem] at e
    obtain ⟨h1, h2, _⟩ := e
    exact ⟨xs[i], by simp [h1], h2, by simp; omega⟩
theorem mem_units {xs : List It} (h : ∀ x ∈ xs, itemOkB x = true) {j : Nat} (hj : j < xs.length) : ∀ k, j < k → k ≤ xs.length → (j : Int) ∈ unitsTo xs k
  | 0, h0, _ => absurd h0 (by omega)
  | k + 1, h0, hk => by
    have hx : xs[k]? = some xs[k] := List.getElem?_eq_getElem (by omega)
    have hc := itemOk_cnt (h xs[k] (List.getElem_mem (by omega)))
    rw [unitsTo_succ hx, List.mem_append]
    by_cases e : j = k
    · subst e
      exact .inr (List.mem_replicate.2 ⟨by omega, rfl⟩)
    · exact .inl (mem_units h hj k (by omega) (by omega))
/-- Some unit of the list is of that kind. -/
def hitB (r : Rq) (c : Int) (us : List Int) : Bool := us.any fun u => (itAt r.items ((unitsR r).getD u.toNat 0)).cls == c
theorem hit_all {r : Rq} {c : Int} (hc : c ∈ presR r) : hitB r c (uoL r (gofL (gsR r) c)) = true := by
  have h : classN r = 0 := by
    by_cases h : classN r = 0
    · exact h
    · unfold presR at hc
      rw [if_neg h] at hc
      cases hc
  have hp : c ∈ presTo r.items 4 := by
    unfold presR at hc
    rwa [if_pos h] at hc
  unfold presTo at hp
  rw [List.mem_filter, mem_rng] at hp
  have hg := gofL_spec (ps := r.pairs) (xs := presR r) (cl := c) (by omega)
  rw [(hasB_iff (presR r) c).2 hc] at hg
  have hg : 0 ≤ gofL (gsR r) c := of_decide_eq_true hg
  obtain ⟨g, hx, hgc, hlt⟩ := idxOf_at (fun g => hasB g c) (gsR r) hg
  have hh := hp.2
  unfold hasCls at hh
  rw [List.any_eq_true] at hh
  obtain ⟨x, hxm, he⟩ := hh
  have he : x.cls = c := by simpa using he
  obtain ⟨j, hj, hjx⟩ := List.getElem_of_mem hxm
  have hm := mem_units (bounds_items (class0_bounds h)).1 hj r.items.length hj (Nat.le_refl _)
  have hu : (j : Int) ∈ unitsR r := by
    unfold unitsR unitsL
    rw [if_pos h]
    exact hm
  obtain ⟨u, hul, hue⟩ := List.getElem_of_mem hu
  have hu? : (unitsR r)[u]? = some (j : Int) := by rw [List.getElem?_eq_getElem hul, hue]
  have hx? : r.items[((j : Int)).toNat]? = some x := by rw [Int.toNat_natCast, List.getElem?_eq_getElem hj, hjx]
  have ei : itAt r.items ((unitsR r).getD ((u : Int)).toNat 0) = x := by
    have e1 : (unitsR r).getD ((u : Int)).toNat 0 = (j : Int) := by
      rw [Int.toNat_natCast, List.getD_eq_getElem?_getD, hu?]
      rfl
    rw [e1, itAt_at hx?]
  unfold hitB
  rw [List.any_eq_true]
  refine ⟨(u : Int), ?_, by rw [ei]; simpa using he⟩
  unfold uoL
  have hin : inB (gofL (gsR r) c) 0 ((gsR r).length - 1) = true := by
    rw [inB_iff]
    have := gofL_lt (gsR r) c
    omega
  rw [if_pos hin]
  unfold uoTo
  rw [List.mem_filter, mem_rng]
  refine ⟨by omega, ?_⟩
  unfold uoB
  rw [ei, he]
  have e2 : (gsR r).getD (gofL (gsR r) c).toNat [] = g := by
    rw [List.getD_eq_getElem?_getD]
    unfold gofL
    rw [hx]
    rfl
  rw [e2]
  exact hgc
theorem uoL_bd (r : Rq) (k : Int) : ∀ u ∈ uoL r k, 0 ≤ u ∧ u < (unitsR r).length := by
  intro u hu
  unfold uoL at hu
  split at hu
  · unfold uoTo at hu
    rw [List.mem_filter, mem_rng] at hu
    omega
  · cases hu
theorem unitsR_mem {r : Rq} {j : Int} (h : j ∈ unitsR r) : 0 ≤ j ∧ j < r.items.length := by
  unfold unitsR at h
  split at h
  · exact mem_unitsTo _ h
  · cases h
theorem hit_snoc {r : Rq} {c : Int} {us : List Int} {v yn jn : Nat} {it : It} (hy : us[v]? = some (yn : Int)) (hj : (unitsR r)[yn]? = some (jn : Int)) (hi : r.items[jn]? = some it) :
    hitB r c (us.take (v + 1)) = (hitB r c (us.take v) || it.cls == c) := by
  have e1 : (unitsR r).getD ((yn : Int)).toNat 0 = (jn : Int) := by
    rw [Int.toNat_natCast, List.getD_eq_getElem?_getD, hj]
    rfl
  have e2 : itAt r.items (jn : Int) = it := itAt_at (by rw [Int.toNat_natCast]; exact hi)
  unfold hitB
  rw [take_snoc hy, List.any_append]
  simp only [List.any_cons, List.any_nil, Bool.or_false, e1, e2]
end Go.Proofs.YtehgdhekiogppaaGreat
