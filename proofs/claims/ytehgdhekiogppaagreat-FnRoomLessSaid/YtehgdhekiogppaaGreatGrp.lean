/- Groups: the plain law, and how groups lie in memory. -/
import Derived.Test.YtehgdhekiogppaaGreatSS
import Derived.Test.YtehgdhekiogppaaGreatApp
import Derived.Test.YtehgdhekiogppaaGreatLex
namespace Go.Proofs.YtehgdhekiogppaaGreat
open Go.ChangeShapes Go.WideShapes Go.ChangeAt Go.RowKit Go.Deep
set_option linter.unusedVariables false
set_option linter.unusedSimpArgs false

/-- All of a group may lie beside k. -/
def joinB (m : Int → Int → Bool) (g : List Int) (k : Int) : Bool := g.all fun x => m x k
/-- k goes to the first group that it joins, or is a new one. -/
def addG (m : Int → Int → Bool) (out : List (List Int)) (k : Int) : List (List Int) :=
  match out.findIdx? (fun g => joinB m g k) with
  | some i => out.modify i (· ++ [k])
  | none => out ++ [[k]]
def groupsL (m : Int → Int → Bool) (ks : List Int) : List (List Int) := ks.foldl (addG m) []
theorem groupsL_snoc (m : Int → Int → Bool) (ks : List Int) (k : Int) : groupsL m (ks ++ [k]) = addG m (groupsL m ks) k := by
  unfold groupsL
  rw [List.foldl_append]
  rfl
theorem addG_new {m : Int → Int → Bool} {out : List (List Int)} {k : Int} (h : idxOf (fun g => joinB m g k) out = -1) : addG m out k = out ++ [[k]] := by
  unfold idxOf at h
  unfold addG
  cases hq : out.findIdx? (fun g => joinB m g k) with
  | none => rfl
  | some j => rw [hq] at h; simp only at h; omega
theorem addG_old {m : Int → Int → Bool} {out : List (List Int)} {k : Int} {i : Nat} (h : idxOf (fun g => joinB m g k) out = i) : addG m out k = out.modify i (· ++ [k]) := by
  unfold idxOf at h
  unfold addG
  cases hq : out.findIdx? (fun g => joinB m g k) with
  | none => rw [hq] at h; simp only at h; omega
  | some j =>
    rw [hq] at h
    simp only at h
    have : j = i := by omega
    subst this
    rfl
theorem idxOf_lt {α : Type} {p : α → Bool} {xs : List α} {i : Nat} (h : idxOf p xs = i) : i < xs.length := by
  unfold idxOf at h
  split at h
  · rename_i j hj
    have : j = i := by omega
    subst this
    exact (List.findIdx?_eq_some_iff_getElem.1 hj).1
  · omega
theorem idxOf_cases {α : Type} (p : α → Bool) (xs : List α) : idxOf p xs = -1 ∨ ∃ i : Nat, i < xs.length ∧ idxOf p xs = i := by
  cases h : xs.findIdx? p with
  | none => exact .inl (by unfold idxOf; rw [h])
  | some i =>
    have e : idxOf p xs = i := by unfold idxOf; rw [h]
    exact .inr ⟨i, idxOf_lt e, e⟩
theorem idxOf_map {α β : Type} (p : β → Bool) (f : α → β) (xs : List α) : idxOf p (xs.map f) = idxOf (fun x => p (f x)) xs := by
  unfold idxOf
  rw [List.findIdx?_map]
  rfl
/-- The first place from j on. -/
def atFrom {α : Type} (p : α → Bool) (xs : List α) (j : Nat) : Int := match (xs.drop j).findIdx? p with | some t => ((j + t : Nat) : Int) | none => -1
theorem atFrom_zero {α : Type} (p : α → Bool) (xs : List α) : atFrom p xs 0 = idxOf p xs := by
  unfold atFrom idxOf
  rw [List.drop_zero]
  cases xs.findIdx? p <;> simp
theorem atFrom_all {α : Type} (p : α → Bool) (xs : List α) (j : Nat) (h : xs.length ≤ j) : atFrom p xs j = -1 := by
  unfold atFrom
  rw [List.drop_of_length_le h]
  rfl
theorem atFrom_step {α : Type} {p : α → Bool} {xs : List α} {j : Nat} {x : α} (hx : xs[j]? = some x) : atFrom p xs j = if p x then (j : Int) else atFrom p xs (j + 1) := by
  obtain ⟨hj, rfl⟩ := List.getElem?_eq_some_iff.1 hx
  unfold atFrom
  rw [List.drop_eq_getElem_cons hj, List.findIdx?_cons]
  cases hp : p xs[j]
  · simp only [Bool.false_eq_true, if_false]
    cases (xs.drop (j + 1)).findIdx? p with
    | none => rfl
    | some t => simp only [Option.map_some]; congr 1; omega
  · simp
/-- Groups in memory: the rows are the call's own, each in a block of its own. -/
structure GrpAt (eS eI : TypeId) (w : World) (base : Nat) (v : Value) (rows : List IRow) : Prop where
  out : Own 1 encRow eS w base v rows
  inn : ∀ r ∈ rows, Own 1 encInt eI w base (valRow r) r.xs ∧ 0 < r.xs.length
  dis : ∀ (i j : Nat) ri rj, rows[i]? = some ri → rows[j]? = some rj → i ≠ j → (valRow ri).ownBlock ≠ (valRow rj).ownBlock
  apart : ∀ r ∈ rows, (valRow r).ownBlock ≠ v.ownBlock
section
variable {eS eI : TypeId} {w w' : World} {base : Nat} {v : Value} {rows : List IRow}
theorem own_some {eI : TypeId} {w : World} {base : Nat} {r : IRow} (h : Own 1 encInt eI w base (valRow r) r.xs) (hn : 0 < r.xs.length) : ∃ g, (valRow r).ownBlock = some g ∧ base ≤ g ∧ g < w.heap.size ∧ r.n = r.xs.length ∧ r.A = some ⟨g, 0, none⟩ := by
  have h0 := h
  obtain ⟨h1, h2⟩ := h
  rcases h2 with ⟨hv, hn0⟩ | ⟨g, cap, cur, hv, hg, hh, hnc, hcm, hcs, htake⟩
  · omega
  · have e : valRow r = .slice r.A r.n r.c := rfl
    have hv' := hv
    rw [e] at hv'
    injection hv' with a1 a2 a3
    refine ⟨g, by rw [hv]; rfl, hg, (Array.getElem?_eq_some_iff.1 hh).1, a2, a1⟩
theorem GrpAt.rowsAt (h : GrpAt eS eI w base v rows) : ∃ A c, v = .slice A rows.length c ∧ RowsAt w base w.heap.size A rows.length c rows := by
  obtain ⟨A, c, hv, hs⟩ := h.out.slk encRow_len
  refine ⟨A, c, hv, hs, fun x hx => ?_⟩
  obtain ⟨A', c', e, hs'⟩ := (h.inn x hx).1.slk encInt_len
  have : x.n = x.xs.length := by
    obtain ⟨g, _, _, _, e2, _⟩ := own_some (h.inn x hx).1 (h.inn x hx).2
    exact e2
  have e' : valRow x = .slice x.A x.n x.c := rfl
  rw [e'] at e
  injection e with a1 a2 a3
  rw [a1, a3, this]
  exact hs'
theorem GrpAt.nil_ (eS eI : TypeId) (w : World) (base : Nat) (v : Value) (h : Own 1 encRow eS w base v []) : GrpAt eS eI w base v [] :=
  ⟨h, fun r hr => by simp at hr, fun i j ri rj hi => by simp at hi, fun r hr => by simp at hr⟩
theorem GrpAt.lt (h : GrpAt eS eI w base v rows) : ∀ g, v.ownBlock = some g → base ≤ g ∧ g < w.heap.size := h.out.lt
theorem GrpAt.below (h : GrpAt eS eI w base v rows) (hb : Below w.heap.size w w') : GrpAt eS eI w' base v rows :=
  ⟨h.out.below hb, fun r hr => ⟨(h.inn r hr).1.below hb, (h.inn r hr).2⟩, h.dis, h.apart⟩
theorem GrpAt.alloc (h : GrpAt eS eI w base v rows) (o : Obj) : GrpAt eS eI (w.alloc o) base v rows :=
  ⟨h.out.alloc o, fun r hr => ⟨(h.inn r hr).1.alloc o, (h.inn r hr).2⟩, h.dis, h.apart⟩
theorem GrpAt.drew (h : GrpAt eS eI w base v rows) : GrpAt eS eI w.drew base v rows := ⟨h.out.drew, fun r hr => ⟨(h.inn r hr).1.drew, (h.inn r hr).2⟩, h.dis, h.apart⟩
theorem GrpAt.grown {g : Option Nat} (h : GrpAt eS eI w base v rows) (hg : w.grownBy w' g) (h0 : ∀ x, g = some x → x < base) : GrpAt eS eI w' base v rows := by
  have hne : ∀ u : Value, (∀ x, u.ownBlock = some x → base ≤ x) → u.ownBlock = none ∨ u.ownBlock ≠ g := fun u hu => by
    cases hc : u.ownBlock with
    | none => exact .inl rfl
    | some x =>
      refine .inr fun e => ?_
      have h1 := hu x hc
      have h2 := h0 x e.symm
      omega
  exact ⟨h.out.grown hg (hne _ fun x hx => (h.out.lt x hx).1), fun r hr => ⟨(h.inn r hr).1.grown hg (hne _ fun x hx => ((h.inn r hr).1.lt x hx).1), (h.inn r hr).2⟩, h.dis, h.apart⟩
/-- A new group behind the others: the row's block is newer than all. -/
theorem GrpAt.push {r : IRow} {v' : Value} {g0 : Nat} (h : GrpAt eS eI w base v rows) (hr : Own 1 encInt eI w base (valRow r) r.xs) (hn : 0 < r.xs.length) (hg0 : (valRow r).ownBlock = some g0)
    (hnew : ∀ x ∈ rows, (valRow x).ownBlock ≠ some g0) (hnv : v.ownBlock ≠ some g0)
    (ho : Own 1 encRow eS w' base v' (rows ++ [r])) (hg : w.grownBy w' v.ownBlock) (hv : v'.ownBlock = v.ownBlock ∨ v'.ownBlock = some w.heap.size) : GrpAt eS eI w' base v' (rows ++ [r]) := by
  have hblk : ∀ x ∈ rows ++ [r], Own 1 encInt eI w base (valRow x) x.xs ∧ 0 < x.xs.length ∧ (valRow x).ownBlock ≠ v.ownBlock := fun x hx => by
    rw [List.mem_append, List.mem_singleton] at hx
    rcases hx with hx | rfl
    · exact ⟨(h.inn x hx).1, (h.inn x hx).2, h.apart x hx⟩
    · exact ⟨hr, hn, by rw [hg0]; exact fun e => hnv e.symm⟩
  refine ⟨ho, fun x hx => ⟨(hblk x hx).1.grown hg (.inr (hblk x hx).2.2), (hblk x hx).2.1⟩, fun i j ri rj hi hj hij => ?_, fun x hx => ?_⟩
  · rcases Nat.lt_or_ge i rows.length with hi' | hi'
    · rw [List.getElem?_append_left hi'] at hi
      rcases Nat.lt_or_ge j rows.length with hj' | hj'
      · rw [List.getElem?_append_left hj'] at hj
        exact h.dis i j ri rj hi hj hij
      · rw [List.getElem?_append_right hj'] at hj
        have : rj = r := by
          have := List.mem_of_getElem? hj
          simpa using this
        subst this
        rw [hg0]
        exact hnew ri (List.mem_of_getElem? hi)
    · rw [List.getElem?_append_right hi'] at hi
      have e1 : ri = r := by
        have := List.mem_of_getElem? hi
        simpa using this
      subst e1
      rcases Nat.lt_or_ge j rows.length with hj' | hj'
      · rw [List.getElem?_append_left hj'] at hj
        rw [hg0]
        exact fun e => hnew rj (List.mem_of_getElem? hj) e.symm
      · have l1 : i < rows.length + 1 := by
          have := (List.getElem?_eq_some_iff.1 hi).1
          simp at this; omega
        have l2 : j < rows.length + 1 := by
          rw [List.getElem?_append_right hj'] at hj
          have := (List.getElem?_eq_some_iff.1 hj).1
          simp at this; omega
        omega
  · rcases hv with hv | hv
    · rw [hv]; exact (hblk x hx).2.2
    · rw [hv]
      intro e
      have := ((hblk x hx).1.lt _ e).2
      omega
theorem own_at0 {α : Type} {k : Nat} {enc : α → List Value} {w : World} {base n : Nat} {e : TypeId} {v : Value} {zs : List α} (h : Own k enc e w base v zs) (hn : zs.length = n) (h0 : 0 < n) : ∃ g cap, v = .slice (some ⟨g, 0, none⟩) n cap ∧ base ≤ g ∧ g < w.heap.size := by
  obtain ⟨_, h2⟩ := h
  rcases h2 with ⟨h2, h3⟩ | ⟨g, cap, cur, hv, hg, hh, hnc, hcm, _⟩
  · omega
  · subst hn
    exact ⟨g, cap, hv, hg, (Array.getElem?_eq_some_iff.1 hh).1⟩
theorem flat_rows : ∀ (rows : List IRow), rows.flatMap encRow = rows.map valRow
  | [] => rfl
  | r :: rs => by rw [List.flatMap_cons, flat_rows rs]; rfl
/-- A group has grown by one, and stands in its place again. -/
theorem GrpAt.put {r r' : IRow} {i gv n c : Nat} (h : GrpAt eS eI w base (.slice (some ⟨gv, 0, none⟩) n c) rows) (hi : rows[i]? = some r) (hr : Own 1 encInt eI w' base (valRow r') r'.xs) (hn : 0 < r'.xs.length)
    (hg : w.grownBy w' (valRow r).ownBlock) (hv : (valRow r').ownBlock = (valRow r).ownBlock ∨ (valRow r').ownBlock = some w.heap.size) :
    GrpAt eS eI (w'.setCell ⟨gv, i, none⟩ (valRow r')) base (.slice (some ⟨gv, 0, none⟩) n c) (rows.set i r') := by
  have hvb : (Value.slice (some ⟨gv, 0, none⟩) n c).ownBlock = some gv := rfl
  have hil : i < rows.length := (List.getElem?_eq_some_iff.1 hi).1
  have hrm := List.mem_of_getElem? hi
  obtain ⟨gr, hgr, hgb, hgl, _, _⟩ := own_some (h.inn r hrm).1 (h.inn r hrm).2
  have hap : ∀ x ∈ rows, (valRow x).ownBlock ≠ some gv := fun x hx => by have := h.apart x hx; rwa [hvb] at this
  have hgv := h.out.lt gv hvb
  have ho : Own 1 encRow eS w' base (.slice (some ⟨gv, 0, none⟩) n c) rows := h.out.grown hg (.inr (by rw [hvb]; exact fun e => hap r hrm e.symm))
  have hlen : n = rows.length := by
    obtain ⟨A, c', e, _⟩ := ho.slk encRow_len
    injection e
  subst hlen
  have ho' : w'.ownsRow base eS 1 (.slice (some ⟨gv, 0, none⟩) rows.length c) rows.length (rows.flatMap encRow) := ho
  obtain ⟨s1, s2⟩ := ho'.stored i (valRow r')
  have hother : ∀ j x, rows[j]? = some x → j ≠ i → Own 1 encInt eI w' base (valRow x) x.xs := fun j x hj hji => (h.inn x (List.mem_of_getElem? hj)).1.grown hg (.inr (h.dis j i x r hj hi hji))
  have hrb : (valRow r').ownBlock ≠ some gv := by
    rcases hv with hv | hv
    · rw [hv]; exact hap r hrm
    · rw [hv]; intro e; injection e with e; omega
  have hrd : ∀ j x, rows[j]? = some x → j ≠ i → (valRow x).ownBlock ≠ (valRow r').ownBlock := fun j x hj hji => by
    rcases hv with hv | hv
    · rw [hv]; exact h.dis j i x r hj hi hji
    · rw [hv]
      intro e
      have := ((h.inn x (List.mem_of_getElem? hj)).1.lt _ e).2
      omega
  have hget : ∀ j x, (rows.set i r')[j]? = some x → (j = i ∧ x = r') ∨ (j ≠ i ∧ rows[j]? = some x) := fun j x hj => by
    by_cases e : j = i
    · subst e
      rw [List.getElem?_set_self hil] at hj
      injection hj with hj
      exact .inl ⟨rfl, hj.symm⟩
    · rw [List.getElem?_set_ne (fun h => e h.symm)] at hj
      exact .inr ⟨e, hj⟩
  refine ⟨?_, fun x hx => ?_, fun j k rj rk hj hk hjk => ?_, fun x hx => ?_⟩
  · show World.ownsRow _ base eS 1 _ (rows.set i r').length ((rows.set i r').flatMap encRow)
    rw [List.length_set, flat_rows, List.map_set, ← flat_rows]
    exact s1
  · obtain ⟨j, hj⟩ := List.mem_iff_getElem?.1 hx
    rcases hget j x hj with ⟨_, rfl⟩ | ⟨hne, hj'⟩
    · exact ⟨hr.grown s2 (.inr hrb), hn⟩
    · exact ⟨(hother j x hj' hne).grown s2 (.inr (hap x (List.mem_of_getElem? hj'))), (h.inn x (List.mem_of_getElem? hj')).2⟩
  · rcases hget j rj hj with ⟨rfl, rfl⟩ | ⟨hne, hj'⟩
    · rcases hget k rk hk with ⟨rfl, rfl⟩ | ⟨hne2, hk'⟩
      · exact absurd rfl hjk
      · exact fun e => hrd k rk hk' hne2 e.symm
    · rcases hget k rk hk with ⟨rfl, rfl⟩ | ⟨hne2, hk'⟩
      · exact hrd j rj hj' hne
      · exact h.dis j k rj rk hj' hk' hjk
  · obtain ⟨j, hj⟩ := List.mem_iff_getElem?.1 hx
    rw [hvb]
    rcases hget j x hj with ⟨_, rfl⟩ | ⟨_, hj'⟩
    · exact hrb
    · exact hap x (List.mem_of_getElem? hj')
theorem rowsL_set (rows : List IRow) (i : Nat) (r : IRow) : rowsL (rows.set i r) = (rowsL rows).set i r.xs := by
  unfold rowsL
  rw [List.map_set]
theorem modify_set {α : Type} (f : α → α) (xs : List α) (i : Nat) (x : α) (h : xs[i]? = some x) : xs.modify i f = xs.set i (f x) := by
  apply List.ext_getElem?
  intro j
  obtain ⟨hi, rfl⟩ := List.getElem?_eq_some_iff.1 h
  rw [List.getElem?_modify]
  by_cases e : i = j
  · subst e
    rw [List.getElem?_set_self hi, List.getElem?_eq_getElem hi]
    simp
  · rw [List.getElem?_set_ne e]
    simp [e]
end
end Go.Proofs.YtehgdhekiogppaaGreat
