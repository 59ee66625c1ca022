/- What holds of groups. -/
import Derived.Test.YtehgdhekiogppaaGreatGrp
namespace Go.Proofs.YtehgdhekiogppaaGreat
open Go.ChangeShapes Go.WideShapes Go.ChangeAt Go.RowKit Go.Deep
set_option linter.unusedVariables false
set_option linter.unusedSimpArgs false
/-- What holds of groups while they are made. -/
structure GInv (m : Int → Int → Bool) (ks : List Int) (out : List (List Int)) : Prop where
  mem : ∀ x, x ∈ ks ↔ ∃ g ∈ out, x ∈ g
  pair : ∀ g ∈ out, g.Pairwise fun x y => m x y = true
  head : ∀ (i : Nat) g, out[i]? = some g → ∃ h t, g = h :: t ∧ ∀ (k : Nat) gk, k < i → out[k]? = some gk → ∃ y ∈ gk, m y h = false
theorem ginv_nil (m : Int → Int → Bool) : GInv m [] [] := ⟨fun x => by simp, fun g hg => by simp at hg, fun i g hg => by simp at hg⟩
theorem ginv_add {m : Int → Int → Bool} {ks : List Int} {out : List (List Int)} (k : Int) (h : GInv m ks out) : GInv m (ks ++ [k]) (addG m out k) := by
  rcases idxOf_cases (fun g => joinB m g k) out with hi | ⟨i, hil, hi⟩
  · rw [addG_new hi]
    have hno : ∀ g ∈ out, ∃ y ∈ g, m y k = false := fun g hg => by
      have hp : joinB m g k = false := by
        unfold idxOf at hi
        split at hi
        · omega
        · rename_i hn
          exact (List.findIdx?_eq_none_iff.1 hn) g hg
      unfold joinB at hp
      rw [List.all_eq_false] at hp
      obtain ⟨y, hy, hy2⟩ := hp
      exact ⟨y, hy, by simpa using hy2⟩
    refine ⟨fun x => ?_, fun g hg => ?_, fun j g hj => ?_⟩
    · rw [List.mem_append, h.mem, List.mem_singleton]
      constructor
      · rintro (⟨g, hg, hx⟩ | rfl)
        · exact ⟨g, List.mem_append_left _ hg, hx⟩
        · exact ⟨[x], List.mem_append_right _ (List.mem_singleton.2 rfl), List.mem_singleton.2 rfl⟩
      · rintro ⟨g, hg, hx⟩
        rw [List.mem_append, List.mem_singleton] at hg
        rcases hg with hg | rfl
        · exact .inl ⟨g, hg, hx⟩
        · exact .inr (List.mem_singleton.1 hx)
    · rw [List.mem_append, List.mem_singleton] at hg
      rcases hg with hg | rfl
      · exact h.pair g hg
      · exact List.pairwise_singleton _ _
    · rcases Nat.lt_or_ge j out.length with hlt | hge
      · rw [List.getElem?_append_left hlt] at hj
        obtain ⟨a, t, e, hk⟩ := h.head j g hj
        exact ⟨a, t, e, fun k' gk hk' hgk => hk k' gk hk' (by rwa [List.getElem?_append_left (by omega)] at hgk)⟩
      · rw [List.getElem?_append_right hge] at hj
        have e : g = [k] := by
          have := List.mem_of_getElem? hj
          simpa using this
        have hj0 : j = out.length := by
          have := (List.getElem?_eq_some_iff.1 hj).1
          simp at this
          omega
        refine ⟨k, [], e, fun k' gk hk' hgk => ?_⟩
        rw [List.getElem?_append_left (by omega)] at hgk
        exact hno gk (List.mem_of_getElem? hgk)
  · rw [addG_old hi]
    have hget := List.getElem?_eq_getElem hil
    obtain ⟨gi, hgi⟩ : ∃ gi, out[i]? = some gi := ⟨_, hget⟩
    rw [modify_set _ _ _ gi hgi]
    have hj : joinB m gi k = true := by
      unfold idxOf at hi
      split at hi
      · rename_i t ht
        have : t = i := by omega
        subst this
        have := (List.findIdx?_eq_some_iff_getElem.1 ht)
        obtain ⟨h1, h2, _⟩ := this
        have e : out[t] = gi := by rw [hget] at hgi; injection hgi
        rw [← e]
        exact h2
      · omega
    have hall : ∀ x ∈ gi, m x k = true := fun x hx => by
      unfold joinB at hj
      exact List.all_eq_true.1 hj x hx
    have hset : ∀ (j : Nat) g, (out.set i (gi ++ [k]))[j]? = some g → (j = i ∧ g = gi ++ [k]) ∨ (j ≠ i ∧ out[j]? = some g) := fun j g hg => by
      by_cases e : j = i
      · subst e
        rw [List.getElem?_set_self hil] at hg
        injection hg with hg
        exact .inl ⟨rfl, hg.symm⟩
      · rw [List.getElem?_set_ne (fun h => e h.symm)] at hg
        exact .inr ⟨e, hg⟩
    have hsub : ∀ (j : Nat) g, out[j]? = some g → ∃ g', (out.set i (gi ++ [k]))[j]? = some g' ∧ ∀ x ∈ g, x ∈ g' := fun j g hg => by
      by_cases e : j = i
      · subst e
        rw [hgi] at hg
        injection hg with hg
        subst hg
        exact ⟨gi ++ [k], List.getElem?_set_self hil, fun x hx => List.mem_append_left _ hx⟩
      · exact ⟨g, by rw [List.getElem?_set_ne (fun h => e h.symm)]; exact hg, fun x hx => hx⟩
    refine ⟨fun x => ?_, fun g hg => ?_, fun j g hjg => ?_⟩
    · rw [List.mem_append, h.mem, List.mem_singleton]
      constructor
      · rintro (⟨g, hg, hx⟩ | rfl)
        · obtain ⟨j, hjg⟩ := List.mem_iff_getElem?.1 hg
          obtain ⟨g', h1, h2⟩ := hsub j g hjg
          exact ⟨g', List.mem_of_getElem? h1, h2 x hx⟩
        · exact ⟨gi ++ [x], List.mem_of_getElem? (List.getElem?_set_self hil), by simp⟩
      · rintro ⟨g, hg, hx⟩
        obtain ⟨j, hjg⟩ := List.mem_iff_getElem?.1 hg
        rcases hset j g hjg with ⟨_, rfl⟩ | ⟨_, hjg'⟩
        · rw [List.mem_append, List.mem_singleton] at hx
          rcases hx with hx | hx
          · exact .inl ⟨gi, List.mem_of_getElem? hgi, hx⟩
          · exact .inr hx
        · exact .inl ⟨g, List.mem_of_getElem? hjg', hx⟩
    · obtain ⟨j, hjg⟩ := List.mem_iff_getElem?.1 hg
      rcases hset j g hjg with ⟨_, rfl⟩ | ⟨_, hjg'⟩
      · rw [List.pairwise_append]
        exact ⟨h.pair gi (List.mem_of_getElem? hgi), List.pairwise_singleton _ _, fun x hx y hy => by rw [List.mem_singleton] at hy; rw [hy]; exact hall x hx⟩
      · exact h.pair g (List.mem_of_getElem? hjg')
    · have hback : ∀ (k' : Nat) gk, (out.set i (gi ++ [k]))[k']? = some gk → ∃ g0, out[k']? = some g0 ∧ ∀ x ∈ g0, x ∈ gk := fun k' gk hgk => by
        rcases hset k' gk hgk with ⟨rfl, rfl⟩ | ⟨_, h'⟩
        · exact ⟨gi, hgi, fun x hx => List.mem_append_left _ hx⟩
        · exact ⟨gk, h', fun x hx => hx⟩
      rcases hset j g hjg with ⟨rfl, rfl⟩ | ⟨_, hjg'⟩
      · obtain ⟨a, t, e, hk⟩ := h.head j gi hgi
        refine ⟨a, t ++ [k], by rw [e]; rfl, fun k' gk hk' hgk => ?_⟩
        obtain ⟨g0, h1, h2⟩ := hback k' gk hgk
        obtain ⟨y, hy, hm⟩ := hk k' g0 hk' h1
        exact ⟨y, h2 y hy, hm⟩
      · obtain ⟨a, t, e, hk⟩ := h.head j g hjg'
        refine ⟨a, t, e, fun k' gk hk' hgk => ?_⟩
        obtain ⟨g0, h1, h2⟩ := hback k' gk hgk
        obtain ⟨y, hy, hm⟩ := hk k' g0 hk' h1
        exact ⟨y, h2 y hy, hm⟩
theorem ginv_groups (m : Int → Int → Bool) : ∀ ks pre out, GInv m pre out → GInv m (pre ++ ks) (ks.foldl (addG m) out)
  | [], pre, out, h => by simpa using h
  | k :: ks, pre, out, h => by
    have := ginv_groups m ks (pre ++ [k]) (addG m out k) (ginv_add k h)
    simpa using this
theorem ginv_all (m : Int → Int → Bool) (ks : List Int) : GInv m ks (groupsL m ks) := by
  have := ginv_groups m ks [] [] (ginv_nil m)
  unfold groupsL
  simpa using this
/-- Where m is an equivalence among the kinds that there are, no two of two groups are related. -/
theorem groups_apart {m : Int → Int → Bool} {ks : List Int} (hs : ∀ a b, m a b = m b a) (ht : ∀ a ∈ ks, ∀ b ∈ ks, ∀ c ∈ ks, m a b = true → m b c = true → m a c = true) (hr : ∀ a ∈ ks, m a a = true)
    {i k : Nat} {gi gk : List Int} (hk : k < i) (hi : (groupsL m ks)[i]? = some gi) (hgk : (groupsL m ks)[k]? = some gk) {x y : Int} (hx : x ∈ gi) (hy : y ∈ gk) : m x y = false := by
  have h := ginv_all m ks
  have hin : ∀ (j : Nat) g, (groupsL m ks)[j]? = some g → ∀ z ∈ g, z ∈ ks := fun j g hj z hz => (h.mem z).2 ⟨g, List.mem_of_getElem? hj, hz⟩
  have hone : ∀ (j : Nat) g, (groupsL m ks)[j]? = some g → ∀ a ∈ g, ∀ b ∈ g, m a b = true := fun j g hj a ha b hb => by
    obtain ⟨p, hp, rfl⟩ := List.mem_iff_getElem.1 ha
    obtain ⟨q, hq, rfl⟩ := List.mem_iff_getElem.1 hb
    have hpw := List.pairwise_iff_getElem.1 (h.pair g (List.mem_of_getElem? hj))
    rcases Nat.lt_trichotomy p q with hlt | rfl | hlt
    · exact hpw p q hp hq hlt
    · exact hr _ (hin j g hj _ ha)
    · rw [hs]; exact hpw q p hq hp hlt
  cases hm : m x y
  · rfl
  · exfalso
    obtain ⟨a, t, rfl, hh⟩ := h.head i gi hi
    obtain ⟨z, hz, hz2⟩ := hh k gk hk hgk
    have ha : a ∈ a :: t := List.mem_cons_self
    have h1 : m a x = true := hone i _ hi a ha x hx
    have h2 : m a y = true := ht a (hin i _ hi a ha) x (hin i _ hi x hx) y (hin k _ hgk y hy) h1 hm
    have h3 : m y z = true := hone k _ hgk y hy z hz
    have h4 : m a z = true := ht a (hin i _ hi a ha) y (hin k _ hgk y hy) z (hin k _ hgk z hz) h2 h3
    rw [hs, h4] at hz2
    cases hz2
end Go.Proofs.YtehgdhekiogppaaGreat
