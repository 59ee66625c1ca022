/- Plain facts for FnCheapest. -/
import Derived.Test.YtehgdhekiogppaaGreatCh
namespace Go.Proofs.YtehgdhekiogppaaGreat
open Go.ChangeShapes Go.WideShapes Go.ChangeAt Go.RowKit Go.Deep
set_option linter.unusedVariables false
set_option linter.unusedSimpArgs false

theorem better_iff (a b : Ty) : betterB a b = true ↔ (a.cost < b.cost ∨ (a.cost = b.cost ∧ a.id < b.id)) := by
  unfold betterB
  simp
/-- What holds of the cheapest among some. -/
structure ChOk (r : Rq) (us : List Int) (ts : List Ty) (o : Option Ty) : Prop where
  all : ∀ t ∈ ts, holdsB r us t = true → ∃ b, o = some b ∧ b.cost ≤ t.cost ∧ (t.cost = b.cost → b.id ≤ t.id)
  one : ∀ b, o = some b → holdsB r us b = true ∧ b ∈ ts
theorem chOk_nil (r : Rq) (us : List Int) : ChOk r us [] none := ⟨fun t h => (by cases h), fun b h => (by cases h)⟩
theorem chOk_step {r : Rq} {us : List Int} {ts : List Ty} {o : Option Ty} (h : ChOk r us ts o) (t : Ty) : ChOk r us (ts ++ [t]) (chStep r us o t) := by
  cases hh : holdsB r us t
  · rw [ch_no hh]
    refine ⟨fun s hs hst => ?_, fun b hb => ?_⟩
    · rw [List.mem_append, List.mem_singleton] at hs
      rcases hs with hs | rfl
      · exact h.all s hs hst
      · rw [hh] at hst
        cases hst
    · obtain ⟨h1, h2⟩ := h.one b hb
      exact ⟨h1, List.mem_append_left _ h2⟩
  · cases o with
    | none =>
      rw [ch_first hh]
      refine ⟨fun s hs hst => ?_, fun b hb => ?_⟩
      · rw [List.mem_append, List.mem_singleton] at hs
        rcases hs with hs | rfl
        · obtain ⟨b, hb, _⟩ := h.all s hs hst
          cases hb
        · exact ⟨s, rfl, by omega, fun _ => by omega⟩
      · obtain rfl := Option.some.inj hb
        exact ⟨hh, List.mem_append_right _ (List.mem_singleton.2 rfl)⟩
    | some b =>
      obtain ⟨hb1, hb2⟩ := h.one b rfl
      cases hbt : betterB t b
      · rw [ch_worse hh hbt]
        have hnb : ¬ (t.cost < b.cost ∨ (t.cost = b.cost ∧ t.id < b.id)) := fun hx => by
          rw [(better_iff t b).2 hx] at hbt
          cases hbt
        refine ⟨fun s hs hst => ?_, fun b' hb' => ?_⟩
        · rw [List.mem_append, List.mem_singleton] at hs
          rcases hs with hs | rfl
          · exact h.all s hs hst
          · exact ⟨b, rfl, by omega, fun _ => by omega⟩
        · obtain rfl := Option.some.inj hb'
          exact ⟨hb1, List.mem_append_left _ hb2⟩
      · rw [ch_better hh hbt]
        have hbb := (better_iff t b).1 hbt
        refine ⟨fun s hs hst => ?_, fun b' hb' => ?_⟩
        · rw [List.mem_append, List.mem_singleton] at hs
          rcases hs with hs | rfl
          · obtain ⟨b', hb', h1, h2⟩ := h.all s hs hst
            obtain rfl := Option.some.inj hb'
            exact ⟨t, rfl, by omega, fun _ => by omega⟩
          · exact ⟨s, rfl, by omega, fun _ => by omega⟩
        · obtain rfl := Option.some.inj hb'
          exact ⟨hh, List.mem_append_right _ (List.mem_singleton.2 rfl)⟩
theorem chOk_fold (r : Rq) (us : List Int) : ∀ (ts pre : List Ty) (o : Option Ty), ChOk r us pre o → ChOk r us (pre ++ ts) (ts.foldl (chStep r us) o)
  | [], pre, o, h => by simpa using h
  | t :: ts, pre, o, h => by
    have := chOk_fold r us ts (pre ++ [t]) _ (chOk_step h t)
    simpa using this
theorem chOk_all (r : Rq) (us : List Int) (ts : List Ty) : ChOk r us ts (cheapL r us ts) := by
  have := chOk_fold r us ts [] none (chOk_nil r us)
  simpa [cheapL] using this
theorem ch_f1 (r : Rq) (us : List Int) (t : Ty) (ht : t ∈ r.types) (h : holdsB r us t = true) : (cheapL r us r.types).isSome = true ∧ (tyD (cheapL r us r.types)).cost ≤ t.cost ∧ (t.cost = (tyD (cheapL r us r.types)).cost → (tyD (cheapL r us r.types)).id ≤ t.id) := by
  obtain ⟨b, hb, h1, h2⟩ := (chOk_all r us r.types).all t ht h
  rw [hb]
  exact ⟨rfl, h1, h2⟩
theorem ch_f2 (r : Rq) (us : List Int) (h : (cheapL r us r.types).isSome = true) : holdsB r us (tyD (cheapL r us r.types)) = true := by
  cases ho : cheapL r us r.types with
  | none =>
    rw [ho] at h
    cases h
  | some b => exact ((chOk_all r us r.types).one b ho).1
theorem ch_f3 (r : Rq) (us : List Int) (h : (cheapL r us r.types).isSome = false) : (tyD (cheapL r us r.types)).id = 0 ∧ ((findTy r.types r.master).isSome = true → holdsB r us (tyD (findTy r.types r.master)) = false) := by
  cases ho : cheapL r us r.types with
  | some b =>
    rw [ho] at h
    cases h
  | none =>
    refine ⟨rfl, fun hf => ?_⟩
    cases hm : findTy r.types r.master with
    | none =>
      rw [hm] at hf
      cases hf
    | some t =>
      cases hh : holdsB r us (tyD (some t))
      · rfl
      · have hmem : t ∈ r.types := List.mem_of_find?_eq_some hm
        obtain ⟨b, hb, _⟩ := (chOk_all r us r.types).all t hmem hh
        rw [ho] at hb
        cases hb
end Go.Proofs.YtehgdhekiogppaaGreat
