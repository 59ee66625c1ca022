/- From a law's arguments to this text's words: a slice of whatever elements; bytes. -/
import Derived.Test.YtcjcmdikopipjaaDoorOpen
import Derived.Test.YtcjcmdikopipjaaDoorCur
namespace Go.Proofs.YtcjcmdikopipjaaDoor
open Go.ChangeShapes Go.WideShapes Go.ChangeAt Go.RowKit Go.Deep
set_option linter.unusedVariables false
set_option linter.unusedSimpArgs false

section
variable {H : Type} {enc : TypeId × Value → H} {P : Program} {W : World}
/-- A slice of elements of k cells each, whatever the elements are. -/
theorem open_gen {α : Type} [Inhabited α] {encA : α → List Value} {R : α → Prop} {t e : TypeId} {k fuel : Nat} {v : Value} {x : DataW H × List MemPlace} (ht : P.underlying t = some (.slice e)) (hC : P.cellsOf e = k) (hk : 0 < k)
    (hrow : ∀ n cs x, DataW.trod enc P W 0 (fun _ => true) true n e cs = some x → W.noneFrozen x.2 → ∃ y : α, cs = encA y ∧ (encA y).length = k ∧ R y)
    (h : DataW.trod enc P W 0 (fun _ => true) true fuel t [v] = some x) (hfz : W.noneFrozen x.2) :
    ∃ A n c, ∃ ys : List α, v = .slice A n c ∧ SlK k encA W 0 W.heap.size A n c ys ∧ ∀ y ∈ ys, R y := by
  rcases open_slice ht h with ⟨hv, _⟩ | ⟨a, len, cap, m, n, D, Pl, hv, _, hl, hm, hmm, hx, hi⟩
  · simp at hv
    exact ⟨none, 0, 0, [], hv, SlK.nil_ (by simp [maxLen]), fun _ h => by simp at h⟩
  · simp at hv
    simp only [if_true] at hmm
    subst hmm
    have hcell : ∀ i, i < m → ∃ y : α, (encA y).length = k ∧ R y ∧ ∀ j, j < k → W.cell? (a.add (i * k + j)) = (encA y)[j]? := by
      intro i him
      obtain ⟨cs', hc, ht'⟩ := hi i him
      rw [hC] at hc
      have hfi : W.noneFrozen (Pl i) := fun b off hin => hfz b off (by rw [hx]; exact List.mem_append_right _ (List.mem_flatMap.2 ⟨i, List.mem_range.2 him, hin⟩))
      obtain ⟨y, rfl, hyl, hr⟩ := hrow n cs' _ ht' hfi
      obtain ⟨_, hcl, hat⟩ := World.cells?_some hc
      refine ⟨y, hyl, hr, fun j hj => ?_⟩
      rw [← Go.Deep.add_add]
      exact hat j hj
    refine ⟨some a, len, m, (List.range len).map fun i => if h : i < m then (hcell i h).choose else default, hv, ⟨by simp, hl, hm, fun hn => ?_⟩, fun zs hzs => ?_⟩
    · obtain ⟨b, off, spot⟩ := a
      have hspot : spot = none := by
        obtain ⟨zs, hz, _, hz'⟩ := hcell 0 (by omega)
        have h0 := hz' 0 hk
        simp only [Nat.zero_mul, Nat.add_zero] at h0
        rw [List.getElem?_eq_getElem (by omega)] at h0
        simpa [Addr.add] using World.cell?_spot h0
      subst hspot
      have hb : b < W.heap.size := by
        obtain ⟨zs, hz, _, hz'⟩ := hcell 0 (by omega)
        have h0 := hz' 0 hk
        simp only [Nat.zero_mul, Nat.add_zero] at h0
        rw [List.getElem?_eq_getElem (by omega)] at h0
        have := World.block_lt_of_cell? W _ h0
        rwa [show ((⟨b, off, none⟩ : Addr).add 0).block = b from rfl] at this
      refine ⟨b, off, rfl, Nat.zero_le _, hb, fun i y hy j u hu => ?_⟩
      rw [List.getElem?_map] at hy
      obtain ⟨i', hi', rfl⟩ := Option.map_eq_some_iff.1 hy
      rw [List.getElem?_range (by
        rcases Nat.lt_or_ge i len with h' | h'
        · exact h'
        · rw [List.getElem?_eq_none (by simpa using h')] at hi'
          cases hi')] at hi'
      injection hi' with hi'
      subst hi'
      have hil : i < len := by
        rcases Nat.lt_or_ge i len with h' | h'
        · exact h'
        · rw [List.getElem?_eq_none (by simpa using h')] at hy
          cases hy
      have him : i < m := by omega
      rw [dif_pos him] at hu
      obtain ⟨hcl, _, hca⟩ := (hcell i him).choose_spec
      have hj : j < k := by
        have := (List.getElem?_eq_some_iff.1 hu).1
        omega
      have e1 := hca j hj
      rw [Addr.add_mid] at e1
      refine ⟨by rw [show off + i * k + j = off + (i * k + j) from by omega]; rw [e1]; exact hu, ?_⟩
      have hin : MemPlace.cell b (off + i * k + j) ∈ x.2 := by
        rw [hx]
        refine List.mem_append_left _ ?_
        rw [hC]
        have hlt : i * k + j < m * k := by
          have : (i + 1) * k ≤ m * k := Nat.mul_le_mul_right _ him
          rw [Nat.succ_mul] at this
          omega
        exact MemPlace.mem_row.2 ⟨i * k + j, hlt, by simp [Nat.add_assoc]⟩
      exact hfz _ _ hin
    · rw [List.mem_map] at hzs
      obtain ⟨i, hi', rfl⟩ := hzs
      have : i < m := by have := List.mem_range.1 hi'; omega
      rw [dif_pos this]
      exact (hcell i this).choose_spec.2.1
theorem open_bytes {t e : TypeId} {fuel : Nat} {v : Value} {x : DataW H × List MemPlace} (ht : P.underlying t = some (.slice e)) (hC : P.cellsOf e = 1) (he : P.underlying e = some (.int .u8))
    (h : DataW.trod enc P W 0 (fun _ => true) true fuel t [v] = some x) (hfz : W.noneFrozen x.2) : ∃ A n c, ∃ bs : List Int, v = .slice A n c ∧ SlK 1 encByte W 0 W.heap.size A n c bs ∧ ∀ b ∈ bs, 0 ≤ b ∧ b ≤ 255 :=
  open_gen (encA := encByte) (R := fun b => 0 ≤ b ∧ b ≤ 255) ht hC (by omega) (fun m cs y hy hz => by
    obtain ⟨z, rfl, _, hw⟩ := DataW.trod_int he hy
    refine ⟨z, rfl, rfl, ?_⟩
    have h2 : IntKind.min .u8 ≤ z ∧ z ≤ IntKind.max .u8 := by simpa only [Lit.wf, Bool.and_eq_true, decide_eq_true_eq] using hw
    rw [show IntKind.min .u8 = 0 from rfl, show IntKind.max .u8 = 255 from rfl] at h2
    exact h2) h hfz
end
end Go.Proofs.YtcjcmdikopipjaaDoor
