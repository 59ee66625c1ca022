/- A row that is a function of its places: swapRange, rotate of the stable sort. -/
import Derived.Test.YtkpakpjbpmnbgaaSym
import Derived.Test.YtkpakpjbpmnbgaaRow1
import Derived.Test.YtkpakpjbpmnbgaaCur
import Derived.Test.YtkpakpjbpmnbgaaS1
namespace Go.Proofs.Ytkpakpjbpmnbgaa
open Go.ChangeShapes Go.WideShapes Go.ChangeAt Go.RowKit Go.Deep
set_option linter.unusedVariables false
set_option linter.unusedSimpArgs false

def cellsF (F : Nat → Int) (n : Nat) : List Value := (List.range n).map fun p => Value.int .i64 (F p)
theorem cellsF_len (F : Nat → Int) (n : Nat) : (cellsF F n).length = n := by simp [cellsF]
theorem cellsF_at (F : Nat → Int) {n i : Nat} (h : i < n) : (cellsF F n)[i]? = some (.int .i64 (F i)) := by
  unfold cellsF
  rw [List.getElem?_map, List.getElem?_range h]
  rfl
theorem cellsF_set (F : Nat → Int) {n i : Nat} (h : i < n) (v : Int) : setL (cellsF F n) i [.int .i64 v] = cellsF (fun p => if p = i then v else F p) n := by
  rw [setL_eq _ _ _ (by rw [cellsF_len]; simp; omega)]
  apply List.ext_getElem?
  intro j
  by_cases hj : j < n
  · rw [cellsF_at _ hj]
    rcases Nat.lt_trichotomy j i with hlt | rfl | hgt
    · rw [List.append_assoc, List.getElem?_append_left (by rw [List.length_take, cellsF_len]; omega), List.getElem?_take, if_pos hlt, cellsF_at F hj, if_neg (by omega)]
    · rw [List.append_assoc, List.getElem?_append_right (by rw [List.length_take, cellsF_len]; omega), List.length_take, cellsF_len, Nat.min_eq_left (by omega), Nat.sub_self, if_pos rfl]
      rfl
    · rw [List.getElem?_append_right (by rw [List.length_append, List.length_take, cellsF_len]; simp; omega), List.length_append, List.length_take, cellsF_len, Nat.min_eq_left (by omega), List.getElem?_drop]
      simp only [List.length_cons, List.length_nil]
      rw [show i + (0 + 1) + (j - (i + (0 + 1))) = j by omega, cellsF_at F hj, if_neg (by omega)]
  · rw [List.getElem?_eq_none (by simp [cellsF_len]; omega), List.getElem?_eq_none (by simp [cellsF_len]; omega)]
/-- The row's places, as a function; nothing else has been written since w0. -/
structure RowF (w0 w : World) (base g n cap : Nat) (F : Nat → Int) : Prop where
  row : w.ownsRow base 3 1 (.slice (some ⟨g, 0, none⟩) n cap) n (cellsF F n)
  gr : w0.grownBy w (some g)
section
variable {w0 w : World} {base g n cap : Nat} {F : Nat → Int}
theorem RowF.cell (h : RowF w0 w base g n cap F) {i : Nat} (hi : i < n) : w.cell? ⟨g, i, none⟩ = some (.int .i64 (F i)) := by
  rw [h.row.cellAt i (by omega), cellsF_at F hi]
theorem RowF.frozen (h : RowF w0 w base g n cap F) (i : Nat) : w.frozen? ⟨g, i, none⟩ = false := h.row.frozenAt i
theorem RowF.set (h : RowF w0 w base g n cap F) {i : Nat} (hi : i < n) (v : Int) : RowF w0 (w.setCell ⟨g, i, none⟩ (.int .i64 v)) base g n cap (fun p => if p = i then v else F p) := by
  obtain ⟨h1, h2⟩ := storedL [Value.int .i64 v] i h.row
  rw [cellsF_set F hi] at h1
  exact ⟨h1, grown_trans h.gr h2⟩
theorem RowF.drew (h : RowF w0 w base g n cap F) : RowF w0 w.drew base g n cap F := ⟨h.row, grown_trans h.gr (grown_drew w (some g))⟩
theorem RowF.congr {G : Nat → Int} (h : RowF w0 w base g n cap F) (e : F = G) : RowF w0 w base g n cap G := e ▸ h
end
set_option maxRecDepth 20000 in
set_option maxHeartbeats 2000000 in
theorem swapRange_any (w0 w : World) (base g n cap : Nat) (F : Nat → Int) (a b m : Nat) (f : Value) (h : RowF w0 w base g n cap F) (hab : a + m ≤ b) (hbn : b + m ≤ n) (hn : n ≤ 1048576) (hc : n ≤ cap) (hcm : cap ≤ 9223372036854775807) :
    Calls Try.prog 24 #[.slice (some ⟨g, 0, none⟩) n cap, .int .i64 a, .int .i64 b, .int .i64 m, f] w fun e w' => e = .returned (.tuple #[]) ∧ RowF w0 w' base g n cap (swapF F a b m) := by
  have H0 := hide h
  clear h
  go_enter Try.func24, Try.ntmps24
  go_wp2_with fail
  go_loopw [10] (fun i wr => ∃ k : Nat, k ≤ m ∧ i = .int .i64 k ∧ RowF w0 wr base g n cap (swapF F a b k)) (fun i _ => m - (intOf i).toNat)
  case atStart => exact ⟨0, Nat.zero_le _, rfl, H0.out.congr (by funext p; simp only [swapF]; (repeat' split) <;> first | (exfalso; omega) | rfl)⟩
  case round =>
    obtain ⟨k, hk, rfl, hrow⟩ := hrel
    have HR := hide hrow
    by_cases hlt : k < m
    · have i1 : (k : Int) < (m : Int) := by omega
      have ha1 : (0 : Int) ≤ (a : Int) + (k : Int) := by omega
      have ha2 : (a : Int) + (k : Int) < (n : Int) := by omega
      have hb1 : (0 : Int) ≤ (b : Int) + (k : Int) := by omega
      have hb2 : (b : Int) + (k : Int) < (n : Int) := by omega
      have hw1 : IntKind.i64.wrap ((a : Int) + (k : Int)) = (a : Int) + (k : Int) := by rw [IntKind.wrap_i64] <;> omega
      have hw2 : IntKind.i64.wrap ((b : Int) + (k : Int)) = (b : Int) + (k : Int) := by rw [IntKind.wrap_i64] <;> omega
      have ht1 : ((a : Int) + (k : Int)).toNat = a + k := by omega
      have ht2 : ((b : Int) + (k : Int)).toNat = b + k := by omega
      obtain ⟨e1, e2⟩ := swapF_at1 F (a := a) (b := b) (m := k) (by omega)
      have c1 := hrow.cell (i := a + k) (by omega)
      have c2 := hrow.cell (i := b + k) (by omega)
      rw [e1] at c1
      rw [e2] at c2
      have f1 := hrow.frozen (a + k)
      have f2 := hrow.frozen (b + k)
      have hne : a + k ≠ b + k := by omega
      have HN : Hid (RowF w0 ((wr.drew.setCell ⟨g, a + k, none⟩ (.int .i64 (F (b + k)))).setCell ⟨g, b + k, none⟩ (.int .i64 (F (a + k)))) base g n cap (swapF F a b (k + 1))) := hide (((hrow.drew.set (i := a + k) (by omega) (F (b + k))).set (i := b + k) (by omega) (F (a + k))).congr (by
        rw [swapF_succ F (by omega)]
        funext p
        repeat' split
        all_goals first | (exfalso; omega) | rfl))
      clear hrow
      go_wp2_with fail
      refine wp_region_held_drew (S := (fun _ => True)) (by kernel_rfl) ?hS0 (fun hHeld => ?_)
      case hS0 => (first | done | trivial)
      refine wpAnyH_take (i := 0) (v := ?_) rfl (by kernel_rfl) (by kernel_rfl) (by kernel_rfl) (fun _ _ _ h => h) (Or.inl ⟨by rfl, ?_⟩) (by assumption) ?_
      rotate_left 1
      · intro w hSw
        try dsimp only at hSw
        go_simp
        try with_reducible rfl
      simp only [Act.put, List.getElem_toArray, List.getElem_cons_succ, List.getElem_cons_zero, List.setIfInBounds_toArray, List.set_cons_zero, List.set_cons_succ]
      refine wpAnyH_take (i := 1) (v := ?_) rfl (by kernel_rfl) (by kernel_rfl) (by kernel_rfl) (fun _ _ _ h => h) (Or.inl ⟨by rfl, ?_⟩) (by assumption) ?_
      rotate_left 1
      · intro w hSw
        try dsimp only at hSw
        go_simp
        try with_reducible rfl
      simp only [Act.put, List.getElem_toArray, List.getElem_cons_succ, List.getElem_cons_zero, List.setIfInBounds_toArray, List.set_cons_zero, List.set_cons_succ]
      refine wpAnyH_take (i := 2) (v := ?_) rfl (by kernel_rfl) (by kernel_rfl) (by kernel_rfl) (fun _ _ _ h => h) (Or.inl ⟨by rfl, ?_⟩) (by assumption) ?_
      rotate_left 1
      · intro w hSw
        try dsimp only at hSw
        go_simp
        try with_reducible rfl
      simp only [Act.put, List.getElem_toArray, List.getElem_cons_succ, List.getElem_cons_zero, List.setIfInBounds_toArray, List.set_cons_zero, List.set_cons_succ]
      refine wpAnyH_take (i := 3) (v := ?_) rfl (by kernel_rfl) (by kernel_rfl) (by kernel_rfl) (fun _ _ _ h => h) (Or.inl ⟨by rfl, ?_⟩) (by assumption) ?_
      rotate_left 1
      · intro w hSw
        try dsimp only at hSw
        go_simp
        try with_reducible rfl
      simp only [Act.put, List.getElem_toArray, List.getElem_cons_succ, List.getElem_cons_zero, List.setIfInBounds_toArray, List.set_cons_zero, List.set_cons_succ]
      refine wpAnyH_take (i := 4) (v := ?_) rfl (by kernel_rfl) (by kernel_rfl) (by kernel_rfl) (fun _ _ _ h => h) (Or.inl ⟨by rfl, ?_⟩) (by assumption) ?_
      rotate_left 1
      · intro w hSw
        try dsimp only at hSw
        go_simp
        try with_reducible rfl
      simp only [Act.put, List.getElem_toArray, List.getElem_cons_succ, List.getElem_cons_zero, List.setIfInBounds_toArray, List.set_cons_zero, List.set_cons_succ]
      refine wpAnyH_take (i := 5) (v := ?_) rfl (by kernel_rfl) (by kernel_rfl) (by kernel_rfl) (fun _ _ _ h => h) (Or.inl ⟨by rfl, ?_⟩) (by assumption) ?_
      rotate_left 1
      · intro w hSw
        try dsimp only at hSw
        go_simp
        try with_reducible rfl
      simp only [Act.put, List.getElem_toArray, List.getElem_cons_succ, List.getElem_cons_zero, List.setIfInBounds_toArray, List.set_cons_zero, List.set_cons_succ]
      refine wpAnyH_take (i := 6) (v := ?_) rfl (by kernel_rfl) (by kernel_rfl) (by kernel_rfl) (fun _ _ _ h => h) (Or.inl ⟨by rfl, ?_⟩) (by assumption) ?_
      rotate_left 1
      · intro w hSw
        try dsimp only at hSw
        go_simp
        try with_reducible rfl
      simp only [Act.put, List.getElem_toArray, List.getElem_cons_succ, List.getElem_cons_zero, List.setIfInBounds_toArray, List.set_cons_zero, List.set_cons_succ]
      refine wpAnyH_take (i := 7) (v := ?_) rfl (by kernel_rfl) (by kernel_rfl) (by kernel_rfl) (fun _ _ _ h => h) (Or.inl ⟨by rfl, ?_⟩) (by assumption) ?_
      rotate_left 1
      · intro w hSw
        try dsimp only at hSw
        go_simp
        try with_reducible rfl
      simp only [Act.put, List.getElem_toArray, List.getElem_cons_succ, List.getElem_cons_zero, List.setIfInBounds_toArray, List.set_cons_zero, List.set_cons_succ]
      refine wpAnyH_take (i := 8) (v := ?_) rfl (by kernel_rfl) (by kernel_rfl) (by kernel_rfl) (fun _ _ _ h => h) (Or.inl ⟨by rfl, ?_⟩) (by assumption) ?_
      rotate_left 1
      · intro w hSw
        try dsimp only at hSw
        go_simp
        try with_reducible rfl
      simp only [Act.put, List.getElem_toArray, List.getElem_cons_succ, List.getElem_cons_zero, List.setIfInBounds_toArray, List.set_cons_zero, List.set_cons_succ]
      refine wpAnyH_take (i := 9) (v := ?_) rfl (by kernel_rfl) (by kernel_rfl) (by kernel_rfl) (fun _ _ _ h => h) (Or.inl ⟨by rfl, ?_⟩) (by assumption) ?_
      rotate_left 1
      · intro w hSw
        try dsimp only at hSw
        go_simp
        try with_reducible rfl
      simp only [Act.put, List.getElem_toArray, List.getElem_cons_succ, List.getElem_cons_zero, List.setIfInBounds_toArray, List.set_cons_zero, List.set_cons_succ]
      refine wpAnyH_take (i := 10) (v := ?_) rfl (by kernel_rfl) (by kernel_rfl) (by kernel_rfl) (fun _ _ _ h => h) (Or.inl ⟨by rfl, ?_⟩) (by assumption) ?_
      rotate_left 1
      · intro w hSw
        try dsimp only at hSw
        go_simp
        try with_reducible rfl
      simp only [Act.put, List.getElem_toArray, List.getElem_cons_succ, List.getElem_cons_zero, List.setIfInBounds_toArray, List.set_cons_zero, List.set_cons_succ]
      refine wpAnyH_take (i := 11) (v := ?_) rfl (by kernel_rfl) (by kernel_rfl) (by kernel_rfl) (fun _ _ _ h => h) (Or.inl ⟨by rfl, ?_⟩) (by assumption) ?_
      rotate_left 1
      · intro w hSw
        try dsimp only at hSw
        go_simp
        try with_reducible rfl
      simp only [Act.put, List.getElem_toArray, List.getElem_cons_succ, List.getElem_cons_zero, List.setIfInBounds_toArray, List.set_cons_zero, List.set_cons_succ]
      refine wpAnyH_take (i := 12) (v := ?_) rfl (by kernel_rfl) (by kernel_rfl) (by kernel_rfl) (fun _ _ _ h => h) (Or.inl ⟨by rfl, ?_⟩) (by assumption) ?_
      rotate_left 1
      · intro w hSw
        try dsimp only at hSw
        go_simp
        try with_reducible rfl
      simp only [Act.put, List.getElem_toArray, List.getElem_cons_succ, List.getElem_cons_zero, List.setIfInBounds_toArray, List.set_cons_zero, List.set_cons_succ]
      refine wpAnyH_take (i := 14) (v := ?_) rfl (by kernel_rfl) (by kernel_rfl) (by kernel_rfl) (fun _ _ _ h => h) (Or.inl ⟨by rfl, ?_⟩) (by assumption) ?_
      rotate_left 1
      · intro w hSw
        try dsimp only at hSw
        go_simp
        try with_reducible rfl
      simp only [Act.put, List.getElem_toArray, List.getElem_cons_succ, List.getElem_cons_zero, List.setIfInBounds_toArray, List.set_cons_zero, List.set_cons_succ]
      refine wpAnyH_take (i := 15) (v := ?_) rfl (by kernel_rfl) (by kernel_rfl) (by kernel_rfl) (fun _ _ _ h => h) (Or.inl ⟨by rfl, ?_⟩) (by assumption) ?_
      rotate_left 1
      · intro w hSw
        try dsimp only at hSw
        go_simp
        try with_reducible rfl
      simp only [Act.put, List.getElem_toArray, List.getElem_cons_succ, List.getElem_cons_zero, List.setIfInBounds_toArray, List.set_cons_zero, List.set_cons_succ]
      refine wpAnyH_take (i := 16) (v := ?_) rfl (by kernel_rfl) (by kernel_rfl) (by kernel_rfl) (fun _ _ _ h => h) (Or.inl ⟨by rfl, ?_⟩) (by assumption) ?_
      rotate_left 1
      · intro w hSw
        try dsimp only at hSw
        go_simp
        try with_reducible rfl
      simp only [Act.put, List.getElem_toArray, List.getElem_cons_succ, List.getElem_cons_zero, List.setIfInBounds_toArray, List.set_cons_zero, List.set_cons_succ]
      refine wpAnyH_take (i := 17) (v := ?_) rfl (by kernel_rfl) (by kernel_rfl) (by kernel_rfl) (fun _ _ _ h => h) (Or.inl ⟨by rfl, ?_⟩) (by assumption) ?_
      rotate_left 1
      · intro w hSw
        try dsimp only at hSw
        go_simp
        try with_reducible rfl
      simp only [Act.put, List.getElem_toArray, List.getElem_cons_succ, List.getElem_cons_zero, List.setIfInBounds_toArray, List.set_cons_zero, List.set_cons_succ]
      refine wpAnyH_take (i := 18) (v := ?_) rfl (by kernel_rfl) (by kernel_rfl) (by kernel_rfl) (fun _ _ _ h => h) (Or.inl ⟨by rfl, ?_⟩) (by assumption) ?_
      rotate_left 1
      · intro w hSw
        try dsimp only at hSw
        go_simp
        try with_reducible rfl
      simp only [Act.put, List.getElem_toArray, List.getElem_cons_succ, List.getElem_cons_zero, List.setIfInBounds_toArray, List.set_cons_zero, List.set_cons_succ]
      refine wpAnyH_ready (rs := [13, 19]) (by kernel_rfl) (by simp) ?_
      refine AllReadyH.cons rfl (fun K hK => ?_) ?_
      · skip
        go_simp
        refine hK.out _ _ ?hS1 (fun hHeld => ?_)
        case hS1 => (try dsimp only); (first | done | trivial)
        clear hK K
        try simp only [Act.put, List.getElem_toArray, List.getElem_cons_succ, List.getElem_cons_zero, List.setIfInBounds_toArray, List.set_cons_zero, List.set_cons_succ]
        refine wpAnyH_ready (rs := [19]) (by kernel_rfl) (by simp) ?_
        refine AllReadyH.cons rfl (fun K hK => ?_) AllReadyH.nil
        go_simp
        refine hK.out _ _ ?hS1 (fun hHeld => ?_)
        case hS1 => (try dsimp only); (first | done | trivial)
        clear hK K
        try simp only [Act.put, List.getElem_toArray, List.getElem_cons_succ, List.getElem_cons_zero, List.setIfInBounds_toArray, List.set_cons_zero, List.set_cons_succ]
        refine wpAnyH_take (i := 20) (v := ?_) rfl (by kernel_rfl) (by kernel_rfl) (by kernel_rfl) (fun _ _ _ h => h) (Or.inl ⟨by rfl, ?_⟩) (by assumption) ?_
        rotate_left 1
        · intro w hSw
          try dsimp only at hSw
          go_simp
          try with_reducible rfl
        simp only [Act.put, List.getElem_toArray, List.getElem_cons_succ, List.getElem_cons_zero, List.setIfInBounds_toArray, List.set_cons_zero, List.set_cons_succ]
        refine wpAnyH_ready (rs := [21]) (by kernel_rfl) (by simp) ?_
        refine AllReadyH.cons rfl (fun K hK => ?_) AllReadyH.nil
        go_simp
        refine hK.out _ _ ?hS1 (fun hHeld => ?_)
        case hS1 => (try dsimp only); (first | done | trivial)
        clear hK K
        try simp only [Act.put, List.getElem_toArray, List.getElem_cons_succ, List.getElem_cons_zero, List.setIfInBounds_toArray, List.set_cons_zero, List.set_cons_succ]
        refine wpAnyH_take (i := 22) (v := ?_) rfl (by kernel_rfl) (by kernel_rfl) (by kernel_rfl) (fun _ _ _ h => h) (Or.inl ⟨by rfl, ?_⟩) (by assumption) ?_
        rotate_left 1
        · intro w hSw
          try dsimp only at hSw
          go_simp
          try with_reducible rfl
        simp only [Act.put, List.getElem_toArray, List.getElem_cons_succ, List.getElem_cons_zero, List.setIfInBounds_toArray, List.set_cons_zero, List.set_cons_succ]
        refine wpAnyH_ready (rs := [23]) (by kernel_rfl) (by simp) ?_
        refine AllReadyH.cons rfl (fun K hK => ?_) AllReadyH.nil
        go_simp
        refine hK.out _ _ ?hS1 (fun hHeld => ?_)
        case hS1 => (try dsimp only); (first | done | trivial)
        clear hK K
        try simp only [Act.put, List.getElem_toArray, List.getElem_cons_succ, List.getElem_cons_zero, List.setIfInBounds_toArray, List.set_cons_zero, List.set_cons_succ]
        refine wpAnyH_done (by kernel_rfl) ?_ _
        go_wp2_with fail
        go_roundw
        case rel => exact ⟨k + 1, by omega, by go_num, HN.out⟩
        case measure => first | omega | (simp [intOf]; done) | (simp [intOf]; omega)
      refine AllReadyH.cons rfl (fun K hK => ?_) ?_
      · skip
        go_simp
        refine hK.out _ _ ?hS1 (fun hHeld => ?_)
        case hS1 => (try dsimp only); (first | done | trivial)
        clear hK K
        try simp only [Act.put, List.getElem_toArray, List.getElem_cons_succ, List.getElem_cons_zero, List.setIfInBounds_toArray, List.set_cons_zero, List.set_cons_succ]
        refine wpAnyH_ready (rs := [13]) (by kernel_rfl) (by simp) ?_
        refine AllReadyH.cons rfl (fun K hK => ?_) AllReadyH.nil
        go_simp
        refine hK.out _ _ ?hS1 (fun hHeld => ?_)
        case hS1 => (try dsimp only); (first | done | trivial)
        clear hK K
        try simp only [Act.put, List.getElem_toArray, List.getElem_cons_succ, List.getElem_cons_zero, List.setIfInBounds_toArray, List.set_cons_zero, List.set_cons_succ]
        refine wpAnyH_take (i := 20) (v := ?_) rfl (by kernel_rfl) (by kernel_rfl) (by kernel_rfl) (fun _ _ _ h => h) (Or.inl ⟨by rfl, ?_⟩) (by assumption) ?_
        rotate_left 1
        · intro w hSw
          try dsimp only at hSw
          go_simp
          try with_reducible rfl
        simp only [Act.put, List.getElem_toArray, List.getElem_cons_succ, List.getElem_cons_zero, List.setIfInBounds_toArray, List.set_cons_zero, List.set_cons_succ]
        refine wpAnyH_ready (rs := [21]) (by kernel_rfl) (by simp) ?_
        refine AllReadyH.cons rfl (fun K hK => ?_) AllReadyH.nil
        go_simp
        refine hK.out _ _ ?hS1 (fun hHeld => ?_)
        case hS1 => (try dsimp only); (first | done | trivial)
        clear hK K
        try simp only [Act.put, List.getElem_toArray, List.getElem_cons_succ, List.getElem_cons_zero, List.setIfInBounds_toArray, List.set_cons_zero, List.set_cons_succ]
        refine wpAnyH_take (i := 22) (v := ?_) rfl (by kernel_rfl) (by kernel_rfl) (by kernel_rfl) (fun _ _ _ h => h) (Or.inl ⟨by rfl, ?_⟩) (by assumption) ?_
        rotate_left 1
        · intro w hSw
          try dsimp only at hSw
          go_simp
          try with_reducible rfl
        simp only [Act.put, List.getElem_toArray, List.getElem_cons_succ, List.getElem_cons_zero, List.setIfInBounds_toArray, List.set_cons_zero, List.set_cons_succ]
        refine wpAnyH_ready (rs := [23]) (by kernel_rfl) (by simp) ?_
        refine AllReadyH.cons rfl (fun K hK => ?_) AllReadyH.nil
        go_simp
        refine hK.out _ _ ?hS1 (fun hHeld => ?_)
        case hS1 => (try dsimp only); (first | done | trivial)
        clear hK K
        try simp only [Act.put, List.getElem_toArray, List.getElem_cons_succ, List.getElem_cons_zero, List.setIfInBounds_toArray, List.set_cons_zero, List.set_cons_succ]
        refine wpAnyH_done (by kernel_rfl) ?_ _
        go_wp2_with fail
        go_roundw
        case rel => exact ⟨k + 1, by omega, by go_num, HN.out⟩
        case measure => first | omega | (simp [intOf]; done) | (simp [intOf]; omega)
      exact AllReadyH.nil
    · obtain rfl : k = m := by omega
      clear hrow
      go_wp2_with fail
      go_end0
      exact ⟨rfl, HR.out⟩
set_option maxRecDepth 20000 in
set_option maxHeartbeats 2000000 in
theorem rotate_any (w0 w : World) (base g n cap : Nat) (F : Nat → Int) (a m b : Nat) (f : Value) (h : RowF w0 w base g n cap F) (ham : a < m) (hmb : m < b) (hbn : b ≤ n) (hn : n ≤ 1048576) (hc : n ≤ cap) (hcm : cap ≤ 9223372036854775807) :
    Calls Try.prog 23 #[.slice (some ⟨g, 0, none⟩) n cap, .int .i64 a, .int .i64 m, .int .i64 b, f] w fun e w' => e = .returned (.tuple #[]) ∧ RowF w0 w' base g n cap (rotF F a m b) := by
  have H0 := hide h
  have hw1 : IntKind.i64.wrap ((m : Int) - (a : Int)) = (m : Int) - (a : Int) := by rw [IntKind.wrap_i64] <;> omega
  have hw2 : IntKind.i64.wrap ((b : Int) - (m : Int)) = (b : Int) - (m : Int) := by rw [IntKind.wrap_i64] <;> omega
  clear h
  go_enter Try.func23, Try.ntmps23
  go_wp2_with fail
  go_loopw [10, 11] (fun i j wr => ∃ (I J : Nat) (G : Nat → Int), i = .int .i64 I ∧ j = .int .i64 J ∧ 0 < I ∧ 0 < J ∧ I ≤ m ∧ m + J ≤ n ∧ RowF w0 wr base g n cap G ∧ Hid (rotF G (m - I) m (m + J) = rotF F a m b)) (fun i j _ => (intOf i).toNat + (intOf j).toNat)
  case atStart => exact ⟨m - a, b - m, F, congrArg (Value.int .i64) (by omega), congrArg (Value.int .i64) (by omega), by omega, by omega, by omega, by omega, H0.out, hide (by rw [show m - (m - a) = a by omega, show m + (b - m) = b by omega])⟩
  case round =>
    obtain ⟨I, J, G, rfl, rfl, hI, hJ, hIm, hJn, hrow, HG⟩ := hrel
    have HR := hide hrow
    clear hrow
    have hwa : IntKind.i64.wrap ((m : Int) - (I : Int)) = ((m - I : Nat) : Int) := by rw [IntKind.wrap_i64] <;> omega
    rcases Nat.lt_trichotomy I J with hlt | heq | hgt
    · have hne : ((I : Int) != (J : Int)) = true := by simp; omega
      have hng : ¬ ((J : Int) < (I : Int)) := by omega
      have hwb : IntKind.i64.wrap ((m : Int) + (J : Int) - (I : Int)) = ((m + J - I : Nat) : Int) := by rw [IntKind.wrap_i64] <;> omega
      have hwc : IntKind.i64.wrap ((m : Int) + (J : Int)) = (m : Int) + (J : Int) := by rw [IntKind.wrap_i64] <;> omega
      have hwd : IntKind.i64.wrap ((J : Int) - (I : Int)) = ((J - I : Nat) : Int) := by rw [IntKind.wrap_i64] <;> omega
      have HG2 := hide (HG.out.symm.trans (rot_lt G hlt hIm))
      go_wp2_with fail
      refine (swapRange_any w0 wr base g n cap G (m - I) (m + J - I) I f HR.out (by omega) (by omega) hn hc hcm).mono ?_
      rintro e w2 ⟨rfl, h2⟩
      have H2 := hide h2
      clear h2
      go_wp2_with fail
      go_roundw
      case rel => exact ⟨I, J - I, _, rfl, rfl, hI, by omega, hIm, by omega, H2.out, hide (by rw [show m + (J - I) = m + J - I by omega]; exact HG2.out.symm)⟩
      case measure => simp [intOf]; omega
    · subst heq
      have hne : ((I : Int) != (I : Int)) = false := by simp
      have HG2 := hide (HG.out.symm.trans (rot_eq G hIm))
      go_wp2_with fail
      refine (swapRange_any w0 wr base g n cap G (m - I) m I f HR.out (by omega) (by omega) hn hc hcm).mono ?_
      rintro e w2 ⟨rfl, h2⟩
      have H2 := hide h2
      clear h2
      go_wp2_with fail
      go_end0
      exact ⟨rfl, H2.out.congr HG2.out.symm⟩
    · have hne : ((I : Int) != (J : Int)) = true := by simp; omega
      have hng : ((J : Int) < (I : Int)) := by omega
      have hwd : IntKind.i64.wrap ((I : Int) - (J : Int)) = ((I - J : Nat) : Int) := by rw [IntKind.wrap_i64] <;> omega
      have HG2 := hide (HG.out.symm.trans (rot_gt G hgt hIm))
      go_wp2_with fail
      refine (swapRange_any w0 wr base g n cap G (m - I) m J f HR.out (by omega) (by omega) hn hc hcm).mono ?_
      rintro e w2 ⟨rfl, h2⟩
      have H2 := hide h2
      clear h2
      go_wp2_with fail
      go_roundw
      case rel => exact ⟨I - J, J, _, rfl, rfl, by omega, hJ, by omega, hJn, H2.out, hide (by rw [show m - (I - J) = m - I + J by omega]; exact HG2.out.symm)⟩
      case measure => simp [intOf]; omega
end Go.Proofs.Ytkpakpjbpmnbgaa
