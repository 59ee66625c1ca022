/- Room of both. -/
import Derived.Test.YtehgdhekiogppaaGreatUn7
import Derived.Test.YtehgdhekiogppaaGreatUn6
import Derived.Test.YtehgdhekiogppaaGreatSrt
namespace Go.Proofs.YtehgdhekiogppaaGreat
open Go.ChangeShapes Go.WideShapes Go.ChangeAt Go.RowKit Go.Deep
set_option linter.unusedVariables false
set_option linter.unusedSimpArgs false

set_option maxRecDepth 20000 in
set_option maxHeartbeats 8000000 in
theorem sl7room_any (r : Rq) (A1 A2 A3 : Option Addr) (n1 n2 n3 c1 c2 c3 : Nat) (lo hi : Nat) (lo1 hi1 : Nat) (A1' : Option Addr) (m c1' : Nat) (t : Ty) (lo2 hi2 : Nat) (A : Option Addr) (n c : Nat) (us : List Int) (u : Int) (w : World) (hr : RqAt w lo hi r A1 n1 c1 A2 n2 c2 A3 n3 c3) (hB : hi ≤ w.heap.size) (hu : SlK 1 encInt w lo1 hi1 A1' m c1' (unitsR r)) (hB1 : hi1 ≤ w.heap.size) (hs : SlK 1 encInt w lo2 hi2 A n c us) (hB2 : hi2 ≤ w.heap.size) (hn : n ≤ 1048576) :
    Calls Tryz.prog 44 #[.agg #[.int .i64 r.way, .int .i64 r.pal.w, .int .i64 r.pal.d, .int .i64 r.pal.h, .int .i64 r.pal.gram, .int .i64 r.cls, .slice A1 n1 c1, .slice A2 n2 c2, .int .i64 r.master, .slice A3 n3 c3], .slice A1' m c1', .agg #[.int .i64 t.id, .int .i64 t.w, .int .i64 t.h, .int .i64 t.d, .int .i64 t.tare, .int .i64 t.gram, .int .i64 t.cost], .slice A n c, .int .i64 u] w fun e w' => e = .returned (.bool (withinB r (us ++ [u]) t)) ∧ Below w.heap.size w w' := by
  have HR := hide hr
  have HS := hide hs
  have HU := hide hu
  have hcu := hs.cap
  have hmu := hs.max
  have HLU := hide hs.len
  have HW := hide (show withinB r (us ++ [u]) t = (decide (volU r (us ++ [u]) ≤ vol t.w t.h t.d) && decide (gramU r (us ++ [u]) ≤ t.gram)) from rfl)
  have HI := hide (sl7of_any r A1 A2 A3 n1 n2 n3 c1 c2 c3 lo hi lo1 hi1 A1' m c1')
  have HVo := hide (svol_any t.w t.h t.d)
  obtain ⟨us', hus⟩ : ∃ z, us ++ [u] = z := ⟨_, rfl⟩
  have HUS := hide hus
  rw [hus] at HW ⊢
  obtain ⟨V, hV⟩ : ∃ V, volU r us' = V := ⟨_, rfl⟩
  obtain ⟨G, hG⟩ : ∃ G, gramU r us' = G := ⟨_, rfl⟩
  obtain ⟨B, hB'⟩ : ∃ B, withinB r us' t = B := ⟨_, rfl⟩
  obtain ⟨M, hM⟩ : ∃ M, vol t.w t.h t.d = M := ⟨_, rfl⟩
  have HV := hide hV
  have HG := hide hG
  rw [hB', hV, hG, hM] at HW
  rw [hB']
  rw [hM] at HVo
  clear hr hs hu hV hG hB' hM hus
  go_enter Tryz.func44, Tryz.ntmps44
  go_wp2_with fail
  rename_i QF KF hKK
  have HFIN : Hid (∀ (j0 j1 j2 j3 j4 j5 j6 j7 j8 j9 j10 j11 : Value) (X : Nat) (W : World), w.heap.size + 1 < X → Below w.heap.size w W → Blk W w.heap.size 37 (#[.int .i64 r.way, .int .i64 r.pal.w, .int .i64 r.pal.d, .int .i64 r.pal.h, .int .i64 r.pal.gram, .int .i64 r.cls, .slice A1 n1 c1, .slice A2 n2 c2, .int .i64 r.master, .slice A3 n3 c3]) → Blk W (w.heap.size + 1) 48 (#[.int .i64 t.id, .int .i64 t.w, .int .i64 t.h, .int .i64 t.d, .int .i64 t.tare, .int .i64 t.gram, .int .i64 t.cost]) → Blk W X 101 #[.int .i64 V, .int .i64 G] → KF { tmps := #[.agg #[.int .i64 r.way, .int .i64 r.pal.w, .int .i64 r.pal.d, .int .i64 r.pal.h, .int .i64 r.pal.gram, .int .i64 r.cls, .slice A1 n1 c1, .slice A2 n2 c2, .int .i64 r.master, .slice A3 n3 c3], .slice A1' m c1', .agg #[.int .i64 t.id, .int .i64 t.w, .int .i64 t.h, .int .i64 t.d, .int .i64 t.tare, .int .i64 t.gram, .int .i64 t.cost], .slice A n c, .int .i64 u, .pointer (some ⟨w.heap.size, 0, none⟩), j0, .pointer (some ⟨w.heap.size + 1, 0, none⟩), j1, j2, .bool false, .pointer (some ⟨X, 0, none⟩), j3, j4, j5, j6, j7, j8, j9, j10, j11, undef, undef, undef, undef, undef, undef, undef, undef, undef, undef, undef, undef, undef, undef, undef, undef, undef], defers := [] } W) := by
    apply hide
    intro j0 j1 j2 j3 j4 j5 j6 j7 j8 j9 j10 j11 X W hX hb PR PT PL
    refine hKK _ _ ?_
    have kR := PR.cell
    have kT := PT.cell
    have kL := PL.cell
    have yL := PL.lt
    have e1 : w.heap.size + 1 ≠ X := by omega
    have e2 : X ≠ w.heap.size + 1 := by omega
    by_cases q1 : V ≤ M
    case neg =>
      have d1 : decide (V ≤ M) = false := by simpa using q1
      have HF := hide (show B = false by rw [HW.out, d1]; rfl)
      have q1' : M < V := by omega
      clear q1
      go_wp2_with fail
      refine wp_region_held_drew (S := (fun w' => w'.cell? ⟨X, 0, none⟩ = some (.int .i64 V) ∧ w'.cell? ⟨X, 1, none⟩ = some (.int .i64 G) ∧ w'.cell? ⟨w.heap.size + 1, 0, none⟩ = some (.int .i64 t.id) ∧ w'.cell? ⟨w.heap.size + 1, 1, none⟩ = some (.int .i64 t.w) ∧ w'.cell? ⟨w.heap.size + 1, 2, none⟩ = some (.int .i64 t.h) ∧ w'.cell? ⟨w.heap.size + 1, 3, none⟩ = some (.int .i64 t.d) ∧ w'.cell? ⟨w.heap.size + 1, 4, none⟩ = some (.int .i64 t.tare) ∧ w'.cell? ⟨w.heap.size + 1, 5, none⟩ = some (.int .i64 t.gram) ∧ w'.cell? ⟨w.heap.size + 1, 6, none⟩ = some (.int .i64 t.cost))) (by kernel_rfl) ?hS0 (fun hHeld => ?_)
      case hS0 => (go_keep)
      refine wpAnyH_take (i := 0) (v := ?_) rfl (by kernel_rfl) (by kernel_rfl) (by kernel_rfl) (fun _ _ _ h => h) (Or.inl ⟨by rfl, ?_⟩) (by assumption) ?_
      rotate_left 1
      · intro w hSw
        try dsimp only at hSw
        go_simp
        try with_reducible rfl
      simp only [Act.put, List.getElem_toArray, List.getElem_cons_succ, List.getElem_cons_zero, List.setIfInBounds_toArray, List.set_cons_zero, List.set_cons_succ]
      refine wpAnyH_take (i := 1) (v := ?_) rfl (by kernel_rfl) (by kernel_rfl) (by kernel_rfl) (fun _ _ _ h => h) (Or.inl ⟨by rfl, ?_⟩) (by assumption) ?_
      rotate_left 1
      · intro w hSw
        try dsimp only at hSw
        go_simp
        try with_reducible rfl
      simp only [Act.put, List.getElem_toArray, List.getElem_cons_succ, List.getElem_cons_zero, List.setIfInBounds_toArray, List.set_cons_zero, List.set_cons_succ]
      refine wpAnyH_take (i := 2) (v := ?_) rfl (by kernel_rfl) (by kernel_rfl) (by kernel_rfl) (fun _ _ _ h => h) (Or.inl ⟨by rfl, ?_⟩) (by assumption) ?_
      rotate_left 1
      · intro w hSw
        try dsimp only at hSw
        go_simp
        try with_reducible rfl
      simp only [Act.put, List.getElem_toArray, List.getElem_cons_succ, List.getElem_cons_zero, List.setIfInBounds_toArray, List.set_cons_zero, List.set_cons_succ]
      refine wpAnyH_take (i := 3) (v := ?_) rfl (by kernel_rfl) (by kernel_rfl) (by kernel_rfl) (fun _ _ _ h => h) (Or.inl ⟨by rfl, ?_⟩) (by assumption) ?_
      rotate_left 1
      · intro w hSw
        try dsimp only at hSw
        go_simp
        try with_reducible rfl
      simp only [Act.put, List.getElem_toArray, List.getElem_cons_succ, List.getElem_cons_zero, List.setIfInBounds_toArray, List.set_cons_zero, List.set_cons_succ]
      refine wpAnyH_take (i := 4) (v := ?_) rfl (by kernel_rfl) (by kernel_rfl) (by kernel_rfl) (fun _ _ _ h => h) (Or.inl ⟨by rfl, ?_⟩) (by assumption) ?_
      rotate_left 1
      · intro w hSw
        try dsimp only at hSw
        go_simp
        try with_reducible rfl
      simp only [Act.put, List.getElem_toArray, List.getElem_cons_succ, List.getElem_cons_zero, List.setIfInBounds_toArray, List.set_cons_zero, List.set_cons_succ]
      refine wpAnyH_take (i := 5) (v := ?_) rfl (by kernel_rfl) (by kernel_rfl) (by kernel_rfl) (fun _ _ _ h => h) (Or.inl ⟨by rfl, ?_⟩) (by assumption) ?_
      rotate_left 1
      · intro w hSw
        try dsimp only at hSw
        go_simp
        try with_reducible rfl
      simp only [Act.put, List.getElem_toArray, List.getElem_cons_succ, List.getElem_cons_zero, List.setIfInBounds_toArray, List.set_cons_zero, List.set_cons_succ]
      refine wpAnyH_take (i := 6) (v := ?_) rfl (by kernel_rfl) (by kernel_rfl) (by kernel_rfl) (fun _ _ _ h => h) (Or.inl ⟨by rfl, ?_⟩) (by assumption) ?_
      rotate_left 1
      · intro w hSw
        try dsimp only at hSw
        go_simp
        try with_reducible rfl
      simp only [Act.put, List.getElem_toArray, List.getElem_cons_succ, List.getElem_cons_zero, List.setIfInBounds_toArray, List.set_cons_zero, List.set_cons_succ]
      refine wpAnyH_take (i := 7) (v := ?_) rfl (by kernel_rfl) (by kernel_rfl) (by kernel_rfl) (fun _ _ _ h => h) (Or.inl ⟨by rfl, ?_⟩) (by assumption) ?_
      rotate_left 1
      · intro w hSw
        try dsimp only at hSw
        go_simp
        try with_reducible rfl
      simp only [Act.put, List.getElem_toArray, List.getElem_cons_succ, List.getElem_cons_zero, List.setIfInBounds_toArray, List.set_cons_zero, List.set_cons_succ]
      refine wpAnyH_ready (rs := [8]) (by kernel_rfl) (by simp) ?_
      refine AllReadyH.cons rfl (fun K hK => ?_) AllReadyH.nil
      go_simp
      go_at_call 82
      (with_reducible refine (HVo.out _).mono ?_); rintro e w' ⟨rfl, rfl⟩
      go_wp2_with fail
      refine hK.out _ _ ?hS1 (fun hHeld => ?_)
      case hS1 => (try dsimp only); (go_keep)
      clear hK K
      try simp only [Act.put, List.getElem_toArray, List.getElem_cons_succ, List.getElem_cons_zero, List.setIfInBounds_toArray, List.set_cons_zero, List.set_cons_succ]
      refine wpAnyH_take (i := 9) (v := ?_) rfl (by kernel_rfl) (by kernel_rfl) (by kernel_rfl) (fun _ _ _ h => h) (Or.inl ⟨by rfl, ?_⟩) (by assumption) ?_
      rotate_left 1
      · intro w hSw
        try dsimp only at hSw
        go_simp
        try with_reducible rfl
      simp only [Act.put, List.getElem_toArray, List.getElem_cons_succ, List.getElem_cons_zero, List.setIfInBounds_toArray, List.set_cons_zero, List.set_cons_succ]
      refine wpAnyH_take (i := 10) (v := ?_) rfl (by kernel_rfl) (by kernel_rfl) (by kernel_rfl) (fun _ _ _ h => h) (Or.inl ⟨by rfl, ?_⟩) (by assumption) ?_
      rotate_left 1
      · intro w hSw
        try dsimp only at hSw
        go_simp
        try with_reducible rfl
      simp only [Act.put, List.getElem_toArray, List.getElem_cons_succ, List.getElem_cons_zero, List.setIfInBounds_toArray, List.set_cons_zero, List.set_cons_succ]
      refine wpAnyH_take (i := 11) (v := undef) rfl (by kernel_rfl) (by kernel_rfl) (by kernel_rfl) (fun _ _ _ h => h) (Or.inr ⟨by rfl, rfl⟩) (by assumption) ?_
      simp only [Act.put, List.getElem_toArray, List.getElem_cons_succ, List.getElem_cons_zero, List.setIfInBounds_toArray, List.set_cons_zero, List.set_cons_succ]
      refine wpAnyH_take (i := 12) (v := undef) rfl (by kernel_rfl) (by kernel_rfl) (by kernel_rfl) (fun _ _ _ h => h) (Or.inr ⟨by rfl, rfl⟩) (by assumption) ?_
      simp only [Act.put, List.getElem_toArray, List.getElem_cons_succ, List.getElem_cons_zero, List.setIfInBounds_toArray, List.set_cons_zero, List.set_cons_succ]
      refine wpAnyH_take (i := 13) (v := undef) rfl (by kernel_rfl) (by kernel_rfl) (by kernel_rfl) (fun _ _ _ h => h) (Or.inr ⟨by rfl, rfl⟩) (by assumption) ?_
      simp only [Act.put, List.getElem_toArray, List.getElem_cons_succ, List.getElem_cons_zero, List.setIfInBounds_toArray, List.set_cons_zero, List.set_cons_succ]
      refine wpAnyH_take (i := 14) (v := undef) rfl (by kernel_rfl) (by kernel_rfl) (by kernel_rfl) (fun _ _ _ h => h) (Or.inr ⟨by rfl, rfl⟩) (by assumption) ?_
      simp only [Act.put, List.getElem_toArray, List.getElem_cons_succ, List.getElem_cons_zero, List.setIfInBounds_toArray, List.set_cons_zero, List.set_cons_succ]
      refine wpAnyH_take (i := 15) (v := undef) rfl (by kernel_rfl) (by kernel_rfl) (by kernel_rfl) (fun _ _ _ h => h) (Or.inr ⟨by rfl, rfl⟩) (by assumption) ?_
      simp only [Act.put, List.getElem_toArray, List.getElem_cons_succ, List.getElem_cons_zero, List.setIfInBounds_toArray, List.set_cons_zero, List.set_cons_succ]
      refine wpAnyH_take (i := 16) (v := ?_) rfl (by kernel_rfl) (by kernel_rfl) (by kernel_rfl) (fun _ _ _ h => h) (Or.inl ⟨by rfl, ?_⟩) (by assumption) ?_
      rotate_left 1
      · intro w hSw
        try dsimp only at hSw
        go_simp
        try with_reducible rfl
      simp only [Act.put, List.getElem_toArray, List.getElem_cons_succ, List.getElem_cons_zero, List.setIfInBounds_toArray, List.set_cons_zero, List.set_cons_succ]
      refine wpAnyH_take (i := 17) (v := ?_) rfl (by kernel_rfl) (by kernel_rfl) (by kernel_rfl) (fun _ _ _ h => h) (Or.inl ⟨by rfl, ?_⟩) (by assumption) ?_
      rotate_left 1
      · intro w hSw
        try dsimp only at hSw
        go_simp
        try with_reducible rfl
      simp only [Act.put, List.getElem_toArray, List.getElem_cons_succ, List.getElem_cons_zero, List.setIfInBounds_toArray, List.set_cons_zero, List.set_cons_succ]
      refine wpAnyH_done (by kernel_rfl) ?_ _
      go_wp2
      go_ret
      exact ⟨ret_bool HF.out.symm, (by repeat (first | with_reducible exact Below.refl _ _ | with_reducible assumption | with_reducible refine Below.setCell ?_ (by (try simp) <;> omega) _ | with_reducible refine Below.alloc ?_ (by (try simp) <;> omega) _ | with_reducible refine Below.drew ?_ | with_reducible refine below_drewN ?_ _ | with_reducible exact hb | with_reducible refine Below.trans ?_ (Below.mono hb (by (try simp) <;> omega))))⟩
    have d1 : decide (V ≤ M) = true := by simpa using q1
    by_cases q2 : G ≤ t.gram
    case neg =>
      have d2 : decide (G ≤ t.gram) = false := by simpa using q2
      have HF := hide (show B = false by rw [HW.out, d1, d2]; rfl)
      have q2' : t.gram < G := by omega
      clear q2
      go_wp2_with fail
      go_region_held3 (fun w' => w'.cell? ⟨X, 0, none⟩ = some (.int .i64 V) ∧ w'.cell? ⟨X, 1, none⟩ = some (.int .i64 G) ∧ w'.cell? ⟨w.heap.size + 1, 0, none⟩ = some (.int .i64 t.id) ∧ w'.cell? ⟨w.heap.size + 1, 1, none⟩ = some (.int .i64 t.w) ∧ w'.cell? ⟨w.heap.size + 1, 2, none⟩ = some (.int .i64 t.h) ∧ w'.cell? ⟨w.heap.size + 1, 3, none⟩ = some (.int .i64 t.d) ∧ w'.cell? ⟨w.heap.size + 1, 4, none⟩ = some (.int .i64 t.tare) ∧ w'.cell? ⟨w.heap.size + 1, 5, none⟩ = some (.int .i64 t.gram) ∧ w'.cell? ⟨w.heap.size + 1, 6, none⟩ = some (.int .i64 t.cost)) (go_keep) (first | (go_at_call 82; (with_reducible refine (HVo.out _).mono ?_); rintro e w' ⟨rfl, rfl⟩))
      go_wp2
      go_ret
      exact ⟨ret_bool HF.out.symm, (by repeat (first | with_reducible exact Below.refl _ _ | with_reducible assumption | with_reducible refine Below.setCell ?_ (by (try simp) <;> omega) _ | with_reducible refine Below.alloc ?_ (by (try simp) <;> omega) _ | with_reducible refine Below.drew ?_ | with_reducible refine below_drewN ?_ _ | with_reducible exact hb | with_reducible refine Below.trans ?_ (Below.mono hb (by (try simp) <;> omega))))⟩
    have d2 : decide (G ≤ t.gram) = true := by simpa using q2
    have HF := hide (show B = true by rw [HW.out, d1, d2]; rfl)
    go_wp2_with fail
    go_region_held3 (fun w' => w'.cell? ⟨X, 0, none⟩ = some (.int .i64 V) ∧ w'.cell? ⟨X, 1, none⟩ = some (.int .i64 G) ∧ w'.cell? ⟨w.heap.size + 1, 0, none⟩ = some (.int .i64 t.id) ∧ w'.cell? ⟨w.heap.size + 1, 1, none⟩ = some (.int .i64 t.w) ∧ w'.cell? ⟨w.heap.size + 1, 2, none⟩ = some (.int .i64 t.h) ∧ w'.cell? ⟨w.heap.size + 1, 3, none⟩ = some (.int .i64 t.d) ∧ w'.cell? ⟨w.heap.size + 1, 4, none⟩ = some (.int .i64 t.tare) ∧ w'.cell? ⟨w.heap.size + 1, 5, none⟩ = some (.int .i64 t.gram) ∧ w'.cell? ⟨w.heap.size + 1, 6, none⟩ = some (.int .i64 t.cost)) (go_keep) (first | (go_at_call 82; (with_reducible refine (HVo.out _).mono ?_); rintro e w' ⟨rfl, rfl⟩))
    go_wp2
    go_ret
    exact ⟨ret_bool HF.out.symm, (by repeat (first | with_reducible exact Below.refl _ _ | with_reducible assumption | with_reducible refine Below.setCell ?_ (by (try simp) <;> omega) _ | with_reducible refine Below.alloc ?_ (by (try simp) <;> omega) _ | with_reducible refine Below.drew ?_ | with_reducible refine below_drewN ?_ _ | with_reducible exact hb | with_reducible refine Below.trans ?_ (Below.mono hb (by (try simp) <;> omega))))⟩
  clear hKK HW HVo
  have HB_0 := hide (show Below w.heap.size w ((w.alloc (.cells #[.int .i64 r.way, .int .i64 r.pal.w, .int .i64 r.pal.d, .int .i64 r.pal.h, .int .i64 r.pal.gram, .int .i64 r.cls, .slice A1 n1 c1, .slice A2 n2 c2, .int .i64 r.master, .slice A3 n3 c3] 37)).alloc (.cells #[.int .i64 t.id, .int .i64 t.w, .int .i64 t.h, .int .i64 t.d, .int .i64 t.tare, .int .i64 t.gram, .int .i64 t.cost] 48)).drew from (by repeat (first | with_reducible exact Below.refl _ _ | with_reducible assumption | with_reducible refine Below.setCell ?_ (by (try simp) <;> omega) _ | with_reducible refine Below.alloc ?_ (by (try simp) <;> omega) _ | with_reducible refine Below.drew ?_ | with_reducible refine below_drewN ?_ _)))
  have PR_0 := hide (show Blk ((w.alloc (.cells #[.int .i64 r.way, .int .i64 r.pal.w, .int .i64 r.pal.d, .int .i64 r.pal.h, .int .i64 r.pal.gram, .int .i64 r.cls, .slice A1 n1 c1, .slice A2 n2 c2, .int .i64 r.master, .slice A3 n3 c3] 37)).alloc (.cells #[.int .i64 t.id, .int .i64 t.w, .int .i64 t.h, .int .i64 t.d, .int .i64 t.tare, .int .i64 t.gram, .int .i64 t.cost] 48)).drew w.heap.size 37 (#[.int .i64 r.way, .int .i64 r.pal.w, .int .i64 r.pal.d, .int .i64 r.pal.h, .int .i64 r.pal.gram, .int .i64 r.cls, .slice A1 n1 c1, .slice A2 n2 c2, .int .i64 r.master, .slice A3 n3 c3]) from ((Blk.new w 37 (#[.int .i64 r.way, .int .i64 r.pal.w, .int .i64 r.pal.d, .int .i64 r.pal.h, .int .i64 r.pal.gram, .int .i64 r.cls, .slice A1 n1 c1, .slice A2 n2 c2, .int .i64 r.master, .slice A3 n3 c3]) (g := w.heap.size) rfl).alloc _).drew)
  have PT_0 := hide (show Blk ((w.alloc (.cells #[.int .i64 r.way, .int .i64 r.pal.w, .int .i64 r.pal.d, .int .i64 r.pal.h, .int .i64 r.pal.gram, .int .i64 r.cls, .slice A1 n1 c1, .slice A2 n2 c2, .int .i64 r.master, .slice A3 n3 c3] 37)).alloc (.cells #[.int .i64 t.id, .int .i64 t.w, .int .i64 t.h, .int .i64 t.d, .int .i64 t.tare, .int .i64 t.gram, .int .i64 t.cost] 48)).drew (w.heap.size + 1) 48 (#[.int .i64 t.id, .int .i64 t.w, .int .i64 t.h, .int .i64 t.d, .int .i64 t.tare, .int .i64 t.gram, .int .i64 t.cost]) from (Blk.new (w.alloc _) 48 (#[.int .i64 t.id, .int .i64 t.w, .int .i64 t.h, .int .i64 t.d, .int .i64 t.tare, .int .i64 t.gram, .int .i64 t.cost]) (g := w.heap.size + 1) (by simp)).drew)
  have z0 : w.heap.size + 1 + 1 ≤ (((w.alloc (.cells #[.int .i64 r.way, .int .i64 r.pal.w, .int .i64 r.pal.d, .int .i64 r.pal.h, .int .i64 r.pal.gram, .int .i64 r.cls, .slice A1 n1 c1, .slice A2 n2 c2, .int .i64 r.master, .slice A3 n3 c3] 37)).alloc (.cells #[.int .i64 t.id, .int .i64 t.w, .int .i64 t.h, .int .i64 t.d, .int .i64 t.tare, .int .i64 t.gram, .int .i64 t.cost] 48)).drew).heap.size := by simp
  refine wp_region_held_drew (S := (fun w' => w'.cell? ⟨w.heap.size, 0, none⟩ = some (.int .i64 r.way) ∧ w'.cell? ⟨w.heap.size, 1, none⟩ = some (.int .i64 r.pal.w) ∧ w'.cell? ⟨w.heap.size, 2, none⟩ = some (.int .i64 r.pal.d) ∧ w'.cell? ⟨w.heap.size, 3, none⟩ = some (.int .i64 r.pal.h) ∧ w'.cell? ⟨w.heap.size, 4, none⟩ = some (.int .i64 r.pal.gram) ∧ w'.cell? ⟨w.heap.size, 5, none⟩ = some (.int .i64 r.cls) ∧ w'.cell? ⟨w.heap.size, 6, none⟩ = some (.slice A1 n1 c1) ∧ w'.cell? ⟨w.heap.size, 7, none⟩ = some (.slice A2 n2 c2) ∧ w'.cell? ⟨w.heap.size, 8, none⟩ = some (.int .i64 r.master) ∧ w'.cell? ⟨w.heap.size, 9, none⟩ = some (.slice A3 n3 c3))) (by kernel_rfl) ?hS0 (fun hHeld => ?_)
  case hS0 => (go_keep)
  obtain ⟨w0, hw0⟩ : ∃ y, ((w.alloc (.cells #[.int .i64 r.way, .int .i64 r.pal.w, .int .i64 r.pal.d, .int .i64 r.pal.h, .int .i64 r.pal.gram, .int .i64 r.cls, .slice A1 n1 c1, .slice A2 n2 c2, .int .i64 r.master, .slice A3 n3 c3] 37)).alloc (.cells #[.int .i64 t.id, .int .i64 t.w, .int .i64 t.h, .int .i64 t.d, .int .i64 t.tare, .int .i64 t.gram, .int .i64 t.cost] 48)).drew = y := ⟨_, rfl⟩
  rw [hw0] at HB_0 PR_0 PT_0 z0 hHeld ⊢
  have kR := PR_0.out.cell
  clear hw0
  refine wpAnyH_take (i := 0) (v := ?_) rfl (by kernel_rfl) (by kernel_rfl) (by kernel_rfl) (fun _ _ _ h => h) (Or.inl ⟨by rfl, ?_⟩) (by assumption) ?_
  rotate_left 1
  · intro w hSw
    try dsimp only at hSw
    go_simp
    try with_reducible rfl
  simp only [Act.put, List.getElem_toArray, List.getElem_cons_succ, List.getElem_cons_zero, List.setIfInBounds_toArray, List.set_cons_zero, List.set_cons_succ]
  refine wpAnyH_take (i := 1) (v := ?_) rfl (by kernel_rfl) (by kernel_rfl) (by kernel_rfl) (fun _ _ _ h => h) (Or.inl ⟨by rfl, ?_⟩) (by assumption) ?_
  rotate_left 1
  · intro w hSw
    try dsimp only at hSw
    go_simp
    try with_reducible rfl
  simp only [Act.put, List.getElem_toArray, List.getElem_cons_succ, List.getElem_cons_zero, List.setIfInBounds_toArray, List.set_cons_zero, List.set_cons_succ]
  refine wpAnyH_take (i := 3) (v := ?_) rfl (by kernel_rfl) (by kernel_rfl) (by kernel_rfl) (fun _ _ _ h => h) (Or.inl ⟨by rfl, ?_⟩) (by assumption) ?_
  rotate_left 1
  · intro w hSw
    try dsimp only at hSw
    go_simp
    try with_reducible rfl
  simp only [Act.put, List.getElem_toArray, List.getElem_cons_succ, List.getElem_cons_zero, List.setIfInBounds_toArray, List.set_cons_zero, List.set_cons_succ]
  refine wpAnyH_take (i := 5) (v := ?_) rfl (by kernel_rfl) (by kernel_rfl) (by kernel_rfl) (fun _ _ _ h => h) (Or.inl ⟨by rfl, ?_⟩) (by assumption) ?_
  rotate_left 1
  · intro w hSw
    try dsimp only at hSw
    go_simp
    try with_reducible rfl
  simp only [Act.put, List.getElem_toArray, List.getElem_cons_succ, List.getElem_cons_zero, List.setIfInBounds_toArray, List.set_cons_zero, List.set_cons_succ]
  clear kR
  refine wpAnyH_ready (rs := [2, 6, 9]) (by kernel_rfl) (by simp) ?_
  refine AllReadyH.cons rfl (fun K hK => ?_) ?_
  · skip
    go_simp
    have HB_1 := hide (show Below w.heap.size w (w0.alloc (.cells #[] 3)) from HB_0.out.alloc (by omega) _)
    have PR_1 := hide (PR_0.out.alloc (.cells #[] 3))
    have PT_1 := hide (PT_0.out.alloc (.cells #[] 3))
    have HO_1 := hide ((own_none (k := 1) (enc := encInt) w0 3).base_le (base' := w.heap.size + 1 + 1) (by omega))
    have ho1 := (own_none (k := 1) (enc := encInt) w0 3).lt
    clear ho1
    have z1 : w0.heap.size + 1 ≤ ((w0.alloc (.cells #[] 3))).heap.size := by simp
    obtain ⟨w1, hw1⟩ : ∃ y, (w0.alloc (.cells #[] 3)) = y := ⟨_, rfl⟩
    rw [hw1] at z1 HB_1 PR_1 PT_1 HO_1 ⊢
    clear HB_0 PR_0 PT_0
    clear hw1
    have kR := PR_1.out.cell
    have kT := PT_1.out.cell
    refine hK.out _ _ ?hS1 (fun hHeld => ?_)
    case hS1 => (try dsimp only); (go_keep)
    clear hK K kR kT
    try simp only [Act.put, List.getElem_toArray, List.getElem_cons_succ, List.getElem_cons_zero, List.setIfInBounds_toArray, List.set_cons_zero, List.set_cons_succ]
    refine wpAnyH_ready (rs := [4, 6, 9]) (by kernel_rfl) (by simp) ?_
    refine AllReadyH.cons rfl (fun K hK => ?_) ?_
    · skip
      refine step_app rfl (.tmp 14) (.tmp 15) rfl (by simp [Act.eval, Act.put]) (by simp [Act.eval, Act.put]) (appL HO_1.out (by omega) (HS.out.below HB_1.out hB2) (by simp; omega)) ?_
      intro v1 w2 ho hg hat
      have z2 : w1.heap.size ≤ w2.heap.size := hg.size
      have HO_2 := hide ho
      have HB_2 := hide (below_app0 HB_1.out (HO_1.out.base_le (base' := w.heap.size) (by omega)) (by omega) hg)
      have PR_2 := hide (PR_1.out.grown hg (fun e => by have := (HO_1.out.lt _ e.symm).1; omega))
      have PT_2 := hide (PT_1.out.grown hg (fun e => by have := (HO_1.out.lt _ e.symm).1; omega))
      clear HB_1 PR_1 PT_1 HO_1
      clear ho hg hat
      have kR := PR_2.out.cell
      have kT := PT_2.out.cell
      refine hK.out _ _ ?hS1 (fun hHeld => ?_)
      case hS1 => (try dsimp only); (go_keep)
      clear hK K kR kT
      try simp only [Act.put, List.getElem_toArray, List.getElem_cons_succ, List.getElem_cons_zero, List.setIfInBounds_toArray, List.set_cons_zero, List.set_cons_succ]
      refine wpAnyH_ready (rs := [6, 9]) (by kernel_rfl) (by simp) ?_
      refine AllReadyH.cons rfl (fun K hK => ?_) ?_
      · skip
        go_simp
        have HB_3 := hide (show Below w.heap.size w (w2.alloc (.cells #[.int .i64 u] 3)) from HB_2.out.alloc (by omega) _)
        have PR_3 := hide (PR_2.out.alloc (.cells #[.int .i64 u] 3))
        have PT_3 := hide (PT_2.out.alloc (.cells #[.int .i64 u] 3))
        have HO_3 := hide (HO_2.out.alloc (.cells #[.int .i64 u] 3))
        obtain ⟨y1, hy1⟩ : ∃ y, w2.heap.size = y := ⟨_, rfl⟩
        have HU1_3 := hide (slk_one w2 u 3)
        rw [hy1] at HU1_3 ⊢
        have NY_3 := hide (show ∀ k, v1.ownBlock = some k → k < y1 ∨ y1 + 1 ≤ k from fun k hk => by have := (HO_2.out.lt k hk).2; omega)
        have z3 : w2.heap.size + 1 ≤ ((w2.alloc (.cells #[.int .i64 u] 3))).heap.size := by simp
        have y1a : y1 < ((w2.alloc (.cells #[.int .i64 u] 3))).heap.size := by simp; omega
        obtain ⟨w3, hw3⟩ : ∃ y, (w2.alloc (.cells #[.int .i64 u] 3)) = y := ⟨_, rfl⟩
        rw [hw3] at z3 y1a HB_3 PR_3 PT_3 HO_3 HU1_3 ⊢
        clear HB_2 PR_2 PT_2 HO_2
        clear hw3
        clear hy1
        have kR := PR_3.out.cell
        have kT := PT_3.out.cell
        refine hK.out _ _ ?hS1 (fun hHeld => ?_)
        case hS1 => (try dsimp only); (go_keep)
        clear hK K kR kT
        try simp only [Act.put, List.getElem_toArray, List.getElem_cons_succ, List.getElem_cons_zero, List.setIfInBounds_toArray, List.set_cons_zero, List.set_cons_succ]
        refine wpAnyH_ready (rs := [7, 9]) (by kernel_rfl) (by simp) ?_
        refine AllReadyH.cons rfl (fun K hK => ?_) ?_
        · skip
          refine step_app rfl (.tmp 16) (.tmp 18) rfl (by simp [Act.eval, Act.put]) (by simp [Act.eval, Act.put]) (appL HO_3.out (by omega) HU1_3.out (by simp [HLU.out]; omega)) ?_
          intro v2 w4 ho hg hat
          have z4 : w3.heap.size ≤ w4.heap.size := hg.size
          have HO_4 := hide ho
          have HB_4 := hide (below_app0 HB_3.out (HO_3.out.base_le (base' := w.heap.size) (by omega)) (by omega) hg)
          have PR_4 := hide (PR_3.out.grown hg (fun e => by have := (HO_3.out.lt _ e.symm).1; omega))
          have PT_4 := hide (PT_3.out.grown hg (fun e => by have := (HO_3.out.lt _ e.symm).1; omega))
          clear HB_3 PR_3 PT_3 HO_3 HU1_3 NY_3
          clear ho hg hat
          have kR := PR_4.out.cell
          have kT := PT_4.out.cell
          refine hK.out _ _ ?hS1 (fun hHeld => ?_)
          case hS1 => (try dsimp only); (go_keep)
          clear hK K kR kT
          try simp only [Act.put, List.getElem_toArray, List.getElem_cons_succ, List.getElem_cons_zero, List.setIfInBounds_toArray, List.set_cons_zero, List.set_cons_succ]
          refine wpAnyH_ready (rs := [8, 9]) (by kernel_rfl) (by simp) ?_
          refine AllReadyH.cons rfl (fun K hK => ?_) ?_
          · skip
            obtain ⟨A9, c9, rfl, hs9⟩ := Own.slk' encInt_len (n := n + 1) (by simp [HLU.out]) HO_4.out
            have hs9 : SlK 1 encInt w4 (w.heap.size + 1 + 1) w4.heap.size A9 (n + 1) c9 us' := by rw [← HUS.out]; simpa using hs9
            go_simp
            go_at_call 81
            (with_reducible refine (HI.out _ _ A9 (n + 1) c9 us' _ (HR.out.below HB_4.out hB) (by omega) (HU.out.below HB_4.out hB1) (by omega) hs9 (by omega) (by omega)).mono ?_)
            rw [HV.out, HG.out]
            rintro e w5 ⟨rfl, hb⟩
            have z5 := hb.size
            have HB_5 := hide (HB_4.out.trans (hb.mono (by omega)))
            have PR_5 := hide (PR_4.out.belowH hb)
            have PT_5 := hide (PT_4.out.belowH hb)
            clear hs9
            clear HB_4 PR_4 PT_4 HO_4
            clear hb
            go_wp2_with fail
            have kR := PR_5.out.cell
            have kT := PT_5.out.cell
            refine hK.out _ _ ?hS1 (fun hHeld => ?_)
            case hS1 => (try dsimp only); (go_keep)
            clear hK K kR kT
            try simp only [Act.put, List.getElem_toArray, List.getElem_cons_succ, List.getElem_cons_zero, List.setIfInBounds_toArray, List.set_cons_zero, List.set_cons_succ]
            refine wpAnyH_ready (rs := [9]) (by kernel_rfl) (by simp) ?_
            refine AllReadyH.cons rfl (fun K hK => ?_) ?_
            · skip
              go_simp
              have HB_6 := hide (show Below w.heap.size w (w5.alloc (.cells #[.int .i64 0, .int .i64 0] 101)) from HB_5.out.alloc (by omega) _)
              have PR_6 := hide (PR_5.out.alloc (.cells #[.int .i64 0, .int .i64 0] 101))
              have PT_6 := hide (PT_5.out.alloc (.cells #[.int .i64 0, .int .i64 0] 101))
              obtain ⟨X1, hX1⟩ : ∃ y, w5.heap.size = y := ⟨_, rfl⟩
              have PL_6 := hide (Blk.new w5 101 #[.int .i64 0, .int .i64 0] (g := X1) hX1.symm)
              have HX2 := hide (show w.heap.size + 1 < X1 by omega)
              have yX : X1 < ((w5.alloc (.cells #[.int .i64 0, .int .i64 0] 101))).heap.size := by simp; omega
              rw [hX1]
              have z6 : w5.heap.size + 1 ≤ ((w5.alloc (.cells #[.int .i64 0, .int .i64 0] 101))).heap.size := by simp
              obtain ⟨w6, hw6⟩ : ∃ y, (w5.alloc (.cells #[.int .i64 0, .int .i64 0] 101)) = y := ⟨_, rfl⟩
              rw [hw6] at z6 yX HB_6 PR_6 PT_6 PL_6 ⊢
              clear HB_5 PR_5 PT_5
              clear hw6
              clear hX1
              have kR := PR_6.out.cell
              have kT := PT_6.out.cell
              refine hK.out _ _ ?hS1 (fun hHeld => ?_)
              case hS1 => (try dsimp only); (go_keep)
              clear hK K kR kT
              try simp only [Act.put, List.getElem_toArray, List.getElem_cons_succ, List.getElem_cons_zero, List.setIfInBounds_toArray, List.set_cons_zero, List.set_cons_succ]
              refine wpAnyH_ready (rs := [10]) (by kernel_rfl) (by simp) ?_
              refine AllReadyH.cons rfl (fun K hK => ?_) ?_
              · skip
                have kL := PL_6.out.cell
                have yL := PL_6.out.lt
                have fL := PL_6.out.frozen
                go_simp
                have hX2 := HX2.out
                have PL_7 := hide ((PL_6.out.set_ 0 (.int .i64 V)).set_ 1 (.int .i64 G))
                simp only [List.setIfInBounds_toArray, List.set_cons_zero, List.set_cons_succ] at PL_7
                have PR_7 := hide ((PR_6.out.far (p := ⟨X1, 0, none⟩) (by simp; omega) (.int .i64 V)).far (p := ⟨X1, 1, none⟩) (by simp; omega) (.int .i64 G))
                have PT_7 := hide ((PT_6.out.far (p := ⟨X1, 0, none⟩) (by simp; omega) (.int .i64 V)).far (p := ⟨X1, 1, none⟩) (by simp; omega) (.int .i64 G))
                have HB_7 := hide (show Below w.heap.size w ((w6.setCell ⟨X1, 0, none⟩ (.int .i64 V)).setCell ⟨X1, 1, none⟩ (.int .i64 G)) from (HB_6.out.setCell (by simp; omega) _).setCell (by simp; omega) _)
                obtain ⟨w7, hw⟩ : ∃ y, ((w6.setCell ⟨X1, 0, none⟩ (.int .i64 V)).setCell ⟨X1, 1, none⟩ (.int .i64 G)) = y := ⟨_, rfl⟩
                rw [hw] at HB_7 PR_7 PT_7 PL_7 ⊢
                clear hw kL yL fL
                clear HB_6 PR_6 PT_6 PL_6
                have kR := PR_7.out.cell
                have kT := PT_7.out.cell
                refine hK.out _ _ ?hS1 (fun hHeld => ?_)
                case hS1 => (try dsimp only); (go_keep)
                clear hK K kR kT
                try simp only [Act.put, List.getElem_toArray, List.getElem_cons_succ, List.getElem_cons_zero, List.setIfInBounds_toArray, List.set_cons_zero, List.set_cons_succ]
                refine wpAnyH_done (by kernel_rfl) ?_ _
                first | with_reducible exact HFIN.out _ _ _ _ _ _ _ _ _ _ _ _ X1 w7 HX2.out HB_7.out PR_7.out PT_7.out PL_7.out | (show KF _ _; exact HFIN.out _ _ _ _ _ _ _ _ _ _ _ _ X1 w7 HX2.out HB_7.out PR_7.out PT_7.out PL_7.out)
              exact AllReadyH.nil
            exact AllReadyH.nil
          refine AllReadyH.cons rfl (fun K hK => ?_) ?_
          · skip
            go_simp
            have HB_5 := hide (show Below w.heap.size w (w4.alloc (.cells #[.int .i64 0, .int .i64 0] 101)) from HB_4.out.alloc (by omega) _)
            have PR_5 := hide (PR_4.out.alloc (.cells #[.int .i64 0, .int .i64 0] 101))
            have PT_5 := hide (PT_4.out.alloc (.cells #[.int .i64 0, .int .i64 0] 101))
            have HO_5 := hide (HO_4.out.alloc (.cells #[.int .i64 0, .int .i64 0] 101))
            obtain ⟨X1, hX1⟩ : ∃ y, w4.heap.size = y := ⟨_, rfl⟩
            have PL_5 := hide (Blk.new w4 101 #[.int .i64 0, .int .i64 0] (g := X1) hX1.symm)
            have HX2 := hide (show w.heap.size + 1 < X1 by omega)
            have yX : X1 < ((w4.alloc (.cells #[.int .i64 0, .int .i64 0] 101))).heap.size := by simp; omega
            rw [hX1]
            have NX_5 := hide (show ∀ k, v2.ownBlock = some k → k ≠ X1 from fun k hk => by have := (HO_4.out.lt k hk).2; omega)
            have z5 : w4.heap.size + 1 ≤ ((w4.alloc (.cells #[.int .i64 0, .int .i64 0] 101))).heap.size := by simp
            obtain ⟨w5, hw5⟩ : ∃ y, (w4.alloc (.cells #[.int .i64 0, .int .i64 0] 101)) = y := ⟨_, rfl⟩
            rw [hw5] at z5 yX HB_5 PR_5 PT_5 PL_5 HO_5 ⊢
            clear HB_4 PR_4 PT_4 HO_4
            clear hw5
            clear hX1
            have kR := PR_5.out.cell
            have kT := PT_5.out.cell
            refine hK.out _ _ ?hS1 (fun hHeld => ?_)
            case hS1 => (try dsimp only); (go_keep)
            clear hK K kR kT
            try simp only [Act.put, List.getElem_toArray, List.getElem_cons_succ, List.getElem_cons_zero, List.setIfInBounds_toArray, List.set_cons_zero, List.set_cons_succ]
            refine wpAnyH_ready (rs := [8]) (by kernel_rfl) (by simp) ?_
            refine AllReadyH.cons rfl (fun K hK => ?_) ?_
            · skip
              obtain ⟨A9, c9, rfl, hs9⟩ := Own.slk' encInt_len (n := n + 1) (by simp [HLU.out]) HO_5.out
              have hs9 : SlK 1 encInt w5 (w.heap.size + 1 + 1) w5.heap.size A9 (n + 1) c9 us' := by rw [← HUS.out]; simpa using hs9
              go_simp
              go_at_call 81
              (with_reducible refine (HI.out _ _ A9 (n + 1) c9 us' _ (HR.out.below HB_5.out hB) (by omega) (HU.out.below HB_5.out hB1) (by omega) hs9 (by omega) (by omega)).mono ?_)
              rw [HV.out, HG.out]
              rintro e w6 ⟨rfl, hb⟩
              have z6 := hb.size
              have HB_6 := hide (HB_5.out.trans (hb.mono (by omega)))
              have PR_6 := hide (PR_5.out.belowH hb)
              have PT_6 := hide (PT_5.out.belowH hb)
              have PL_6 := hide (PL_5.out.belowH hb)
              clear hs9
              clear HB_5 PR_5 PT_5 PL_5 HO_5 NX_5
              clear hb
              go_wp2_with fail
              have kR := PR_6.out.cell
              have kT := PT_6.out.cell
              refine hK.out _ _ ?hS1 (fun hHeld => ?_)
              case hS1 => (try dsimp only); (go_keep)
              clear hK K kR kT
              try simp only [Act.put, List.getElem_toArray, List.getElem_cons_succ, List.getElem_cons_zero, List.setIfInBounds_toArray, List.set_cons_zero, List.set_cons_succ]
              refine wpAnyH_ready (rs := [10]) (by kernel_rfl) (by simp) ?_
              refine AllReadyH.cons rfl (fun K hK => ?_) ?_
              · skip
                have kL := PL_6.out.cell
                have yL := PL_6.out.lt
                have fL := PL_6.out.frozen
                go_simp
                have hX2 := HX2.out
                have PL_7 := hide ((PL_6.out.set_ 0 (.int .i64 V)).set_ 1 (.int .i64 G))
                simp only [List.setIfInBounds_toArray, List.set_cons_zero, List.set_cons_succ] at PL_7
                have PR_7 := hide ((PR_6.out.far (p := ⟨X1, 0, none⟩) (by simp; omega) (.int .i64 V)).far (p := ⟨X1, 1, none⟩) (by simp; omega) (.int .i64 G))
                have PT_7 := hide ((PT_6.out.far (p := ⟨X1, 0, none⟩) (by simp; omega) (.int .i64 V)).far (p := ⟨X1, 1, none⟩) (by simp; omega) (.int .i64 G))
                have HB_7 := hide (show Below w.heap.size w ((w6.setCell ⟨X1, 0, none⟩ (.int .i64 V)).setCell ⟨X1, 1, none⟩ (.int .i64 G)) from (HB_6.out.setCell (by simp; omega) _).setCell (by simp; omega) _)
                obtain ⟨w7, hw⟩ : ∃ y, ((w6.setCell ⟨X1, 0, none⟩ (.int .i64 V)).setCell ⟨X1, 1, none⟩ (.int .i64 G)) = y := ⟨_, rfl⟩
                rw [hw] at HB_7 PR_7 PT_7 PL_7 ⊢
                clear hw kL yL fL
                clear HB_6 PR_6 PT_6 PL_6
                have kR := PR_7.out.cell
                have kT := PT_7.out.cell
                refine hK.out _ _ ?hS1 (fun hHeld => ?_)
                case hS1 => (try dsimp only); (go_keep)
                clear hK K kR kT
                try simp only [Act.put, List.getElem_toArray, List.getElem_cons_succ, List.getElem_cons_zero, List.setIfInBounds_toArray, List.set_cons_zero, List.set_cons_succ]
                refine wpAnyH_done (by kernel_rfl) ?_ _
                first | with_reducible exact HFIN.out _ _ _ _ _ _ _ _ _ _ _ _ X1 w7 HX2.out HB_7.out PR_7.out PT_7.out PL_7.out | (show KF _ _; exact HFIN.out _ _ _ _ _ _ _ _ _ _ _ _ X1 w7 HX2.out HB_7.out PR_7.out PT_7.out PL_7.out)
              exact AllReadyH.nil
            exact AllReadyH.nil
          exact AllReadyH.nil
        refine AllReadyH.cons rfl (fun K hK => ?_) ?_
        · skip
          go_simp
          have HB_4 := hide (show Below w.heap.size w (w3.alloc (.cells #[.int .i64 0, .int .i64 0] 101)) from HB_3.out.alloc (by omega) _)
          have PR_4 := hide (PR_3.out.alloc (.cells #[.int .i64 0, .int .i64 0] 101))
          have PT_4 := hide (PT_3.out.alloc (.cells #[.int .i64 0, .int .i64 0] 101))
          have HO_4 := hide (HO_3.out.alloc (.cells #[.int .i64 0, .int .i64 0] 101))
          have HU1_4 := hide (HU1_3.out.alloc (by omega) (.cells #[.int .i64 0, .int .i64 0] 101))
          have NY_4 := NY_3
          obtain ⟨X1, hX1⟩ : ∃ y, w3.heap.size = y := ⟨_, rfl⟩
          have PL_4 := hide (Blk.new w3 101 #[.int .i64 0, .int .i64 0] (g := X1) hX1.symm)
          have HX2 := hide (show w.heap.size + 1 < X1 by omega)
          have yX : X1 < ((w3.alloc (.cells #[.int .i64 0, .int .i64 0] 101))).heap.size := by simp; omega
          rw [hX1]
          have NX_4 := hide (show ∀ k, v1.ownBlock = some k → k ≠ X1 from fun k hk => by have := (HO_3.out.lt k hk).2; omega)
          have z4 : w3.heap.size + 1 ≤ ((w3.alloc (.cells #[.int .i64 0, .int .i64 0] 101))).heap.size := by simp
          obtain ⟨w4, hw4⟩ : ∃ y, (w3.alloc (.cells #[.int .i64 0, .int .i64 0] 101)) = y := ⟨_, rfl⟩
          rw [hw4] at z4 yX HB_4 PR_4 PT_4 PL_4 HO_4 HU1_4 ⊢
          clear HB_3 PR_3 PT_3 HO_3 HU1_3 NY_3
          clear hw4
          clear hX1
          have kR := PR_4.out.cell
          have kT := PT_4.out.cell
          refine hK.out _ _ ?hS1 (fun hHeld => ?_)
          case hS1 => (try dsimp only); (go_keep)
          clear hK K kR kT
          try simp only [Act.put, List.getElem_toArray, List.getElem_cons_succ, List.getElem_cons_zero, List.setIfInBounds_toArray, List.set_cons_zero, List.set_cons_succ]
          refine wpAnyH_ready (rs := [7]) (by kernel_rfl) (by simp) ?_
          refine AllReadyH.cons rfl (fun K hK => ?_) ?_
          · skip
            refine step_app rfl (.tmp 16) (.tmp 18) rfl (by simp [Act.eval, Act.put]) (by simp [Act.eval, Act.put]) (appL HO_4.out (by omega) HU1_4.out (by simp [HLU.out]; omega)) ?_
            intro v2 w5 ho hg hat
            have z5 : w4.heap.size ≤ w5.heap.size := hg.size
            have HO_5 := hide ho
            have HB_5 := hide (below_app0 HB_4.out (HO_4.out.base_le (base' := w.heap.size) (by omega)) (by omega) hg)
            have PR_5 := hide (PR_4.out.grown hg (fun e => by have := (HO_4.out.lt _ e.symm).1; omega))
            have PT_5 := hide (PT_4.out.grown hg (fun e => by have := (HO_4.out.lt _ e.symm).1; omega))
            have PL_5 := hide (PL_4.out.grown hg (fun e => NX_4.out _ e.symm rfl))
            have NX_5 := hide (show ∀ k, v2.ownBlock = some k → k ≠ X1 from fun k hk => by rcases hat with h | h; exact NX_4.out k (h ▸ hk); (rw [hk] at h; injection h with h; have := yX; omega))
            clear HB_4 PR_4 PT_4 PL_4 HO_4 HU1_4 NY_4 NX_4
            clear ho hg hat
            have kR := PR_5.out.cell
            have kT := PT_5.out.cell
            refine hK.out _ _ ?hS1 (fun hHeld => ?_)
            case hS1 => (try dsimp only); (go_keep)
            clear hK K kR kT
            try simp only [Act.put, List.getElem_toArray, List.getElem_cons_succ, List.getElem_cons_zero, List.setIfInBounds_toArray, List.set_cons_zero, List.set_cons_succ]
            refine wpAnyH_ready (rs := [8]) (by kernel_rfl) (by simp) ?_
            refine AllReadyH.cons rfl (fun K hK => ?_) ?_
            · skip
              obtain ⟨A9, c9, rfl, hs9⟩ := Own.slk' encInt_len (n := n + 1) (by simp [HLU.out]) HO_5.out
              have hs9 : SlK 1 encInt w5 (w.heap.size + 1 + 1) w5.heap.size A9 (n + 1) c9 us' := by rw [← HUS.out]; simpa using hs9
              go_simp
              go_at_call 81
              (with_reducible refine (HI.out _ _ A9 (n + 1) c9 us' _ (HR.out.below HB_5.out hB) (by omega) (HU.out.below HB_5.out hB1) (by omega) hs9 (by omega) (by omega)).mono ?_)
              rw [HV.out, HG.out]
              rintro e w6 ⟨rfl, hb⟩
              have z6 := hb.size
              have HB_6 := hide (HB_5.out.trans (hb.mono (by omega)))
              have PR_6 := hide (PR_5.out.belowH hb)
              have PT_6 := hide (PT_5.out.belowH hb)
              have PL_6 := hide (PL_5.out.belowH hb)
              clear hs9
              clear HB_5 PR_5 PT_5 PL_5 HO_5 NX_5
              clear hb
              go_wp2_with fail
              have kR := PR_6.out.cell
              have kT := PT_6.out.cell
              refine hK.out _ _ ?hS1 (fun hHeld => ?_)
              case hS1 => (try dsimp only); (go_keep)
              clear hK K kR kT
              try simp only [Act.put, List.getElem_toArray, List.getElem_cons_succ, List.getElem_cons_zero, List.setIfInBounds_toArray, List.set_cons_zero, List.set_cons_succ]
              refine wpAnyH_ready (rs := [10]) (by kernel_rfl) (by simp) ?_
              refine AllReadyH.cons rfl (fun K hK => ?_) ?_
              · skip
                have kL := PL_6.out.cell
                have yL := PL_6.out.lt
                have fL := PL_6.out.frozen
                go_simp
                have hX2 := HX2.out
                have PL_7 := hide ((PL_6.out.set_ 0 (.int .i64 V)).set_ 1 (.int .i64 G))
                simp only [List.setIfInBounds_toArray, List.set_cons_zero, List.set_cons_succ] at PL_7
                have PR_7 := hide ((PR_6.out.far (p := ⟨X1, 0, none⟩) (by simp; omega) (.int .i64 V)).far (p := ⟨X1, 1, none⟩) (by simp; omega) (.int .i64 G))
                have PT_7 := hide ((PT_6.out.far (p := ⟨X1, 0, none⟩) (by simp; omega) (.int .i64 V)).far (p := ⟨X1, 1, none⟩) (by simp; omega) (.int .i64 G))
                have HB_7 := hide (show Below w.heap.size w ((w6.setCell ⟨X1, 0, none⟩ (.int .i64 V)).setCell ⟨X1, 1, none⟩ (.int .i64 G)) from (HB_6.out.setCell (by simp; omega) _).setCell (by simp; omega) _)
                obtain ⟨w7, hw⟩ : ∃ y, ((w6.setCell ⟨X1, 0, none⟩ (.int .i64 V)).setCell ⟨X1, 1, none⟩ (.int .i64 G)) = y := ⟨_, rfl⟩
                rw [hw] at HB_7 PR_7 PT_7 PL_7 ⊢
                clear hw kL yL fL
                clear HB_6 PR_6 PT_6 PL_6
                have kR := PR_7.out.cell
                have kT := PT_7.out.cell
                refine hK.out _ _ ?hS1 (fun hHeld => ?_)
                case hS1 => (try dsimp only); (go_keep)
                clear hK K kR kT
                try simp only [Act.put, List.getElem_toArray, List.getElem_cons_succ, List.getElem_cons_zero, List.setIfInBounds_toArray, List.set_cons_zero, List.set_cons_succ]
                refine wpAnyH_done (by kernel_rfl) ?_ _
                first | with_reducible exact HFIN.out _ _ _ _ _ _ _ _ _ _ _ _ X1 w7 HX2.out HB_7.out PR_7.out PT_7.out PL_7.out | (show KF _ _; exact HFIN.out _ _ _ _ _ _ _ _ _ _ _ _ X1 w7 HX2.out HB_7.out PR_7.out PT_7.out PL_7.out)
              exact AllReadyH.nil
            exact AllReadyH.nil
          exact AllReadyH.nil
        exact AllReadyH.nil
      refine AllReadyH.cons rfl (fun K hK => ?_) ?_
      · skip
        go_simp
        have HB_3 := hide (show Below w.heap.size w (w2.alloc (.cells #[.int .i64 0, .int .i64 0] 101)) from HB_2.out.alloc (by omega) _)
        have PR_3 := hide (PR_2.out.alloc (.cells #[.int .i64 0, .int .i64 0] 101))
        have PT_3 := hide (PT_2.out.alloc (.cells #[.int .i64 0, .int .i64 0] 101))
        have HO_3 := hide (HO_2.out.alloc (.cells #[.int .i64 0, .int .i64 0] 101))
        obtain ⟨X1, hX1⟩ : ∃ y, w2.heap.size = y := ⟨_, rfl⟩
        have PL_3 := hide (Blk.new w2 101 #[.int .i64 0, .int .i64 0] (g := X1) hX1.symm)
        have HX2 := hide (show w.heap.size + 1 < X1 by omega)
        have yX : X1 < ((w2.alloc (.cells #[.int .i64 0, .int .i64 0] 101))).heap.size := by simp; omega
        rw [hX1]
        have NX_3 := hide (show ∀ k, v1.ownBlock = some k → k ≠ X1 from fun k hk => by have := (HO_2.out.lt k hk).2; omega)
        have z3 : w2.heap.size + 1 ≤ ((w2.alloc (.cells #[.int .i64 0, .int .i64 0] 101))).heap.size := by simp
        obtain ⟨w3, hw3⟩ : ∃ y, (w2.alloc (.cells #[.int .i64 0, .int .i64 0] 101)) = y := ⟨_, rfl⟩
        rw [hw3] at z3 yX HB_3 PR_3 PT_3 PL_3 HO_3 ⊢
        clear HB_2 PR_2 PT_2 HO_2
        clear hw3
        clear hX1
        have kR := PR_3.out.cell
        have kT := PT_3.out.cell
        refine hK.out _ _ ?hS1 (fun hHeld => ?_)
        case hS1 => (try dsimp only); (go_keep)
        clear hK K kR kT
        try simp only [Act.put, List.getElem_toArray, List.getElem_cons_succ, List.getElem_cons_zero, List.setIfInBounds_toArray, List.set_cons_zero, List.set_cons_succ]
        refine wpAnyH_ready (rs := [6]) (by kernel_rfl) (by simp) ?_
        refine AllReadyH.cons rfl (fun K hK => ?_) ?_
        · skip
          go_simp
          have HB_4 := hide (show Below w.heap.size w (w3.alloc (.cells #[.int .i64 u] 3)) from HB_3.out.alloc (by omega) _)
          have PR_4 := hide (PR_3.out.alloc (.cells #[.int .i64 u] 3))
          have PT_4 := hide (PT_3.out.alloc (.cells #[.int .i64 u] 3))
          have PL_4 := hide (PL_3.out.alloc (.cells #[.int .i64 u] 3))
          have HO_4 := hide (HO_3.out.alloc (.cells #[.int .i64 u] 3))
          have NX_4 := NX_3
          obtain ⟨y1, hy1⟩ : ∃ y, w3.heap.size = y := ⟨_, rfl⟩
          have HU1_4 := hide (slk_one w3 u 3)
          rw [hy1] at HU1_4 ⊢
          have NY_4 := hide (show ∀ k, v1.ownBlock = some k → k < y1 ∨ y1 + 1 ≤ k from fun k hk => by have := (HO_3.out.lt k hk).2; omega)
          have z4 : w3.heap.size + 1 ≤ ((w3.alloc (.cells #[.int .i64 u] 3))).heap.size := by simp
          have y1a : y1 < ((w3.alloc (.cells #[.int .i64 u] 3))).heap.size := by simp; omega
          obtain ⟨w4, hw4⟩ : ∃ y, (w3.alloc (.cells #[.int .i64 u] 3)) = y := ⟨_, rfl⟩
          rw [hw4] at z4 y1a HB_4 PR_4 PT_4 PL_4 HO_4 HU1_4 ⊢
          clear HB_3 PR_3 PT_3 PL_3 HO_3 NX_3
          clear hw4
          clear hy1
          have kR := PR_4.out.cell
          have kT := PT_4.out.cell
          refine hK.out _ _ ?hS1 (fun hHeld => ?_)
          case hS1 => (try dsimp only); (go_keep)
          clear hK K kR kT
          try simp only [Act.put, List.getElem_toArray, List.getElem_cons_succ, List.getElem_cons_zero, List.setIfInBounds_toArray, List.set_cons_zero, List.set_cons_succ]
          refine wpAnyH_ready (rs := [7]) (by kernel_rfl) (by simp) ?_
          refine AllReadyH.cons rfl (fun K hK => ?_) ?_
          · skip
            refine step_app rfl (.tmp 16) (.tmp 18) rfl (by simp [Act.eval, Act.put]) (by simp [Act.eval, Act.put]) (appL HO_4.out (by omega) HU1_4.out (by simp [HLU.out]; omega)) ?_
            intro v2 w5 ho hg hat
            have z5 : w4.heap.size ≤ w5.heap.size := hg.size
            have HO_5 := hide ho
            have HB_5 := hide (below_app0 HB_4.out (HO_4.out.base_le (base' := w.heap.size) (by omega)) (by omega) hg)
            have PR_5 := hide (PR_4.out.grown hg (fun e => by have := (HO_4.out.lt _ e.symm).1; omega))
            have PT_5 := hide (PT_4.out.grown hg (fun e => by have := (HO_4.out.lt _ e.symm).1; omega))
            have PL_5 := hide (PL_4.out.grown hg (fun e => NX_4.out _ e.symm rfl))
            have NX_5 := hide (show ∀ k, v2.ownBlock = some k → k ≠ X1 from fun k hk => by rcases hat with h | h; exact NX_4.out k (h ▸ hk); (rw [hk] at h; injection h with h; have := yX; omega))
            clear HB_4 PR_4 PT_4 PL_4 HO_4 HU1_4 NX_4 NY_4
            clear ho hg hat
            have kR := PR_5.out.cell
            have kT := PT_5.out.cell
            refine hK.out _ _ ?hS1 (fun hHeld => ?_)
            case hS1 => (try dsimp only); (go_keep)
            clear hK K kR kT
            try simp only [Act.put, List.getElem_toArray, List.getElem_cons_succ, List.getElem_cons_zero, List.setIfInBounds_toArray, List.set_cons_zero, List.set_cons_succ]
            refine wpAnyH_ready (rs := [8]) (by kernel_rfl) (by simp) ?_
            refine AllReadyH.cons rfl (fun K hK => ?_) ?_
            · skip
              obtain ⟨A9, c9, rfl, hs9⟩ := Own.slk' encInt_len (n := n + 1) (by simp [HLU.out]) HO_5.out
              have hs9 : SlK 1 encInt w5 (w.heap.size + 1 + 1) w5.heap.size A9 (n + 1) c9 us' := by rw [← HUS.out]; simpa using hs9
              go_simp
              go_at_call 81
              (with_reducible refine (HI.out _ _ A9 (n + 1) c9 us' _ (HR.out.below HB_5.out hB) (by omega) (HU.out.below HB_5.out hB1) (by omega) hs9 (by omega) (by omega)).mono ?_)
              rw [HV.out, HG.out]
              rintro e w6 ⟨rfl, hb⟩
              have z6 := hb.size
              have HB_6 := hide (HB_5.out.trans (hb.mono (by omega)))
              have PR_6 := hide (PR_5.out.belowH hb)
              have PT_6 := hide (PT_5.out.belowH hb)
              have PL_6 := hide (PL_5.out.belowH hb)
              clear hs9
              clear HB_5 PR_5 PT_5 PL_5 HO_5 NX_5
              clear hb
              go_wp2_with fail
              have kR := PR_6.out.cell
              have kT := PT_6.out.cell
              refine hK.out _ _ ?hS1 (fun hHeld => ?_)
              case hS1 => (try dsimp only); (go_keep)
              clear hK K kR kT
              try simp only [Act.put, List.getElem_toArray, List.getElem_cons_succ, List.getElem_cons_zero, List.setIfInBounds_toArray, List.set_cons_zero, List.set_cons_succ]
              refine wpAnyH_ready (rs := [10]) (by kernel_rfl) (by simp) ?_
              refine AllReadyH.cons rfl (fun K hK => ?_) ?_
              · skip
                have kL := PL_6.out.cell
                have yL := PL_6.out.lt
                have fL := PL_6.out.frozen
                go_simp
                have hX2 := HX2.out
                have PL_7 := hide ((PL_6.out.set_ 0 (.int .i64 V)).set_ 1 (.int .i64 G))
                simp only [List.setIfInBounds_toArray, List.set_cons_zero, List.set_cons_succ] at PL_7
                have PR_7 := hide ((PR_6.out.far (p := ⟨X1, 0, none⟩) (by simp; omega) (.int .i64 V)).far (p := ⟨X1, 1, none⟩) (by simp; omega) (.int .i64 G))
                have PT_7 := hide ((PT_6.out.far (p := ⟨X1, 0, none⟩) (by simp; omega) (.int .i64 V)).far (p := ⟨X1, 1, none⟩) (by simp; omega) (.int .i64 G))
                have HB_7 := hide (show Below w.heap.size w ((w6.setCell ⟨X1, 0, none⟩ (.int .i64 V)).setCell ⟨X1, 1, none⟩ (.int .i64 G)) from (HB_6.out.setCell (by simp; omega) _).setCell (by simp; omega) _)
                obtain ⟨w7, hw⟩ : ∃ y, ((w6.setCell ⟨X1, 0, none⟩ (.int .i64 V)).setCell ⟨X1, 1, none⟩ (.int .i64 G)) = y := ⟨_, rfl⟩
                rw [hw] at HB_7 PR_7 PT_7 PL_7 ⊢
                clear hw kL yL fL
                clear HB_6 PR_6 PT_6 PL_6
                have kR := PR_7.out.cell
                have kT := PT_7.out.cell
                refine hK.out _ _ ?hS1 (fun hHeld => ?_)
                case hS1 => (try dsimp only); (go_keep)
                clear hK K kR kT
                try simp only [Act.put, List.getElem_toArray, List.getElem_cons_succ, List.getElem_cons_zero, List.setIfInBounds_toArray, List.set_cons_zero, List.set_cons_succ]
                refine wpAnyH_done (by kernel_rfl) ?_ _
                first | with_reducible exact HFIN.out _ _ _ _ _ _ _ _ _ _ _ _ X1 w7 HX2.out HB_7.out PR_7.out PT_7.out PL_7.out | (show KF _ _; exact HFIN.out _ _ _ _ _ _ _ _ _ _ _ _ X1 w7 HX2.out HB_7.out PR_7.out PT_7.out PL_7.out)
              exact AllReadyH.nil
            exact AllReadyH.nil
          exact AllReadyH.nil
        exact AllReadyH.nil
      exact AllReadyH.nil
    refine AllReadyH.cons rfl (fun K hK => ?_) ?_
    · skip
      go_simp
      have HB_2 := hide (show Below w.heap.size w (w1.alloc (.cells #[.int .i64 u] 3)) from HB_1.out.alloc (by omega) _)
      have PR_2 := hide (PR_1.out.alloc (.cells #[.int .i64 u] 3))
      have PT_2 := hide (PT_1.out.alloc (.cells #[.int .i64 u] 3))
      have HO_2 := hide (HO_1.out.alloc (.cells #[.int .i64 u] 3))
      obtain ⟨y1, hy1⟩ : ∃ y, w1.heap.size = y := ⟨_, rfl⟩
      have HU1_2 := hide (slk_one w1 u 3)
      rw [hy1] at HU1_2 ⊢
      have NY_2 := hide (show ∀ k, (Value.slice (some ⟨w0.heap.size, 0, none⟩) 0 0).ownBlock = some k → k < y1 ∨ y1 + 1 ≤ k from fun k hk => by have := (HO_1.out.lt k hk).2; omega)
      have z2 : w1.heap.size + 1 ≤ ((w1.alloc (.cells #[.int .i64 u] 3))).heap.size := by simp
      have y1a : y1 < ((w1.alloc (.cells #[.int .i64 u] 3))).heap.size := by simp; omega
      obtain ⟨w2, hw2⟩ : ∃ y, (w1.alloc (.cells #[.int .i64 u] 3)) = y := ⟨_, rfl⟩
      rw [hw2] at z2 y1a HB_2 PR_2 PT_2 HO_2 HU1_2 ⊢
      clear HB_1 PR_1 PT_1 HO_1
      clear hw2
      clear hy1
      have kR := PR_2.out.cell
      have kT := PT_2.out.cell
      refine hK.out _ _ ?hS1 (fun hHeld => ?_)
      case hS1 => (try dsimp only); (go_keep)
      clear hK K kR kT
      try simp only [Act.put, List.getElem_toArray, List.getElem_cons_succ, List.getElem_cons_zero, List.setIfInBounds_toArray, List.set_cons_zero, List.set_cons_succ]
      refine wpAnyH_ready (rs := [4, 9]) (by kernel_rfl) (by simp) ?_
      refine AllReadyH.cons rfl (fun K hK => ?_) ?_
      · skip
        refine step_app rfl (.tmp 14) (.tmp 15) rfl (by simp [Act.eval, Act.put]) (by simp [Act.eval, Act.put]) (appL HO_2.out (by omega) (HS.out.below HB_2.out hB2) (by simp; omega)) ?_
        intro v1 w3 ho hg hat
        have z3 : w2.heap.size ≤ w3.heap.size := hg.size
        have HO_3 := hide ho
        have HB_3 := hide (below_app0 HB_2.out (HO_2.out.base_le (base' := w.heap.size) (by omega)) (by omega) hg)
        have PR_3 := hide (PR_2.out.grown hg (fun e => by have := (HO_2.out.lt _ e.symm).1; omega))
        have PT_3 := hide (PT_2.out.grown hg (fun e => by have := (HO_2.out.lt _ e.symm).1; omega))
        have HU1_3 := hide (HU1_2.out.grown hg (by omega) NY_2.out)
        have NY_3 := hide (show ∀ k, v1.ownBlock = some k → k < y1 ∨ y1 + 1 ≤ k from fun k hk => by rcases hat with h | h; exact NY_2.out k (h ▸ hk); (rw [hk] at h; injection h with h; omega))
        clear HB_2 PR_2 PT_2 HO_2 HU1_2 NY_2
        clear ho hg hat
        have kR := PR_3.out.cell
        have kT := PT_3.out.cell
        refine hK.out _ _ ?hS1 (fun hHeld => ?_)
        case hS1 => (try dsimp only); (go_keep)
        clear hK K kR kT
        try simp only [Act.put, List.getElem_toArray, List.getElem_cons_succ, List.getElem_cons_zero, List.setIfInBounds_toArray, List.set_cons_zero, List.set_cons_succ]
        refine wpAnyH_ready (rs := [7, 9]) (by kernel_rfl) (by simp) ?_
        refine AllReadyH.cons rfl (fun K hK => ?_) ?_
        · skip
          refine step_app rfl (.tmp 16) (.tmp 18) rfl (by simp [Act.eval, Act.put]) (by simp [Act.eval, Act.put]) (appL HO_3.out (by omega) HU1_3.out (by simp [HLU.out]; omega)) ?_
          intro v2 w4 ho hg hat
          have z4 : w3.heap.size ≤ w4.heap.size := hg.size
          have HO_4 := hide ho
          have HB_4 := hide (below_app0 HB_3.out (HO_3.out.base_le (base' := w.heap.size) (by omega)) (by omega) hg)
          have PR_4 := hide (PR_3.out.grown hg (fun e => by have := (HO_3.out.lt _ e.symm).1; omega))
          have PT_4 := hide (PT_3.out.grown hg (fun e => by have := (HO_3.out.lt _ e.symm).1; omega))
          clear HB_3 PR_3 PT_3 HO_3 HU1_3 NY_3
          clear ho hg hat
          have kR := PR_4.out.cell
          have kT := PT_4.out.cell
          refine hK.out _ _ ?hS1 (fun hHeld => ?_)
          case hS1 => (try dsimp only); (go_keep)
          clear hK K kR kT
          try simp only [Act.put, List.getElem_toArray, List.getElem_cons_succ, List.getElem_cons_zero, List.setIfInBounds_toArray, List.set_cons_zero, List.set_cons_succ]
          refine wpAnyH_ready (rs := [8, 9]) (by kernel_rfl) (by simp) ?_
          refine AllReadyH.cons rfl (fun K hK => ?_) ?_
          · skip
            obtain ⟨A9, c9, rfl, hs9⟩ := Own.slk' encInt_len (n := n + 1) (by simp [HLU.out]) HO_4.out
            have hs9 : SlK 1 encInt w4 (w.heap.size + 1 + 1) w4.heap.size A9 (n + 1) c9 us' := by rw [← HUS.out]; simpa using hs9
            go_simp
            go_at_call 81
            (with_reducible refine (HI.out _ _ A9 (n + 1) c9 us' _ (HR.out.below HB_4.out hB) (by omega) (HU.out.below HB_4.out hB1) (by omega) hs9 (by omega) (by omega)).mono ?_)
            rw [HV.out, HG.out]
            rintro e w5 ⟨rfl, hb⟩
            have z5 := hb.size
            have HB_5 := hide (HB_4.out.trans (hb.mono (by omega)))
            have PR_5 := hide (PR_4.out.belowH hb)
            have PT_5 := hide (PT_4.out.belowH hb)
            clear hs9
            clear HB_4 PR_4 PT_4 HO_4
            clear hb
            go_wp2_with fail
            have kR := PR_5.out.cell
            have kT := PT_5.out.cell
            refine hK.out _ _ ?hS1 (fun hHeld => ?_)
            case hS1 => (try dsimp only); (go_keep)
            clear hK K kR kT
            try simp only [Act.put, List.getElem_toArray, List.getElem_cons_succ, List.getElem_cons_zero, List.setIfInBounds_toArray, List.set_cons_zero, List.set_cons_succ]
            refine wpAnyH_ready (rs := [9]) (by kernel_rfl) (by simp) ?_
            refine AllReadyH.cons rfl (fun K hK => ?_) ?_
            · skip
              go_simp
              have HB_6 := hide (show Below w.heap.size w (w5.alloc (.cells #[.int .i64 0, .int .i64 0] 101)) from HB_5.out.alloc (by omega) _)
              have PR_6 := hide (PR_5.out.alloc (.cells #[.int .i64 0, .int .i64 0] 101))
              have PT_6 := hide (PT_5.out.alloc (.cells #[.int .i64 0, .int .i64 0] 101))
              obtain ⟨X1, hX1⟩ : ∃ y, w5.heap.size = y := ⟨_, rfl⟩
              have PL_6 := hide (Blk.new w5 101 #[.int .i64 0, .int .i64 0] (g := X1) hX1.symm)
              have HX2 := hide (show w.heap.size + 1 < X1 by omega)
              have yX : X1 < ((w5.alloc (.cells #[.int .i64 0, .int .i64 0] 101))).heap.size := by simp; omega
              rw [hX1]
              have z6 : w5.heap.size + 1 ≤ ((w5.alloc (.cells #[.int .i64 0, .int .i64 0] 101))).heap.size := by simp
              obtain ⟨w6, hw6⟩ : ∃ y, (w5.alloc (.cells #[.int .i64 0, .int .i64 0] 101)) = y := ⟨_, rfl⟩
              rw [hw6] at z6 yX HB_6 PR_6 PT_6 PL_6 ⊢
              clear HB_5 PR_5 PT_5
              clear hw6
              clear hX1
              have kR := PR_6.out.cell
              have kT := PT_6.out.cell
              refine hK.out _ _ ?hS1 (fun hHeld => ?_)
              case hS1 => (try dsimp only); (go_keep)
              clear hK K kR kT
              try simp only [Act.put, List.getElem_toArray, List.getElem_cons_succ, List.getElem_cons_zero, List.setIfInBounds_toArray, List.set_cons_zero, List.set_cons_succ]
              refine wpAnyH_ready (rs := [10]) (by kernel_rfl) (by simp) ?_
              refine AllReadyH.cons rfl (fun K hK => ?_) ?_
              · skip
                have kL := PL_6.out.cell
                have yL := PL_6.out.lt
                have fL := PL_6.out.frozen
                go_simp
                have hX2 := HX2.out
                have PL_7 := hide ((PL_6.out.set_ 0 (.int .i64 V)).set_ 1 (.int .i64 G))
                simp only [List.setIfInBounds_toArray, List.set_cons_zero, List.set_cons_succ] at PL_7
                have PR_7 := hide ((PR_6.out.far (p := ⟨X1, 0, none⟩) (by simp; omega) (.int .i64 V)).far (p := ⟨X1, 1, none⟩) (by simp; omega) (.int .i64 G))
                have PT_7 := hide ((PT_6.out.far (p := ⟨X1, 0, none⟩) (by simp; omega) (.int .i64 V)).far (p := ⟨X1, 1, none⟩) (by simp; omega) (.int .i64 G))
                have HB_7 := hide (show Below w.heap.size w ((w6.setCell ⟨X1, 0, none⟩ (.int .i64 V)).setCell ⟨X1, 1, none⟩ (.int .i64 G)) from (HB_6.out.setCell (by simp; omega) _).setCell (by simp; omega) _)
                obtain ⟨w7, hw⟩ : ∃ y, ((w6.setCell ⟨X1, 0, none⟩ (.int .i64 V)).setCell ⟨X1, 1, none⟩ (.int .i64 G)) = y := ⟨_, rfl⟩
                rw [hw] at HB_7 PR_7 PT_7 PL_7 ⊢
                clear hw kL yL fL
                clear HB_6 PR_6 PT_6 PL_6
                have kR := PR_7.out.cell
                have kT := PT_7.out.cell
                refine hK.out _ _ ?hS1 (fun hHeld => ?_)
                case hS1 => (try dsimp only); (go_keep)
                clear hK K kR kT
                try simp only [Act.put, List.getElem_toArray, List.getElem_cons_succ, List.getElem_cons_zero, List.setIfInBounds_toArray, List.set_cons_zero, List.set_cons_succ]
                refine wpAnyH_done (by kernel_rfl) ?_ _
                first | with_reducible exact HFIN.out _ _ _ _ _ _ _ _ _ _ _ _ X1 w7 HX2.out HB_7.out PR_7.out PT_7.out PL_7.out | (show KF _ _; exact HFIN.out _ _ _ _ _ _ _ _ _ _ _ _ X1 w7 HX2.out HB_7.out PR_7.out PT_7.out PL_7.out)
              exact AllReadyH.nil
            exact AllReadyH.nil
          refine AllReadyH.cons rfl (fun K hK => ?_) ?_
          · skip
            go_simp
            have HB_5 := hide (show Below w.heap.size w (w4.alloc (.cells #[.int .i64 0, .int .i64 0] 101)) from HB_4.out.alloc (by omega) _)
            have PR_5 := hide (PR_4.out.alloc (.cells #[.int .i64 0, .int .i64 0] 101))
            have PT_5 := hide (PT_4.out.alloc (.cells #[.int .i64 0, .int .i64 0] 101))
            have HO_5 := hide (HO_4.out.alloc (.cells #[.int .i64 0, .int .i64 0] 101))
            obtain ⟨X1, hX1⟩ : ∃ y, w4.heap.size = y := ⟨_, rfl⟩
            have PL_5 := hide (Blk.new w4 101 #[.int .i64 0, .int .i64 0] (g := X1) hX1.symm)
            have HX2 := hide (show w.heap.size + 1 < X1 by omega)
            have yX : X1 < ((w4.alloc (.cells #[.int .i64 0, .int .i64 0] 101))).heap.size := by simp; omega
            rw [hX1]
            have NX_5 := hide (show ∀ k, v2.ownBlock = some k → k ≠ X1 from fun k hk => by have := (HO_4.out.lt k hk).2; omega)
            have z5 : w4.heap.size + 1 ≤ ((w4.alloc (.cells #[.int .i64 0, .int .i64 0] 101))).heap.size := by simp
            obtain ⟨w5, hw5⟩ : ∃ y, (w4.alloc (.cells #[.int .i64 0, .int .i64 0] 101)) = y := ⟨_, rfl⟩
            rw [hw5] at z5 yX HB_5 PR_5 PT_5 PL_5 HO_5 ⊢
            clear HB_4 PR_4 PT_4 HO_4
            clear hw5
            clear hX1
            have kR := PR_5.out.cell
            have kT := PT_5.out.cell
            refine hK.out _ _ ?hS1 (fun hHeld => ?_)
            case hS1 => (try dsimp only); (go_keep)
            clear hK K kR kT
            try simp only [Act.put, List.getElem_toArray, List.getElem_cons_succ, List.getElem_cons_zero, List.setIfInBounds_toArray, List.set_cons_zero, List.set_cons_succ]
            refine wpAnyH_ready (rs := [8]) (by kernel_rfl) (by simp) ?_
            refine AllReadyH.cons rfl (fun K hK => ?_) ?_
            · skip
              obtain ⟨A9, c9, rfl, hs9⟩ := Own.slk' encInt_len (n := n + 1) (by simp [HLU.out]) HO_5.out
              have hs9 : SlK 1 encInt w5 (w.heap.size + 1 + 1) w5.heap.size A9 (n + 1) c9 us' := by rw [← HUS.out]; simpa using hs9
              go_simp
              go_at_call 81
              (with_reducible refine (HI.out _ _ A9 (n + 1) c9 us' _ (HR.out.below HB_5.out hB) (by omega) (HU.out.below HB_5.out hB1) (by omega) hs9 (by omega) (by omega)).mono ?_)
              rw [HV.out, HG.out]
              rintro e w6 ⟨rfl, hb⟩
              have z6 := hb.size
              have HB_6 := hide (HB_5.out.trans (hb.mono (by omega)))
              have PR_6 := hide (PR_5.out.belowH hb)
              have PT_6 := hide (PT_5.out.belowH hb)
              have PL_6 := hide (PL_5.out.belowH hb)
              clear hs9
              clear HB_5 PR_5 PT_5 PL_5 HO_5 NX_5
              clear hb
              go_wp2_with fail
              have kR := PR_6.out.cell
              have kT := PT_6.out.cell
              refine hK.out _ _ ?hS1 (fun hHeld => ?_)
              case hS1 => (try dsimp only); (go_keep)
              clear hK K kR kT
              try simp only [Act.put, List.getElem_toArray, List.getElem_cons_succ, List.getElem_cons_zero, List.setIfInBounds_toArray, List.set_cons_zero, List.set_cons_succ]
              refine wpAnyH_ready (rs := [10]) (by kernel_rfl) (by simp) ?_
              refine AllReadyH.cons rfl (fun K hK => ?_) ?_
              · skip
                have kL := PL_6.out.cell
                have yL := PL_6.out.lt
                have fL := PL_6.out.frozen
                go_simp
                have hX2 := HX2.out
                have PL_7 := hide ((PL_6.out.set_ 0 (.int .i64 V)).set_ 1 (.int .i64 G))
                simp only [List.setIfInBounds_toArray, List.set_cons_zero, List.set_cons_succ] at PL_7
                have PR_7 := hide ((PR_6.out.far (p := ⟨X1, 0, none⟩) (by simp; omega) (.int .i64 V)).far (p := ⟨X1, 1, none⟩) (by simp; omega) (.int .i64 G))
                have PT_7 := hide ((PT_6.out.far (p := ⟨X1, 0, none⟩) (by simp; omega) (.int .i64 V)).far (p := ⟨X1, 1, none⟩) (by simp; omega) (.int .i64 G))
                have HB_7 := hide (show Below w.heap.size w ((w6.setCell ⟨X1, 0, none⟩ (.int .i64 V)).setCell ⟨X1, 1, none⟩ (.int .i64 G)) from (HB_6.out.setCell (by simp; omega) _).setCell (by simp; omega) _)
                obtain ⟨w7, hw⟩ : ∃ y, ((w6.setCell ⟨X1, 0, none⟩ (.int .i64 V)).setCell ⟨X1, 1, none⟩ (.int .i64 G)) = y := ⟨_, rfl⟩
                rw [hw] at HB_7 PR_7 PT_7 PL_7 ⊢
                clear hw kL yL fL
                clear HB_6 PR_6 PT_6 PL_6
                have kR := PR_7.out.cell
                have kT := PT_7.out.cell
                refine hK.out _ _ ?hS1 (fun hHeld => ?_)
                case hS1 => (try dsimp only); (go_keep)
                clear hK K kR kT
                try simp only [Act.put, List.getElem_toArray, List.getElem_cons_succ, List.getElem_cons_zero, List.setIfInBounds_toArray, List.set_cons_zero, List.set_cons_succ]
                refine wpAnyH_done (by kernel_rfl) ?_ _
                first | with_reducible exact HFIN.out _ _ _ _ _ _ _ _ _ _ _ _ X1 w7 HX2.out HB_7.out PR_7.out PT_7.out PL_7.out | (show KF _ _; exact HFIN.out _ _ _ _ _ _ _ _ _ _ _ _ X1 w7 HX2.out HB_7.out PR_7.out PT_7.out PL_7.out)
              exact AllReadyH.nil
            exact AllReadyH.nil
          exact AllReadyH.nil
        refine AllReadyH.cons rfl (fun K hK => ?_) ?_
        · skip
          go_simp
          have HB_4 := hide (show Below w.heap.size w (w3.alloc (.cells #[.int .i64 0, .int .i64 0] 101)) from HB_3.out.alloc (by omega) _)
          have PR_4 := hide (PR_3.out.alloc (.cells #[.int .i64 0, .int .i64 0] 101))
          have PT_4 := hide (PT_3.out.alloc (.cells #[.int .i64 0, .int .i64 0] 101))
          have HO_4 := hide (HO_3.out.alloc (.cells #[.int .i64 0, .int .i64 0] 101))
          have HU1_4 := hide (HU1_3.out.alloc (by omega) (.cells #[.int .i64 0, .int .i64 0] 101))
          have NY_4 := NY_3
          obtain ⟨X1, hX1⟩ : ∃ y, w3.heap.size = y := ⟨_, rfl⟩
          have PL_4 := hide (Blk.new w3 101 #[.int .i64 0, .int .i64 0] (g := X1) hX1.symm)
          have HX2 := hide (show w.heap.size + 1 < X1 by omega)
          have yX : X1 < ((w3.alloc (.cells #[.int .i64 0, .int .i64 0] 101))).heap.size := by simp; omega
          rw [hX1]
          have NX_4 := hide (show ∀ k, v1.ownBlock = some k → k ≠ X1 from fun k hk => by have := (HO_3.out.lt k hk).2; omega)
          have z4 : w3.heap.size + 1 ≤ ((w3.alloc (.cells #[.int .i64 0, .int .i64 0] 101))).heap.size := by simp
          obtain ⟨w4, hw4⟩ : ∃ y, (w3.alloc (.cells #[.int .i64 0, .int .i64 0] 101)) = y := ⟨_, rfl⟩
          rw [hw4] at z4 yX HB_4 PR_4 PT_4 PL_4 HO_4 HU1_4 ⊢
          clear HB_3 PR_3 PT_3 HO_3 HU1_3 NY_3
          clear hw4
          clear hX1
          have kR := PR_4.out.cell
          have kT := PT_4.out.cell
          refine hK.out _ _ ?hS1 (fun hHeld => ?_)
          case hS1 => (try dsimp only); (go_keep)
          clear hK K kR kT
          try simp only [Act.put, List.getElem_toArray, List.getElem_cons_succ, List.getElem_cons_zero, List.setIfInBounds_toArray, List.set_cons_zero, List.set_cons_succ]
          refine wpAnyH_ready (rs := [7]) (by kernel_rfl) (by simp) ?_
          refine AllReadyH.cons rfl (fun K hK => ?_) ?_
          · skip
            refine step_app rfl (.tmp 16) (.tmp 18) rfl (by simp [Act.eval, Act.put]) (by simp [Act.eval, Act.put]) (appL HO_4.out (by omega) HU1_4.out (by simp [HLU.out]; omega)) ?_
            intro v2 w5 ho hg hat
            have z5 : w4.heap.size ≤ w5.heap.size := hg.size
            have HO_5 := hide ho
            have HB_5 := hide (below_app0 HB_4.out (HO_4.out.base_le (base' := w.heap.size) (by omega)) (by omega) hg)
            have PR_5 := hide (PR_4.out.grown hg (fun e => by have := (HO_4.out.lt _ e.symm).1; omega))
            have PT_5 := hide (PT_4.out.grown hg (fun e => by have := (HO_4.out.lt _ e.symm).1; omega))
            have PL_5 := hide (PL_4.out.grown hg (fun e => NX_4.out _ e.symm rfl))
            have NX_5 := hide (show ∀ k, v2.ownBlock = some k → k ≠ X1 from fun k hk => by rcases hat with h | h; exact NX_4.out k (h ▸ hk); (rw [hk] at h; injection h with h; have := yX; omega))
            clear HB_4 PR_4 PT_4 PL_4 HO_4 HU1_4 NY_4 NX_4
            clear ho hg hat
            have kR := PR_5.out.cell
            have kT := PT_5.out.cell
            refine hK.out _ _ ?hS1 (fun hHeld => ?_)
            case hS1 => (try dsimp only); (go_keep)
            clear hK K kR kT
            try simp only [Act.put, List.getElem_toArray, List.getElem_cons_succ, List.getElem_cons_zero, List.setIfInBounds_toArray, List.set_cons_zero, List.set_cons_succ]
            refine wpAnyH_ready (rs := [8]) (by kernel_rfl) (by simp) ?_
            refine AllReadyH.cons rfl (fun K hK => ?_) ?_
            · skip
              obtain ⟨A9, c9, rfl, hs9⟩ := Own.slk' encInt_len (n := n + 1) (by simp [HLU.out]) HO_5.out
              have hs9 : SlK 1 encInt w5 (w.heap.size + 1 + 1) w5.heap.size A9 (n + 1) c9 us' := by rw [← HUS.out]; simpa using hs9
              go_simp
              go_at_call 81
              (with_reducible refine (HI.out _ _ A9 (n + 1) c9 us' _ (HR.out.below HB_5.out hB) (by omega) (HU.out.below HB_5.out hB1) (by omega) hs9 (by omega) (by omega)).mono ?_)
              rw [HV.out, HG.out]
              rintro e w6 ⟨rfl, hb⟩
              have z6 := hb.size
              have HB_6 := hide (HB_5.out.trans (hb.mono (by omega)))
              have PR_6 := hide (PR_5.out.belowH hb)
              have PT_6 := hide (PT_5.out.belowH hb)
              have PL_6 := hide (PL_5.out.belowH hb)
              clear hs9
              clear HB_5 PR_5 PT_5 PL_5 HO_5 NX_5
              clear hb
              go_wp2_with fail
              have kR := PR_6.out.cell
              have kT := PT_6.out.cell
              refine hK.out _ _ ?hS1 (fun hHeld => ?_)
              case hS1 => (try dsimp only); (go_keep)
              clear hK K kR kT
              try simp only [Act.put, List.getElem_toArray, List.getElem_cons_succ, List.getElem_cons_zero, List.setIfInBounds_toArray, List.set_cons_zero, List.set_cons_succ]
              refine wpAnyH_ready (rs := [10]) (by kernel_rfl) (by simp) ?_
              refine AllReadyH.cons rfl (fun K hK => ?_) ?_
              · skip
                have kL := PL_6.out.cell
                have yL := PL_6.out.lt
                have fL := PL_6.out.frozen
                go_simp
                have hX2 := HX2.out
                have PL_7 := hide ((PL_6.out.set_ 0 (.int .i64 V)).set_ 1 (.int .i64 G))
                simp only [List.setIfInBounds_toArray, List.set_cons_zero, List.set_cons_succ] at PL_7
                have PR_7 := hide ((PR_6.out.far (p := ⟨X1, 0, none⟩) (by simp; omega) (.int .i64 V)).far (p := ⟨X1, 1, none⟩) (by simp; omega) (.int .i64 G))
                have PT_7 := hide ((PT_6.out.far (p := ⟨X1, 0, none⟩) (by simp; omega) (.int .i64 V)).far (p := ⟨X1, 1, none⟩) (by simp; omega) (.int .i64 G))
                have HB_7 := hide (show Below w.heap.size w ((w6.setCell ⟨X1, 0, none⟩ (.int .i64 V)).setCell ⟨X1, 1, none⟩ (.int .i64 G)) from (HB_6.out.setCell (by simp; omega) _).setCell (by simp; omega) _)
                obtain ⟨w7, hw⟩ : ∃ y, ((w6.setCell ⟨X1, 0, none⟩ (.int .i64 V)).setCell ⟨X1, 1, none⟩ (.int .i64 G)) = y := ⟨_, rfl⟩
                rw [hw] at HB_7 PR_7 PT_7 PL_7 ⊢
                clear hw kL yL fL
                clear HB_6 PR_6 PT_6 PL_6
                have kR := PR_7.out.cell
                have kT := PT_7.out.cell
                refine hK.out _ _ ?hS1 (fun hHeld => ?_)
                case hS1 => (try dsimp only); (go_keep)
                clear hK K kR kT
                try simp only [Act.put, List.getElem_toArray, List.getElem_cons_succ, List.getElem_cons_zero, List.setIfInBounds_toArray, List.set_cons_zero, List.set_cons_succ]
                refine wpAnyH_done (by kernel_rfl) ?_ _
                first | with_reducible exact HFIN.out _ _ _ _ _ _ _ _ _ _ _ _ X1 w7 HX2.out HB_7.out PR_7.out PT_7.out PL_7.out | (show KF _ _; exact HFIN.out _ _ _ _ _ _ _ _ _ _ _ _ X1 w7 HX2.out HB_7.out PR_7.out PT_7.out PL_7.out)
              exact AllReadyH.nil
            exact AllReadyH.nil
          exact AllReadyH.nil
        exact AllReadyH.nil
      refine AllReadyH.cons rfl (fun K hK => ?_) ?_
      · skip
        go_simp
        have HB_3 := hide (show Below w.heap.size w (w2.alloc (.cells #[.int .i64 0, .int .i64 0] 101)) from HB_2.out.alloc (by omega) _)
        have PR_3 := hide (PR_2.out.alloc (.cells #[.int .i64 0, .int .i64 0] 101))
        have PT_3 := hide (PT_2.out.alloc (.cells #[.int .i64 0, .int .i64 0] 101))
        have HO_3 := hide (HO_2.out.alloc (.cells #[.int .i64 0, .int .i64 0] 101))
        have HU1_3 := hide (HU1_2.out.alloc (by omega) (.cells #[.int .i64 0, .int .i64 0] 101))
        have NY_3 := NY_2
        obtain ⟨X1, hX1⟩ : ∃ y, w2.heap.size = y := ⟨_, rfl⟩
        have PL_3 := hide (Blk.new w2 101 #[.int .i64 0, .int .i64 0] (g := X1) hX1.symm)
        have HX2 := hide (show w.heap.size + 1 < X1 by omega)
        have yX : X1 < ((w2.alloc (.cells #[.int .i64 0, .int .i64 0] 101))).heap.size := by simp; omega
        rw [hX1]
        have NX_3 := hide (show ∀ k, (Value.slice (some ⟨w0.heap.size, 0, none⟩) 0 0).ownBlock = some k → k ≠ X1 from fun k hk => by have := (HO_2.out.lt k hk).2; omega)
        have z3 : w2.heap.size + 1 ≤ ((w2.alloc (.cells #[.int .i64 0, .int .i64 0] 101))).heap.size := by simp
        obtain ⟨w3, hw3⟩ : ∃ y, (w2.alloc (.cells #[.int .i64 0, .int .i64 0] 101)) = y := ⟨_, rfl⟩
        rw [hw3] at z3 yX HB_3 PR_3 PT_3 PL_3 HO_3 HU1_3 ⊢
        clear HB_2 PR_2 PT_2 HO_2 HU1_2 NY_2
        clear hw3
        clear hX1
        have kR := PR_3.out.cell
        have kT := PT_3.out.cell
        refine hK.out _ _ ?hS1 (fun hHeld => ?_)
        case hS1 => (try dsimp only); (go_keep)
        clear hK K kR kT
        try simp only [Act.put, List.getElem_toArray, List.getElem_cons_succ, List.getElem_cons_zero, List.setIfInBounds_toArray, List.set_cons_zero, List.set_cons_succ]
        refine wpAnyH_ready (rs := [4]) (by kernel_rfl) (by simp) ?_
        refine AllReadyH.cons rfl (fun K hK => ?_) ?_
        · skip
          refine step_app rfl (.tmp 14) (.tmp 15) rfl (by simp [Act.eval, Act.put]) (by simp [Act.eval, Act.put]) (appL HO_3.out (by omega) (HS.out.below HB_3.out hB2) (by simp; omega)) ?_
          intro v1 w4 ho hg hat
          have z4 : w3.heap.size ≤ w4.heap.size := hg.size
          have HO_4 := hide ho
          have HB_4 := hide (below_app0 HB_3.out (HO_3.out.base_le (base' := w.heap.size) (by omega)) (by omega) hg)
          have PR_4 := hide (PR_3.out.grown hg (fun e => by have := (HO_3.out.lt _ e.symm).1; omega))
          have PT_4 := hide (PT_3.out.grown hg (fun e => by have := (HO_3.out.lt _ e.symm).1; omega))
          have PL_4 := hide (PL_3.out.grown hg (fun e => NX_3.out _ e.symm rfl))
          have HU1_4 := hide (HU1_3.out.grown hg (by omega) NY_3.out)
          have NX_4 := hide (show ∀ k, v1.ownBlock = some k → k ≠ X1 from fun k hk => by rcases hat with h | h; exact NX_3.out k (h ▸ hk); (rw [hk] at h; injection h with h; have := yX; omega))
          have NY_4 := hide (show ∀ k, v1.ownBlock = some k → k < y1 ∨ y1 + 1 ≤ k from fun k hk => by rcases hat with h | h; exact NY_3.out k (h ▸ hk); (rw [hk] at h; injection h with h; omega))
          clear HB_3 PR_3 PT_3 PL_3 HO_3 HU1_3 NY_3 NX_3
          clear ho hg hat
          have kR := PR_4.out.cell
          have kT := PT_4.out.cell
          refine hK.out _ _ ?hS1 (fun hHeld => ?_)
          case hS1 => (try dsimp only); (go_keep)
          clear hK K kR kT
          try simp only [Act.put, List.getElem_toArray, List.getElem_cons_succ, List.getElem_cons_zero, List.setIfInBounds_toArray, List.set_cons_zero, List.set_cons_succ]
          refine wpAnyH_ready (rs := [7]) (by kernel_rfl) (by simp) ?_
          refine AllReadyH.cons rfl (fun K hK => ?_) ?_
          · skip
            refine step_app rfl (.tmp 16) (.tmp 18) rfl (by simp [Act.eval, Act.put]) (by simp [Act.eval, Act.put]) (appL HO_4.out (by omega) HU1_4.out (by simp [HLU.out]; omega)) ?_
            intro v2 w5 ho hg hat
            have z5 : w4.heap.size ≤ w5.heap.size := hg.size
            have HO_5 := hide ho
            have HB_5 := hide (below_app0 HB_4.out (HO_4.out.base_le (base' := w.heap.size) (by omega)) (by omega) hg)
            have PR_5 := hide (PR_4.out.grown hg (fun e => by have := (HO_4.out.lt _ e.symm).1; omega))
            have PT_5 := hide (PT_4.out.grown hg (fun e => by have := (HO_4.out.lt _ e.symm).1; omega))
            have PL_5 := hide (PL_4.out.grown hg (fun e => NX_4.out _ e.symm rfl))
            have NX_5 := hide (show ∀ k, v2.ownBlock = some k → k ≠ X1 from fun k hk => by rcases hat with h | h; exact NX_4.out k (h ▸ hk); (rw [hk] at h; injection h with h; have := yX; omega))
            clear HB_4 PR_4 PT_4 PL_4 HO_4 HU1_4 NX_4 NY_4
            clear ho hg hat
            have kR := PR_5.out.cell
            have kT := PT_5.out.cell
            refine hK.out _ _ ?hS1 (fun hHeld => ?_)
            case hS1 => (try dsimp only); (go_keep)
            clear hK K kR kT
            try simp only [Act.put, List.getElem_toArray, List.getElem_cons_succ, List.getElem_cons_zero, List.setIfInBounds_toArray, List.set_cons_zero, List.set_cons_succ]
            refine wpAnyH_ready (rs := [8]) (by kernel_rfl) (by simp) ?_
            refine AllReadyH.cons rfl (fun K hK => ?_) ?_
            · skip
              obtain ⟨A9, c9, rfl, hs9⟩ := Own.slk' encInt_len (n := n + 1) (by simp [HLU.out]) HO_5.out
              have hs9 : SlK 1 encInt w5 (w.heap.size + 1 + 1) w5.heap.size A9 (n + 1) c9 us' := by rw [← HUS.out]; simpa using hs9
              go_simp
              go_at_call 81
              (with_reducible refine (HI.out _ _ A9 (n + 1) c9 us' _ (HR.out.below HB_5.out hB) (by omega) (HU.out.below HB_5.out hB1) (by omega) hs9 (by omega) (by omega)).mono ?_)
              rw [HV.out, HG.out]
              rintro e w6 ⟨rfl, hb⟩
              have z6 := hb.size
              have HB_6 := hide (HB_5.out.trans (hb.mono (by omega)))
              have PR_6 := hide (PR_5.out.belowH hb)
              have PT_6 := hide (PT_5.out.belowH hb)
              have PL_6 := hide (PL_5.out.belowH hb)
              clear hs9
              clear HB_5 PR_5 PT_5 PL_5 HO_5 NX_5
              clear hb
              go_wp2_with fail
              have kR := PR_6.out.cell
              have kT := PT_6.out.cell
              refine hK.out _ _ ?hS1 (fun hHeld => ?_)
              case hS1 => (try dsimp only); (go_keep)
              clear hK K kR kT
              try simp only [Act.put, List.getElem_toArray, List.getElem_cons_succ, List.getElem_cons_zero, List.setIfInBounds_toArray, List.set_cons_zero, List.set_cons_succ]
              refine wpAnyH_ready (rs := [10]) (by kernel_rfl) (by simp) ?_
              refine AllReadyH.cons rfl (fun K hK => ?_) ?_
              · skip
                have kL := PL_6.out.cell
                have yL := PL_6.out.lt
                have fL := PL_6.out.frozen
                go_simp
                have hX2 := HX2.out
                have PL_7 := hide ((PL_6.out.set_ 0 (.int .i64 V)).set_ 1 (.int .i64 G))
                simp only [List.setIfInBounds_toArray, List.set_cons_zero, List.set_cons_succ] at PL_7
                have PR_7 := hide ((PR_6.out.far (p := ⟨X1, 0, none⟩) (by simp; omega) (.int .i64 V)).far (p := ⟨X1, 1, none⟩) (by simp; omega) (.int .i64 G))
                have PT_7 := hide ((PT_6.out.far (p := ⟨X1, 0, none⟩) (by simp; omega) (.int .i64 V)).far (p := ⟨X1, 1, none⟩) (by simp; omega) (.int .i64 G))
                have HB_7 := hide (show Below w.heap.size w ((w6.setCell ⟨X1, 0, none⟩ (.int .i64 V)).setCell ⟨X1, 1, none⟩ (.int .i64 G)) from (HB_6.out.setCell (by simp; omega) _).setCell (by simp; omega) _)
                obtain ⟨w7, hw⟩ : ∃ y, ((w6.setCell ⟨X1, 0, none⟩ (.int .i64 V)).setCell ⟨X1, 1, none⟩ (.int .i64 G)) = y := ⟨_, rfl⟩
                rw [hw] at HB_7 PR_7 PT_7 PL_7 ⊢
                clear hw kL yL fL
                clear HB_6 PR_6 PT_6 PL_6
                have kR := PR_7.out.cell
                have kT := PT_7.out.cell
                refine hK.out _ _ ?hS1 (fun hHeld => ?_)
                case hS1 => (try dsimp only); (go_keep)
                clear hK K kR kT
                try simp only [Act.put, List.getElem_toArray, List.getElem_cons_succ, List.getElem_cons_zero, List.setIfInBounds_toArray, List.set_cons_zero, List.set_cons_succ]
                refine wpAnyH_done (by kernel_rfl) ?_ _
                first | with_reducible exact HFIN.out _ _ _ _ _ _ _ _ _ _ _ _ X1 w7 HX2.out HB_7.out PR_7.out PT_7.out PL_7.out | (show KF _ _; exact HFIN.out _ _ _ _ _ _ _ _ _ _ _ _ X1 w7 HX2.out HB_7.out PR_7.out PT_7.out PL_7.out)
              exact AllReadyH.nil
            exact AllReadyH.nil
          exact AllReadyH.nil
        exact AllReadyH.nil
      exact AllReadyH.nil
    refine AllReadyH.cons rfl (fun K hK => ?_) ?_
    · skip
      go_simp
      have HB_2 := hide (show Below w.heap.size w (w1.alloc (.cells #[.int .i64 0, .int .i64 0] 101)) from HB_1.out.alloc (by omega) _)
      have PR_2 := hide (PR_1.out.alloc (.cells #[.int .i64 0, .int .i64 0] 101))
      have PT_2 := hide (PT_1.out.alloc (.cells #[.int .i64 0, .int .i64 0] 101))
      have HO_2 := hide (HO_1.out.alloc (.cells #[.int .i64 0, .int .i64 0] 101))
      obtain ⟨X1, hX1⟩ : ∃ y, w1.heap.size = y := ⟨_, rfl⟩
      have PL_2 := hide (Blk.new w1 101 #[.int .i64 0, .int .i64 0] (g := X1) hX1.symm)
      have HX2 := hide (show w.heap.size + 1 < X1 by omega)
      have yX : X1 < ((w1.alloc (.cells #[.int .i64 0, .int .i64 0] 101))).heap.size := by simp; omega
      rw [hX1]
      have NX_2 := hide (show ∀ k, (Value.slice (some ⟨w0.heap.size, 0, none⟩) 0 0).ownBlock = some k → k ≠ X1 from fun k hk => by have := (HO_1.out.lt k hk).2; omega)
      have z2 : w1.heap.size + 1 ≤ ((w1.alloc (.cells #[.int .i64 0, .int .i64 0] 101))).heap.size := by simp
      obtain ⟨w2, hw2⟩ : ∃ y, (w1.alloc (.cells #[.int .i64 0, .int .i64 0] 101)) = y := ⟨_, rfl⟩
      rw [hw2] at z2 yX HB_2 PR_2 PT_2 PL_2 HO_2 ⊢
      clear HB_1 PR_1 PT_1 HO_1
      clear hw2
      clear hX1
      have kR := PR_2.out.cell
      have kT := PT_2.out.cell
      refine hK.out _ _ ?hS1 (fun hHeld => ?_)
      case hS1 => (try dsimp only); (go_keep)
      clear hK K kR kT
      try simp only [Act.put, List.getElem_toArray, List.getElem_cons_succ, List.getElem_cons_zero, List.setIfInBounds_toArray, List.set_cons_zero, List.set_cons_succ]
      refine wpAnyH_ready (rs := [4, 6]) (by kernel_rfl) (by simp) ?_
      refine AllReadyH.cons rfl (fun K hK => ?_) ?_
      · skip
        refine step_app rfl (.tmp 14) (.tmp 15) rfl (by simp [Act.eval, Act.put]) (by simp [Act.eval, Act.put]) (appL HO_2.out (by omega) (HS.out.below HB_2.out hB2) (by simp; omega)) ?_
        intro v1 w3 ho hg hat
        have z3 : w2.heap.size ≤ w3.heap.size := hg.size
        have HO_3 := hide ho
        have HB_3 := hide (below_app0 HB_2.out (HO_2.out.base_le (base' := w.heap.size) (by omega)) (by omega) hg)
        have PR_3 := hide (PR_2.out.grown hg (fun e => by have := (HO_2.out.lt _ e.symm).1; omega))
        have PT_3 := hide (PT_2.out.grown hg (fun e => by have := (HO_2.out.lt _ e.symm).1; omega))
        have PL_3 := hide (PL_2.out.grown hg (fun e => NX_2.out _ e.symm rfl))
        have NX_3 := hide (show ∀ k, v1.ownBlock = some k → k ≠ X1 from fun k hk => by rcases hat with h | h; exact NX_2.out k (h ▸ hk); (rw [hk] at h; injection h with h; have := yX; omega))
        clear HB_2 PR_2 PT_2 PL_2 HO_2 NX_2
        clear ho hg hat
        have kR := PR_3.out.cell
        have kT := PT_3.out.cell
        refine hK.out _ _ ?hS1 (fun hHeld => ?_)
        case hS1 => (try dsimp only); (go_keep)
        clear hK K kR kT
        try simp only [Act.put, List.getElem_toArray, List.getElem_cons_succ, List.getElem_cons_zero, List.setIfInBounds_toArray, List.set_cons_zero, List.set_cons_succ]
        refine wpAnyH_ready (rs := [6]) (by kernel_rfl) (by simp) ?_
        refine AllReadyH.cons rfl (fun K hK => ?_) ?_
        · skip
          go_simp
          have HB_4 := hide (show Below w.heap.size w (w3.alloc (.cells #[.int .i64 u] 3)) from HB_3.out.alloc (by omega) _)
          have PR_4 := hide (PR_3.out.alloc (.cells #[.int .i64 u] 3))
          have PT_4 := hide (PT_3.out.alloc (.cells #[.int .i64 u] 3))
          have PL_4 := hide (PL_3.out.alloc (.cells #[.int .i64 u] 3))
          have HO_4 := hide (HO_3.out.alloc (.cells #[.int .i64 u] 3))
          have NX_4 := NX_3
          obtain ⟨y1, hy1⟩ : ∃ y, w3.heap.size = y := ⟨_, rfl⟩
          have HU1_4 := hide (slk_one w3 u 3)
          rw [hy1] at HU1_4 ⊢
          have NY_4 := hide (show ∀ k, v1.ownBlock = some k → k < y1 ∨ y1 + 1 ≤ k from fun k hk => by have := (HO_3.out.lt k hk).2; omega)
          have z4 : w3.heap.size + 1 ≤ ((w3.alloc (.cells #[.int .i64 u] 3))).heap.size := by simp
          have y1a : y1 < ((w3.alloc (.cells #[.int .i64 u] 3))).heap.size := by simp; omega
          obtain ⟨w4, hw4⟩ : ∃ y, (w3.alloc (.cells #[.int .i64 u] 3)) = y := ⟨_, rfl⟩
          rw [hw4] at z4 y1a HB_4 PR_4 PT_4 PL_4 HO_4 HU1_4 ⊢
          clear HB_3 PR_3 PT_3 PL_3 HO_3 NX_3
          clear hw4
          clear hy1
          have kR := PR_4.out.cell
          have kT := PT_4.out.cell
          refine hK.out _ _ ?hS1 (fun hHeld => ?_)
          case hS1 => (try dsimp only); (go_keep)
          clear hK K kR kT
          try simp only [Act.put, List.getElem_toArray, List.getElem_cons_succ, List.getElem_cons_zero, List.setIfInBounds_toArray, List.set_cons_zero, List.set_cons_succ]
          refine wpAnyH_ready (rs := [7]) (by kernel_rfl) (by simp) ?_
          refine AllReadyH.cons rfl (fun K hK => ?_) ?_
          · skip
            refine step_app rfl (.tmp 16) (.tmp 18) rfl (by simp [Act.eval, Act.put]) (by simp [Act.eval, Act.put]) (appL HO_4.out (by omega) HU1_4.out (by simp [HLU.out]; omega)) ?_
            intro v2 w5 ho hg hat
            have z5 : w4.heap.size ≤ w5.heap.size := hg.size
            have HO_5 := hide ho
            have HB_5 := hide (below_app0 HB_4.out (HO_4.out.base_le (base' := w.heap.size) (by omega)) (by omega) hg)
            have PR_5 := hide (PR_4.out.grown hg (fun e => by have := (HO_4.out.lt _ e.symm).1; omega))
            have PT_5 := hide (PT_4.out.grown hg (fun e => by have := (HO_4.out.lt _ e.symm).1; omega))
            have PL_5 := hide (PL_4.out.grown hg (fun e => NX_4.out _ e.symm rfl))
            have NX_5 := hide (show ∀ k, v2.ownBlock = some k → k ≠ X1 from fun k hk => by rcases hat with h | h; exact NX_4.out k (h ▸ hk); (rw [hk] at h; injection h with h; have := yX; omega))
            clear HB_4 PR_4 PT_4 PL_4 HO_4 HU1_4 NX_4 NY_4
            clear ho hg hat
            have kR := PR_5.out.cell
            have kT := PT_5.out.cell
            refine hK.out _ _ ?hS1 (fun hHeld => ?_)
            case hS1 => (try dsimp only); (go_keep)
            clear hK K kR kT
            try simp only [Act.put, List.getElem_toArray, List.getElem_cons_succ, List.getElem_cons_zero, List.setIfInBounds_toArray, List.set_cons_zero, List.set_cons_succ]
            refine wpAnyH_ready (rs := [8]) (by kernel_rfl) (by simp) ?_
            refine AllReadyH.cons rfl (fun K hK => ?_) ?_
            · skip
              obtain ⟨A9, c9, rfl, hs9⟩ := Own.slk' encInt_len (n := n + 1) (by simp [HLU.out]) HO_5.out
              have hs9 : SlK 1 encInt w5 (w.heap.size + 1 + 1) w5.heap.size A9 (n + 1) c9 us' := by rw [← HUS.out]; simpa using hs9
              go_simp
              go_at_call 81
              (with_reducible refine (HI.out _ _ A9 (n + 1) c9 us' _ (HR.out.below HB_5.out hB) (by omega) (HU.out.below HB_5.out hB1) (by omega) hs9 (by omega) (by omega)).mono ?_)
              rw [HV.out, HG.out]
              rintro e w6 ⟨rfl, hb⟩
              have z6 := hb.size
              have HB_6 := hide (HB_5.out.trans (hb.mono (by omega)))
              have PR_6 := hide (PR_5.out.belowH hb)
              have PT_6 := hide (PT_5.out.belowH hb)
              have PL_6 := hide (PL_5.out.belowH hb)
              clear hs9
              clear HB_5 PR_5 PT_5 PL_5 HO_5 NX_5
              clear hb
              go_wp2_with fail
              have kR := PR_6.out.cell
              have kT := PT_6.out.cell
              refine hK.out _ _ ?hS1 (fun hHeld => ?_)
              case hS1 => (try dsimp only); (go_keep)
              clear hK K kR kT
              try simp only [Act.put, List.getElem_toArray, List.getElem_cons_succ, List.getElem_cons_zero, List.setIfInBounds_toArray, List.set_cons_zero, List.set_cons_succ]
              refine wpAnyH_ready (rs := [10]) (by kernel_rfl) (by simp) ?_
              refine AllReadyH.cons rfl (fun K hK => ?_) ?_
              · skip
                have kL := PL_6.out.cell
                have yL := PL_6.out.lt
                have fL := PL_6.out.frozen
                go_simp
                have hX2 := HX2.out
                have PL_7 := hide ((PL_6.out.set_ 0 (.int .i64 V)).set_ 1 (.int .i64 G))
                simp only [List.setIfInBounds_toArray, List.set_cons_zero, List.set_cons_succ] at PL_7
                have PR_7 := hide ((PR_6.out.far (p := ⟨X1, 0, none⟩) (by simp; omega) (.int .i64 V)).far (p := ⟨X1, 1, none⟩) (by simp; omega) (.int .i64 G))
                have PT_7 := hide ((PT_6.out.far (p := ⟨X1, 0, none⟩) (by simp; omega) (.int .i64 V)).far (p := ⟨X1, 1, none⟩) (by simp; omega) (.int .i64 G))
                have HB_7 := hide (show Below w.heap.size w ((w6.setCell ⟨X1, 0, none⟩ (.int .i64 V)).setCell ⟨X1, 1, none⟩ (.int .i64 G)) from (HB_6.out.setCell (by simp; omega) _).setCell (by simp; omega) _)
                obtain ⟨w7, hw⟩ : ∃ y, ((w6.setCell ⟨X1, 0, none⟩ (.int .i64 V)).setCell ⟨X1, 1, none⟩ (.int .i64 G)) = y := ⟨_, rfl⟩
                rw [hw] at HB_7 PR_7 PT_7 PL_7 ⊢
                clear hw kL yL fL
                clear HB_6 PR_6 PT_6 PL_6
                have kR := PR_7.out.cell
                have kT := PT_7.out.cell
                refine hK.out _ _ ?hS1 (fun hHeld => ?_)
                case hS1 => (try dsimp only); (go_keep)
                clear hK K kR kT
                try simp only [Act.put, List.getElem_toArray, List.getElem_cons_succ, List.getElem_cons_zero, List.setIfInBounds_toArray, List.set_cons_zero, List.set_cons_succ]
                refine wpAnyH_done (by kernel_rfl) ?_ _
                first | with_reducible exact HFIN.out _ _ _ _ _ _ _ _ _ _ _ _ X1 w7 HX2.out HB_7.out PR_7.out PT_7.out PL_7.out | (show KF _ _; exact HFIN.out _ _ _ _ _ _ _ _ _ _ _ _ X1 w7 HX2.out HB_7.out PR_7.out PT_7.out PL_7.out)
              exact AllReadyH.nil
            exact AllReadyH.nil
          exact AllReadyH.nil
        exact AllReadyH.nil
      refine AllReadyH.cons rfl (fun K hK => ?_) ?_
      · skip
        go_simp
        have HB_3 := hide (show Below w.heap.size w (w2.alloc (.cells #[.int .i64 u] 3)) from HB_2.out.alloc (by omega) _)
        have PR_3 := hide (PR_2.out.alloc (.cells #[.int .i64 u] 3))
        have PT_3 := hide (PT_2.out.alloc (.cells #[.int .i64 u] 3))
        have PL_3 := hide (PL_2.out.alloc (.cells #[.int .i64 u] 3))
        have HO_3 := hide (HO_2.out.alloc (.cells #[.int .i64 u] 3))
        have NX_3 := NX_2
        obtain ⟨y1, hy1⟩ : ∃ y, w2.heap.size = y := ⟨_, rfl⟩
        have HU1_3 := hide (slk_one w2 u 3)
        rw [hy1] at HU1_3 ⊢
        have NY_3 := hide (show ∀ k, (Value.slice (some ⟨w0.heap.size, 0, none⟩) 0 0).ownBlock = some k → k < y1 ∨ y1 + 1 ≤ k from fun k hk => by have := (HO_2.out.lt k hk).2; omega)
        have z3 : w2.heap.size + 1 ≤ ((w2.alloc (.cells #[.int .i64 u] 3))).heap.size := by simp
        have y1a : y1 < ((w2.alloc (.cells #[.int .i64 u] 3))).heap.size := by simp; omega
        obtain ⟨w3, hw3⟩ : ∃ y, (w2.alloc (.cells #[.int .i64 u] 3)) = y := ⟨_, rfl⟩
        rw [hw3] at z3 y1a HB_3 PR_3 PT_3 PL_3 HO_3 HU1_3 ⊢
        clear HB_2 PR_2 PT_2 PL_2 HO_2 NX_2
        clear hw3
        clear hy1
        have kR := PR_3.out.cell
        have kT := PT_3.out.cell
        refine hK.out _ _ ?hS1 (fun hHeld => ?_)
        case hS1 => (try dsimp only); (go_keep)
        clear hK K kR kT
        try simp only [Act.put, List.getElem_toArray, List.getElem_cons_succ, List.getElem_cons_zero, List.setIfInBounds_toArray, List.set_cons_zero, List.set_cons_succ]
        refine wpAnyH_ready (rs := [4]) (by kernel_rfl) (by simp) ?_
        refine AllReadyH.cons rfl (fun K hK => ?_) ?_
        · skip
          refine step_app rfl (.tmp 14) (.tmp 15) rfl (by simp [Act.eval, Act.put]) (by simp [Act.eval, Act.put]) (appL HO_3.out (by omega) (HS.out.below HB_3.out hB2) (by simp; omega)) ?_
          intro v1 w4 ho hg hat
          have z4 : w3.heap.size ≤ w4.heap.size := hg.size
          have HO_4 := hide ho
          have HB_4 := hide (below_app0 HB_3.out (HO_3.out.base_le (base' := w.heap.size) (by omega)) (by omega) hg)
          have PR_4 := hide (PR_3.out.grown hg (fun e => by have := (HO_3.out.lt _ e.symm).1; omega))
          have PT_4 := hide (PT_3.out.grown hg (fun e => by have := (HO_3.out.lt _ e.symm).1; omega))
          have PL_4 := hide (PL_3.out.grown hg (fun e => NX_3.out _ e.symm rfl))
          have HU1_4 := hide (HU1_3.out.grown hg (by omega) NY_3.out)
          have NX_4 := hide (show ∀ k, v1.ownBlock = some k → k ≠ X1 from fun k hk => by rcases hat with h | h; exact NX_3.out k (h ▸ hk); (rw [hk] at h; injection h with h; have := yX; omega))
          have NY_4 := hide (show ∀ k, v1.ownBlock = some k → k < y1 ∨ y1 + 1 ≤ k from fun k hk => by rcases hat with h | h; exact NY_3.out k (h ▸ hk); (rw [hk] at h; injection h with h; omega))
          clear HB_3 PR_3 PT_3 PL_3 HO_3 HU1_3 NX_3 NY_3
          clear ho hg hat
          have kR := PR_4.out.cell
          have kT := PT_4.out.cell
          refine hK.out _ _ ?hS1 (fun hHeld => ?_)
          case hS1 => (try dsimp only); (go_keep)
          clear hK K kR kT
          try simp only [Act.put, List.getElem_toArray, List.getElem_cons_succ, List.getElem_cons_zero, List.setIfInBounds_toArray, List.set_cons_zero, List.set_cons_succ]
          refine wpAnyH_ready (rs := [7]) (by kernel_rfl) (by simp) ?_
          refine AllReadyH.cons rfl (fun K hK => ?_) ?_
          · skip
            refine step_app rfl (.tmp 16) (.tmp 18) rfl (by simp [Act.eval, Act.put]) (by simp [Act.eval, Act.put]) (appL HO_4.out (by omega) HU1_4.out (by simp [HLU.out]; omega)) ?_
            intro v2 w5 ho hg hat
            have z5 : w4.heap.size ≤ w5.heap.size := hg.size
            have HO_5 := hide ho
            have HB_5 := hide (below_app0 HB_4.out (HO_4.out.base_le (base' := w.heap.size) (by omega)) (by omega) hg)
            have PR_5 := hide (PR_4.out.grown hg (fun e => by have := (HO_4.out.lt _ e.symm).1; omega))
            have PT_5 := hide (PT_4.out.grown hg (fun e => by have := (HO_4.out.lt _ e.symm).1; omega))
            have PL_5 := hide (PL_4.out.grown hg (fun e => NX_4.out _ e.symm rfl))
            have NX_5 := hide (show ∀ k, v2.ownBlock = some k → k ≠ X1 from fun k hk => by rcases hat with h | h; exact NX_4.out k (h ▸ hk); (rw [hk] at h; injection h with h; have := yX; omega))
            clear HB_4 PR_4 PT_4 PL_4 HO_4 HU1_4 NX_4 NY_4
            clear ho hg hat
            have kR := PR_5.out.cell
            have kT := PT_5.out.cell
            refine hK.out _ _ ?hS1 (fun hHeld => ?_)
            case hS1 => (try dsimp only); (go_keep)
            clear hK K kR kT
            try simp only [Act.put, List.getElem_toArray, List.getElem_cons_succ, List.getElem_cons_zero, List.setIfInBounds_toArray, List.set_cons_zero, List.set_cons_succ]
            refine wpAnyH_ready (rs := [8]) (by kernel_rfl) (by simp) ?_
            refine AllReadyH.cons rfl (fun K hK => ?_) ?_
            · skip
              obtain ⟨A9, c9, rfl, hs9⟩ := Own.slk' encInt_len (n := n + 1) (by simp [HLU.out]) HO_5.out
              have hs9 : SlK 1 encInt w5 (w.heap.size + 1 + 1) w5.heap.size A9 (n + 1) c9 us' := by rw [← HUS.out]; simpa using hs9
              go_simp
              go_at_call 81
              (with_reducible refine (HI.out _ _ A9 (n + 1) c9 us' _ (HR.out.below HB_5.out hB) (by omega) (HU.out.below HB_5.out hB1) (by omega) hs9 (by omega) (by omega)).mono ?_)
              rw [HV.out, HG.out]
              rintro e w6 ⟨rfl, hb⟩
              have z6 := hb.size
              have HB_6 := hide (HB_5.out.trans (hb.mono (by omega)))
              have PR_6 := hide (PR_5.out.belowH hb)
              have PT_6 := hide (PT_5.out.belowH hb)
              have PL_6 := hide (PL_5.out.belowH hb)
              clear hs9
              clear HB_5 PR_5 PT_5 PL_5 HO_5 NX_5
              clear hb
              go_wp2_with fail
              have kR := PR_6.out.cell
              have kT := PT_6.out.cell
              refine hK.out _ _ ?hS1 (fun hHeld => ?_)
              case hS1 => (try dsimp only); (go_keep)
              clear hK K kR kT
              try simp only [Act.put, List.getElem_toArray, List.getElem_cons_succ, List.getElem_cons_zero, List.setIfInBounds_toArray, List.set_cons_zero, List.set_cons_succ]
              refine wpAnyH_ready (rs := [10]) (by kernel_rfl) (by simp) ?_
              refine AllReadyH.cons rfl (fun K hK => ?_) ?_
              · skip
                have kL := PL_6.out.cell
                have yL := PL_6.out.lt
                have fL := PL_6.out.frozen
                go_simp
                have hX2 := HX2.out
                have PL_7 := hide ((PL_6.out.set_ 0 (.int .i64 V)).set_ 1 (.int .i64 G))
                simp only [List.setIfInBounds_toArray, List.set_cons_zero, List.set_cons_succ] at PL_7
                have PR_7 := hide ((PR_6.out.far (p := ⟨X1, 0, none⟩) (by simp; omega) (.int .i64 V)).far (p := ⟨X1, 1, none⟩) (by simp; omega) (.int .i64 G))
                have PT_7 := hide ((PT_6.out.far (p := ⟨X1, 0, none⟩) (by simp; omega) (.int .i64 V)).far (p := ⟨X1, 1, none⟩) (by simp; omega) (.int .i64 G))
                have HB_7 := hide (show Below w.heap.size w ((w6.setCell ⟨X1, 0, none⟩ (.int .i64 V)).setCell ⟨X1, 1, none⟩ (.int .i64 G)) from (HB_6.out.setCell (by simp; omega) _).setCell (by simp; omega) _)
                obtain ⟨w7, hw⟩ : ∃ y, ((w6.setCell ⟨X1, 0, none⟩ (.int .i64 V)).setCell ⟨X1, 1, none⟩ (.int .i64 G)) = y := ⟨_, rfl⟩
                rw [hw] at HB_7 PR_7 PT_7 PL_7 ⊢
                clear hw kL yL fL
                clear HB_6 PR_6 PT_6 PL_6
                have kR := PR_7.out.cell
                have kT := PT_7.out.cell
                refine hK.out _ _ ?hS1 (fun hHeld => ?_)
                case hS1 => (try dsimp only); (go_keep)
                clear hK K kR kT
                try simp only [Act.put, List.getElem_toArray, List.getElem_cons_succ, List.getElem_cons_zero, List.setIfInBounds_toArray, List.set_cons_zero, List.set_cons_succ]
                refine wpAnyH_done (by kernel_rfl) ?_ _
                first | with_reducible exact HFIN.out _ _ _ _ _ _ _ _ _ _ _ _ X1 w7 HX2.out HB_7.out PR_7.out PT_7.out PL_7.out | (show KF _ _; exact HFIN.out _ _ _ _ _ _ _ _ _ _ _ _ X1 w7 HX2.out HB_7.out PR_7.out PT_7.out PL_7.out)
              exact AllReadyH.nil
            exact AllReadyH.nil
          exact AllReadyH.nil
        exact AllReadyH.nil
      exact AllReadyH.nil
    exact AllReadyH.nil
  refine AllReadyH.cons rfl (fun K hK => ?_) ?_
  · skip
    go_simp
    have HB_1 := hide (show Below w.heap.size w (w0.alloc (.cells #[.int .i64 u] 3)) from HB_0.out.alloc (by omega) _)
    have PR_1 := hide (PR_0.out.alloc (.cells #[.int .i64 u] 3))
    have PT_1 := hide (PT_0.out.alloc (.cells #[.int .i64 u] 3))
    obtain ⟨y1, hy1⟩ : ∃ y, w0.heap.size = y := ⟨_, rfl⟩
    have HU1_1 := hide (slk_one w0 u 3)
    rw [hy1] at HU1_1 ⊢
    have z1 : w0.heap.size + 1 ≤ ((w0.alloc (.cells #[.int .i64 u] 3))).heap.size := by simp
    have y1a : y1 < ((w0.alloc (.cells #[.int .i64 u] 3))).heap.size := by simp; omega
    obtain ⟨w1, hw1⟩ : ∃ y, (w0.alloc (.cells #[.int .i64 u] 3)) = y := ⟨_, rfl⟩
    rw [hw1] at z1 y1a HB_1 PR_1 PT_1 HU1_1 ⊢
    clear HB_0 PR_0 PT_0
    clear hw1
    clear hy1
    have kR := PR_1.out.cell
    have kT := PT_1.out.cell
    refine hK.out _ _ ?hS1 (fun hHeld => ?_)
    case hS1 => (try dsimp only); (go_keep)
    clear hK K kR kT
    try simp only [Act.put, List.getElem_toArray, List.getElem_cons_succ, List.getElem_cons_zero, List.setIfInBounds_toArray, List.set_cons_zero, List.set_cons_succ]
    refine wpAnyH_ready (rs := [2, 9]) (by kernel_rfl) (by simp) ?_
    refine AllReadyH.cons rfl (fun K hK => ?_) ?_
    · skip
      go_simp
      have HB_2 := hide (show Below w.heap.size w (w1.alloc (.cells #[] 3)) from HB_1.out.alloc (by omega) _)
      have PR_2 := hide (PR_1.out.alloc (.cells #[] 3))
      have PT_2 := hide (PT_1.out.alloc (.cells #[] 3))
      have HU1_2 := hide (HU1_1.out.alloc (by omega) (.cells #[] 3))
      have HO_2 := hide ((own_none (k := 1) (enc := encInt) w1 3).base_le (base' := w.heap.size + 1 + 1) (by omega))
      have ho2 := (own_none (k := 1) (enc := encInt) w1 3).lt
      have NY_2 := hide (show ∀ k, (Value.slice (some ⟨w1.heap.size, 0, none⟩) 0 0).ownBlock = some k → k < y1 ∨ y1 + 1 ≤ k from fun k hk => by have := (ho2 k hk).1; omega)
      clear ho2
      have z2 : w1.heap.size + 1 ≤ ((w1.alloc (.cells #[] 3))).heap.size := by simp
      obtain ⟨w2, hw2⟩ : ∃ y, (w1.alloc (.cells #[] 3)) = y := ⟨_, rfl⟩
      rw [hw2] at z2 HB_2 PR_2 PT_2 HO_2 HU1_2 ⊢
      clear HB_1 PR_1 PT_1 HU1_1
      clear hw2
      have kR := PR_2.out.cell
      have kT := PT_2.out.cell
      refine hK.out _ _ ?hS1 (fun hHeld => ?_)
      case hS1 => (try dsimp only); (go_keep)
      clear hK K kR kT
      try simp only [Act.put, List.getElem_toArray, List.getElem_cons_succ, List.getElem_cons_zero, List.setIfInBounds_toArray, List.set_cons_zero, List.set_cons_succ]
      refine wpAnyH_ready (rs := [4, 9]) (by kernel_rfl) (by simp) ?_
      refine AllReadyH.cons rfl (fun K hK => ?_) ?_
      · skip
        refine step_app rfl (.tmp 14) (.tmp 15) rfl (by simp [Act.eval, Act.put]) (by simp [Act.eval, Act.put]) (appL HO_2.out (by omega) (HS.out.below HB_2.out hB2) (by simp; omega)) ?_
        intro v1 w3 ho hg hat
        have z3 : w2.heap.size ≤ w3.heap.size := hg.size
        have HO_3 := hide ho
        have HB_3 := hide (below_app0 HB_2.out (HO_2.out.base_le (base' := w.heap.size) (by omega)) (by omega) hg)
        have PR_3 := hide (PR_2.out.grown hg (fun e => by have := (HO_2.out.lt _ e.symm).1; omega))
        have PT_3 := hide (PT_2.out.grown hg (fun e => by have := (HO_2.out.lt _ e.symm).1; omega))
        have HU1_3 := hide (HU1_2.out.grown hg (by omega) NY_2.out)
        have NY_3 := hide (show ∀ k, v1.ownBlock = some k → k < y1 ∨ y1 + 1 ≤ k from fun k hk => by rcases hat with h | h; exact NY_2.out k (h ▸ hk); (rw [hk] at h; injection h with h; omega))
        clear HB_2 PR_2 PT_2 HO_2 HU1_2 NY_2
        clear ho hg hat
        have kR := PR_3.out.cell
        have kT := PT_3.out.cell
        refine hK.out _ _ ?hS1 (fun hHeld => ?_)
        case hS1 => (try dsimp only); (go_keep)
        clear hK K kR kT
        try simp only [Act.put, List.getElem_toArray, List.getElem_cons_succ, List.getElem_cons_zero, List.setIfInBounds_toArray, List.set_cons_zero, List.set_cons_succ]
        refine wpAnyH_ready (rs := [7, 9]) (by kernel_rfl) (by simp) ?_
        refine AllReadyH.cons rfl (fun K hK => ?_) ?_
        · skip
          refine step_app rfl (.tmp 16) (.tmp 18) rfl (by simp [Act.eval, Act.put]) (by simp [Act.eval, Act.put]) (appL HO_3.out (by omega) HU1_3.out (by simp [HLU.out]; omega)) ?_
          intro v2 w4 ho hg hat
          have z4 : w3.heap.size ≤ w4.heap.size := hg.size
          have HO_4 := hide ho
          have HB_4 := hide (below_app0 HB_3.out (HO_3.out.base_le (base' := w.heap.size) (by omega)) (by omega) hg)
          have PR_4 := hide (PR_3.out.grown hg (fun e => by have := (HO_3.out.lt _ e.symm).1; omega))
          have PT_4 := hide (PT_3.out.grown hg (fun e => by have := (HO_3.out.lt _ e.symm).1; omega))
          clear HB_3 PR_3 PT_3 HO_3 HU1_3 NY_3
          clear ho hg hat
          have kR := PR_4.out.cell
          have kT := PT_4.out.cell
          refine hK.out _ _ ?hS1 (fun hHeld => ?_)
          case hS1 => (try dsimp only); (go_keep)
          clear hK K kR kT
          try simp only [Act.put, List.getElem_toArray, List.getElem_cons_succ, List.getElem_cons_zero, List.setIfInBounds_toArray, List.set_cons_zero, List.set_cons_succ]
          refine wpAnyH_ready (rs := [8, 9]) (by kernel_rfl) (by simp) ?_
          refine AllReadyH.cons rfl (fun K hK => ?_) ?_
          · skip
            obtain ⟨A9, c9, rfl, hs9⟩ := Own.slk' encInt_len (n := n + 1) (by simp [HLU.out]) HO_4.out
            have hs9 : SlK 1 encInt w4 (w.heap.size + 1 + 1) w4.heap.size A9 (n + 1) c9 us' := by rw [← HUS.out]; simpa using hs9
            go_simp
            go_at_call 81
            (with_reducible refine (HI.out _ _ A9 (n + 1) c9 us' _ (HR.out.below HB_4.out hB) (by omega) (HU.out.below HB_4.out hB1) (by omega) hs9 (by omega) (by omega)).mono ?_)
            rw [HV.out, HG.out]
            rintro e w5 ⟨rfl, hb⟩
            have z5 := hb.size
            have HB_5 := hide (HB_4.out.trans (hb.mono (by omega)))
            have PR_5 := hide (PR_4.out.belowH hb)
            have PT_5 := hide (PT_4.out.belowH hb)
            clear hs9
            clear HB_4 PR_4 PT_4 HO_4
            clear hb
            go_wp2_with fail
            have kR := PR_5.out.cell
            have kT := PT_5.out.cell
            refine hK.out _ _ ?hS1 (fun hHeld => ?_)
            case hS1 => (try dsimp only); (go_keep)
            clear hK K kR kT
            try simp only [Act.put, List.getElem_toArray, List.getElem_cons_succ, List.getElem_cons_zero, List.setIfInBounds_toArray, List.set_cons_zero, List.set_cons_succ]
            refine wpAnyH_ready (rs := [9]) (by kernel_rfl) (by simp) ?_
            refine AllReadyH.cons rfl (fun K hK => ?_) ?_
            · skip
              go_simp
              have HB_6 := hide (show Below w.heap.size w (w5.alloc (.cells #[.int .i64 0, .int .i64 0] 101)) from HB_5.out.alloc (by omega) _)
              have PR_6 := hide (PR_5.out.alloc (.cells #[.int .i64 0, .int .i64 0] 101))
              have PT_6 := hide (PT_5.out.alloc (.cells #[.int .i64 0, .int .i64 0] 101))
              obtain ⟨X1, hX1⟩ : ∃ y, w5.heap.size = y := ⟨_, rfl⟩
              have PL_6 := hide (Blk.new w5 101 #[.int .i64 0, .int .i64 0] (g := X1) hX1.symm)
              have HX2 := hide (show w.heap.size + 1 < X1 by omega)
              have yX : X1 < ((w5.alloc (.cells #[.int .i64 0, .int .i64 0] 101))).heap.size := by simp; omega
              rw [hX1]
              have z6 : w5.heap.size + 1 ≤ ((w5.alloc (.cells #[.int .i64 0, .int .i64 0] 101))).heap.size := by simp
              obtain ⟨w6, hw6⟩ : ∃ y, (w5.alloc (.cells #[.int .i64 0, .int .i64 0] 101)) = y := ⟨_, rfl⟩
              rw [hw6] at z6 yX HB_6 PR_6 PT_6 PL_6 ⊢
              clear HB_5 PR_5 PT_5
              clear hw6
              clear hX1
              have kR := PR_6.out.cell
              have kT := PT_6.out.cell
              refine hK.out _ _ ?hS1 (fun hHeld => ?_)
              case hS1 => (try dsimp only); (go_keep)
              clear hK K kR kT
              try simp only [Act.put, List.getElem_toArray, List.getElem_cons_succ, List.getElem_cons_zero, List.setIfInBounds_toArray, List.set_cons_zero, List.set_cons_succ]
              refine wpAnyH_ready (rs := [10]) (by kernel_rfl) (by simp) ?_
              refine AllReadyH.cons rfl (fun K hK => ?_) ?_
              · skip
                have kL := PL_6.out.cell
                have yL := PL_6.out.lt
                have fL := PL_6.out.frozen
                go_simp
                have hX2 := HX2.out
                have PL_7 := hide ((PL_6.out.set_ 0 (.int .i64 V)).set_ 1 (.int .i64 G))
                simp only [List.setIfInBounds_toArray, List.set_cons_zero, List.set_cons_succ] at PL_7
                have PR_7 := hide ((PR_6.out.far (p := ⟨X1, 0, none⟩) (by simp; omega) (.int .i64 V)).far (p := ⟨X1, 1, none⟩) (by simp; omega) (.int .i64 G))
                have PT_7 := hide ((PT_6.out.far (p := ⟨X1, 0, none⟩) (by simp; omega) (.int .i64 V)).far (p := ⟨X1, 1, none⟩) (by simp; omega) (.int .i64 G))
                have HB_7 := hide (show Below w.heap.size w ((w6.setCell ⟨X1, 0, none⟩ (.int .i64 V)).setCell ⟨X1, 1, none⟩ (.int .i64 G)) from (HB_6.out.setCell (by simp; omega) _).setCell (by simp; omega) _)
                obtain ⟨w7, hw⟩ : ∃ y, ((w6.setCell ⟨X1, 0, none⟩ (.int .i64 V)).setCell ⟨X1, 1, none⟩ (.int .i64 G)) = y := ⟨_, rfl⟩
                rw [hw] at HB_7 PR_7 PT_7 PL_7 ⊢
                clear hw kL yL fL
                clear HB_6 PR_6 PT_6 PL_6
                have kR := PR_7.out.cell
                have kT := PT_7.out.cell
                refine hK.out _ _ ?hS1 (fun hHeld => ?_)
                case hS1 => (try dsimp only); (go_keep)
                clear hK K kR kT
                try simp only [Act.put, List.getElem_toArray, List.getElem_cons_succ, List.getElem_cons_zero, List.setIfInBounds_toArray, List.set_cons_zero, List.set_cons_succ]
                refine wpAnyH_done (by kernel_rfl) ?_ _
                first | with_reducible exact HFIN.out _ _ _ _ _ _ _ _ _ _ _ _ X1 w7 HX2.out HB_7.out PR_7.out PT_7.out PL_7.out | (show KF _ _; exact HFIN.out _ _ _ _ _ _ _ _ _ _ _ _ X1 w7 HX2.out HB_7.out PR_7.out PT_7.out PL_7.out)
              exact AllReadyH.nil
            exact AllReadyH.nil
          refine AllReadyH.cons rfl (fun K hK => ?_) ?_
          · skip
            go_simp
            have HB_5 := hide (show Below w.heap.size w (w4.alloc (.cells #[.int .i64 0, .int .i64 0] 101)) from HB_4.out.alloc (by omega) _)
            have PR_5 := hide (PR_4.out.alloc (.cells #[.int .i64 0, .int .i64 0] 101))
            have PT_5 := hide (PT_4.out.alloc (.cells #[.int .i64 0, .int .i64 0] 101))
            have HO_5 := hide (HO_4.out.alloc (.cells #[.int .i64 0, .int .i64 0] 101))
            obtain ⟨X1, hX1⟩ : ∃ y, w4.heap.size = y := ⟨_, rfl⟩
            have PL_5 := hide (Blk.new w4 101 #[.int .i64 0, .int .i64 0] (g := X1) hX1.symm)
            have HX2 := hide (show w.heap.size + 1 < X1 by omega)
            have yX : X1 < ((w4.alloc (.cells #[.int .i64 0, .int .i64 0] 101))).heap.size := by simp; omega
            rw [hX1]
            have NX_5 := hide (show ∀ k, v2.ownBlock = some k → k ≠ X1 from fun k hk => by have := (HO_4.out.lt k hk).2; omega)
            have z5 : w4.heap.size + 1 ≤ ((w4.alloc (.cells #[.int .i64 0, .int .i64 0] 101))).heap.size := by simp
            obtain ⟨w5, hw5⟩ : ∃ y, (w4.alloc (.cells #[.int .i64 0, .int .i64 0] 101)) = y := ⟨_, rfl⟩
            rw [hw5] at z5 yX HB_5 PR_5 PT_5 PL_5 HO_5 ⊢
            clear HB_4 PR_4 PT_4 HO_4
            clear hw5
            clear hX1
            have kR := PR_5.out.cell
            have kT := PT_5.out.cell
            refine hK.out _ _ ?hS1 (fun hHeld => ?_)
            case hS1 => (try dsimp only); (go_keep)
            clear hK K kR kT
            try simp only [Act.put, List.getElem_toArray, List.getElem_cons_succ, List.getElem_cons_zero, List.setIfInBounds_toArray, List.set_cons_zero, List.set_cons_succ]
            refine wpAnyH_ready (rs := [8]) (by kernel_rfl) (by simp) ?_
            refine AllReadyH.cons rfl (fun K hK => ?_) ?_
            · skip
              obtain ⟨A9, c9, rfl, hs9⟩ := Own.slk' encInt_len (n := n + 1) (by simp [HLU.out]) HO_5.out
              have hs9 : SlK 1 encInt w5 (w.heap.size + 1 + 1) w5.heap.size A9 (n + 1) c9 us' := by rw [← HUS.out]; simpa using hs9
              go_simp
              go_at_call 81
              (with_reducible refine (HI.out _ _ A9 (n + 1) c9 us' _ (HR.out.below HB_5.out hB) (by omega) (HU.out.below HB_5.out hB1) (by omega) hs9 (by omega) (by omega)).mono ?_)
              rw [HV.out, HG.out]
              rintro e w6 ⟨rfl, hb⟩
              have z6 := hb.size
              have HB_6 := hide (HB_5.out.trans (hb.mono (by omega)))
              have PR_6 := hide (PR_5.out.belowH hb)
              have PT_6 := hide (PT_5.out.belowH hb)
              have PL_6 := hide (PL_5.out.belowH hb)
              clear hs9
              clear HB_5 PR_5 PT_5 PL_5 HO_5 NX_5
              clear hb
              go_wp2_with fail
              have kR := PR_6.out.cell
              have kT := PT_6.out.cell
              refine hK.out _ _ ?hS1 (fun hHeld => ?_)
              case hS1 => (try dsimp only); (go_keep)
              clear hK K kR kT
              try simp only [Act.put, List.getElem_toArray, List.getElem_cons_succ, List.getElem_cons_zero, List.setIfInBounds_toArray, List.set_cons_zero, List.set_cons_succ]
              refine wpAnyH_ready (rs := [10]) (by kernel_rfl) (by simp) ?_
              refine AllReadyH.cons rfl (fun K hK => ?_) ?_
              · skip
                have kL := PL_6.out.cell
                have yL := PL_6.out.lt
                have fL := PL_6.out.frozen
                go_simp
                have hX2 := HX2.out
                have PL_7 := hide ((PL_6.out.set_ 0 (.int .i64 V)).set_ 1 (.int .i64 G))
                simp only [List.setIfInBounds_toArray, List.set_cons_zero, List.set_cons_succ] at PL_7
                have PR_7 := hide ((PR_6.out.far (p := ⟨X1, 0, none⟩) (by simp; omega) (.int .i64 V)).far (p := ⟨X1, 1, none⟩) (by simp; omega) (.int .i64 G))
                have PT_7 := hide ((PT_6.out.far (p := ⟨X1, 0, none⟩) (by simp; omega) (.int .i64 V)).far (p := ⟨X1, 1, none⟩) (by simp; omega) (.int .i64 G))
                have HB_7 := hide (show Below w.heap.size w ((w6.setCell ⟨X1, 0, none⟩ (.int .i64 V)).setCell ⟨X1, 1, none⟩ (.int .i64 G)) from (HB_6.out.setCell (by simp; omega) _).setCell (by simp; omega) _)
                obtain ⟨w7, hw⟩ : ∃ y, ((w6.setCell ⟨X1, 0, none⟩ (.int .i64 V)).setCell ⟨X1, 1, none⟩ (.int .i64 G)) = y := ⟨_, rfl⟩
                rw [hw] at HB_7 PR_7 PT_7 PL_7 ⊢
                clear hw kL yL fL
                clear HB_6 PR_6 PT_6 PL_6
                have kR := PR_7.out.cell
                have kT := PT_7.out.cell
                refine hK.out _ _ ?hS1 (fun hHeld => ?_)
                case hS1 => (try dsimp only); (go_keep)
                clear hK K kR kT
                try simp only [Act.put, List.getElem_toArray, List.getElem_cons_succ, List.getElem_cons_zero, List.setIfInBounds_toArray, List.set_cons_zero, List.set_cons_succ]
                refine wpAnyH_done (by kernel_rfl) ?_ _
                first | with_reducible exact HFIN.out _ _ _ _ _ _ _ _ _ _ _ _ X1 w7 HX2.out HB_7.out PR_7.out PT_7.out PL_7.out | (show KF _ _; exact HFIN.out _ _ _ _ _ _ _ _ _ _ _ _ X1 w7 HX2.out HB_7.out PR_7.out PT_7.out PL_7.out)
              exact AllReadyH.nil
            exact AllReadyH.nil
          exact AllReadyH.nil
        refine AllReadyH.cons rfl (fun K hK => ?_) ?_
        · skip
          go_simp
          have HB_4 := hide (show Below w.heap.size w (w3.alloc (.cells #[.int .i64 0, .int .i64 0] 101)) from HB_3.out.alloc (by omega) _)
          have PR_4 := hide (PR_3.out.alloc (.cells #[.int .i64 0, .int .i64 0] 101))
          have PT_4 := hide (PT_3.out.alloc (.cells #[.int .i64 0, .int .i64 0] 101))
          have HO_4 := hide (HO_3.out.alloc (.cells #[.int .i64 0, .int .i64 0] 101))
          have HU1_4 := hide (HU1_3.out.alloc (by omega) (.cells #[.int .i64 0, .int .i64 0] 101))
          have NY_4 := NY_3
          obtain ⟨X1, hX1⟩ : ∃ y, w3.heap.size = y := ⟨_, rfl⟩
          have PL_4 := hide (Blk.new w3 101 #[.int .i64 0, .int .i64 0] (g := X1) hX1.symm)
          have HX2 := hide (show w.heap.size + 1 < X1 by omega)
          have yX : X1 < ((w3.alloc (.cells #[.int .i64 0, .int .i64 0] 101))).heap.size := by simp; omega
          rw [hX1]
          have NX_4 := hide (show ∀ k, v1.ownBlock = some k → k ≠ X1 from fun k hk => by have := (HO_3.out.lt k hk).2; omega)
          have z4 : w3.heap.size + 1 ≤ ((w3.alloc (.cells #[.int .i64 0, .int .i64 0] 101))).heap.size := by simp
          obtain ⟨w4, hw4⟩ : ∃ y, (w3.alloc (.cells #[.int .i64 0, .int .i64 0] 101)) = y := ⟨_, rfl⟩
          rw [hw4] at z4 yX HB_4 PR_4 PT_4 PL_4 HO_4 HU1_4 ⊢
          clear HB_3 PR_3 PT_3 HO_3 HU1_3 NY_3
          clear hw4
          clear hX1
          have kR := PR_4.out.cell
          have kT := PT_4.out.cell
          refine hK.out _ _ ?hS1 (fun hHeld => ?_)
          case hS1 => (try dsimp only); (go_keep)
          clear hK K kR kT
          try simp only [Act.put, List.getElem_toArray, List.getElem_cons_succ, List.getElem_cons_zero, List.setIfInBounds_toArray, List.set_cons_zero, List.set_cons_succ]
          refine wpAnyH_ready (rs := [7]) (by kernel_rfl) (by simp) ?_
          refine AllReadyH.cons rfl (fun K hK => ?_) ?_
          · skip
            refine step_app rfl (.tmp 16) (.tmp 18) rfl (by simp [Act.eval, Act.put]) (by simp [Act.eval, Act.put]) (appL HO_4.out (by omega) HU1_4.out (by simp [HLU.out]; omega)) ?_
            intro v2 w5 ho hg hat
            have z5 : w4.heap.size ≤ w5.heap.size := hg.size
            have HO_5 := hide ho
            have HB_5 := hide (below_app0 HB_4.out (HO_4.out.base_le (base' := w.heap.size) (by omega)) (by omega) hg)
            have PR_5 := hide (PR_4.out.grown hg (fun e => by have := (HO_4.out.lt _ e.symm).1; omega))
            have PT_5 := hide (PT_4.out.grown hg (fun e => by have := (HO_4.out.lt _ e.symm).1; omega))
            have PL_5 := hide (PL_4.out.grown hg (fun e => NX_4.out _ e.symm rfl))
            have NX_5 := hide (show ∀ k, v2.ownBlock = some k → k ≠ X1 from fun k hk => by rcases hat with h | h; exact NX_4.out k (h ▸ hk); (rw [hk] at h; injection h with h; have := yX; omega))
            clear HB_4 PR_4 PT_4 PL_4 HO_4 HU1_4 NY_4 NX_4
            clear ho hg hat
            have kR := PR_5.out.cell
            have kT := PT_5.out.cell
            refine hK.out _ _ ?hS1 (fun hHeld => ?_)
            case hS1 => (try dsimp only); (go_keep)
            clear hK K kR kT
            try simp only [Act.put, List.getElem_toArray, List.getElem_cons_succ, List.getElem_cons_zero, List.setIfInBounds_toArray, List.set_cons_zero, List.set_cons_succ]
            refine wpAnyH_ready (rs := [8]) (by kernel_rfl) (by simp) ?_
            refine AllReadyH.cons rfl (fun K hK => ?_) ?_
            · skip
              obtain ⟨A9, c9, rfl, hs9⟩ := Own.slk' encInt_len (n := n + 1) (by simp [HLU.out]) HO_5.out
              have hs9 : SlK 1 encInt w5 (w.heap.size + 1 + 1) w5.heap.size A9 (n + 1) c9 us' := by rw [← HUS.out]; simpa using hs9
              go_simp
              go_at_call 81
              (with_reducible refine (HI.out _ _ A9 (n + 1) c9 us' _ (HR.out.below HB_5.out hB) (by omega) (HU.out.below HB_5.out hB1) (by omega) hs9 (by omega) (by omega)).mono ?_)
              rw [HV.out, HG.out]
              rintro e w6 ⟨rfl, hb⟩
              have z6 := hb.size
              have HB_6 := hide (HB_5.out.trans (hb.mono (by omega)))
              have PR_6 := hide (PR_5.out.belowH hb)
              have PT_6 := hide (PT_5.out.belowH hb)
              have PL_6 := hide (PL_5.out.belowH hb)
              clear hs9
              clear HB_5 PR_5 PT_5 PL_5 HO_5 NX_5
              clear hb
              go_wp2_with fail
              have kR := PR_6.out.cell
              have kT := PT_6.out.cell
              refine hK.out _ _ ?hS1 (fun hHeld => ?_)
              case hS1 => (try dsimp only); (go_keep)
              clear hK K kR kT
              try simp only [Act.put, List.getElem_toArray, List.getElem_cons_succ, List.getElem_cons_zero, List.setIfInBounds_toArray, List.set_cons_zero, List.set_cons_succ]
              refine wpAnyH_ready (rs := [10]) (by kernel_rfl) (by simp) ?_
              refine AllReadyH.cons rfl (fun K hK => ?_) ?_
              · skip
                have kL := PL_6.out.cell
                have yL := PL_6.out.lt
                have fL := PL_6.out.frozen
                go_simp
                have hX2 := HX2.out
                have PL_7 := hide ((PL_6.out.set_ 0 (.int .i64 V)).set_ 1 (.int .i64 G))
                simp only [List.setIfInBounds_toArray, List.set_cons_zero, List.set_cons_succ] at PL_7
                have PR_7 := hide ((PR_6.out.far (p := ⟨X1, 0, none⟩) (by simp; omega) (.int .i64 V)).far (p := ⟨X1, 1, none⟩) (by simp; omega) (.int .i64 G))
                have PT_7 := hide ((PT_6.out.far (p := ⟨X1, 0, none⟩) (by simp; omega) (.int .i64 V)).far (p := ⟨X1, 1, none⟩) (by simp; omega) (.int .i64 G))
                have HB_7 := hide (show Below w.heap.size w ((w6.setCell ⟨X1, 0, none⟩ (.int .i64 V)).setCell ⟨X1, 1, none⟩ (.int .i64 G)) from (HB_6.out.setCell (by simp; omega) _).setCell (by simp; omega) _)
                obtain ⟨w7, hw⟩ : ∃ y, ((w6.setCell ⟨X1, 0, none⟩ (.int .i64 V)).setCell ⟨X1, 1, none⟩ (.int .i64 G)) = y := ⟨_, rfl⟩
                rw [hw] at HB_7 PR_7 PT_7 PL_7 ⊢
                clear hw kL yL fL
                clear HB_6 PR_6 PT_6 PL_6
                have kR := PR_7.out.cell
                have kT := PT_7.out.cell
                refine hK.out _ _ ?hS1 (fun hHeld => ?_)
                case hS1 => (try dsimp only); (go_keep)
                clear hK K kR kT
                try simp only [Act.put, List.getElem_toArray, List.getElem_cons_succ, List.getElem_cons_zero, List.setIfInBounds_toArray, List.set_cons_zero, List.set_cons_succ]
                refine wpAnyH_done (by kernel_rfl) ?_ _
                first | with_reducible exact HFIN.out _ _ _ _ _ _ _ _ _ _ _ _ X1 w7 HX2.out HB_7.out PR_7.out PT_7.out PL_7.out | (show KF _ _; exact HFIN.out _ _ _ _ _ _ _ _ _ _ _ _ X1 w7 HX2.out HB_7.out PR_7.out PT_7.out PL_7.out)
              exact AllReadyH.nil
            exact AllReadyH.nil
          exact AllReadyH.nil
        exact AllReadyH.nil
      refine AllReadyH.cons rfl (fun K hK => ?_) ?_
      · skip
        go_simp
        have HB_3 := hide (show Below w.heap.size w (w2.alloc (.cells #[.int .i64 0, .int .i64 0] 101)) from HB_2.out.alloc (by omega) _)
        have PR_3 := hide (PR_2.out.alloc (.cells #[.int .i64 0, .int .i64 0] 101))
        have PT_3 := hide (PT_2.out.alloc (.cells #[.int .i64 0, .int .i64 0] 101))
        have HO_3 := hide (HO_2.out.alloc (.cells #[.int .i64 0, .int .i64 0] 101))
        have HU1_3 := hide (HU1_2.out.alloc (by omega) (.cells #[.int .i64 0, .int .i64 0] 101))
        have NY_3 := NY_2
        obtain ⟨X1, hX1⟩ : ∃ y, w2.heap.size = y := ⟨_, rfl⟩
        have PL_3 := hide (Blk.new w2 101 #[.int .i64 0, .int .i64 0] (g := X1) hX1.symm)
        have HX2 := hide (show w.heap.size + 1 < X1 by omega)
        have yX : X1 < ((w2.alloc (.cells #[.int .i64 0, .int .i64 0] 101))).heap.size := by simp; omega
        rw [hX1]
        have NX_3 := hide (show ∀ k, (Value.slice (some ⟨w1.heap.size, 0, none⟩) 0 0).ownBlock = some k → k ≠ X1 from fun k hk => by have := (HO_2.out.lt k hk).2; omega)
        have z3 : w2.heap.size + 1 ≤ ((w2.alloc (.cells #[.int .i64 0, .int .i64 0] 101))).heap.size := by simp
        obtain ⟨w3, hw3⟩ : ∃ y, (w2.alloc (.cells #[.int .i64 0, .int .i64 0] 101)) = y := ⟨_, rfl⟩
        rw [hw3] at z3 yX HB_3 PR_3 PT_3 PL_3 HO_3 HU1_3 ⊢
        clear HB_2 PR_2 PT_2 HO_2 HU1_2 NY_2
        clear hw3
        clear hX1
        have kR := PR_3.out.cell
        have kT := PT_3.out.cell
        refine hK.out _ _ ?hS1 (fun hHeld => ?_)
        case hS1 => (try dsimp only); (go_keep)
        clear hK K kR kT
        try simp only [Act.put, List.getElem_toArray, List.getElem_cons_succ, List.getElem_cons_zero, List.setIfInBounds_toArray, List.set_cons_zero, List.set_cons_succ]
        refine wpAnyH_ready (rs := [4]) (by kernel_rfl) (by simp) ?_
        refine AllReadyH.cons rfl (fun K hK => ?_) ?_
        · skip
          refine step_app rfl (.tmp 14) (.tmp 15) rfl (by simp [Act.eval, Act.put]) (by simp [Act.eval, Act.put]) (appL HO_3.out (by omega) (HS.out.below HB_3.out hB2) (by simp; omega)) ?_
          intro v1 w4 ho hg hat
          have z4 : w3.heap.size ≤ w4.heap.size := hg.size
          have HO_4 := hide ho
          have HB_4 := hide (below_app0 HB_3.out (HO_3.out.base_le (base' := w.heap.size) (by omega)) (by omega) hg)
          have PR_4 := hide (PR_3.out.grown hg (fun e => by have := (HO_3.out.lt _ e.symm).1; omega))
          have PT_4 := hide (PT_3.out.grown hg (fun e => by have := (HO_3.out.lt _ e.symm).1; omega))
          have PL_4 := hide (PL_3.out.grown hg (fun e => NX_3.out _ e.symm rfl))
          have HU1_4 := hide (HU1_3.out.grown hg (by omega) NY_3.out)
          have NX_4 := hide (show ∀ k, v1.ownBlock = some k → k ≠ X1 from fun k hk => by rcases hat with h | h; exact NX_3.out k (h ▸ hk); (rw [hk] at h; injection h with h; have := yX; omega))
          have NY_4 := hide (show ∀ k, v1.ownBlock = some k → k < y1 ∨ y1 + 1 ≤ k from fun k hk => by rcases hat with h | h; exact NY_3.out k (h ▸ hk); (rw [hk] at h; injection h with h; omega))
          clear HB_3 PR_3 PT_3 PL_3 HO_3 HU1_3 NY_3 NX_3
          clear ho hg hat
          have kR := PR_4.out.cell
          have kT := PT_4.out.cell
          refine hK.out _ _ ?hS1 (fun hHeld => ?_)
          case hS1 => (try dsimp only); (go_keep)
          clear hK K kR kT
          try simp only [Act.put, List.getElem_toArray, List.getElem_cons_succ, List.getElem_cons_zero, List.setIfInBounds_toArray, List.set_cons_zero, List.set_cons_succ]
          refine wpAnyH_ready (rs := [7]) (by kernel_rfl) (by simp) ?_
          refine AllReadyH.cons rfl (fun K hK => ?_) ?_
          · skip
            refine step_app rfl (.tmp 16) (.tmp 18) rfl (by simp [Act.eval, Act.put]) (by simp [Act.eval, Act.put]) (appL HO_4.out (by omega) HU1_4.out (by simp [HLU.out]; omega)) ?_
            intro v2 w5 ho hg hat
            have z5 : w4.heap.size ≤ w5.heap.size := hg.size
            have HO_5 := hide ho
            have HB_5 := hide (below_app0 HB_4.out (HO_4.out.base_le (base' := w.heap.size) (by omega)) (by omega) hg)
            have PR_5 := hide (PR_4.out.grown hg (fun e => by have := (HO_4.out.lt _ e.symm).1; omega))
            have PT_5 := hide (PT_4.out.grown hg (fun e => by have := (HO_4.out.lt _ e.symm).1; omega))
            have PL_5 := hide (PL_4.out.grown hg (fun e => NX_4.out _ e.symm rfl))
            have NX_5 := hide (show ∀ k, v2.ownBlock = some k → k ≠ X1 from fun k hk => by rcases hat with h | h; exact NX_4.out k (h ▸ hk); (rw [hk] at h; injection h with h; have := yX; omega))
            clear HB_4 PR_4 PT_4 PL_4 HO_4 HU1_4 NX_4 NY_4
            clear ho hg hat
            have kR := PR_5.out.cell
            have kT := PT_5.out.cell
            refine hK.out _ _ ?hS1 (fun hHeld => ?_)
            case hS1 => (try dsimp only); (go_keep)
            clear hK K kR kT
            try simp only [Act.put, List.getElem_toArray, List.getElem_cons_succ, List.getElem_cons_zero, List.setIfInBounds_toArray, List.set_cons_zero, List.set_cons_succ]
            refine wpAnyH_ready (rs := [8]) (by kernel_rfl) (by simp) ?_
            refine AllReadyH.cons rfl (fun K hK => ?_) ?_
            · skip
              obtain ⟨A9, c9, rfl, hs9⟩ := Own.slk' encInt_len (n := n + 1) (by simp [HLU.out]) HO_5.out
              have hs9 : SlK 1 encInt w5 (w.heap.size + 1 + 1) w5.heap.size A9 (n + 1) c9 us' := by rw [← HUS.out]; simpa using hs9
              go_simp
              go_at_call 81
              (with_reducible refine (HI.out _ _ A9 (n + 1) c9 us' _ (HR.out.below HB_5.out hB) (by omega) (HU.out.below HB_5.out hB1) (by omega) hs9 (by omega) (by omega)).mono ?_)
              rw [HV.out, HG.out]
              rintro e w6 ⟨rfl, hb⟩
              have z6 := hb.size
              have HB_6 := hide (HB_5.out.trans (hb.mono (by omega)))
              have PR_6 := hide (PR_5.out.belowH hb)
              have PT_6 := hide (PT_5.out.belowH hb)
              have PL_6 := hide (PL_5.out.belowH hb)
              clear hs9
              clear HB_5 PR_5 PT_5 PL_5 HO_5 NX_5
              clear hb
              go_wp2_with fail
              have kR := PR_6.out.cell
              have kT := PT_6.out.cell
              refine hK.out _ _ ?hS1 (fun hHeld => ?_)
              case hS1 => (try dsimp only); (go_keep)
              clear hK K kR kT
              try simp only [Act.put, List.getElem_toArray, List.getElem_cons_succ, List.getElem_cons_zero, List.setIfInBounds_toArray, List.set_cons_zero, List.set_cons_succ]
              refine wpAnyH_ready (rs := [10]) (by kernel_rfl) (by simp) ?_
              refine AllReadyH.cons rfl (fun K hK => ?_) ?_
              · skip
                have kL := PL_6.out.cell
                have yL := PL_6.out.lt
                have fL := PL_6.out.frozen
                go_simp
                have hX2 := HX2.out
                have PL_7 := hide ((PL_6.out.set_ 0 (.int .i64 V)).set_ 1 (.int .i64 G))
                simp only [List.setIfInBounds_toArray, List.set_cons_zero, List.set_cons_succ] at PL_7
                have PR_7 := hide ((PR_6.out.far (p := ⟨X1, 0, none⟩) (by simp; omega) (.int .i64 V)).far (p := ⟨X1, 1, none⟩) (by simp; omega) (.int .i64 G))
                have PT_7 := hide ((PT_6.out.far (p := ⟨X1, 0, none⟩) (by simp; omega) (.int .i64 V)).far (p := ⟨X1, 1, none⟩) (by simp; omega) (.int .i64 G))
                have HB_7 := hide (show Below w.heap.size w ((w6.setCell ⟨X1, 0, none⟩ (.int .i64 V)).setCell ⟨X1, 1, none⟩ (.int .i64 G)) from (HB_6.out.setCell (by simp; omega) _).setCell (by simp; omega) _)
                obtain ⟨w7, hw⟩ : ∃ y, ((w6.setCell ⟨X1, 0, none⟩ (.int .i64 V)).setCell ⟨X1, 1, none⟩ (.int .i64 G)) = y := ⟨_, rfl⟩
                rw [hw] at HB_7 PR_7 PT_7 PL_7 ⊢
                clear hw kL yL fL
                clear HB_6 PR_6 PT_6 PL_6
                have kR := PR_7.out.cell
                have kT := PT_7.out.cell
                refine hK.out _ _ ?hS1 (fun hHeld => ?_)
                case hS1 => (try dsimp only); (go_keep)
                clear hK K kR kT
                try simp only [Act.put, List.getElem_toArray, List.getElem_cons_succ, List.getElem_cons_zero, List.setIfInBounds_toArray, List.set_cons_zero, List.set_cons_succ]
                refine wpAnyH_done (by kernel_rfl) ?_ _
                first | with_reducible exact HFIN.out _ _ _ _ _ _ _ _ _ _ _ _ X1 w7 HX2.out HB_7.out PR_7.out PT_7.out PL_7.out | (show KF _ _; exact HFIN.out _ _ _ _ _ _ _ _ _ _ _ _ X1 w7 HX2.out HB_7.out PR_7.out PT_7.out PL_7.out)
              exact AllReadyH.nil
            exact AllReadyH.nil
          exact AllReadyH.nil
        exact AllReadyH.nil
      exact AllReadyH.nil
    refine AllReadyH.cons rfl (fun K hK => ?_) ?_
    · skip
      go_simp
      have HB_2 := hide (show Below w.heap.size w (w1.alloc (.cells #[.int .i64 0, .int .i64 0] 101)) from HB_1.out.alloc (by omega) _)
      have PR_2 := hide (PR_1.out.alloc (.cells #[.int .i64 0, .int .i64 0] 101))
      have PT_2 := hide (PT_1.out.alloc (.cells #[.int .i64 0, .int .i64 0] 101))
      have HU1_2 := hide (HU1_1.out.alloc (by omega) (.cells #[.int .i64 0, .int .i64 0] 101))
      obtain ⟨X1, hX1⟩ : ∃ y, w1.heap.size = y := ⟨_, rfl⟩
      have PL_2 := hide (Blk.new w1 101 #[.int .i64 0, .int .i64 0] (g := X1) hX1.symm)
      have HX2 := hide (show w.heap.size + 1 < X1 by omega)
      have yX : X1 < ((w1.alloc (.cells #[.int .i64 0, .int .i64 0] 101))).heap.size := by simp; omega
      rw [hX1]
      have z2 : w1.heap.size + 1 ≤ ((w1.alloc (.cells #[.int .i64 0, .int .i64 0] 101))).heap.size := by simp
      obtain ⟨w2, hw2⟩ : ∃ y, (w1.alloc (.cells #[.int .i64 0, .int .i64 0] 101)) = y := ⟨_, rfl⟩
      rw [hw2] at z2 yX HB_2 PR_2 PT_2 PL_2 HU1_2 ⊢
      clear HB_1 PR_1 PT_1 HU1_1
      clear hw2
      clear hX1
      have kR := PR_2.out.cell
      have kT := PT_2.out.cell
      refine hK.out _ _ ?hS1 (fun hHeld => ?_)
      case hS1 => (try dsimp only); (go_keep)
      clear hK K kR kT
      try simp only [Act.put, List.getElem_toArray, List.getElem_cons_succ, List.getElem_cons_zero, List.setIfInBounds_toArray, List.set_cons_zero, List.set_cons_succ]
      refine wpAnyH_ready (rs := [2]) (by kernel_rfl) (by simp) ?_
      refine AllReadyH.cons rfl (fun K hK => ?_) ?_
      · skip
        go_simp
        have HB_3 := hide (show Below w.heap.size w (w2.alloc (.cells #[] 3)) from HB_2.out.alloc (by omega) _)
        have PR_3 := hide (PR_2.out.alloc (.cells #[] 3))
        have PT_3 := hide (PT_2.out.alloc (.cells #[] 3))
        have PL_3 := hide (PL_2.out.alloc (.cells #[] 3))
        have HU1_3 := hide (HU1_2.out.alloc (by omega) (.cells #[] 3))
        have HO_3 := hide ((own_none (k := 1) (enc := encInt) w2 3).base_le (base' := w.heap.size + 1 + 1) (by omega))
        have ho3 := (own_none (k := 1) (enc := encInt) w2 3).lt
        have NY_3 := hide (show ∀ k, (Value.slice (some ⟨w2.heap.size, 0, none⟩) 0 0).ownBlock = some k → k < y1 ∨ y1 + 1 ≤ k from fun k hk => by have := (ho3 k hk).1; omega)
        have NX_3 := hide (show ∀ k, (Value.slice (some ⟨w2.heap.size, 0, none⟩) 0 0).ownBlock = some k → k ≠ X1 from fun k hk => by have := (ho3 k hk).1; have := yX; omega)
        clear ho3
        have z3 : w2.heap.size + 1 ≤ ((w2.alloc (.cells #[] 3))).heap.size := by simp
        obtain ⟨w3, hw3⟩ : ∃ y, (w2.alloc (.cells #[] 3)) = y := ⟨_, rfl⟩
        rw [hw3] at z3 HB_3 PR_3 PT_3 PL_3 HO_3 HU1_3 ⊢
        clear HB_2 PR_2 PT_2 PL_2 HU1_2
        clear hw3
        have kR := PR_3.out.cell
        have kT := PT_3.out.cell
        refine hK.out _ _ ?hS1 (fun hHeld => ?_)
        case hS1 => (try dsimp only); (go_keep)
        clear hK K kR kT
        try simp only [Act.put, List.getElem_toArray, List.getElem_cons_succ, List.getElem_cons_zero, List.setIfInBounds_toArray, List.set_cons_zero, List.set_cons_succ]
        refine wpAnyH_ready (rs := [4]) (by kernel_rfl) (by simp) ?_
        refine AllReadyH.cons rfl (fun K hK => ?_) ?_
        · skip
          refine step_app rfl (.tmp 14) (.tmp 15) rfl (by simp [Act.eval, Act.put]) (by simp [Act.eval, Act.put]) (appL HO_3.out (by omega) (HS.out.below HB_3.out hB2) (by simp; omega)) ?_
          intro v1 w4 ho hg hat
          have z4 : w3.heap.size ≤ w4.heap.size := hg.size
          have HO_4 := hide ho
          have HB_4 := hide (below_app0 HB_3.out (HO_3.out.base_le (base' := w.heap.size) (by omega)) (by omega) hg)
          have PR_4 := hide (PR_3.out.grown hg (fun e => by have := (HO_3.out.lt _ e.symm).1; omega))
          have PT_4 := hide (PT_3.out.grown hg (fun e => by have := (HO_3.out.lt _ e.symm).1; omega))
          have PL_4 := hide (PL_3.out.grown hg (fun e => NX_3.out _ e.symm rfl))
          have HU1_4 := hide (HU1_3.out.grown hg (by omega) NY_3.out)
          have NX_4 := hide (show ∀ k, v1.ownBlock = some k → k ≠ X1 from fun k hk => by rcases hat with h | h; exact NX_3.out k (h ▸ hk); (rw [hk] at h; injection h with h; have := yX; omega))
          have NY_4 := hide (show ∀ k, v1.ownBlock = some k → k < y1 ∨ y1 + 1 ≤ k from fun k hk => by rcases hat with h | h; exact NY_3.out k (h ▸ hk); (rw [hk] at h; injection h with h; omega))
          clear HB_3 PR_3 PT_3 PL_3 HO_3 HU1_3 NY_3 NX_3
          clear ho hg hat
          have kR := PR_4.out.cell
          have kT := PT_4.out.cell
          refine hK.out _ _ ?hS1 (fun hHeld => ?_)
          case hS1 => (try dsimp only); (go_keep)
          clear hK K kR kT
          try simp only [Act.put, List.getElem_toArray, List.getElem_cons_succ, List.getElem_cons_zero, List.setIfInBounds_toArray, List.set_cons_zero, List.set_cons_succ]
          refine wpAnyH_ready (rs := [7]) (by kernel_rfl) (by simp) ?_
          refine AllReadyH.cons rfl (fun K hK => ?_) ?_
          · skip
            refine step_app rfl (.tmp 16) (.tmp 18) rfl (by simp [Act.eval, Act.put]) (by simp [Act.eval, Act.put]) (appL HO_4.out (by omega) HU1_4.out (by simp [HLU.out]; omega)) ?_
            intro v2 w5 ho hg hat
            have z5 : w4.heap.size ≤ w5.heap.size := hg.size
            have HO_5 := hide ho
            have HB_5 := hide (below_app0 HB_4.out (HO_4.out.base_le (base' := w.heap.size) (by omega)) (by omega) hg)
            have PR_5 := hide (PR_4.out.grown hg (fun e => by have := (HO_4.out.lt _ e.symm).1; omega))
            have PT_5 := hide (PT_4.out.grown hg (fun e => by have := (HO_4.out.lt _ e.symm).1; omega))
            have PL_5 := hide (PL_4.out.grown hg (fun e => NX_4.out _ e.symm rfl))
            have NX_5 := hide (show ∀ k, v2.ownBlock = some k → k ≠ X1 from fun k hk => by rcases hat with h | h; exact NX_4.out k (h ▸ hk); (rw [hk] at h; injection h with h; have := yX; omega))
            clear HB_4 PR_4 PT_4 PL_4 HO_4 HU1_4 NX_4 NY_4
            clear ho hg hat
            have kR := PR_5.out.cell
            have kT := PT_5.out.cell
            refine hK.out _ _ ?hS1 (fun hHeld => ?_)
            case hS1 => (try dsimp only); (go_keep)
            clear hK K kR kT
            try simp only [Act.put, List.getElem_toArray, List.getElem_cons_succ, List.getElem_cons_zero, List.setIfInBounds_toArray, List.set_cons_zero, List.set_cons_succ]
            refine wpAnyH_ready (rs := [8]) (by kernel_rfl) (by simp) ?_
            refine AllReadyH.cons rfl (fun K hK => ?_) ?_
            · skip
              obtain ⟨A9, c9, rfl, hs9⟩ := Own.slk' encInt_len (n := n + 1) (by simp [HLU.out]) HO_5.out
              have hs9 : SlK 1 encInt w5 (w.heap.size + 1 + 1) w5.heap.size A9 (n + 1) c9 us' := by rw [← HUS.out]; simpa using hs9
              go_simp
              go_at_call 81
              (with_reducible refine (HI.out _ _ A9 (n + 1) c9 us' _ (HR.out.below HB_5.out hB) (by omega) (HU.out.below HB_5.out hB1) (by omega) hs9 (by omega) (by omega)).mono ?_)
              rw [HV.out, HG.out]
              rintro e w6 ⟨rfl, hb⟩
              have z6 := hb.size
              have HB_6 := hide (HB_5.out.trans (hb.mono (by omega)))
              have PR_6 := hide (PR_5.out.belowH hb)
              have PT_6 := hide (PT_5.out.belowH hb)
              have PL_6 := hide (PL_5.out.belowH hb)
              clear hs9
              clear HB_5 PR_5 PT_5 PL_5 HO_5 NX_5
              clear hb
              go_wp2_with fail
              have kR := PR_6.out.cell
              have kT := PT_6.out.cell
              refine hK.out _ _ ?hS1 (fun hHeld => ?_)
              case hS1 => (try dsimp only); (go_keep)
              clear hK K kR kT
              try simp only [Act.put, List.getElem_toArray, List.getElem_cons_succ, List.getElem_cons_zero, List.setIfInBounds_toArray, List.set_cons_zero, List.set_cons_succ]
              refine wpAnyH_ready (rs := [10]) (by kernel_rfl) (by simp) ?_
              refine AllReadyH.cons rfl (fun K hK => ?_) ?_
              · skip
                have kL := PL_6.out.cell
                have yL := PL_6.out.lt
                have fL := PL_6.out.frozen
                go_simp
                have hX2 := HX2.out
                have PL_7 := hide ((PL_6.out.set_ 0 (.int .i64 V)).set_ 1 (.int .i64 G))
                simp only [List.setIfInBounds_toArray, List.set_cons_zero, List.set_cons_succ] at PL_7
                have PR_7 := hide ((PR_6.out.far (p := ⟨X1, 0, none⟩) (by simp; omega) (.int .i64 V)).far (p := ⟨X1, 1, none⟩) (by simp; omega) (.int .i64 G))
                have PT_7 := hide ((PT_6.out.far (p := ⟨X1, 0, none⟩) (by simp; omega) (.int .i64 V)).far (p := ⟨X1, 1, none⟩) (by simp; omega) (.int .i64 G))
                have HB_7 := hide (show Below w.heap.size w ((w6.setCell ⟨X1, 0, none⟩ (.int .i64 V)).setCell ⟨X1, 1, none⟩ (.int .i64 G)) from (HB_6.out.setCell (by simp; omega) _).setCell (by simp; omega) _)
                obtain ⟨w7, hw⟩ : ∃ y, ((w6.setCell ⟨X1, 0, none⟩ (.int .i64 V)).setCell ⟨X1, 1, none⟩ (.int .i64 G)) = y := ⟨_, rfl⟩
                rw [hw] at HB_7 PR_7 PT_7 PL_7 ⊢
                clear hw kL yL fL
                clear HB_6 PR_6 PT_6 PL_6
                have kR := PR_7.out.cell
                have kT := PT_7.out.cell
                refine hK.out _ _ ?hS1 (fun hHeld => ?_)
                case hS1 => (try dsimp only); (go_keep)
                clear hK K kR kT
                try simp only [Act.put, List.getElem_toArray, List.getElem_cons_succ, List.getElem_cons_zero, List.setIfInBounds_toArray, List.set_cons_zero, List.set_cons_succ]
                refine wpAnyH_done (by kernel_rfl) ?_ _
                first | with_reducible exact HFIN.out _ _ _ _ _ _ _ _ _ _ _ _ X1 w7 HX2.out HB_7.out PR_7.out PT_7.out PL_7.out | (show KF _ _; exact HFIN.out _ _ _ _ _ _ _ _ _ _ _ _ X1 w7 HX2.out HB_7.out PR_7.out PT_7.out PL_7.out)
              exact AllReadyH.nil
            exact AllReadyH.nil
          exact AllReadyH.nil
        exact AllReadyH.nil
      exact AllReadyH.nil
    exact AllReadyH.nil
  refine AllReadyH.cons rfl (fun K hK => ?_) ?_
  · skip
    go_simp
    have HB_1 := hide (show Below w.heap.size w (w0.alloc (.cells #[.int .i64 0, .int .i64 0] 101)) from HB_0.out.alloc (by omega) _)
    have PR_1 := hide (PR_0.out.alloc (.cells #[.int .i64 0, .int .i64 0] 101))
    have PT_1 := hide (PT_0.out.alloc (.cells #[.int .i64 0, .int .i64 0] 101))
    obtain ⟨X1, hX1⟩ : ∃ y, w0.heap.size = y := ⟨_, rfl⟩
    have PL_1 := hide (Blk.new w0 101 #[.int .i64 0, .int .i64 0] (g := X1) hX1.symm)
    have HX2 := hide (show w.heap.size + 1 < X1 by omega)
    have yX : X1 < ((w0.alloc (.cells #[.int .i64 0, .int .i64 0] 101))).heap.size := by simp; omega
    rw [hX1]
    have z1 : w0.heap.size + 1 ≤ ((w0.alloc (.cells #[.int .i64 0, .int .i64 0] 101))).heap.size := by simp
    obtain ⟨w1, hw1⟩ : ∃ y, (w0.alloc (.cells #[.int .i64 0, .int .i64 0] 101)) = y := ⟨_, rfl⟩
    rw [hw1] at z1 yX HB_1 PR_1 PT_1 PL_1 ⊢
    clear HB_0 PR_0 PT_0
    clear hw1
    clear hX1
    have kR := PR_1.out.cell
    have kT := PT_1.out.cell
    refine hK.out _ _ ?hS1 (fun hHeld => ?_)
    case hS1 => (try dsimp only); (go_keep)
    clear hK K kR kT
    try simp only [Act.put, List.getElem_toArray, List.getElem_cons_succ, List.getElem_cons_zero, List.setIfInBounds_toArray, List.set_cons_zero, List.set_cons_succ]
    refine wpAnyH_ready (rs := [2, 6]) (by kernel_rfl) (by simp) ?_
    refine AllReadyH.cons rfl (fun K hK => ?_) ?_
    · skip
      go_simp
      have HB_2 := hide (show Below w.heap.size w (w1.alloc (.cells #[] 3)) from HB_1.out.alloc (by omega) _)
      have PR_2 := hide (PR_1.out.alloc (.cells #[] 3))
      have PT_2 := hide (PT_1.out.alloc (.cells #[] 3))
      have PL_2 := hide (PL_1.out.alloc (.cells #[] 3))
      have HO_2 := hide ((own_none (k := 1) (enc := encInt) w1 3).base_le (base' := w.heap.size + 1 + 1) (by omega))
      have ho2 := (own_none (k := 1) (enc := encInt) w1 3).lt
      have NX_2 := hide (show ∀ k, (Value.slice (some ⟨w1.heap.size, 0, none⟩) 0 0).ownBlock = some k → k ≠ X1 from fun k hk => by have := (ho2 k hk).1; have := yX; omega)
      clear ho2
      have z2 : w1.heap.size + 1 ≤ ((w1.alloc (.cells #[] 3))).heap.size := by simp
      obtain ⟨w2, hw2⟩ : ∃ y, (w1.alloc (.cells #[] 3)) = y := ⟨_, rfl⟩
      rw [hw2] at z2 HB_2 PR_2 PT_2 PL_2 HO_2 ⊢
      clear HB_1 PR_1 PT_1 PL_1
      clear hw2
      have kR := PR_2.out.cell
      have kT := PT_2.out.cell
      refine hK.out _ _ ?hS1 (fun hHeld => ?_)
      case hS1 => (try dsimp only); (go_keep)
      clear hK K kR kT
      try simp only [Act.put, List.getElem_toArray, List.getElem_cons_succ, List.getElem_cons_zero, List.setIfInBounds_toArray, List.set_cons_zero, List.set_cons_succ]
      refine wpAnyH_ready (rs := [4, 6]) (by kernel_rfl) (by simp) ?_
      refine AllReadyH.cons rfl (fun K hK => ?_) ?_
      · skip
        refine step_app rfl (.tmp 14) (.tmp 15) rfl (by simp [Act.eval, Act.put]) (by simp [Act.eval, Act.put]) (appL HO_2.out (by omega) (HS.out.below HB_2.out hB2) (by simp; omega)) ?_
        intro v1 w3 ho hg hat
        have z3 : w2.heap.size ≤ w3.heap.size := hg.size
        have HO_3 := hide ho
        have HB_3 := hide (below_app0 HB_2.out (HO_2.out.base_le (base' := w.heap.size) (by omega)) (by omega) hg)
        have PR_3 := hide (PR_2.out.grown hg (fun e => by have := (HO_2.out.lt _ e.symm).1; omega))
        have PT_3 := hide (PT_2.out.grown hg (fun e => by have := (HO_2.out.lt _ e.symm).1; omega))
        have PL_3 := hide (PL_2.out.grown hg (fun e => NX_2.out _ e.symm rfl))
        have NX_3 := hide (show ∀ k, v1.ownBlock = some k → k ≠ X1 from fun k hk => by rcases hat with h | h; exact NX_2.out k (h ▸ hk); (rw [hk] at h; injection h with h; have := yX; omega))
        clear HB_2 PR_2 PT_2 PL_2 HO_2 NX_2
        clear ho hg hat
        have kR := PR_3.out.cell
        have kT := PT_3.out.cell
        refine hK.out _ _ ?hS1 (fun hHeld => ?_)
        case hS1 => (try dsimp only); (go_keep)
        clear hK K kR kT
        try simp only [Act.put, List.getElem_toArray, List.getElem_cons_succ, List.getElem_cons_zero, List.setIfInBounds_toArray, List.set_cons_zero, List.set_cons_succ]
        refine wpAnyH_ready (rs := [6]) (by kernel_rfl) (by simp) ?_
        refine AllReadyH.cons rfl (fun K hK => ?_) ?_
        · skip
          go_simp
          have HB_4 := hide (show Below w.heap.size w (w3.alloc (.cells #[.int .i64 u] 3)) from HB_3.out.alloc (by omega) _)
          have PR_4 := hide (PR_3.out.alloc (.cells #[.int .i64 u] 3))
          have PT_4 := hide (PT_3.out.alloc (.cells #[.int .i64 u] 3))
          have PL_4 := hide (PL_3.out.alloc (.cells #[.int .i64 u] 3))
          have HO_4 := hide (HO_3.out.alloc (.cells #[.int .i64 u] 3))
          have NX_4 := NX_3
          obtain ⟨y1, hy1⟩ : ∃ y, w3.heap.size = y := ⟨_, rfl⟩
          have HU1_4 := hide (slk_one w3 u 3)
          rw [hy1] at HU1_4 ⊢
          have NY_4 := hide (show ∀ k, v1.ownBlock = some k → k < y1 ∨ y1 + 1 ≤ k from fun k hk => by have := (HO_3.out.lt k hk).2; omega)
          have z4 : w3.heap.size + 1 ≤ ((w3.alloc (.cells #[.int .i64 u] 3))).heap.size := by simp
          have y1a : y1 < ((w3.alloc (.cells #[.int .i64 u] 3))).heap.size := by simp; omega
          obtain ⟨w4, hw4⟩ : ∃ y, (w3.alloc (.cells #[.int .i64 u] 3)) = y := ⟨_, rfl⟩
          rw [hw4] at z4 y1a HB_4 PR_4 PT_4 PL_4 HO_4 HU1_4 ⊢
          clear HB_3 PR_3 PT_3 PL_3 HO_3 NX_3
          clear hw4
          clear hy1
          have kR := PR_4.out.cell
          have kT := PT_4.out.cell
          refine hK.out _ _ ?hS1 (fun hHeld => ?_)
          case hS1 => (try dsimp only); (go_keep)
          clear hK K kR kT
          try simp only [Act.put, List.getElem_toArray, List.getElem_cons_succ, List.getElem_cons_zero, List.setIfInBounds_toArray, List.set_cons_zero, List.set_cons_succ]
          refine wpAnyH_ready (rs := [7]) (by kernel_rfl) (by simp) ?_
          refine AllReadyH.cons rfl (fun K hK => ?_) ?_
          · skip
            refine step_app rfl (.tmp 16) (.tmp 18) rfl (by simp [Act.eval, Act.put]) (by simp [Act.eval, Act.put]) (appL HO_4.out (by omega) HU1_4.out (by simp [HLU.out]; omega)) ?_
            intro v2 w5 ho hg hat
            have z5 : w4.heap.size ≤ w5.heap.size := hg.size
            have HO_5 := hide ho
            have HB_5 := hide (below_app0 HB_4.out (HO_4.out.base_le (base' := w.heap.size) (by omega)) (by omega) hg)
            have PR_5 := hide (PR_4.out.grown hg (fun e => by have := (HO_4.out.lt _ e.symm).1; omega))
            have PT_5 := hide (PT_4.out.grown hg (fun e => by have := (HO_4.out.lt _ e.symm).1; omega))
            have PL_5 := hide (PL_4.out.grown hg (fun e => NX_4.out _ e.symm rfl))
            have NX_5 := hide (show ∀ k, v2.ownBlock = some k → k ≠ X1 from fun k hk => by rcases hat with h | h; exact NX_4.out k (h ▸ hk); (rw [hk] at h; injection h with h; have := yX; omega))
            clear HB_4 PR_4 PT_4 PL_4 HO_4 HU1_4 NX_4 NY_4
            clear ho hg hat
            have kR := PR_5.out.cell
            have kT := PT_5.out.cell
            refine hK.out _ _ ?hS1 (fun hHeld => ?_)
            case hS1 => (try dsimp only); (go_keep)
            clear hK K kR kT
            try simp only [Act.put, List.getElem_toArray, List.getElem_cons_succ, List.getElem_cons_zero, List.setIfInBounds_toArray, List.set_cons_zero, List.set_cons_succ]
            refine wpAnyH_ready (rs := [8]) (by kernel_rfl) (by simp) ?_
            refine AllReadyH.cons rfl (fun K hK => ?_) ?_
            · skip
              obtain ⟨A9, c9, rfl, hs9⟩ := Own.slk' encInt_len (n := n + 1) (by simp [HLU.out]) HO_5.out
              have hs9 : SlK 1 encInt w5 (w.heap.size + 1 + 1) w5.heap.size A9 (n + 1) c9 us' := by rw [← HUS.out]; simpa using hs9
              go_simp
              go_at_call 81
              (with_reducible refine (HI.out _ _ A9 (n + 1) c9 us' _ (HR.out.below HB_5.out hB) (by omega) (HU.out.below HB_5.out hB1) (by omega) hs9 (by omega) (by omega)).mono ?_)
              rw [HV.out, HG.out]
              rintro e w6 ⟨rfl, hb⟩
              have z6 := hb.size
              have HB_6 := hide (HB_5.out.trans (hb.mono (by omega)))
              have PR_6 := hide (PR_5.out.belowH hb)
              have PT_6 := hide (PT_5.out.belowH hb)
              have PL_6 := hide (PL_5.out.belowH hb)
              clear hs9
              clear HB_5 PR_5 PT_5 PL_5 HO_5 NX_5
              clear hb
              go_wp2_with fail
              have kR := PR_6.out.cell
              have kT := PT_6.out.cell
              refine hK.out _ _ ?hS1 (fun hHeld => ?_)
              case hS1 => (try dsimp only); (go_keep)
              clear hK K kR kT
              try simp only [Act.put, List.getElem_toArray, List.getElem_cons_succ, List.getElem_cons_zero, List.setIfInBounds_toArray, List.set_cons_zero, List.set_cons_succ]
              refine wpAnyH_ready (rs := [10]) (by kernel_rfl) (by simp) ?_
              refine AllReadyH.cons rfl (fun K hK => ?_) ?_
              · skip
                have kL := PL_6.out.cell
                have yL := PL_6.out.lt
                have fL := PL_6.out.frozen
                go_simp
                have hX2 := HX2.out
                have PL_7 := hide ((PL_6.out.set_ 0 (.int .i64 V)).set_ 1 (.int .i64 G))
                simp only [List.setIfInBounds_toArray, List.set_cons_zero, List.set_cons_succ] at PL_7
                have PR_7 := hide ((PR_6.out.far (p := ⟨X1, 0, none⟩) (by simp; omega) (.int .i64 V)).far (p := ⟨X1, 1, none⟩) (by simp; omega) (.int .i64 G))
                have PT_7 := hide ((PT_6.out.far (p := ⟨X1, 0, none⟩) (by simp; omega) (.int .i64 V)).far (p := ⟨X1, 1, none⟩) (by simp; omega) (.int .i64 G))
                have HB_7 := hide (show Below w.heap.size w ((w6.setCell ⟨X1, 0, none⟩ (.int .i64 V)).setCell ⟨X1, 1, none⟩ (.int .i64 G)) from (HB_6.out.setCell (by simp; omega) _).setCell (by simp; omega) _)
                obtain ⟨w7, hw⟩ : ∃ y, ((w6.setCell ⟨X1, 0, none⟩ (.int .i64 V)).setCell ⟨X1, 1, none⟩ (.int .i64 G)) = y := ⟨_, rfl⟩
                rw [hw] at HB_7 PR_7 PT_7 PL_7 ⊢
                clear hw kL yL fL
                clear HB_6 PR_6 PT_6 PL_6
                have kR := PR_7.out.cell
                have kT := PT_7.out.cell
                refine hK.out _ _ ?hS1 (fun hHeld => ?_)
                case hS1 => (try dsimp only); (go_keep)
                clear hK K kR kT
                try simp only [Act.put, List.getElem_toArray, List.getElem_cons_succ, List.getElem_cons_zero, List.setIfInBounds_toArray, List.set_cons_zero, List.set_cons_succ]
                refine wpAnyH_done (by kernel_rfl) ?_ _
                first | with_reducible exact HFIN.out _ _ _ _ _ _ _ _ _ _ _ _ X1 w7 HX2.out HB_7.out PR_7.out PT_7.out PL_7.out | (show KF _ _; exact HFIN.out _ _ _ _ _ _ _ _ _ _ _ _ X1 w7 HX2.out HB_7.out PR_7.out PT_7.out PL_7.out)
              exact AllReadyH.nil
            exact AllReadyH.nil
          exact AllReadyH.nil
        exact AllReadyH.nil
      refine AllReadyH.cons rfl (fun K hK => ?_) ?_
      · skip
        go_simp
        have HB_3 := hide (show Below w.heap.size w (w2.alloc (.cells #[.int .i64 u] 3)) from HB_2.out.alloc (by omega) _)
        have PR_3 := hide (PR_2.out.alloc (.cells #[.int .i64 u] 3))
        have PT_3 := hide (PT_2.out.alloc (.cells #[.int .i64 u] 3))
        have PL_3 := hide (PL_2.out.alloc (.cells #[.int .i64 u] 3))
        have HO_3 := hide (HO_2.out.alloc (.cells #[.int .i64 u] 3))
        have NX_3 := NX_2
        obtain ⟨y1, hy1⟩ : ∃ y, w2.heap.size = y := ⟨_, rfl⟩
        have HU1_3 := hide (slk_one w2 u 3)
        rw [hy1] at HU1_3 ⊢
        have NY_3 := hide (show ∀ k, (Value.slice (some ⟨w1.heap.size, 0, none⟩) 0 0).ownBlock = some k → k < y1 ∨ y1 + 1 ≤ k from fun k hk => by have := (HO_2.out.lt k hk).2; omega)
        have z3 : w2.heap.size + 1 ≤ ((w2.alloc (.cells #[.int .i64 u] 3))).heap.size := by simp
        have y1a : y1 < ((w2.alloc (.cells #[.int .i64 u] 3))).heap.size := by simp; omega
        obtain ⟨w3, hw3⟩ : ∃ y, (w2.alloc (.cells #[.int .i64 u] 3)) = y := ⟨_, rfl⟩
        rw [hw3] at z3 y1a HB_3 PR_3 PT_3 PL_3 HO_3 HU1_3 ⊢
        clear HB_2 PR_2 PT_2 PL_2 HO_2 NX_2
        clear hw3
        clear hy1
        have kR := PR_3.out.cell
        have kT := PT_3.out.cell
        refine hK.out _ _ ?hS1 (fun hHeld => ?_)
        case hS1 => (try dsimp only); (go_keep)
        clear hK K kR kT
        try simp only [Act.put, List.getElem_toArray, List.getElem_cons_succ, List.getElem_cons_zero, List.setIfInBounds_toArray, List.set_cons_zero, List.set_cons_succ]
        refine wpAnyH_ready (rs := [4]) (by kernel_rfl) (by simp) ?_
        refine AllReadyH.cons rfl (fun K hK => ?_) ?_
        · skip
          refine step_app rfl (.tmp 14) (.tmp 15) rfl (by simp [Act.eval, Act.put]) (by simp [Act.eval, Act.put]) (appL HO_3.out (by omega) (HS.out.below HB_3.out hB2) (by simp; omega)) ?_
          intro v1 w4 ho hg hat
          have z4 : w3.heap.size ≤ w4.heap.size := hg.size
          have HO_4 := hide ho
          have HB_4 := hide (below_app0 HB_3.out (HO_3.out.base_le (base' := w.heap.size) (by omega)) (by omega) hg)
          have PR_4 := hide (PR_3.out.grown hg (fun e => by have := (HO_3.out.lt _ e.symm).1; omega))
          have PT_4 := hide (PT_3.out.grown hg (fun e => by have := (HO_3.out.lt _ e.symm).1; omega))
          have PL_4 := hide (PL_3.out.grown hg (fun e => NX_3.out _ e.symm rfl))
          have HU1_4 := hide (HU1_3.out.grown hg (by omega) NY_3.out)
          have NX_4 := hide (show ∀ k, v1.ownBlock = some k → k ≠ X1 from fun k hk => by rcases hat with h | h; exact NX_3.out k (h ▸ hk); (rw [hk] at h; injection h with h; have := yX; omega))
          have NY_4 := hide (show ∀ k, v1.ownBlock = some k → k < y1 ∨ y1 + 1 ≤ k from fun k hk => by rcases hat with h | h; exact NY_3.out k (h ▸ hk); (rw [hk] at h; injection h with h; omega))
          clear HB_3 PR_3 PT_3 PL_3 HO_3 HU1_3 NX_3 NY_3
          clear ho hg hat
          have kR := PR_4.out.cell
          have kT := PT_4.out.cell
          refine hK.out _ _ ?hS1 (fun hHeld => ?_)
          case hS1 => (try dsimp only); (go_keep)
          clear hK K kR kT
          try simp only [Act.put, List.getElem_toArray, List.getElem_cons_succ, List.getElem_cons_zero, List.setIfInBounds_toArray, List.set_cons_zero, List.set_cons_succ]
          refine wpAnyH_ready (rs := [7]) (by kernel_rfl) (by simp) ?_
          refine AllReadyH.cons rfl (fun K hK => ?_) ?_
          · skip
            refine step_app rfl (.tmp 16) (.tmp 18) rfl (by simp [Act.eval, Act.put]) (by simp [Act.eval, Act.put]) (appL HO_4.out (by omega) HU1_4.out (by simp [HLU.out]; omega)) ?_
            intro v2 w5 ho hg hat
            have z5 : w4.heap.size ≤ w5.heap.size := hg.size
            have HO_5 := hide ho
            have HB_5 := hide (below_app0 HB_4.out (HO_4.out.base_le (base' := w.heap.size) (by omega)) (by omega) hg)
            have PR_5 := hide (PR_4.out.grown hg (fun e => by have := (HO_4.out.lt _ e.symm).1; omega))
            have PT_5 := hide (PT_4.out.grown hg (fun e => by have := (HO_4.out.lt _ e.symm).1; omega))
            have PL_5 := hide (PL_4.out.grown hg (fun e => NX_4.out _ e.symm rfl))
            have NX_5 := hide (show ∀ k, v2.ownBlock = some k → k ≠ X1 from fun k hk => by rcases hat with h | h; exact NX_4.out k (h ▸ hk); (rw [hk] at h; injection h with h; have := yX; omega))
            clear HB_4 PR_4 PT_4 PL_4 HO_4 HU1_4 NX_4 NY_4
            clear ho hg hat
            have kR := PR_5.out.cell
            have kT := PT_5.out.cell
            refine hK.out _ _ ?hS1 (fun hHeld => ?_)
            case hS1 => (try dsimp only); (go_keep)
            clear hK K kR kT
            try simp only [Act.put, List.getElem_toArray, List.getElem_cons_succ, List.getElem_cons_zero, List.setIfInBounds_toArray, List.set_cons_zero, List.set_cons_succ]
            refine wpAnyH_ready (rs := [8]) (by kernel_rfl) (by simp) ?_
            refine AllReadyH.cons rfl (fun K hK => ?_) ?_
            · skip
              obtain ⟨A9, c9, rfl, hs9⟩ := Own.slk' encInt_len (n := n + 1) (by simp [HLU.out]) HO_5.out
              have hs9 : SlK 1 encInt w5 (w.heap.size + 1 + 1) w5.heap.size A9 (n + 1) c9 us' := by rw [← HUS.out]; simpa using hs9
              go_simp
              go_at_call 81
              (with_reducible refine (HI.out _ _ A9 (n + 1) c9 us' _ (HR.out.below HB_5.out hB) (by omega) (HU.out.below HB_5.out hB1) (by omega) hs9 (by omega) (by omega)).mono ?_)
              rw [HV.out, HG.out]
              rintro e w6 ⟨rfl, hb⟩
              have z6 := hb.size
              have HB_6 := hide (HB_5.out.trans (hb.mono (by omega)))
              have PR_6 := hide (PR_5.out.belowH hb)
              have PT_6 := hide (PT_5.out.belowH hb)
              have PL_6 := hide (PL_5.out.belowH hb)
              clear hs9
              clear HB_5 PR_5 PT_5 PL_5 HO_5 NX_5
              clear hb
              go_wp2_with fail
              have kR := PR_6.out.cell
              have kT := PT_6.out.cell
              refine hK.out _ _ ?hS1 (fun hHeld => ?_)
              case hS1 => (try dsimp only); (go_keep)
              clear hK K kR kT
              try simp only [Act.put, List.getElem_toArray, List.getElem_cons_succ, List.getElem_cons_zero, List.setIfInBounds_toArray, List.set_cons_zero, List.set_cons_succ]
              refine wpAnyH_ready (rs := [10]) (by kernel_rfl) (by simp) ?_
              refine AllReadyH.cons rfl (fun K hK => ?_) ?_
              · skip
                have kL := PL_6.out.cell
                have yL := PL_6.out.lt
                have fL := PL_6.out.frozen
                go_simp
                have hX2 := HX2.out
                have PL_7 := hide ((PL_6.out.set_ 0 (.int .i64 V)).set_ 1 (.int .i64 G))
                simp only [List.setIfInBounds_toArray, List.set_cons_zero, List.set_cons_succ] at PL_7
                have PR_7 := hide ((PR_6.out.far (p := ⟨X1, 0, none⟩) (by simp; omega) (.int .i64 V)).far (p := ⟨X1, 1, none⟩) (by simp; omega) (.int .i64 G))
                have PT_7 := hide ((PT_6.out.far (p := ⟨X1, 0, none⟩) (by simp; omega) (.int .i64 V)).far (p := ⟨X1, 1, none⟩) (by simp; omega) (.int .i64 G))
                have HB_7 := hide (show Below w.heap.size w ((w6.setCell ⟨X1, 0, none⟩ (.int .i64 V)).setCell ⟨X1, 1, none⟩ (.int .i64 G)) from (HB_6.out.setCell (by simp; omega) _).setCell (by simp; omega) _)
                obtain ⟨w7, hw⟩ : ∃ y, ((w6.setCell ⟨X1, 0, none⟩ (.int .i64 V)).setCell ⟨X1, 1, none⟩ (.int .i64 G)) = y := ⟨_, rfl⟩
                rw [hw] at HB_7 PR_7 PT_7 PL_7 ⊢
                clear hw kL yL fL
                clear HB_6 PR_6 PT_6 PL_6
                have kR := PR_7.out.cell
                have kT := PT_7.out.cell
                refine hK.out _ _ ?hS1 (fun hHeld => ?_)
                case hS1 => (try dsimp only); (go_keep)
                clear hK K kR kT
                try simp only [Act.put, List.getElem_toArray, List.getElem_cons_succ, List.getElem_cons_zero, List.setIfInBounds_toArray, List.set_cons_zero, List.set_cons_succ]
                refine wpAnyH_done (by kernel_rfl) ?_ _
                first | with_reducible exact HFIN.out _ _ _ _ _ _ _ _ _ _ _ _ X1 w7 HX2.out HB_7.out PR_7.out PT_7.out PL_7.out | (show KF _ _; exact HFIN.out _ _ _ _ _ _ _ _ _ _ _ _ X1 w7 HX2.out HB_7.out PR_7.out PT_7.out PL_7.out)
              exact AllReadyH.nil
            exact AllReadyH.nil
          exact AllReadyH.nil
        exact AllReadyH.nil
      exact AllReadyH.nil
    refine AllReadyH.cons rfl (fun K hK => ?_) ?_
    · skip
      go_simp
      have HB_2 := hide (show Below w.heap.size w (w1.alloc (.cells #[.int .i64 u] 3)) from HB_1.out.alloc (by omega) _)
      have PR_2 := hide (PR_1.out.alloc (.cells #[.int .i64 u] 3))
      have PT_2 := hide (PT_1.out.alloc (.cells #[.int .i64 u] 3))
      have PL_2 := hide (PL_1.out.alloc (.cells #[.int .i64 u] 3))
      obtain ⟨y1, hy1⟩ : ∃ y, w1.heap.size = y := ⟨_, rfl⟩
      have HU1_2 := hide (slk_one w1 u 3)
      rw [hy1] at HU1_2 ⊢
      have z2 : w1.heap.size + 1 ≤ ((w1.alloc (.cells #[.int .i64 u] 3))).heap.size := by simp
      have y1a : y1 < ((w1.alloc (.cells #[.int .i64 u] 3))).heap.size := by simp; omega
      obtain ⟨w2, hw2⟩ : ∃ y, (w1.alloc (.cells #[.int .i64 u] 3)) = y := ⟨_, rfl⟩
      rw [hw2] at z2 y1a HB_2 PR_2 PT_2 PL_2 HU1_2 ⊢
      clear HB_1 PR_1 PT_1 PL_1
      clear hw2
      clear hy1
      have kR := PR_2.out.cell
      have kT := PT_2.out.cell
      refine hK.out _ _ ?hS1 (fun hHeld => ?_)
      case hS1 => (try dsimp only); (go_keep)
      clear hK K kR kT
      try simp only [Act.put, List.getElem_toArray, List.getElem_cons_succ, List.getElem_cons_zero, List.setIfInBounds_toArray, List.set_cons_zero, List.set_cons_succ]
      refine wpAnyH_ready (rs := [2]) (by kernel_rfl) (by simp) ?_
      refine AllReadyH.cons rfl (fun K hK => ?_) ?_
      · skip
        go_simp
        have HB_3 := hide (show Below w.heap.size w (w2.alloc (.cells #[] 3)) from HB_2.out.alloc (by omega) _)
        have PR_3 := hide (PR_2.out.alloc (.cells #[] 3))
        have PT_3 := hide (PT_2.out.alloc (.cells #[] 3))
        have PL_3 := hide (PL_2.out.alloc (.cells #[] 3))
        have HU1_3 := hide (HU1_2.out.alloc (by omega) (.cells #[] 3))
        have HO_3 := hide ((own_none (k := 1) (enc := encInt) w2 3).base_le (base' := w.heap.size + 1 + 1) (by omega))
        have ho3 := (own_none (k := 1) (enc := encInt) w2 3).lt
        have NY_3 := hide (show ∀ k, (Value.slice (some ⟨w2.heap.size, 0, none⟩) 0 0).ownBlock = some k → k < y1 ∨ y1 + 1 ≤ k from fun k hk => by have := (ho3 k hk).1; omega)
        have NX_3 := hide (show ∀ k, (Value.slice (some ⟨w2.heap.size, 0, none⟩) 0 0).ownBlock = some k → k ≠ X1 from fun k hk => by have := (ho3 k hk).1; have := yX; omega)
        clear ho3
        have z3 : w2.heap.size + 1 ≤ ((w2.alloc (.cells #[] 3))).heap.size := by simp
        obtain ⟨w3, hw3⟩ : ∃ y, (w2.alloc (.cells #[] 3)) = y := ⟨_, rfl⟩
        rw [hw3] at z3 HB_3 PR_3 PT_3 PL_3 HO_3 HU1_3 ⊢
        clear HB_2 PR_2 PT_2 PL_2 HU1_2
        clear hw3
        have kR := PR_3.out.cell
        have kT := PT_3.out.cell
        refine hK.out _ _ ?hS1 (fun hHeld => ?_)
        case hS1 => (try dsimp only); (go_keep)
        clear hK K kR kT
        try simp only [Act.put, List.getElem_toArray, List.getElem_cons_succ, List.getElem_cons_zero, List.setIfInBounds_toArray, List.set_cons_zero, List.set_cons_succ]
        refine wpAnyH_ready (rs := [4]) (by kernel_rfl) (by simp) ?_
        refine AllReadyH.cons rfl (fun K hK => ?_) ?_
        · skip
          refine step_app rfl (.tmp 14) (.tmp 15) rfl (by simp [Act.eval, Act.put]) (by simp [Act.eval, Act.put]) (appL HO_3.out (by omega) (HS.out.below HB_3.out hB2) (by simp; omega)) ?_
          intro v1 w4 ho hg hat
          have z4 : w3.heap.size ≤ w4.heap.size := hg.size
          have HO_4 := hide ho
          have HB_4 := hide (below_app0 HB_3.out (HO_3.out.base_le (base' := w.heap.size) (by omega)) (by omega) hg)
          have PR_4 := hide (PR_3.out.grown hg (fun e => by have := (HO_3.out.lt _ e.symm).1; omega))
          have PT_4 := hide (PT_3.out.grown hg (fun e => by have := (HO_3.out.lt _ e.symm).1; omega))
          have PL_4 := hide (PL_3.out.grown hg (fun e => NX_3.out _ e.symm rfl))
          have HU1_4 := hide (HU1_3.out.grown hg (by omega) NY_3.out)
          have NX_4 := hide (show ∀ k, v1.ownBlock = some k → k ≠ X1 from fun k hk => by rcases hat with h | h; exact NX_3.out k (h ▸ hk); (rw [hk] at h; injection h with h; have := yX; omega))
          have NY_4 := hide (show ∀ k, v1.ownBlock = some k → k < y1 ∨ y1 + 1 ≤ k from fun k hk => by rcases hat with h | h; exact NY_3.out k (h ▸ hk); (rw [hk] at h; injection h with h; omega))
          clear HB_3 PR_3 PT_3 PL_3 HO_3 HU1_3 NY_3 NX_3
          clear ho hg hat
          have kR := PR_4.out.cell
          have kT := PT_4.out.cell
          refine hK.out _ _ ?hS1 (fun hHeld => ?_)
          case hS1 => (try dsimp only); (go_keep)
          clear hK K kR kT
          try simp only [Act.put, List.getElem_toArray, List.getElem_cons_succ, List.getElem_cons_zero, List.setIfInBounds_toArray, List.set_cons_zero, List.set_cons_succ]
          refine wpAnyH_ready (rs := [7]) (by kernel_rfl) (by simp) ?_
          refine AllReadyH.cons rfl (fun K hK => ?_) ?_
          · skip
            refine step_app rfl (.tmp 16) (.tmp 18) rfl (by simp [Act.eval, Act.put]) (by simp [Act.eval, Act.put]) (appL HO_4.out (by omega) HU1_4.out (by simp [HLU.out]; omega)) ?_
            intro v2 w5 ho hg hat
            have z5 : w4.heap.size ≤ w5.heap.size := hg.size
            have HO_5 := hide ho
            have HB_5 := hide (below_app0 HB_4.out (HO_4.out.base_le (base' := w.heap.size) (by omega)) (by omega) hg)
            have PR_5 := hide (PR_4.out.grown hg (fun e => by have := (HO_4.out.lt _ e.symm).1; omega))
            have PT_5 := hide (PT_4.out.grown hg (fun e => by have := (HO_4.out.lt _ e.symm).1; omega))
            have PL_5 := hide (PL_4.out.grown hg (fun e => NX_4.out _ e.symm rfl))
            have NX_5 := hide (show ∀ k, v2.ownBlock = some k → k ≠ X1 from fun k hk => by rcases hat with h | h; exact NX_4.out k (h ▸ hk); (rw [hk] at h; injection h with h; have := yX; omega))
            clear HB_4 PR_4 PT_4 PL_4 HO_4 HU1_4 NX_4 NY_4
            clear ho hg hat
            have kR := PR_5.out.cell
            have kT := PT_5.out.cell
            refine hK.out _ _ ?hS1 (fun hHeld => ?_)
            case hS1 => (try dsimp only); (go_keep)
            clear hK K kR kT
            try simp only [Act.put, List.getElem_toArray, List.getElem_cons_succ, List.getElem_cons_zero, List.setIfInBounds_toArray, List.set_cons_zero, List.set_cons_succ]
            refine wpAnyH_ready (rs := [8]) (by kernel_rfl) (by simp) ?_
            refine AllReadyH.cons rfl (fun K hK => ?_) ?_
            · skip
              obtain ⟨A9, c9, rfl, hs9⟩ := Own.slk' encInt_len (n := n + 1) (by simp [HLU.out]) HO_5.out
              have hs9 : SlK 1 encInt w5 (w.heap.size + 1 + 1) w5.heap.size A9 (n + 1) c9 us' := by rw [← HUS.out]; simpa using hs9
              go_simp
              go_at_call 81
              (with_reducible refine (HI.out _ _ A9 (n + 1) c9 us' _ (HR.out.below HB_5.out hB) (by omega) (HU.out.below HB_5.out hB1) (by omega) hs9 (by omega) (by omega)).mono ?_)
              rw [HV.out, HG.out]
              rintro e w6 ⟨rfl, hb⟩
              have z6 := hb.size
              have HB_6 := hide (HB_5.out.trans (hb.mono (by omega)))
              have PR_6 := hide (PR_5.out.belowH hb)
              have PT_6 := hide (PT_5.out.belowH hb)
              have PL_6 := hide (PL_5.out.belowH hb)
              clear hs9
              clear HB_5 PR_5 PT_5 PL_5 HO_5 NX_5
              clear hb
              go_wp2_with fail
              have kR := PR_6.out.cell
              have kT := PT_6.out.cell
              refine hK.out _ _ ?hS1 (fun hHeld => ?_)
              case hS1 => (try dsimp only); (go_keep)
              clear hK K kR kT
              try simp only [Act.put, List.getElem_toArray, List.getElem_cons_succ, List.getElem_cons_zero, List.setIfInBounds_toArray, List.set_cons_zero, List.set_cons_succ]
              refine wpAnyH_ready (rs := [10]) (by kernel_rfl) (by simp) ?_
              refine AllReadyH.cons rfl (fun K hK => ?_) ?_
              · skip
                have kL := PL_6.out.cell
                have yL := PL_6.out.lt
                have fL := PL_6.out.frozen
                go_simp
                have hX2 := HX2.out
                have PL_7 := hide ((PL_6.out.set_ 0 (.int .i64 V)).set_ 1 (.int .i64 G))
                simp only [List.setIfInBounds_toArray, List.set_cons_zero, List.set_cons_succ] at PL_7
                have PR_7 := hide ((PR_6.out.far (p := ⟨X1, 0, none⟩) (by simp; omega) (.int .i64 V)).far (p := ⟨X1, 1, none⟩) (by simp; omega) (.int .i64 G))
                have PT_7 := hide ((PT_6.out.far (p := ⟨X1, 0, none⟩) (by simp; omega) (.int .i64 V)).far (p := ⟨X1, 1, none⟩) (by simp; omega) (.int .i64 G))
                have HB_7 := hide (show Below w.heap.size w ((w6.setCell ⟨X1, 0, none⟩ (.int .i64 V)).setCell ⟨X1, 1, none⟩ (.int .i64 G)) from (HB_6.out.setCell (by simp; omega) _).setCell (by simp; omega) _)
                obtain ⟨w7, hw⟩ : ∃ y, ((w6.setCell ⟨X1, 0, none⟩ (.int .i64 V)).setCell ⟨X1, 1, none⟩ (.int .i64 G)) = y := ⟨_, rfl⟩
                rw [hw] at HB_7 PR_7 PT_7 PL_7 ⊢
                clear hw kL yL fL
                clear HB_6 PR_6 PT_6 PL_6
                have kR := PR_7.out.cell
                have kT := PT_7.out.cell
                refine hK.out _ _ ?hS1 (fun hHeld => ?_)
                case hS1 => (try dsimp only); (go_keep)
                clear hK K kR kT
                try simp only [Act.put, List.getElem_toArray, List.getElem_cons_succ, List.getElem_cons_zero, List.setIfInBounds_toArray, List.set_cons_zero, List.set_cons_succ]
                refine wpAnyH_done (by kernel_rfl) ?_ _
                first | with_reducible exact HFIN.out _ _ _ _ _ _ _ _ _ _ _ _ X1 w7 HX2.out HB_7.out PR_7.out PT_7.out PL_7.out | (show KF _ _; exact HFIN.out _ _ _ _ _ _ _ _ _ _ _ _ X1 w7 HX2.out HB_7.out PR_7.out PT_7.out PL_7.out)
              exact AllReadyH.nil
            exact AllReadyH.nil
          exact AllReadyH.nil
        exact AllReadyH.nil
      exact AllReadyH.nil
    exact AllReadyH.nil
  exact AllReadyH.nil
end Go.Proofs.YtehgdhekiogppaaGreat
