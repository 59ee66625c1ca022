/- GroupsOf, the program's and the reference's. -/
import Derived.Test.YtehgdhekiogppaaGreatGps
import Derived.Test.YtehgdhekiogppaaGreatPs
namespace Go.Proofs.YtehgdhekiogppaaGreat
open Go.ChangeShapes Go.WideShapes Go.ChangeAt Go.RowKit Go.Deep
set_option linter.unusedVariables false
set_option linter.unusedSimpArgs false

/-- The groups of an order. -/
def gsR (r : Rq) : List (List Int) := grpR r.pairs (presR r)
theorem kindsTo_nil (k : Nat) : kindsTo [] k = [] := by
  unfold kindsTo
  rw [List.filter_eq_nil_iff]
  intro x _
  simp [hasB]
theorem gsR_no {r : Rq} (h : ¬ classN r = 0) : gsR r = [] := by
  unfold gsR presR
  rw [if_neg h]
  unfold grpR
  rw [kindsTo_nil]
  rfl
set_option maxRecDepth 20000 in
set_option maxHeartbeats 2000000 in
theorem groupsOf_any (r : Rq) (A1 A2 A3 : Option Addr) (n1 n2 n3 c1 c2 c3 : Nat) (lo hi : Nat) (w : World) (hr : RqAt w lo hi r A1 n1 c1 A2 n2 c2 A3 n3 c3) (hB : hi ≤ w.heap.size) :
    Calls Tryz.prog 25 #[.agg #[.int .i64 r.way, .int .i64 r.pal.w, .int .i64 r.pal.d, .int .i64 r.pal.h, .int .i64 r.pal.gram, .int .i64 r.cls, .slice A1 n1 c1, .slice A2 n2 c2, .int .i64 r.master, .slice A3 n3 c3]] w fun e w' => ∃ v rows, e = .returned v ∧ GrpAt 29 3 w' w.heap.size v rows ∧ rowsL rows = gsR r ∧ Below w.heap.size w w' := by
  have HC := hide (sound_any r A1 A2 A3 n1 n2 n3 c1 c2 c3 lo hi)
  have HPR := hide (present_any r A1 A2 A3 n1 n2 n3 c1 c2 c3 lo hi)
  have HR := hide hr
  have hpl := presR_len r
  clear hr
  by_cases h0 : classN r = 0
  · have hd : decide (classN r = 0) = true := by simp [h0]
    rw [hd] at HC
    clear hd h0
    go_enter Tryz.func25, Tryz.ntmps25
    go_wp2_with fail
    refine (HC.out _ (HR.out.below (B := w.heap.size) (by repeat (first | with_reducible exact Below.refl _ _ | with_reducible assumption | with_reducible refine Below.setCell ?_ (by (try simp) <;> omega) _ | with_reducible refine Below.alloc ?_ (by (try simp) <;> omega) _ | with_reducible refine Below.drew ?_ | with_reducible refine below_drewN ?_ _)) hB) (by (try simp) <;> omega)).mono ?_
    rintro e w1 ⟨rfl, hb1⟩
    have L1 := hide (show Below w.heap.size w w1 from (by repeat (first | with_reducible exact Below.refl _ _ | with_reducible assumption | with_reducible refine Below.setCell ?_ (by (try simp) <;> omega) _ | with_reducible refine Below.alloc ?_ (by (try simp) <;> omega) _ | with_reducible refine Below.drew ?_ | with_reducible refine below_drewN ?_ _ | with_reducible exact hb1 | with_reducible refine Below.trans ?_ (Below.mono hb1 (by (try simp) <;> omega)))))
    have P1 := hide (Blk.belowH (Blk.new w 37 (#[.int .i64 r.way, .int .i64 r.pal.w, .int .i64 r.pal.d, .int .i64 r.pal.h, .int .i64 r.pal.gram, .int .i64 r.cls, .slice A1 n1 c1, .slice A2 n2 c2, .int .i64 r.master, .slice A3 n3 c3]) (g := w.heap.size) (by simp)) hb1)
    have z1 : w.heap.size + 1 ≤ w1.heap.size := by simpa using hb1.size
    clear hb1
    have kR := P1.out.cell
    have yR := P1.out.lt
    go_wp2_with fail
    refine wp_region_held_drew (S := (fun w' => w'.cell? ⟨w.heap.size, 0, none⟩ = some (.int .i64 r.way) ∧ w'.cell? ⟨w.heap.size, 1, none⟩ = some (.int .i64 r.pal.w) ∧ w'.cell? ⟨w.heap.size, 2, none⟩ = some (.int .i64 r.pal.d) ∧ w'.cell? ⟨w.heap.size, 3, none⟩ = some (.int .i64 r.pal.h) ∧ w'.cell? ⟨w.heap.size, 4, none⟩ = some (.int .i64 r.pal.gram) ∧ w'.cell? ⟨w.heap.size, 5, none⟩ = some (.int .i64 r.cls) ∧ w'.cell? ⟨w.heap.size, 6, none⟩ = some (.slice A1 n1 c1) ∧ w'.cell? ⟨w.heap.size, 7, none⟩ = some (.slice A2 n2 c2) ∧ w'.cell? ⟨w.heap.size, 8, none⟩ = some (.int .i64 r.master) ∧ w'.cell? ⟨w.heap.size, 9, none⟩ = some (.slice A3 n3 c3))) (by kernel_rfl) ?hS0 (fun hHeld => ?_)
    case hS0 => (go_keep)
    refine wpAnyH_take (i := 0) (v := ?_) rfl (by kernel_rfl) (by kernel_rfl) (by kernel_rfl) (fun _ _ _ h => h) (Or.inl ⟨by rfl, ?_⟩) (by assumption) ?_
    rotate_left 1
    · intro w hSw
      try dsimp only at hSw
      go_simp
      try with_reducible rfl
    simp only [Act.put, List.getElem_toArray, List.getElem_cons_succ, List.getElem_cons_zero, List.setIfInBounds_toArray, List.set_cons_zero, List.set_cons_succ]
    refine wpAnyH_take (i := 1) (v := ?_) rfl (by kernel_rfl) (by kernel_rfl) (by kernel_rfl) (fun _ _ _ h => h) (Or.inl ⟨by rfl, ?_⟩) (by assumption) ?_
    rotate_left 1
    · intro w hSw
      try dsimp only at hSw
      go_simp
      try with_reducible rfl
    simp only [Act.put, List.getElem_toArray, List.getElem_cons_succ, List.getElem_cons_zero, List.setIfInBounds_toArray, List.set_cons_zero, List.set_cons_succ]
    refine wpAnyH_take (i := 2) (v := ?_) rfl (by kernel_rfl) (by kernel_rfl) (by kernel_rfl) (fun _ _ _ h => h) (Or.inl ⟨by rfl, ?_⟩) (by assumption) ?_
    rotate_left 1
    · intro w hSw
      try dsimp only at hSw
      go_simp
      try with_reducible rfl
    simp only [Act.put, List.getElem_toArray, List.getElem_cons_succ, List.getElem_cons_zero, List.setIfInBounds_toArray, List.set_cons_zero, List.set_cons_succ]
    refine wpAnyH_ready (rs := [3]) (by kernel_rfl) (by simp) ?_
    refine AllReadyH.cons rfl (fun K hK => ?_) AllReadyH.nil
    go_simp
    refine (HPR.out _ ((HR.out.below (B := w.heap.size) L1.out hB).drew) (by (try simp) <;> omega)).mono ?_
    rintro e w3 ⟨v3, rfl, ho3, hb3⟩
    have z3 : w1.heap.size ≤ w3.heap.size := by have := hb3.size; simp at this; omega
    have P3 := hide (Blk.belowH P1.out.drew hb3)
    have HR3 := hide (((HR.out.below (B := w.heap.size) L1.out hB).drew).below hb3 (by (try simp) <;> omega))
    have L3 := hide (L1.out.drew.trans (hb3.mono (by (try simp) <;> omega)))
    obtain ⟨m3, hm3⟩ : ∃ m, (presR r).length = m := ⟨_, rfl⟩
    obtain ⟨A4, c4, rfl, s4⟩ := Own.slk' encInt_len hm3 ho3
    have S4 := hide s4
    have hm4 : m3 ≤ 4194304 := by omega
    have k3 := P3.out.cell
    have y3 := P3.out.lt
    clear ho3 hb3 s4 hm3
    go_wp2_with fail
    refine hK.out _ _ ?hS1 (fun hHeld => ?_)
    case hS1 => (try dsimp only); (first | (with_reducible assumption) | go_keep)
    clear hK K
    try simp only [Act.put, List.getElem_toArray, List.getElem_cons_succ, List.getElem_cons_zero, List.setIfInBounds_toArray, List.set_cons_zero, List.set_cons_succ]
    refine wpAnyH_ready (rs := [4]) (by kernel_rfl) (by simp) ?_
    refine AllReadyH.cons rfl (fun K hK => ?_) AllReadyH.nil
    go_simp
    refine (groups_any lo hi A1 n1 c1 r.pairs _ _ A4 m3 c4 (presR r) _ HR3.out.pr (by omega) S4.out (Nat.le_refl _) hm4).mono ?_
    rintro e w5 ⟨v5, rows, rfl, hg5, hE5, hb5⟩
    have z5 := hb5.size
    have P5 := hide (Blk.belowH P3.out hb5)
    have G5 := hide hg5
    have E5 := hide hE5
    have L5 := hide (L3.out.trans (hb5.mono (by omega)))
    have k5 := P5.out.cell
    have y5 := P5.out.lt
    clear hg5 hE5 hb5 k3 y3
    go_wp2_with fail
    refine hK.out _ _ ?hS1 (fun hHeld => ?_)
    case hS1 => (try dsimp only); (first | (with_reducible assumption) | go_keep)
    clear hK K
    try simp only [Act.put, List.getElem_toArray, List.getElem_cons_succ, List.getElem_cons_zero, List.setIfInBounds_toArray, List.set_cons_zero, List.set_cons_succ]
    refine wpAnyH_take (i := 5) (v := ?_) rfl (by kernel_rfl) (by kernel_rfl) (by kernel_rfl) (fun _ _ _ h => h) (Or.inl ⟨by rfl, ?_⟩) (by assumption) ?_
    rotate_left 1
    · intro w hSw
      try dsimp only at hSw
      go_simp
      try with_reducible rfl
    simp only [Act.put, List.getElem_toArray, List.getElem_cons_succ, List.getElem_cons_zero, List.setIfInBounds_toArray, List.set_cons_zero, List.set_cons_succ]
    refine wpAnyH_done (by kernel_rfl) ?_ _
    clear k5 y5
    go_wp2_with fail
    go_ret
    exact ⟨_, rows, rfl, G5.out.base_le (by (try simp at *) <;> omega), E5.out, L5.out⟩
  · have HU := hide (gsR_no h0)
    have hd : decide (classN r = 0) = false := by simp [h0]
    rw [hd] at HC
    clear hd h0
    go_enter Tryz.func25, Tryz.ntmps25
    go_wp2_with fail
    refine (HC.out _ (HR.out.below (B := w.heap.size) (by repeat (first | with_reducible exact Below.refl _ _ | with_reducible assumption | with_reducible refine Below.setCell ?_ (by (try simp) <;> omega) _ | with_reducible refine Below.alloc ?_ (by (try simp) <;> omega) _ | with_reducible refine Below.drew ?_ | with_reducible refine below_drewN ?_ _)) hB) (by (try simp) <;> omega)).mono ?_
    rintro e w1 ⟨rfl, hb1⟩
    go_wp2
    go_ret
    exact ⟨_, [], rfl, GrpAt.nil_ _ _ _ _ _ (Own.nil_ _ _), HU.out.symm, (by repeat (first | with_reducible exact Below.refl _ _ | with_reducible assumption | with_reducible refine Below.setCell ?_ (by (try simp) <;> omega) _ | with_reducible refine Below.alloc ?_ (by (try simp) <;> omega) _ | with_reducible refine Below.drew ?_ | with_reducible refine below_drewN ?_ _ | with_reducible exact hb1 | with_reducible refine Below.trans ?_ (Below.mono hb1 (by (try simp) <;> omega))))⟩
set_option maxRecDepth 20000 in
set_option maxHeartbeats 2000000 in
theorem sgroupsOf_any (r : Rq) (A1 A2 A3 : Option Addr) (n1 n2 n3 c1 c2 c3 : Nat) (lo hi : Nat) (w : World) (hr : RqAt w lo hi r A1 n1 c1 A2 n2 c2 A3 n3 c3) (hB : hi ≤ w.heap.size) :
    Calls Tryz.prog 33 #[.agg #[.int .i64 r.way, .int .i64 r.pal.w, .int .i64 r.pal.d, .int .i64 r.pal.h, .int .i64 r.pal.gram, .int .i64 r.cls, .slice A1 n1 c1, .slice A2 n2 c2, .int .i64 r.master, .slice A3 n3 c3]] w fun e w' => ∃ v rows, e = .returned v ∧ GrpAt 29 3 w' w.heap.size v rows ∧ rowsL rows = gsR r ∧ Below w.heap.size w w' := by
  have HPR := hide (spresent_any r A1 A2 A3 n1 n2 n3 c1 c2 c3 lo hi)
  have HR := hide hr
  have hpl := presR_len r
  clear hr
  have L1 := hide (show Below w.heap.size w (w.alloc (.cells (#[.int .i64 r.way, .int .i64 r.pal.w, .int .i64 r.pal.d, .int .i64 r.pal.h, .int .i64 r.pal.gram, .int .i64 r.cls, .slice A1 n1 c1, .slice A2 n2 c2, .int .i64 r.master, .slice A3 n3 c3]) 37)) from (by repeat (first | with_reducible exact Below.refl _ _ | with_reducible assumption | with_reducible refine Below.setCell ?_ (by (try simp) <;> omega) _ | with_reducible refine Below.alloc ?_ (by (try simp) <;> omega) _ | with_reducible refine Below.drew ?_ | with_reducible refine below_drewN ?_ _)))
  have P1 := hide (Blk.new w 37 (#[.int .i64 r.way, .int .i64 r.pal.w, .int .i64 r.pal.d, .int .i64 r.pal.h, .int .i64 r.pal.gram, .int .i64 r.cls, .slice A1 n1 c1, .slice A2 n2 c2, .int .i64 r.master, .slice A3 n3 c3]) (g := w.heap.size) rfl)
  have kR := P1.out.cell
  have yR := P1.out.lt
  go_enter Tryz.func33, Tryz.ntmps33
  go_wp2_with fail
  refine wp_region_held_drew (S := (fun w' => w'.cell? ⟨w.heap.size, 0, none⟩ = some (.int .i64 r.way) ∧ w'.cell? ⟨w.heap.size, 1, none⟩ = some (.int .i64 r.pal.w) ∧ w'.cell? ⟨w.heap.size, 2, none⟩ = some (.int .i64 r.pal.d) ∧ w'.cell? ⟨w.heap.size, 3, none⟩ = some (.int .i64 r.pal.h) ∧ w'.cell? ⟨w.heap.size, 4, none⟩ = some (.int .i64 r.pal.gram) ∧ w'.cell? ⟨w.heap.size, 5, none⟩ = some (.int .i64 r.cls) ∧ w'.cell? ⟨w.heap.size, 6, none⟩ = some (.slice A1 n1 c1) ∧ w'.cell? ⟨w.heap.size, 7, none⟩ = some (.slice A2 n2 c2) ∧ w'.cell? ⟨w.heap.size, 8, none⟩ = some (.int .i64 r.master) ∧ w'.cell? ⟨w.heap.size, 9, none⟩ = some (.slice A3 n3 c3))) (by kernel_rfl) ?hS0 (fun hHeld => ?_)
  case hS0 => (go_keep)
  refine wpAnyH_take (i := 0) (v := ?_) rfl (by kernel_rfl) (by kernel_rfl) (by kernel_rfl) (fun _ _ _ h => h) (Or.inl ⟨by rfl, ?_⟩) (by assumption) ?_
  rotate_left 1
  · intro w hSw
    try dsimp only at hSw
    go_simp
    try with_reducible rfl
  simp only [Act.put, List.getElem_toArray, List.getElem_cons_succ, List.getElem_cons_zero, List.setIfInBounds_toArray, List.set_cons_zero, List.set_cons_succ]
  refine wpAnyH_take (i := 1) (v := ?_) rfl (by kernel_rfl) (by kernel_rfl) (by kernel_rfl) (fun _ _ _ h => h) (Or.inl ⟨by rfl, ?_⟩) (by assumption) ?_
  rotate_left 1
  · intro w hSw
    try dsimp only at hSw
    go_simp
    try with_reducible rfl
  simp only [Act.put, List.getElem_toArray, List.getElem_cons_succ, List.getElem_cons_zero, List.setIfInBounds_toArray, List.set_cons_zero, List.set_cons_succ]
  refine wpAnyH_take (i := 2) (v := ?_) rfl (by kernel_rfl) (by kernel_rfl) (by kernel_rfl) (fun _ _ _ h => h) (Or.inl ⟨by rfl, ?_⟩) (by assumption) ?_
  rotate_left 1
  · intro w hSw
    try dsimp only at hSw
    go_simp
    try with_reducible rfl
  simp only [Act.put, List.getElem_toArray, List.getElem_cons_succ, List.getElem_cons_zero, List.setIfInBounds_toArray, List.set_cons_zero, List.set_cons_succ]
  refine wpAnyH_ready (rs := [3]) (by kernel_rfl) (by simp) ?_
  refine AllReadyH.cons rfl (fun K hK => ?_) AllReadyH.nil
  go_simp
  refine (HPR.out _ ((HR.out.alloc hB _).drew) (by (try simp) <;> omega)).mono ?_
  rintro e w3 ⟨v3, rfl, ho3, hb3⟩
  have z3 : w.heap.size ≤ w3.heap.size := by have := hb3.size; simp at this; omega
  have P3 := hide (Blk.belowH P1.out.drew hb3)
  have HR3 := hide (((HR.out.alloc hB _).drew).below hb3 (by (try simp) <;> omega))
  have L3 := hide (L1.out.drew.trans (hb3.mono (by (try simp) <;> omega)))
  obtain ⟨m3, hm3⟩ : ∃ m, (presR r).length = m := ⟨_, rfl⟩
  obtain ⟨A4, c4, rfl, s4⟩ := Own.slk' encInt_len hm3 ho3
  have S4 := hide s4
  have hm4 : m3 ≤ 4194304 := by omega
  have k3 := P3.out.cell
  have y3 := P3.out.lt
  clear ho3 hb3 s4 hm3
  go_wp2_with fail
  refine hK.out _ _ ?hS1 (fun hHeld => ?_)
  case hS1 => (try dsimp only); (first | (with_reducible assumption) | go_keep)
  clear hK K
  try simp only [Act.put, List.getElem_toArray, List.getElem_cons_succ, List.getElem_cons_zero, List.setIfInBounds_toArray, List.set_cons_zero, List.set_cons_succ]
  refine wpAnyH_ready (rs := [4]) (by kernel_rfl) (by simp) ?_
  refine AllReadyH.cons rfl (fun K hK => ?_) AllReadyH.nil
  go_simp
  refine (sgroups_any lo hi A1 n1 c1 r.pairs _ _ A4 m3 c4 (presR r) _ HR3.out.pr (by omega) S4.out (Nat.le_refl _)).mono ?_
  rintro e w5 ⟨v5, rows, rfl, hg5, hE5, hb5⟩
  have z5 := hb5.size
  have P5 := hide (Blk.belowH P3.out hb5)
  have G5 := hide hg5
  have E5 := hide hE5
  have L5 := hide (L3.out.trans (hb5.mono (by omega)))
  have k5 := P5.out.cell
  have y5 := P5.out.lt
  clear hg5 hE5 hb5 k3 y3
  go_wp2_with fail
  refine hK.out _ _ ?hS1 (fun hHeld => ?_)
  case hS1 => (try dsimp only); (first | (with_reducible assumption) | go_keep)
  clear hK K
  try simp only [Act.put, List.getElem_toArray, List.getElem_cons_succ, List.getElem_cons_zero, List.setIfInBounds_toArray, List.set_cons_zero, List.set_cons_succ]
  refine wpAnyH_take (i := 5) (v := ?_) rfl (by kernel_rfl) (by kernel_rfl) (by kernel_rfl) (fun _ _ _ h => h) (Or.inl ⟨by rfl, ?_⟩) (by assumption) ?_
  rotate_left 1
  · intro w hSw
    try dsimp only at hSw
    go_simp
    try with_reducible rfl
  simp only [Act.put, List.getElem_toArray, List.getElem_cons_succ, List.getElem_cons_zero, List.setIfInBounds_toArray, List.set_cons_zero, List.set_cons_succ]
  refine wpAnyH_done (by kernel_rfl) ?_ _
  clear k5 y5
  go_wp2_with fail
  go_ret
  exact ⟨_, rows, rfl, G5.out.base_le (by (try simp at *) <;> omega), E5.out, L5.out⟩
end Go.Proofs.YtehgdhekiogppaaGreat
