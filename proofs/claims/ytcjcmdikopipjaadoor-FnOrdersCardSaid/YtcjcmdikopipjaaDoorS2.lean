/- The laws' functions over a whole order: szRequest, toRequest, eqRequest. -/
import Derived.Test.YtcjcmdikopipjaaDoorS1
namespace Go.Proofs.YtcjcmdikopipjaaDoor
open Go.ChangeShapes Go.WideShapes Go.ChangeAt Go.RowKit Go.Deep
set_option linter.unusedVariables false

theorem szRequest_ok (r : Rq) (A1 A2 A3 : Option Addr) (n1 n2 n3 c1 c2 c3 : Nat) (left : Int) (w : World) (h1 : (n1 : Int) + n2 + n3 ≤ left) (h2 : left ≤ 1048576) (k1 : n1 ≤ c1 ∧ c1 ≤ 9223372036854775807) (k2 : n2 ≤ c2 ∧ c2 ≤ 9223372036854775807) (k3 : n3 ≤ c3 ∧ c3 ≤ 9223372036854775807) :
    Calls Tryd.prog 14 #[.agg #[.int .i64 r.way, .int .i64 r.pal.w, .int .i64 r.pal.d, .int .i64 r.pal.h, .int .i64 r.pal.gram, .int .i64 r.cls, .slice A1 n1 c1, .slice A2 n2 c2, .int .i64 r.master, .slice A3 n3 c3], .int .i64 left] w fun e w' => e = .returned (.int .i64 (left - n1 - n2 - n3)) ∧ Below w.heap.size w w' := by
  have e1 : ¬ (left - n1 < 0) := by omega
  have e2 : ¬ (left - n1 - n2 < 0) := by omega
  have e3 : ¬ (left - n1 - n2 - n3 < 0) := by omega
  have e4 : ¬ ((-1 : Int) < 0) → False := by omega
  go_enter Tryd.func14, Tryd.ntmps14
  go_wp2_with (first
    | (go_at_call 38; refine (szPairS_ok _ _ _ _ _ (by omega) (by omega) k1.1 k1.2).mono ?_; rintro e w1 ⟨rfl, rfl⟩)
    | (go_at_call 39; refine (szTypeS_ok _ _ _ _ _ (by omega) (by omega) k2.1 k2.2).mono ?_; rintro e w1 ⟨rfl, rfl⟩)
    | (go_at_call 40; refine (szItemS_ok _ _ _ _ _ (by omega) (by omega) k3.1 k3.2).mono ?_; rintro e w1 ⟨rfl, rfl⟩))
  go_ret
  exact ⟨rfl, (Below.refl _ _).alloc (Nat.le_refl _) _⟩
theorem szRequest_no (r : Rq) (A1 A2 A3 : Option Addr) (n1 n2 n3 c1 c2 c3 : Nat) (left : Int) (w : World) (h1 : left < (n1 : Int) + n2 + n3) (h0 : 0 ≤ left) (h2 : left ≤ 1048576) (k1 : n1 ≤ c1 ∧ c1 ≤ 9223372036854775807) (k2 : n2 ≤ c2 ∧ c2 ≤ 9223372036854775807) (k3 : n3 ≤ c3 ∧ c3 ≤ 9223372036854775807) :
    Calls Tryd.prog 14 #[.agg #[.int .i64 r.way, .int .i64 r.pal.w, .int .i64 r.pal.d, .int .i64 r.pal.h, .int .i64 r.pal.gram, .int .i64 r.cls, .slice A1 n1 c1, .slice A2 n2 c2, .int .i64 r.master, .slice A3 n3 c3], .int .i64 left] w fun e w' => e = .returned (.int .i64 (-1)) ∧ Below w.heap.size w w' := by
  have e4 : ((-1 : Int) < 0) := by omega
  by_cases d1 : left < (n1 : Int)
  · go_enter Tryd.func14, Tryd.ntmps14
    go_wp2_with (go_at_call 38; refine (szPairS_no _ _ _ _ _ d1 h0 h2 k1.1 k1.2).mono ?_; rintro e w1 ⟨rfl, rfl⟩)
    go_ret
    exact ⟨rfl, (Below.refl _ _).alloc (Nat.le_refl _) _⟩
  have e1 : ¬ (left - n1 < 0) := by omega
  by_cases d2 : left - n1 < (n2 : Int)
  · go_enter Tryd.func14, Tryd.ntmps14
    go_wp2_with (first
      | (go_at_call 38; refine (szPairS_ok _ _ _ _ _ (by omega) h2 k1.1 k1.2).mono ?_; rintro e w1 ⟨rfl, rfl⟩)
      | (go_at_call 39; refine (szTypeS_no _ _ _ _ _ d2 (by omega) (by omega) k2.1 k2.2).mono ?_; rintro e w1 ⟨rfl, rfl⟩))
    go_ret
    exact ⟨rfl, (Below.refl _ _).alloc (Nat.le_refl _) _⟩
  have e2 : ¬ (left - n1 - n2 < 0) := by omega
  have d3 : left - n1 - n2 < (n3 : Int) := by omega
  go_enter Tryd.func14, Tryd.ntmps14
  go_wp2_with (first
    | (go_at_call 38; refine (szPairS_ok _ _ _ _ _ (by omega) h2 k1.1 k1.2).mono ?_; rintro e w1 ⟨rfl, rfl⟩)
    | (go_at_call 39; refine (szTypeS_ok _ _ _ _ _ (by omega) (by omega) k2.1 k2.2).mono ?_; rintro e w1 ⟨rfl, rfl⟩)
    | (go_at_call 40; refine (szItemS_no _ _ _ _ _ d3 (by omega) (by omega) k3.1 k3.2).mono ?_; rintro e w1 ⟨rfl, rfl⟩))
  go_ret
  exact ⟨rfl, (Below.refl _ _).alloc (Nat.le_refl _) _⟩
set_option maxHeartbeats 400000 in
theorem toRequest_any (r : Rq) (A1 A2 A3 : Option Addr) (n1 n2 n3 c1 c2 c3 : Nat) (lo hi : Nat) (w : World) (hr : RqAt w lo hi r A1 n1 c1 A2 n2 c2 A3 n3 c3) (hB : hi ≤ w.heap.size) (hn : n1 + n2 + n3 ≤ 1048576) :
    Calls Tryd.prog 16 #[.agg #[.int .i64 r.way, .int .i64 r.pal.w, .int .i64 r.pal.d, .int .i64 r.pal.h, .int .i64 r.pal.gram, .int .i64 r.cls, .slice A1 n1 c1, .slice A2 n2 c2, .int .i64 r.master, .slice A3 n3 c3]] w fun e w' => ∃ A1' A2' A3', e = .returned (.agg #[.int .i64 r.way, .int .i64 r.pal.w, .int .i64 r.pal.d, .int .i64 r.pal.h, .int .i64 r.pal.gram, .int .i64 r.cls, .slice A1' n1 n1, .slice A2' n2 n2, .int .i64 r.master, .slice A3' n3 n3]) ∧
      RqAt w' w.heap.size w'.heap.size r A1' n1 n1 A2' n2 n2 A3' n3 n3 ∧ Below w.heap.size w w' := by
  go_enter Tryd.func16, Tryd.ntmps16
  go_wp2_with fail
  refine (toPallet_any _ _ _ _ _).mono ?_
  rintro e w1 ⟨rfl, hb1⟩
  have ne0 : w.heap.size ≠ w.heap.size + 1 + 1 := by omega
  have ne1 : w.heap.size + 1 ≠ w.heap.size + 1 + 1 := by omega
  have P0_1 := hide ((((Blk.new w _ _ rfl).alloc _).alloc _).belowH hb1)
  have P1_1 := hide (((Blk.new (w.alloc _) _ _ (g := w.heap.size + 1) (by simp)).alloc _).belowH hb1)
  have P2_1 := hide ((Blk.new ((w.alloc _).alloc _) _ _ (g := w.heap.size + 1 + 1) (by simp)).belowH hb1)
  have L1 := hide (show Below w.heap.size w w1 from (by repeat (first | with_reducible exact Below.refl _ _ | with_reducible assumption | with_reducible refine Below.setCell ?_ (by (try simp) <;> omega) _ | with_reducible refine Below.alloc ?_ (by (try simp) <;> omega) _ | with_reducible refine Below.drew ?_ | with_reducible refine below_drewN ?_ _ | with_reducible exact hb1 | with_reducible refine Below.trans ?_ (Below.mono hb1 (by (try simp) <;> omega)))))
  clear hb1
  have k0_1 := P0_1.out.cell
  have k1_1 := P1_1.out.cell
  have k2_1 := P2_1.out.cell
  have f1_1 := P1_1.out.frozen
  have f2_1 := P2_1.out.frozen
  have G1 : w.heap.size + 1 + 1 < w1.heap.size := P2_1.out.lt
  go_wp2_with fail
  refine (toPairS_any lo hi A1 n1 c1 r.pairs _ (hr.pr.below (B := w.heap.size) (by repeat (first | with_reducible exact Below.refl _ _ | with_reducible assumption | with_reducible refine Below.setCell ?_ (by (try simp) <;> omega) _ | with_reducible refine Below.alloc ?_ (by (try simp) <;> omega) _ | with_reducible refine Below.drew ?_ | with_reducible refine below_drewN ?_ _ | with_reducible exact L1.out | with_reducible refine Below.trans ?_ (Below.mono L1.out (by (try simp) <;> omega)))) hB) (by (try simp) <;> omega) (by omega)).mono ?_
  rintro e w2 ⟨A1', rfl, hs1, hb2⟩
  simp only [World.size_setCell] at hs1
  have Z2 : w1.heap.size ≤ w2.heap.size := by simpa using hb2.size
  have HS1 := hide hs1
  clear hs1
  have P0_2 := hide (Blk.belowH (((((P0_1.out.far (p := ⟨w.heap.size + 1 + 1, 1, none⟩) ne0 _).far (p := ⟨w.heap.size + 1 + 1, 2, none⟩) ne0 _).far (p := ⟨w.heap.size + 1 + 1, 3, none⟩) ne0 _).far (p := ⟨w.heap.size + 1 + 1, 4, none⟩) ne0 _).far (p := ⟨w.heap.size + 1 + 1, 5, none⟩) ne0 _) hb2)
  have P1_2 := hide (Blk.belowH (((((P1_1.out.far (p := ⟨w.heap.size + 1 + 1, 1, none⟩) ne1 _).far (p := ⟨w.heap.size + 1 + 1, 2, none⟩) ne1 _).far (p := ⟨w.heap.size + 1 + 1, 3, none⟩) ne1 _).far (p := ⟨w.heap.size + 1 + 1, 4, none⟩) ne1 _).far (p := ⟨w.heap.size + 1 + 1, 5, none⟩) ne1 _) hb2)
  have P2_2 := hide (Blk.belowH (((((P2_1.out.set_ 1 _).set_ 2 _).set_ 3 _).set_ 4 _).set_ 5 _) hb2)
  have L2 := hide (show Below w.heap.size w w2 from (by repeat (first | with_reducible exact Below.refl _ _ | with_reducible assumption | with_reducible refine Below.setCell ?_ (by (try simp) <;> omega) _ | with_reducible refine Below.alloc ?_ (by (try simp) <;> omega) _ | with_reducible refine Below.drew ?_ | with_reducible refine below_drewN ?_ _ | with_reducible exact L1.out | with_reducible exact hb2 | with_reducible refine Below.trans ?_ (Below.mono L1.out (by (try simp) <;> omega)) | with_reducible refine Below.trans ?_ (Below.mono hb2 (by (try simp) <;> omega)))))
  clear hb2 k0_1 k1_1 k2_1 f1_1 f2_1 P0_1 P1_1 P2_1 L1
  have k0_2 := P0_2.out.cell
  have k1_2 := P1_2.out.cell
  have k2_2 := P2_2.out.cell
  have f1_2 := P1_2.out.frozen
  have f2_2 := P2_2.out.frozen
  go_wp2_with fail
  refine (toTypeS_any lo hi A2 n2 c2 r.types _ (hr.ty.below (B := w.heap.size) (by repeat (first | with_reducible exact Below.refl _ _ | with_reducible assumption | with_reducible refine Below.setCell ?_ (by (try simp) <;> omega) _ | with_reducible refine Below.alloc ?_ (by (try simp) <;> omega) _ | with_reducible refine Below.drew ?_ | with_reducible refine below_drewN ?_ _ | with_reducible exact L2.out | with_reducible refine Below.trans ?_ (Below.mono L2.out (by (try simp) <;> omega)))) hB) (by (try simp) <;> omega) (by omega)).mono ?_
  rintro e w3 ⟨A2', rfl, hs2, hb3⟩
  simp only [World.size_setCell] at hs2
  have Z3 : w2.heap.size ≤ w3.heap.size := by simpa using hb3.size
  have HS2 := hide hs2
  have HS1' := hide ((HS1.out.setCell (.inl G1) _).below hb3 (by simp))
  clear hs2 HS1
  have P0_3 := hide (Blk.belowH (P0_2.out.far (p := ⟨w.heap.size + 1 + 1, 6, none⟩) ne0 _) hb3)
  have P1_3 := hide (Blk.belowH (P1_2.out.far (p := ⟨w.heap.size + 1 + 1, 6, none⟩) ne1 _) hb3)
  have P2_3 := hide (Blk.belowH (P2_2.out.set_ 6 _) hb3)
  have L3 := hide (show Below w.heap.size w w3 from (by repeat (first | with_reducible exact Below.refl _ _ | with_reducible assumption | with_reducible refine Below.setCell ?_ (by (try simp) <;> omega) _ | with_reducible refine Below.alloc ?_ (by (try simp) <;> omega) _ | with_reducible refine Below.drew ?_ | with_reducible refine below_drewN ?_ _ | with_reducible exact L2.out | with_reducible exact hb3 | with_reducible refine Below.trans ?_ (Below.mono L2.out (by (try simp) <;> omega)) | with_reducible refine Below.trans ?_ (Below.mono hb3 (by (try simp) <;> omega)))))
  clear hb3 k0_2 k1_2 k2_2 f1_2 f2_2 P0_2 P1_2 P2_2 L2
  have k0_3 := P0_3.out.cell
  have k1_3 := P1_3.out.cell
  have k2_3 := P2_3.out.cell
  have f1_3 := P1_3.out.frozen
  have f2_3 := P2_3.out.frozen
  go_wp2_with fail
  refine (toItemS_any lo hi A3 n3 c3 r.items _ (hr.it.below (B := w.heap.size) (by repeat (first | with_reducible exact Below.refl _ _ | with_reducible assumption | with_reducible refine Below.setCell ?_ (by (try simp) <;> omega) _ | with_reducible refine Below.alloc ?_ (by (try simp) <;> omega) _ | with_reducible refine Below.drew ?_ | with_reducible refine below_drewN ?_ _ | with_reducible exact L3.out | with_reducible refine Below.trans ?_ (Below.mono L3.out (by (try simp) <;> omega)))) hB) (by (try simp) <;> omega) (by omega)).mono ?_
  rintro e w4 ⟨A3', rfl, hs3, hb4⟩
  simp only [World.size_setCell] at hs3
  have Z4 : w3.heap.size ≤ w4.heap.size := by simpa using hb4.size
  have HS3 := hide hs3
  have HS1 := hide (((HS1'.out.setCell (.inl G1) _).setCell (.inl G1) _).below hb4 (by simp; omega))
  have HS2' := hide (((HS2.out.setCell (.inl (Nat.lt_of_lt_of_le G1 Z2)) _).setCell (.inl (Nat.lt_of_lt_of_le G1 Z2)) _).below hb4 (by simp))
  clear hs3 HS1' HS2
  have P0_4 := hide (Blk.belowH ((P0_3.out.far (p := ⟨w.heap.size + 1 + 1, 7, none⟩) ne0 _).far (p := ⟨w.heap.size + 1 + 1, 8, none⟩) ne0 _) hb4)
  have P1_4 := hide (Blk.belowH ((P1_3.out.far (p := ⟨w.heap.size + 1 + 1, 7, none⟩) ne1 _).far (p := ⟨w.heap.size + 1 + 1, 8, none⟩) ne1 _) hb4)
  have P2_4 := hide (Blk.belowH ((P2_3.out.set_ 7 _).set_ 8 _) hb4)
  have L4 := hide (show Below w.heap.size w w4 from (by repeat (first | with_reducible exact Below.refl _ _ | with_reducible assumption | with_reducible refine Below.setCell ?_ (by (try simp) <;> omega) _ | with_reducible refine Below.alloc ?_ (by (try simp) <;> omega) _ | with_reducible refine Below.drew ?_ | with_reducible refine below_drewN ?_ _ | with_reducible exact L3.out | with_reducible exact hb4 | with_reducible refine Below.trans ?_ (Below.mono L3.out (by (try simp) <;> omega)) | with_reducible refine Below.trans ?_ (Below.mono hb4 (by (try simp) <;> omega)))))
  clear hb4 k0_3 k1_3 k2_3 f1_3 f2_3 P0_3 P1_3 P2_3 L3
  have k0_4 := P0_4.out.cell
  have k1_4 := P1_4.out.cell
  have k2_4 := P2_4.out.cell
  have f1_4 := P1_4.out.frozen
  have f2_4 := P2_4.out.frozen
  go_wp2
  have PF := (((((((((((P1_4.out.far (p := ⟨w.heap.size + 1 + 1, 9, none⟩) ne1 (.slice A3' n3 n3)).set_ 0 (.int .i64 r.way)).set_ 1 (.int .i64 r.pal.w)).set_ 2 (.int .i64 r.pal.d)).set_ 3 (.int .i64 r.pal.h)).set_ 4 (.int .i64 r.pal.gram)).set_ 5 (.int .i64 r.cls)).set_ 6 (.slice A1' n1 n1)).set_ 7 (.slice A2' n2 n2)).set_ 8 (.int .i64 r.master)).set_ 9 (.slice A3' n3 n3))
  simp only [List.setIfInBounds_toArray, List.set_cons_zero, List.set_cons_succ] at PF
  refine ret_cell Tryd.results16 rfl PF Tryd.underlying41 rfl (by kernel_rfl) rfl ?_
  have G2 : w.heap.size + 1 < w1.heap.size := by omega
  refine ⟨A1', A2', A3', rfl, ⟨SlK.more (lo := w1.heap.size) (hi := w2.heap.size) ?_ (by omega) (by (try simp) <;> omega), SlK.more (lo := w2.heap.size) (hi := w3.heap.size) ?_ (by omega) (by (try simp) <;> omega), SlK.more (lo := w3.heap.size) (hi := w4.heap.size) ?_ (by omega) (by (try simp) <;> omega)⟩, (by repeat (first | with_reducible exact Below.refl _ _ | with_reducible assumption | with_reducible refine Below.setCell ?_ (by (try simp) <;> omega) _ | with_reducible refine Below.alloc ?_ (by (try simp) <;> omega) _ | with_reducible refine Below.drew ?_ | with_reducible refine below_drewN ?_ _ | with_reducible exact L4.out | with_reducible refine Below.trans ?_ (Below.mono L4.out (by (try simp) <;> omega))))⟩
  · repeat (first | with_reducible exact HS1.out | with_reducible refine SlK.setCell ?_ (.inl (by show _ + _ < _; omega)) _)
  · repeat (first | with_reducible exact HS2'.out | with_reducible refine SlK.setCell ?_ (.inl (by show _ + _ < _; omega)) _)
  · repeat (first | with_reducible exact HS3.out | with_reducible refine SlK.setCell ?_ (.inl (by show _ + _ < _; omega)) _)
set_option maxHeartbeats 800000 in
theorem eqPallet_any (x : Pl) (w : World) : Calls Tryd.prog 51 #[.agg #[.int .i64 x.w, .int .i64 x.d, .int .i64 x.h, .int .i64 x.gram], .agg #[.int .i64 x.w, .int .i64 x.d, .int .i64 x.h, .int .i64 x.gram]] w fun e w' => e = .returned (.bool true) ∧ Below w.heap.size w w' := by
  go_enter Tryd.func51, Tryd.ntmps51
  go_wp2
  go_ret
  exact ⟨rfl, ((Below.refl _ _).alloc (Nat.le_refl _) _).alloc (by simp) _⟩
set_option maxHeartbeats 1000000 in
theorem eqRequest_any (r : Rq) (A1 A2 A3 : Option Addr) (n1 n2 n3 c1 c2 c3 : Nat) (A1' A2' A3' : Option Addr) (n1' n2' n3' c1' c2' c3' : Nat) (lo hi lo' hi' : Nat) (w : World) (hr : RqAt w lo hi r A1 n1 c1 A2 n2 c2 A3 n3 c3) (hB : hi ≤ w.heap.size) (hr' : RqAt w lo' hi' r A1' n1' c1' A2' n2' c2' A3' n3' c3') (hB' : hi' ≤ w.heap.size) :
    Calls Tryd.prog 18 #[.agg #[.int .i64 r.way, .int .i64 r.pal.w, .int .i64 r.pal.d, .int .i64 r.pal.h, .int .i64 r.pal.gram, .int .i64 r.cls, .slice A1 n1 c1, .slice A2 n2 c2, .int .i64 r.master, .slice A3 n3 c3], .agg #[.int .i64 r.way, .int .i64 r.pal.w, .int .i64 r.pal.d, .int .i64 r.pal.h, .int .i64 r.pal.gram, .int .i64 r.cls, .slice A1' n1' c1', .slice A2' n2' c2', .int .i64 r.master, .slice A3' n3' c3']] w fun e w' => e = .returned (.bool true) ∧ Below w.heap.size w w' := by
  obtain rfl : n1' = n1 := by rw [← hr.pr.len, ← hr'.pr.len]
  obtain rfl : n2' = n2 := by rw [← hr.ty.len, ← hr'.ty.len]
  obtain rfl : n3' = n3 := by rw [← hr.it.len, ← hr'.it.len]
  go_enter Tryd.func18, Tryd.ntmps18
  go_wp2_with fail
  refine (eqPallet_any r.pal _).mono ?_
  rintro e w1 ⟨rfl, hb1⟩
  have P0_1 := hide (((Blk.new w _ _ rfl).alloc _).belowH hb1)
  have P1_1 := hide ((Blk.new (w.alloc _) _ _ (g := w.heap.size + 1) (by simp)).belowH hb1)
  have L1 := hide (show Below w.heap.size w w1 from (by repeat (first | with_reducible exact Below.refl _ _ | with_reducible assumption | with_reducible refine Below.setCell ?_ (by (try simp) <;> omega) _ | with_reducible refine Below.alloc ?_ (by (try simp) <;> omega) _ | with_reducible refine Below.drew ?_ | with_reducible refine below_drewN ?_ _ | with_reducible exact hb1 | with_reducible refine Below.trans ?_ (Below.mono hb1 (by (try simp) <;> omega)))))
  have k0_1 := P0_1.out.cell
  have k1_1 := P1_1.out.cell
  clear hb1
  go_wp2_with fail
  have LW := L1.out.size
  refine (eqPairS_any lo hi lo' hi' A1 A1' n1' c1 c1' r.pairs _ (hr.pr.below L1.out hB) (by omega) (hr'.pr.below L1.out hB') (by omega)).mono ?_
  rintro e w2 ⟨rfl, hb2⟩
  have P0_2 := hide (P0_1.out.belowH hb2)
  have P1_2 := hide (P1_1.out.belowH hb2)
  have L2 := hide (show Below w.heap.size w w2 from L1.out.trans (hb2.mono LW))
  have k0_2 := P0_2.out.cell
  have k1_2 := P1_2.out.cell
  clear hb2 LW P0_1 P1_1 L1 k0_1 k1_1
  go_wp2_with fail
  have LW := L2.out.size
  refine (eqTypeS_any lo hi lo' hi' A2 A2' n2' c2 c2' r.types _ (hr.ty.below L2.out hB) (by omega) (hr'.ty.below L2.out hB') (by omega)).mono ?_
  rintro e w3 ⟨rfl, hb3⟩
  have P0_3 := hide (P0_2.out.belowH hb3)
  have P1_3 := hide (P1_2.out.belowH hb3)
  have L3 := hide (show Below w.heap.size w w3 from L2.out.trans (hb3.mono LW))
  have k0_3 := P0_3.out.cell
  have k1_3 := P1_3.out.cell
  clear hb3 LW P0_2 P1_2 L2 k0_2 k1_2
  go_wp2_with fail
  have LW := L3.out.size
  refine (eqItemS_any lo hi lo' hi' A3 A3' n3' c3 c3' r.items _ (hr.it.below L3.out hB) (by omega) (hr'.it.below L3.out hB') (by omega)).mono ?_
  rintro e w4 ⟨rfl, hb4⟩
  have P0_4 := hide (P0_3.out.belowH hb4)
  have P1_4 := hide (P1_3.out.belowH hb4)
  have L4 := hide (show Below w.heap.size w w4 from L3.out.trans (hb4.mono LW))
  have k0_4 := P0_4.out.cell
  have k1_4 := P1_4.out.cell
  clear hb4 LW P0_3 P1_3 L3 k0_3 k1_3
  go_wp2
  go_ret
  exact ⟨rfl, L4.out⟩
end Go.Proofs.YtcjcmdikopipjaaDoor
