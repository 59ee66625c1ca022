/- The law FnExactRequestSame holds for every input: the call answers true, and each argument reads afterwards as it read before. -/
import Derived.Test.YtcbmiodilfjjjaaD2
import Derived.Test.YtcbmiodilfjjjaaRw
import Derived.Test.YtcbmiodilfjjjaaS2
namespace Go.Proofs.Ytcbmiodilfjjjaa.fnExactRequestSame
open Go.ChangeShapes Go.WideShapes Go.ChangeAt Go.RowKit Go.Deep
open Go.ChangeMaps (open_string)
set_option linter.unusedVariables false
set_option linter.unusedSimpArgs false


theorem walk (a : Rq) (A1 A2 A3 : Option Addr) (n1 n2 n3 c1 c2 c3 : Nat) (b : Rq) (A1' A2' A3' : Option Addr) (n1' n2' n3' c1' c2' c3' : Nat) (w : World) (ha : RqAt w 0 w.heap.size a A1 n1 c1 A2 n2 c2 A3 n3 c3) (hb : RqAt w 0 w.heap.size b A1' n1' c1' A2' n2' c2' A3' n3' c3') :
    Calls Try.prog 10 #[.agg #[.int .i64 a.way, .int .i64 a.pal.w, .int .i64 a.pal.d, .int .i64 a.pal.h, .int .i64 a.pal.gram, .int .i64 a.cls, .slice A1 n1 c1, .slice A2 n2 c2, .int .i64 a.master, .slice A3 n3 c3], .agg #[.int .i64 b.way, .int .i64 b.pal.w, .int .i64 b.pal.d, .int .i64 b.pal.h, .int .i64 b.pal.gram, .int .i64 b.cls, .slice A1' n1' c1', .slice A2' n2' c2', .int .i64 b.master, .slice A3' n3' c3']] w fun e w' => e = .returned (.bool true) ∧ Below w.heap.size w w' := by
  have hq := ha.pr.len
  by_cases hsz : n1 + n2 + n3 + (n1' + n2' + n3') ≤ 1048576
  · have hneg : ¬ ((1048576 : Int) - n1 - n2 - n3 < 0) := by omega
    have hneg2 : ¬ ((1048576 : Int) - n1 - n2 - n3 - n1' - n2' - n3' < 0) := by omega
    have HA := hide ha
    have HB := hide hb
    go_enter Try.func10, Try.ntmps10
    go_wp2_with fail
    refine (szRequest_ok a A1 A2 A3 n1 n2 n3 c1 c2 c3 1048576 _ (by omega) (by omega) ⟨ha.pr.cap, ha.pr.max⟩ ⟨ha.ty.cap, ha.ty.max⟩ ⟨ha.it.cap, ha.it.max⟩).mono ?_
    rintro e w1 ⟨rfl, hb1⟩
    have D1 := hide (show Below w.heap.size w w1 from (by repeat (first | with_reducible exact Below.refl _ _ | with_reducible assumption | with_reducible refine Below.setCell ?_ (by (try simp) <;> omega) _ | with_reducible refine Below.alloc ?_ (by (try simp) <;> omega) _ | with_reducible refine Below.drew ?_ | with_reducible refine below_drewN ?_ _ | with_reducible exact hb1 | with_reducible refine Below.trans ?_ (Below.mono hb1 (by (try simp) <;> omega)))))
    have PR_1 := hide (Blk.belowH ((Blk.new w 75 (#[.int .i64 a.way, .int .i64 a.pal.w, .int .i64 a.pal.d, .int .i64 a.pal.h, .int .i64 a.pal.gram, .int .i64 a.cls, .slice A1 n1 c1, .slice A2 n2 c2, .int .i64 a.master, .slice A3 n3 c3]) (g := w.heap.size) (by simp)).alloc _) hb1)
    have PQ_1 := hide (Blk.belowH ((Blk.new (w.alloc _) 75 (#[.int .i64 b.way, .int .i64 b.pal.w, .int .i64 b.pal.d, .int .i64 b.pal.h, .int .i64 b.pal.gram, .int .i64 b.cls, .slice A1' n1' c1', .slice A2' n2' c2', .int .i64 b.master, .slice A3' n3' c3']) (g := w.heap.size + 1) (by simp))) hb1)
    have Z1 : w.heap.size + 1 + 1 ≤ w1.heap.size := (by simpa using hb1.size)
    have L1 := D1
    clear hb1 D1
    have kR_1 := PR_1.out.cell
    have yR_1 := PR_1.out.lt
    have kQ_1 := PQ_1.out.cell
    have yQ_1 := PQ_1.out.lt
    go_wp2_with fail
    refine (szRequest_ok b A1' A2' A3' n1' n2' n3' c1' c2' c3' (1048576 - n1 - n2 - n3) _ (by omega) (by omega) ⟨hb.pr.cap, hb.pr.max⟩ ⟨hb.ty.cap, hb.ty.max⟩ ⟨hb.it.cap, hb.it.max⟩).mono ?_
    rintro e w2 ⟨rfl, hb2⟩
    have D2 := hide (show Below w1.heap.size w1 w2 from hb2)
    have PR_2 := hide (Blk.belowH (PR_1.out) hb2)
    have PQ_2 := hide (Blk.belowH (PQ_1.out) hb2)
    have Z2 : w1.heap.size ≤ w2.heap.size := (by simpa using hb2.size)
    have L2 := hide (L1.out.trans (D2.out.mono (by omega)))
    clear hb2 PR_1 kR_1 yR_1 PQ_1 kQ_1 yQ_1 L1 D2
    have kR_2 := PR_2.out.cell
    have yR_2 := PR_2.out.lt
    have kQ_2 := PQ_2.out.cell
    have yQ_2 := PQ_2.out.lt
    go_wp2_with fail
    have PR_3 := hide PR_2.out.drew
    have PQ_3 := hide PQ_2.out.drew
    have L3 := hide L2.out.drew
    clear L2 PR_2 PQ_2
    go_region_held3 (fun w' => w'.cell? ⟨w.heap.size, 0, none⟩ = some (.int .i64 a.way) ∧ w'.cell? ⟨w.heap.size, 1, none⟩ = some (.int .i64 a.pal.w) ∧ w'.cell? ⟨w.heap.size, 2, none⟩ = some (.int .i64 a.pal.d) ∧ w'.cell? ⟨w.heap.size, 3, none⟩ = some (.int .i64 a.pal.h) ∧ w'.cell? ⟨w.heap.size, 4, none⟩ = some (.int .i64 a.pal.gram) ∧ w'.cell? ⟨w.heap.size, 5, none⟩ = some (.int .i64 a.cls) ∧ w'.cell? ⟨w.heap.size, 6, none⟩ = some (.slice A1 n1 c1) ∧ w'.cell? ⟨w.heap.size, 7, none⟩ = some (.slice A2 n2 c2) ∧ w'.cell? ⟨w.heap.size, 8, none⟩ = some (.int .i64 a.master) ∧ w'.cell? ⟨w.heap.size, 9, none⟩ = some (.slice A3 n3 c3) ∧ w'.cell? ⟨w.heap.size + 1, 0, none⟩ = some (.int .i64 b.way) ∧ w'.cell? ⟨w.heap.size + 1, 1, none⟩ = some (.int .i64 b.pal.w) ∧ w'.cell? ⟨w.heap.size + 1, 2, none⟩ = some (.int .i64 b.pal.d) ∧ w'.cell? ⟨w.heap.size + 1, 3, none⟩ = some (.int .i64 b.pal.h) ∧ w'.cell? ⟨w.heap.size + 1, 4, none⟩ = some (.int .i64 b.pal.gram) ∧ w'.cell? ⟨w.heap.size + 1, 5, none⟩ = some (.int .i64 b.cls) ∧ w'.cell? ⟨w.heap.size + 1, 6, none⟩ = some (.slice A1' n1' c1') ∧ w'.cell? ⟨w.heap.size + 1, 7, none⟩ = some (.slice A2' n2' c2') ∧ w'.cell? ⟨w.heap.size + 1, 8, none⟩ = some (.int .i64 b.master) ∧ w'.cell? ⟨w.heap.size + 1, 9, none⟩ = some (.slice A3' n3' c3')) (go_keep) (first | (go_at_call 49; (with_reducible refine (toRequest_any a A1 A2 A3 n1 n2 n3 c1 c2 c3 0 w.heap.size _ (HA.out.below L3.out (Nat.le_refl _)) (by (try simp) <;> omega) (by omega)).mono ?_); rintro e w4 ⟨Sa1, Sa2, Sa3, rfl, hSa, hb4⟩; have D4 := hide (show Below w2.heap.size w2.drew w4 from hb4); have PR_4 := hide (Blk.belowH (PR_3.out) hb4); have PQ_4 := hide (Blk.belowH (PQ_3.out) hb4); have Z4 : w2.heap.size ≤ w4.heap.size := (by simpa using hb4.size); have L4 := hide (L3.out.trans (D4.out.mono (by omega))); clear hb4 PR_3 kR_2 yR_2 PQ_3 kQ_2 yQ_2 L3 D4; have kR_4 := PR_4.out.cell; have yR_4 := PR_4.out.lt; have kQ_4 := PQ_4.out.cell; have yQ_4 := PQ_4.out.lt; have HSa_4 := hide (hSa.more (Nat.zero_le _) (Nat.le_refl _)); clear hSa) | (go_at_call 49; (with_reducible refine (toRequest_any b A1' A2' A3' n1' n2' n3' c1' c2' c3' 0 w.heap.size _ (HB.out.below L4.out (Nat.le_refl _)) (by (try simp) <;> omega) (by omega)).mono ?_); rintro e w5 ⟨Sb1, Sb2, Sb3, rfl, hSb, hb5⟩; have D5 := hide (show Below w4.heap.size w4 w5 from hb5); have PR_5 := hide (Blk.belowH (PR_4.out) hb5); have PQ_5 := hide (Blk.belowH (PQ_4.out) hb5); have Z5 : w4.heap.size ≤ w5.heap.size := (by simpa using hb5.size); have L5 := hide (L4.out.trans (D5.out.mono (by omega))); have HSa_5 := hide (HSa_4.out.below D5.out (by omega)); clear hb5 PR_4 kR_4 yR_4 PQ_4 kQ_4 yQ_4 L4 HSa_4 D5; have kR_5 := PR_5.out.cell; have yR_5 := PR_5.out.lt; have kQ_5 := PQ_5.out.cell; have yQ_5 := PQ_5.out.lt; have HSb_5 := hide (hSb.more (Nat.zero_le _) (Nat.le_refl _)); clear hSb) | (go_at_call 48; (with_reducible refine (ssame_any a b _ _ _ _ _ _ _ _ _ _ _ _ _ _ _ _ _ _ 0 w4.heap.size 0 w5.heap.size _ HSa_5.out (by omega) HSb_5.out (by omega)).mono ?_); rintro e w6 ⟨rfl, hb6⟩; have D6 := hide (show Below w5.heap.size w5 w6 from hb6); have PR_6 := hide (Blk.belowH (PR_5.out) hb6); have PQ_6 := hide (Blk.belowH (PQ_5.out) hb6); have Z6 : w5.heap.size ≤ w6.heap.size := (by simpa using hb6.size); have L6 := hide (L5.out.trans (D6.out.mono (by omega))); have HSa_6 := hide (HSa_5.out.below D6.out (by omega)); have HSb_6 := hide (HSb_5.out.below D6.out (by omega)); clear hb6 PR_5 kR_5 yR_5 PQ_5 kQ_5 yQ_5 L5 HSa_5 HSb_5 D6; have kR_6 := PR_6.out.cell; have yR_6 := PR_6.out.lt; have kQ_6 := PQ_6.out.cell; have yQ_6 := PQ_6.out.lt))
    clear HSa_6 HSb_6
    go_wp2_with fail
    refine (toRequest_any a A1 A2 A3 n1 n2 n3 c1 c2 c3 0 w.heap.size _ (HA.out.below L6.out (Nat.le_refl _)) (by (try simp) <;> omega) (by omega)).mono ?_
    rintro e w7 ⟨Xa1, Xa2, Xa3, rfl, hXa, hb7⟩
    have D7 := hide (show Below w6.heap.size w6 w7 from hb7)
    have PR_7 := hide (Blk.belowH (PR_6.out) hb7)
    have PQ_7 := hide (Blk.belowH (PQ_6.out) hb7)
    have Z7 : w6.heap.size ≤ w7.heap.size := (by simpa using hb7.size)
    have L7 := hide (L6.out.trans (D7.out.mono (by omega)))
    clear hb7 PR_6 kR_6 yR_6 PQ_6 kQ_6 yQ_6 L6 D7
    have kR_7 := PR_7.out.cell
    have yR_7 := PR_7.out.lt
    have kQ_7 := PQ_7.out.cell
    have yQ_7 := PQ_7.out.lt
    have HXa_7 := hide (hXa.more (Nat.zero_le _) (Nat.le_refl _))
    clear hXa
    go_wp2_with fail
    refine (toRequest_any b A1' A2' A3' n1' n2' n3' c1' c2' c3' 0 w.heap.size _ (HB.out.below (B := w.heap.size) (by repeat (first | with_reducible exact Below.refl _ _ | with_reducible assumption | with_reducible refine Below.setCell ?_ (by (try simp) <;> omega) _ | with_reducible refine Below.alloc ?_ (by (try simp) <;> omega) _ | with_reducible refine Below.drew ?_ | with_reducible refine below_drewN ?_ _ | with_reducible exact L7.out | with_reducible refine Below.trans ?_ (Below.mono L7.out (by (try simp) <;> omega)))) (Nat.le_refl _)) (by (try simp) <;> omega) (by omega)).mono ?_
    rintro e w8 ⟨Xb1, Xb2, Xb3, rfl, hXb, hb8⟩
    have D8 := hide (show Below w7.heap.size w7 w8 from (by repeat (first | with_reducible exact Below.refl _ _ | with_reducible assumption | with_reducible refine Below.setCell ?_ (by (try simp) <;> omega) _ | with_reducible refine Below.alloc ?_ (by (try simp) <;> omega) _ | with_reducible refine Below.drew ?_ | with_reducible refine below_drewN ?_ _ | with_reducible exact hb8 | with_reducible refine Below.trans ?_ (Below.mono hb8 (by (try simp) <;> omega)))))
    have PR_8 := hide (Blk.belowH (PR_7.out.alloc _) hb8)
    have PQ_8 := hide (Blk.belowH (PQ_7.out.alloc _) hb8)
    have PX_8 := hide (Blk.belowH ((Blk.new w7 59 (#[.int .i64 a.way, .int .i64 a.pal.w, .int .i64 a.pal.d, .int .i64 a.pal.h, .int .i64 a.pal.gram, .int .i64 a.cls, .slice Xa1 n1 n1, .slice Xa2 n2 n2, .int .i64 a.master, .slice Xa3 n3 n3]) (g := w7.heap.size) (by simp))) hb8)
    have Z8 : w7.heap.size + 1 ≤ w8.heap.size := (by simpa using hb8.size)
    have L8 := hide (L7.out.trans (D8.out.mono (by omega)))
    have HXa_8 := hide (HXa_7.out.below D8.out (by omega))
    clear hb8 PR_7 kR_7 yR_7 PQ_7 kQ_7 yQ_7 L7 HXa_7 D8
    have kR_8 := PR_8.out.cell
    have yR_8 := PR_8.out.lt
    have kQ_8 := PQ_8.out.cell
    have yQ_8 := PQ_8.out.lt
    have kX_8 := PX_8.out.cell
    have yX_8 := PX_8.out.lt
    have HXb_8 := hide (hXb.more (Nat.zero_le _) (Nat.le_refl _))
    clear hXb
    go_wp2_with fail
    refine (same_any a b _ _ _ _ _ _ _ _ _ _ _ _ _ _ _ _ _ _ 0 w7.heap.size (0) w8.heap.size _ (HXa_8.out.below (B := w8.heap.size) (by repeat (first | with_reducible exact Below.refl _ _ | with_reducible assumption | with_reducible refine Below.setCell ?_ (by (try simp) <;> omega) _ | with_reducible refine Below.alloc ?_ (by (try simp) <;> omega) _ | with_reducible refine Below.drew ?_ | with_reducible refine below_drewN ?_ _)) (by omega)) (by (try simp) <;> omega) (HXb_8.out.below (B := w8.heap.size) (by repeat (first | with_reducible exact Below.refl _ _ | with_reducible assumption | with_reducible refine Below.setCell ?_ (by (try simp) <;> omega) _ | with_reducible refine Below.alloc ?_ (by (try simp) <;> omega) _ | with_reducible refine Below.drew ?_ | with_reducible refine below_drewN ?_ _)) (by omega)) (by (try simp) <;> omega)).mono ?_
    rintro e w9 ⟨rfl, hb9⟩
    have D9 := hide (show Below w8.heap.size w8 w9 from (by repeat (first | with_reducible exact Below.refl _ _ | with_reducible assumption | with_reducible refine Below.setCell ?_ (by (try simp) <;> omega) _ | with_reducible refine Below.alloc ?_ (by (try simp) <;> omega) _ | with_reducible refine Below.drew ?_ | with_reducible refine below_drewN ?_ _ | with_reducible exact hb9 | with_reducible refine Below.trans ?_ (Below.mono hb9 (by (try simp) <;> omega)))))
    have PR_9 := hide (Blk.belowH (PR_8.out.alloc _) hb9)
    have PQ_9 := hide (Blk.belowH (PQ_8.out.alloc _) hb9)
    have PX_9 := hide (Blk.belowH (PX_8.out.alloc _) hb9)
    have PY_9 := hide (Blk.belowH ((Blk.new w8 59 (#[.int .i64 b.way, .int .i64 b.pal.w, .int .i64 b.pal.d, .int .i64 b.pal.h, .int .i64 b.pal.gram, .int .i64 b.cls, .slice Xb1 n1' n1', .slice Xb2 n2' n2', .int .i64 b.master, .slice Xb3 n3' n3']) (g := w8.heap.size) (by simp))) hb9)
    have Z9 : w8.heap.size + 1 ≤ w9.heap.size := (by simpa using hb9.size)
    have L9 := hide (L8.out.trans (D9.out.mono (by omega)))
    have HXa_9 := hide (HXa_8.out.below D9.out (by omega))
    have HXb_9 := hide (HXb_8.out.below D9.out (by omega))
    clear hb9 PR_8 kR_8 yR_8 PQ_8 kQ_8 yQ_8 PX_8 kX_8 yX_8 L8 HXa_8 HXb_8 D9
    have kR_9 := PR_9.out.cell
    have yR_9 := PR_9.out.lt
    have kQ_9 := PQ_9.out.cell
    have yQ_9 := PQ_9.out.lt
    have kX_9 := PX_9.out.cell
    have yX_9 := PX_9.out.lt
    have kY_9 := PY_9.out.cell
    have yY_9 := PY_9.out.lt
    go_wp2_with fail
    have PR_10 := hide PR_9.out.drew
    have PQ_10 := hide PQ_9.out.drew
    have PX_10 := hide PX_9.out.drew
    have PY_10 := hide PY_9.out.drew
    have L10 := hide L9.out.drew
    have HXa_10 := hide HXa_9.out.drew
    have HXb_10 := hide HXb_9.out.drew
    clear L9 PR_9 PQ_9 PX_9 PY_9 HXa_9 HXb_9
    go_region_held3 (fun w' => w'.cell? ⟨w7.heap.size, 0, none⟩ = some (.int .i64 a.way) ∧ w'.cell? ⟨w7.heap.size, 1, none⟩ = some (.int .i64 a.pal.w) ∧ w'.cell? ⟨w7.heap.size, 2, none⟩ = some (.int .i64 a.pal.d) ∧ w'.cell? ⟨w7.heap.size, 3, none⟩ = some (.int .i64 a.pal.h) ∧ w'.cell? ⟨w7.heap.size, 4, none⟩ = some (.int .i64 a.pal.gram) ∧ w'.cell? ⟨w7.heap.size, 5, none⟩ = some (.int .i64 a.cls) ∧ w'.cell? ⟨w7.heap.size, 6, none⟩ = some (.slice Xa1 n1 n1) ∧ w'.cell? ⟨w7.heap.size, 7, none⟩ = some (.slice Xa2 n2 n2) ∧ w'.cell? ⟨w7.heap.size, 8, none⟩ = some (.int .i64 a.master) ∧ w'.cell? ⟨w7.heap.size, 9, none⟩ = some (.slice Xa3 n3 n3) ∧ w'.cell? ⟨w.heap.size, 0, none⟩ = some (.int .i64 a.way) ∧ w'.cell? ⟨w.heap.size, 1, none⟩ = some (.int .i64 a.pal.w) ∧ w'.cell? ⟨w.heap.size, 2, none⟩ = some (.int .i64 a.pal.d) ∧ w'.cell? ⟨w.heap.size, 3, none⟩ = some (.int .i64 a.pal.h) ∧ w'.cell? ⟨w.heap.size, 4, none⟩ = some (.int .i64 a.pal.gram) ∧ w'.cell? ⟨w.heap.size, 5, none⟩ = some (.int .i64 a.cls) ∧ w'.cell? ⟨w.heap.size, 6, none⟩ = some (.slice A1 n1 c1) ∧ w'.cell? ⟨w.heap.size, 7, none⟩ = some (.slice A2 n2 c2) ∧ w'.cell? ⟨w.heap.size, 8, none⟩ = some (.int .i64 a.master) ∧ w'.cell? ⟨w.heap.size, 9, none⟩ = some (.slice A3 n3 c3)) (go_keep) (first | (go_at_call 49; (with_reducible refine (toRequest_any a A1 A2 A3 n1 n2 n3 c1 c2 c3 0 w.heap.size _ (HA.out.below L10.out (Nat.le_refl _)) (by (try simp) <;> omega) (by omega)).mono ?_); rintro e w11 ⟨Ya1, Ya2, Ya3, rfl, hYa, hb11⟩; have D11 := hide (show Below w9.heap.size w9.drew w11 from hb11); have PR_11 := hide (Blk.belowH (PR_10.out) hb11); have PQ_11 := hide (Blk.belowH (PQ_10.out) hb11); have PX_11 := hide (Blk.belowH (PX_10.out) hb11); have PY_11 := hide (Blk.belowH (PY_10.out) hb11); have Z11 : w9.heap.size ≤ w11.heap.size := (by simpa using hb11.size); have L11 := hide (L10.out.trans (D11.out.mono (by omega))); have HXa_11 := hide (HXa_10.out.below D11.out (by omega)); have HXb_11 := hide (HXb_10.out.below D11.out (by omega)); clear hb11 PR_10 kR_9 yR_9 PQ_10 kQ_9 yQ_9 PX_10 kX_9 yX_9 PY_10 kY_9 yY_9 L10 HXa_10 HXb_10 D11; have kR_11 := PR_11.out.cell; have yR_11 := PR_11.out.lt; have kQ_11 := PQ_11.out.cell; have yQ_11 := PQ_11.out.lt; have kX_11 := PX_11.out.cell; have yX_11 := PX_11.out.lt; have kY_11 := PY_11.out.cell; have yY_11 := PY_11.out.lt; have HYa_11 := hide (hYa.more (Nat.zero_le _) (Nat.le_refl _)); clear hYa) | (go_at_call 50; (with_reducible refine (eqRequest_any a _ _ _ _ _ _ _ _ _ _ _ _ _ _ _ _ _ _ 0 w7.heap.size 0 w11.heap.size _ HXa_11.out (by omega) HYa_11.out (by omega)).mono ?_); rintro e w12 ⟨rfl, hb12⟩; have D12 := hide (show Below w11.heap.size w11 w12 from hb12); have PR_12 := hide (Blk.belowH (PR_11.out) hb12); have PQ_12 := hide (Blk.belowH (PQ_11.out) hb12); have PX_12 := hide (Blk.belowH (PX_11.out) hb12); have PY_12 := hide (Blk.belowH (PY_11.out) hb12); have Z12 : w11.heap.size ≤ w12.heap.size := (by simpa using hb12.size); have L12 := hide (L11.out.trans (D12.out.mono (by omega))); have HXa_12 := hide (HXa_11.out.below D12.out (by omega)); have HXb_12 := hide (HXb_11.out.below D12.out (by omega)); have HYa_12 := hide (HYa_11.out.below D12.out (by omega)); clear hb12 PR_11 kR_11 yR_11 PQ_11 kQ_11 yQ_11 PX_11 kX_11 yX_11 PY_11 kY_11 yY_11 L11 HXa_11 HXb_11 HYa_11 D12; have kR_12 := PR_12.out.cell; have yR_12 := PR_12.out.lt; have kQ_12 := PQ_12.out.cell; have yQ_12 := PQ_12.out.lt; have kX_12 := PX_12.out.cell; have yX_12 := PX_12.out.lt; have kY_12 := PY_12.out.cell; have yY_12 := PY_12.out.lt))
    go_wp2_with fail
    have PR_13 := hide PR_12.out.drew
    have PQ_13 := hide PQ_12.out.drew
    have PX_13 := hide PX_12.out.drew
    have PY_13 := hide PY_12.out.drew
    have L13 := hide L12.out.drew
    have HXa_13 := hide HXa_12.out.drew
    have HXb_13 := hide HXb_12.out.drew
    have HYa_13 := hide HYa_12.out.drew
    clear L12 PR_12 PQ_12 PX_12 PY_12 HXa_12 HXb_12 HYa_12
    go_region_held3 (fun w' => w'.cell? ⟨w8.heap.size, 0, none⟩ = some (.int .i64 b.way) ∧ w'.cell? ⟨w8.heap.size, 1, none⟩ = some (.int .i64 b.pal.w) ∧ w'.cell? ⟨w8.heap.size, 2, none⟩ = some (.int .i64 b.pal.d) ∧ w'.cell? ⟨w8.heap.size, 3, none⟩ = some (.int .i64 b.pal.h) ∧ w'.cell? ⟨w8.heap.size, 4, none⟩ = some (.int .i64 b.pal.gram) ∧ w'.cell? ⟨w8.heap.size, 5, none⟩ = some (.int .i64 b.cls) ∧ w'.cell? ⟨w8.heap.size, 6, none⟩ = some (.slice Xb1 n1' n1') ∧ w'.cell? ⟨w8.heap.size, 7, none⟩ = some (.slice Xb2 n2' n2') ∧ w'.cell? ⟨w8.heap.size, 8, none⟩ = some (.int .i64 b.master) ∧ w'.cell? ⟨w8.heap.size, 9, none⟩ = some (.slice Xb3 n3' n3') ∧ w'.cell? ⟨w.heap.size + 1, 0, none⟩ = some (.int .i64 b.way) ∧ w'.cell? ⟨w.heap.size + 1, 1, none⟩ = some (.int .i64 b.pal.w) ∧ w'.cell? ⟨w.heap.size + 1, 2, none⟩ = some (.int .i64 b.pal.d) ∧ w'.cell? ⟨w.heap.size + 1, 3, none⟩ = some (.int .i64 b.pal.h) ∧ w'.cell? ⟨w.heap.size + 1, 4, none⟩ = some (.int .i64 b.pal.gram) ∧ w'.cell? ⟨w.heap.size + 1, 5, none⟩ = some (.int .i64 b.cls) ∧ w'.cell? ⟨w.heap.size + 1, 6, none⟩ = some (.slice A1' n1' c1') ∧ w'.cell? ⟨w.heap.size + 1, 7, none⟩ = some (.slice A2' n2' c2') ∧ w'.cell? ⟨w.heap.size + 1, 8, none⟩ = some (.int .i64 b.master) ∧ w'.cell? ⟨w.heap.size + 1, 9, none⟩ = some (.slice A3' n3' c3')) (go_keep) (first | (go_at_call 49; (with_reducible refine (toRequest_any b A1' A2' A3' n1' n2' n3' c1' c2' c3' 0 w.heap.size _ (HB.out.below L13.out (Nat.le_refl _)) (by (try simp) <;> omega) (by omega)).mono ?_); rintro e w14 ⟨Yb1, Yb2, Yb3, rfl, hYb, hb14⟩; have D14 := hide (show Below w12.heap.size w12.drew w14 from hb14); have PR_14 := hide (Blk.belowH (PR_13.out) hb14); have PQ_14 := hide (Blk.belowH (PQ_13.out) hb14); have PX_14 := hide (Blk.belowH (PX_13.out) hb14); have PY_14 := hide (Blk.belowH (PY_13.out) hb14); have Z14 : w12.heap.size ≤ w14.heap.size := (by simpa using hb14.size); have L14 := hide (L13.out.trans (D14.out.mono (by omega))); have HXa_14 := hide (HXa_13.out.below D14.out (by omega)); have HXb_14 := hide (HXb_13.out.below D14.out (by omega)); have HYa_14 := hide (HYa_13.out.below D14.out (by omega)); clear hb14 PR_13 kR_12 yR_12 PQ_13 kQ_12 yQ_12 PX_13 kX_12 yX_12 PY_13 kY_12 yY_12 L13 HXa_13 HXb_13 HYa_13 D14; have kR_14 := PR_14.out.cell; have yR_14 := PR_14.out.lt; have kQ_14 := PQ_14.out.cell; have yQ_14 := PQ_14.out.lt; have kX_14 := PX_14.out.cell; have yX_14 := PX_14.out.lt; have kY_14 := PY_14.out.cell; have yY_14 := PY_14.out.lt; have HYb_14 := hide (hYb.more (Nat.zero_le _) (Nat.le_refl _)); clear hYb) | (go_at_call 50; (with_reducible refine (eqRequest_any b _ _ _ _ _ _ _ _ _ _ _ _ _ _ _ _ _ _ 0 w8.heap.size 0 w14.heap.size _ HXb_14.out (by omega) HYb_14.out (by omega)).mono ?_); rintro e w15 ⟨rfl, hb15⟩; have D15 := hide (show Below w14.heap.size w14 w15 from hb15); have PR_15 := hide (Blk.belowH (PR_14.out) hb15); have PQ_15 := hide (Blk.belowH (PQ_14.out) hb15); have PX_15 := hide (Blk.belowH (PX_14.out) hb15); have PY_15 := hide (Blk.belowH (PY_14.out) hb15); have Z15 : w14.heap.size ≤ w15.heap.size := (by simpa using hb15.size); have L15 := hide (L14.out.trans (D15.out.mono (by omega))); have HXa_15 := hide (HXa_14.out.below D15.out (by omega)); have HXb_15 := hide (HXb_14.out.below D15.out (by omega)); have HYa_15 := hide (HYa_14.out.below D15.out (by omega)); have HYb_15 := hide (HYb_14.out.below D15.out (by omega)); clear hb15 PR_14 kR_14 yR_14 PQ_14 kQ_14 yQ_14 PX_14 kX_14 yX_14 PY_14 kY_14 yY_14 L14 HXa_14 HXb_14 HYa_14 HYb_14 D15; have kR_15 := PR_15.out.cell; have yR_15 := PR_15.out.lt; have kQ_15 := PQ_15.out.cell; have yQ_15 := PQ_15.out.lt; have kX_15 := PX_15.out.cell; have yX_15 := PX_15.out.lt; have kY_15 := PY_15.out.cell; have yY_15 := PY_15.out.lt))
    go_wp2
    go_ret
    exact ⟨rfl, L15.out⟩
  by_cases hsz2 : n1 + n2 + n3 ≤ 1048576
  · have hneg : ¬ ((1048576 : Int) - n1 - n2 - n3 < 0) := by omega
    go_enter Try.func10, Try.ntmps10
    go_wp2_with fail
    refine (szRequest_ok a A1 A2 A3 n1 n2 n3 c1 c2 c3 1048576 _ (by omega) (by omega) ⟨ha.pr.cap, ha.pr.max⟩ ⟨ha.ty.cap, ha.ty.max⟩ ⟨ha.it.cap, ha.it.max⟩).mono ?_
    rintro e w1 ⟨rfl, hb1⟩
    have PQ := hide (Blk.belowH (Blk.new (w.alloc _) 75 (#[.int .i64 b.way, .int .i64 b.pal.w, .int .i64 b.pal.d, .int .i64 b.pal.h, .int .i64 b.pal.gram, .int .i64 b.cls, .slice A1' n1' c1', .slice A2' n2' c2', .int .i64 b.master, .slice A3' n3' c3']) (g := w.heap.size + 1) (by simp)) hb1)
    have kQ := PQ.out.cell
    have yQ := PQ.out.lt
    have L1 := hide (show Below w.heap.size w w1 from (by repeat (first | with_reducible exact Below.refl _ _ | with_reducible assumption | with_reducible refine Below.setCell ?_ (by (try simp) <;> omega) _ | with_reducible refine Below.alloc ?_ (by (try simp) <;> omega) _ | with_reducible refine Below.drew ?_ | with_reducible refine below_drewN ?_ _ | with_reducible exact hb1 | with_reducible refine Below.trans ?_ (Below.mono hb1 (by (try simp) <;> omega)))))
    have z1 := L1.out.size
    clear hb1
    go_wp2_with fail
    refine (szRequest_no b A1' A2' A3' n1' n2' n3' c1' c2' c3' (1048576 - n1 - n2 - n3) _ (by omega) (by omega) (by omega) ⟨hb.pr.cap, hb.pr.max⟩ ⟨hb.ty.cap, hb.ty.max⟩ ⟨hb.it.cap, hb.it.max⟩).mono ?_
    rintro e w2 ⟨rfl, hb2⟩
    go_wp2
    go_ret
    exact ⟨rfl, L1.out.trans (hb2.mono z1)⟩
  · go_enter Try.func10, Try.ntmps10
    go_wp2_with fail
    refine (szRequest_no a A1 A2 A3 n1 n2 n3 c1 c2 c3 1048576 _ (by omega) (by omega) (by omega) ⟨ha.pr.cap, ha.pr.max⟩ ⟨ha.ty.cap, ha.ty.max⟩ ⟨ha.it.cap, ha.it.max⟩).mono ?_
    rintro e w1 ⟨rfl, hb1⟩
    go_wp2
    go_ret
    exact ⟨rfl, (by repeat (first | with_reducible exact Below.refl _ _ | with_reducible assumption | with_reducible refine Below.setCell ?_ (by (try simp) <;> omega) _ | with_reducible refine Below.alloc ?_ (by (try simp) <;> omega) _ | with_reducible refine Below.drew ?_ | with_reducible refine below_drewN ?_ _ | with_reducible exact hb1 | with_reducible refine Below.trans ?_ (Below.mono hb1 (by (try simp) <;> omega))))⟩
set_option maxRecDepth 100000 in
set_option maxHeartbeats 1000000 in
theorem lifted (os : Os) (started : os.Started) (H : Type) (enc : TypeId × Value → H) :
    ReturnsInHanded {} Try.checked os 10 .any (Rows.fnExactRequestSameSpec.pre6 enc Try.prog Try.f10 Rows.fnExactRequestSameRow.domain false) (Rows.fnExactRequestSameSpec.post enc Try.prog Try.f10 false true false false) := by
  refine returnsInHanded_of_change (C := Try.checked) ownK started (by kernel_rfl) Try.func10
    (ChangeSpec.witness6 (enc := enc) (C := Try.checked) false ⟨#[], #[.agg #[.int .i64 0, .int .i64 0, .int .i64 0, .int .i64 0, .int .i64 0, .int .i64 0, .slice none 0 0, .slice none 0 0, .int .i64 0, .slice none 0 0], .agg #[.int .i64 0, .int .i64 0, .int .i64 0, .int .i64 0, .int .i64 0, .int .i64 0, .slice none 0 0, .slice none 0 0, .int .i64 0, .slice none 0 0]], []⟩ 8 (by kernel_rfl) (by kernel_rfl) (by kernel_rfl) (by kernel_rfl)) ?_
  intro W base args ds gs before hval0 hW hcnd _
  have hval : ∀ (j : Nat) t v, Try.f10.params[j]? = some t → args[j]? = some v → Value.okWide Try.prog W .any base t v := hval0
  have hW' := hW
  obtain ⟨p, q, hA0, hV, rfl, hfz, hnd⟩ := hW
  have hA : DataW.TrodAll enc Try.prog W 0 (fun _ => true) true Try.f10.params.toList args.toList ds p := hA0
  have hV' := hV
  obtain ⟨rfl, rfl⟩ := trodVars_none hV'
  rw [Try.params10] at hA hval
  obtain ⟨v0, vs0, d0, ds0, p0, q0, hargs, rfl, rfl, h0, r0⟩ := trodAll_cons hA
  obtain ⟨v1, vs1, d1, ds1, p1, q1, rfl, rfl, rfl, h1, r1⟩ := trodAll_cons r0
  obtain ⟨rfl, rfl, rfl⟩ := trodAll_nil r1
  obtain rfl : args = #[v0, v1] := by cases args; simp_all
  have hz0 : W.noneFrozen p0 := fun b off hin => hfz b off (by simp [hin])
  have hz1 : W.noneFrozen p1 := fun b off hin => hfz b off (by simp [hin])
  obtain ⟨a, A1, n1, c1, A2, n2, c2, A3, n3, c3, rfl, ha⟩ := openRq (hval 0 75 v0 rfl rfl) h0 hz0
  obtain ⟨b, A1', n1', c1', A2', n2', c2', A3', n3', c3', rfl, hb⟩ := openRq (hval 1 75 v1 rfl rfl) h1 hz1
  refine (walk a A1 A2 A3 n1 n2 n3 c1 c2 c3 b A1' A2' A3' n1' n2' n3' c1' c2' c3' W ha hb).mono fun e W' ⟨he, hb⟩ => ?_
  subst he
  exact ⟨_, rfl, law_post laidO (by intro t ht; rw [Try.params10] at ht; simp only [List.mem_cons, List.not_mem_nil, or_false] at ht; rcases ht with rfl | rfl <;> exact ⟨by kernel_rfl, of_decide_eq_true (by kernel_rfl)⟩) rfl (by kernel_rfl) Try.underlying4 hW' rfl hb⟩

theorem over : Rows.fnExactRequestSameRow.holds Try.pinned (OpenSpec.ofChange Rows.fnExactRequestSameSpec) :=
  OpenClaim.holds_of_wide 10 Try.f10 rfl rfl rfl rfl rfl rfl rfl ⟨rfl, rfl, rfl, rfl, rfl⟩ rfl rfl rfl rfl rfl (by kernel_rfl) Try.func10 (by kernel_rfl)
    (of_decide_eq_true (by kernel_rfl)) (by unfold Func.isWrapper; first | (rw [if_pos (by decide +kernel)]; kernel_rfl) | (rw [if_neg (by decide +kernel)]; exact ⟨rfl, rfl⟩))
    (fun os started H enc _ => lifted os started H enc)

theorem proved : Rows.FnExactRequestSameSaid :=
  over
#print axioms proved
end Go.Proofs.Ytcbmiodilfjjjaa.fnExactRequestSame
