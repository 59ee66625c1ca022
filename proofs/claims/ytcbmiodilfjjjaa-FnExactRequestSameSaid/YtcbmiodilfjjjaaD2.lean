/- RequestSame, the program's and the reference's. Written by gen/gen_d2.py. -/
import Derived.Test.YtcbmiodilfjjjaaD1
namespace Go.Proofs.Ytcbmiodilfjjjaa
open Go.ChangeShapes Go.WideShapes Go.ChangeAt Go.RowKit Go.Deep
set_option linter.unusedVariables false
set_option linter.unusedSimpArgs false

/-- Two orders are alike. -/
def sameRq (r s : Rq) : Bool := (r.way == s.way) && pPlB r.pal s.pal && (r.cls == s.cls) && sameL pPrB r.pairs s.pairs && sameL pTyB r.types s.types && (r.master == s.master) && sameL pItB r.items s.items
theorem sameRq_self (r : Rq) : sameRq r r = true := by simp [sameRq, pPlB_self, sameL_self pPrB_self, sameL_self pTyB_self, sameL_self pItB_self]
set_option maxRecDepth 20000 in
set_option maxHeartbeats 2000000 in
theorem same_any (r s : Rq) (A1 A2 A3 : Option Addr) (n1 n2 n3 c1 c2 c3 : Nat) (A1' A2' A3' : Option Addr) (n1' n2' n3' c1' c2' c3' : Nat) (lo hi lo' hi' : Nat) (w : World) (hr : RqAt w lo hi r A1 n1 c1 A2 n2 c2 A3 n3 c3) (hB : hi ≤ w.heap.size) (hs : RqAt w lo' hi' s A1' n1' c1' A2' n2' c2' A3' n3' c3') (hB' : hi' ≤ w.heap.size) :
    Calls Try.prog 42 #[.agg #[.int .i64 r.way, .int .i64 r.pal.w, .int .i64 r.pal.d, .int .i64 r.pal.h, .int .i64 r.pal.gram, .int .i64 r.cls, .slice A1 n1 c1, .slice A2 n2 c2, .int .i64 r.master, .slice A3 n3 c3], .agg #[.int .i64 s.way, .int .i64 s.pal.w, .int .i64 s.pal.d, .int .i64 s.pal.h, .int .i64 s.pal.gram, .int .i64 s.cls, .slice A1' n1' c1', .slice A2' n2' c2', .int .i64 s.master, .slice A3' n3' c3']] w fun e w' => e = .returned (.bool (sameRq r s)) ∧ Below w.heap.size w w' := by
  have hq := fun W => (eqqPallet r.pal s.pal W).1
  have HR_0 := hide hr
  have HS_0 := hide hs
  clear hr hs
  cases q0 : (r.way == s.way)
  · have Q0 := hide q0
    go_enter Try.func42, Try.ntmps42
    go_wp2
    go_ret
    exact ⟨ret_bool (by simp [sameRq, Q0.out]), (by repeat (first | with_reducible exact Below.refl _ _ | with_reducible assumption | with_reducible refine Below.setCell ?_ (by (try simp) <;> omega) _ | with_reducible refine Below.alloc ?_ (by (try simp) <;> omega) _ | with_reducible refine Below.drew ?_ | with_reducible refine below_drewN ?_ _))⟩
  have Q0 := hide q0
  cases q1 : pPlB r.pal s.pal
  · have Q1 := hide q1
    rw [q1] at hq
    clear q1
    go_enter Try.func42, Try.ntmps42
    go_wp2
    go_ret
    exact ⟨ret_bool (by simp [sameRq, Q0.out, Q1.out]), (by repeat (first | with_reducible exact Below.refl _ _ | with_reducible assumption | with_reducible refine Below.setCell ?_ (by (try simp) <;> omega) _ | with_reducible refine Below.alloc ?_ (by (try simp) <;> omega) _ | with_reducible refine Below.drew ?_ | with_reducible refine below_drewN ?_ _))⟩
  have Q1 := hide q1
  rw [q1] at hq
  clear q1
  cases q2 : (r.cls == s.cls)
  · have Q2 := hide q2
    go_enter Try.func42, Try.ntmps42
    go_wp2
    go_ret
    exact ⟨ret_bool (by simp [sameRq, Q0.out, Q1.out, Q2.out]), (by repeat (first | with_reducible exact Below.refl _ _ | with_reducible assumption | with_reducible refine Below.setCell ?_ (by (try simp) <;> omega) _ | with_reducible refine Below.alloc ?_ (by (try simp) <;> omega) _ | with_reducible refine Below.drew ?_ | with_reducible refine below_drewN ?_ _))⟩
  have Q2 := hide q2
  cases q3 : sameL pPrB r.pairs s.pairs
  · have Q3 := hide q3
    clear q3
    go_enter Try.func42, Try.ntmps42
    go_wp2_with fail
    refine (equalPair lo hi lo' hi' _ _ _ _ _ _ _ _ _ (HR_0.out.pr.below (B := w.heap.size) (by repeat (first | with_reducible exact Below.refl _ _ | with_reducible assumption | with_reducible refine Below.setCell ?_ (by (try simp) <;> omega) _ | with_reducible refine Below.alloc ?_ (by (try simp) <;> omega) _ | with_reducible refine Below.drew ?_ | with_reducible refine below_drewN ?_ _)) hB) (by (try simp) <;> omega) (HS_0.out.pr.below (B := w.heap.size) (by repeat (first | with_reducible exact Below.refl _ _ | with_reducible assumption | with_reducible refine Below.setCell ?_ (by (try simp) <;> omega) _ | with_reducible refine Below.alloc ?_ (by (try simp) <;> omega) _ | with_reducible refine Below.drew ?_ | with_reducible refine below_drewN ?_ _)) hB') (by (try simp) <;> omega)).mono ?_
    rw [Q3.out]
    rintro e w1 ⟨rfl, hb1⟩
    have D1 := hide (show Below w.heap.size w w1 from (by repeat (first | with_reducible exact Below.refl _ _ | with_reducible assumption | with_reducible refine Below.setCell ?_ (by (try simp) <;> omega) _ | with_reducible refine Below.alloc ?_ (by (try simp) <;> omega) _ | with_reducible refine Below.drew ?_ | with_reducible refine below_drewN ?_ _ | with_reducible exact hb1 | with_reducible refine Below.trans ?_ (Below.mono hb1 (by (try simp) <;> omega)))))
    have PR_1 := hide (Blk.belowH ((Blk.new w 59 (#[.int .i64 r.way, .int .i64 r.pal.w, .int .i64 r.pal.d, .int .i64 r.pal.h, .int .i64 r.pal.gram, .int .i64 r.cls, .slice A1 n1 c1, .slice A2 n2 c2, .int .i64 r.master, .slice A3 n3 c3]) (g := w.heap.size) (by simp)).alloc _) hb1)
    have PS_1 := hide (Blk.belowH ((Blk.new (w.alloc _) 59 (#[.int .i64 s.way, .int .i64 s.pal.w, .int .i64 s.pal.d, .int .i64 s.pal.h, .int .i64 s.pal.gram, .int .i64 s.cls, .slice A1' n1' c1', .slice A2' n2' c2', .int .i64 s.master, .slice A3' n3' c3']) (g := w.heap.size + 1) (by simp))) hb1)
    have Z1 : w.heap.size + 1 + 1 ≤ w1.heap.size := by simpa using hb1.size
    have L1 := D1
    have HR_1 := hide (HR_0.out.below D1.out (by omega))
    have HS_1 := hide (HS_0.out.below D1.out (by omega))
    clear hb1 HR_0 HS_0 D1
    have kR_1 := PR_1.out.cell
    have yR_1 := PR_1.out.lt
    have kS_1 := PS_1.out.cell
    have yS_1 := PS_1.out.lt
    go_wp2
    go_ret
    exact ⟨ret_bool (by simp [sameRq, Q0.out, Q1.out, Q2.out, Q3.out]), (by repeat (first | with_reducible exact Below.refl _ _ | with_reducible assumption | with_reducible refine Below.setCell ?_ (by (try simp) <;> omega) _ | with_reducible refine Below.alloc ?_ (by (try simp) <;> omega) _ | with_reducible refine Below.drew ?_ | with_reducible refine below_drewN ?_ _ | with_reducible exact L1.out | with_reducible refine Below.trans ?_ (Below.mono L1.out (by (try simp) <;> omega))))⟩
  have Q3 := hide q3
  clear q3
  cases q4 : sameL pTyB r.types s.types
  · have Q4 := hide q4
    clear q4
    go_enter Try.func42, Try.ntmps42
    go_wp2_with fail
    refine (equalPair lo hi lo' hi' _ _ _ _ _ _ _ _ _ (HR_0.out.pr.below (B := w.heap.size) (by repeat (first | with_reducible exact Below.refl _ _ | with_reducible assumption | with_reducible refine Below.setCell ?_ (by (try simp) <;> omega) _ | with_reducible refine Below.alloc ?_ (by (try simp) <;> omega) _ | with_reducible refine Below.drew ?_ | with_reducible refine below_drewN ?_ _)) hB) (by (try simp) <;> omega) (HS_0.out.pr.below (B := w.heap.size) (by repeat (first | with_reducible exact Below.refl _ _ | with_reducible assumption | with_reducible refine Below.setCell ?_ (by (try simp) <;> omega) _ | with_reducible refine Below.alloc ?_ (by (try simp) <;> omega) _ | with_reducible refine Below.drew ?_ | with_reducible refine below_drewN ?_ _)) hB') (by (try simp) <;> omega)).mono ?_
    rw [Q3.out]
    rintro e w1 ⟨rfl, hb1⟩
    have D1 := hide (show Below w.heap.size w w1 from (by repeat (first | with_reducible exact Below.refl _ _ | with_reducible assumption | with_reducible refine Below.setCell ?_ (by (try simp) <;> omega) _ | with_reducible refine Below.alloc ?_ (by (try simp) <;> omega) _ | with_reducible refine Below.drew ?_ | with_reducible refine below_drewN ?_ _ | with_reducible exact hb1 | with_reducible refine Below.trans ?_ (Below.mono hb1 (by (try simp) <;> omega)))))
    have PR_1 := hide (Blk.belowH ((Blk.new w 59 (#[.int .i64 r.way, .int .i64 r.pal.w, .int .i64 r.pal.d, .int .i64 r.pal.h, .int .i64 r.pal.gram, .int .i64 r.cls, .slice A1 n1 c1, .slice A2 n2 c2, .int .i64 r.master, .slice A3 n3 c3]) (g := w.heap.size) (by simp)).alloc _) hb1)
    have PS_1 := hide (Blk.belowH ((Blk.new (w.alloc _) 59 (#[.int .i64 s.way, .int .i64 s.pal.w, .int .i64 s.pal.d, .int .i64 s.pal.h, .int .i64 s.pal.gram, .int .i64 s.cls, .slice A1' n1' c1', .slice A2' n2' c2', .int .i64 s.master, .slice A3' n3' c3']) (g := w.heap.size + 1) (by simp))) hb1)
    have Z1 : w.heap.size + 1 + 1 ≤ w1.heap.size := by simpa using hb1.size
    have L1 := D1
    have HR_1 := hide (HR_0.out.below D1.out (by omega))
    have HS_1 := hide (HS_0.out.below D1.out (by omega))
    clear hb1 HR_0 HS_0 D1
    have kR_1 := PR_1.out.cell
    have yR_1 := PR_1.out.lt
    have kS_1 := PS_1.out.cell
    have yS_1 := PS_1.out.lt
    go_wp2_with fail
    refine (equalType lo hi lo' hi' _ _ _ _ _ _ _ _ _ (HR_1.out.ty) (by (try simp) <;> omega) (HS_1.out.ty) (by (try simp) <;> omega)).mono ?_
    rw [Q4.out]
    rintro e w2 ⟨rfl, hb2⟩
    have D2 := hide (show Below w1.heap.size w1 w2 from (by repeat (first | with_reducible exact Below.refl _ _ | with_reducible assumption | with_reducible refine Below.setCell ?_ (by (try simp) <;> omega) _ | with_reducible refine Below.alloc ?_ (by (try simp) <;> omega) _ | with_reducible refine Below.drew ?_ | with_reducible refine below_drewN ?_ _ | with_reducible exact hb2 | with_reducible refine Below.trans ?_ (Below.mono hb2 (by (try simp) <;> omega)))))
    have PR_2 := hide (Blk.belowH (PR_1.out) hb2)
    have PS_2 := hide (Blk.belowH (PS_1.out) hb2)
    have Z2 : w1.heap.size ≤ w2.heap.size := by simpa using hb2.size
    have L2 := hide (L1.out.trans (D2.out.mono (by omega)))
    have HR_2 := hide (HR_1.out.below D2.out (by omega))
    have HS_2 := hide (HS_1.out.below D2.out (by omega))
    clear hb2 PR_1 kR_1 yR_1 PS_1 kS_1 yS_1 L1 HR_1 HS_1 D2
    have kR_2 := PR_2.out.cell
    have yR_2 := PR_2.out.lt
    have kS_2 := PS_2.out.cell
    have yS_2 := PS_2.out.lt
    go_wp2
    go_ret
    exact ⟨ret_bool (by simp [sameRq, Q0.out, Q1.out, Q2.out, Q3.out, Q4.out]), (by repeat (first | with_reducible exact Below.refl _ _ | with_reducible assumption | with_reducible refine Below.setCell ?_ (by (try simp) <;> omega) _ | with_reducible refine Below.alloc ?_ (by (try simp) <;> omega) _ | with_reducible refine Below.drew ?_ | with_reducible refine below_drewN ?_ _ | with_reducible exact L2.out | with_reducible refine Below.trans ?_ (Below.mono L2.out (by (try simp) <;> omega))))⟩
  have Q4 := hide q4
  clear q4
  cases q5 : (r.master == s.master)
  · have Q5 := hide q5
    go_enter Try.func42, Try.ntmps42
    go_wp2_with fail
    refine (equalPair lo hi lo' hi' _ _ _ _ _ _ _ _ _ (HR_0.out.pr.below (B := w.heap.size) (by repeat (first | with_reducible exact Below.refl _ _ | with_reducible assumption | with_reducible refine Below.setCell ?_ (by (try simp) <;> omega) _ | with_reducible refine Below.alloc ?_ (by (try simp) <;> omega) _ | with_reducible refine Below.drew ?_ | with_reducible refine below_drewN ?_ _)) hB) (by (try simp) <;> omega) (HS_0.out.pr.below (B := w.heap.size) (by repeat (first | with_reducible exact Below.refl _ _ | with_reducible assumption | with_reducible refine Below.setCell ?_ (by (try simp) <;> omega) _ | with_reducible refine Below.alloc ?_ (by (try simp) <;> omega) _ | with_reducible refine Below.drew ?_ | with_reducible refine below_drewN ?_ _)) hB') (by (try simp) <;> omega)).mono ?_
    rw [Q3.out]
    rintro e w1 ⟨rfl, hb1⟩
    have D1 := hide (show Below w.heap.size w w1 from (by repeat (first | with_reducible exact Below.refl _ _ | with_reducible assumption | with_reducible refine Below.setCell ?_ (by (try simp) <;> omega) _ | with_reducible refine Below.alloc ?_ (by (try simp) <;> omega) _ | with_reducible refine Below.drew ?_ | with_reducible refine below_drewN ?_ _ | with_reducible exact hb1 | with_reducible refine Below.trans ?_ (Below.mono hb1 (by (try simp) <;> omega)))))
    have PR_1 := hide (Blk.belowH ((Blk.new w 59 (#[.int .i64 r.way, .int .i64 r.pal.w, .int .i64 r.pal.d, .int .i64 r.pal.h, .int .i64 r.pal.gram, .int .i64 r.cls, .slice A1 n1 c1, .slice A2 n2 c2, .int .i64 r.master, .slice A3 n3 c3]) (g := w.heap.size) (by simp)).alloc _) hb1)
    have PS_1 := hide (Blk.belowH ((Blk.new (w.alloc _) 59 (#[.int .i64 s.way, .int .i64 s.pal.w, .int .i64 s.pal.d, .int .i64 s.pal.h, .int .i64 s.pal.gram, .int .i64 s.cls, .slice A1' n1' c1', .slice A2' n2' c2', .int .i64 s.master, .slice A3' n3' c3']) (g := w.heap.size + 1) (by simp))) hb1)
    have Z1 : w.heap.size + 1 + 1 ≤ w1.heap.size := by simpa using hb1.size
    have L1 := D1
    have HR_1 := hide (HR_0.out.below D1.out (by omega))
    have HS_1 := hide (HS_0.out.below D1.out (by omega))
    clear hb1 HR_0 HS_0 D1
    have kR_1 := PR_1.out.cell
    have yR_1 := PR_1.out.lt
    have kS_1 := PS_1.out.cell
    have yS_1 := PS_1.out.lt
    go_wp2_with fail
    refine (equalType lo hi lo' hi' _ _ _ _ _ _ _ _ _ (HR_1.out.ty) (by (try simp) <;> omega) (HS_1.out.ty) (by (try simp) <;> omega)).mono ?_
    rw [Q4.out]
    rintro e w2 ⟨rfl, hb2⟩
    have D2 := hide (show Below w1.heap.size w1 w2 from (by repeat (first | with_reducible exact Below.refl _ _ | with_reducible assumption | with_reducible refine Below.setCell ?_ (by (try simp) <;> omega) _ | with_reducible refine Below.alloc ?_ (by (try simp) <;> omega) _ | with_reducible refine Below.drew ?_ | with_reducible refine below_drewN ?_ _ | with_reducible exact hb2 | with_reducible refine Below.trans ?_ (Below.mono hb2 (by (try simp) <;> omega)))))
    have PR_2 := hide (Blk.belowH (PR_1.out) hb2)
    have PS_2 := hide (Blk.belowH (PS_1.out) hb2)
    have Z2 : w1.heap.size ≤ w2.heap.size := by simpa using hb2.size
    have L2 := hide (L1.out.trans (D2.out.mono (by omega)))
    have HR_2 := hide (HR_1.out.below D2.out (by omega))
    have HS_2 := hide (HS_1.out.below D2.out (by omega))
    clear hb2 PR_1 kR_1 yR_1 PS_1 kS_1 yS_1 L1 HR_1 HS_1 D2
    have kR_2 := PR_2.out.cell
    have yR_2 := PR_2.out.lt
    have kS_2 := PS_2.out.cell
    have yS_2 := PS_2.out.lt
    go_wp2
    go_ret
    exact ⟨ret_bool (by simp [sameRq, Q0.out, Q1.out, Q2.out, Q3.out, Q4.out, Q5.out]), (by repeat (first | with_reducible exact Below.refl _ _ | with_reducible assumption | with_reducible refine Below.setCell ?_ (by (try simp) <;> omega) _ | with_reducible refine Below.alloc ?_ (by (try simp) <;> omega) _ | with_reducible refine Below.drew ?_ | with_reducible refine below_drewN ?_ _ | with_reducible exact L2.out | with_reducible refine Below.trans ?_ (Below.mono L2.out (by (try simp) <;> omega))))⟩
  have Q5 := hide q5
  cases q6 : sameL pItB r.items s.items
  · have Q6 := hide q6
    clear q6
    go_enter Try.func42, Try.ntmps42
    go_wp2_with fail
    refine (equalPair lo hi lo' hi' _ _ _ _ _ _ _ _ _ (HR_0.out.pr.below (B := w.heap.size) (by repeat (first | with_reducible exact Below.refl _ _ | with_reducible assumption | with_reducible refine Below.setCell ?_ (by (try simp) <;> omega) _ | with_reducible refine Below.alloc ?_ (by (try simp) <;> omega) _ | with_reducible refine Below.drew ?_ | with_reducible refine below_drewN ?_ _)) hB) (by (try simp) <;> omega) (HS_0.out.pr.below (B := w.heap.size) (by repeat (first | with_reducible exact Below.refl _ _ | with_reducible assumption | with_reducible refine Below.setCell ?_ (by (try simp) <;> omega) _ | with_reducible refine Below.alloc ?_ (by (try simp) <;> omega) _ | with_reducible refine Below.drew ?_ | with_reducible refine below_drewN ?_ _)) hB') (by (try simp) <;> omega)).mono ?_
    rw [Q3.out]
    rintro e w1 ⟨rfl, hb1⟩
    have D1 := hide (show Below w.heap.size w w1 from (by repeat (first | with_reducible exact Below.refl _ _ | with_reducible assumption | with_reducible refine Below.setCell ?_ (by (try simp) <;> omega) _ | with_reducible refine Below.alloc ?_ (by (try simp) <;> omega) _ | with_reducible refine Below.drew ?_ | with_reducible refine below_drewN ?_ _ | with_reducible exact hb1 | with_reducible refine Below.trans ?_ (Below.mono hb1 (by (try simp) <;> omega)))))
    have PR_1 := hide (Blk.belowH ((Blk.new w 59 (#[.int .i64 r.way, .int .i64 r.pal.w, .int .i64 r.pal.d, .int .i64 r.pal.h, .int .i64 r.pal.gram, .int .i64 r.cls, .slice A1 n1 c1, .slice A2 n2 c2, .int .i64 r.master, .slice A3 n3 c3]) (g := w.heap.size) (by simp)).alloc _) hb1)
    have PS_1 := hide (Blk.belowH ((Blk.new (w.alloc _) 59 (#[.int .i64 s.way, .int .i64 s.pal.w, .int .i64 s.pal.d, .int .i64 s.pal.h, .int .i64 s.pal.gram, .int .i64 s.cls, .slice A1' n1' c1', .slice A2' n2' c2', .int .i64 s.master, .slice A3' n3' c3']) (g := w.heap.size + 1) (by simp))) hb1)
    have Z1 : w.heap.size + 1 + 1 ≤ w1.heap.size := by simpa using hb1.size
    have L1 := D1
    have HR_1 := hide (HR_0.out.below D1.out (by omega))
    have HS_1 := hide (HS_0.out.below D1.out (by omega))
    clear hb1 HR_0 HS_0 D1
    have kR_1 := PR_1.out.cell
    have yR_1 := PR_1.out.lt
    have kS_1 := PS_1.out.cell
    have yS_1 := PS_1.out.lt
    go_wp2_with fail
    refine (equalType lo hi lo' hi' _ _ _ _ _ _ _ _ _ (HR_1.out.ty) (by (try simp) <;> omega) (HS_1.out.ty) (by (try simp) <;> omega)).mono ?_
    rw [Q4.out]
    rintro e w2 ⟨rfl, hb2⟩
    have D2 := hide (show Below w1.heap.size w1 w2 from (by repeat (first | with_reducible exact Below.refl _ _ | with_reducible assumption | with_reducible refine Below.setCell ?_ (by (try simp) <;> omega) _ | with_reducible refine Below.alloc ?_ (by (try simp) <;> omega) _ | with_reducible refine Below.drew ?_ | with_reducible refine below_drewN ?_ _ | with_reducible exact hb2 | with_reducible refine Below.trans ?_ (Below.mono hb2 (by (try simp) <;> omega)))))
    have PR_2 := hide (Blk.belowH (PR_1.out) hb2)
    have PS_2 := hide (Blk.belowH (PS_1.out) hb2)
    have Z2 : w1.heap.size ≤ w2.heap.size := by simpa using hb2.size
    have L2 := hide (L1.out.trans (D2.out.mono (by omega)))
    have HR_2 := hide (HR_1.out.below D2.out (by omega))
    have HS_2 := hide (HS_1.out.below D2.out (by omega))
    clear hb2 PR_1 kR_1 yR_1 PS_1 kS_1 yS_1 L1 HR_1 HS_1 D2
    have kR_2 := PR_2.out.cell
    have yR_2 := PR_2.out.lt
    have kS_2 := PS_2.out.cell
    have yS_2 := PS_2.out.lt
    go_wp2_with fail
    refine (equalItem lo hi lo' hi' _ _ _ _ _ _ _ _ _ (HR_2.out.it) (by (try simp) <;> omega) (HS_2.out.it) (by (try simp) <;> omega)).mono ?_
    rw [Q6.out]
    rintro e w3 ⟨rfl, hb3⟩
    have D3 := hide (show Below w2.heap.size w2 w3 from (by repeat (first | with_reducible exact Below.refl _ _ | with_reducible assumption | with_reducible refine Below.setCell ?_ (by (try simp) <;> omega) _ | with_reducible refine Below.alloc ?_ (by (try simp) <;> omega) _ | with_reducible refine Below.drew ?_ | with_reducible refine below_drewN ?_ _ | with_reducible exact hb3 | with_reducible refine Below.trans ?_ (Below.mono hb3 (by (try simp) <;> omega)))))
    have PR_3 := hide (Blk.belowH (PR_2.out) hb3)
    have PS_3 := hide (Blk.belowH (PS_2.out) hb3)
    have Z3 : w2.heap.size ≤ w3.heap.size := by simpa using hb3.size
    have L3 := hide (L2.out.trans (D3.out.mono (by omega)))
    have HR_3 := hide (HR_2.out.below D3.out (by omega))
    have HS_3 := hide (HS_2.out.below D3.out (by omega))
    clear hb3 PR_2 kR_2 yR_2 PS_2 kS_2 yS_2 L2 HR_2 HS_2 D3
    have kR_3 := PR_3.out.cell
    have yR_3 := PR_3.out.lt
    have kS_3 := PS_3.out.cell
    have yS_3 := PS_3.out.lt
    go_wp2
    go_ret
    exact ⟨ret_bool (by simp [sameRq, Q0.out, Q1.out, Q2.out, Q3.out, Q4.out, Q5.out, Q6.out]), (by repeat (first | with_reducible exact Below.refl _ _ | with_reducible assumption | with_reducible refine Below.setCell ?_ (by (try simp) <;> omega) _ | with_reducible refine Below.alloc ?_ (by (try simp) <;> omega) _ | with_reducible refine Below.drew ?_ | with_reducible refine below_drewN ?_ _ | with_reducible exact L3.out | with_reducible refine Below.trans ?_ (Below.mono L3.out (by (try simp) <;> omega))))⟩
  have Q6 := hide q6
  clear q6
  go_enter Try.func42, Try.ntmps42
  go_wp2_with fail
  refine (equalPair lo hi lo' hi' _ _ _ _ _ _ _ _ _ (HR_0.out.pr.below (B := w.heap.size) (by repeat (first | with_reducible exact Below.refl _ _ | with_reducible assumption | with_reducible refine Below.setCell ?_ (by (try simp) <;> omega) _ | with_reducible refine Below.alloc ?_ (by (try simp) <;> omega) _ | with_reducible refine Below.drew ?_ | with_reducible refine below_drewN ?_ _)) hB) (by (try simp) <;> omega) (HS_0.out.pr.below (B := w.heap.size) (by repeat (first | with_reducible exact Below.refl _ _ | with_reducible assumption | with_reducible refine Below.setCell ?_ (by (try simp) <;> omega) _ | with_reducible refine Below.alloc ?_ (by (try simp) <;> omega) _ | with_reducible refine Below.drew ?_ | with_reducible refine below_drewN ?_ _)) hB') (by (try simp) <;> omega)).mono ?_
  rw [Q3.out]
  rintro e w1 ⟨rfl, hb1⟩
  have D1 := hide (show Below w.heap.size w w1 from (by repeat (first | with_reducible exact Below.refl _ _ | with_reducible assumption | with_reducible refine Below.setCell ?_ (by (try simp) <;> omega) _ | with_reducible refine Below.alloc ?_ (by (try simp) <;> omega) _ | with_reducible refine Below.drew ?_ | with_reducible refine below_drewN ?_ _ | with_reducible exact hb1 | with_reducible refine Below.trans ?_ (Below.mono hb1 (by (try simp) <;> omega)))))
  have PR_1 := hide (Blk.belowH ((Blk.new w 59 (#[.int .i64 r.way, .int .i64 r.pal.w, .int .i64 r.pal.d, .int .i64 r.pal.h, .int .i64 r.pal.gram, .int .i64 r.cls, .slice A1 n1 c1, .slice A2 n2 c2, .int .i64 r.master, .slice A3 n3 c3]) (g := w.heap.size) (by simp)).alloc _) hb1)
  have PS_1 := hide (Blk.belowH ((Blk.new (w.alloc _) 59 (#[.int .i64 s.way, .int .i64 s.pal.w, .int .i64 s.pal.d, .int .i64 s.pal.h, .int .i64 s.pal.gram, .int .i64 s.cls, .slice A1' n1' c1', .slice A2' n2' c2', .int .i64 s.master, .slice A3' n3' c3']) (g := w.heap.size + 1) (by simp))) hb1)
  have Z1 : w.heap.size + 1 + 1 ≤ w1.heap.size := by simpa using hb1.size
  have L1 := D1
  have HR_1 := hide (HR_0.out.below D1.out (by omega))
  have HS_1 := hide (HS_0.out.below D1.out (by omega))
  clear hb1 HR_0 HS_0 D1
  have kR_1 := PR_1.out.cell
  have yR_1 := PR_1.out.lt
  have kS_1 := PS_1.out.cell
  have yS_1 := PS_1.out.lt
  go_wp2_with fail
  refine (equalType lo hi lo' hi' _ _ _ _ _ _ _ _ _ (HR_1.out.ty) (by (try simp) <;> omega) (HS_1.out.ty) (by (try simp) <;> omega)).mono ?_
  rw [Q4.out]
  rintro e w2 ⟨rfl, hb2⟩
  have D2 := hide (show Below w1.heap.size w1 w2 from (by repeat (first | with_reducible exact Below.refl _ _ | with_reducible assumption | with_reducible refine Below.setCell ?_ (by (try simp) <;> omega) _ | with_reducible refine Below.alloc ?_ (by (try simp) <;> omega) _ | with_reducible refine Below.drew ?_ | with_reducible refine below_drewN ?_ _ | with_reducible exact hb2 | with_reducible refine Below.trans ?_ (Below.mono hb2 (by (try simp) <;> omega)))))
  have PR_2 := hide (Blk.belowH (PR_1.out) hb2)
  have PS_2 := hide (Blk.belowH (PS_1.out) hb2)
  have Z2 : w1.heap.size ≤ w2.heap.size := by simpa using hb2.size
  have L2 := hide (L1.out.trans (D2.out.mono (by omega)))
  have HR_2 := hide (HR_1.out.below D2.out (by omega))
  have HS_2 := hide (HS_1.out.below D2.out (by omega))
  clear hb2 PR_1 kR_1 yR_1 PS_1 kS_1 yS_1 L1 HR_1 HS_1 D2
  have kR_2 := PR_2.out.cell
  have yR_2 := PR_2.out.lt
  have kS_2 := PS_2.out.cell
  have yS_2 := PS_2.out.lt
  go_wp2_with fail
  refine (equalItem lo hi lo' hi' _ _ _ _ _ _ _ _ _ (HR_2.out.it) (by (try simp) <;> omega) (HS_2.out.it) (by (try simp) <;> omega)).mono ?_
  rw [Q6.out]
  rintro e w3 ⟨rfl, hb3⟩
  have D3 := hide (show Below w2.heap.size w2 w3 from (by repeat (first | with_reducible exact Below.refl _ _ | with_reducible assumption | with_reducible refine Below.setCell ?_ (by (try simp) <;> omega) _ | with_reducible refine Below.alloc ?_ (by (try simp) <;> omega) _ | with_reducible refine Below.drew ?_ | with_reducible refine below_drewN ?_ _ | with_reducible exact hb3 | with_reducible refine Below.trans ?_ (Below.mono hb3 (by (try simp) <;> omega)))))
  have PR_3 := hide (Blk.belowH (PR_2.out) hb3)
  have PS_3 := hide (Blk.belowH (PS_2.out) hb3)
  have Z3 : w2.heap.size ≤ w3.heap.size := by simpa using hb3.size
  have L3 := hide (L2.out.trans (D3.out.mono (by omega)))
  have HR_3 := hide (HR_2.out.below D3.out (by omega))
  have HS_3 := hide (HS_2.out.below D3.out (by omega))
  clear hb3 PR_2 kR_2 yR_2 PS_2 kS_2 yS_2 L2 HR_2 HS_2 D3
  have kR_3 := PR_3.out.cell
  have yR_3 := PR_3.out.lt
  have kS_3 := PS_3.out.cell
  have yS_3 := PS_3.out.lt
  go_wp2
  go_ret
  exact ⟨ret_bool (by simp [sameRq, Q0.out, Q1.out, Q2.out, Q3.out, Q4.out, Q5.out, Q6.out]), (by repeat (first | with_reducible exact Below.refl _ _ | with_reducible assumption | with_reducible refine Below.setCell ?_ (by (try simp) <;> omega) _ | with_reducible refine Below.alloc ?_ (by (try simp) <;> omega) _ | with_reducible refine Below.drew ?_ | with_reducible refine below_drewN ?_ _ | with_reducible exact L3.out | with_reducible refine Below.trans ?_ (Below.mono L3.out (by (try simp) <;> omega))))⟩
set_option maxRecDepth 20000 in
set_option maxHeartbeats 4000000 in
theorem ssame_any (r s : Rq) (A1 A2 A3 : Option Addr) (n1 n2 n3 c1 c2 c3 : Nat) (A1' A2' A3' : Option Addr) (n1' n2' n3' c1' c2' c3' : Nat) (lo hi lo' hi' : Nat) (w : World) (hr : RqAt w lo hi r A1 n1 c1 A2 n2 c2 A3 n3 c3) (hB : hi ≤ w.heap.size) (hs : RqAt w lo' hi' s A1' n1' c1' A2' n2' c2' A3' n3' c3') (hB' : hi' ≤ w.heap.size) :
    Calls Try.prog 48 #[.agg #[.int .i64 r.way, .int .i64 r.pal.w, .int .i64 r.pal.d, .int .i64 r.pal.h, .int .i64 r.pal.gram, .int .i64 r.cls, .slice A1 n1 c1, .slice A2 n2 c2, .int .i64 r.master, .slice A3 n3 c3], .agg #[.int .i64 s.way, .int .i64 s.pal.w, .int .i64 s.pal.d, .int .i64 s.pal.h, .int .i64 s.pal.gram, .int .i64 s.cls, .slice A1' n1' c1', .slice A2' n2' c2', .int .i64 s.master, .slice A3' n3' c3']] w fun e w' => e = .returned (.bool (sameRq r s)) ∧ Below w.heap.size w w' := by
  have hq := fun W => (eqqPallet r.pal s.pal W).2
  have hm1 := hr.pr.max
  have hc1 := hr.pr.cap
  have HL1 := hide hr.pr.len
  have hm1' := hs.pr.max
  have hc1' := hs.pr.cap
  have HL1' := hide hs.pr.len
  have hm2 := hr.ty.max
  have hc2 := hr.ty.cap
  have HL2 := hide hr.ty.len
  have hm2' := hs.ty.max
  have hc2' := hs.ty.cap
  have HL2' := hide hs.ty.len
  have hm3 := hr.it.max
  have hc3 := hr.it.cap
  have HL3 := hide hr.it.len
  have hm3' := hs.it.max
  have hc3' := hs.it.cap
  have HL3' := hide hs.it.len
  have HR := hide hr
  have HS := hide hs
  clear hr hs
  cases q0 : (r.way == s.way)
  · have Q0 := hide q0
    have q0' : (r.way != s.way) = true := by simp only [bne, q0]; rfl
    go_enter Try.func48, Try.ntmps48
    go_wp2
    go_ret
    exact ⟨ret_bool (by simp [sameRq, Q0.out]), (by repeat (first | with_reducible exact Below.refl _ _ | with_reducible assumption | with_reducible refine Below.setCell ?_ (by (try simp) <;> omega) _ | with_reducible refine Below.alloc ?_ (by (try simp) <;> omega) _ | with_reducible refine Below.drew ?_ | with_reducible refine below_drewN ?_ _))⟩
  have Q0 := hide q0
  have q0' : (r.way != s.way) = false := by simp only [bne, q0]; rfl
  cases q1 : pPlB r.pal s.pal
  · have Q1 := hide q1
    rw [q1] at hq
    clear q1
    go_enter Try.func48, Try.ntmps48
    go_wp2
    go_ret
    exact ⟨ret_bool (by simp [sameRq, Q1.out]), (by repeat (first | with_reducible exact Below.refl _ _ | with_reducible assumption | with_reducible refine Below.setCell ?_ (by (try simp) <;> omega) _ | with_reducible refine Below.alloc ?_ (by (try simp) <;> omega) _ | with_reducible refine Below.drew ?_ | with_reducible refine below_drewN ?_ _))⟩
  have Q1 := hide q1
  rw [q1] at hq
  clear q1
  cases q2 : (r.cls == s.cls)
  · have Q2 := hide q2
    have q2' : (r.cls != s.cls) = true := by simp only [bne, q2]; rfl
    go_enter Try.func48, Try.ntmps48
    go_wp2
    go_ret
    exact ⟨ret_bool (by simp [sameRq, Q2.out]), (by repeat (first | with_reducible exact Below.refl _ _ | with_reducible assumption | with_reducible refine Below.setCell ?_ (by (try simp) <;> omega) _ | with_reducible refine Below.alloc ?_ (by (try simp) <;> omega) _ | with_reducible refine Below.drew ?_ | with_reducible refine below_drewN ?_ _))⟩
  have Q2 := hide q2
  have q2' : (r.cls != s.cls) = false := by simp only [bne, q2]; rfl
  cases q5 : (r.master == s.master)
  · have Q5 := hide q5
    have q5' : (r.master != s.master) = true := by simp only [bne, q5]; rfl
    go_enter Try.func48, Try.ntmps48
    go_wp2
    go_ret
    exact ⟨ret_bool (by simp [sameRq, Q5.out]), (by repeat (first | with_reducible exact Below.refl _ _ | with_reducible assumption | with_reducible refine Below.setCell ?_ (by (try simp) <;> omega) _ | with_reducible refine Below.alloc ?_ (by (try simp) <;> omega) _ | with_reducible refine Below.drew ?_ | with_reducible refine below_drewN ?_ _))⟩
  have Q5 := hide q5
  have q5' : (r.master != s.master) = false := by simp only [bne, q5]; rfl
  by_cases hne1 : n1 = n1'
  case neg =>
    have HF := hide (show sameL pPrB r.pairs s.pairs = false from sameL_len (by rw [HL1.out, HL1'.out]; exact hne1))
    have hz : (n1 : Int) ≠ (n1' : Int) := by omega
    go_enter Try.func48, Try.ntmps48
    go_wp2
    go_ret
    exact ⟨ret_bool (by simp [sameRq, HF.out]), (by repeat (first | with_reducible exact Below.refl _ _ | with_reducible assumption | with_reducible refine Below.setCell ?_ (by (try simp) <;> omega) _ | with_reducible refine Below.alloc ?_ (by (try simp) <;> omega) _ | with_reducible refine Below.drew ?_ | with_reducible refine below_drewN ?_ _))⟩
  subst hne1
  by_cases hne2 : n2 = n2'
  case neg =>
    have HF := hide (show sameL pTyB r.types s.types = false from sameL_len (by rw [HL2.out, HL2'.out]; exact hne2))
    have hz : (n2 : Int) ≠ (n2' : Int) := by omega
    go_enter Try.func48, Try.ntmps48
    go_wp2
    go_ret
    exact ⟨ret_bool (by simp [sameRq, HF.out]), (by repeat (first | with_reducible exact Below.refl _ _ | with_reducible assumption | with_reducible refine Below.setCell ?_ (by (try simp) <;> omega) _ | with_reducible refine Below.alloc ?_ (by (try simp) <;> omega) _ | with_reducible refine Below.drew ?_ | with_reducible refine below_drewN ?_ _))⟩
  subst hne2
  by_cases hne3 : n3 = n3'
  case neg =>
    have HF := hide (show sameL pItB r.items s.items = false from sameL_len (by rw [HL3.out, HL3'.out]; exact hne3))
    have hz : (n3 : Int) ≠ (n3' : Int) := by omega
    go_enter Try.func48, Try.ntmps48
    go_wp2
    go_ret
    exact ⟨ret_bool (by simp [sameRq, HF.out]), (by repeat (first | with_reducible exact Below.refl _ _ | with_reducible assumption | with_reducible refine Below.setCell ?_ (by (try simp) <;> omega) _ | with_reducible refine Below.alloc ?_ (by (try simp) <;> omega) _ | with_reducible refine Below.drew ?_ | with_reducible refine below_drewN ?_ _))⟩
  subst hne3
  go_enter Try.func48, Try.ntmps48
  go_wp2
  go_loopw [5] (fun i wr => ∃ k : Nat, k ≤ n1 ∧ i = .int .i64 k ∧ Blk wr w.heap.size 59 #[.int .i64 r.way, .int .i64 r.pal.w, .int .i64 r.pal.d, .int .i64 r.pal.h, .int .i64 r.pal.gram, .int .i64 r.cls, .slice A1 n1 c1, .slice A2 n2 c2, .int .i64 r.master, .slice A3 n3 c3] ∧ Blk wr (w.heap.size + 1) 59 #[.int .i64 s.way, .int .i64 s.pal.w, .int .i64 s.pal.d, .int .i64 s.pal.h, .int .i64 s.pal.gram, .int .i64 s.cls, .slice A1' n1 c1', .slice A2' n2 c2', .int .i64 s.master, .slice A3' n3 c3'] ∧ Below w.heap.size w wr ∧ AlikeTo pPrB r.pairs s.pairs k) (fun i _ => n1 - (intOf i).toNat)
  case atStart => exact ⟨0, Nat.zero_le _, rfl, (Blk.new w _ _ rfl).alloc _, Blk.new (w.alloc _) _ _ (by simp), (by repeat (first | with_reducible exact Below.refl _ _ | with_reducible assumption | with_reducible refine Below.setCell ?_ (by (try simp) <;> omega) _ | with_reducible refine Below.alloc ?_ (by (try simp) <;> omega) _ | with_reducible refine Below.drew ?_ | with_reducible refine below_drewN ?_ _)), alike0 _ _ _⟩
  case round =>
    obtain ⟨k1, hk1, rfl, B0, B1, hbel1, hA⟩ := hrel
    have HA := hide hA
    have kR1 := B0.cell
    have kS1 := B1.cell
    have PR1 := hide B0
    have PS1 := hide B1
    have HBel1 := hide hbel1
    have yR1 := B0.lt
    have yS1 := B1.lt
    clear hA B0 B1 hbel1
    by_cases hlt : k1 < n1
    · obtain ⟨b0, off, x, hx, rfl, _, hb, d0, d1, _, _⟩ := (HR.out.pr.below HBel1.out hB).pr hlt
      obtain ⟨b1, off', y, hy, rfl, _, hb1, e0, e1, _, _⟩ := (HS.out.pr.below HBel1.out hB').pr hlt
      have HX := hide hx
      have HY := hide hy
      have he := fun W => (eqqPair x y W).2
      have hltz : (k1 : Int) < (n1 : Int) := by omega
      have i0 : (0 : Int) ≤ (k1 : Int) := by omega
      clear hx hy
      cases hq2 : pPrB x y with
      | false =>
        rw [hq2] at he
        go_wp2_with fail
        go_quiet (fail)
        go_wp2
        go_ret
        have HF := hide (show sameL pPrB r.pairs s.pairs = false from sameL_hit HX.out HY.out hq2)
        exact ⟨ret_bool (by simp [sameRq, HF.out]), below_drewN HBel1.out _⟩
      | true =>
        rw [hq2] at he
        go_wp2_with fail
        go_quiet (fail)
        go_wp2
        go_roundw
        case rel => exact ⟨k1 + 1, by omega, by go_num, PR1.out.drewN _, PS1.out.drewN _, below_drewN HBel1.out _, HA.out.succ HX.out HY.out hq2⟩
        case measure => simp [intOf]; omega
    · have hge : n1 ≤ k1 := by omega
      have hjd1 : decide (k1 < n1) = false := by simp; omega
      clear hlt
      have HF1 := hide (show sameL pPrB r.pairs s.pairs = true from HA.out.all (by rw [HL1.out]; exact hge) (by rw [HL1.out, HL1'.out]))
      clear HA
      go_wp2
      obtain ⟨wo1, hwo⟩ : ∃ wo : World, wo = wr := ⟨_, rfl⟩
      subst hwo
      go_loopw [6] (fun i wr => ∃ k : Nat, k ≤ n2 ∧ i = .int .i64 k ∧ Blk wr w.heap.size 59 #[.int .i64 r.way, .int .i64 r.pal.w, .int .i64 r.pal.d, .int .i64 r.pal.h, .int .i64 r.pal.gram, .int .i64 r.cls, .slice A1 n1 c1, .slice A2 n2 c2, .int .i64 r.master, .slice A3 n3 c3] ∧ Blk wr (w.heap.size + 1) 59 #[.int .i64 s.way, .int .i64 s.pal.w, .int .i64 s.pal.d, .int .i64 s.pal.h, .int .i64 s.pal.gram, .int .i64 s.cls, .slice A1' n1 c1', .slice A2' n2 c2', .int .i64 s.master, .slice A3' n3 c3'] ∧ Below w.heap.size w wr ∧ AlikeTo pTyB r.types s.types k) (fun i _ => n2 - (intOf i).toNat)
      case atStart => exact ⟨0, Nat.zero_le _, rfl, PR1.out, PS1.out, HBel1.out, alike0 _ _ _⟩
      case round =>
        obtain ⟨k2, hk2, rfl, B0, B1, hbel2, hA⟩ := hrel
        have HA := hide hA
        have kR2 := B0.cell
        have kS2 := B1.cell
        have PR2 := hide B0
        have PS2 := hide B1
        have HBel2 := hide hbel2
        have yR2 := B0.lt
        have yS2 := B1.lt
        clear hA B0 B1 hbel2 kR1 kS1
        by_cases hlt : k2 < n2
        · obtain ⟨b0, off, x, hx, rfl, _, hb, d0, d1, d2, d3, d4, d5, d6, _⟩ := (HR.out.ty.below HBel2.out hB).ty hlt
          obtain ⟨b1, off', y, hy, rfl, _, hb1, e0, e1, e2, e3, e4, e5, e6, _⟩ := (HS.out.ty.below HBel2.out hB').ty hlt
          have HX := hide hx
          have HY := hide hy
          have he := fun W => (eqqType x y W).2
          have hltz : (k2 : Int) < (n2 : Int) := by omega
          have i0 : (0 : Int) ≤ (k2 : Int) := by omega
          clear hx hy
          cases hq2 : pTyB x y with
          | false =>
            rw [hq2] at he
            go_wp2_with fail
            go_quiet (fail)
            go_wp2
            go_ret
            have HF := hide (show sameL pTyB r.types s.types = false from sameL_hit HX.out HY.out hq2)
            exact ⟨ret_bool (by simp [sameRq, HF.out]), below_drewN HBel2.out _⟩
          | true =>
            rw [hq2] at he
            go_wp2_with fail
            go_quiet (fail)
            go_wp2
            go_roundw
            case rel => exact ⟨k2 + 1, by omega, by go_num, PR2.out.drewN _, PS2.out.drewN _, below_drewN HBel2.out _, HA.out.succ HX.out HY.out hq2⟩
            case measure => simp [intOf]; omega
        · have hge : n2 ≤ k2 := by omega
          have hjd2 : decide (k2 < n2) = false := by simp; omega
          clear hlt
          have HF2 := hide (show sameL pTyB r.types s.types = true from HA.out.all (by rw [HL2.out]; exact hge) (by rw [HL2.out, HL2'.out]))
          clear HA
          go_wp2
          obtain ⟨wo2, hwo⟩ : ∃ wo : World, wo = wr := ⟨_, rfl⟩
          subst hwo
          go_loopw [7] (fun i wr => ∃ k : Nat, k ≤ n3 ∧ i = .int .i64 k ∧ Blk wr w.heap.size 59 #[.int .i64 r.way, .int .i64 r.pal.w, .int .i64 r.pal.d, .int .i64 r.pal.h, .int .i64 r.pal.gram, .int .i64 r.cls, .slice A1 n1 c1, .slice A2 n2 c2, .int .i64 r.master, .slice A3 n3 c3] ∧ Blk wr (w.heap.size + 1) 59 #[.int .i64 s.way, .int .i64 s.pal.w, .int .i64 s.pal.d, .int .i64 s.pal.h, .int .i64 s.pal.gram, .int .i64 s.cls, .slice A1' n1 c1', .slice A2' n2 c2', .int .i64 s.master, .slice A3' n3 c3'] ∧ Below w.heap.size w wr ∧ AlikeTo pItB r.items s.items k) (fun i _ => n3 - (intOf i).toNat)
          case atStart => exact ⟨0, Nat.zero_le _, rfl, PR2.out, PS2.out, HBel2.out, alike0 _ _ _⟩
          case round =>
            obtain ⟨k3, hk3, rfl, B0, B1, hbel3, hA⟩ := hrel
            have HA := hide hA
            have kR3 := B0.cell
            have kS3 := B1.cell
            have PR3 := hide B0
            have PS3 := hide B1
            have HBel3 := hide hbel3
            have yR3 := B0.lt
            have yS3 := B1.lt
            clear hA B0 B1 hbel3 kR2 kS2
            by_cases hlt : k3 < n3
            · obtain ⟨b0, off, x, hx, rfl, _, hb, d0, d1, d2, d3, d4, d5, d6, _⟩ := (HR.out.it.below HBel3.out hB).it hlt
              obtain ⟨b1, off', y, hy, rfl, _, hb1, e0, e1, e2, e3, e4, e5, e6, _⟩ := (HS.out.it.below HBel3.out hB').it hlt
              have HX := hide hx
              have HY := hide hy
              have he := fun W => (eqqItem x y W).2
              have hltz : (k3 : Int) < (n3 : Int) := by omega
              have i0 : (0 : Int) ≤ (k3 : Int) := by omega
              clear hx hy
              cases hq2 : pItB x y with
              | false =>
                rw [hq2] at he
                go_wp2_with fail
                go_quiet (fail)
                go_wp2
                go_ret
                have HF := hide (show sameL pItB r.items s.items = false from sameL_hit HX.out HY.out hq2)
                exact ⟨ret_bool (by simp [sameRq, HF.out]), below_drewN HBel3.out _⟩
              | true =>
                rw [hq2] at he
                go_wp2_with fail
                go_quiet (fail)
                go_wp2
                go_roundw
                case rel => exact ⟨k3 + 1, by omega, by go_num, PR3.out.drewN _, PS3.out.drewN _, below_drewN HBel3.out _, HA.out.succ HX.out HY.out hq2⟩
                case measure => simp [intOf]; omega
            · have hge : n3 ≤ k3 := by omega
              have hjd3 : decide (k3 < n3) = false := by simp; omega
              clear hlt
              have HF3 := hide (show sameL pItB r.items s.items = true from HA.out.all (by rw [HL3.out]; exact hge) (by rw [HL3.out, HL3'.out]))
              clear HA
              go_wp2
              go_ret
              exact ⟨ret_bool (by simp [sameRq, Q0.out, Q1.out, Q2.out, Q5.out, HF1.out, HF2.out, HF3.out]), HBel3.out⟩
end Go.Proofs.Ytcbmiodilfjjjaa
