/- RequestSame, the program's and the reference's. Written by gen/gen_d2.py. -/
import Derived.Test.YtojmkkcjjlppiaaD1
namespace Go.Proofs.Ytojmkkcjjlppiaa
open Go.ChangeShapes Go.WideShapes Go.ChangeAt Go.RowKit Go.Deep
set_option linter.unusedVariables false
set_option linter.unusedSimpArgs false

/-- Two orders are alike. -/
def sameRq (r s : Rq) : Bool := (r.way == s.way) && pPlB r.pal s.pal && (r.cls == s.cls) && sameL pPrB r.pairs s.pairs && sameL pTyB r.types s.types && (r.master == s.master) && sameL pItB r.items s.items
theorem sameRq_self (r : Rq) : sameRq r r = true := by simp [sameRq, pPlB_self, sameL_self pPrB_self, sameL_self pTyB_self, sameL_self pItB_self]
set_option maxRecDepth 20000 in
set_option maxHeartbeats 2000000 in
theorem same_any (r s : Rq) (A1 A2 A3 : Option Addr) (n1 n2 n3 c1 c2 c3 : Nat) (A1' A2' A3' : Option Addr) (n1' n2' n3' c1' c2' c3' : Nat) (lo hi lo' hi' : Nat) (w : World) (hr : RqAt w lo hi r A1 n1 c1 A2 n2 c2 A3 n3 c3) (hB : hi ≤ w.heap.size) (hs : RqAt w lo' hi' s A1' n1' c1' A2' n2' c2' A3' n3' c3') (hB' : hi' ≤ w.heap.size) :
    Calls Try.prog 26 #[.agg #[.int .i64 r.way, .int .i64 r.pal.w, .int .i64 r.pal.d, .int .i64 r.pal.h, .int .i64 r.pal.gram, .int .i64 r.cls, .slice A1 n1 c1, .slice A2 n2 c2, .int .i64 r.master, .slice A3 n3 c3], .agg #[.int .i64 s.way, .int .i64 s.pal.w, .int .i64 s.pal.d, .int .i64 s.pal.h, .int .i64 s.pal.gram, .int .i64 s.cls, .slice A1' n1' c1', .slice A2' n2' c2', .int .i64 s.master, .slice A3' n3' c3']] w fun e w' => e = .returned (.bool (sameRq r s)) ∧ Below w.heap.size w w' := by
  have hq := fun W => (eqqPallet r.pal s.pal W).1
  have HR_0 := hide hr
  have HS_0 := hide hs
  clear hr hs
  cases q0 : (r.way == s.way)
  · have Q0 := hide q0
    go_enter Try.func26, Try.ntmps26
    go_wp2
    go_ret
    exact ⟨ret_bool (by simp [sameRq, Q0.out]), (by repeat (first | with_reducible exact Below.refl _ _ | with_reducible assumption | with_reducible refine Below.setCell ?_ (by (try simp) <;> omega) _ | with_reducible refine Below.alloc ?_ (by (try simp) <;> omega) _ | with_reducible refine Below.drew ?_ | with_reducible refine below_drewN ?_ _))⟩
  have Q0 := hide q0
  cases q1 : pPlB r.pal s.pal
  · have Q1 := hide q1
    rw [q1] at hq
    clear q1
    go_enter Try.func26, Try.ntmps26
    go_wp2
    go_ret
    exact ⟨ret_bool (by simp [sameRq, Q0.out, Q1.out]), (by repeat (first | with_reducible exact Below.refl _ _ | with_reducible assumption | with_reducible refine Below.setCell ?_ (by (try simp) <;> omega) _ | with_reducible refine Below.alloc ?_ (by (try simp) <;> omega) _ | with_reducible refine Below.drew ?_ | with_reducible refine below_drewN ?_ _))⟩
  have Q1 := hide q1
  rw [q1] at hq
  clear q1
  cases q2 : (r.cls == s.cls)
  · have Q2 := hide q2
    go_enter Try.func26, Try.ntmps26
    go_wp2
    go_ret
    exact ⟨ret_bool (by simp [sameRq, Q0.out, Q1.out, Q2.out]), (by repeat (first | with_reducible exact Below.refl _ _ | with_reducible assumption | with_reducible refine Below.setCell ?_ (by (try simp) <;> omega) _ | with_reducible refine Below.alloc ?_ (by (try simp) <;> omega) _ | with_reducible refine Below.drew ?_ | with_reducible refine below_drewN ?_ _))⟩
  have Q2 := hide q2
  cases q3 : sameL pPrB r.pairs s.pairs
  · have Q3 := hide q3
    clear q3
    go_enter Try.func26, Try.ntmps26
    go_wp2_with fail
    refine (equalPair lo hi lo' hi' _ _ _ _ _ _ _ _ _ (HR_0.out.pr.below (B := w.heap.size) (by repeat (first | with_reducible exact Below.refl _ _ | with_reducible assumption | with_reducible refine Below.setCell ?_ (by (try simp) <;> omega) _ | with_reducible refine Below.alloc ?_ (by (try simp) <;> omega) _ | with_reducible refine Below.drew ?_ | with_reducible refine below_drewN ?_ _)) hB) (by (try simp) <;> omega) (HS_0.out.pr.below (B := w.heap.size) (by repeat (first | with_reducible exact Below.refl _ _ | with_reducible assumption | with_reducible refine Below.setCell ?_ (by (try simp) <;> omega) _ | with_reducible refine Below.alloc ?_ (by (try simp) <;> omega) _ | with_reducible refine Below.drew ?_ | with_reducible refine below_drewN ?_ _)) hB') (by (try simp) <;> omega)).mono ?_
    rw [Q3.out]
    rintro e w1 ⟨rfl, hb1⟩
    have D1 := hide (show Below w.heap.size w w1 from (by repeat (first | with_reducible exact Below.refl _ _ | with_reducible assumption | with_reducible refine Below.setCell ?_ (by (try simp) <;> omega) _ | with_reducible refine Below.alloc ?_ (by (try simp) <;> omega) _ | with_reducible refine Below.drew ?_ | with_reducible refine below_drewN ?_ _ | with_reducible exact hb1 | with_reducible refine Below.trans ?_ (Below.mono hb1 (by (try simp) <;> omega)))))
    have PR_1 := hide (Blk.belowH ((Blk.new w 43 (#[.int .i64 r.way, .int .i64 r.pal.w, .int .i64 r.pal.d, .int .i64 r.pal.h, .int .i64 r.pal.gram, .int .i64 r.cls, .slice A1 n1 c1, .slice A2 n2 c2, .int .i64 r.master, .slice A3 n3 c3]) (g := w.heap.size) (by simp)).alloc _) hb1)
    have PS_1 := hide (Blk.belowH ((Blk.new (w.alloc _) 43 (#[.int .i64 s.way, .int .i64 s.pal.w, .int .i64 s.pal.d, .int .i64 s.pal.h, .int .i64 s.pal.gram, .int .i64 s.cls, .slice A1' n1' c1', .slice A2' n2' c2', .int .i64 s.master, .slice A3' n3' c3']) (g := w.heap.size + 1) (by simp))) hb1)
    have Z1 : w.heap.size + 1 + 1 ≤ w1.heap.size := by simpa using hb1.size
    have L1 := D1
    have HR_1 := hide (HR_0.out.below D1.out (by omega))
    have HS_1 := hide (HS_0.out.below D1.out (by omega))
    clear hb1 HR_0 HS_0 D1
    have kR_1 := PR_1.out.cell
    have yR_1 := PR_1.out.lt
    have kS_1 := PS_1.out.cell
    have yS_1 := PS_1.out.lt
    go_wp2
    go_ret
    exact ⟨ret_bool (by simp [sameRq, Q0.out, Q1.out, Q2.out, Q3.out]), (by repeat (first | with_reducible exact Below.refl _ _ | with_reducible assumption | with_reducible refine Below.setCell ?_ (by (try simp) <;> omega) _ | with_reducible refine Below.alloc ?_ (by (try simp) <;> omega) _ | with_reducible refine Below.drew ?_ | with_reducible refine below_drewN ?_ _ | with_reducible exact L1.out | with_reducible refine Below.trans ?_ (Below.mono L1.out (by (try simp) <;> omega))))⟩
  have Q3 := hide q3
  clear q3
  cases q4 : sameL pTyB r.types s.types
  · have Q4 := hide q4
    clear q4
    go_enter Try.func26, Try.ntmps26
    go_wp2_with fail
    refine (equalPair lo hi lo' hi' _ _ _ _ _ _ _ _ _ (HR_0.out.pr.below (B := w.heap.size) (by repeat (first | with_reducible exact Below.refl _ _ | with_reducible assumption | with_reducible refine Below.setCell ?_ (by (try simp) <;> omega) _ | with_reducible refine Below.alloc ?_ (by (try simp) <;> omega) _ | with_reducible refine Below.drew ?_ | with_reducible refine below_drewN ?_ _)) hB) (by (try simp) <;> omega) (HS_0.out.pr.below (B := w.heap.size) (by repeat (first | with_reducible exact Below.refl _ _ | with_reducible assumption | with_reducible refine Below.setCell ?_ (by (try simp) <;> omega) _ | with_reducible refine Below.alloc ?_ (by (try simp) <;> omega) _ | with_reducible refine Below.drew ?_ | with_reducible refine below_drewN ?_ _)) hB') (by (try simp) <;> omega)).mono ?_
    rw [Q3.out]
    rintro e w1 ⟨rfl, hb1⟩
    have D1 := hide (show Below w.heap.size w w1 from (by repeat (first | with_reducible exact Below.refl _ _ | with_reducible assumption | with_reducible refine Below.setCell ?_ (by (try simp) <;> omega) _ | with_reducible refine Below.alloc ?_ (by (try simp) <;> omega) _ | with_reducible refine Below.drew ?_ | with_reducible refine below_drewN ?_ _ | with_reducible exact hb1 | with_reducible refine Below.trans ?_ (Below.mono hb1 (by (try simp) <;> omega)))))
    have PR_1 := hide (Blk.belowH ((Blk.new w 43 (#[.int .i64 r.way, .int .i64 r.pal.w, .int .i64 r.pal.d, .int .i64 r.pal.h, .int .i64 r.pal.gram, .int .i64 r.cls, .slice A1 n1 c1, .slice A2 n2 c2, .int .i64 r.master, .slice A3 n3 c3]) (g := w.heap.size) (by simp)).alloc _) hb1)
    have PS_1 := hide (Blk.belowH ((Blk.new (w.alloc _) 43 (#[.int .i64 s.way, .int .i64 s.pal.w, .int .i64 s.pal.d, .int .i64 s.pal.h, .int .i64 s.pal.gram, .int .i64 s.cls, .slice A1' n1' c1', .slice A2' n2' c2', .int .i64 s.master, .slice A3' n3' c3']) (g := w.heap.size + 1) (by simp))) hb1)
    have Z1 : w.heap.size + 1 + 1 ≤ w1.heap.size := by simpa using hb1.size
    have L1 := D1
    have HR_1 := hide (HR_0.out.below D1.out (by omega))
    have HS_1 := hide (HS_0.out.below D1.out (by omega))
    clear hb1 HR_0 HS_0 D1
    have kR_1 := PR_1.out.cell
    have yR_1 := PR_1.out.lt
    have kS_1 := PS_1.out.cell
    have yS_1 := PS_1.out.lt
    go_wp2_with fail
    refine (equalType lo hi lo' hi' _ _ _ _ _ _ _ _ _ (HR_1.out.ty) (by (try simp) <;> omega) (HS_1.out.ty) (by (try simp) <;> omega)).mono ?_
    rw [Q4.out]
    rintro e w2 ⟨rfl, hb2⟩
    have D2 := hide (show Below w1.heap.size w1 w2 from (by repeat (first | with_reducible exact Below.refl _ _ | with_reducible assumption | with_reducible refine Below.setCell ?_ (by (try simp) <;> omega) _ | with_reducible refine Below.alloc ?_ (by (try simp) <;> omega) _ | with_reducible refine Below.drew ?_ | with_reducible refine below_drewN ?_ _ | with_reducible exact hb2 | with_reducible refine Below.trans ?_ (Below.mono hb2 (by (try simp) <;> omega)))))
    have PR_2 := hide (Blk.belowH (PR_1.out) hb2)
    have PS_2 := hide (Blk.belowH (PS_1.out) hb2)
    have Z2 : w1.heap.size ≤ w2.heap.size := by simpa using hb2.size
    have L2 := hide (L1.out.trans (D2.out.mono (by omega)))
    have HR_2 := hide (HR_1.out.below D2.out (by omega))
    have HS_2 := hide (HS_1.out.below D2.out (by omega))
    clear hb2 PR_1 kR_1 yR_1 PS_1 kS_1 yS_1 L1 HR_1 HS_1 D2
    have kR_2 := PR_2.out.cell
    have yR_2 := PR_2.out.lt
    have kS_2 := PS_2.out.cell
    have yS_2 := PS_2.out.lt
    go_wp2
    go_ret
    exact ⟨ret_bool (by simp [sameRq, Q0.out, Q1.out, Q2.out, Q3.out, Q4.out]), (by repeat (first | with_reducible exact Below.refl _ _ | with_reducible assumption | with_reducible refine Below.setCell ?_ (by (try simp) <;> omega) _ | with_reducible refine Below.alloc ?_ (by (try simp) <;> omega) _ | with_reducible refine Below.drew ?_ | with_reducible refine below_drewN ?_ _ | with_reducible exact L2.out | with_reducible refine Below.trans ?_ (Below.mono L2.out (by (try simp) <;> omega))))⟩
  have Q4 := hide q4
  clear q4
  cases q5 : (r.master == s.master)
  · have Q5 := hide q5
    go_enter Try.func26, Try.ntmps26
    go_wp2_with fail
    refine (equalPair lo hi lo' hi' _ _ _ _ _ _ _ _ _ (HR_0.out.pr.below (B := w.heap.size) (by repeat (first | with_reducible exact Below.refl _ _ | with_reducible assumption | with_reducible refine Below.setCell ?_ (by (try simp) <;> omega) _ | with_reducible refine Below.alloc ?_ (by (try simp) <;> omega) _ | with_reducible refine Below.drew ?_ | with_reducible refine below_drewN ?_ _)) hB) (by (try simp) <;> omega) (HS_0.out.pr.below (B := w.heap.size) (by repeat (first | with_reducible exact Below.refl _ _ | with_reducible assumption | with_reducible refine Below.setCell ?_ (by (try simp) <;> omega) _ | with_reducible refine Below.alloc ?_ (by (try simp) <;> omega) _ | with_reducible refine Below.drew ?_ | with_reducible refine below_drewN ?_ _)) hB') (by (try simp) <;> omega)).mono ?_
    rw [Q3.out]
    rintro e w1 ⟨rfl, hb1⟩
    have D1 := hide (show Below w.heap.size w w1 from (by repeat (first | with_reducible exact Below.refl _ _ | with_reducible assumption | with_reducible refine Below.setCell ?_ (by (try simp) <;> omega) _ | with_reducible refine Below.alloc ?_ (by (try simp) <;> omega) _ | with_reducible refine Below.drew ?_ | with_reducible refine below_drewN ?_ _ | with_reducible exact hb1 | with_reducible refine Below.trans ?_ (Below.mono hb1 (by (try simp) <;> omega)))))
    have PR_1 := hide (Blk.belowH ((Blk.new w 43 (#[.int .i64 r.way, .int .i64 r.pal.w, .int .i64 r.pal.d, .int .i64 r.pal.h, .int .i64 r.pal.gram, .int .i64 r.cls, .slice A1 n1 c1, .slice A2 n2 c2, .int .i64 r.master, .slice A3 n3 c3]) (g := w.heap.size) (by simp)).alloc _) hb1)
    have PS_1 := hide (Blk.belowH ((Blk.new (w.alloc _) 43 (#[.int .i64 s.way, .int .i64 s.pal.w, .int .i64 s.pal.d, .int .i64 s.pal.h, .int .i64 s.pal.gram, .int .i64 s.cls, .slice A1' n1' c1', .slice A2' n2' c2', .int .i64 s.master, .slice A3' n3' c3']) (g := w.heap.size + 1) (by simp))) hb1)
    have Z1 : w.heap.size + 1 + 1 ≤ w1.heap.size := by simpa using hb1.size
    have L1 := D1
    have HR_1 := hide (HR_0.out.below D1.out (by omega))
    have HS_1 := hide (HS_0.out.below D1.out (by omega))
    clear hb1 HR_0 HS_0 D1
    have kR_1 := PR_1.out.cell
    have yR_1 := PR_1.out.lt
    have kS_1 := PS_1.out.cell
    have yS_1 := PS_1.out.lt
    go_wp2_with fail
    refine (equalType lo hi lo' hi' _ _ _ _ _ _ _ _ _ (HR_1.out.ty) (by (try simp) <;> omega) (HS_1.out.ty) (by (try simp) <;> omega)).mono ?_
    rw [Q4.out]
    rintro e w2 ⟨rfl, hb2⟩
    have D2 := hide (show Below w1.heap.size w1 w2 from (by repeat (first | with_reducible exact Below.refl _ _ | with_reducible assumption | with_reducible refine Below.setCell ?_ (by (try simp) <;> omega) _ | with_reducible refine Below.alloc ?_ (by (try simp) <;> omega) _ | with_reducible refine Below.drew ?_ | with_reducible refine below_drewN ?_ _ | with_reducible exact hb2 | with_reducible refine Below.trans ?_ (Below.mono hb2 (by (try simp) <;> omega)))))
    have PR_2 := hide (Blk.belowH (PR_1.out) hb2)
    have PS_2 := hide (Blk.belowH (PS_1.out) hb2)
    have Z2 : w1.heap.size ≤ w2.heap.size := by simpa using hb2.size
    have L2 := hide (L1.out.trans (D2.out.mono (by omega)))
    have HR_2 := hide (HR_1.out.below D2.out (by omega))
    have HS_2 := hide (HS_1.out.below D2.out (by omega))
    clear hb2 PR_1 kR_1 yR_1 PS_1 kS_1 yS_1 L1 HR_1 HS_1 D2
    have kR_2 := PR_2.out.cell
    have yR_2 := PR_2.out.lt
    have kS_2 := PS_2.out.cell
    have yS_2 := PS_2.out.lt
    go_wp2
    go_ret
    exact ⟨ret_bool (by simp [sameRq, Q0.out, Q1.out, Q2.out, Q3.out, Q4.out, Q5.out]), (by repeat (first | with_reducible exact Below.refl _ _ | with_reducible assumption | with_reducible refine Below.setCell ?_ (by (try simp) <;> omega) _ | with_reducible refine Below.alloc ?_ (by (try simp) <;> omega) _ | with_reducible refine Below.drew ?_ | with_reducible refine below_drewN ?_ _ | with_reducible exact L2.out | with_reducible refine Below.trans ?_ (Below.mono L2.out (by (try simp) <;> omega))))⟩
  have Q5 := hide q5
  cases q6 : sameL pItB r.items s.items
  · have Q6 := hide q6
    clear q6
    go_enter Try.func26, Try.ntmps26
    go_wp2_with fail
    refine (equalPair lo hi lo' hi' _ _ _ _ _ _ _ _ _ (HR_0.out.pr.below (B := w.heap.size) (by repeat (first | with_reducible exact Below.refl _ _ | with_reducible assumption | with_reducible refine Below.setCell ?_ (by (try simp) <;> omega) _ | with_reducible refine Below.alloc ?_ (by (try simp) <;> omega) _ | with_reducible refine Below.drew ?_ | with_reducible refine below_drewN ?_ _)) hB) (by (try simp) <;> omega) (HS_0.out.pr.below (B := w.heap.size) (by repeat (first | with_reducible exact Below.refl _ _ | with_reducible assumption | with_reducible refine Below.setCell ?_ (by (try simp) <;> omega) _ | with_reducible refine Below.alloc ?_ (by (try simp) <;> omega) _ | with_reducible refine Below.drew ?_ | with_reducible refine below_drewN ?_ _)) hB') (by (try simp) <;> omega)).mono ?_
    rw [Q3.out]
    rintro e w1 ⟨rfl, hb1⟩
    have D1 := hide (show Below w.heap.size w w1 from (by repeat (first | with_reducible exact Below.refl _ _ | with_reducible assumption | with_reducible refine Below.setCell ?_ (by (try simp) <;> omega) _ | with_reducible refine Below.alloc ?_ (by (try simp) <;> omega) _ | with_reducible refine Below.drew ?_ | with_reducible refine below_drewN ?_ _ | with_reducible exact hb1 | with_reducible refine Below.trans ?_ (Below.mono hb1 (by (try simp) <;> omega)))))
    have PR_1 := hide (Blk.belowH ((Blk.new w 43 (#[.int .i64 r.way, .int .i64 r.pal.w, .int .i64 r.pal.d, .int .i64 r.pal.h, .int .i64 r.pal.gram, .int .i64 r.cls, .slice A1 n1 c1, .slice A2 n2 c2, .int .i64 r.master, .slice A3 n3 c3]) (g := w.heap.size) (by simp)).alloc _) hb1)
    have PS_1 := hide (Blk.belowH ((Blk.new (w.alloc _) 43 (#[.int .i64 s.way, .int .i64 s.pal.w, .int .i64 s.pal.d, .int .i64 s.pal.h, .int .i64 s.pal.gram, .int .i64 s.cls, .slice A1' n1' c1', .slice A2' n2' c2', .int .i64 s.master, .slice A3' n3' c3']) (g := w.heap.size + 1) (by simp))) hb1)
    have Z1 : w.heap.size + 1 + 1 ≤ w1.heap.size := by simpa using hb1.size
    have L1 := D1
    have HR_1 := hide (HR_0.out.below D1.out (by omega))
    have HS_1 := hide (HS_0.out.below D1.out (by omega))
    clear hb1 HR_0 HS_0 D1
    have kR_1 := PR_1.out.cell
    have yR_1 := PR_1.out.lt
    have kS_1 := PS_1.out.cell
    have yS_1 := PS_1.out.lt
    go_wp2_with fail
    refine (equalType lo hi lo' hi' _ _ _ _ _ _ _ _ _ (HR_1.out.ty) (by (try simp) <;> omega) (HS_1.out.ty) (by (try simp) <;> omega)).mono ?_
    rw [Q4.out]
    rintro e w2 ⟨rfl, hb2⟩
    have D2 := hide (show Below w1.heap.size w1 w2 from (by repeat (first | with_reducible exact Below.refl _ _ | with_reducible assumption | with_reducible refine Below.setCell ?_ (by (try simp) <;> omega) _ | with_reducible refine Below.alloc ?_ (by (try simp) <;> omega) _ | with_reducible refine Below.drew ?_ | with_reducible refine below_drewN ?_ _ | with_reducible exact hb2 | with_reducible refine Below.trans ?_ (Below.mono hb2 (by (try simp) <;> omega)))))
    have PR_2 := hide (Blk.belowH (PR_1.out) hb2)
    have PS_2 := hide (Blk.belowH (PS_1.out) hb2)
    have Z2 : w1.heap.size ≤ w2.heap.size := by simpa using hb2.size
    have L2 := hide (L1.out.trans (D2.out.mono (by omega)))
    have HR_2 := hide (HR_1.out.below D2.out (by omega))
    have HS_2 := hide (HS_1.out.below D2.out (by omega))
    clear hb2 PR_1 kR_1 yR_1 PS_1 kS_1 yS_1 L1 HR_1 HS_1 D2
    have kR_2 := PR_2.out.cell
    have yR_2 := PR_2.out.lt
    have kS_2 := PS_2.out.cell
    have yS_2 := PS_2.out.lt
    go_wp2_with fail
    refine (equalItem lo hi lo' hi' _ _ _ _ _ _ _ _ _ (HR_2.out.it) (by (try simp) <;> omega) (HS_2.out.it) (by (try simp) <;> omega)).mono ?_
    rw [Q6.out]
    rintro e w3 ⟨rfl, hb3⟩
    have D3 := hide (show Below w2.heap.size w2 w3 from (by repeat (first | with_reducible exact Below.refl _ _ | with_reducible assumption | with_reducible refine Below.setCell ?_ (by (try simp) <;> omega) _ | with_reducible refine Below.alloc ?_ (by (try simp) <;> omega) _ | with_reducible refine Below.drew ?_ | with_reducible refine below_drewN ?_ _ | with_reducible exact hb3 | with_reducible refine Below.trans ?_ (Below.mono hb3 (by (try simp) <;> omega)))))
    have PR_3 := hide (Blk.belowH (PR_2.out) hb3)
    have PS_3 := hide (Blk.belowH (PS_2.out) hb3)
    have Z3 : w2.heap.size ≤ w3.heap.size := by simpa using hb3.size
    have L3 := hide (L2.out.trans (D3.out.mono (by omega)))
    have HR_3 := hide (HR_2.out.below D3.out (by omega))
    have HS_3 := hide (HS_2.out.below D3.out (by omega))
    clear hb3 PR_2 kR_2 yR_2 PS_2 kS_2 yS_2 L2 HR_2 HS_2 D3
    have kR_3 := PR_3.out.cell
    have yR_3 := PR_3.out.lt
    have kS_3 := PS_3.out.cell
    have yS_3 := PS_3.out.lt
    go_wp2
    go_ret
    exact ⟨ret_bool (by simp [sameRq, Q0.out, Q1.out, Q2.out, Q3.out, Q4.out, Q5.out, Q6.out]), (by repeat (first | with_reducible exact Below.refl _ _ | with_reducible assumption | with_reducible refine Below.setCell ?_ (by (try simp) <;> omega) _ | with_reducible refine Below.alloc ?_ (by (try simp) <;> omega) _ | with_reducible refine Below.drew ?_ | with_reducible refine below_drewN ?_ _ | with_reducible exact L3.out | with_reducible refine Below.trans ?_ (Below.mono L3.out (by (try simp) <;> omega))))⟩
  have Q6 := hide q6
  clear q6
  go_enter Try.func26, Try.ntmps26
  go_wp2_with fail
  refine (equalPair lo hi lo' hi' _ _ _ _ _ _ _ _ _ (HR_0.out.pr.below (B := w.heap.size) (by repeat (first | with_reducible exact Below.refl _ _ | with_reducible assumption | with_reducible refine Below.setCell ?_ (by (try simp) <;> omega) _ | with_reducible refine Below.alloc ?_ (by (try simp) <;> omega) _ | with_reducible refine Below.drew ?_ | with_reducible refine below_drewN ?_ _)) hB) (by (try simp) <;> omega) (HS_0.out.pr.below (B := w.heap.size) (by repeat (first | with_reducible exact Below.refl _ _ | with_reducible assumption | with_reducible refine Below.setCell ?_ (by (try simp) <;> omega) _ | with_reducible refine Below.alloc ?_ (by (try simp) <;> omega) _ | with_reducible refine Below.drew ?_ | with_reducible refine below_drewN ?_ _)) hB') (by (try simp) <;> omega)).mono ?_
  rw [Q3.out]
  rintro e w1 ⟨rfl, hb1⟩
  have D1 := hide (show Below w.heap.size w w1 from (by repeat (first | with_reducible exact Below.refl _ _ | with_reducible assumption | with_reducible refine Below.setCell ?_ (by (try simp) <;> omega) _ | with_reducible refine Below.alloc ?_ (by (try simp) <;> omega) _ | with_reducible refine Below.drew ?_ | with_reducible refine below_drewN ?_ _ | with_reducible exact hb1 | with_reducible refine Below.trans ?_ (Below.mono hb1 (by (try simp) <;> omega)))))
  have PR_1 := hide (Blk.belowH ((Blk.new w 43 (#[.int .i64 r.way, .int .i64 r.pal.w, .int .i64 r.pal.d, .int .i64 r.pal.h, .int .i64 r.pal.gram, .int .i64 r.cls, .slice A1 n1 c1, .slice A2 n2 c2, .int .i64 r.master, .slice A3 n3 c3]) (g := w.heap.size) (by simp)).alloc _) hb1)
  have PS_1 := hide (Blk.belowH ((Blk.new (w.alloc _) 43 (#[.int .i64 s.way, .int .i64 s.pal.w, .int .i64 s.pal.d, .int .i64 s.pal.h, .int .i64 s.pal.gram, .int .i64 s.cls, .slice A1' n1' c1', .slice A2' n2' c2', .int .i64 s.master, .slice A3' n3' c3']) (g := w.heap.size + 1) (by simp))) hb1)
  have Z1 : w.heap.size + 1 + 1 ≤ w1.heap.size := by simpa using hb1.size
  have L1 := D1
  have HR_1 := hide (HR_0.out.below D1.out (by omega))
  have HS_1 := hide (HS_0.out.below D1.out (by omega))
  clear hb1 HR_0 HS_0 D1
  have kR_1 := PR_1.out.cell
  have yR_1 := PR_1.out.lt
  have kS_1 := PS_1.out.cell
  have yS_1 := PS_1.out.lt
  go_wp2_with fail
  refine (equalType lo hi lo' hi' _ _ _ _ _ _ _ _ _ (HR_1.out.ty) (by (try simp) <;> omega) (HS_1.out.ty) (by (try simp) <;> omega)).mono ?_
  rw [Q4.out]
  rintro e w2 ⟨rfl, hb2⟩
  have D2 := hide (show Below w1.heap.size w1 w2 from (by repeat (first | with_reducible exact Below.refl _ _ | with_reducible assumption | with_reducible refine Below.setCell ?_ (by (try simp) <;> omega) _ | with_reducible refine Below.alloc ?_ (by (try simp) <;> omega) _ | with_reducible refine Below.drew ?_ | with_reducible refine below_drewN ?_ _ | with_reducible exact hb2 | with_reducible refine Below.trans ?_ (Below.mono hb2 (by (try simp) <;> omega)))))
  have PR_2 := hide (Blk.belowH (PR_1.out) hb2)
  have PS_2 := hide (Blk.belowH (PS_1.out) hb2)
  have Z2 : w1.heap.size ≤ w2.heap.size := by simpa using hb2.size
  have L2 := hide (L1.out.trans (D2.out.mono (by omega)))
  have HR_2 := hide (HR_1.out.below D2.out (by omega))
  have HS_2 := hide (HS_1.out.below D2.out (by omega))
  clear hb2 PR_1 kR_1 yR_1 PS_1 kS_1 yS_1 L1 HR_1 HS_1 D2
  have kR_2 := PR_2.out.cell
  have yR_2 := PR_2.out.lt
  have kS_2 := PS_2.out.cell
  have yS_2 := PS_2.out.lt
  go_wp2_with fail
  refine (equalItem lo hi lo' hi' _ _ _ _ _ _ _ _ _ (HR_2.out.it) (by (try simp) <;> omega) (HS_2.out.it) (by (try simp) <;> omega)).mono ?_
  rw [Q6.out]
  rintro e w3 ⟨rfl, hb3⟩
  have D3 := hide (show Below w2.heap.size w2 w3 from (by repeat (first | with_reducible exact Below.refl _ _ | with_reducible assumption | with_reducible refine Below.setCell ?_ (by (try simp) <;> omega) _ | with_reducible refine Below.alloc ?_ (by (try simp) <;> omega) _ | with_reducible refine Below.drew ?_ | with_reducible refine below_drewN ?_ _ | with_reducible exact hb3 | with_reducible refine Below.trans ?_ (Below.mono hb3 (by (try simp) <;> omega)))))
  have PR_3 := hide (Blk.belowH (PR_2.out) hb3)
  have PS_3 := hide (Blk.belowH (PS_2.out) hb3)
  have Z3 : w2.heap.size ≤ w3.heap.size := by simpa using hb3.size
  have L3 := hide (L2.out.trans (D3.out.mono (by omega)))
  have HR_3 := hide (HR_2.out.below D3.out (by omega))
  have HS_3 := hide (HS_2.out.below D3.out (by omega))
  clear hb3 PR_2 kR_2 yR_2 PS_2 kS_2 yS_2 L2 HR_2 HS_2 D3
  have kR_3 := PR_3.out.cell
  have yR_3 := PR_3.out.lt
  have kS_3 := PS_3.out.cell
  have yS_3 := PS_3.out.lt
  go_wp2
  go_ret
  exact ⟨ret_bool (by simp [sameRq, Q0.out, Q1.out, Q2.out, Q3.out, Q4.out, Q5.out, Q6.out]), (by repeat (first | with_reducible exact Below.refl _ _ | with_reducible assumption | with_reducible refine Below.setCell ?_ (by (try simp) <;> omega) _ | with_reducible refine Below.alloc ?_ (by (try simp) <;> omega) _ | with_reducible refine Below.drew ?_ | with_reducible refine below_drewN ?_ _ | with_reducible exact L3.out | with_reducible refine Below.trans ?_ (Below.mono L3.out (by (try simp) <;> omega))))⟩
end Go.Proofs.Ytojmkkcjjlppiaa
