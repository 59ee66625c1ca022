/- Class, the program's and the reference's; sound. Written by gen/gen_cls.py. -/
import Derived.Test.YtcjcmdikopipjaaNam
import Derived.Test.YtcjcmdikopipjaaC3
import Derived.Test.YtcjcmdikopipjaaFit
namespace Go.Proofs.Ytcjcmdikopipjaa
open Go.ChangeShapes Go.WideShapes Go.ChangeAt Go.RowKit Go.Deep
set_option linter.unusedVariables false
set_option linter.unusedSimpArgs false

/-- The carton does not stand on the pallet. -/
def palBad (p : Pl) (t : Ty) : Bool := decide (p.w < t.w) || decide (p.d < t.d) || decide (p.h < t.h) || decide (p.gram < wrap64 (t.tare + t.gram))
def masterTy (r : Rq) : Ty := tyD (findTy r.types r.master)
def itemsUnfit (r : Rq) : Bool := r.items.any (fun x => !fitsB x (masterTy r))
def typesPal (r : Rq) : Bool := r.types.any (palBad r.pal)
/-- What is wrong with an order. -/
def classN (r : Rq) : Int := if boundsB r = false then 2 else if namesB r = false then 3 else if tableB r.pairs r.cls = false then 4 else if itemsUnfit r = true then 5 else if typesPal r = true then 6 else 0
def soundB (r : Rq) : Bool := boundsB r && namesB r && tableB r.pairs r.cls && !itemsUnfit r && !typesPal r
theorem classN_sound (r : Rq) : (classN r == 0) = soundB r := by
  unfold classN soundB
  cases boundsB r <;> cases namesB r <;> cases tableB r.pairs r.cls <;> cases itemsUnfit r <;> cases typesPal r <;> rfl
theorem predClsIt (T : Ty) (B : Nat) (w : World) (hM : Blk w B 73 #[.int .i64 T.id, .int .i64 T.w, .int .i64 T.h, .int .i64 T.d, .int .i64 T.tare, .int .i64 T.gram, .int .i64 T.cost]) :
    PredB Try.prog 91 #[.pointer (some ⟨B, 0, none⟩)] valItem (fun x => !fitsB x T) w := fun W x hb => by
  have PM := hide (hM.belowH hb)
  have kM := PM.out.cell
  have hBW : B < W.heap.size := PM.out.lt
  have hne : B ≠ W.heap.size := by omega
  show Calls Try.prog 91 #[.agg #[.int .i64 x.id, .int .i64 x.w, .int .i64 x.h, .int .i64 x.d, .int .i64 x.gram, .int .i64 x.cls, .int .i64 x.cnt], .pointer (some ⟨B, 0, none⟩)] W _
  go_enter Try.func91, Try.ntmps91
  go_wp2_with (go_at_call 92; refine (fits_any x T _).mono ?_; rintro e w1 ⟨rfl, hb1⟩)
  go_ret
  exact ⟨rfl, (by repeat (first | with_reducible exact Below.refl _ _ | with_reducible assumption | with_reducible refine Below.setCell ?_ (by (try simp) <;> omega) _ | with_reducible refine Below.alloc ?_ (by (try simp) <;> omega) _ | with_reducible refine Below.drew ?_ | with_reducible refine below_drewN ?_ _ | with_reducible exact hb1 | with_reducible refine Below.trans ?_ (Below.mono hb1 (by (try simp) <;> omega))))⟩
theorem predClsTy (p : Pl) (B : Nat) (w : World) (hP : Blk w B 45 #[.int .i64 p.w, .int .i64 p.d, .int .i64 p.h, .int .i64 p.gram]) :
    PredB Try.prog 94 #[.pointer (some ⟨B, 0, none⟩)] valType (palBad p) w := fun W t hb => by
  have PM := hide (hP.belowH hb)
  have kM := PM.out.cell
  have hBW : B < W.heap.size := PM.out.lt
  have hne : B ≠ W.heap.size := by omega
  show Calls Try.prog 94 #[.agg #[.int .i64 t.id, .int .i64 t.w, .int .i64 t.h, .int .i64 t.d, .int .i64 t.tare, .int .i64 t.gram, .int .i64 t.cost], .pointer (some ⟨B, 0, none⟩)] W _
  by_cases h1 : p.w < t.w
  · go_enter Try.func94, Try.ntmps94
    go_wp2
    go_ret
    exact ⟨ret_bool (by simp [palBad, h1]), (Below.refl _ _).alloc (Nat.le_refl _) _⟩
  by_cases h2 : p.d < t.d
  · have g1 : t.w ≤ p.w := by omega
    go_enter Try.func94, Try.ntmps94
    go_wp2
    go_ret
    exact ⟨ret_bool (by simp [palBad, h2]), (Below.refl _ _).alloc (Nat.le_refl _) _⟩
  by_cases h3 : p.h < t.h
  · have g1 : t.w ≤ p.w := by omega
    have g2 : t.d ≤ p.d := by omega
    go_enter Try.func94, Try.ntmps94
    go_wp2
    go_ret
    exact ⟨ret_bool (by simp [palBad, h3]), (Below.refl _ _).alloc (Nat.le_refl _) _⟩
  · have g1 : t.w ≤ p.w := by omega
    have g2 : t.d ≤ p.d := by omega
    have g3 : t.h ≤ p.h := by omega
    have HP := hide (show palBad p t = decide (p.gram < wrap64 (t.tare + t.gram)) by simp [palBad, h1, h2, h3])
    clear h1 h2 h3
    go_enter Try.func94, Try.ntmps94
    go_wp2
    go_ret
    exact ⟨ret_bool rfl, (Below.refl _ _).alloc (Nat.le_refl _) _⟩
set_option maxRecDepth 20000 in
set_option maxHeartbeats 4000000 in
theorem class_any (r : Rq) (A1 A2 A3 : Option Addr) (n1 n2 n3 c1 c2 c3 : Nat) (lo hi : Nat) (w : World) (hr : RqAt w lo hi r A1 n1 c1 A2 n2 c2 A3 n3 c3) (hB : hi ≤ w.heap.size) :
    Calls Try.prog 69 #[.agg #[.int .i64 r.way, .int .i64 r.pal.w, .int .i64 r.pal.d, .int .i64 r.pal.h, .int .i64 r.pal.gram, .int .i64 r.cls, .slice A1 n1 c1, .slice A2 n2 c2, .int .i64 r.master, .slice A3 n3 c3]] w fun e w' => e = .returned (.int .i64 (classN r)) ∧ Below w.heap.size w w' := by
  have e1 : ∀ args w, (callFunc 91 args).run Try.prog w = .ok (.enter 91 args) w := enters_of Try.func91 (by kernel_rfl) rfl
  have e2 : ∀ args w, (callFunc 94 args).run Try.prog w = .ok (.enter 94 args) w := enters_of Try.func94 (by kernel_rfl) rfl
  have HC1 := hide (fun lb (p : It → Bool) W h hp h' => containsFuncItem p 91 lb e1 lo hi A3 n3 c3 r.items W hp h h')
  have HC2 := hide (fun lb (p : Ty → Bool) W h hp h' => containsFuncType p 94 lb e2 lo hi A2 n2 c2 r.types W hp h h')
  clear e1 e2
  have HR := hide hr
  clear hr
  go_enter Try.func69, Try.ntmps69
  go_wp2_with fail
  refine (master_any r A1 A2 A3 n1 n2 n3 c1 c2 c3 lo hi _ (HR.out.below (B := w.heap.size) (by repeat (first | with_reducible exact Below.refl _ _ | with_reducible assumption | with_reducible refine Below.setCell ?_ (by (try simp) <;> omega) _ | with_reducible refine Below.alloc ?_ (by (try simp) <;> omega) _ | with_reducible refine Below.drew ?_ | with_reducible refine below_drewN ?_ _)) hB) (by (try simp) <;> omega)).mono ?_
  obtain ⟨bo, hbo⟩ : ∃ bo, (findTy r.types r.master).isSome = bo := ⟨_, rfl⟩
  obtain ⟨T, hT⟩ : ∃ T, masterTy r = T := ⟨_, rfl⟩
  have HT := hide hT
  have HBO := hide hbo
  change tyD (findTy r.types r.master) = T at hT
  rw [hT, hbo]
  clear hT hbo
  rintro e w1 ⟨rfl, hb1⟩
  have D1 := hide (show Below w.heap.size w w1 from (by repeat (first | with_reducible exact Below.refl _ _ | with_reducible assumption | with_reducible refine Below.setCell ?_ (by (try simp) <;> omega) _ | with_reducible refine Below.alloc ?_ (by (try simp) <;> omega) _ | with_reducible refine Below.drew ?_ | with_reducible refine below_drewN ?_ _ | with_reducible exact hb1 | with_reducible refine Below.trans ?_ (Below.mono hb1 (by (try simp) <;> omega)))))
  have PR_1 := hide (Blk.belowH (Blk.new w 50 (#[.int .i64 r.way, .int .i64 r.pal.w, .int .i64 r.pal.d, .int .i64 r.pal.h, .int .i64 r.pal.gram, .int .i64 r.cls, .slice A1 n1 c1, .slice A2 n2 c2, .int .i64 r.master, .slice A3 n3 c3]) (g := w.heap.size) (by simp)) hb1)
  have Z1 : w.heap.size + 1 ≤ w1.heap.size := (by simpa using hb1.size)
  have L1 := D1
  clear hb1 D1
  have kR_1 := PR_1.out.cell
  have yR_1 := PR_1.out.lt
  go_wp2_with fail
  refine (boundsOk_any r A1 A2 A3 n1 n2 n3 c1 c2 c3 lo hi _ (HR.out.below (B := w.heap.size) (by repeat (first | with_reducible exact Below.refl _ _ | with_reducible assumption | with_reducible refine Below.setCell ?_ (by (try simp) <;> omega) _ | with_reducible refine Below.alloc ?_ (by (try simp) <;> omega) _ | with_reducible refine Below.drew ?_ | with_reducible refine below_drewN ?_ _ | with_reducible exact L1.out | with_reducible refine Below.trans ?_ (Below.mono L1.out (by (try simp) <;> omega)))) hB) (by (try simp) <;> omega)).mono ?_
  rcases (Bool.eq_false_or_eq_true (boundsB r)).symm with hq2 | hq2
  · rw [hq2]
    rintro e w2 ⟨rfl, hb2⟩
    have HF := hide (show classN r = 2 by simp [classN, hq2])
    go_wp2
    go_ret
    exact ⟨ret_int HF.out.symm, (by repeat (first | with_reducible exact Below.refl _ _ | with_reducible assumption | with_reducible refine Below.setCell ?_ (by (try simp) <;> omega) _ | with_reducible refine Below.alloc ?_ (by (try simp) <;> omega) _ | with_reducible refine Below.drew ?_ | with_reducible refine below_drewN ?_ _ | with_reducible exact L1.out | with_reducible exact hb2 | with_reducible refine Below.trans ?_ (Below.mono L1.out (by (try simp) <;> omega)) | with_reducible refine Below.trans ?_ (Below.mono hb2 (by (try simp) <;> omega))))⟩
  rw [hq2]
  have Q2 := hide hq2
  clear hq2
  rintro e w2 ⟨rfl, hb2⟩
  have D2 := hide (show Below w1.heap.size w1 w2 from (by repeat (first | with_reducible exact Below.refl _ _ | with_reducible assumption | with_reducible refine Below.setCell ?_ (by (try simp) <;> omega) _ | with_reducible refine Below.alloc ?_ (by (try simp) <;> omega) _ | with_reducible refine Below.drew ?_ | with_reducible refine below_drewN ?_ _ | with_reducible exact hb2 | with_reducible refine Below.trans ?_ (Below.mono hb2 (by (try simp) <;> omega)))))
  have PR_2 := hide (Blk.belowH ((PR_1.out.alloc _).alloc _) hb2)
  have PM_2 := hide (Blk.belowH ((Blk.new w1 73 (#[.int .i64 T.id, .int .i64 T.w, .int .i64 T.h, .int .i64 T.d, .int .i64 T.tare, .int .i64 T.gram, .int .i64 T.cost]) (g := w1.heap.size) (by simp)).alloc _) hb2)
  have PP_2 := hide (Blk.belowH (Blk.new (w1.alloc _) 45 (#[.int .i64 r.pal.w, .int .i64 r.pal.d, .int .i64 r.pal.h, .int .i64 r.pal.gram]) (g := w1.heap.size + 1) (by simp)) hb2)
  have Z2 : w1.heap.size + 1 + 1 ≤ w2.heap.size := (by simpa using hb2.size)
  have L2 := hide (L1.out.trans (D2.out.mono (by omega)))
  clear hb2 PR_1 kR_1 yR_1 L1 D2
  have kR_2 := PR_2.out.cell
  have yR_2 := PR_2.out.lt
  have kM_2 := PM_2.out.cell
  have yM_2 := PM_2.out.lt
  have kP_2 := PP_2.out.cell
  have yP_2 := PP_2.out.lt
  go_wp2_with fail
  refine (namesOk_any r A1 A2 A3 n1 n2 n3 c1 c2 c3 lo hi _ (HR.out.below L2.out hB) (by (try simp) <;> omega)).mono ?_
  rcases (Bool.eq_false_or_eq_true (namesB r)).symm with hq3 | hq3
  · rw [hq3]
    rintro e w3 ⟨rfl, hb3⟩
    have HF := hide (show classN r = 3 by simp [classN, Q2.out, hq3])
    go_wp2
    go_ret
    exact ⟨ret_int HF.out.symm, (by repeat (first | with_reducible exact Below.refl _ _ | with_reducible assumption | with_reducible refine Below.setCell ?_ (by (try simp) <;> omega) _ | with_reducible refine Below.alloc ?_ (by (try simp) <;> omega) _ | with_reducible refine Below.drew ?_ | with_reducible refine below_drewN ?_ _ | with_reducible exact L2.out | with_reducible exact hb3 | with_reducible refine Below.trans ?_ (Below.mono L2.out (by (try simp) <;> omega)) | with_reducible refine Below.trans ?_ (Below.mono hb3 (by (try simp) <;> omega))))⟩
  rw [hq3]
  have Q3 := hide hq3
  clear hq3
  rintro e w3 ⟨rfl, hb3⟩
  have D3 := hide (show Below w2.heap.size w2 w3 from hb3)
  have PR_3 := hide (Blk.belowH PR_2.out hb3)
  have PM_3 := hide (Blk.belowH PM_2.out hb3)
  have PP_3 := hide (Blk.belowH PP_2.out hb3)
  have Z3 : w2.heap.size ≤ w3.heap.size := (by simpa using hb3.size)
  have L3 := hide (L2.out.trans (D3.out.mono (by omega)))
  clear hb3 PR_2 kR_2 yR_2 PM_2 kM_2 yM_2 PP_2 kP_2 yP_2 L2 D3
  have kR_3 := PR_3.out.cell
  have yR_3 := PR_3.out.lt
  have kM_3 := PM_3.out.cell
  have yM_3 := PM_3.out.lt
  have kP_3 := PP_3.out.cell
  have yP_3 := PP_3.out.lt
  go_wp2_with fail
  refine (tableOk_any r.cls lo hi _ _ _ _ _ (HR.out.pr.below L3.out hB) (by (try simp) <;> omega)).mono ?_
  rcases (Bool.eq_false_or_eq_true (tableB r.pairs r.cls)).symm with hq4 | hq4
  · rw [hq4]
    rintro e w4 ⟨rfl, hb4⟩
    have HF := hide (show classN r = 4 by simp [classN, Q2.out, Q3.out, hq4])
    go_wp2
    go_ret
    exact ⟨ret_int HF.out.symm, (by repeat (first | with_reducible exact Below.refl _ _ | with_reducible assumption | with_reducible refine Below.setCell ?_ (by (try simp) <;> omega) _ | with_reducible refine Below.alloc ?_ (by (try simp) <;> omega) _ | with_reducible refine Below.drew ?_ | with_reducible refine below_drewN ?_ _ | with_reducible exact L3.out | with_reducible exact hb4 | with_reducible refine Below.trans ?_ (Below.mono L3.out (by (try simp) <;> omega)) | with_reducible refine Below.trans ?_ (Below.mono hb4 (by (try simp) <;> omega))))⟩
  rw [hq4]
  have Q4 := hide hq4
  clear hq4
  rintro e w4 ⟨rfl, hb4⟩
  have D4 := hide (show Below w3.heap.size w3 w4 from hb4)
  have PR_4 := hide (Blk.belowH PR_3.out hb4)
  have PM_4 := hide (Blk.belowH PM_3.out hb4)
  have PP_4 := hide (Blk.belowH PP_3.out hb4)
  have Z4 : w3.heap.size ≤ w4.heap.size := (by simpa using hb4.size)
  have L4 := hide (L3.out.trans (D4.out.mono (by omega)))
  clear hb4 PR_3 kR_3 yR_3 PM_3 kM_3 yM_3 PP_3 kP_3 yP_3 L3 D4
  have kR_4 := PR_4.out.cell
  have yR_4 := PR_4.out.lt
  have kM_4 := PM_4.out.cell
  have yM_4 := PM_4.out.lt
  have kP_4 := PP_4.out.cell
  have yP_4 := PP_4.out.lt
  go_wp2_with fail
  refine (HC1.out _ (fun x => !fitsB x T) _ (HR.out.it.below L4.out hB) (predClsIt T _ _ PM_4.out) (by (try simp) <;> omega)).mono ?_
  have HU := hide (show (r.items.any fun x => !fitsB x T) = itemsUnfit r by unfold itemsUnfit; rw [HT.out])
  rw [HU.out]
  rcases Bool.eq_false_or_eq_true (itemsUnfit r) with hq5 | hq5
  · rw [hq5]
    rintro e w5 ⟨rfl, hb5⟩
    have HF := hide (show classN r = 5 by simp [classN, Q2.out, Q3.out, Q4.out, hq5])
    go_wp2
    go_ret
    exact ⟨ret_int HF.out.symm, (by repeat (first | with_reducible exact Below.refl _ _ | with_reducible assumption | with_reducible refine Below.setCell ?_ (by (try simp) <;> omega) _ | with_reducible refine Below.alloc ?_ (by (try simp) <;> omega) _ | with_reducible refine Below.drew ?_ | with_reducible refine below_drewN ?_ _ | with_reducible exact L4.out | with_reducible exact hb5 | with_reducible refine Below.trans ?_ (Below.mono L4.out (by (try simp) <;> omega)) | with_reducible refine Below.trans ?_ (Below.mono hb5 (by (try simp) <;> omega))))⟩
  rw [hq5]
  have Q5 := hide hq5
  clear hq5
  rintro e w5 ⟨rfl, hb5⟩
  have D5 := hide (show Below w4.heap.size w4 w5 from hb5)
  have PR_5 := hide (Blk.belowH PR_4.out hb5)
  have PM_5 := hide (Blk.belowH PM_4.out hb5)
  have PP_5 := hide (Blk.belowH PP_4.out hb5)
  have Z5 : w4.heap.size ≤ w5.heap.size := (by simpa using hb5.size)
  have L5 := hide (L4.out.trans (D5.out.mono (by omega)))
  clear hb5 PR_4 kR_4 yR_4 PM_4 kM_4 yM_4 PP_4 kP_4 yP_4 L4 D5
  have kR_5 := PR_5.out.cell
  have yR_5 := PR_5.out.lt
  have kM_5 := PM_5.out.cell
  have yM_5 := PM_5.out.lt
  have kP_5 := PP_5.out.cell
  have yP_5 := PP_5.out.lt
  go_wp2_with fail
  refine (HC2.out _ (palBad r.pal) _ (HR.out.ty.below L5.out hB) (predClsTy r.pal _ _ PP_5.out) (by (try simp) <;> omega)).mono ?_
  have HU2 := hide (show r.types.any (palBad r.pal) = typesPal r from rfl)
  rw [HU2.out]
  rcases Bool.eq_false_or_eq_true (typesPal r) with hq6 | hq6
  · rw [hq6]
    rintro e w6 ⟨rfl, hb6⟩
    have HF := hide (show classN r = 6 by simp [classN, Q2.out, Q3.out, Q4.out, Q5.out, hq6])
    go_wp2
    go_ret
    exact ⟨ret_int HF.out.symm, (by repeat (first | with_reducible exact Below.refl _ _ | with_reducible assumption | with_reducible refine Below.setCell ?_ (by (try simp) <;> omega) _ | with_reducible refine Below.alloc ?_ (by (try simp) <;> omega) _ | with_reducible refine Below.drew ?_ | with_reducible refine below_drewN ?_ _ | with_reducible exact L5.out | with_reducible exact hb6 | with_reducible refine Below.trans ?_ (Below.mono L5.out (by (try simp) <;> omega)) | with_reducible refine Below.trans ?_ (Below.mono hb6 (by (try simp) <;> omega))))⟩
  rw [hq6]
  have Q6 := hide hq6
  clear hq6
  rintro e w6 ⟨rfl, hb6⟩
  have D6 := hide (show Below w5.heap.size w5 w6 from hb6)
  have PR_6 := hide (Blk.belowH PR_5.out hb6)
  have PM_6 := hide (Blk.belowH PM_5.out hb6)
  have PP_6 := hide (Blk.belowH PP_5.out hb6)
  have Z6 : w5.heap.size ≤ w6.heap.size := (by simpa using hb6.size)
  have L6 := hide (L5.out.trans (D6.out.mono (by omega)))
  clear hb6 PR_5 kR_5 yR_5 PM_5 kM_5 yM_5 PP_5 kP_5 yP_5 L5 D6
  have kR_6 := PR_6.out.cell
  have yR_6 := PR_6.out.lt
  have kM_6 := PM_6.out.cell
  have yM_6 := PM_6.out.lt
  have kP_6 := PP_6.out.cell
  have yP_6 := PP_6.out.lt
  have HF := hide (show classN r = 0 by simp [classN, Q2.out, Q3.out, Q4.out, Q5.out, Q6.out])
  go_wp2
  go_ret
  exact ⟨ret_int HF.out.symm, (by repeat (first | with_reducible exact Below.refl _ _ | with_reducible assumption | with_reducible refine Below.setCell ?_ (by (try simp) <;> omega) _ | with_reducible refine Below.alloc ?_ (by (try simp) <;> omega) _ | with_reducible refine Below.drew ?_ | with_reducible refine below_drewN ?_ _ | with_reducible exact L6.out | with_reducible refine Below.trans ?_ (Below.mono L6.out (by (try simp) <;> omega))))⟩
set_option maxRecDepth 20000 in
set_option maxHeartbeats 4000000 in
theorem sclass_any (r : Rq) (A1 A2 A3 : Option Addr) (n1 n2 n3 c1 c2 c3 : Nat) (lo hi : Nat) (w : World) (hr : RqAt w lo hi r A1 n1 c1 A2 n2 c2 A3 n3 c3) (hB : hi ≤ w.heap.size) :
    Calls Try.prog 41 #[.agg #[.int .i64 r.way, .int .i64 r.pal.w, .int .i64 r.pal.d, .int .i64 r.pal.h, .int .i64 r.pal.gram, .int .i64 r.cls, .slice A1 n1 c1, .slice A2 n2 c2, .int .i64 r.master, .slice A3 n3 c3]] w fun e w' => e = .returned (.int .i64 (classN r)) ∧ Below w.heap.size w w' := by
  have hm2 := hr.ty.max
  have hm3 := hr.it.max
  have hc2 := hr.ty.cap
  have hc3 := hr.it.cap
  have HL2 := hide hr.ty.len
  have HL3 := hide hr.it.len
  have HR := hide hr
  clear hr
  go_enter Try.func41, Try.ntmps41
  go_wp2_with fail
  refine (sboundsOk_any r A1 A2 A3 n1 n2 n3 c1 c2 c3 lo hi _ (HR.out.below (B := w.heap.size) (by repeat (first | with_reducible exact Below.refl _ _ | with_reducible assumption | with_reducible refine Below.setCell ?_ (by (try simp) <;> omega) _ | with_reducible refine Below.alloc ?_ (by (try simp) <;> omega) _ | with_reducible refine Below.drew ?_ | with_reducible refine below_drewN ?_ _)) hB) (by (try simp) <;> omega)).mono ?_
  rcases (Bool.eq_false_or_eq_true (boundsB r)).symm with hq2 | hq2
  · rw [hq2]
    rintro e w1 ⟨rfl, hb1⟩
    have HF := hide (show classN r = 2 by simp [classN, hq2])
    go_wp2
    go_ret
    exact ⟨ret_int HF.out.symm, (by repeat (first | with_reducible exact Below.refl _ _ | with_reducible assumption | with_reducible refine Below.setCell ?_ (by (try simp) <;> omega) _ | with_reducible refine Below.alloc ?_ (by (try simp) <;> omega) _ | with_reducible refine Below.drew ?_ | with_reducible refine below_drewN ?_ _ | with_reducible exact hb1 | with_reducible refine Below.trans ?_ (Below.mono hb1 (by (try simp) <;> omega))))⟩
  rw [hq2]
  have Q2 := hide hq2
  clear hq2
  rintro e w1 ⟨rfl, hb1⟩
  have D1 := hide (show Below w.heap.size w w1 from (by repeat (first | with_reducible exact Below.refl _ _ | with_reducible assumption | with_reducible refine Below.setCell ?_ (by (try simp) <;> omega) _ | with_reducible refine Below.alloc ?_ (by (try simp) <;> omega) _ | with_reducible refine Below.drew ?_ | with_reducible refine below_drewN ?_ _ | with_reducible exact hb1 | with_reducible refine Below.trans ?_ (Below.mono hb1 (by (try simp) <;> omega)))))
  have PR_1 := hide (Blk.belowH (Blk.new w 50 (#[.int .i64 r.way, .int .i64 r.pal.w, .int .i64 r.pal.d, .int .i64 r.pal.h, .int .i64 r.pal.gram, .int .i64 r.cls, .slice A1 n1 c1, .slice A2 n2 c2, .int .i64 r.master, .slice A3 n3 c3]) (g := w.heap.size) (by simp)) hb1)
  have Z1 : w.heap.size + 1 ≤ w1.heap.size := (by simpa using hb1.size)
  have L1 := D1
  clear hb1 D1
  have kR_1 := PR_1.out.cell
  have yR_1 := PR_1.out.lt
  go_wp2_with fail
  refine (snames_any r A1 A2 A3 n1 n2 n3 c1 c2 c3 lo hi _ (HR.out.below L1.out hB) (by (try simp) <;> omega)).mono ?_
  rcases (Bool.eq_false_or_eq_true (namesB r)).symm with hq3 | hq3
  · rw [hq3]
    rintro e w2 ⟨rfl, hb2⟩
    have HF := hide (show classN r = 3 by simp [classN, Q2.out, hq3])
    go_wp2
    go_ret
    exact ⟨ret_int HF.out.symm, (by repeat (first | with_reducible exact Below.refl _ _ | with_reducible assumption | with_reducible refine Below.setCell ?_ (by (try simp) <;> omega) _ | with_reducible refine Below.alloc ?_ (by (try simp) <;> omega) _ | with_reducible refine Below.drew ?_ | with_reducible refine below_drewN ?_ _ | with_reducible exact L1.out | with_reducible exact hb2 | with_reducible refine Below.trans ?_ (Below.mono L1.out (by (try simp) <;> omega)) | with_reducible refine Below.trans ?_ (Below.mono hb2 (by (try simp) <;> omega))))⟩
  rw [hq3]
  have Q3 := hide hq3
  clear hq3
  rintro e w2 ⟨rfl, hb2⟩
  have D2 := hide (show Below w1.heap.size w1 w2 from hb2)
  have PR_2 := hide (Blk.belowH PR_1.out hb2)
  have Z2 : w1.heap.size ≤ w2.heap.size := (by simpa using hb2.size)
  have L2 := hide (L1.out.trans (D2.out.mono (by omega)))
  clear hb2 PR_1 kR_1 yR_1 L1 D2
  have kR_2 := PR_2.out.cell
  have yR_2 := PR_2.out.lt
  go_wp2_with fail
  refine (stableOk_any r.cls lo hi _ _ _ _ _ (HR.out.pr.below L2.out hB)).mono ?_
  rcases (Bool.eq_false_or_eq_true (tableB r.pairs r.cls)).symm with hq4 | hq4
  · rw [hq4]
    rintro e w3 ⟨rfl, rfl⟩
    have HF := hide (show classN r = 4 by simp [classN, Q2.out, Q3.out, hq4])
    go_wp2
    go_ret
    exact ⟨ret_int HF.out.symm, (by repeat (first | with_reducible exact Below.refl _ _ | with_reducible assumption | with_reducible refine Below.setCell ?_ (by (try simp) <;> omega) _ | with_reducible refine Below.alloc ?_ (by (try simp) <;> omega) _ | with_reducible refine Below.drew ?_ | with_reducible refine below_drewN ?_ _ | with_reducible exact L2.out | with_reducible refine Below.trans ?_ (Below.mono L2.out (by (try simp) <;> omega))))⟩
  rw [hq4]
  have Q4 := hide hq4
  clear hq4
  rintro e w' ⟨rfl, rfl⟩
  go_wp2_with fail
  refine (smaster_any r A1 A2 A3 n1 n2 n3 c1 c2 c3 lo hi _ (HR.out.below L2.out hB) (by (try simp) <;> omega)).mono ?_
  obtain ⟨bo, hbo⟩ : ∃ bo, (findTy r.types r.master).isSome = bo := ⟨_, rfl⟩
  obtain ⟨T, hT⟩ : ∃ T, masterTy r = T := ⟨_, rfl⟩
  have HT := hide hT
  have HBO := hide hbo
  change tyD (findTy r.types r.master) = T at hT
  rw [hT, hbo]
  clear hT hbo
  rintro e w3 ⟨rfl, hb3⟩
  have D3 := hide (show Below w2.heap.size w2 w3 from hb3)
  have PR_3 := hide (Blk.belowH PR_2.out hb3)
  have Z3 : w2.heap.size ≤ w3.heap.size := (by simpa using hb3.size)
  have L3 := hide (L2.out.trans (D3.out.mono (by omega)))
  clear hb3 PR_2 kR_2 yR_2 L2 D3
  have kR_3 := PR_3.out.cell
  have yR_3 := PR_3.out.lt
  go_wp2
  obtain ⟨RL, hRL⟩ : ∃ RL : Array Value, RL = #[.int .i64 r.way, .int .i64 r.pal.w, .int .i64 r.pal.d, .int .i64 r.pal.h, .int .i64 r.pal.gram, .int .i64 r.cls, .slice A1 n1 c1, .slice A2 n2 c2, .int .i64 r.master, .slice A3 n3 c3] := ⟨_, rfl⟩
  have HRL := hide hRL
  clear hRL
  go_loopw [5] (fun i wr => ∃ k : Nat, k ≤ n3 ∧ i = .int .i64 k ∧ Blk wr w.heap.size 50 RL ∧ Blk wr w3.heap.size 73 #[.int .i64 T.id, .int .i64 T.w, .int .i64 T.h, .int .i64 T.d, .int .i64 T.tare, .int .i64 T.gram, .int .i64 T.cost] ∧ Below w.heap.size w wr ∧ ∀ y ∈ r.items.take k, fitsB y T = true) (fun i _ => n3 - (intOf i).toNat)
  case atStart => exact ⟨0, Nat.zero_le _, rfl, (PR_3.out.alloc _).as HRL.out.symm, Blk.new w3 _ _ rfl, (by repeat (first | with_reducible exact Below.refl _ _ | with_reducible assumption | with_reducible refine Below.setCell ?_ (by (try simp) <;> omega) _ | with_reducible refine Below.alloc ?_ (by (try simp) <;> omega) _ | with_reducible refine Below.drew ?_ | with_reducible refine below_drewN ?_ _ | with_reducible exact L3.out | with_reducible refine Below.trans ?_ (Below.mono L3.out (by (try simp) <;> omega)))), by simp⟩
  case round =>
    obtain ⟨k, hk, rfl, B0, B1, hbel, hA⟩ := hrel
    have HA := hide hA
    clear kR_3 yR_3
    have kR := (B0.as HRL.out).cell
    have yR := B0.lt
    have PR := hide B0
    have kM := B1.cell
    have yM := B1.lt
    have PM := hide B1
    have HBel := hide hbel
    have hz := hbel.size
    clear hA B0 B1 hbel
    by_cases hlt : k < n3
    · obtain ⟨b0, off, x, hx, q, _, hb, d0, d1, d2, d3, d4, d5, d6, _⟩ := (HR.out.it.below HBel.out hB).it hlt
      subst q
      have HX := hide hx
      have i0 : (0 : Int) ≤ (k : Int) := by omega
      have i1 : (k : Int) < (n3 : Int) := by omega
      have z0 : b0 < wr.heap.size := by omega
      clear hx
      go_wp2_with fail
      go_region_held3 (fun w' => w'.cell? ⟨w.heap.size, 9, none⟩ = some (.slice (some ⟨b0, off, none⟩) n3 c3) ∧ w'.cell? ⟨b0, off + k * 7, none⟩ = some (.int .i64 x.id) ∧ w'.cell? ⟨b0, off + k * 7 + 1, none⟩ = some (.int .i64 x.w) ∧ w'.cell? ⟨b0, off + k * 7 + 2, none⟩ = some (.int .i64 x.h) ∧ w'.cell? ⟨b0, off + k * 7 + 3, none⟩ = some (.int .i64 x.d) ∧ w'.cell? ⟨b0, off + k * 7 + 4, none⟩ = some (.int .i64 x.gram) ∧ w'.cell? ⟨b0, off + k * 7 + 5, none⟩ = some (.int .i64 x.cls) ∧ w'.cell? ⟨b0, off + k * 7 + 6, none⟩ = some (.int .i64 x.cnt) ∧ w'.cell? ⟨w3.heap.size, 0, none⟩ = some (.int .i64 T.id) ∧ w'.cell? ⟨w3.heap.size, 1, none⟩ = some (.int .i64 T.w) ∧ w'.cell? ⟨w3.heap.size, 2, none⟩ = some (.int .i64 T.h) ∧ w'.cell? ⟨w3.heap.size, 3, none⟩ = some (.int .i64 T.d) ∧ w'.cell? ⟨w3.heap.size, 4, none⟩ = some (.int .i64 T.tare) ∧ w'.cell? ⟨w3.heap.size, 5, none⟩ = some (.int .i64 T.gram) ∧ w'.cell? ⟨w3.heap.size, 6, none⟩ = some (.int .i64 T.cost)) (go_keep) ((go_at_call 64; (with_reducible refine (sfits_any x T _).mono ?_); rintro e w9 ⟨rfl, hb9⟩; have PR9 := hide (Blk.belowH PR.out.drew hb9); have PM9 := hide (Blk.belowH PM.out.drew hb9); have L9 := hide (HBel.out.drew.trans (hb9.mono (by simpa using hz))); have hcc : ∀ b o, b < wr.heap.size → w9.cell? ⟨b, o, none⟩ = wr.cell? ⟨b, o, none⟩ := (fun b o h => hb9.cell (p := ⟨b, o, none⟩) h); have hz9 : wr.heap.size ≤ w9.heap.size := (by simpa using hb9.size)))
      rcases Bool.eq_false_or_eq_true (fitsB x T) with hq | hq
      · rw [hq]
        go_wp2
        go_roundw
        case rel =>
          refine ⟨k + 1, by omega, by go_num, PR9.out, PM9.out, L9.out, fun y hy => ?_⟩
          rcases mem_take_succ HX.out hy with h | h
          · exact HA.out y h
          · rw [h]; exact hq
        case measure => simp [intOf]; omega
      · rw [hq]
        have HF := hide (show classN r = 5 by
          have : itemsUnfit r = true := by
            unfold itemsUnfit
            rw [List.any_eq_true]
            exact ⟨x, List.mem_of_getElem? HX.out, by rw [HT.out, hq]; rfl⟩
          simp [classN, Q2.out, Q3.out, Q4.out, this])
        go_wp2
        go_ret
        exact ⟨ret_int HF.out.symm, L9.out⟩
    · have hge : n3 ≤ k := by omega
      have hjd : decide (k < n3) = false := by simp; omega
      have HU := hide (show itemsUnfit r = false by
        have := HA.out
        rw [List.take_of_length_le (by rw [HL3.out]; exact hge)] at this
        unfold itemsUnfit
        rw [List.any_eq_false]
        intro y hy
        rw [HT.out, this y hy]
        simp)
      clear hlt HA
      go_wp2
      obtain ⟨wo, hwo⟩ : ∃ wo : World, wo = wr := ⟨_, rfl⟩
      subst hwo
      go_loopw [6] (fun i wr => ∃ k : Nat, k ≤ n2 ∧ i = .int .i64 k ∧ Blk wr w.heap.size 50 RL ∧ Below w.heap.size w wr ∧ ∀ y ∈ r.types.take k, palBad r.pal y = false) (fun i _ => n2 - (intOf i).toNat)
      case atStart => exact ⟨0, Nat.zero_le _, rfl, PR.out, HBel.out, by simp⟩
      case round =>
        obtain ⟨m, hm, rfl, B0, hbel, hA⟩ := hrel
        have HA := hide hA
        clear kR yR kM yM
        have kR := (B0.as HRL.out).cell
        have yR := B0.lt
        have PR2 := hide B0
        have HBel2 := hide hbel
        have hz2 := hbel.size
        clear hA B0 hbel
        by_cases hlt : m < n2
        · obtain ⟨b0, off, t, hx, q, _, hb, d0, d1, d2, d3, d4, d5, d6, _⟩ := (HR.out.ty.below HBel2.out hB).ty hlt
          subst q
          have HX := hide hx
          have i0 : (0 : Int) ≤ (m : Int) := by omega
          have i1 : (m : Int) < (n2 : Int) := by omega
          have z0 : b0 < wr.heap.size := by omega
          have HPal := hide (show palBad r.pal t = (decide (r.pal.w < t.w) || decide (r.pal.d < t.d) || decide (r.pal.h < t.h) || decide (r.pal.gram < wrap64 (t.tare + t.gram))) from rfl)
          clear hx
          by_cases h1 : r.pal.w < t.w
          · have HF := hide (show classN r = 6 by
              have : typesPal r = true := by unfold typesPal; rw [List.any_eq_true]; exact ⟨t, List.mem_of_getElem? HX.out, by rw [HPal.out]; simp [h1]⟩
              simp [classN, Q2.out, Q3.out, Q4.out, HU.out, this])
            go_wp2
            go_ret
            exact ⟨ret_int HF.out.symm, (by repeat (first | with_reducible exact Below.refl _ _ | with_reducible assumption | with_reducible refine Below.setCell ?_ (by (try simp) <;> omega) _ | with_reducible refine Below.alloc ?_ (by (try simp) <;> omega) _ | with_reducible refine Below.drew ?_ | with_reducible refine below_drewN ?_ _ | with_reducible exact HBel2.out | with_reducible refine Below.trans ?_ (Below.mono HBel2.out (by (try simp) <;> omega))))⟩
          by_cases h2 : r.pal.d < t.d
          · have HF := hide (show classN r = 6 by
              have : typesPal r = true := by unfold typesPal; rw [List.any_eq_true]; exact ⟨t, List.mem_of_getElem? HX.out, by rw [HPal.out]; simp [h2]⟩
              simp [classN, Q2.out, Q3.out, Q4.out, HU.out, this])
            have g1 : t.w ≤ r.pal.w := by omega
            go_wp2
            go_ret
            exact ⟨ret_int HF.out.symm, (by repeat (first | with_reducible exact Below.refl _ _ | with_reducible assumption | with_reducible refine Below.setCell ?_ (by (try simp) <;> omega) _ | with_reducible refine Below.alloc ?_ (by (try simp) <;> omega) _ | with_reducible refine Below.drew ?_ | with_reducible refine below_drewN ?_ _ | with_reducible exact HBel2.out | with_reducible refine Below.trans ?_ (Below.mono HBel2.out (by (try simp) <;> omega))))⟩
          by_cases h3 : r.pal.h < t.h
          · have HF := hide (show classN r = 6 by
              have : typesPal r = true := by unfold typesPal; rw [List.any_eq_true]; exact ⟨t, List.mem_of_getElem? HX.out, by rw [HPal.out]; simp [h3]⟩
              simp [classN, Q2.out, Q3.out, Q4.out, HU.out, this])
            have g1 : t.w ≤ r.pal.w := by omega
            have g2 : t.d ≤ r.pal.d := by omega
            go_wp2
            go_ret
            exact ⟨ret_int HF.out.symm, (by repeat (first | with_reducible exact Below.refl _ _ | with_reducible assumption | with_reducible refine Below.setCell ?_ (by (try simp) <;> omega) _ | with_reducible refine Below.alloc ?_ (by (try simp) <;> omega) _ | with_reducible refine Below.drew ?_ | with_reducible refine below_drewN ?_ _ | with_reducible exact HBel2.out | with_reducible refine Below.trans ?_ (Below.mono HBel2.out (by (try simp) <;> omega))))⟩
          have g1 : t.w ≤ r.pal.w := by omega
          have g2 : t.d ≤ r.pal.d := by omega
          have g3 : t.h ≤ r.pal.h := by omega
          by_cases h4 : r.pal.gram < wrap64 (t.tare + t.gram)
          · have HF := hide (show classN r = 6 by
              have : typesPal r = true := by unfold typesPal; rw [List.any_eq_true]; exact ⟨t, List.mem_of_getElem? HX.out, by rw [HPal.out]; simp [h4]⟩
              simp [classN, Q2.out, Q3.out, Q4.out, HU.out, this])
            go_wp2
            go_ret
            exact ⟨ret_int HF.out.symm, (by repeat (first | with_reducible exact Below.refl _ _ | with_reducible assumption | with_reducible refine Below.setCell ?_ (by (try simp) <;> omega) _ | with_reducible refine Below.alloc ?_ (by (try simp) <;> omega) _ | with_reducible refine Below.drew ?_ | with_reducible refine below_drewN ?_ _ | with_reducible exact HBel2.out | with_reducible refine Below.trans ?_ (Below.mono HBel2.out (by (try simp) <;> omega))))⟩
          · have HG := hide (show palBad r.pal t = false by rw [HPal.out]; simp [h1, h2, h3, h4])
            have g4 : wrap64 (t.tare + t.gram) ≤ r.pal.gram := by omega
            have HH4 := hide h4
            clear h1 h2 h3 h4
            go_wp2
            go_roundw
            case rel =>
              refine ⟨m + 1, by omega, by go_num, PR2.out.alloc _, (by repeat (first | with_reducible exact Below.refl _ _ | with_reducible assumption | with_reducible refine Below.setCell ?_ (by (try simp) <;> omega) _ | with_reducible refine Below.alloc ?_ (by (try simp) <;> omega) _ | with_reducible refine Below.drew ?_ | with_reducible refine below_drewN ?_ _ | with_reducible exact HBel2.out | with_reducible refine Below.trans ?_ (Below.mono HBel2.out (by (try simp) <;> omega)))), fun y hy => ?_⟩
              rcases mem_take_succ HX.out hy with h | h
              · exact HA.out y h
              · rw [h]; exact HG.out
            case measure => simp [intOf]; omega
        · have hge2 : n2 ≤ m := by omega
          have hjd2 : decide (m < n2) = false := by simp; omega
          have HF := hide (show classN r = 0 by
            have h0 := HA.out
            rw [List.take_of_length_le (by rw [HL2.out]; exact hge2)] at h0
            have : typesPal r = false := by unfold typesPal; rw [List.any_eq_false]; exact fun y hy => by simp [h0 y hy]
            simp [classN, Q2.out, Q3.out, Q4.out, HU.out, this])
          clear hlt
          go_wp2
          go_ret
          exact ⟨ret_int HF.out.symm, HBel2.out⟩
end Go.Proofs.Ytcjcmdikopipjaa
