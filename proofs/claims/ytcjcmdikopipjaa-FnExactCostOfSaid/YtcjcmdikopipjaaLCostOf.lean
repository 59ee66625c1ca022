/- The law FnExactCostOf holds for every input: the call answers true, and each argument reads afterwards as it read before. -/
import Derived.Test.YtcjcmdikopipjaaCts
import Derived.Test.YtcjcmdikopipjaaRw
import Derived.Test.YtcjcmdikopipjaaS2
namespace Go.Proofs.Ytcjcmdikopipjaa.fnExactCostOf
open Go.ChangeShapes Go.WideShapes Go.ChangeAt Go.RowKit Go.Deep
open Go.ChangeMaps (open_string)
set_option linter.unusedVariables false
set_option linter.unusedSimpArgs false


set_option maxRecDepth 20000 in
set_option maxHeartbeats 4000000 in
theorem walk (r : Rq) (A1 A2 A3 : Option Addr) (n1 n2 n3 c1 c2 c3 : Nat) (Ax : Option Addr) (nx cx : Nat) (x : List CRow) (w : World) (hr : RqAt w 0 w.heap.size r A1 n1 c1 A2 n2 c2 A3 n3 c3) (hx : CtsAt w 0 w.heap.size Ax nx cx x) :
    Calls Try.prog 5 #[.agg #[.int .i64 r.way, .int .i64 r.pal.w, .int .i64 r.pal.d, .int .i64 r.pal.h, .int .i64 r.pal.gram, .int .i64 r.cls, .slice A1 n1 c1, .slice A2 n2 c2, .int .i64 r.master, .slice A3 n3 c3], .slice Ax nx cx] w fun e w' => e = .returned (.bool true) ∧ Below w.heap.size w w' := by
  have hqr := hr.pr.len
  have hcap := hx.out.cap
  have hmax := hx.out.max
  by_cases hsz : n1 + n2 + n3 ≤ 1048576
  · have hneg : ¬ ((1048576 : Int) - n1 - n2 - n3 < 0) := by omega
    obtain ⟨lf, hlf⟩ : ∃ lf : Nat, 1048576 - n1 - n2 - n3 = lf := ⟨_, rfl⟩
    have HLF := hide (show (1048576 : Int) - n1 - n2 - n3 = (lf : Int) by omega)
    have hlf2 : n1 + n2 + n3 + lf = 1048576 := by omega
    clear hlf
    by_cases hsx : nx + totC x ≤ lf
    case neg =>
      go_enter Try.func5, Try.ntmps5
      go_wp2_with fail
      refine (szRequest_ok r A1 A2 A3 n1 n2 n3 c1 c2 c3 1048576 _ (by omega) (by omega) ⟨hr.pr.cap, hr.pr.max⟩ ⟨hr.ty.cap, hr.ty.max⟩ ⟨hr.it.cap, hr.it.max⟩).mono ?_
      rintro e w1 ⟨rfl, hb1⟩
      have L1 := hide (show Below w.heap.size w w1 from (by repeat (first | with_reducible exact Below.refl _ _ | with_reducible assumption | with_reducible refine Below.setCell ?_ (by (try simp) <;> omega) _ | with_reducible refine Below.alloc ?_ (by (try simp) <;> omega) _ | with_reducible refine Below.drew ?_ | with_reducible refine below_drewN ?_ _ | with_reducible exact hb1 | with_reducible refine Below.trans ?_ (Below.mono hb1 (by (try simp) <;> omega)))))
      have z1 := L1.out.size
      clear hb1
      go_wp2_with fail
      rw [HLF.out]
      refine (szCartonS_no 0 w.heap.size Ax nx cx x lf _ (hx.below L1.out (Nat.le_refl _)) (by omega) (by omega) (by omega)).mono ?_
      rintro e w2 ⟨rfl, hb2⟩
      go_wp2
      go_ret
      exact ⟨rfl, (by repeat (first | with_reducible exact Below.refl _ _ | with_reducible assumption | with_reducible refine Below.setCell ?_ (by (try simp) <;> omega) _ | with_reducible refine Below.alloc ?_ (by (try simp) <;> omega) _ | with_reducible refine Below.drew ?_ | with_reducible refine below_drewN ?_ _ | with_reducible exact L1.out | with_reducible exact hb2 | with_reducible refine Below.trans ?_ (Below.mono L1.out (by (try simp) <;> omega)) | with_reducible refine Below.trans ?_ (Below.mono hb2 (by (try simp) <;> omega))))⟩
    go_enter Try.func5, Try.ntmps5
    go_wp2_with fail
    refine (szRequest_ok r A1 A2 A3 n1 n2 n3 c1 c2 c3 1048576 _ (by omega) (by omega) ⟨hr.pr.cap, hr.pr.max⟩ ⟨hr.ty.cap, hr.ty.max⟩ ⟨hr.it.cap, hr.it.max⟩).mono ?_
    rintro e w1 ⟨rfl, hb1⟩
    have D1 := hide (show Below w.heap.size w w1 from (by repeat (first | with_reducible exact Below.refl _ _ | with_reducible assumption | with_reducible refine Below.setCell ?_ (by (try simp) <;> omega) _ | with_reducible refine Below.alloc ?_ (by (try simp) <;> omega) _ | with_reducible refine Below.drew ?_ | with_reducible refine below_drewN ?_ _ | with_reducible exact hb1 | with_reducible refine Below.trans ?_ (Below.mono hb1 (by (try simp) <;> omega)))))
    have PR_1 := hide (Blk.belowH ((Blk.new w 40 (#[.int .i64 r.way, .int .i64 r.pal.w, .int .i64 r.pal.d, .int .i64 r.pal.h, .int .i64 r.pal.gram, .int .i64 r.cls, .slice A1 n1 c1, .slice A2 n2 c2, .int .i64 r.master, .slice A3 n3 c3]) (g := w.heap.size) (by simp))) hb1)
    have Z1 : w.heap.size + 1 ≤ w1.heap.size := by simpa using hb1.size
    have L1 := D1
    clear hb1 D1
    have kR_1 := PR_1.out.cell
    have yR_1 := PR_1.out.lt
    have HR_1 := hide (hr.below L1.out (Nat.le_refl _))
    have HX_1 := hide (hx.below L1.out (Nat.le_refl _))
    clear hr hx
    go_wp2_with fail
    rw [HLF.out]
    refine (szCartonS_ok 0 w.heap.size Ax nx cx x lf _ HX_1.out (by (try simp) <;> omega) (by omega) (by omega)).mono ?_
    rintro e w2 ⟨⟨zl, rfl, hzl, hzl2⟩, hb2⟩
    have D2 := hide (show Below w1.heap.size w1 w2 from (by repeat (first | with_reducible exact Below.refl _ _ | with_reducible assumption | with_reducible refine Below.setCell ?_ (by (try simp) <;> omega) _ | with_reducible refine Below.alloc ?_ (by (try simp) <;> omega) _ | with_reducible refine Below.drew ?_ | with_reducible refine below_drewN ?_ _ | with_reducible exact hb2 | with_reducible refine Below.trans ?_ (Below.mono hb2 (by (try simp) <;> omega)))))
    have PR_2 := hide (Blk.belowH (PR_1.out) hb2)
    have Z2 : w1.heap.size ≤ w2.heap.size := by simpa using hb2.size
    have L2 := hide (L1.out.trans (D2.out.mono (by omega)))
    have HR_2 := hide (HR_1.out.below D2.out (by omega))
    have HX_2 := hide (HX_1.out.below D2.out (by omega))
    clear hb2 PR_1 kR_1 yR_1 L1 HR_1 HX_1 D2
    have kR_2 := PR_2.out.cell
    have yR_2 := PR_2.out.lt
    have hnz : ¬ (zl < 0) := by omega
    go_wp2_with fail
    refine (toRequest_any r A1 A2 A3 n1 n2 n3 c1 c2 c3 0 w.heap.size _ HR_2.out (by (try simp) <;> omega) (by omega)).mono ?_
    rintro e w3 ⟨Aa1, Aa2, Aa3, rfl, ha, hb3⟩
    have D3 := hide (show Below w2.heap.size w2 w3 from (by repeat (first | with_reducible exact Below.refl _ _ | with_reducible assumption | with_reducible refine Below.setCell ?_ (by (try simp) <;> omega) _ | with_reducible refine Below.alloc ?_ (by (try simp) <;> omega) _ | with_reducible refine Below.drew ?_ | with_reducible refine below_drewN ?_ _ | with_reducible exact hb3 | with_reducible refine Below.trans ?_ (Below.mono hb3 (by (try simp) <;> omega)))))
    have PR_3 := hide (Blk.belowH (PR_2.out) hb3)
    have Z3 : w2.heap.size ≤ w3.heap.size := by simpa using hb3.size
    have L3 := hide (L2.out.trans (D3.out.mono (by omega)))
    have HR_3 := hide (HR_2.out.below D3.out (by omega))
    have HX_3 := hide (HX_2.out.below D3.out (by omega))
    clear hb3 PR_2 kR_2 yR_2 L2 HR_2 HX_2 D3
    have kR_3 := PR_3.out.cell
    have yR_3 := PR_3.out.lt
    have HA_3 := hide (show RqAt w3 (w2.heap.size) w3.heap.size r Aa1 n1 n1 Aa2 n2 n2 Aa3 n3 n3 from by simpa using ha)
    clear ha
    go_wp2_with fail
    refine (toCartonS_any 0 w.heap.size Ax nx cx x _ HX_3.out (by (try simp) <;> omega) (by omega)).mono ?_
    rintro e w4 ⟨Ac, xc, rfl, ha, hxc, hb4⟩
    have D4 := hide (show Below w3.heap.size w3 w4 from (by repeat (first | with_reducible exact Below.refl _ _ | with_reducible assumption | with_reducible refine Below.setCell ?_ (by (try simp) <;> omega) _ | with_reducible refine Below.alloc ?_ (by (try simp) <;> omega) _ | with_reducible refine Below.drew ?_ | with_reducible refine below_drewN ?_ _ | with_reducible exact hb4 | with_reducible refine Below.trans ?_ (Below.mono hb4 (by (try simp) <;> omega)))))
    have PR_4 := hide (Blk.belowH (PR_3.out) hb4)
    have Z4 : w3.heap.size ≤ w4.heap.size := by simpa using hb4.size
    have L4 := hide (L3.out.trans (D4.out.mono (by omega)))
    have HR_4 := hide (HR_3.out.below D4.out (by omega))
    have HX_4 := hide (HX_3.out.below D4.out (by omega))
    have HA_4 := hide (HA_3.out.below D4.out (by omega))
    clear hb4 PR_3 kR_3 yR_3 L3 HR_3 HX_3 HA_3 D4
    have kR_4 := PR_4.out.cell
    have yR_4 := PR_4.out.lt
    have HC_4 := hide (show CtsAt w4 (w3.heap.size) w4.heap.size Ac nx nx xc from by simpa using ha)
    have HXC := hide hxc
    clear ha hxc
    go_wp2_with fail
    refine (scostOf_any r Aa1 Aa2 Aa3 n1 n2 n3 n1 n2 n3 (w2.heap.size) (w3.heap.size) (w3.heap.size) (w4.heap.size) Ac nx nx xc _ HA_4.out (by (try simp) <;> omega) HC_4.out (by (try simp) <;> omega) (by omega)).mono ?_
    rintro e w5 ⟨rfl, hb5⟩
    have D5 := hide (show Below w4.heap.size w4 w5 from (by repeat (first | with_reducible exact Below.refl _ _ | with_reducible assumption | with_reducible refine Below.setCell ?_ (by (try simp) <;> omega) _ | with_reducible refine Below.alloc ?_ (by (try simp) <;> omega) _ | with_reducible refine Below.drew ?_ | with_reducible refine below_drewN ?_ _ | with_reducible exact hb5 | with_reducible refine Below.trans ?_ (Below.mono hb5 (by (try simp) <;> omega)))))
    have PR_5 := hide (Blk.belowH (PR_4.out) hb5)
    have Z5 : w4.heap.size ≤ w5.heap.size := by simpa using hb5.size
    have L5 := hide (L4.out.trans (D5.out.mono (by omega)))
    have HR_5 := hide (HR_4.out.below D5.out (by omega))
    have HX_5 := hide (HX_4.out.below D5.out (by omega))
    have HA_5 := hide (HA_4.out.below D5.out (by omega))
    have HC_5 := hide (HC_4.out.below D5.out (by omega))
    clear hb5 PR_4 kR_4 yR_4 L4 HR_4 HX_4 HA_4 HC_4 D5
    have kR_5 := PR_5.out.cell
    have yR_5 := PR_5.out.lt
    go_wp2_with fail
    refine (toRequest_any r A1 A2 A3 n1 n2 n3 c1 c2 c3 0 w.heap.size _ HR_5.out (by (try simp) <;> omega) (by omega)).mono ?_
    rintro e w6 ⟨Ab1, Ab2, Ab3, rfl, ha, hb6⟩
    have D6 := hide (show Below w5.heap.size w5 w6 from (by repeat (first | with_reducible exact Below.refl _ _ | with_reducible assumption | with_reducible refine Below.setCell ?_ (by (try simp) <;> omega) _ | with_reducible refine Below.alloc ?_ (by (try simp) <;> omega) _ | with_reducible refine Below.drew ?_ | with_reducible refine below_drewN ?_ _ | with_reducible exact hb6 | with_reducible refine Below.trans ?_ (Below.mono hb6 (by (try simp) <;> omega)))))
    have PR_6 := hide (Blk.belowH (PR_5.out) hb6)
    have Z6 : w5.heap.size ≤ w6.heap.size := by simpa using hb6.size
    have L6 := hide (L5.out.trans (D6.out.mono (by omega)))
    have HR_6 := hide (HR_5.out.below D6.out (by omega))
    have HX_6 := hide (HX_5.out.below D6.out (by omega))
    have HA_6 := hide (HA_5.out.below D6.out (by omega))
    have HC_6 := hide (HC_5.out.below D6.out (by omega))
    clear hb6 PR_5 kR_5 yR_5 L5 HR_5 HX_5 HA_5 HC_5 D6
    have kR_6 := PR_6.out.cell
    have yR_6 := PR_6.out.lt
    have HB_6 := hide (show RqAt w6 (w5.heap.size) w6.heap.size r Ab1 n1 n1 Ab2 n2 n2 Ab3 n3 n3 from by simpa only [World.size_alloc] using ha)
    clear ha
    go_wp2_with fail
    refine (toCartonS_any 0 w.heap.size Ax nx cx x _ (HX_6.out.below (B := w6.heap.size) (by repeat (first | with_reducible exact Below.refl _ _ | with_reducible assumption | with_reducible refine Below.setCell ?_ (by (try simp) <;> omega) _ | with_reducible refine Below.alloc ?_ (by (try simp) <;> omega) _ | with_reducible refine Below.drew ?_ | with_reducible refine below_drewN ?_ _)) (by omega)) (by (try simp) <;> omega) (by omega)).mono ?_
    rintro e w7 ⟨Ad, xd, rfl, ha, hxd, hb7⟩
    have D7 := hide (show Below w6.heap.size w6 w7 from (by repeat (first | with_reducible exact Below.refl _ _ | with_reducible assumption | with_reducible refine Below.setCell ?_ (by (try simp) <;> omega) _ | with_reducible refine Below.alloc ?_ (by (try simp) <;> omega) _ | with_reducible refine Below.drew ?_ | with_reducible refine below_drewN ?_ _ | with_reducible exact hb7 | with_reducible refine Below.trans ?_ (Below.mono hb7 (by (try simp) <;> omega)))))
    have PR_7 := hide (Blk.belowH (PR_6.out.alloc _) hb7)
    have PX_7 := hide (Blk.belowH ((Blk.new w6 50 (#[.int .i64 r.way, .int .i64 r.pal.w, .int .i64 r.pal.d, .int .i64 r.pal.h, .int .i64 r.pal.gram, .int .i64 r.cls, .slice Ab1 n1 n1, .slice Ab2 n2 n2, .int .i64 r.master, .slice Ab3 n3 n3]) (g := w6.heap.size) (by simp))) hb7)
    have Z7 : w6.heap.size + 1 ≤ w7.heap.size := by simpa using hb7.size
    have L7 := hide (L6.out.trans (D7.out.mono (by omega)))
    have HR_7 := hide (HR_6.out.below D7.out (by omega))
    have HX_7 := hide (HX_6.out.below D7.out (by omega))
    have HA_7 := hide (HA_6.out.below D7.out (by omega))
    have HC_7 := hide (HC_6.out.below D7.out (by omega))
    have HB_7 := hide (HB_6.out.below D7.out (by omega))
    clear hb7 PR_6 kR_6 yR_6 L6 HR_6 HX_6 HA_6 HC_6 HB_6 D7
    have kR_7 := PR_7.out.cell
    have yR_7 := PR_7.out.lt
    have kX_7 := PX_7.out.cell
    have yX_7 := PX_7.out.lt
    have HD_7 := hide (show CtsAt w7 (w6.heap.size + 1) w7.heap.size Ad nx nx xd from by simpa only [World.size_alloc] using ha)
    have HXD := hide hxd
    clear ha hxd
    go_wp2_with fail
    refine (costOf_any r Ab1 Ab2 Ab3 n1 n2 n3 n1 n2 n3 (w5.heap.size) (w6.heap.size) (w6.heap.size + 1) (w7.heap.size) Ad nx nx xd _ HB_7.out (by (try simp) <;> omega) HD_7.out (by (try simp) <;> omega) (by omega)).mono ?_
    rintro e w8 ⟨rfl, hb8⟩
    have D8 := hide (show Below w7.heap.size w7 w8 from (by repeat (first | with_reducible exact Below.refl _ _ | with_reducible assumption | with_reducible refine Below.setCell ?_ (by (try simp) <;> omega) _ | with_reducible refine Below.alloc ?_ (by (try simp) <;> omega) _ | with_reducible refine Below.drew ?_ | with_reducible refine below_drewN ?_ _ | with_reducible exact hb8 | with_reducible refine Below.trans ?_ (Below.mono hb8 (by (try simp) <;> omega)))))
    have PR_8 := hide (Blk.belowH (PR_7.out) hb8)
    have PX_8 := hide (Blk.belowH (PX_7.out) hb8)
    have Z8 : w7.heap.size ≤ w8.heap.size := by simpa using hb8.size
    have L8 := hide (L7.out.trans (D8.out.mono (by omega)))
    have HR_8 := hide (HR_7.out.below D8.out (by omega))
    have HX_8 := hide (HX_7.out.below D8.out (by omega))
    have HA_8 := hide (HA_7.out.below D8.out (by omega))
    have HC_8 := hide (HC_7.out.below D8.out (by omega))
    have HB_8 := hide (HB_7.out.below D8.out (by omega))
    have HD_8 := hide (HD_7.out.below D8.out (by omega))
    clear hb8 PR_7 kR_7 yR_7 PX_7 kX_7 yX_7 L7 HR_7 HX_7 HA_7 HC_7 HB_7 HD_7 D8
    have kR_8 := PR_8.out.cell
    have yR_8 := PR_8.out.lt
    have kX_8 := PX_8.out.cell
    have yX_8 := PX_8.out.lt
    rw [HXC.out, HXD.out]
    go_wp2_with fail
    go_region_held3 (fun w' => w'.cell? ⟨w6.heap.size, 0, none⟩ = some (.int .i64 r.way) ∧ w'.cell? ⟨w6.heap.size, 1, none⟩ = some (.int .i64 r.pal.w) ∧ w'.cell? ⟨w6.heap.size, 2, none⟩ = some (.int .i64 r.pal.d) ∧ w'.cell? ⟨w6.heap.size, 3, none⟩ = some (.int .i64 r.pal.h) ∧ w'.cell? ⟨w6.heap.size, 4, none⟩ = some (.int .i64 r.pal.gram) ∧ w'.cell? ⟨w6.heap.size, 5, none⟩ = some (.int .i64 r.cls) ∧ w'.cell? ⟨w6.heap.size, 6, none⟩ = some (.slice Ab1 n1 n1) ∧ w'.cell? ⟨w6.heap.size, 7, none⟩ = some (.slice Ab2 n2 n2) ∧ w'.cell? ⟨w6.heap.size, 8, none⟩ = some (.int .i64 r.master) ∧ w'.cell? ⟨w6.heap.size, 9, none⟩ = some (.slice Ab3 n3 n3) ∧ w'.cell? ⟨w.heap.size, 0, none⟩ = some (.int .i64 r.way) ∧ w'.cell? ⟨w.heap.size, 1, none⟩ = some (.int .i64 r.pal.w) ∧ w'.cell? ⟨w.heap.size, 2, none⟩ = some (.int .i64 r.pal.d) ∧ w'.cell? ⟨w.heap.size, 3, none⟩ = some (.int .i64 r.pal.h) ∧ w'.cell? ⟨w.heap.size, 4, none⟩ = some (.int .i64 r.pal.gram) ∧ w'.cell? ⟨w.heap.size, 5, none⟩ = some (.int .i64 r.cls) ∧ w'.cell? ⟨w.heap.size, 6, none⟩ = some (.slice A1 n1 c1) ∧ w'.cell? ⟨w.heap.size, 7, none⟩ = some (.slice A2 n2 c2) ∧ w'.cell? ⟨w.heap.size, 8, none⟩ = some (.int .i64 r.master) ∧ w'.cell? ⟨w.heap.size, 9, none⟩ = some (.slice A3 n3 c3)) (go_keep) (first | (go_at_call 22; refine (toRequest_any r A1 A2 A3 n1 n2 n3 c1 c2 c3 0 w.heap.size _ HR_8.out.drew (by (try simp) <;> omega) (by omega)).mono ?_; rintro e w9 ⟨Ae1, Ae2, Ae3, rfl, hc, hb9⟩; have hcc := bcellD hb9; have y9 : w8.heap.size ≤ w9.heap.size := (by simpa using hb9.size); have yR9 : w.heap.size < w9.heap.size := (by omega); have yX9 : w6.heap.size < w9.heap.size := (by omega)) | (go_at_call 25; refine (eqRequest_any r Ab1 Ab2 Ab3 n1 n2 n3 n1 n2 n3 Ae1 Ae2 Ae3 n1 n2 n3 n1 n2 n3 (w5.heap.size) w6.heap.size _ w9.heap.size _ (HB_8.out.drew.below hb9 (by (try simp) <;> omega)) (by omega) hc (Nat.le_refl _)).mono ?_; rintro e w10 ⟨rfl, hb10⟩; have hcc10 := (bcell hb10).1))
    have hz10 : w8.heap.size ≤ w10.heap.size := Nat.le_trans y9 hb10.size
    have HD_10 := hide ((HD_8.out.drew.below hb9 (by (try simp) <;> omega)).below hb10 (by omega))
    have HX_10 := hide ((HX_8.out.drew.below hb9 (by (try simp) <;> omega)).below hb10 (by omega))
    have LL_10 := hide (show Below w.heap.size w w10 from (L8.out.drew.trans (hb9.mono (by (try simp) <;> omega))).trans (hb10.mono (by omega)))
    clear hcc hcc10 hb9 hb10 hc kR_8 yR_8 kX_8 yX_8 yR9 yX9
    go_wp2_with fail
    refine (toCartonS_any 0 w.heap.size Ax nx cx x _ (HX_10.out.below (B := w10.heap.size) (by repeat (first | with_reducible exact Below.refl _ _ | with_reducible assumption | with_reducible refine Below.setCell ?_ (by (try simp) <;> omega) _ | with_reducible refine Below.alloc ?_ (by (try simp) <;> omega) _ | with_reducible refine Below.drew ?_ | with_reducible refine below_drewN ?_ _)) (by omega)) (by (try simp) <;> omega) (by omega)).mono ?_
    rintro e w11 ⟨Af, xf, rfl, hf, hxf, hb11⟩
    have z11 := hb11.size
    go_wp2_with fail
    refine (eqCartonS_any (w6.heap.size + 1) (w7.heap.size) _ w11.heap.size Ad Af nx nx nx xd xf _ (HD_10.out.below hb11 (by omega)) (by omega) hf (Nat.le_refl _) (by rw [HXD.out, hxf])).mono ?_
    rintro e w12 ⟨rfl, hb12⟩
    go_wp2
    go_ret
    exact ⟨rfl, (LL_10.out.trans (hb11.mono (by (try simp) <;> omega))).trans (hb12.mono (by omega))⟩
  · go_enter Try.func5, Try.ntmps5
    go_wp2_with fail
    refine (szRequest_no r A1 A2 A3 n1 n2 n3 c1 c2 c3 1048576 _ (by omega) (by omega) (by omega) ⟨hr.pr.cap, hr.pr.max⟩ ⟨hr.ty.cap, hr.ty.max⟩ ⟨hr.it.cap, hr.it.max⟩).mono ?_
    rintro e w1 ⟨rfl, hb1⟩
    go_wp2
    go_ret
    exact ⟨rfl, (by repeat (first | with_reducible exact Below.refl _ _ | with_reducible assumption | with_reducible refine Below.setCell ?_ (by (try simp) <;> omega) _ | with_reducible refine Below.alloc ?_ (by (try simp) <;> omega) _ | with_reducible refine Below.drew ?_ | with_reducible refine below_drewN ?_ _ | with_reducible exact hb1 | with_reducible refine Below.trans ?_ (Below.mono hb1 (by (try simp) <;> omega))))⟩
set_option maxRecDepth 100000 in
set_option maxHeartbeats 1000000 in
theorem lifted (os : Os) (started : os.Started) (H : Type) (enc : TypeId × Value → H) :
    ReturnsInHanded {} Try.checked os 5 .any (Rows.fnExactCostOfSpec.pre6 enc Try.prog Try.f5 Rows.fnExactCostOfRow.domain false) (Rows.fnExactCostOfSpec.post enc Try.prog Try.f5 false true false false) := by
  refine returnsInHanded_of_change (C := Try.checked) ownK started (by kernel_rfl) Try.func5
    (ChangeSpec.witness6 (enc := enc) (C := Try.checked) false ⟨#[], #[.agg #[.int .i64 0, .int .i64 0, .int .i64 0, .int .i64 0, .int .i64 0, .int .i64 0, .slice none 0 0, .slice none 0 0, .int .i64 0, .slice none 0 0], .slice none 0 0], []⟩ 8 (by kernel_rfl) (by kernel_rfl) (by kernel_rfl) (by kernel_rfl)) ?_
  intro W base args ds gs before hval0 hW hcnd _
  have hval : ∀ (j : Nat) t v, Try.f5.params[j]? = some t → args[j]? = some v → Value.okWide Try.prog W .any base t v := hval0
  have hW' := hW
  obtain ⟨p, q, hA0, hV, rfl, hfz, hnd⟩ := hW
  have hA : DataW.TrodAll enc Try.prog W 0 (fun _ => true) true Try.f5.params.toList args.toList ds p := hA0
  have hV' := hV
  obtain ⟨rfl, rfl⟩ := trodVars_none hV'
  rw [Try.params5] at hA hval
  obtain ⟨v0, vs0, d0, ds0, p0, q0, hargs, rfl, rfl, h0, r0⟩ := trodAll_cons hA
  obtain ⟨v1, vs1, d1, ds1, p1, q1, rfl, rfl, rfl, h1, r1⟩ := trodAll_cons r0
  obtain ⟨rfl, rfl, rfl⟩ := trodAll_nil r1
  obtain rfl : args = #[v0, v1] := by cases args; simp_all
  have hz0 : W.noneFrozen p0 := fun b off hin => hfz b off (by simp [hin])
  have hz1 : W.noneFrozen p1 := fun b off hin => hfz b off (by simp [hin])
  obtain ⟨r, A1, n1, c1, A2, n2, c2, A3, n3, c3, rfl, hr⟩ := openRq (hval 0 40 v0 rfl rfl) h0 hz0
  obtain ⟨Ax, nx, cx, x, rfl, hx⟩ := openCts (hval 1 41 v1 rfl rfl) h1 hz1
  refine (walk r A1 A2 A3 n1 n2 n3 c1 c2 c3 Ax nx cx x W hr hx).mono fun e W' ⟨he, hb⟩ => ?_
  subst he
  exact ⟨_, rfl, law_post laidO (by intro t ht; rw [Try.params5] at ht; simp only [List.mem_cons, List.not_mem_nil, or_false] at ht; rcases ht with rfl | rfl <;> exact ⟨by kernel_rfl, of_decide_eq_true (by kernel_rfl)⟩) rfl (by kernel_rfl) Try.underlying4 hW' rfl hb⟩

theorem over : Rows.fnExactCostOfRow.holds Try.pinned (OpenSpec.ofChange Rows.fnExactCostOfSpec) :=
  OpenClaim.holds_of_wide 5 Try.f5 rfl rfl rfl rfl rfl rfl rfl ⟨rfl, rfl, rfl, rfl, rfl⟩ rfl rfl rfl rfl rfl (by kernel_rfl) Try.func5 (by kernel_rfl)
    (of_decide_eq_true (by kernel_rfl)) (by unfold Func.isWrapper; first | (rw [if_pos (by decide +kernel)]; kernel_rfl) | (rw [if_neg (by decide +kernel)]; exact ⟨rfl, rfl⟩))
    (fun os started H enc _ => lifted os started H enc)

theorem proved : Rows.FnExactCostOfSaid :=
  over
#print axioms proved
end Go.Proofs.Ytcjcmdikopipjaa.fnExactCostOf
