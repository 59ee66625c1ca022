/- The law FnExactRoom holds for every input: the call answers true, and each argument reads afterwards as it read before. -/
import Derived.Test.YtehgdhekiogppaaGreatUn9
import Derived.Test.YtehgdhekiogppaaGreatRw
import Derived.Test.YtehgdhekiogppaaGreatS2
namespace Go.Proofs.YtehgdhekiogppaaGreat.fnExactRoom
open Go.ChangeShapes Go.WideShapes Go.ChangeAt Go.RowKit Go.Deep
open Go.ChangeMaps (open_string)
set_option linter.unusedVariables false
set_option linter.unusedSimpArgs false


set_option maxRecDepth 20000 in
set_option maxHeartbeats 2000000 in
theorem walk (r : Rq) (A1 A2 A3 : Option Addr) (n1 n2 n3 c1 c2 c3 : Nat) (Aq : Option Addr) (nq cq : Nat) (q : List Int) (u : Int) (w : World) (hr : RqAt w 0 w.heap.size r A1 n1 c1 A2 n2 c2 A3 n3 c3) (hq : SlK 1 encInt w 0 w.heap.size Aq nq cq q) (wu : (Lit.int .i64 u).wf = true) :
    Calls Tryz.prog 3 #[.agg #[.int .i64 r.way, .int .i64 r.pal.w, .int .i64 r.pal.d, .int .i64 r.pal.h, .int .i64 r.pal.gram, .int .i64 r.cls, .slice A1 n1 c1, .slice A2 n2 c2, .int .i64 r.master, .slice A3 n3 c3], .slice Aq nq cq, .int .i64 u] w fun e w' => e = .returned (.bool true) ∧ Below w.heap.size w w' := by
  have hqr := hr.pr.len
  have hcap := hq.cap
  have hmax := hq.max
  by_cases hsq : nq ≤ 1048576
  · have hnq : ¬ ((1048576 : Int) < nq) := by omega
    by_cases hsz : n1 + n2 + n3 ≤ 1048576
    · have hneg : ¬ ((1048576 : Int) - n1 - n2 - n3 < 0) := by omega
      go_enter Tryz.func3, Tryz.ntmps3
      go_wp2_with fail
      refine (szRequest_ok r A1 A2 A3 n1 n2 n3 c1 c2 c3 1048576 _ (by omega) (by omega) ⟨hr.pr.cap, hr.pr.max⟩ ⟨hr.ty.cap, hr.ty.max⟩ ⟨hr.it.cap, hr.it.max⟩).mono ?_
      rintro e w1 ⟨rfl, hb1⟩
      have D1 := hide (show Below w.heap.size w w1 from (by repeat (first | with_reducible exact Below.refl _ _ | with_reducible assumption | with_reducible refine Below.setCell ?_ (by (try simp) <;> omega) _ | with_reducible refine Below.alloc ?_ (by (try simp) <;> omega) _ | with_reducible refine Below.drew ?_ | with_reducible refine below_drewN ?_ _ | with_reducible exact hb1 | with_reducible refine Below.trans ?_ (Below.mono hb1 (by (try simp) <;> omega)))))
      have PR_1 := hide (Blk.belowH ((Blk.new w 28 (#[.int .i64 r.way, .int .i64 r.pal.w, .int .i64 r.pal.d, .int .i64 r.pal.h, .int .i64 r.pal.gram, .int .i64 r.cls, .slice A1 n1 c1, .slice A2 n2 c2, .int .i64 r.master, .slice A3 n3 c3]) (g := w.heap.size) (by simp))) hb1)
      have Z1 : w.heap.size + 1 ≤ w1.heap.size := by simpa using hb1.size
      have L1 := D1
      clear hb1 D1
      have kR_1 := PR_1.out.cell
      have yR_1 := PR_1.out.lt
      have HR_1 := hide (hr.below L1.out (Nat.le_refl _))
      clear hr
      have HQ_1 := hide (hq.below L1.out (Nat.le_refl _))
      clear hq
      go_wp2_with fail
      refine (toRequest_any r A1 A2 A3 n1 n2 n3 c1 c2 c3 0 w.heap.size _ HR_1.out (by (try simp) <;> omega) (by omega)).mono ?_
      rintro e w2 ⟨Aa1, Aa2, Aa3, rfl, ha, hb2⟩
      have D2 := hide (show Below w1.heap.size w1 w2 from (by repeat (first | with_reducible exact Below.refl _ _ | with_reducible assumption | with_reducible refine Below.setCell ?_ (by (try simp) <;> omega) _ | with_reducible refine Below.alloc ?_ (by (try simp) <;> omega) _ | with_reducible refine Below.drew ?_ | with_reducible refine below_drewN ?_ _ | with_reducible exact hb2 | with_reducible refine Below.trans ?_ (Below.mono hb2 (by (try simp) <;> omega)))))
      have PR_2 := hide (Blk.belowH (PR_1.out) hb2)
      have Z2 : w1.heap.size ≤ w2.heap.size := by simpa using hb2.size
      have L2 := hide (L1.out.trans (D2.out.mono (by omega)))
      have HR_2 := hide (HR_1.out.below D2.out (by omega))
      have HQ_2 := hide (HQ_1.out.below D2.out (by omega))
      clear hb2 PR_1 kR_1 yR_1 L1 HR_1 HQ_1 D2
      have kR_2 := PR_2.out.cell
      have yR_2 := PR_2.out.lt
      have HA_2 := hide (show RqAt w2 (w1.heap.size) w2.heap.size r Aa1 n1 n1 Aa2 n2 n2 Aa3 n3 n3 from by simpa only [World.size_alloc] using ha)
      clear ha
      go_wp2_with fail
      refine (toIntS_any 0 w.heap.size Aq nq cq q _ HQ_2.out (by (try simp) <;> omega) (by omega)).mono ?_
      rintro e w3 ⟨Ac, rfl, ha, hb3⟩
      have D3 := hide (show Below w2.heap.size w2 w3 from (by repeat (first | with_reducible exact Below.refl _ _ | with_reducible assumption | with_reducible refine Below.setCell ?_ (by (try simp) <;> omega) _ | with_reducible refine Below.alloc ?_ (by (try simp) <;> omega) _ | with_reducible refine Below.drew ?_ | with_reducible refine below_drewN ?_ _ | with_reducible exact hb3 | with_reducible refine Below.trans ?_ (Below.mono hb3 (by (try simp) <;> omega)))))
      have PR_3 := hide (Blk.belowH (PR_2.out) hb3)
      have Z3 : w2.heap.size ≤ w3.heap.size := by simpa using hb3.size
      have L3 := hide (L2.out.trans (D3.out.mono (by omega)))
      have HR_3 := hide (HR_2.out.below D3.out (by omega))
      have HQ_3 := hide (HQ_2.out.below D3.out (by omega))
      have HA_3 := hide (HA_2.out.below D3.out (by omega))
      clear hb3 PR_2 kR_2 yR_2 L2 HR_2 HQ_2 HA_2 D3
      have kR_3 := PR_3.out.cell
      have yR_3 := PR_3.out.lt
      have HC_3 := hide (show SlK 1 encInt w3 (w2.heap.size) w3.heap.size Ac nq nq q from by simpa only [World.size_alloc] using ha)
      clear ha
      go_wp2_with fail
      refine (sroom_any r Aa1 Aa2 Aa3 n1 n2 n3 n1 n2 n3 (w1.heap.size) (w2.heap.size) (w2.heap.size) (w3.heap.size) Ac nq nq q u _ HA_3.out (by (try simp) <;> omega) HC_3.out (by (try simp) <;> omega) (by omega)).mono ?_
      rintro e w4 ⟨rfl, hb4⟩
      have D4 := hide (show Below w3.heap.size w3 w4 from (by repeat (first | with_reducible exact Below.refl _ _ | with_reducible assumption | with_reducible refine Below.setCell ?_ (by (try simp) <;> omega) _ | with_reducible refine Below.alloc ?_ (by (try simp) <;> omega) _ | with_reducible refine Below.drew ?_ | with_reducible refine below_drewN ?_ _ | with_reducible exact hb4 | with_reducible refine Below.trans ?_ (Below.mono hb4 (by (try simp) <;> omega)))))
      have PR_4 := hide (Blk.belowH (PR_3.out) hb4)
      have Z4 : w3.heap.size ≤ w4.heap.size := by simpa using hb4.size
      have L4 := hide (L3.out.trans (D4.out.mono (by omega)))
      have HR_4 := hide (HR_3.out.below D4.out (by omega))
      have HQ_4 := hide (HQ_3.out.below D4.out (by omega))
      have HA_4 := hide (HA_3.out.below D4.out (by omega))
      have HC_4 := hide (HC_3.out.below D4.out (by omega))
      clear hb4 PR_3 kR_3 yR_3 L3 HR_3 HQ_3 HA_3 HC_3 D4
      have kR_4 := PR_4.out.cell
      have yR_4 := PR_4.out.lt
      go_wp2_with fail
      refine (toRequest_any r A1 A2 A3 n1 n2 n3 c1 c2 c3 0 w.heap.size _ HR_4.out (by (try simp) <;> omega) (by omega)).mono ?_
      rintro e w5 ⟨Ab1, Ab2, Ab3, rfl, ha, hb5⟩
      have D5 := hide (show Below w4.heap.size w4 w5 from (by repeat (first | with_reducible exact Below.refl _ _ | with_reducible assumption | with_reducible refine Below.setCell ?_ (by (try simp) <;> omega) _ | with_reducible refine Below.alloc ?_ (by (try simp) <;> omega) _ | with_reducible refine Below.drew ?_ | with_reducible refine below_drewN ?_ _ | with_reducible exact hb5 | with_reducible refine Below.trans ?_ (Below.mono hb5 (by (try simp) <;> omega)))))
      have PR_5 := hide (Blk.belowH (PR_4.out) hb5)
      have Z5 : w4.heap.size ≤ w5.heap.size := by simpa using hb5.size
      have L5 := hide (L4.out.trans (D5.out.mono (by omega)))
      have HR_5 := hide (HR_4.out.below D5.out (by omega))
      have HQ_5 := hide (HQ_4.out.below D5.out (by omega))
      have HA_5 := hide (HA_4.out.below D5.out (by omega))
      have HC_5 := hide (HC_4.out.below D5.out (by omega))
      clear hb5 PR_4 kR_4 yR_4 L4 HR_4 HQ_4 HA_4 HC_4 D5
      have kR_5 := PR_5.out.cell
      have yR_5 := PR_5.out.lt
      have HB_5 := hide (show RqAt w5 (w4.heap.size) w5.heap.size r Ab1 n1 n1 Ab2 n2 n2 Ab3 n3 n3 from by simpa only [World.size_alloc] using ha)
      clear ha
      go_wp2_with fail
      refine (toIntS_any 0 w.heap.size Aq nq cq q _ (HQ_5.out.below (B := w5.heap.size) (by repeat (first | with_reducible exact Below.refl _ _ | with_reducible assumption | with_reducible refine Below.setCell ?_ (by (try simp) <;> omega) _ | with_reducible refine Below.alloc ?_ (by (try simp) <;> omega) _ | with_reducible refine Below.drew ?_ | with_reducible refine below_drewN ?_ _)) (by omega)) (by (try simp) <;> omega) (by omega)).mono ?_
      rintro e w6 ⟨Ad, rfl, ha, hb6⟩
      have D6 := hide (show Below w5.heap.size w5 w6 from (by repeat (first | with_reducible exact Below.refl _ _ | with_reducible assumption | with_reducible refine Below.setCell ?_ (by (try simp) <;> omega) _ | with_reducible refine Below.alloc ?_ (by (try simp) <;> omega) _ | with_reducible refine Below.drew ?_ | with_reducible refine below_drewN ?_ _ | with_reducible exact hb6 | with_reducible refine Below.trans ?_ (Below.mono hb6 (by (try simp) <;> omega)))))
      have PR_6 := hide (Blk.belowH (PR_5.out.alloc _) hb6)
      have PX_6 := hide (Blk.belowH ((Blk.new w5 37 (#[.int .i64 r.way, .int .i64 r.pal.w, .int .i64 r.pal.d, .int .i64 r.pal.h, .int .i64 r.pal.gram, .int .i64 r.cls, .slice Ab1 n1 n1, .slice Ab2 n2 n2, .int .i64 r.master, .slice Ab3 n3 n3]) (g := w5.heap.size) (by simp))) hb6)
      have Z6 : w5.heap.size + 1 ≤ w6.heap.size := by simpa using hb6.size
      have L6 := hide (L5.out.trans (D6.out.mono (by omega)))
      have HR_6 := hide (HR_5.out.below D6.out (by omega))
      have HQ_6 := hide (HQ_5.out.below D6.out (by omega))
      have HA_6 := hide (HA_5.out.below D6.out (by omega))
      have HC_6 := hide (HC_5.out.below D6.out (by omega))
      have HB_6 := hide (HB_5.out.below D6.out (by omega))
      clear hb6 PR_5 kR_5 yR_5 L5 HR_5 HQ_5 HA_5 HC_5 HB_5 D6
      have kR_6 := PR_6.out.cell
      have yR_6 := PR_6.out.lt
      have kX_6 := PX_6.out.cell
      have yX_6 := PX_6.out.lt
      have HD_6 := hide (show SlK 1 encInt w6 (w5.heap.size + 1) w6.heap.size Ad nq nq q from by simpa only [World.size_alloc] using ha)
      clear ha
      go_wp2_with fail
      refine (room_any r Ab1 Ab2 Ab3 n1 n2 n3 n1 n2 n3 (w4.heap.size) (w5.heap.size) (w5.heap.size + 1) (w6.heap.size) Ad nq nq q u _ HB_6.out (by (try simp) <;> omega) HD_6.out (by (try simp) <;> omega) (by omega)).mono ?_
      rintro e w7 ⟨rfl, hb7⟩
      have D7 := hide (show Below w6.heap.size w6 w7 from (by repeat (first | with_reducible exact Below.refl _ _ | with_reducible assumption | with_reducible refine Below.setCell ?_ (by (try simp) <;> omega) _ | with_reducible refine Below.alloc ?_ (by (try simp) <;> omega) _ | with_reducible refine Below.drew ?_ | with_reducible refine below_drewN ?_ _ | with_reducible exact hb7 | with_reducible refine Below.trans ?_ (Below.mono hb7 (by (try simp) <;> omega)))))
      have PR_7 := hide (Blk.belowH (PR_6.out) hb7)
      have PX_7 := hide (Blk.belowH (PX_6.out) hb7)
      have Z7 : w6.heap.size ≤ w7.heap.size := by simpa using hb7.size
      have L7 := hide (L6.out.trans (D7.out.mono (by omega)))
      have HR_7 := hide (HR_6.out.below D7.out (by omega))
      have HQ_7 := hide (HQ_6.out.below D7.out (by omega))
      have HA_7 := hide (HA_6.out.below D7.out (by omega))
      have HC_7 := hide (HC_6.out.below D7.out (by omega))
      have HB_7 := hide (HB_6.out.below D7.out (by omega))
      have HD_7 := hide (HD_6.out.below D7.out (by omega))
      clear hb7 PR_6 kR_6 yR_6 PX_6 kX_6 yX_6 L6 HR_6 HQ_6 HA_6 HC_6 HB_6 HD_6 D7
      have kR_7 := PR_7.out.cell
      have yR_7 := PR_7.out.lt
      have kX_7 := PX_7.out.cell
      have yX_7 := PX_7.out.lt
      go_wp2_with fail
      go_region_held3 (fun w' => w'.cell? ⟨w5.heap.size, 0, none⟩ = some (.int .i64 r.way) ∧ w'.cell? ⟨w5.heap.size, 1, none⟩ = some (.int .i64 r.pal.w) ∧ w'.cell? ⟨w5.heap.size, 2, none⟩ = some (.int .i64 r.pal.d) ∧ w'.cell? ⟨w5.heap.size, 3, none⟩ = some (.int .i64 r.pal.h) ∧ w'.cell? ⟨w5.heap.size, 4, none⟩ = some (.int .i64 r.pal.gram) ∧ w'.cell? ⟨w5.heap.size, 5, none⟩ = some (.int .i64 r.cls) ∧ w'.cell? ⟨w5.heap.size, 6, none⟩ = some (.slice Ab1 n1 n1) ∧ w'.cell? ⟨w5.heap.size, 7, none⟩ = some (.slice Ab2 n2 n2) ∧ w'.cell? ⟨w5.heap.size, 8, none⟩ = some (.int .i64 r.master) ∧ w'.cell? ⟨w5.heap.size, 9, none⟩ = some (.slice Ab3 n3 n3) ∧ w'.cell? ⟨w.heap.size, 0, none⟩ = some (.int .i64 r.way) ∧ w'.cell? ⟨w.heap.size, 1, none⟩ = some (.int .i64 r.pal.w) ∧ w'.cell? ⟨w.heap.size, 2, none⟩ = some (.int .i64 r.pal.d) ∧ w'.cell? ⟨w.heap.size, 3, none⟩ = some (.int .i64 r.pal.h) ∧ w'.cell? ⟨w.heap.size, 4, none⟩ = some (.int .i64 r.pal.gram) ∧ w'.cell? ⟨w.heap.size, 5, none⟩ = some (.int .i64 r.cls) ∧ w'.cell? ⟨w.heap.size, 6, none⟩ = some (.slice A1 n1 c1) ∧ w'.cell? ⟨w.heap.size, 7, none⟩ = some (.slice A2 n2 c2) ∧ w'.cell? ⟨w.heap.size, 8, none⟩ = some (.int .i64 r.master) ∧ w'.cell? ⟨w.heap.size, 9, none⟩ = some (.slice A3 n3 c3)) (go_keep) (first | (go_at_call 10; refine (toRequest_any r A1 A2 A3 n1 n2 n3 c1 c2 c3 0 w.heap.size _ HR_7.out.drew (by (try simp) <;> omega) (by omega)).mono ?_; rintro e w8 ⟨Ae1, Ae2, Ae3, rfl, hc, hb8⟩; have hcc := bcellD hb8; have y8 : w7.heap.size ≤ w8.heap.size := (by simpa using hb8.size); have yR8 : w.heap.size < w8.heap.size := (by omega); have yX8 : w5.heap.size < w8.heap.size := (by omega)) | (go_at_call 13; refine (eqRequest_any r Ab1 Ab2 Ab3 n1 n2 n3 n1 n2 n3 Ae1 Ae2 Ae3 n1 n2 n3 n1 n2 n3 (w4.heap.size) w5.heap.size _ w8.heap.size _ (HB_7.out.drew.below hb8 (by (try simp) <;> omega)) (by omega) hc (Nat.le_refl _)).mono ?_; rintro e w9 ⟨rfl, hb9⟩; have hcc9 := (bcell hb9).1))
      have hz9 : w7.heap.size ≤ w9.heap.size := Nat.le_trans y8 hb9.size
      have HD_9 := hide ((HD_7.out.drew.below hb8 (by (try simp) <;> omega)).below hb9 (by omega))
      have HQ_9 := hide ((HQ_7.out.drew.below hb8 (by (try simp) <;> omega)).below hb9 (by omega))
      have LL_9 := hide (show Below w.heap.size w w9 from (L7.out.drew.trans (hb8.mono (by (try simp) <;> omega))).trans (hb9.mono (by omega)))
      clear hcc hcc9 hb8 hb9 hc
      go_wp2_with fail
      refine (toIntS_any 0 w.heap.size Aq nq cq q _ HQ_9.out (by omega) (by omega)).mono ?_
      rintro e w10 ⟨Af, rfl, hf, hb10⟩
      have z10 := hb10.size
      have HD_10 := hide (HD_9.out.below hb10 (by omega))
      have HF := hide hf
      have LL_10 := hide (LL_9.out.trans (hb10.mono (by omega)))
      clear hf hb10
      go_wp2_with fail
      refine (eqIntS_any (w5.heap.size + 1) (w6.heap.size) w9.heap.size w10.heap.size Ad Af nq nq nq q _ HD_10.out (by omega) HF.out (Nat.le_refl _)).mono ?_
      rintro e w11 ⟨rfl, hb11⟩
      go_wp2
      go_ret
      exact ⟨rfl, (by repeat (first | with_reducible exact Below.refl _ _ | with_reducible assumption | with_reducible refine Below.setCell ?_ (by (try simp) <;> omega) _ | with_reducible refine Below.alloc ?_ (by (try simp) <;> omega) _ | with_reducible refine Below.drew ?_ | with_reducible refine below_drewN ?_ _ | with_reducible exact LL_10.out | with_reducible exact hb11 | with_reducible refine Below.trans ?_ (Below.mono LL_10.out (by (try simp) <;> omega)) | with_reducible refine Below.trans ?_ (Below.mono hb11 (by (try simp) <;> omega))))⟩
    · go_enter Tryz.func3, Tryz.ntmps3
      go_wp2_with fail
      refine (szRequest_no r A1 A2 A3 n1 n2 n3 c1 c2 c3 1048576 _ (by omega) (by omega) (by omega) ⟨hr.pr.cap, hr.pr.max⟩ ⟨hr.ty.cap, hr.ty.max⟩ ⟨hr.it.cap, hr.it.max⟩).mono ?_
      rintro e w1 ⟨rfl, hb1⟩
      go_wp2
      go_ret
      exact ⟨rfl, (by repeat (first | with_reducible exact Below.refl _ _ | with_reducible assumption | with_reducible refine Below.setCell ?_ (by (try simp) <;> omega) _ | with_reducible refine Below.alloc ?_ (by (try simp) <;> omega) _ | with_reducible refine Below.drew ?_ | with_reducible refine below_drewN ?_ _ | with_reducible exact hb1 | with_reducible refine Below.trans ?_ (Below.mono hb1 (by (try simp) <;> omega))))⟩
  · have hnq : (1048576 : Int) < nq := by omega
    go_enter Tryz.func3, Tryz.ntmps3
    go_wp2
    go_ret
    exact ⟨rfl, (by repeat (first | with_reducible exact Below.refl _ _ | with_reducible assumption | with_reducible refine Below.setCell ?_ (by (try simp) <;> omega) _ | with_reducible refine Below.alloc ?_ (by (try simp) <;> omega) _ | with_reducible refine Below.drew ?_ | with_reducible refine below_drewN ?_ _))⟩
set_option maxRecDepth 100000 in
set_option maxHeartbeats 1000000 in
theorem lifted (os : Os) (started : os.Started) (H : Type) (enc : TypeId × Value → H) :
    ReturnsInHanded {} Tryz.checked os 3 .any (Rows.fnExactRoomSpec.pre6 enc Tryz.prog Tryz.f3 Rows.fnExactRoomRow.domain false) (Rows.fnExactRoomSpec.post enc Tryz.prog Tryz.f3 false true false false) := by
  refine returnsInHanded_of_change (C := Tryz.checked) ownK started (by kernel_rfl) Tryz.func3
    (ChangeSpec.witness6 (enc := enc) (C := Tryz.checked) false ⟨#[], #[.agg #[.int .i64 0, .int .i64 0, .int .i64 0, .int .i64 0, .int .i64 0, .int .i64 0, .slice none 0 0, .slice none 0 0, .int .i64 0, .slice none 0 0], .slice none 0 0, .int .i64 0], []⟩ 8 (by kernel_rfl) (by kernel_rfl) (by kernel_rfl) (by kernel_rfl)) ?_
  intro W base args ds gs before hval0 hW hcnd _
  have hval : ∀ (j : Nat) t v, Tryz.f3.params[j]? = some t → args[j]? = some v → Value.okWide Tryz.prog W .any base t v := hval0
  have hW' := hW
  obtain ⟨p, q, hA0, hV, rfl, hfz, hnd⟩ := hW
  have hA : DataW.TrodAll enc Tryz.prog W 0 (fun _ => true) true Tryz.f3.params.toList args.toList ds p := hA0
  have hV' := hV
  obtain ⟨rfl, rfl⟩ := trodVars_none hV'
  rw [Tryz.params3] at hA hval
  obtain ⟨v0, vs0, d0, ds0, p0, q0, hargs, rfl, rfl, h0, r0⟩ := trodAll_cons hA
  obtain ⟨v1, vs1, d1, ds1, p1, q1, rfl, rfl, rfl, h1, r1⟩ := trodAll_cons r0
  obtain ⟨v2, vs2, d2, ds2, p2, q2, rfl, rfl, rfl, h2, r2⟩ := trodAll_cons r1
  obtain ⟨rfl, rfl, rfl⟩ := trodAll_nil r2
  obtain rfl : args = #[v0, v1, v2] := by cases args; simp_all
  have hz0 : W.noneFrozen p0 := fun b off hin => hfz b off (by simp [hin])
  have hz1 : W.noneFrozen p1 := fun b off hin => hfz b off (by simp [hin])
  have hz2 : W.noneFrozen p2 := fun b off hin => hfz b off (by simp [hin])
  obtain ⟨r, A1, n1, c1, A2, n2, c2, A3, n3, c3, rfl, hr⟩ := openRq (hval 0 28 v0 rfl rfl) h0 hz0
  obtain ⟨Aq, nq, cq, q, rfl, hq⟩ : ∃ A n c xs, v1 = .slice A n c ∧ SlK 1 encInt W 0 W.heap.size A n c xs := by
    obtain ⟨a0, len0, cap0, rfl⟩ := okWide_slice Tryz.underlying29 (hval 1 29 v1 rfl rfl)
    obtain ⟨fu, hf⟩ := h1
    exact open_is Tryz.underlying29 Tryz.underlying3 cInt (by simpa [Value.cells] using hf) hz1
  obtain ⟨u, rfl, _, _, wu⟩ := open_int Tryz.underlying3 (hval 2 3 v2 rfl rfl) h2
  refine (walk r A1 A2 A3 n1 n2 n3 c1 c2 c3 Aq nq cq q u W hr hq wu).mono fun e W' ⟨he, hb⟩ => ?_
  subst he
  exact ⟨_, rfl, law_post laidO (by intro t ht; rw [Tryz.params3] at ht; simp only [List.mem_cons, List.not_mem_nil, or_false] at ht; rcases ht with rfl | rfl | rfl <;> exact ⟨by kernel_rfl, of_decide_eq_true (by kernel_rfl)⟩) rfl (by kernel_rfl) Tryz.underlying4 hW' rfl hb⟩

theorem over : Rows.fnExactRoomRow.holds Tryz.pinned (OpenSpec.ofChange Rows.fnExactRoomSpec) :=
  OpenClaim.holds_of_wide 3 Tryz.f3 rfl rfl rfl rfl rfl rfl rfl ⟨rfl, rfl, rfl, rfl, rfl⟩ rfl rfl rfl rfl rfl (by kernel_rfl) Tryz.func3 (by kernel_rfl)
    (of_decide_eq_true (by kernel_rfl)) (by unfold Func.isWrapper; first | (rw [if_pos (by decide +kernel)]; kernel_rfl) | (rw [if_neg (by decide +kernel)]; exact ⟨rfl, rfl⟩))
    (fun os started H enc _ => lifted os started H enc)

theorem proved : Rows.FnExactRoomSaid :=
  over
#print axioms proved
end Go.Proofs.YtehgdhekiogppaaGreat.fnExactRoom
