/- The law FnExactPresent holds for every input: the call answers true, and each argument reads afterwards as it read before. -/
import Derived.Test.YtbgcljpoiajcjaaPs
import Derived.Test.YtbgcljpoiajcjaaMk
import Derived.Test.YtbgcljpoiajcjaaRw
import Derived.Test.YtbgcljpoiajcjaaS2
namespace Go.Proofs.Ytbgcljpoiajcjaa.fnExactPresent
open Go.ChangeShapes Go.WideShapes Go.ChangeAt Go.RowKit Go.Deep
open Go.ChangeMaps (open_string)
set_option linter.unusedVariables false
set_option linter.unusedSimpArgs false


set_option maxRecDepth 20000 in
set_option maxHeartbeats 2000000 in
theorem walk (r : Rq) (A1 A2 A3 : Option Addr) (n1 n2 n3 c1 c2 c3 : Nat) (w : World) (hr : RqAt w 0 w.heap.size r A1 n1 c1 A2 n2 c2 A3 n3 c3) :
    Calls Try.prog 6 #[.agg #[.int .i64 r.way, .int .i64 r.pal.w, .int .i64 r.pal.d, .int .i64 r.pal.h, .int .i64 r.pal.gram, .int .i64 r.cls, .slice A1 n1 c1, .slice A2 n2 c2, .int .i64 r.master, .slice A3 n3 c3]] w fun e w' => e = .returned (.bool true) ∧ Below w.heap.size w w' := by
  have hq := hr.pr.len
  by_cases hsz : n1 + n2 + n3 ≤ 1048576
  · have hneg : ¬ ((1048576 : Int) - n1 - n2 - n3 < 0) := by omega
    go_enter Try.func6, Try.ntmps6
    go_wp2_with fail
    refine (szRequest_ok r A1 A2 A3 n1 n2 n3 c1 c2 c3 1048576 _ (by omega) (by omega) ⟨hr.pr.cap, hr.pr.max⟩ ⟨hr.ty.cap, hr.ty.max⟩ ⟨hr.it.cap, hr.it.max⟩).mono ?_
    rintro e w1 ⟨rfl, hb1⟩
    have D1 := hide (show Below w.heap.size w w1 from (by repeat (first | with_reducible exact Below.refl _ _ | with_reducible assumption | with_reducible refine Below.setCell ?_ (by (try simp) <;> omega) _ | with_reducible refine Below.alloc ?_ (by (try simp) <;> omega) _ | with_reducible refine Below.drew ?_ | with_reducible refine below_drewN ?_ _ | with_reducible exact hb1 | with_reducible refine Below.trans ?_ (Below.mono hb1 (by (try simp) <;> omega)))))
    have PR_1 := hide (Blk.belowH ((Blk.new w 28 (#[.int .i64 r.way, .int .i64 r.pal.w, .int .i64 r.pal.d, .int .i64 r.pal.h, .int .i64 r.pal.gram, .int .i64 r.cls, .slice A1 n1 c1, .slice A2 n2 c2, .int .i64 r.master, .slice A3 n3 c3]) (g := w.heap.size) (by simp))) hb1)
    have Z1 : w.heap.size + 1 ≤ w1.heap.size := by simpa using hb1.size
    have L1 := D1
    clear hb1 D1
    have kR_1 := PR_1.out.cell
    have yR_1 := PR_1.out.lt
    have HR_1 := hide (hr.below L1.out (Nat.le_refl _))
    clear hr
    go_wp2_with fail
    refine (toRequest_any r A1 A2 A3 n1 n2 n3 c1 c2 c3 0 w.heap.size _ HR_1.out (by omega) (by omega)).mono ?_
    rintro e w2 ⟨Aa1, Aa2, Aa3, rfl, ha, hb2⟩
    have D2 := hide (show Below w1.heap.size w1 w2 from (by repeat (first | with_reducible exact Below.refl _ _ | with_reducible assumption | with_reducible refine Below.setCell ?_ (by (try simp) <;> omega) _ | with_reducible refine Below.alloc ?_ (by (try simp) <;> omega) _ | with_reducible refine Below.drew ?_ | with_reducible refine below_drewN ?_ _ | with_reducible exact hb2 | with_reducible refine Below.trans ?_ (Below.mono hb2 (by (try simp) <;> omega)))))
    have PR_2 := hide (Blk.belowH (PR_1.out) hb2)
    have Z2 : w1.heap.size ≤ w2.heap.size := by simpa using hb2.size
    have L2 := hide (L1.out.trans (D2.out.mono (by omega)))
    have HR_2 := hide (HR_1.out.below D2.out (by omega))
    clear hb2 PR_1 kR_1 yR_1 L1 HR_1 D2
    have kR_2 := PR_2.out.cell
    have yR_2 := PR_2.out.lt
    have HA_2 := hide ha
    clear ha
    go_wp2_with fail
    refine (spresent_any r Aa1 Aa2 Aa3 n1 n2 n3 n1 n2 n3 w1.heap.size w2.heap.size _ HA_2.out (by omega)).mono ?_
    rintro e w3 ⟨v0, rfl, ho0, hb3⟩
    have D3 := hide (show Below w2.heap.size w2 w3 from (by repeat (first | with_reducible exact Below.refl _ _ | with_reducible assumption | with_reducible refine Below.setCell ?_ (by (try simp) <;> omega) _ | with_reducible refine Below.alloc ?_ (by (try simp) <;> omega) _ | with_reducible refine Below.drew ?_ | with_reducible refine below_drewN ?_ _ | with_reducible exact hb3 | with_reducible refine Below.trans ?_ (Below.mono hb3 (by (try simp) <;> omega)))))
    have PR_3 := hide (Blk.belowH (PR_2.out) hb3)
    have Z3 : w2.heap.size ≤ w3.heap.size := by simpa using hb3.size
    have L3 := hide (L2.out.trans (D3.out.mono (by omega)))
    have HR_3 := hide (HR_2.out.below D3.out (by omega))
    have HA_3 := hide (HA_2.out.below D3.out (by omega))
    clear hb3 PR_2 kR_2 yR_2 L2 HR_2 HA_2 D3
    have kR_3 := PR_3.out.cell
    have yR_3 := PR_3.out.lt
    obtain ⟨m, hm⟩ : ∃ m, (presR r).length = m := ⟨_, rfl⟩
    obtain ⟨A0, c0, rfl, s0⟩ := Own.slk' encInt_len hm ho0
    have HW_3 := hide s0
    have hm12 : m ≤ 1048576 := by have := presR_len r; omega
    have HM := hide hm
    clear ho0 s0 hm
    go_wp2_with fail
    refine (toRequest_any r A1 A2 A3 n1 n2 n3 c1 c2 c3 0 w.heap.size _ (HR_3.out.below (B := w3.heap.size) (by repeat (first | with_reducible exact Below.refl _ _ | with_reducible assumption | with_reducible refine Below.setCell ?_ (by (try simp) <;> omega) _ | with_reducible refine Below.alloc ?_ (by (try simp) <;> omega) _ | with_reducible refine Below.drew ?_ | with_reducible refine below_drewN ?_ _)) (by omega)) (by (try simp) <;> omega) (by omega)).mono ?_
    rintro e w4 ⟨Ab1, Ab2, Ab3, rfl, hb, hb4⟩
    have D4 := hide (show Below w3.heap.size w3 w4 from (by repeat (first | with_reducible exact Below.refl _ _ | with_reducible assumption | with_reducible refine Below.setCell ?_ (by (try simp) <;> omega) _ | with_reducible refine Below.alloc ?_ (by (try simp) <;> omega) _ | with_reducible refine Below.drew ?_ | with_reducible refine below_drewN ?_ _ | with_reducible exact hb4 | with_reducible refine Below.trans ?_ (Below.mono hb4 (by (try simp) <;> omega)))))
    have PR_4 := hide (Blk.belowH (PR_3.out) hb4)
    have Z4 : w3.heap.size ≤ w4.heap.size := by simpa using hb4.size
    have L4 := hide (L3.out.trans (D4.out.mono (by omega)))
    have HR_4 := hide (HR_3.out.below D4.out (by omega))
    have HA_4 := hide (HA_3.out.below D4.out (by omega))
    have HW_4 := hide (HW_3.out.below D4.out (by omega))
    clear hb4 PR_3 kR_3 yR_3 L3 HR_3 HA_3 HW_3 D4
    have kR_4 := PR_4.out.cell
    have yR_4 := PR_4.out.lt
    have HB_4 := hide (show RqAt w4 (w3.heap.size) w4.heap.size r Ab1 n1 n1 Ab2 n2 n2 Ab3 n3 n3 from by simpa only [World.size_alloc] using hb)
    clear hb
    go_wp2_with fail
    refine (present_any r Ab1 Ab2 Ab3 n1 n2 n3 n1 n2 n3 (w3.heap.size) w4.heap.size _ (HB_4.out.below (B := w4.heap.size) (by repeat (first | with_reducible exact Below.refl _ _ | with_reducible assumption | with_reducible refine Below.setCell ?_ (by (try simp) <;> omega) _ | with_reducible refine Below.alloc ?_ (by (try simp) <;> omega) _ | with_reducible refine Below.drew ?_ | with_reducible refine below_drewN ?_ _)) (by omega)) (by (try simp) <;> omega)).mono ?_
    rintro e w5 ⟨vg, rfl, hog, hb5⟩
    have D5 := hide (show Below w4.heap.size w4 w5 from (by repeat (first | with_reducible exact Below.refl _ _ | with_reducible assumption | with_reducible refine Below.setCell ?_ (by (try simp) <;> omega) _ | with_reducible refine Below.alloc ?_ (by (try simp) <;> omega) _ | with_reducible refine Below.drew ?_ | with_reducible refine below_drewN ?_ _ | with_reducible exact hb5 | with_reducible refine Below.trans ?_ (Below.mono hb5 (by (try simp) <;> omega)))))
    have PR_5 := hide (Blk.belowH (PR_4.out.alloc _) hb5)
    have PX_5 := hide (Blk.belowH ((Blk.new w4 39 (#[.int .i64 r.way, .int .i64 r.pal.w, .int .i64 r.pal.d, .int .i64 r.pal.h, .int .i64 r.pal.gram, .int .i64 r.cls, .slice Ab1 n1 n1, .slice Ab2 n2 n2, .int .i64 r.master, .slice Ab3 n3 n3]) (g := w4.heap.size) (by simp))) hb5)
    have Z5 : w4.heap.size + 1 ≤ w5.heap.size := by simpa using hb5.size
    have L5 := hide (L4.out.trans (D5.out.mono (by omega)))
    have HR_5 := hide (HR_4.out.below D5.out (by omega))
    have HA_5 := hide (HA_4.out.below D5.out (by omega))
    have HW_5 := hide (HW_4.out.below D5.out (by omega))
    have HB_5 := hide (HB_4.out.below D5.out (by omega))
    clear hb5 PR_4 kR_4 yR_4 L4 HR_4 HA_4 HW_4 HB_4 D5
    have kR_5 := PR_5.out.cell
    have yR_5 := PR_5.out.lt
    have kX_5 := PX_5.out.cell
    have yX_5 := PX_5.out.lt
    have hog2 : Own 1 encInt 3 w5 (w4.heap.size + 1) vg (presR r) := by simpa only [World.size_alloc] using hog
    obtain ⟨Ag, cg, rfl, sg⟩ := Own.slk' encInt_len HM.out hog2
    have HG_5 := hide hog2
    have HGS_5 := hide sg
    clear hog hog2 sg
    go_wp2_with fail
    refine (eqIntS_any (w4.heap.size + 1) w5.heap.size w2.heap.size w3.heap.size Ag A0 m cg c0 (presR r) _ HGS_5.out (by omega) HW_5.out (by omega)).mono ?_
    rintro e w6 ⟨rfl, hb6⟩
    have D6 := hide (show Below w5.heap.size w5 w6 from (by repeat (first | with_reducible exact Below.refl _ _ | with_reducible assumption | with_reducible refine Below.setCell ?_ (by (try simp) <;> omega) _ | with_reducible refine Below.alloc ?_ (by (try simp) <;> omega) _ | with_reducible refine Below.drew ?_ | with_reducible refine below_drewN ?_ _ | with_reducible exact hb6 | with_reducible refine Below.trans ?_ (Below.mono hb6 (by (try simp) <;> omega)))))
    have PR_6 := hide (Blk.belowH (PR_5.out) hb6)
    have PX_6 := hide (Blk.belowH (PX_5.out) hb6)
    have Z6 : w5.heap.size ≤ w6.heap.size := by simpa using hb6.size
    have L6 := hide (L5.out.trans (D6.out.mono (by omega)))
    have HR_6 := hide (HR_5.out.below D6.out (by omega))
    have HA_6 := hide (HA_5.out.below D6.out (by omega))
    have HW_6 := hide (HW_5.out.below D6.out (by omega))
    have HB_6 := hide (HB_5.out.below D6.out (by omega))
    have HGS_6 := hide (HGS_5.out.below D6.out (by omega))
    have HG_6 := hide (HG_5.out.below D6.out)
    clear HG_5
    clear hb6 PR_5 kR_5 yR_5 PX_5 kX_5 yX_5 L5 HR_5 HA_5 HW_5 HB_5 HGS_5 D6
    have kR_6 := PR_6.out.cell
    have yR_6 := PR_6.out.lt
    have kX_6 := PX_6.out.cell
    have yX_6 := PX_6.out.lt
    go_wp2_with fail
    go_region_held3 (fun w' => w'.cell? ⟨w4.heap.size, 0, none⟩ = some (.int .i64 r.way) ∧ w'.cell? ⟨w4.heap.size, 1, none⟩ = some (.int .i64 r.pal.w) ∧ w'.cell? ⟨w4.heap.size, 2, none⟩ = some (.int .i64 r.pal.d) ∧ w'.cell? ⟨w4.heap.size, 3, none⟩ = some (.int .i64 r.pal.h) ∧ w'.cell? ⟨w4.heap.size, 4, none⟩ = some (.int .i64 r.pal.gram) ∧ w'.cell? ⟨w4.heap.size, 5, none⟩ = some (.int .i64 r.cls) ∧ w'.cell? ⟨w4.heap.size, 6, none⟩ = some (.slice Ab1 n1 n1) ∧ w'.cell? ⟨w4.heap.size, 7, none⟩ = some (.slice Ab2 n2 n2) ∧ w'.cell? ⟨w4.heap.size, 8, none⟩ = some (.int .i64 r.master) ∧ w'.cell? ⟨w4.heap.size, 9, none⟩ = some (.slice Ab3 n3 n3) ∧ w'.cell? ⟨w.heap.size, 0, none⟩ = some (.int .i64 r.way) ∧ w'.cell? ⟨w.heap.size, 1, none⟩ = some (.int .i64 r.pal.w) ∧ w'.cell? ⟨w.heap.size, 2, none⟩ = some (.int .i64 r.pal.d) ∧ w'.cell? ⟨w.heap.size, 3, none⟩ = some (.int .i64 r.pal.h) ∧ w'.cell? ⟨w.heap.size, 4, none⟩ = some (.int .i64 r.pal.gram) ∧ w'.cell? ⟨w.heap.size, 5, none⟩ = some (.int .i64 r.cls) ∧ w'.cell? ⟨w.heap.size, 6, none⟩ = some (.slice A1 n1 c1) ∧ w'.cell? ⟨w.heap.size, 7, none⟩ = some (.slice A2 n2 c2) ∧ w'.cell? ⟨w.heap.size, 8, none⟩ = some (.int .i64 r.master) ∧ w'.cell? ⟨w.heap.size, 9, none⟩ = some (.slice A3 n3 c3)) (go_keep) (first | (go_at_call 10; refine (toRequest_any r A1 A2 A3 n1 n2 n3 c1 c2 c3 0 w.heap.size _ HR_6.out.drew (by (try simp) <;> omega) (by omega)).mono ?_; rintro e w7 ⟨Ae1, Ae2, Ae3, rfl, hc, hb7⟩; have hcc := bcellD hb7; have y7 : w6.heap.size ≤ w7.heap.size := (by simpa using hb7.size); have yR7 : w.heap.size < w7.heap.size := (by omega); have yX7 : w4.heap.size < w7.heap.size := (by omega)) | (go_at_call 13; refine (eqRequest_any r Ab1 Ab2 Ab3 n1 n2 n3 n1 n2 n3 Ae1 Ae2 Ae3 n1 n2 n3 n1 n2 n3 (w3.heap.size) w4.heap.size _ w7.heap.size _ (HB_6.out.drew.below hb7 (by (try simp) <;> omega)) (by omega) hc (Nat.le_refl _)).mono ?_; rintro e w8 ⟨rfl, hb8⟩; have hcc8 := (bcell hb8).1))
    have hz8 : w6.heap.size ≤ w8.heap.size := Nat.le_trans y7 hb8.size
    have HR_8 := hide ((HR_6.out.drew.below hb7 (by (try simp) <;> omega)).below hb8 (by omega))
    have HB_8 := hide ((HB_6.out.drew.below hb7 (by (try simp) <;> omega)).below hb8 (by omega))
    have HW_8 := hide ((HW_6.out.drew.below hb7 (by (try simp) <;> omega)).below hb8 (by omega))
    have HG_8 := hide ((HG_6.out.drew.below hb7).below hb8)
    have PR_8 := hide ((PR_6.out.drew.belowH hb7).belowH hb8)
    have PX_8 := hide ((PX_6.out.drew.belowH hb7).belowH hb8)
    have LL_8 := hide (show Below w.heap.size w w8 from (L6.out.drew.trans (hb7.mono (by (try simp) <;> omega))).trans (hb8.mono (by omega)))
    clear hcc hcc8 hb7 hb8 hc kR_6 yR_6 kX_6 yX_6 yR7 yX7
    have kX := PX_8.out.cell
    have yX := PX_8.out.lt
    go_wp2_with fail
    refine (markRequest_any r Ab1 Ab2 Ab3 n1 n2 n3 n1 n2 n3 (w3.heap.size) w4.heap.size _ HB_8.out (by omega) (by omega)).mono ?_
    rintro e w9 ⟨rfl, hmk⟩
    have hsa : w9.heap.size = w8.heap.size + 1 := by rw [hmk.size]; simp
    have HR_9 := hide (hmk.rq (HR_8.out.alloc (by omega) _) (.inl (by omega)))
    have HW_9 := hide (hmk.slk (HW_8.out.alloc (by omega) _) (.inl (by omega)))
    have HG_9 := hide (hmk.own (HG_8.out.alloc _) (by omega))
    have PR_9 := hide (hmk.blk (PR_8.out.alloc _) (.inl (by omega)))
    have LL_9 := hide (MkB.below (B := w.heap.size) (a := w) (by repeat (first | with_reducible exact Below.refl _ _ | with_reducible assumption | with_reducible refine Below.setCell ?_ (by (try simp) <;> omega) _ | with_reducible refine Below.alloc ?_ (by (try simp) <;> omega) _ | with_reducible refine Below.drew ?_ | with_reducible refine below_drewN ?_ _ | with_reducible exact LL_8.out | with_reducible refine Below.trans ?_ (Below.mono LL_8.out (by (try simp) <;> omega)))) hmk (by omega))
    clear hmk kX yX
    have kR := PR_9.out.cell
    have yR := PR_9.out.lt
    obtain ⟨_, _, eg, sg⟩ := Own.slk' encInt_len HM.out HG_9.out
    injection eg with e1 _ e3
    subst e1 e3
    have SG := hide sg
    clear sg
    have hkk : ¬ ((1 : Int) + 2 * n1 + 7 * n2 + 7 * n3 < 0) := by omega
    have hkk2 : (0 : Int) ≤ 1 + 2 * n1 + 7 * n2 + 7 * n3 := by omega
    go_wp2_with fail
    refine (eqIntS_any (w4.heap.size + 1) w9.heap.size w2.heap.size w3.heap.size Ag A0 m cg c0 (presR r) _ SG.out (Nat.le_refl _) HW_9.out (by omega)).mono ?_
    rintro e w10 ⟨rfl, hb10⟩
    have HR_10 := hide (HR_9.out.below hb10 (by omega))
    have HW_10 := hide (HW_9.out.below hb10 (by omega))
    have HG_10 := hide (HG_9.out.below hb10)
    have PR_10 := hide (PR_9.out.belowH hb10)
    have LL_10 := hide (LL_9.out.trans (hb10.mono (by omega)))
    have z10 := hb10.size
    clear hb10 kR yR SG
    have kR := PR_10.out.cell
    have yR := PR_10.out.lt
    go_wp2_with fail
    refine (markIntS_own 1 (w4.heap.size + 1) _ (presR r) _ HG_10.out (by rw [HM.out]; exact hm12) (by omega) (by omega)).mono ?_
    rw [HM.out]
    rintro e w11 ⟨rfl, hog, hgr⟩
    have hne : ∀ x, (Value.slice Ag m cg).ownBlock = some x → w4.heap.size + 1 ≤ x := fun x hx => (HG_10.out.lt x hx).1
    have HR_11 := hide (HR_10.out.grown hgr (by omega) (fun x hx => .inr (by have := hne x hx; omega)))
    have HW_11 := hide (HW_10.out.grown hgr (by omega) (fun x hx => .inr (by have := hne x hx; omega)))
    have PR_11 := hide (PR_10.out.grown hgr (fun e => by have := hne _ e.symm; omega))
    have LL_11 := hide (LL_10.out.grown hgr (by omega) (fun x hx => by have := hne x hx; omega))
    have HG_11 := hide hog
    have z11 : w10.heap.size ≤ w11.heap.size := hgr.size
    obtain ⟨_, _, eg, sg⟩ := Own.slk' encInt_len (marks_len 1 m) hog
    injection eg with e1 _ e3
    subst e1 e3
    have SG := hide sg
    clear hog hgr sg kR yR hne
    have kR := PR_11.out.cell
    have yR := PR_11.out.lt
    have hq1 : ¬ ((1 : Int) + m < 0) := by omega
    go_wp2_with fail
    refine (heldIntS_any 1 _ _ Ag m cg _ SG.out hm12 (by omega) (by omega)).mono ?_
    rintro e w' ⟨rfl, rfl⟩
    go_wp2_with fail
    refine (toRequest_any r A1 A2 A3 n1 n2 n3 c1 c2 c3 0 w.heap.size _ HR_11.out (by omega) (by omega)).mono ?_
    rintro e w12 ⟨Ah1, Ah2, Ah3, rfl, hh, hb12⟩
    have HH := hide hh
    have HW_12 := hide (HW_11.out.below hb12 (by omega))
    have HG_12 := hide (HG_11.out.below hb12)
    have LL_12 := hide (LL_11.out.trans (hb12.mono (by omega)))
    have z12 := hb12.size
    clear hh hb12 kR yR SG
    go_wp2_with fail
    refine (present_any r Ah1 Ah2 Ah3 n1 n2 n3 n1 n2 n3 w11.heap.size w12.heap.size _ HH.out (Nat.le_refl _)).mono ?_
    rintro e w13 ⟨vh, rfl, hoh, hb13⟩
    have HW_13 := hide (HW_12.out.below hb13 (by omega))
    have HG_13 := hide (HG_12.out.below hb13)
    have LL_13 := hide (LL_12.out.trans (hb13.mono (by omega)))
    have z13 := hb13.size
    obtain ⟨Ah, ch, rfl, sh⟩ := Own.slk' encInt_len HM.out hoh
    have SH := hide sh
    clear hoh hb13 sh
    go_wp2_with fail
    refine (eqIntS_any w12.heap.size w13.heap.size w2.heap.size w3.heap.size Ah A0 m ch c0 (presR r) _ SH.out (Nat.le_refl _) HW_13.out (by omega)).mono ?_
    rintro e w14 ⟨rfl, hb14⟩
    have HG_14 := hide (HG_13.out.below hb14)
    have LL_14 := hide (LL_13.out.trans (hb14.mono (by omega)))
    clear hb14
    obtain ⟨_, _, eg, sg⟩ := Own.slk' encInt_len (marks_len 1 m) HG_14.out
    injection eg with e1 _ e3
    subst e1 e3
    have SG := hide sg
    clear sg
    go_wp2_with fail
    refine (heldIntS_any 1 _ _ Ag m cg _ SG.out hm12 (by omega) (by omega)).mono ?_
    rintro e w' ⟨rfl, rfl⟩
    go_wp2
    go_ret
    exact ⟨rfl, LL_14.out⟩
  · go_enter Try.func6, Try.ntmps6
    go_wp2_with fail
    refine (szRequest_no r A1 A2 A3 n1 n2 n3 c1 c2 c3 1048576 _ (by omega) (by omega) (by omega) ⟨hr.pr.cap, hr.pr.max⟩ ⟨hr.ty.cap, hr.ty.max⟩ ⟨hr.it.cap, hr.it.max⟩).mono ?_
    rintro e w1 ⟨rfl, hb1⟩
    go_wp2
    go_ret
    exact ⟨rfl, (by repeat (first | with_reducible exact Below.refl _ _ | with_reducible assumption | with_reducible refine Below.setCell ?_ (by (try simp) <;> omega) _ | with_reducible refine Below.alloc ?_ (by (try simp) <;> omega) _ | with_reducible refine Below.drew ?_ | with_reducible refine below_drewN ?_ _ | with_reducible exact hb1 | with_reducible refine Below.trans ?_ (Below.mono hb1 (by (try simp) <;> omega))))⟩
set_option maxRecDepth 100000 in
set_option maxHeartbeats 1000000 in
theorem lifted (os : Os) (started : os.Started) (H : Type) (enc : TypeId × Value → H) :
    ReturnsInHanded {} Try.checked os 6 .any (Rows.fnExactPresentSpec.pre6 enc Try.prog Try.f6 Rows.fnExactPresentRow.domain false) (Rows.fnExactPresentSpec.post enc Try.prog Try.f6 false true false false) := by
  refine returnsInHanded_of_change (C := Try.checked) ownK started (by kernel_rfl) Try.func6
    (ChangeSpec.witness6 (enc := enc) (C := Try.checked) false ⟨#[], #[.agg #[.int .i64 0, .int .i64 0, .int .i64 0, .int .i64 0, .int .i64 0, .int .i64 0, .slice none 0 0, .slice none 0 0, .int .i64 0, .slice none 0 0]], []⟩ 8 (by kernel_rfl) (by kernel_rfl) (by kernel_rfl) (by kernel_rfl)) ?_
  intro W base args ds gs before hval0 hW hcnd _
  have hval : ∀ (j : Nat) t v, Try.f6.params[j]? = some t → args[j]? = some v → Value.okWide Try.prog W .any base t v := hval0
  have hW' := hW
  obtain ⟨p, q, hA0, hV, rfl, hfz, hnd⟩ := hW
  have hA : DataW.TrodAll enc Try.prog W 0 (fun _ => true) true Try.f6.params.toList args.toList ds p := hA0
  have hV' := hV
  obtain ⟨rfl, rfl⟩ := trodVars_none hV'
  rw [Try.params6] at hA hval
  obtain ⟨v0, vs0, d0, ds0, p0, q0, hargs, rfl, rfl, h0, r0⟩ := trodAll_cons hA
  obtain ⟨rfl, rfl, rfl⟩ := trodAll_nil r0
  obtain rfl : args = #[v0] := by cases args; simp_all
  have hz0 : W.noneFrozen p0 := fun b off hin => hfz b off (by simp [hin])
  obtain ⟨r, A1, n1, c1, A2, n2, c2, A3, n3, c3, rfl, hr⟩ := openRq (hval 0 28 v0 rfl rfl) h0 hz0
  refine (walk r A1 A2 A3 n1 n2 n3 c1 c2 c3 W hr).mono fun e W' ⟨he, hb⟩ => ?_
  subst he
  exact ⟨_, rfl, law_post laidO (by intro t ht; rw [Try.params6] at ht; simp only [List.mem_cons, List.not_mem_nil, or_false] at ht; subst ht; exact ⟨by kernel_rfl, of_decide_eq_true (by kernel_rfl)⟩) rfl (by kernel_rfl) Try.underlying4 hW' rfl hb⟩

theorem over : Rows.fnExactPresentRow.holds Try.pinned (OpenSpec.ofChange Rows.fnExactPresentSpec) :=
  OpenClaim.holds_of_wide 6 Try.f6 rfl rfl rfl rfl rfl rfl rfl ⟨rfl, rfl, rfl, rfl, rfl⟩ rfl rfl rfl rfl rfl (by kernel_rfl) Try.func6 (by kernel_rfl)
    (of_decide_eq_true (by kernel_rfl)) (by unfold Func.isWrapper; first | (rw [if_pos (by decide +kernel)]; kernel_rfl) | (rw [if_neg (by decide +kernel)]; exact ⟨rfl, rfl⟩))
    (fun os started H enc _ => lifted os started H enc)

theorem proved : Rows.FnExactPresentSaid :=
  over
#print axioms proved
end Go.Proofs.Ytbgcljpoiajcjaa.fnExactPresent
