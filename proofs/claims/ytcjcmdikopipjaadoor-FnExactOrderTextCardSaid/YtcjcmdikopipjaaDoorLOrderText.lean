/- The law FnExactOrderText holds for every input: the call answers true, and each argument reads afterwards as it read before. -/
import Derived.Test.YtcjcmdikopipjaaDoorOtt
import Derived.Test.YtcjcmdikopipjaaDoorOtt2
import Derived.Test.YtcjcmdikopipjaaDoorRw
import Derived.Test.YtcjcmdikopipjaaDoorS2
import Derived.Test.YtcjcmdikopipjaaDoorTie
import Derived.Test.YtcjcmdikopipjaaDoorCards
import Derived.SevenTiedAt
import Derived.LaidMore
import Derived.LaidHandle
import Derived.ProofKit
namespace Go.Proofs.YtcjcmdikopipjaaDoor.fnExactOrderText
open Go.ChangeShapes Go.WideShapes Go.ChangeAt Go.RowKit Go.Deep
open Go.ChangeMaps (open_string)
set_option linter.unusedVariables false
set_option linter.unusedSimpArgs false

open Go.Joins

set_option maxRecDepth 20000 in
set_option maxHeartbeats 4000000 in
theorem walk (r : Rq) (A1 A2 A3 : Option Addr) (n1 n2 n3 c1 c2 c3 : Nat) (w : World) (hr : RqAt w 0 w.heap.size r A1 n1 c1 A2 n2 c2 A3 n3 c3) (htab : Lib.TabIs Tryd.prog w "internal/strconv.uint64pow10" .u64 Lib.pow10Tab) :
    Calls Tryd.prog 5 #[.agg #[.int .i64 r.way, .int .i64 r.pal.w, .int .i64 r.pal.d, .int .i64 r.pal.h, .int .i64 r.pal.gram, .int .i64 r.cls, .slice A1 n1 c1, .slice A2 n2 c2, .int .i64 r.master, .slice A3 n3 c3]] w fun e w' => e = .returned (.bool true) ∧ Below w.heap.size w w' := by
  have HT := hide htab
  clear htab
  have hq := hr.pr.len
  by_cases hsz : n1 + n2 + n3 ≤ 1048576
  · have hneg : ¬ ((1048576 : Int) - n1 - n2 - n3 < 0) := by omega
    go_enter Tryd.func5, Tryd.ntmps5
    go_wp2_with fail
    refine (szRequest_ok r A1 A2 A3 n1 n2 n3 c1 c2 c3 1048576 _ (by omega) (by omega) ⟨hr.pr.cap, hr.pr.max⟩ ⟨hr.ty.cap, hr.ty.max⟩ ⟨hr.it.cap, hr.it.max⟩).mono ?_
    rintro e w1 ⟨rfl, hb1⟩
    have D1 := hide (show Below w.heap.size w w1 from (by repeat (first | with_reducible exact Below.refl _ _ | with_reducible assumption | with_reducible refine Below.setCell ?_ (by (try simp) <;> omega) _ | with_reducible refine Below.alloc ?_ (by (try simp) <;> omega) _ | with_reducible refine Below.drew ?_ | with_reducible refine below_drewN ?_ _ | with_reducible exact hb1 | with_reducible refine Below.trans ?_ (Below.mono hb1 (by (try simp) <;> omega)))))
    have PR_1 := hide (Blk.belowH ((Blk.new w 33 (#[.int .i64 r.way, .int .i64 r.pal.w, .int .i64 r.pal.d, .int .i64 r.pal.h, .int .i64 r.pal.gram, .int .i64 r.cls, .slice A1 n1 c1, .slice A2 n2 c2, .int .i64 r.master, .slice A3 n3 c3]) (g := w.heap.size) (by simp))) hb1)
    have Z1 : w.heap.size + 1 ≤ w1.heap.size := by simpa using hb1.size
    have L1 := D1
    clear hb1 D1
    have kR_1 := PR_1.out.cell
    have yR_1 := PR_1.out.lt
    have HR_1 := hide (hr.below L1.out (Nat.le_refl _))
    clear hr
    go_wp2_with fail
    refine (toRequest_any r A1 A2 A3 n1 n2 n3 c1 c2 c3 0 w.heap.size _ HR_1.out (by omega) (by omega)).mono ?_
    rintro e w2 ⟨Aa1, Aa2, Aa3, rfl, ha, hb2⟩
    have D2 := hide (show Below w1.heap.size w1 w2 from (by repeat (first | with_reducible exact Below.refl _ _ | with_reducible assumption | with_reducible refine Below.setCell ?_ (by (try simp) <;> omega) _ | with_reducible refine Below.alloc ?_ (by (try simp) <;> omega) _ | with_reducible refine Below.drew ?_ | with_reducible refine below_drewN ?_ _ | with_reducible exact hb2 | with_reducible refine Below.trans ?_ (Below.mono hb2 (by (try simp) <;> omega)))))
    have PR_2 := hide (Blk.belowH (PR_1.out) hb2)
    have Z2 : w1.heap.size ≤ w2.heap.size := by simpa using hb2.size
    have L2 := hide (L1.out.trans (D2.out.mono (by omega)))
    have HR_2 := hide (HR_1.out.below D2.out (by omega))
    clear hb2 PR_1 kR_1 yR_1 L1 HR_1 D2
    have kR_2 := PR_2.out.cell
    have yR_2 := PR_2.out.lt
    have HA_2 := hide ha
    clear ha
    go_wp2_with fail
    refine (sorderText_any r Aa1 Aa2 Aa3 n1 n2 n3 n1 n2 n3 w1.heap.size w2.heap.size _ HA_2.out (by omega) (by omega)).mono ?_
    rintro e w3 ⟨rfl, hb3⟩
    have D3 := hide (show Below w2.heap.size w2 w3 from (by repeat (first | with_reducible exact Below.refl _ _ | with_reducible assumption | with_reducible refine Below.setCell ?_ (by (try simp) <;> omega) _ | with_reducible refine Below.alloc ?_ (by (try simp) <;> omega) _ | with_reducible refine Below.drew ?_ | with_reducible refine below_drewN ?_ _ | with_reducible exact hb3 | with_reducible refine Below.trans ?_ (Below.mono hb3 (by (try simp) <;> omega)))))
    have PR_3 := hide (Blk.belowH (PR_2.out) hb3)
    have Z3 : w2.heap.size ≤ w3.heap.size := by simpa using hb3.size
    have L3 := hide (L2.out.trans (D3.out.mono (by omega)))
    have HR_3 := hide (HR_2.out.below D3.out (by omega))
    have HA_3 := hide (HA_2.out.below D3.out (by omega))
    clear hb3 PR_2 kR_2 yR_2 L2 HR_2 HA_2 D3
    have kR_3 := PR_3.out.cell
    have yR_3 := PR_3.out.lt
    go_wp2_with fail
    refine (toRequest_any r A1 A2 A3 n1 n2 n3 c1 c2 c3 0 w.heap.size _ (HR_3.out.below (B := w3.heap.size) (by repeat (first | with_reducible exact Below.refl _ _ | with_reducible assumption | with_reducible refine Below.setCell ?_ (by (try simp) <;> omega) _ | with_reducible refine Below.alloc ?_ (by (try simp) <;> omega) _ | with_reducible refine Below.drew ?_ | with_reducible refine below_drewN ?_ _)) (by omega)) (by (try simp) <;> omega) (by omega)).mono ?_
    rintro e w4 ⟨Ab1, Ab2, Ab3, rfl, hb, hb4⟩
    have D4 := hide (show Below w3.heap.size w3 w4 from (by repeat (first | with_reducible exact Below.refl _ _ | with_reducible assumption | with_reducible refine Below.setCell ?_ (by (try simp) <;> omega) _ | with_reducible refine Below.alloc ?_ (by (try simp) <;> omega) _ | with_reducible refine Below.drew ?_ | with_reducible refine below_drewN ?_ _ | with_reducible exact hb4 | with_reducible refine Below.trans ?_ (Below.mono hb4 (by (try simp) <;> omega)))))
    have PR_4 := hide (Blk.belowH (PR_3.out) hb4)
    have Z4 : w3.heap.size ≤ w4.heap.size := by simpa using hb4.size
    have L4 := hide (L3.out.trans (D4.out.mono (by omega)))
    have HR_4 := hide (HR_3.out.below D4.out (by omega))
    have HA_4 := hide (HA_3.out.below D4.out (by omega))
    clear hb4 PR_3 kR_3 yR_3 L3 HR_3 HA_3 D4
    have kR_4 := PR_4.out.cell
    have yR_4 := PR_4.out.lt
    have HB_4 := hide (show RqAt w4 (w3.heap.size) w4.heap.size r Ab1 n1 n1 Ab2 n2 n2 Ab3 n3 n3 from by simpa only [World.size_alloc] using hb)
    clear hb
    go_wp2_with fail
    refine (orderText_any r Ab1 Ab2 Ab3 n1 n2 n3 n1 n2 n3 (w3.heap.size) w4.heap.size _ (HB_4.out.below (B := w4.heap.size) (by repeat (first | with_reducible exact Below.refl _ _ | with_reducible assumption | with_reducible refine Below.setCell ?_ (by (try simp) <;> omega) _ | with_reducible refine Below.alloc ?_ (by (try simp) <;> omega) _ | with_reducible refine Below.drew ?_ | with_reducible refine below_drewN ?_ _)) (by omega)) (by (try simp) <;> omega) (by omega) (tab_stays gPow HT.out (show Below w.heap.size w _ from (by repeat (first | with_reducible exact Below.refl _ _ | with_reducible assumption | with_reducible refine Below.setCell ?_ (by (try simp) <;> omega) _ | with_reducible refine Below.alloc ?_ (by (try simp) <;> omega) _ | with_reducible refine Below.drew ?_ | with_reducible refine below_drewN ?_ _ | with_reducible exact L4.out | with_reducible refine Below.trans ?_ (Below.mono L4.out (by (try simp) <;> omega))))) (Nat.le_refl _))).mono ?_
    rintro e w5 ⟨rfl, hb5⟩
    have D5 := hide (show Below w4.heap.size w4 w5 from (by repeat (first | with_reducible exact Below.refl _ _ | with_reducible assumption | with_reducible refine Below.setCell ?_ (by (try simp) <;> omega) _ | with_reducible refine Below.alloc ?_ (by (try simp) <;> omega) _ | with_reducible refine Below.drew ?_ | with_reducible refine below_drewN ?_ _ | with_reducible exact hb5 | with_reducible refine Below.trans ?_ (Below.mono hb5 (by (try simp) <;> omega)))))
    have PR_5 := hide (Blk.belowH (PR_4.out.alloc _) hb5)
    have PX_5 := hide (Blk.belowH ((Blk.new w4 41 (#[.int .i64 r.way, .int .i64 r.pal.w, .int .i64 r.pal.d, .int .i64 r.pal.h, .int .i64 r.pal.gram, .int .i64 r.cls, .slice Ab1 n1 n1, .slice Ab2 n2 n2, .int .i64 r.master, .slice Ab3 n3 n3]) (g := w4.heap.size) (by simp))) hb5)
    have Z5 : w4.heap.size + 1 ≤ w5.heap.size := by simpa using hb5.size
    have L5 := hide (L4.out.trans (D5.out.mono (by omega)))
    have HR_5 := hide (HR_4.out.below D5.out (by omega))
    have HA_5 := hide (HA_4.out.below D5.out (by omega))
    have HB_5 := hide (HB_4.out.below D5.out (by omega))
    clear hb5 PR_4 kR_4 yR_4 L4 HR_4 HA_4 HB_4 D5
    have kR_5 := PR_5.out.cell
    have yR_5 := PR_5.out.lt
    have kX_5 := PX_5.out.cell
    have yX_5 := PX_5.out.lt
    go_wp2_with fail
    go_region_held3 (fun w' => w'.cell? ⟨w4.heap.size, 0, none⟩ = some (.int .i64 r.way) ∧ w'.cell? ⟨w4.heap.size, 1, none⟩ = some (.int .i64 r.pal.w) ∧ w'.cell? ⟨w4.heap.size, 2, none⟩ = some (.int .i64 r.pal.d) ∧ w'.cell? ⟨w4.heap.size, 3, none⟩ = some (.int .i64 r.pal.h) ∧ w'.cell? ⟨w4.heap.size, 4, none⟩ = some (.int .i64 r.pal.gram) ∧ w'.cell? ⟨w4.heap.size, 5, none⟩ = some (.int .i64 r.cls) ∧ w'.cell? ⟨w4.heap.size, 6, none⟩ = some (.slice Ab1 n1 n1) ∧ w'.cell? ⟨w4.heap.size, 7, none⟩ = some (.slice Ab2 n2 n2) ∧ w'.cell? ⟨w4.heap.size, 8, none⟩ = some (.int .i64 r.master) ∧ w'.cell? ⟨w4.heap.size, 9, none⟩ = some (.slice Ab3 n3 n3) ∧ w'.cell? ⟨w.heap.size, 0, none⟩ = some (.int .i64 r.way) ∧ w'.cell? ⟨w.heap.size, 1, none⟩ = some (.int .i64 r.pal.w) ∧ w'.cell? ⟨w.heap.size, 2, none⟩ = some (.int .i64 r.pal.d) ∧ w'.cell? ⟨w.heap.size, 3, none⟩ = some (.int .i64 r.pal.h) ∧ w'.cell? ⟨w.heap.size, 4, none⟩ = some (.int .i64 r.pal.gram) ∧ w'.cell? ⟨w.heap.size, 5, none⟩ = some (.int .i64 r.cls) ∧ w'.cell? ⟨w.heap.size, 6, none⟩ = some (.slice A1 n1 c1) ∧ w'.cell? ⟨w.heap.size, 7, none⟩ = some (.slice A2 n2 c2) ∧ w'.cell? ⟨w.heap.size, 8, none⟩ = some (.int .i64 r.master) ∧ w'.cell? ⟨w.heap.size, 9, none⟩ = some (.slice A3 n3 c3)) (go_keep) (first | (go_at_call 16; refine (toRequest_any r A1 A2 A3 n1 n2 n3 c1 c2 c3 0 w.heap.size _ HR_5.out.drew (by (try simp) <;> omega) (by omega)).mono ?_; rintro e w6 ⟨Ac1, Ac2, Ac3, rfl, hc, hb6⟩; have hcc := bcellD hb6; have y6 : w5.heap.size ≤ w6.heap.size := (by simpa using hb6.size); have yR6 : w.heap.size < w6.heap.size := (by omega); have yX6 : w4.heap.size < w6.heap.size := (by omega)) | (go_at_call 18; refine (eqRequest_any r Ab1 Ab2 Ab3 n1 n2 n3 n1 n2 n3 Ac1 Ac2 Ac3 n1 n2 n3 n1 n2 n3 (w3.heap.size) w4.heap.size _ w6.heap.size _ (HB_5.out.drew.below hb6 (by (try simp) <;> omega)) (by omega) hc (Nat.le_refl _)).mono ?_; rintro e w7 ⟨rfl, hb7⟩; have hcc7 := (bcell hb7).1))
    go_wp2
    go_ret
    exact ⟨rfl, (L5.out.drew.trans (hb6.mono (by (try simp) <;> omega))).trans (hb7.mono (by omega))⟩
  · go_enter Tryd.func5, Tryd.ntmps5
    go_wp2_with fail
    refine (szRequest_no r A1 A2 A3 n1 n2 n3 c1 c2 c3 1048576 _ (by omega) (by omega) (by omega) ⟨hr.pr.cap, hr.pr.max⟩ ⟨hr.ty.cap, hr.ty.max⟩ ⟨hr.it.cap, hr.it.max⟩).mono ?_
    rintro e w1 ⟨rfl, hb1⟩
    go_wp2
    go_ret
    exact ⟨rfl, (by repeat (first | with_reducible exact Below.refl _ _ | with_reducible assumption | with_reducible refine Below.setCell ?_ (by (try simp) <;> omega) _ | with_reducible refine Below.alloc ?_ (by (try simp) <;> omega) _ | with_reducible refine Below.drew ?_ | with_reducible refine below_drewN ?_ _ | with_reducible exact hb1 | with_reducible refine Below.trans ?_ (Below.mono hb1 (by (try simp) <;> omega))))⟩
/-- The door's own heap meets the condition. -/
theorem door_met (os : Os) (args : Array Value) : laidMetH Tryd.prog Rows.fnExactOrderTextRow.laid ((World.doorLaid Tryd.prog 62 os).forCall (fun _ _ => 0) ⟨#[], args, []⟩).memory :=
  laidMetH_of_parts3 (fuel := 8) (laidMet_of_run' 8 (by kernel_rfl) (by kernel_rfl)) (by kernel_rfl) (by kernel_rfl)
theorem met_plain {W : World} (h : laidMetH Tryd.prog Rows.fnExactOrderTextRow.laid W) : laidMet Tryd.prog Rows.fnExactOrderTextRow.laid W := by
  rw [MakeChecks.laidMetH_plain _ _ _ (by kernel_rfl)] at h
  exact h
theorem tab_of_laid {W : World} (h : laidMetH Tryd.prog Rows.fnExactOrderTextRow.laid W) : Lib.TabIs Tryd.prog W "internal/strconv.uint64pow10" .u64 Lib.pow10Tab :=
  Lib.tabIs_of_head gPow gPowTy Tryd.underlying160 Tryd.underlying143 cU64 cPow (met_plain h).tail.tail
set_option maxRecDepth 100000 in
set_option maxHeartbeats 1000000 in
theorem lifted (os : Os) (started : os.Started) (H : Type) (enc : TypeId × Value → H) :
    ReturnsInHanded {} Tryd.checked os 5 .any (fun w args => (Rows.fnExactOrderTextSpec.pre enc Tryd.prog Tryd.f5 [] false w args ∧ laidMetH Tryd.prog Rows.fnExactOrderTextRow.laid w) ∧ sizedMet enc Tryd.prog Tryd.f5 (OpenSpec.ofChange Rows.fnExactOrderTextSpec) false w args) (Rows.fnExactOrderTextSpec.post enc Tryd.prog Tryd.f5 false true false false) := by
  refine returnsInHanded_of_change_and (C := Tryd.checked) (X := fun w _ => laidMetH Tryd.prog Rows.fnExactOrderTextRow.laid w) (fun _ _ _ hh h => h.of_heap hh) ownK started (by kernel_rfl) Tryd.func5
    (ChangeSpec.witness_shaped (enc := enc) (C := Tryd.checked) (os := os) (X := fun w _ => laidMetH Tryd.prog Rows.fnExactOrderTextRow.laid w) false (World.doorLaid Tryd.prog 62 os) #[.agg #[.int .i64 0, .int .i64 0, .int .i64 0, .int .i64 0, .int .i64 0, .int .i64 0, .slice none 0 0, .slice none 0 0, .int .i64 0, .slice none 0 0]] 8 rfl (World.shaped_of_RefB (by kernel_rfl) (by kernel_rfl)) (by kernel_rfl) (by kernel_rfl) (by kernel_rfl) (door_met os _)) ?_
  intro W base args ds gs before hval0 hW _ _ hL _
  have hval : ∀ (j : Nat) t v, Tryd.f5.params[j]? = some t → args[j]? = some v → Value.okWide Tryd.prog W .any base t v := hval0
  have hW' := hW
  obtain ⟨p, q, hA0, hV, rfl, hfz, hnd⟩ := hW
  have hA : DataW.TrodAll enc Tryd.prog W 0 (fun _ => true) true Tryd.f5.params.toList args.toList ds p := hA0
  have hV' := hV
  obtain ⟨rfl, rfl⟩ := trodVars_none hV'
  rw [Tryd.params5] at hA hval
  obtain ⟨v0, vs0, d0, ds0, p0, q0, hargs, rfl, rfl, h0, r0⟩ := trodAll_cons hA
  obtain ⟨rfl, rfl, rfl⟩ := trodAll_nil r0
  obtain rfl : args = #[v0] := by cases args; simp_all
  have hz0 : W.noneFrozen p0 := fun b off hin => hfz b off (by simp [hin])
  obtain ⟨r, A1, n1, c1, A2, n2, c2, A3, n3, c3, rfl, hr⟩ := openRq (hval 0 33 v0 rfl rfl) h0 hz0
  refine (walk r A1 A2 A3 n1 n2 n3 c1 c2 c3 W hr (tab_of_laid hL)).mono fun e W' ⟨he, hb⟩ => ?_
  subst he
  exact ⟨_, rfl, law_post laidO (by intro t ht; rw [Tryd.params5] at ht; simp only [List.mem_cons, List.not_mem_nil, or_false] at ht; subst ht; exact ⟨by kernel_rfl, of_decide_eq_true (by kernel_rfl)⟩) rfl (by kernel_rfl) Tryd.underlying4 hW' rfl hb⟩

theorem over : Rows.fnExactOrderTextRow.holds Tryd.pinned (OpenSpec.ofChange Rows.fnExactOrderTextSpec) :=
  OpenClaim.holds_of_wide 5 Tryd.f5 rfl rfl rfl rfl rfl rfl rfl ⟨rfl, rfl, rfl, rfl, rfl⟩ rfl rfl rfl rfl rfl (by kernel_rfl) Tryd.func5 (by kernel_rfl)
    (of_decide_eq_true (by kernel_rfl)) (by unfold Func.isWrapper; first | (rw [if_pos (by decide +kernel)]; kernel_rfl) | (rw [if_neg (by decide +kernel)]; exact ⟨rfl, rfl⟩))
    (fun os started H enc _ => lifted os started H enc)

theorem proved : Rows.FnExactOrderTextCardSaid :=
  Claim7.holds_tied_plain_at .later [] [.data, .data, .data] true (true, "47db44bfef9637420b27c10cfcd8988c2986ee371ee12df26c06bbb8d457f40f") true
    over (fun _ h => by cases h) (by kernel_rfl) (fun _ h => by cases h) fnExactOrderText_row_tie rfl ⟨rfl, rfl⟩ (by kernel_rfl) rfl
    (fun f fn hf hfn => by
      obtain rfl : f = 5 := Option.some.inj ((show Tryd.prog.funcNamed "loop.example/g00489/laws.FnExactOrderText" = some 5 by kernel_rfl).symm.trans hf) |>.symm
      obtain rfl : fn = Tryd.f5 := (Option.some.inj (Tryd.func5.symm.trans hfn)).symm
      exact ⟨by kernel_rfl, fun j t ht => by
        rw [Tryd.params5] at ht
        have hm : t ∈ [33] := by simpa using Array.mem_of_getElem? ht
        have hall : ([33].all fun u => !Tryd.prog.wantsStandIn u) = true := by kernel_rfl
        exact (show Tryd.prog.wantsStandIn t = false by simpa using List.all_eq_true.1 hall t hm)⟩)
    (by kernel_rfl)
#print axioms proved
end Go.Proofs.YtcjcmdikopipjaaDoor.fnExactOrderText
