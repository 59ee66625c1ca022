/- The law FnExactFits holds for every input: the call answers true, and each argument reads afterwards as it read before. -/
import Derived.Test.YtcbmiodilfjjjaaFit
import Derived.Test.YtcbmiodilfjjjaaRw
import Derived.Test.YtcbmiodilfjjjaaS2
namespace Go.Proofs.Ytcbmiodilfjjjaa.fnExactFits
open Go.ChangeShapes Go.WideShapes Go.ChangeAt Go.RowKit Go.Deep
open Go.ChangeMaps (open_string)
set_option linter.unusedVariables false
set_option linter.unusedSimpArgs false


theorem walk (x : It) (t : Ty) (w : World)  :
    Calls Try.prog 12 #[.agg #[.int .i64 x.id, .int .i64 x.w, .int .i64 x.h, .int .i64 x.d, .int .i64 x.gram, .int .i64 x.cls, .int .i64 x.cnt], .agg #[.int .i64 t.id, .int .i64 t.w, .int .i64 t.h, .int .i64 t.d, .int .i64 t.tare, .int .i64 t.gram, .int .i64 t.cost]] w fun e w' => e = .returned (.bool true) ∧ Below w.heap.size w w' := by
  go_enter Try.func12, Try.ntmps12
  go_wp2_with fail
  have PR_1 := hide (Blk.drew ((Blk.new w 80 (#[.int .i64 x.id, .int .i64 x.w, .int .i64 x.h, .int .i64 x.d, .int .i64 x.gram, .int .i64 x.cls, .int .i64 x.cnt]) (g := w.heap.size) (by simp)).alloc (Obj.cells (#[.int .i64 t.id, .int .i64 t.w, .int .i64 t.h, .int .i64 t.d, .int .i64 t.tare, .int .i64 t.gram, .int .i64 t.cost]) 81)))
  have kR_1 := PR_1.out.cell
  have yR_1 : w.heap.size < w.heap.size + 1 + 1 := (by omega)
  have PQ_1 := hide (Blk.drew ((Blk.new (w.alloc (Obj.cells (#[.int .i64 x.id, .int .i64 x.w, .int .i64 x.h, .int .i64 x.d, .int .i64 x.gram, .int .i64 x.cls, .int .i64 x.cnt]) 80)) 81 (#[.int .i64 t.id, .int .i64 t.w, .int .i64 t.h, .int .i64 t.d, .int .i64 t.tare, .int .i64 t.gram, .int .i64 t.cost]) (g := w.heap.size + 1) (by simp))))
  have kQ_1 := PQ_1.out.cell
  have yQ_1 : w.heap.size + 1 < w.heap.size + 1 + 1 := (by omega)
  have L1 := hide (show Below w.heap.size w ((w.alloc (Obj.cells (#[.int .i64 x.id, .int .i64 x.w, .int .i64 x.h, .int .i64 x.d, .int .i64 x.gram, .int .i64 x.cls, .int .i64 x.cnt]) 80)).alloc (Obj.cells (#[.int .i64 t.id, .int .i64 t.w, .int .i64 t.h, .int .i64 t.d, .int .i64 t.tare, .int .i64 t.gram, .int .i64 t.cost]) 81)).drew from (by repeat (first | with_reducible exact Below.refl _ _ | with_reducible assumption | with_reducible refine Below.setCell ?_ (by (try simp) <;> omega) _ | with_reducible refine Below.alloc ?_ (by (try simp) <;> omega) _ | with_reducible refine Below.drew ?_ | with_reducible refine below_drewN ?_ _)))
  go_region_held3 (fun w' => w'.cell? ⟨w.heap.size, 0, none⟩ = some (.int .i64 x.id) ∧ w'.cell? ⟨w.heap.size, 1, none⟩ = some (.int .i64 x.w) ∧ w'.cell? ⟨w.heap.size, 2, none⟩ = some (.int .i64 x.h) ∧ w'.cell? ⟨w.heap.size, 3, none⟩ = some (.int .i64 x.d) ∧ w'.cell? ⟨w.heap.size, 4, none⟩ = some (.int .i64 x.gram) ∧ w'.cell? ⟨w.heap.size, 5, none⟩ = some (.int .i64 x.cls) ∧ w'.cell? ⟨w.heap.size, 6, none⟩ = some (.int .i64 x.cnt) ∧ w'.cell? ⟨w.heap.size + 1, 0, none⟩ = some (.int .i64 t.id) ∧ w'.cell? ⟨w.heap.size + 1, 1, none⟩ = some (.int .i64 t.w) ∧ w'.cell? ⟨w.heap.size + 1, 2, none⟩ = some (.int .i64 t.h) ∧ w'.cell? ⟨w.heap.size + 1, 3, none⟩ = some (.int .i64 t.d) ∧ w'.cell? ⟨w.heap.size + 1, 4, none⟩ = some (.int .i64 t.tare) ∧ w'.cell? ⟨w.heap.size + 1, 5, none⟩ = some (.int .i64 t.gram) ∧ w'.cell? ⟨w.heap.size + 1, 6, none⟩ = some (.int .i64 t.cost)) (go_keep) (first | (go_at_call 52; (with_reducible refine (toItem_any x.id x.w x.h x.d x.gram x.cls x.cnt _).mono ?_); rintro e w2 ⟨rfl, hb2⟩; have D2 := hide (show Below (w.heap.size + 1 + 1) ((w.alloc (Obj.cells (#[.int .i64 x.id, .int .i64 x.w, .int .i64 x.h, .int .i64 x.d, .int .i64 x.gram, .int .i64 x.cls, .int .i64 x.cnt]) 80)).alloc (Obj.cells (#[.int .i64 t.id, .int .i64 t.w, .int .i64 t.h, .int .i64 t.d, .int .i64 t.tare, .int .i64 t.gram, .int .i64 t.cost]) 81)).drew w2 from (hb2.mono (by simp))); have PR_2 := hide (Blk.belowH (PR_1.out) hb2); have PQ_2 := hide (Blk.belowH (PQ_1.out) hb2); have Z2 : w.heap.size + 1 + 1 ≤ w2.heap.size := (by simpa using hb2.size); have L2 := hide (L1.out.trans (D2.out.mono (by omega))); clear hb2 PR_1 kR_1 yR_1 PQ_1 kQ_1 yQ_1 L1 D2; have kR_2 := PR_2.out.cell; have yR_2 := PR_2.out.lt; have kQ_2 := PQ_2.out.cell; have yQ_2 := PQ_2.out.lt) | (go_at_call 53; (with_reducible refine (toType_any t.id t.w t.h t.d t.tare t.gram t.cost _).mono ?_); rintro e w3 ⟨rfl, hb3⟩; have D3 := hide (show Below w2.heap.size w2 w3 from hb3); have PR_3 := hide (Blk.belowH (PR_2.out) hb3); have PQ_3 := hide (Blk.belowH (PQ_2.out) hb3); have Z3 : w2.heap.size ≤ w3.heap.size := (by simpa using hb3.size); have L3 := hide (L2.out.trans (D3.out.mono (by omega))); clear hb3 PR_2 kR_2 yR_2 PQ_2 kQ_2 yQ_2 L2 D3; have kR_3 := PR_3.out.cell; have yR_3 := PR_3.out.lt; have kQ_3 := PQ_3.out.cell; have yQ_3 := PQ_3.out.lt) | (go_at_call 51; (with_reducible refine (sfits_any x t _).mono ?_); rintro e w4 ⟨rfl, hb4⟩; have D4 := hide (show Below w3.heap.size w3 w4 from hb4); have PR_4 := hide (Blk.belowH (PR_3.out) hb4); have PQ_4 := hide (Blk.belowH (PQ_3.out) hb4); have Z4 : w3.heap.size ≤ w4.heap.size := (by simpa using hb4.size); have L4 := hide (L3.out.trans (D4.out.mono (by omega))); clear hb4 PR_3 kR_3 yR_3 PQ_3 kQ_3 yQ_3 L3 D4; have kR_4 := PR_4.out.cell; have yR_4 := PR_4.out.lt; have kQ_4 := PQ_4.out.cell; have yQ_4 := PQ_4.out.lt))
  go_wp2_with fail
  have PR_5 := hide PR_4.out.drew
  have PQ_5 := hide PQ_4.out.drew
  have L5 := hide L4.out.drew
  clear L4 PR_4 PQ_4
  go_region_held3 (fun w' => w'.cell? ⟨w.heap.size, 0, none⟩ = some (.int .i64 x.id) ∧ w'.cell? ⟨w.heap.size, 1, none⟩ = some (.int .i64 x.w) ∧ w'.cell? ⟨w.heap.size, 2, none⟩ = some (.int .i64 x.h) ∧ w'.cell? ⟨w.heap.size, 3, none⟩ = some (.int .i64 x.d) ∧ w'.cell? ⟨w.heap.size, 4, none⟩ = some (.int .i64 x.gram) ∧ w'.cell? ⟨w.heap.size, 5, none⟩ = some (.int .i64 x.cls) ∧ w'.cell? ⟨w.heap.size, 6, none⟩ = some (.int .i64 x.cnt) ∧ w'.cell? ⟨w.heap.size + 1, 0, none⟩ = some (.int .i64 t.id) ∧ w'.cell? ⟨w.heap.size + 1, 1, none⟩ = some (.int .i64 t.w) ∧ w'.cell? ⟨w.heap.size + 1, 2, none⟩ = some (.int .i64 t.h) ∧ w'.cell? ⟨w.heap.size + 1, 3, none⟩ = some (.int .i64 t.d) ∧ w'.cell? ⟨w.heap.size + 1, 4, none⟩ = some (.int .i64 t.tare) ∧ w'.cell? ⟨w.heap.size + 1, 5, none⟩ = some (.int .i64 t.gram) ∧ w'.cell? ⟨w.heap.size + 1, 6, none⟩ = some (.int .i64 t.cost)) (go_keep) (first | (go_at_call 52; (with_reducible refine (toItem_any x.id x.w x.h x.d x.gram x.cls x.cnt _).mono ?_); rintro e w6 ⟨rfl, hb6⟩; have D6 := hide (show Below w4.heap.size w4.drew w6 from hb6); have PR_6 := hide (Blk.belowH (PR_5.out) hb6); have PQ_6 := hide (Blk.belowH (PQ_5.out) hb6); have Z6 : w4.heap.size ≤ w6.heap.size := (by simpa using hb6.size); have L6 := hide (L5.out.trans (D6.out.mono (by omega))); clear hb6 PR_5 kR_4 yR_4 PQ_5 kQ_4 yQ_4 L5 D6; have kR_6 := PR_6.out.cell; have yR_6 := PR_6.out.lt; have kQ_6 := PQ_6.out.cell; have yQ_6 := PQ_6.out.lt) | (go_at_call 53; (with_reducible refine (toType_any t.id t.w t.h t.d t.tare t.gram t.cost _).mono ?_); rintro e w7 ⟨rfl, hb7⟩; have D7 := hide (show Below w6.heap.size w6 w7 from hb7); have PR_7 := hide (Blk.belowH (PR_6.out) hb7); have PQ_7 := hide (Blk.belowH (PQ_6.out) hb7); have Z7 : w6.heap.size ≤ w7.heap.size := (by simpa using hb7.size); have L7 := hide (L6.out.trans (D7.out.mono (by omega))); clear hb7 PR_6 kR_6 yR_6 PQ_6 kQ_6 yQ_6 L6 D7; have kR_7 := PR_7.out.cell; have yR_7 := PR_7.out.lt; have kQ_7 := PQ_7.out.cell; have yQ_7 := PQ_7.out.lt) | (go_at_call 54; (with_reducible refine (fits_any x t _).mono ?_); rintro e w8 ⟨rfl, hb8⟩; have D8 := hide (show Below w7.heap.size w7 w8 from hb8); have PR_8 := hide (Blk.belowH (PR_7.out) hb8); have PQ_8 := hide (Blk.belowH (PQ_7.out) hb8); have Z8 : w7.heap.size ≤ w8.heap.size := (by simpa using hb8.size); have L8 := hide (L7.out.trans (D8.out.mono (by omega))); clear hb8 PR_7 kR_7 yR_7 PQ_7 kQ_7 yQ_7 L7 D8; have kR_8 := PR_8.out.cell; have yR_8 := PR_8.out.lt; have kQ_8 := PQ_8.out.cell; have yQ_8 := PQ_8.out.lt))
  go_wp2
  go_ret
  exact ⟨rfl, L8.out⟩
set_option maxRecDepth 100000 in
set_option maxHeartbeats 1000000 in
theorem lifted (os : Os) (started : os.Started) (H : Type) (enc : TypeId × Value → H) :
    ReturnsInHanded {} Try.checked os 12 .any (Rows.fnExactFitsSpec.pre6 enc Try.prog Try.f12 Rows.fnExactFitsRow.domain false) (Rows.fnExactFitsSpec.post enc Try.prog Try.f12 false true false false) := by
  refine returnsInHanded_of_change (C := Try.checked) ownK started (by kernel_rfl) Try.func12
    (ChangeSpec.witness6 (enc := enc) (C := Try.checked) false ⟨#[], #[.agg #[.int .i64 0, .int .i64 0, .int .i64 0, .int .i64 0, .int .i64 0, .int .i64 0, .int .i64 0], .agg #[.int .i64 0, .int .i64 0, .int .i64 0, .int .i64 0, .int .i64 0, .int .i64 0, .int .i64 0]], []⟩ 8 (by kernel_rfl) (by kernel_rfl) (by kernel_rfl) (by kernel_rfl)) ?_
  intro W base args ds gs before hval0 hW hcnd _
  have hval : ∀ (j : Nat) t v, Try.f12.params[j]? = some t → args[j]? = some v → Value.okWide Try.prog W .any base t v := hval0
  have hW' := hW
  obtain ⟨p, q, hA0, hV, rfl, hfz, hnd⟩ := hW
  have hA : DataW.TrodAll enc Try.prog W 0 (fun _ => true) true Try.f12.params.toList args.toList ds p := hA0
  have hV' := hV
  obtain ⟨rfl, rfl⟩ := trodVars_none hV'
  rw [Try.params12] at hA hval
  obtain ⟨v0, vs0, d0, ds0, p0, q0, hargs, rfl, rfl, h0, r0⟩ := trodAll_cons hA
  obtain ⟨v1, vs1, d1, ds1, p1, q1, rfl, rfl, rfl, h1, r1⟩ := trodAll_cons r0
  obtain ⟨rfl, rfl, rfl⟩ := trodAll_nil r1
  obtain rfl : args = #[v0, v1] := by cases args; simp_all
  have hz0 : W.noneFrozen p0 := fun b off hin => hfz b off (by simp [hin])
  have hz1 : W.noneFrozen p1 := fun b off hin => hfz b off (by simp [hin])
  obtain ⟨x, rfl⟩ := open_it Try.underlying80 rowItem (hval 0 80 v0 rfl rfl) h0
  obtain ⟨t, rfl⟩ := open_ty Try.underlying81 rowType (hval 1 81 v1 rfl rfl) h1
  refine (walk x t W ).mono fun e W' ⟨he, hb⟩ => ?_
  subst he
  exact ⟨_, rfl, law_post laidO (by intro t ht; rw [Try.params12] at ht; simp only [List.mem_cons, List.not_mem_nil, or_false] at ht; rcases ht with rfl | rfl <;> exact ⟨by kernel_rfl, of_decide_eq_true (by kernel_rfl)⟩) rfl (by kernel_rfl) Try.underlying4 hW' rfl hb⟩

theorem over : Rows.fnExactFitsRow.holds Try.pinned (OpenSpec.ofChange Rows.fnExactFitsSpec) :=
  OpenClaim.holds_of_wide 12 Try.f12 rfl rfl rfl rfl rfl rfl rfl ⟨rfl, rfl, rfl, rfl, rfl⟩ rfl rfl rfl rfl rfl (by kernel_rfl) Try.func12 (by kernel_rfl)
    (of_decide_eq_true (by kernel_rfl)) (by unfold Func.isWrapper; first | (rw [if_pos (by decide +kernel)]; kernel_rfl) | (rw [if_neg (by decide +kernel)]; exact ⟨rfl, rfl⟩))
    (fun os started H enc _ => lifted os started H enc)

theorem proved : Rows.FnExactFitsSaid :=
  over
#print axioms proved
end Go.Proofs.Ytcbmiodilfjjjaa.fnExactFits
