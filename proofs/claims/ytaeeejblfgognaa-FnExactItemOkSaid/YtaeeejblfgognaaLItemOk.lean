/- The law FnExactItemOk holds for every input: the call answers true, and each argument reads afterwards as it read before. -/
import Derived.Test.YtaeeejblfgognaaC1
import Derived.Test.YtaeeejblfgognaaRw
namespace Go.Proofs.Ytaeeejblfgognaa.fnExactItemOk
open Go.ChangeShapes Go.WideShapes Go.ChangeAt Go.RowKit Go.Deep
open Go.ChangeMaps (open_string)
set_option linter.unusedVariables false


theorem walk (x : It) (w : World)  :
    Calls Try.prog 7 #[.agg #[.int .i64 x.id, .int .i64 x.w, .int .i64 x.h, .int .i64 x.d, .int .i64 x.gram, .int .i64 x.cls, .int .i64 x.cnt]] w fun e w' => e = .returned (.bool true) ∧ Below w.heap.size w w' := by
  go_enter Try.func7, Try.ntmps7
  go_wp2_with fail
  refine (toItem_any _ _ _ _ _ _ _ _).mono ?_
  rintro e w1 ⟨rfl, hb1⟩
  have D1 := hide (show Below w.heap.size w w1 from (by repeat (first | with_reducible exact Below.refl _ _ | with_reducible assumption | with_reducible refine Below.setCell ?_ (by (try simp) <;> omega) _ | with_reducible refine Below.alloc ?_ (by (try simp) <;> omega) _ | with_reducible refine Below.drew ?_ | with_reducible refine below_drewN ?_ _ | with_reducible exact hb1 | with_reducible refine Below.trans ?_ (Below.mono hb1 (by (try simp) <;> omega)))))
  have PR_1 := hide (Blk.belowH ((Blk.new w 34 (#[.int .i64 x.id, .int .i64 x.w, .int .i64 x.h, .int .i64 x.d, .int .i64 x.gram, .int .i64 x.cls, .int .i64 x.cnt]) (g := w.heap.size) (by simp))) hb1)
  have Z1 : w.heap.size + 1 ≤ w1.heap.size := by simpa using hb1.size
  have L1 := D1
  clear hb1 D1
  have kR_1 := PR_1.out.cell
  have yR_1 := PR_1.out.lt
  go_wp2_with fail
  refine (sitemOk_any _ _ _ _ _ _ _ _).mono ?_
  rintro e w2 ⟨rfl, hb2⟩
  have D2 := hide (show Below w1.heap.size w1 w2 from (by repeat (first | with_reducible exact Below.refl _ _ | with_reducible assumption | with_reducible refine Below.setCell ?_ (by (try simp) <;> omega) _ | with_reducible refine Below.alloc ?_ (by (try simp) <;> omega) _ | with_reducible refine Below.drew ?_ | with_reducible refine below_drewN ?_ _ | with_reducible exact hb2 | with_reducible refine Below.trans ?_ (Below.mono hb2 (by (try simp) <;> omega)))))
  have PR_2 := hide (Blk.belowH (PR_1.out) hb2)
  have Z2 : w1.heap.size ≤ w2.heap.size := by simpa using hb2.size
  have L2 := hide (L1.out.trans (D2.out.mono (by omega)))
  clear hb2 PR_1 kR_1 yR_1 L1 D2
  have kR_2 := PR_2.out.cell
  have yR_2 := PR_2.out.lt
  go_wp2_with fail
  refine (toItem_any _ _ _ _ _ _ _ _).mono ?_
  rintro e w3 ⟨rfl, hb3⟩
  have D3 := hide (show Below w2.heap.size w2 w3 from (by repeat (first | with_reducible exact Below.refl _ _ | with_reducible assumption | with_reducible refine Below.setCell ?_ (by (try simp) <;> omega) _ | with_reducible refine Below.alloc ?_ (by (try simp) <;> omega) _ | with_reducible refine Below.drew ?_ | with_reducible refine below_drewN ?_ _ | with_reducible exact hb3 | with_reducible refine Below.trans ?_ (Below.mono hb3 (by (try simp) <;> omega)))))
  have PR_3 := hide (Blk.belowH (PR_2.out) hb3)
  have Z3 : w2.heap.size ≤ w3.heap.size := by simpa using hb3.size
  have L3 := hide (L2.out.trans (D3.out.mono (by omega)))
  clear hb3 PR_2 kR_2 yR_2 L2 D3
  have kR_3 := PR_3.out.cell
  have yR_3 := PR_3.out.lt
  go_wp2_with fail
  refine (itemOk_any _ _ _ _ _ _ _ _).mono ?_
  rintro e w4 ⟨rfl, hb4⟩
  have D4 := hide (show Below w3.heap.size w3 w4 from (by repeat (first | with_reducible exact Below.refl _ _ | with_reducible assumption | with_reducible refine Below.setCell ?_ (by (try simp) <;> omega) _ | with_reducible refine Below.alloc ?_ (by (try simp) <;> omega) _ | with_reducible refine Below.drew ?_ | with_reducible refine below_drewN ?_ _ | with_reducible exact hb4 | with_reducible refine Below.trans ?_ (Below.mono hb4 (by (try simp) <;> omega)))))
  have PR_4 := hide (Blk.belowH (PR_3.out) hb4)
  have Z4 : w3.heap.size ≤ w4.heap.size := by simpa using hb4.size
  have L4 := hide (L3.out.trans (D4.out.mono (by omega)))
  clear hb4 PR_3 kR_3 yR_3 L3 D4
  have kR_4 := PR_4.out.cell
  have yR_4 := PR_4.out.lt
  go_wp2
  go_ret
  exact ⟨rfl, L4.out⟩
set_option maxRecDepth 100000 in
set_option maxHeartbeats 1000000 in
theorem lifted (os : Os) (started : os.Started) (H : Type) (enc : TypeId × Value → H) :
    ReturnsInHanded {} Try.checked os 7 .any (Rows.fnExactItemOkSpec.pre6 enc Try.prog Try.f7 Rows.fnExactItemOkRow.domain false) (Rows.fnExactItemOkSpec.post enc Try.prog Try.f7 false true false false) := by
  refine returnsInHanded_of_change (C := Try.checked) ownK started (by kernel_rfl) Try.func7
    (ChangeSpec.witness6 (enc := enc) (C := Try.checked) false ⟨#[], #[.agg #[.int .i64 0, .int .i64 0, .int .i64 0, .int .i64 0, .int .i64 0, .int .i64 0, .int .i64 0]], []⟩ 8 (by kernel_rfl) (by kernel_rfl) (by kernel_rfl) (by kernel_rfl)) ?_
  intro W base args ds gs before hval0 hW hcnd _
  have hval : ∀ (j : Nat) t v, Try.f7.params[j]? = some t → args[j]? = some v → Value.okWide Try.prog W .any base t v := hval0
  have hW' := hW
  obtain ⟨p, q, hA0, hV, rfl, hfz, hnd⟩ := hW
  have hA : DataW.TrodAll enc Try.prog W 0 (fun _ => true) true Try.f7.params.toList args.toList ds p := hA0
  have hV' := hV
  obtain ⟨rfl, rfl⟩ := trodVars_none hV'
  rw [Try.params7] at hA hval
  obtain ⟨v0, vs0, d0, ds0, p0, q0, hargs, rfl, rfl, h0, r0⟩ := trodAll_cons hA
  obtain ⟨rfl, rfl, rfl⟩ := trodAll_nil r0
  obtain rfl : args = #[v0] := by cases args; simp_all
  have hz0 : W.noneFrozen p0 := fun b off hin => hfz b off (by simp [hin])
  obtain ⟨x, rfl⟩ := open_it Try.underlying34 rowItem (hval 0 34 v0 rfl rfl) h0
  refine (walk x W ).mono fun e W' ⟨he, hb⟩ => ?_
  subst he
  exact ⟨_, rfl, law_post laidO (by intro t ht; rw [Try.params7] at ht; simp only [List.mem_cons, List.not_mem_nil, or_false] at ht; subst ht; exact ⟨by kernel_rfl, of_decide_eq_true (by kernel_rfl)⟩) rfl (by kernel_rfl) Try.underlying4 hW' rfl hb⟩

theorem over : Rows.fnExactItemOkRow.holds Try.pinned (OpenSpec.ofChange Rows.fnExactItemOkSpec) :=
  OpenClaim.holds_of_wide 7 Try.f7 rfl rfl rfl rfl rfl rfl rfl ⟨rfl, rfl, rfl, rfl, rfl⟩ rfl rfl rfl rfl rfl (by kernel_rfl) Try.func7 (by kernel_rfl)
    (of_decide_eq_true (by kernel_rfl)) (by unfold Func.isWrapper; first | (rw [if_pos (by decide +kernel)]; kernel_rfl) | (rw [if_neg (by decide +kernel)]; exact ⟨rfl, rfl⟩))
    (fun os started H enc _ => lifted os started H enc)

theorem proved : Rows.FnExactItemOkSaid :=
  over
#print axioms proved
end Go.Proofs.Ytaeeejblfgognaa.fnExactItemOk
