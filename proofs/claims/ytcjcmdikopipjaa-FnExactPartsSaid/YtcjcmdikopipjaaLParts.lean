/- The law FnExactParts holds for every input: the call answers true, and each argument reads afterwards as it read before. -/
import Derived.Test.YtcjcmdikopipjaaStr
import Derived.Test.YtcjcmdikopipjaaRw
import Derived.Test.YtcjcmdikopipjaaS2
namespace Go.Proofs.Ytcjcmdikopipjaa.fnExactParts
open Go.ChangeShapes Go.WideShapes Go.ChangeAt Go.RowKit Go.Deep
open Go.ChangeMaps (open_string)
set_option linter.unusedVariables false
set_option linter.unusedSimpArgs false


set_option maxRecDepth 20000 in
set_option maxHeartbeats 2000000 in
theorem walk (s : ByteArray) (by_ : Int) (w : World) (ws : s.size ≤ maxLen) (wby_ : (Lit.int .u8 by_).wf = true) :
    Calls Try.prog 3 #[.string s, .int .u8 by_] w fun e w' => e = .returned (.bool true) ∧ Below w.heap.size w w' := by
  by_cases hbig : s.size ≤ 1048576
  · obtain ⟨m, hm⟩ : ∃ m, (partsL s by_).length = m := ⟨_, rfl⟩
    have hm1 : m ≤ 1048577 := by rw [← hm]; have := partsL_len s by_; omega
    have HM := hide hm
    clear hm
    have hb2 : ¬ ((1048576 : Int) < (s.size : Int)) := by omega
    go_enter Try.func3, Try.ntmps3
    go_wp2_with fail
    refine (sparts_any s by_ _ hbig).mono ?_
    rintro e w1 ⟨v1, rfl, ho1, hb1⟩
    obtain ⟨A1, c1, rfl, s1⟩ := Own.slk' encStr_len HM.out ho1
    have HS1 := hide s1
    have z1 := hb1.size
    have L1 := hide hb1
    clear ho1 s1 hb1
    go_wp2_with fail
    refine (parts_any s by_ _ hbig).mono ?_
    rintro e w2 ⟨v2, rfl, ho2, hb2⟩
    have z2 := hb2.size
    have L2 := hide (L1.out.trans (hb2.mono (by omega)))
    have HS2 := hide (HS1.out.below hb2 (Nat.le_refl _))
    have HO2 := hide ho2
    obtain ⟨A2, c2, e2, s2⟩ := Own.slk' encStr_len HM.out ho2
    subst e2
    have HG2 := hide s2
    clear ho2 s2 hb2 HS1 L1
    go_wp2_with fail
    refine (eqStringS_any w1.heap.size w2.heap.size w.heap.size w1.heap.size A2 A1 m c2 c1 (partsL s by_) _ HG2.out (by omega) HS2.out (by omega)).mono ?_
    rintro e w3 ⟨rfl, hb3⟩
    have z3 := hb3.size
    have L3 := hide (L2.out.trans (hb3.mono (by omega)))
    have HS3 := hide (HS2.out.below hb3 (by omega))
    have HO3 := hide (HO2.out.below hb3)
    clear hb3 HS2 HO2 L2 HG2
    go_wp2_with fail
    refine (markStringS_own 1 w1.heap.size _ (partsL s by_) _ HO3.out (by rw [HM.out]; omega) (by omega) (by omega)).mono ?_
    rw [HM.out]
    rintro e w4 ⟨rfl, ho4, hg4⟩
    have z4 := hg4.size
    have hbk := hide (fun x (hx : Value.ownBlock _ = some x) => (HO3.out.lt x hx).1)
    have L4 := hide (L3.out.grown hg4 (by omega) (fun x hx => by have := hbk.out x hx; omega))
    have HS4 := hide (HS3.out.grown hg4 (by omega) (fun x hx => .inr (hbk.out x hx)))
    have HO4 := hide ho4
    obtain ⟨A4, c4, e4, s4⟩ := Own.slk' encStr_len (marksS_len 1 m) ho4
    injection e4 with e4a e4b e4c
    subst e4a e4c
    have HG4 := hide s4
    have hmi : (0 : Int) ≤ (m : Int) := by omega
    have hk1 : ¬ ((1 : Int) + (m : Int) < 0) := by omega
    clear ho4 s4 hg4 hbk HO3 HS3 L3 e4b
    go_wp2_with fail
    refine (heldStringS_any 1 w1.heap.size w4.heap.size A2 m c2 _ HG4.out (Nat.le_refl _) (by omega) (by omega) (by omega)).mono ?_
    rintro e w5 ⟨rfl, hb5⟩
    have z5 := hb5.size
    have L5 := hide (L4.out.trans (hb5.mono (by omega)))
    have HS5 := hide (HS4.out.below hb5 (by omega))
    have HG5 := hide (HG4.out.below hb5 (Nat.le_refl _))
    clear hb5 HS4 HG4 L4 HO4
    go_wp2_with fail
    refine (parts_any s by_ _ hbig).mono ?_
    rintro e w6 ⟨v6, rfl, ho6, hb6⟩
    obtain ⟨A6, c6, rfl, s6⟩ := Own.slk' encStr_len HM.out ho6
    have z6 := hb6.size
    have L6 := hide (L5.out.trans (hb6.mono (by omega)))
    have HS6 := hide (HS5.out.below hb6 (by omega))
    have HG6 := hide (HG5.out.below hb6 (by omega))
    have HH6 := hide s6
    clear ho6 s6 hb6 HS5 HG5 L5
    go_wp2_with fail
    refine (eqStringS_any w5.heap.size w6.heap.size w.heap.size w1.heap.size A6 A1 m c6 c1 (partsL s by_) _ HH6.out (by omega) HS6.out (by omega)).mono ?_
    rintro e w7 ⟨rfl, hb7⟩
    have z7 := hb7.size
    have L7 := hide (L6.out.trans (hb7.mono (by omega)))
    have HG7 := hide (HG6.out.below hb7 (by omega))
    clear hb7 HS6 HG6 HH6 L6
    go_wp2_with fail
    refine (heldStringS_any 1 w1.heap.size w4.heap.size A2 m c2 _ HG7.out (by omega) (by omega) (by omega) (by omega)).mono ?_
    rintro e w8 ⟨rfl, hb8⟩
    have L8 := hide (L7.out.trans (hb8.mono (by omega)))
    go_wp2_with fail
    go_ret
    exact ⟨rfl, L8.out⟩
  · have hb2 : (1048576 : Int) < (s.size : Int) := by omega
    go_enter Try.func3, Try.ntmps3
    go_wp2
    go_ret
    exact ⟨rfl, Below.refl _ _⟩
set_option maxRecDepth 100000 in
set_option maxHeartbeats 1000000 in
theorem lifted (os : Os) (started : os.Started) (H : Type) (enc : TypeId × Value → H) :
    ReturnsInHanded {} Try.checked os 3 .any (Rows.fnExactPartsSpec.pre6 enc Try.prog Try.f3 Rows.fnExactPartsRow.domain false) (Rows.fnExactPartsSpec.post enc Try.prog Try.f3 false true false false) := by
  refine returnsInHanded_of_change (C := Try.checked) ownK started (by kernel_rfl) Try.func3
    (ChangeSpec.witness6 (enc := enc) (C := Try.checked) false ⟨#[], #[.string ByteArray.empty, .int .u8 0], []⟩ 8 (by kernel_rfl) (by kernel_rfl) (by kernel_rfl) (by kernel_rfl)) ?_
  intro W base args ds gs before hval0 hW hcnd _
  have hval : ∀ (j : Nat) t v, Try.f3.params[j]? = some t → args[j]? = some v → Value.okWide Try.prog W .any base t v := hval0
  have hW' := hW
  obtain ⟨p, q, hA0, hV, rfl, hfz, hnd⟩ := hW
  have hA : DataW.TrodAll enc Try.prog W 0 (fun _ => true) true Try.f3.params.toList args.toList ds p := hA0
  have hV' := hV
  obtain ⟨rfl, rfl⟩ := trodVars_none hV'
  rw [Try.params3] at hA hval
  obtain ⟨v0, vs0, d0, ds0, p0, q0, hargs, rfl, rfl, h0, r0⟩ := trodAll_cons hA
  obtain ⟨v1, vs1, d1, ds1, p1, q1, rfl, rfl, rfl, h1, r1⟩ := trodAll_cons r0
  obtain ⟨rfl, rfl, rfl⟩ := trodAll_nil r1
  obtain rfl : args = #[v0, v1] := by cases args; simp_all
  have hz0 : W.noneFrozen p0 := fun b off hin => hfz b off (by simp [hin])
  have hz1 : W.noneFrozen p1 := fun b off hin => hfz b off (by simp [hin])
  obtain ⟨s, rfl, _, _, ws⟩ := open_string Try.underlying9 (hval 0 9 v0 rfl rfl) h0
  obtain ⟨by_, rfl, _, _, wby_⟩ := open_int Try.underlying5 (hval 1 5 v1 rfl rfl) h1
  refine (walk s by_ W ws wby_).mono fun e W' ⟨he, hb⟩ => ?_
  subst he
  exact ⟨_, rfl, law_post laidO (by intro t ht; rw [Try.params3] at ht; simp only [List.mem_cons, List.not_mem_nil, or_false] at ht; rcases ht with rfl | rfl <;> exact ⟨by kernel_rfl, of_decide_eq_true (by kernel_rfl)⟩) rfl (by kernel_rfl) Try.underlying4 hW' rfl hb⟩

theorem over : Rows.fnExactPartsRow.holds Try.pinned (OpenSpec.ofChange Rows.fnExactPartsSpec) :=
  OpenClaim.holds_of_wide 3 Try.f3 rfl rfl rfl rfl rfl rfl rfl ⟨rfl, rfl, rfl, rfl, rfl⟩ rfl rfl rfl rfl rfl (by kernel_rfl) Try.func3 (by kernel_rfl)
    (of_decide_eq_true (by kernel_rfl)) (by unfold Func.isWrapper; first | (rw [if_pos (by decide +kernel)]; kernel_rfl) | (rw [if_neg (by decide +kernel)]; exact ⟨rfl, rfl⟩))
    (fun os started H enc _ => lifted os started H enc)

theorem proved : Rows.FnExactPartsSaid :=
  over
#print axioms proved
end Go.Proofs.Ytcjcmdikopipjaa.fnExactParts
