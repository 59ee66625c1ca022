/- The law FnExactTableOk holds for every input: the call answers true, and each argument reads afterwards as it read before. -/
import Derived.Test.YtcbmiodilfjjjaaC4
import Derived.Test.YtcbmiodilfjjjaaRw
import Derived.Test.YtcbmiodilfjjjaaS2
namespace Go.Proofs.Ytcbmiodilfjjjaa.fnExactTableOk
open Go.ChangeShapes Go.WideShapes Go.ChangeAt Go.RowKit Go.Deep
open Go.ChangeMaps (open_string)
set_option linter.unusedVariables false
set_option linter.unusedSimpArgs false


theorem walk (Ap : Option Addr) (np cp : Nat) (p : List Pr) (k : Int) (w : World) (hp : SlK 2 encPr w 0 w.heap.size Ap np cp p) (wk : (Lit.int .i64 k).wf = true) :
    Calls Try.prog 6 #[.slice Ap np cp, .int .i64 k] w fun e w' => e = .returned (.bool true) ∧ Below w.heap.size w w' := by
  have hq := hp.len
  have hq2 := hp.cap
  have hq3 := hp.max
  by_cases hsz : np ≤ 1048576
  · have hneg : ¬ ((1048576 : Int) - np < 0) := by omega
    go_enter Try.func6, Try.ntmps6
    have h0 : Below w.heap.size w w := Below.refl _ _
    have HP0 := hide hp
    clear hp
    go_wp2_with fail
    refine (szPairS_ok Ap np cp 1048576 _ (by omega) (by omega) HP0.out.cap HP0.out.max).mono ?_
    rintro e w' ⟨rfl, rfl⟩
    go_wp2_with fail
    refine (toPairS_any 0 w.heap.size Ap np cp p _ HP0.out (by omega) (by omega)).mono ?_
    rintro e w1 ⟨Aa, rfl, ha, hb1⟩
    have z1 := hb1.size
    have h1 := h0.trans (hb1.mono (by omega))
    have HP1 := hide (HP0.out.below hb1 (by omega))
    have HA1 := hide ha
    clear ha
    go_wp2_with fail
    refine (stableOk_any k w.heap.size w1.heap.size Aa np np p _ HA1.out).mono ?_
    rintro e w2 ⟨rfl, e2⟩
    have hb2 : Below w1.heap.size w1 w2 := e2 ▸ Below.refl _ _
    clear e2
    have z2 := hb2.size
    have h2 := h1.trans (hb2.mono (by omega))
    have HP2 := hide (HP1.out.below hb2 (by omega))
    have HA2 := hide (HA1.out.below hb2 (by omega))
    go_wp2_with fail
    refine (toPairS_any 0 w.heap.size Ap np cp p _ HP2.out (by omega) (by omega)).mono ?_
    rintro e w3 ⟨Ab, rfl, hb, hb3⟩
    have z3 := hb3.size
    have h3 := h2.trans (hb3.mono (by omega))
    have HP3 := hide (HP2.out.below hb3 (by omega))
    have HA3 := hide (HA2.out.below hb3 (by omega))
    have HB3 := hide hb
    clear hb
    go_wp2_with fail
    refine (tableOk_any k w2.heap.size w3.heap.size Ab np np p _ HB3.out (Nat.le_refl _)).mono ?_
    rintro e w4 ⟨rfl, hb4⟩
    have z4 := hb4.size
    have h4 := h3.trans (hb4.mono (by omega))
    have HP4 := hide (HP3.out.below hb4 (by omega))
    have HA4 := hide (HA3.out.below hb4 (by omega))
    have HB4 := hide (HB3.out.below hb4 (by omega))
    go_wp2_with fail
    refine (toPairS_any 0 w.heap.size Ap np cp p _ HP4.out (by omega) (by omega)).mono ?_
    rintro e w5 ⟨Ac, rfl, hc, hb5⟩
    have z5 := hb5.size
    have h5 := h4.trans (hb5.mono (by omega))
    have HP5 := hide (HP4.out.below hb5 (by omega))
    have HA5 := hide (HA4.out.below hb5 (by omega))
    have HB5 := hide (HB4.out.below hb5 (by omega))
    have HC5 := hide hc
    clear hc
    go_wp2_with fail
    refine (eqPairS_any w2.heap.size w3.heap.size w4.heap.size w5.heap.size Ab Ac np np np p _ HB5.out (by omega) HC5.out (Nat.le_refl _)).mono ?_
    rintro e w6 ⟨rfl, hb6⟩
    have z6 := hb6.size
    have h6 := h5.trans (hb6.mono (by omega))
    have HP6 := hide (HP5.out.below hb6 (by omega))
    have HA6 := hide (HA5.out.below hb6 (by omega))
    have HB6 := hide (HB5.out.below hb6 (by omega))
    have HC6 := hide (HC5.out.below hb6 (by omega))
    go_wp2
    go_ret
    exact ⟨rfl, h6⟩
  · go_enter Try.func6, Try.ntmps6
    go_wp2_with fail
    refine (szPairS_no Ap np cp 1048576 _ (by omega) (by omega) (by omega) hp.cap hp.max).mono ?_
    rintro e w1 ⟨rfl, rfl⟩
    go_wp2
    go_ret
    exact ⟨rfl, Below.refl _ _⟩
set_option maxRecDepth 100000 in
set_option maxHeartbeats 1000000 in
theorem lifted (os : Os) (started : os.Started) (H : Type) (enc : TypeId × Value → H) :
    ReturnsInHanded {} Try.checked os 6 .any (Rows.fnExactTableOkSpec.pre6 enc Try.prog Try.f6 Rows.fnExactTableOkRow.domain false) (Rows.fnExactTableOkSpec.post enc Try.prog Try.f6 false true false false) := by
  refine returnsInHanded_of_change (C := Try.checked) ownK started (by kernel_rfl) Try.func6
    (ChangeSpec.witness6 (enc := enc) (C := Try.checked) false ⟨#[], #[.slice none 0 0, .int .i64 0], []⟩ 8 (by kernel_rfl) (by kernel_rfl) (by kernel_rfl) (by kernel_rfl)) ?_
  intro W base args ds gs before hval0 hW hcnd _
  have hval : ∀ (j : Nat) t v, Try.f6.params[j]? = some t → args[j]? = some v → Value.okWide Try.prog W .any base t v := hval0
  have hW' := hW
  obtain ⟨p, q, hA0, hV, rfl, hfz, hnd⟩ := hW
  have hA : DataW.TrodAll enc Try.prog W 0 (fun _ => true) true Try.f6.params.toList args.toList ds p := hA0
  have hV' := hV
  obtain ⟨rfl, rfl⟩ := trodVars_none hV'
  rw [Try.params6] at hA hval
  obtain ⟨v0, vs0, d0, ds0, p0, q0, hargs, rfl, rfl, h0, r0⟩ := trodAll_cons hA
  obtain ⟨v1, vs1, d1, ds1, p1, q1, rfl, rfl, rfl, h1, r1⟩ := trodAll_cons r0
  obtain ⟨rfl, rfl, rfl⟩ := trodAll_nil r1
  obtain rfl : args = #[v0, v1] := by cases args; simp_all
  have hz0 : W.noneFrozen p0 := fun b off hin => hfz b off (by simp [hin])
  have hz1 : W.noneFrozen p1 := fun b off hin => hfz b off (by simp [hin])
  obtain ⟨Ap, np, cp, p, rfl, hp⟩ : ∃ A n c xs, v0 = .slice A n c ∧ SlK 2 encPr W 0 W.heap.size A n c xs := by
    obtain ⟨a0, len0, cap0, rfl⟩ := okWide_slice Try.underlying32 (hval 0 32 v0 rfl rfl)
    obtain ⟨fu, hf⟩ := h0
    exact open_prs Try.underlying32 rowPair cPair (by simpa [Value.cells] using hf) hz0
  obtain ⟨k, rfl, _, _, wk⟩ := open_int Try.underlying3 (hval 1 3 v1 rfl rfl) h1
  refine (walk Ap np cp p k W hp wk).mono fun e W' ⟨he, hb⟩ => ?_
  subst he
  exact ⟨_, rfl, law_post laidO (by intro t ht; rw [Try.params6] at ht; simp only [List.mem_cons, List.not_mem_nil, or_false] at ht; rcases ht with rfl | rfl <;> exact ⟨by kernel_rfl, of_decide_eq_true (by kernel_rfl)⟩) rfl (by kernel_rfl) Try.underlying4 hW' rfl hb⟩

theorem over : Rows.fnExactTableOkRow.holds Try.pinned (OpenSpec.ofChange Rows.fnExactTableOkSpec) :=
  OpenClaim.holds_of_wide 6 Try.f6 rfl rfl rfl rfl rfl rfl rfl ⟨rfl, rfl, rfl, rfl, rfl⟩ rfl rfl rfl rfl rfl (by kernel_rfl) Try.func6 (by kernel_rfl)
    (of_decide_eq_true (by kernel_rfl)) (by unfold Func.isWrapper; first | (rw [if_pos (by decide +kernel)]; kernel_rfl) | (rw [if_neg (by decide +kernel)]; exact ⟨rfl, rfl⟩))
    (fun os started H enc _ => lifted os started H enc)

theorem proved : Rows.FnExactTableOkSaid :=
  over
#print axioms proved
end Go.Proofs.Ytcbmiodilfjjjaa.fnExactTableOk
