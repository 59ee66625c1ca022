/- The law FnExactTransitive holds for every input: the call answers true, and each argument reads afterwards as it read before. -/
import Derived.Test.YtojmkkcjjlppiaaTr
import Derived.Test.YtojmkkcjjlppiaaRw
import Derived.Test.YtojmkkcjjlppiaaS2
namespace Go.Proofs.Ytojmkkcjjlppiaa.fnExactTransitive
open Go.ChangeShapes Go.WideShapes Go.ChangeAt Go.RowKit Go.Deep
open Go.ChangeMaps (open_string)
set_option linter.unusedVariables false
set_option linter.unusedSimpArgs false


theorem walk (Ap : Option Addr) (np cp : Nat) (p : List Pr) (Ax : Option Addr) (nx cx : Nat) (x : List Int) (w : World) (hp : SlK 2 encPr w 0 w.heap.size Ap np cp p) (hx : SlK 1 encInt w 0 w.heap.size Ax nx cx x) :
    Calls Try.prog 6 #[.slice Ap np cp, .slice Ax nx cx] w fun e w' => e = .returned (.bool true) ∧ Below w.heap.size w w' := by
  have hq := hp.len
  have hq2 := hp.cap
  have hq3 := hp.max
  have hr2 := hx.cap
  have hr3 := hx.max
  by_cases hlx : nx ≤ 1048576
  · have hneg0 : ¬ ((1048576 : Int) < (nx : Int)) := by omega
    by_cases hsz : np ≤ 1048576
    · have hneg : ¬ ((1048576 : Int) - np < 0) := by omega
      go_enter Try.func6, Try.ntmps6
      have h0 : Below w.heap.size w w := Below.refl _ _
      have HP0 := hide hp
      have HX0 := hide hx
      clear hp hx
      go_wp2_with fail
      refine (szPairS_ok Ap np cp 1048576 _ (by omega) (by omega) HP0.out.cap HP0.out.max).mono ?_
      rintro e w' ⟨rfl, rfl⟩
      go_wp2_with fail
      refine (toPairS_any 0 w.heap.size Ap np cp p _ HP0.out (by omega) (by omega)).mono ?_
      rintro e w1 ⟨Aa, rfl, hAa, hb1⟩
      have z1 := hb1.size
      have h1 := h0.trans (hb1.mono (by omega))
      have HP1 := hide (HP0.out.below hb1 (by omega))
      have HX1 := hide (HX0.out.below hb1 (by omega))
      have HA1 := hide hAa
      clear hAa
      go_wp2_with fail
      refine (toIntS_any 0 w.heap.size Ax nx cx x _ HX1.out (by omega) (by omega)).mono ?_
      rintro e w2 ⟨Ai, rfl, hAi, hb2⟩
      have z2 := hb2.size
      have h2 := h1.trans (hb2.mono (by omega))
      have HP2 := hide (HP1.out.below hb2 (by omega))
      have HX2 := hide (HX1.out.below hb2 (by omega))
      have HA2 := hide (HA1.out.below hb2 (by omega))
      have HI2 := hide hAi
      clear hAi
      go_wp2_with fail
      refine (strans_any w.heap.size w1.heap.size Aa np np p w1.heap.size w2.heap.size Ai nx nx x _ HA2.out (by omega) HI2.out (by omega)).mono ?_
      rintro e w3 ⟨rfl, hb3⟩
      have z3 := hb3.size
      have h3 := h2.trans (hb3.mono (by omega))
      have HP3 := hide (HP2.out.below hb3 (by omega))
      have HX3 := hide (HX2.out.below hb3 (by omega))
      have HA3 := hide (HA2.out.below hb3 (by omega))
      have HI3 := hide (HI2.out.below hb3 (by omega))
      go_wp2_with fail
      refine (toPairS_any 0 w.heap.size Ap np cp p _ HP3.out (by omega) (by omega)).mono ?_
      rintro e w4 ⟨Ab, rfl, hAb, hb4⟩
      have z4 := hb4.size
      have h4 := h3.trans (hb4.mono (by omega))
      have HP4 := hide (HP3.out.below hb4 (by omega))
      have HX4 := hide (HX3.out.below hb4 (by omega))
      have HA4 := hide (HA3.out.below hb4 (by omega))
      have HI4 := hide (HI3.out.below hb4 (by omega))
      have HB4 := hide hAb
      clear hAb
      go_wp2_with fail
      refine (toIntS_any 0 w.heap.size Ax nx cx x _ HX4.out (by omega) (by omega)).mono ?_
      rintro e w5 ⟨Aj, rfl, hAj, hb5⟩
      have z5 := hb5.size
      have h5 := h4.trans (hb5.mono (by omega))
      have HP5 := hide (HP4.out.below hb5 (by omega))
      have HX5 := hide (HX4.out.below hb5 (by omega))
      have HA5 := hide (HA4.out.below hb5 (by omega))
      have HI5 := hide (HI4.out.below hb5 (by omega))
      have HB5 := hide (HB4.out.below hb5 (by omega))
      have HJ5 := hide hAj
      clear hAj
      go_wp2_with fail
      refine (trans_any w3.heap.size w4.heap.size Ab np np p w4.heap.size w5.heap.size Aj nx nx x _ HB5.out (by omega) HJ5.out (by omega) (by omega)).mono ?_
      rintro e w6 ⟨rfl, hb6⟩
      have z6 := hb6.size
      have h6 := h5.trans (hb6.mono (by omega))
      have HP6 := hide (HP5.out.below hb6 (by omega))
      have HX6 := hide (HX5.out.below hb6 (by omega))
      have HA6 := hide (HA5.out.below hb6 (by omega))
      have HI6 := hide (HI5.out.below hb6 (by omega))
      have HB6 := hide (HB5.out.below hb6 (by omega))
      have HJ6 := hide (HJ5.out.below hb6 (by omega))
      go_wp2_with fail
      refine (toPairS_any 0 w.heap.size Ap np cp p _ HP6.out (by omega) (by omega)).mono ?_
      rintro e w7 ⟨Ac, rfl, hAc, hb7⟩
      have z7 := hb7.size
      have h7 := h6.trans (hb7.mono (by omega))
      have HP7 := hide (HP6.out.below hb7 (by omega))
      have HX7 := hide (HX6.out.below hb7 (by omega))
      have HA7 := hide (HA6.out.below hb7 (by omega))
      have HI7 := hide (HI6.out.below hb7 (by omega))
      have HB7 := hide (HB6.out.below hb7 (by omega))
      have HJ7 := hide (HJ6.out.below hb7 (by omega))
      have HC7 := hide hAc
      clear hAc
      go_wp2_with fail
      refine (eqPairS_any w3.heap.size w4.heap.size w6.heap.size w7.heap.size Ab Ac np np np p _ HB7.out (by omega) HC7.out (by omega)).mono ?_
      rintro e w8 ⟨rfl, hb8⟩
      have z8 := hb8.size
      have h8 := h7.trans (hb8.mono (by omega))
      have HP8 := hide (HP7.out.below hb8 (by omega))
      have HX8 := hide (HX7.out.below hb8 (by omega))
      have HA8 := hide (HA7.out.below hb8 (by omega))
      have HI8 := hide (HI7.out.below hb8 (by omega))
      have HB8 := hide (HB7.out.below hb8 (by omega))
      have HJ8 := hide (HJ7.out.below hb8 (by omega))
      have HC8 := hide (HC7.out.below hb8 (by omega))
      go_wp2_with fail
      refine (toIntS_any 0 w.heap.size Ax nx cx x _ HX8.out (by omega) (by omega)).mono ?_
      rintro e w9 ⟨Ak, rfl, hAk, hb9⟩
      have z9 := hb9.size
      have h9 := h8.trans (hb9.mono (by omega))
      have HP9 := hide (HP8.out.below hb9 (by omega))
      have HX9 := hide (HX8.out.below hb9 (by omega))
      have HA9 := hide (HA8.out.below hb9 (by omega))
      have HI9 := hide (HI8.out.below hb9 (by omega))
      have HB9 := hide (HB8.out.below hb9 (by omega))
      have HJ9 := hide (HJ8.out.below hb9 (by omega))
      have HC9 := hide (HC8.out.below hb9 (by omega))
      have HK9 := hide hAk
      clear hAk
      go_wp2_with fail
      refine (eqIntS_any w4.heap.size w5.heap.size w8.heap.size w9.heap.size Aj Ak nx nx nx x _ HJ9.out (by omega) HK9.out (by omega)).mono ?_
      rintro e w10 ⟨rfl, hb10⟩
      have z10 := hb10.size
      have h10 := h9.trans (hb10.mono (by omega))
      have HP10 := hide (HP9.out.below hb10 (by omega))
      have HX10 := hide (HX9.out.below hb10 (by omega))
      have HA10 := hide (HA9.out.below hb10 (by omega))
      have HI10 := hide (HI9.out.below hb10 (by omega))
      have HB10 := hide (HB9.out.below hb10 (by omega))
      have HJ10 := hide (HJ9.out.below hb10 (by omega))
      have HC10 := hide (HC9.out.below hb10 (by omega))
      have HK10 := hide (HK9.out.below hb10 (by omega))
      go_wp2
      go_ret
      exact ⟨rfl, h10⟩
    · go_enter Try.func6, Try.ntmps6
      go_wp2_with fail
      refine (szPairS_no Ap np cp 1048576 _ (by omega) (by omega) (by omega) hp.cap hp.max).mono ?_
      rintro e w1 ⟨rfl, rfl⟩
      go_wp2
      go_ret
      exact ⟨rfl, Below.refl _ _⟩
  · have hpos : (1048576 : Int) < (nx : Int) := by omega
    go_enter Try.func6, Try.ntmps6
    go_wp2
    go_ret
    exact ⟨rfl, Below.refl _ _⟩
set_option maxRecDepth 100000 in
set_option maxHeartbeats 1000000 in
theorem lifted (os : Os) (started : os.Started) (H : Type) (enc : TypeId × Value → H) :
    ReturnsInHanded {} Try.checked os 6 .any (Rows.fnExactTransitiveSpec.pre6 enc Try.prog Try.f6 Rows.fnExactTransitiveRow.domain false) (Rows.fnExactTransitiveSpec.post enc Try.prog Try.f6 false true false false) := by
  refine returnsInHanded_of_change (C := Try.checked) ownK started (by kernel_rfl) Try.func6
    (ChangeSpec.witness6 (enc := enc) (C := Try.checked) false ⟨#[], #[.slice none 0 0, .slice none 0 0], []⟩ 8 (by kernel_rfl) (by kernel_rfl) (by kernel_rfl) (by kernel_rfl)) ?_
  intro W base args ds gs before hval0 hW hcnd _
  have hval : ∀ (j : Nat) t v, Try.f6.params[j]? = some t → args[j]? = some v → Value.okWide Try.prog W .any base t v := hval0
  have hW' := hW
  obtain ⟨p, q, hA0, hV, rfl, hfz, hnd⟩ := hW
  have hA : DataW.TrodAll enc Try.prog W 0 (fun _ => true) true Try.f6.params.toList args.toList ds p := hA0
  have hV' := hV
  obtain ⟨rfl, rfl⟩ := trodVars_none hV'
  rw [Try.params6] at hA hval
  obtain ⟨v0, vs0, d0, ds0, p0, q0, hargs, rfl, rfl, h0, r0⟩ := trodAll_cons hA
  obtain ⟨v1, vs1, d1, ds1, p1, q1, rfl, rfl, rfl, h1, r1⟩ := trodAll_cons r0
  obtain ⟨rfl, rfl, rfl⟩ := trodAll_nil r1
  obtain rfl : args = #[v0, v1] := by cases args; simp_all
  have hz0 : W.noneFrozen p0 := fun b off hin => hfz b off (by simp [hin])
  have hz1 : W.noneFrozen p1 := fun b off hin => hfz b off (by simp [hin])
  obtain ⟨Ap, np, cp, p, rfl, hp⟩ : ∃ A n c xs, v0 = .slice A n c ∧ SlK 2 encPr W 0 W.heap.size A n c xs := by
    obtain ⟨a0, len0, cap0, rfl⟩ := okWide_slice Try.underlying55 (hval 0 55 v0 rfl rfl)
    obtain ⟨fu, hf⟩ := h0
    exact open_prs Try.underlying55 rowPair cPair (by simpa [Value.cells] using hf) hz0
  obtain ⟨Ax, nx, cx, x, rfl, hx⟩ : ∃ A n c xs, v1 = .slice A n c ∧ SlK 1 encInt W 0 W.heap.size A n c xs := by
    obtain ⟨a0, len0, cap0, rfl⟩ := okWide_slice Try.underlying56 (hval 1 56 v1 rfl rfl)
    obtain ⟨fu, hf⟩ := h1
    exact open_is Try.underlying56 Try.underlying3 cInt (by simpa [Value.cells] using hf) hz1
  refine (walk Ap np cp p Ax nx cx x W hp hx).mono fun e W' ⟨he, hb⟩ => ?_
  subst he
  exact ⟨_, rfl, law_post laidO (by intro t ht; rw [Try.params6] at ht; simp only [List.mem_cons, List.not_mem_nil, or_false] at ht; rcases ht with rfl | rfl <;> exact ⟨by kernel_rfl, of_decide_eq_true (by kernel_rfl)⟩) rfl (by kernel_rfl) Try.underlying4 hW' rfl hb⟩

theorem over : Rows.fnExactTransitiveRow.holds Try.pinned (OpenSpec.ofChange Rows.fnExactTransitiveSpec) :=
  OpenClaim.holds_of_wide 6 Try.f6 rfl rfl rfl rfl rfl rfl rfl ⟨rfl, rfl, rfl, rfl, rfl⟩ rfl rfl rfl rfl rfl (by kernel_rfl) Try.func6 (by kernel_rfl)
    (of_decide_eq_true (by kernel_rfl)) (by unfold Func.isWrapper; first | (rw [if_pos (by decide +kernel)]; kernel_rfl) | (rw [if_neg (by decide +kernel)]; exact ⟨rfl, rfl⟩))
    (fun os started H enc _ => lifted os started H enc)

theorem proved : Rows.FnExactTransitiveSaid :=
  over
#print axioms proved
end Go.Proofs.Ytojmkkcjjlppiaa.fnExactTransitive
