/- The law FnExactSortDown holds for every input: the call answers true, and each argument reads afterwards as it read before. -/
import Derived.Test.YtkpakpjbpmnbgaaSup
import Derived.Test.YtkpakpjbpmnbgaaMrg
import Derived.Test.YtkpakpjbpmnbgaaRw
import Derived.Test.YtkpakpjbpmnbgaaS2
namespace Go.Proofs.Ytkpakpjbpmnbgaa.fnExactSortDown
open Go.ChangeShapes Go.WideShapes Go.ChangeAt Go.RowKit Go.Deep
open Go.ChangeMaps (open_string)
set_option linter.unusedVariables false
set_option linter.unusedSimpArgs false


set_option maxRecDepth 20000 in
set_option maxHeartbeats 2000000 in
theorem walk (As : Option Addr) (ns cs : Nat) (s : List Int) (w : World) (hs : SlK 1 encInt w 0 w.heap.size As ns cs s) :
    Calls Try.prog 3 #[.slice As ns cs] w fun e w' => e = .returned (.bool true) ∧ Below w.heap.size w w' := by
  have hq := hs.len
  have hq2 := hs.cap
  have hq3 := hs.max
  by_cases hsz : ns ≤ 1048576
  · have hneg : ¬ ((1048576 : Int) < (ns : Int)) := by omega
    have H0 := hide hs
    clear hs
    go_enter Try.func3, Try.ntmps3
    go_wp2_with fail
    refine (toIntS_any 0 w.heap.size As ns cs s _ H0.out (by omega) hsz).mono ?_
    rintro e w1 ⟨Aa, rfl, ha, hb1⟩
    have HA := hide ha
    have z1 := hb1.size
    have H1 := hide (H0.out.below hb1 (Nat.le_refl _))
    have LL1 := hide hb1
    clear ha hb1 H0
    go_wp2_with fail
    refine (ssortDown_any s _ _ Aa ns ns _ HA.out (Nat.le_refl _) hsz).mono ?_
    rintro e w2 ⟨v0, rfl, ho0, hb2⟩
    have HM := hide (show (sortBy s true (rng ns)).length = ns by rw [sortBy_len, rng_len])
    obtain ⟨A0, c0, rfl, s0⟩ := Own.slk' encInt_len HM.out ho0
    have HW2 := hide s0
    have z2 := hb2.size
    have H2 := hide (H1.out.below hb2 (by omega))
    have LL2 := hide (LL1.out.trans (hb2.mono (by omega)))
    clear ho0 s0 hb2 H1 LL1 HA
    go_wp2_with fail
    refine (toIntS_any 0 w.heap.size As ns cs s _ H2.out (by omega) hsz).mono ?_
    rintro e w3 ⟨Ab, rfl, hb, hb3⟩
    have HB3 := hide hb
    have z3 := hb3.size
    have H3 := hide (H2.out.below hb3 (by omega))
    have HW3 := hide (HW2.out.below hb3 (Nat.le_refl _))
    have LL3 := hide (LL2.out.trans (hb3.mono (by omega)))
    clear hb hb3 H2 HW2 LL2
    go_wp2_with fail
    refine (sortDown_all s _ _ Ab ns ns _ HB3.out (Nat.le_refl _) hsz).mono ?_
    rintro e w4 ⟨vg, rfl, hog, hb4⟩
    have HG4 := hide hog
    obtain ⟨Ag, cg, rfl, sg⟩ := Own.slk' encInt_len HM.out hog
    have SG := hide sg
    have z4 := hb4.size
    have H4 := hide (H3.out.below hb4 (by omega))
    have HW4 := hide (HW3.out.below hb4 (by omega))
    have HB4 := hide (HB3.out.below hb4 (Nat.le_refl _))
    have LL4 := hide (LL3.out.trans (hb4.mono (by omega)))
    clear hog sg hb4 H3 HW3 HB3 LL3
    go_wp2_with fail
    refine (eqIntS_any w3.heap.size w4.heap.size w1.heap.size w2.heap.size Ag A0 ns cg c0 (sortBy s true (rng ns)) _ SG.out (Nat.le_refl _) HW4.out (by omega)).mono ?_
    rintro e w5 ⟨rfl, hb5⟩
    have z5 := hb5.size
    have H5 := hide (H4.out.below hb5 (by omega))
    have HW5 := hide (HW4.out.below hb5 (by omega))
    have HB5 := hide (HB4.out.below hb5 (by omega))
    have HG5 := hide (HG4.out.below hb5)
    have LL5 := hide (LL4.out.trans (hb5.mono (by omega)))
    clear hb5 H4 HW4 HB4 HG4 LL4 SG
    go_wp2_with fail
    refine (toIntS_any 0 w.heap.size As ns cs s _ H5.out (by omega) hsz).mono ?_
    rintro e w6 ⟨Ac, rfl, hc, hb6⟩
    have HC6 := hide hc
    have z6 := hb6.size
    have H6 := hide (H5.out.below hb6 (by omega))
    have HW6 := hide (HW5.out.below hb6 (by omega))
    have HB6 := hide (HB5.out.below hb6 (by omega))
    have HG6 := hide (HG5.out.below hb6)
    have LL6 := hide (LL5.out.trans (hb6.mono (by omega)))
    clear hc hb6 H5 HW5 HB5 HG5 LL5
    go_wp2_with fail
    refine (eqIntS_any w2.heap.size w3.heap.size w5.heap.size w6.heap.size Ab Ac ns ns ns s _ HB6.out (by omega) HC6.out (Nat.le_refl _)).mono ?_
    rintro e w7 ⟨rfl, hb7⟩
    have z7 := hb7.size
    have H7 := hide (H6.out.below hb7 (by omega))
    have HW7 := hide (HW6.out.below hb7 (by omega))
    have HB7 := hide (HB6.out.below hb7 (by omega))
    have HG7 := hide (HG6.out.below hb7)
    have LL7 := hide (LL6.out.trans (hb7.mono (by omega)))
    clear hb7 H6 HW6 HB6 HG6 LL6 HC6
    go_wp2_with fail
    refine (markIntS_wr 1 w2.heap.size w3.heap.size Ab ns ns _ (HB7.out.wr encInt_len) (Nat.le_refl _) (by omega) hsz (by omega) (by omega)).mono ?_
    rintro e w8 ⟨rfl, hmk⟩
    have z8 : w8.heap.size = w7.heap.size := hmk.size
    have H8 := hide (hmk.slk H7.out (.inl (by omega)))
    have HW8 := hide (hmk.slk HW7.out (.inl (by omega)))
    have HG8 := hide (hmk.own HG7.out (by omega))
    have LL8 := hide (LL7.out.trans (MkB.below (B := w.heap.size) (Below.refl _ _ : Below w.heap.size w7 w7) hmk (by omega)))
    clear hmk H7 HW7 HB7 HG7 LL7
    obtain ⟨_, _, eg, sg⟩ := Own.slk' encInt_len HM.out HG8.out
    injection eg with e1 _ e3
    subst e1 e3
    have SG := hide sg
    clear sg
    have hk1 : ¬ ((1 : Int) + ns < 0) := by omega
    have hk2 : (0 : Int) ≤ 1 + ns := by omega
    go_wp2_with fail
    refine (eqIntS_any w3.heap.size w8.heap.size w1.heap.size w2.heap.size Ag A0 ns cg c0 (sortBy s true (rng ns)) _ SG.out (Nat.le_refl _) HW8.out (by omega)).mono ?_
    rintro e w9 ⟨rfl, hb9⟩
    have z9 := hb9.size
    have H9 := hide (H8.out.below hb9 (by omega))
    have HW9 := hide (HW8.out.below hb9 (by omega))
    have HG9 := hide (HG8.out.below hb9)
    have LL9 := hide (LL8.out.trans (hb9.mono (by omega)))
    clear hb9 H8 HW8 HG8 LL8 SG
    go_wp2_with fail
    refine (markIntS_own 1 w3.heap.size _ (sortBy s true (rng ns)) _ HG9.out (by rw [HM.out]; exact hsz) (by omega) (by omega)).mono ?_
    rw [HM.out]
    rintro e w10 ⟨rfl, hog, hgr⟩
    have hne : ∀ x, (Value.slice Ag ns cg).ownBlock = some x → w3.heap.size ≤ x := fun x hx => (HG9.out.lt x hx).1
    have H10 := hide (H9.out.grown hgr (by omega) (fun x hx => .inr (by have := hne x hx; omega)))
    have HW10 := hide (HW9.out.grown hgr (by omega) (fun x hx => .inr (by have := hne x hx; omega)))
    have LL10 := hide (LL9.out.grown hgr (by omega) (fun x hx => by have := hne x hx; omega))
    have HG10 := hide hog
    have z10 : w9.heap.size ≤ w10.heap.size := hgr.size
    obtain ⟨_, _, eg, sg⟩ := Own.slk' encInt_len (marks_len 1 ns) hog
    injection eg with e1 _ e3
    subst e1 e3
    have SG := hide sg
    clear hog hgr sg hne H9 HW9 HG9 LL9
    go_wp2_with fail
    refine (heldIntS_any 1 _ _ Ag ns cg _ SG.out hsz (by omega) (by omega)).mono ?_
    rintro e w' ⟨rfl, rfl⟩
    clear SG
    go_wp2_with fail
    refine (toIntS_any 0 w.heap.size As ns cs s _ H10.out (by omega) hsz).mono ?_
    rintro e w11 ⟨Ah, rfl, hh, hb11⟩
    have HH := hide hh
    have z11 := hb11.size
    have HW11 := hide (HW10.out.below hb11 (by omega))
    have HG11 := hide (HG10.out.below hb11)
    have LL11 := hide (LL10.out.trans (hb11.mono (by omega)))
    clear hh hb11 H10 HW10 HG10 LL10
    go_wp2_with fail
    refine (sortDown_all s _ _ Ah ns ns _ HH.out (Nat.le_refl _) hsz).mono ?_
    rintro e w12 ⟨vh, rfl, hoh, hb12⟩
    obtain ⟨Ai, ci, rfl, si⟩ := Own.slk' encInt_len HM.out hoh
    have SI := hide si
    have z12 := hb12.size
    have HW12 := hide (HW11.out.below hb12 (by omega))
    have HG12 := hide (HG11.out.below hb12)
    have LL12 := hide (LL11.out.trans (hb12.mono (by omega)))
    clear hoh si hb12 HW11 HG11 LL11 HH
    go_wp2_with fail
    refine (eqIntS_any w11.heap.size w12.heap.size w1.heap.size w2.heap.size Ai A0 ns ci c0 (sortBy s true (rng ns)) _ SI.out (Nat.le_refl _) HW12.out (by omega)).mono ?_
    rintro e w13 ⟨rfl, hb13⟩
    have z13 := hb13.size
    have HG13 := hide (HG12.out.below hb13)
    have LL13 := hide (LL12.out.trans (hb13.mono (by omega)))
    clear hb13 SI HW12 HG12 LL12
    obtain ⟨_, _, eg, sg⟩ := Own.slk' encInt_len (marks_len 1 ns) HG13.out
    injection eg with e1 _ e3
    subst e1 e3
    have SG := hide sg
    clear sg
    go_wp2_with fail
    refine (heldIntS_any 1 _ _ Ag ns cg _ SG.out hsz (by omega) (by omega)).mono ?_
    rintro e w' ⟨rfl, rfl⟩
    go_wp2
    go_ret
    exact ⟨rfl, LL13.out⟩
  · have hpos : ((1048576 : Int) < (ns : Int)) := by omega
    go_enter Try.func3, Try.ntmps3
    go_wp2
    go_ret
    exact ⟨rfl, Below.refl _ _⟩
set_option maxRecDepth 100000 in
set_option maxHeartbeats 1000000 in
theorem lifted (os : Os) (started : os.Started) (H : Type) (enc : TypeId × Value → H) :
    ReturnsInHanded {} Try.checked os 3 .any (Rows.fnExactSortDownSpec.pre6 enc Try.prog Try.f3 Rows.fnExactSortDownRow.domain false) (Rows.fnExactSortDownSpec.post enc Try.prog Try.f3 false true false false) := by
  refine returnsInHanded_of_change (C := Try.checked) ownK started (by kernel_rfl) Try.func3
    (ChangeSpec.witness6 (enc := enc) (C := Try.checked) false ⟨#[], #[.slice none 0 0], []⟩ 8 (by kernel_rfl) (by kernel_rfl) (by kernel_rfl) (by kernel_rfl)) ?_
  intro W base args ds gs before hval0 hW hcnd _
  have hval : ∀ (j : Nat) t v, Try.f3.params[j]? = some t → args[j]? = some v → Value.okWide Try.prog W .any base t v := hval0
  have hW' := hW
  obtain ⟨p, q, hA0, hV, rfl, hfz, hnd⟩ := hW
  have hA : DataW.TrodAll enc Try.prog W 0 (fun _ => true) true Try.f3.params.toList args.toList ds p := hA0
  have hV' := hV
  obtain ⟨rfl, rfl⟩ := trodVars_none hV'
  rw [Try.params3] at hA hval
  obtain ⟨v0, vs0, d0, ds0, p0, q0, hargs, rfl, rfl, h0, r0⟩ := trodAll_cons hA
  obtain ⟨rfl, rfl, rfl⟩ := trodAll_nil r0
  obtain rfl : args = #[v0] := by cases args; simp_all
  have hz0 : W.noneFrozen p0 := fun b off hin => hfz b off (by simp [hin])
  obtain ⟨As, ns, cs, s, rfl, hs⟩ : ∃ A n c xs, v0 = .slice A n c ∧ SlK 1 encInt W 0 W.heap.size A n c xs := by
    obtain ⟨a0, len0, cap0, rfl⟩ := okWide_slice Try.underlying22 (hval 0 22 v0 rfl rfl)
    obtain ⟨fu, hf⟩ := h0
    exact open_is Try.underlying22 Try.underlying3 cInt (by simpa [Value.cells] using hf) hz0
  refine (walk As ns cs s W hs).mono fun e W' ⟨he, hb⟩ => ?_
  subst he
  exact ⟨_, rfl, law_post laidO (by intro t ht; rw [Try.params3] at ht; simp only [List.mem_cons, List.not_mem_nil, or_false] at ht; subst ht; exact ⟨by kernel_rfl, of_decide_eq_true (by kernel_rfl)⟩) rfl (by kernel_rfl) Try.underlying4 hW' rfl hb⟩

theorem over : Rows.fnExactSortDownRow.holds Try.pinned (OpenSpec.ofChange Rows.fnExactSortDownSpec) :=
  OpenClaim.holds_of_wide 3 Try.f3 rfl rfl rfl rfl rfl rfl rfl ⟨rfl, rfl, rfl, rfl, rfl⟩ rfl rfl rfl rfl rfl (by kernel_rfl) Try.func3 (by kernel_rfl)
    (of_decide_eq_true (by kernel_rfl)) (by unfold Func.isWrapper; first | (rw [if_pos (by decide +kernel)]; kernel_rfl) | (rw [if_neg (by decide +kernel)]; exact ⟨rfl, rfl⟩))
    (fun os started H enc _ => lifted os started H enc)

theorem proved : Rows.FnExactSortDownSaid :=
  over
#print axioms proved
end Go.Proofs.Ytkpakpjbpmnbgaa.fnExactSortDown
