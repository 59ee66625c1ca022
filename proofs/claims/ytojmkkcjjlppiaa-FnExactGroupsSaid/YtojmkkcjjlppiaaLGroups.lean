/- The law FnExactGroups holds for every input: the call answers true, and each argument reads afterwards as it read before. -/
import Derived.Test.YtojmkkcjjlppiaaGps
import Derived.Test.YtojmkkcjjlppiaaMks
import Derived.Test.YtojmkkcjjlppiaaRw
import Derived.Test.YtojmkkcjjlppiaaS2
namespace Go.Proofs.Ytojmkkcjjlppiaa.fnExactGroups
open Go.ChangeShapes Go.WideShapes Go.ChangeAt Go.RowKit Go.Deep
open Go.ChangeMaps (open_string)
set_option linter.unusedVariables false
set_option linter.unusedSimpArgs false

theorem totX_grp {ps : List Pr} {xs : List Int} {rows : List IRow} (h : rowsL rows = grpR ps xs) : totX rows ≤ 4 := by
  have key : ∀ xs : List IRow, totX xs = sumL (rowsL xs) := by
    intro xs
    induction xs with
    | nil => rfl
    | cons x xs ih => rw [totX, ih]; simp [rowsL, sumL]
  rw [key, h]
  unfold grpR
  rw [groupsL_tot]
  exact kindsTo_len xs 4

set_option maxRecDepth 20000 in
set_option maxHeartbeats 2000000 in
theorem walk (Ap : Option Addr) (np cp : Nat) (p : List Pr) (Ax : Option Addr) (nx cx : Nat) (x : List Int) (w : World) (hp : SlK 2 encPr w 0 w.heap.size Ap np cp p) (hx : SlK 1 encInt w 0 w.heap.size Ax nx cx x) :
    Calls Try.prog 9 #[.slice Ap np cp, .slice Ax nx cx] w fun e w' => e = .returned (.bool true) ∧ Below w.heap.size w w' := by
  have hq := hp.len
  have hq2 := hp.cap
  have hq3 := hp.max
  have hr2 := hx.cap
  have hr3 := hx.max
  by_cases hlx : nx ≤ 1048576
  · have hneg0 : ¬ ((1048576 : Int) < (nx : Int)) := by omega
    by_cases hsz : np ≤ 1048576
    · have hneg : ¬ ((1048576 : Int) - np < 0) := by omega
      go_enter Try.func9, Try.ntmps9
      have h0 : Below w.heap.size w w := Below.refl _ _
      have HP0 := hide hp
      have HX0 := hide hx
      clear hp hx
      obtain ⟨N, hN⟩ : ∃ N, (grpR p x).length = N := ⟨_, rfl⟩
      have HN := hide hN
      clear hN
      go_wp2_with fail
      refine (szPairS_ok Ap np cp 1048576 _ (by omega) (by omega) HP0.out.cap HP0.out.max).mono ?_
      rintro e w' ⟨rfl, rfl⟩
      go_wp2_with fail
      refine (toPairS_any 0 w.heap.size Ap np cp p _ HP0.out (by omega) (by omega)).mono ?_
      rintro e w1 ⟨Aa, rfl, hAa, hb1⟩
      have z1 := hb1.size
      have h1 := h0.trans (hb1.mono (by omega))
      have HP1 := hide (HP0.out.below hb1 (by omega))
      have HX1 := hide (HX0.out.below hb1 (by omega))
      clear HP0 HX0
      have HA1 := hide hAa
      clear hAa
      go_wp2_with fail
      refine (toIntS_any 0 w.heap.size Ax nx cx x _ HX1.out (by omega) (by omega)).mono ?_
      rintro e w2 ⟨Ai, rfl, hAi, hb2⟩
      have z2 := hb2.size
      have h2 := h1.trans (hb2.mono (by omega))
      have HP2 := hide (HP1.out.below hb2 (by omega))
      have HX2 := hide (HX1.out.below hb2 (by omega))
      have HA2 := hide (HA1.out.below hb2 (by omega))
      clear HP1 HX1 HA1
      have HI2 := hide hAi
      clear hAi
      go_wp2_with fail
      refine (sgroups_any w.heap.size w1.heap.size Aa np np p w1.heap.size w2.heap.size Ai nx nx x _ HA2.out (by omega) HI2.out (by omega)).mono ?_
      rintro e w3 ⟨vw, rw0, rfl, hgvw, hEvw, hb3⟩
      have z3 := hb3.size
      have h3 := h2.trans (hb3.mono (by omega))
      have HP3 := hide (HP2.out.below hb3 (by omega))
      have HX3 := hide (HX2.out.below hb3 (by omega))
      have HA3 := hide (HA2.out.below hb3 (by omega))
      have HI3 := hide (HI2.out.below hb3 (by omega))
      clear HP2 HX2 HA2 HI2
      have Evw := hide hEvw
      have hlvw : rw0.length = N := by rw [← HN.out, ← hEvw]; simp [rowsL]
      have HLvw := hide hlvw
      obtain ⟨Avw, cvw, rfl, hrvw⟩ := hgvw.rows1 hlvw
      clear hEvw hlvw
      clear hgvw
      have HW3 := hide hrvw
      clear hrvw
      clear HA3
      clear HI3
      go_wp2_with fail
      refine (toPairS_any 0 w.heap.size Ap np cp p _ HP3.out (by omega) (by omega)).mono ?_
      rintro e w4 ⟨Ab, rfl, hAb, hb4⟩
      have z4 := hb4.size
      have h4 := h3.trans (hb4.mono (by omega))
      have HP4 := hide (HP3.out.below hb4 (by omega))
      have HX4 := hide (HX3.out.below hb4 (by omega))
      have HW4 := hide (HW3.out.below hb4 (by omega))
      clear HP3 HX3 HW3
      have HB4 := hide hAb
      clear hAb
      go_wp2_with fail
      refine (toIntS_any 0 w.heap.size Ax nx cx x _ HX4.out (by omega) (by omega)).mono ?_
      rintro e w5 ⟨Aj, rfl, hAj, hb5⟩
      have z5 := hb5.size
      have h5 := h4.trans (hb5.mono (by omega))
      have HP5 := hide (HP4.out.below hb5 (by omega))
      have HX5 := hide (HX4.out.below hb5 (by omega))
      have HW5 := hide (HW4.out.below hb5 (by omega))
      have HB5 := hide (HB4.out.below hb5 (by omega))
      clear HP4 HX4 HW4 HB4
      have HJ5 := hide hAj
      clear hAj
      go_wp2_with fail
      refine (groups_any w3.heap.size w4.heap.size Ab np np p w4.heap.size w5.heap.size Aj nx nx x _ HB5.out (by omega) HJ5.out (by omega) (by omega)).mono ?_
      rintro e w6 ⟨vg, rg, rfl, hgvg, hEvg, hb6⟩
      have z6 := hb6.size
      have h6 := h5.trans (hb6.mono (by omega))
      have HP6 := hide (HP5.out.below hb6 (by omega))
      have HX6 := hide (HX5.out.below hb6 (by omega))
      have HW6 := hide (HW5.out.below hb6 (by omega))
      have HB6 := hide (HB5.out.below hb6 (by omega))
      have HJ6 := hide (HJ5.out.below hb6 (by omega))
      clear HP5 HX5 HW5 HB5 HJ5
      have Evg := hide hEvg
      have hlvg : rg.length = N := by rw [← HN.out, ← hEvg]; simp [rowsL]
      have HLvg := hide hlvg
      obtain ⟨Avg, cvg, rfl, hrvg⟩ := hgvg.rows1 hlvg
      clear hEvg hlvg
      clear hrvg
      have HG6 := hide hgvg
      clear hgvg
      go_wp2_with fail
      refine (eqIntSS_any w5.heap.size w6.heap.size w2.heap.size w3.heap.size Avg Avw N cvg cvw rg rw0 _ ((HG6.out.rows2 HLvg.out)) (by omega) HW6.out (by omega) (Evg.out.trans Evw.out.symm)).mono ?_
      rintro e w7 ⟨rfl, hb7⟩
      have z7 := hb7.size
      have h7 := h6.trans (hb7.mono (by omega))
      have HP7 := hide (HP6.out.below hb7 (by omega))
      have HX7 := hide (HX6.out.below hb7 (by omega))
      have HW7 := hide (HW6.out.below hb7 (by omega))
      have HB7 := hide (HB6.out.below hb7 (by omega))
      have HJ7 := hide (HJ6.out.below hb7 (by omega))
      have HG7 := hide (HG6.out.below hb7)
      clear HP6 HX6 HW6 HB6 HJ6 HG6
      go_wp2_with fail
      refine (toPairS_any 0 w.heap.size Ap np cp p _ HP7.out (by omega) (by omega)).mono ?_
      rintro e w8 ⟨Ac, rfl, hAc, hb8⟩
      have z8 := hb8.size
      have h8 := h7.trans (hb8.mono (by omega))
      have HP8 := hide (HP7.out.below hb8 (by omega))
      have HX8 := hide (HX7.out.below hb8 (by omega))
      have HW8 := hide (HW7.out.below hb8 (by omega))
      have HB8 := hide (HB7.out.below hb8 (by omega))
      have HJ8 := hide (HJ7.out.below hb8 (by omega))
      have HG8 := hide (HG7.out.below hb8)
      clear HP7 HX7 HW7 HB7 HJ7 HG7
      have HC8 := hide hAc
      clear hAc
      go_wp2_with fail
      refine (eqPairS_any w3.heap.size w4.heap.size w7.heap.size w8.heap.size Ab Ac np np np p _ HB8.out (by omega) HC8.out (by omega)).mono ?_
      rintro e w9 ⟨rfl, hb9⟩
      have z9 := hb9.size
      have h9 := h8.trans (hb9.mono (by omega))
      have HP9 := hide (HP8.out.below hb9 (by omega))
      have HX9 := hide (HX8.out.below hb9 (by omega))
      have HW9 := hide (HW8.out.below hb9 (by omega))
      have HB9 := hide (HB8.out.below hb9 (by omega))
      have HJ9 := hide (HJ8.out.below hb9 (by omega))
      have HG9 := hide (HG8.out.below hb9)
      have HC9 := hide (HC8.out.below hb9 (by omega))
      clear HP8 HX8 HW8 HB8 HJ8 HG8 HC8
      clear HC9
      go_wp2_with fail
      refine (toIntS_any 0 w.heap.size Ax nx cx x _ HX9.out (by omega) (by omega)).mono ?_
      rintro e w10 ⟨Ak, rfl, hAk, hb10⟩
      have z10 := hb10.size
      have h10 := h9.trans (hb10.mono (by omega))
      have HP10 := hide (HP9.out.below hb10 (by omega))
      have HX10 := hide (HX9.out.below hb10 (by omega))
      have HW10 := hide (HW9.out.below hb10 (by omega))
      have HB10 := hide (HB9.out.below hb10 (by omega))
      have HJ10 := hide (HJ9.out.below hb10 (by omega))
      have HG10 := hide (HG9.out.below hb10)
      clear HP9 HX9 HW9 HB9 HJ9 HG9
      have HK10 := hide hAk
      clear hAk
      go_wp2_with fail
      refine (eqIntS_any w4.heap.size w5.heap.size w9.heap.size w10.heap.size Aj Ak nx nx nx x _ HJ10.out (by omega) HK10.out (by omega)).mono ?_
      rintro e w11 ⟨rfl, hb11⟩
      have z11 := hb11.size
      have h11 := h10.trans (hb11.mono (by omega))
      have HP11 := hide (HP10.out.below hb11 (by omega))
      have HX11 := hide (HX10.out.below hb11 (by omega))
      have HW11 := hide (HW10.out.below hb11 (by omega))
      have HB11 := hide (HB10.out.below hb11 (by omega))
      have HJ11 := hide (HJ10.out.below hb11 (by omega))
      have HG11 := hide (HG10.out.below hb11)
      have HK11 := hide (HK10.out.below hb11 (by omega))
      clear HP10 HX10 HW10 HB10 HJ10 HG10 HK10
      clear HK11
      go_wp2_with fail
      refine (markPairS_wr 1 w3.heap.size w4.heap.size Ab np np _ (HB11.out.wr encPr_len) (Nat.le_refl _) (by omega) (by omega) (by omega) (by omega)).mono ?_
      rintro e w12 ⟨rfl, hm12⟩
      have z12 : w11.heap.size ≤ w12.heap.size := by rw [hm12.size]; exact Nat.le_refl _
      have h12 := hm12.below h11 (by omega)
      have HP12 := hide (hm12.slk HP11.out (by omega))
      have HX12 := hide (hm12.slk HX11.out (by omega))
      have HW12 := hide (RowsAt.mkb hm12 HW11.out (by omega))
      have HJ12 := hide (hm12.slk HJ11.out (by omega))
      have HG12 := hide (GrpAt.mkb hm12 HG11.out (by omega))
      clear hm12 HP11 HX11 HW11 HB11 HJ11 HG11
      go_wp2_with fail
      refine (markIntS_wr (1 + 2 * np) w4.heap.size w5.heap.size Aj nx nx _ (HJ12.out.wr encInt_len) (Nat.le_refl _) (by omega) (by omega) (by omega) (by omega)).mono ?_
      rintro e w13 ⟨rfl, hm13⟩
      have z13 : w12.heap.size ≤ w13.heap.size := by rw [hm13.size]; exact Nat.le_refl _
      have h13 := hm13.below h12 (by omega)
      have HP13 := hide (hm13.slk HP12.out (by omega))
      have HX13 := hide (hm13.slk HX12.out (by omega))
      have HW13 := hide (RowsAt.mkb hm13 HW12.out (by omega))
      have HG13 := hide (GrpAt.mkb hm13 HG12.out (by omega))
      clear hm13 HP12 HX12 HW12 HJ12 HG12
      have hk1 : ¬ ((1 : Int) + 2 * np + nx < 0) := by omega
      go_wp2_with fail
      refine (eqIntSS_any w5.heap.size w13.heap.size w2.heap.size w3.heap.size Avg Avw N cvg cvw rg rw0 _ ((HG13.out.rows2 HLvg.out)) (by omega) HW13.out (by omega) (Evg.out.trans Evw.out.symm)).mono ?_
      rintro e w14 ⟨rfl, hb14⟩
      have z14 := hb14.size
      have h14 := h13.trans (hb14.mono (by omega))
      have HP14 := hide (HP13.out.below hb14 (by omega))
      have HX14 := hide (HX13.out.below hb14 (by omega))
      have HW14 := hide (HW13.out.below hb14 (by omega))
      have HG14 := hide (HG13.out.below hb14)
      clear HP13 HX13 HW13 HG13
      have ht := totX_grp Evg.out
      obtain ⟨TT, hTT⟩ : ∃ t, totX rg = t := ⟨_, rfl⟩
      rw [hTT] at ht
      have HT := hide hTT
      have hm1 : (1 : Int) + totX rg ≤ 1048576 := by rw [hTT]; omega
      have hm2 : totX rg ≤ 1048576 := by rw [hTT]; omega
      have HC1 := hide (fun W h => markIntSS_own 1 w5.heap.size (.slice Avg N cvg) rg W h hm2 (by omega) hm1)
      have HC2 := hide (fun W h => heldIntSS_any 1 w5.heap.size (.slice Avg N cvg) rg W h (by omega) hm1)
      rw [hTT] at HC1 HC2
      clear hTT hm1 hm2
      have hk2 : ¬ ((1 : Int) + TT < 0) := by omega
      go_wp2_with fail
      refine (HC1.out _ HG14.out).mono ?_
      rintro e w15 ⟨rfl, hgm, hb15⟩
      have z15 := hb15.size
      have h15 := h14.trans (hb15.mono (by omega))
      have HP15 := hide (HP14.out.below hb15 (by omega))
      have HX15 := hide (HX14.out.below hb15 (by omega))
      have HW15 := hide (HW14.out.below hb15 (by omega))
      have HG15 := hide hgm
      clear hgm HP14 HX14 HW14 HG14
      go_wp2_with fail
      refine (HC2.out _ HG15.out).mono ?_
      rintro e w' ⟨rfl, rfl⟩
      go_wp2_with fail
      refine (toPairS_any 0 w.heap.size Ap np cp p _ HP15.out (by omega) (by omega)).mono ?_
      rintro e w16 ⟨Ad, rfl, hAd, hb16⟩
      have z16 := hb16.size
      have h16 := h15.trans (hb16.mono (by omega))
      have HP16 := hide (HP15.out.below hb16 (by omega))
      have HX16 := hide (HX15.out.below hb16 (by omega))
      have HW16 := hide (HW15.out.below hb16 (by omega))
      have HG16 := hide (HG15.out.below hb16)
      clear HP15 HX15 HW15 HG15
      have HD16 := hide hAd
      clear hAd
      go_wp2_with fail
      refine (toIntS_any 0 w.heap.size Ax nx cx x _ HX16.out (by omega) (by omega)).mono ?_
      rintro e w17 ⟨Al, rfl, hAl, hb17⟩
      have z17 := hb17.size
      have h17 := h16.trans (hb17.mono (by omega))
      have HP17 := hide (HP16.out.below hb17 (by omega))
      have HX17 := hide (HX16.out.below hb17 (by omega))
      have HW17 := hide (HW16.out.below hb17 (by omega))
      have HG17 := hide (HG16.out.below hb17)
      have HD17 := hide (HD16.out.below hb17 (by omega))
      clear HP16 HX16 HW16 HG16 HD16
      have HL17 := hide hAl
      clear hAl
      go_wp2_with fail
      refine (groups_any w15.heap.size w16.heap.size Ad np np p w16.heap.size w17.heap.size Al nx nx x _ HD17.out (by omega) HL17.out (by omega) (by omega)).mono ?_
      rintro e w18 ⟨vh, rh, rfl, hgvh, hEvh, hb18⟩
      have z18 := hb18.size
      have h18 := h17.trans (hb18.mono (by omega))
      have HP18 := hide (HP17.out.below hb18 (by omega))
      have HX18 := hide (HX17.out.below hb18 (by omega))
      have HW18 := hide (HW17.out.below hb18 (by omega))
      have HG18 := hide (HG17.out.below hb18)
      have HD18 := hide (HD17.out.below hb18 (by omega))
      have HL18 := hide (HL17.out.below hb18 (by omega))
      clear HP17 HX17 HW17 HG17 HD17 HL17
      have Evh := hide hEvh
      have hlvh : rh.length = N := by rw [← HN.out, ← hEvh]; simp [rowsL]
      have HLvh := hide hlvh
      obtain ⟨Avh, cvh, rfl, hrvh⟩ := hgvh.rows1 hlvh
      clear hEvh hlvh
      clear hrvh
      have HH18 := hide hgvh
      clear hgvh
      clear HD18
      clear HL18
      go_wp2_with fail
      refine (eqIntSS_any w17.heap.size w18.heap.size w2.heap.size w3.heap.size Avh Avw N cvh cvw rh rw0 _ ((HH18.out.rows2 HLvh.out)) (by omega) HW18.out (by omega) (Evh.out.trans Evw.out.symm)).mono ?_
      rintro e w19 ⟨rfl, hb19⟩
      have z19 := hb19.size
      have h19 := h18.trans (hb19.mono (by omega))
      have HP19 := hide (HP18.out.below hb19 (by omega))
      have HX19 := hide (HX18.out.below hb19 (by omega))
      have HW19 := hide (HW18.out.below hb19 (by omega))
      have HG19 := hide (HG18.out.below hb19)
      clear HP18 HX18 HW18 HG18
      go_wp2_with fail
      refine (HC2.out _ HG19.out).mono ?_
      rintro e w' ⟨rfl, rfl⟩
      go_wp2
      go_ret
      exact ⟨rfl, h19⟩
    · go_enter Try.func9, Try.ntmps9
      go_wp2_with fail
      refine (szPairS_no Ap np cp 1048576 _ (by omega) (by omega) (by omega) hp.cap hp.max).mono ?_
      rintro e w1 ⟨rfl, rfl⟩
      go_wp2
      go_ret
      exact ⟨rfl, Below.refl _ _⟩
  · have hpos : (1048576 : Int) < (nx : Int) := by omega
    go_enter Try.func9, Try.ntmps9
    go_wp2
    go_ret
    exact ⟨rfl, Below.refl _ _⟩
set_option maxRecDepth 100000 in
set_option maxHeartbeats 1000000 in
theorem lifted (os : Os) (started : os.Started) (H : Type) (enc : TypeId × Value → H) :
    ReturnsInHanded {} Try.checked os 9 .any (Rows.fnExactGroupsSpec.pre6 enc Try.prog Try.f9 Rows.fnExactGroupsRow.domain false) (Rows.fnExactGroupsSpec.post enc Try.prog Try.f9 false true false false) := by
  refine returnsInHanded_of_change (C := Try.checked) ownK started (by kernel_rfl) Try.func9
    (ChangeSpec.witness6 (enc := enc) (C := Try.checked) false ⟨#[], #[.slice none 0 0, .slice none 0 0], []⟩ 8 (by kernel_rfl) (by kernel_rfl) (by kernel_rfl) (by kernel_rfl)) ?_
  intro W base args ds gs before hval0 hW hcnd _
  have hval : ∀ (j : Nat) t v, Try.f9.params[j]? = some t → args[j]? = some v → Value.okWide Try.prog W .any base t v := hval0
  have hW' := hW
  obtain ⟨p, q, hA0, hV, rfl, hfz, hnd⟩ := hW
  have hA : DataW.TrodAll enc Try.prog W 0 (fun _ => true) true Try.f9.params.toList args.toList ds p := hA0
  have hV' := hV
  obtain ⟨rfl, rfl⟩ := trodVars_none hV'
  rw [Try.params9] at hA hval
  obtain ⟨v0, vs0, d0, ds0, p0, q0, hargs, rfl, rfl, h0, r0⟩ := trodAll_cons hA
  obtain ⟨v1, vs1, d1, ds1, p1, q1, rfl, rfl, rfl, h1, r1⟩ := trodAll_cons r0
  obtain ⟨rfl, rfl, rfl⟩ := trodAll_nil r1
  obtain rfl : args = #[v0, v1] := by cases args; simp_all
  have hz0 : W.noneFrozen p0 := fun b off hin => hfz b off (by simp [hin])
  have hz1 : W.noneFrozen p1 := fun b off hin => hfz b off (by simp [hin])
  obtain ⟨Ap, np, cp, p, rfl, hp⟩ : ∃ A n c xs, v0 = .slice A n c ∧ SlK 2 encPr W 0 W.heap.size A n c xs := by
    obtain ⟨a0, len0, cap0, rfl⟩ := okWide_slice Try.underlying55 (hval 0 55 v0 rfl rfl)
    obtain ⟨fu, hf⟩ := h0
    exact open_prs Try.underlying55 rowPair cPair (by simpa [Value.cells] using hf) hz0
  obtain ⟨Ax, nx, cx, x, rfl, hx⟩ : ∃ A n c xs, v1 = .slice A n c ∧ SlK 1 encInt W 0 W.heap.size A n c xs := by
    obtain ⟨a0, len0, cap0, rfl⟩ := okWide_slice Try.underlying56 (hval 1 56 v1 rfl rfl)
    obtain ⟨fu, hf⟩ := h1
    exact open_is Try.underlying56 Try.underlying3 cInt (by simpa [Value.cells] using hf) hz1
  refine (walk Ap np cp p Ax nx cx x W hp hx).mono fun e W' ⟨he, hb⟩ => ?_
  subst he
  exact ⟨_, rfl, law_post laidO (by intro t ht; rw [Try.params9] at ht; simp only [List.mem_cons, List.not_mem_nil, or_false] at ht; rcases ht with rfl | rfl <;> exact ⟨by kernel_rfl, of_decide_eq_true (by kernel_rfl)⟩) rfl (by kernel_rfl) Try.underlying4 hW' rfl hb⟩

theorem over : Rows.fnExactGroupsRow.holds Try.pinned (OpenSpec.ofChange Rows.fnExactGroupsSpec) :=
  OpenClaim.holds_of_wide 9 Try.f9 rfl rfl rfl rfl rfl rfl rfl ⟨rfl, rfl, rfl, rfl, rfl⟩ rfl rfl rfl rfl rfl (by kernel_rfl) Try.func9 (by kernel_rfl)
    (of_decide_eq_true (by kernel_rfl)) (by unfold Func.isWrapper; first | (rw [if_pos (by decide +kernel)]; kernel_rfl) | (rw [if_neg (by decide +kernel)]; exact ⟨rfl, rfl⟩))
    (fun os started H enc _ => lifted os started H enc)

theorem proved : Rows.FnExactGroupsSaid :=
  over
#print axioms proved
end Go.Proofs.Ytojmkkcjjlppiaa.fnExactGroups
