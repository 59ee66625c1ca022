/- The law FnExactGroupOf holds for every input: the call answers true, and each argument reads afterwards as it read before. -/
import Derived.Test.YtojmkkcjjlppiaaGof
import Derived.Test.YtojmkkcjjlppiaaOpS
import Derived.Test.YtojmkkcjjlppiaaRw
import Derived.Test.YtojmkkcjjlppiaaS2
namespace Go.Proofs.Ytojmkkcjjlppiaa.fnExactGroupOf
open Go.ChangeShapes Go.WideShapes Go.ChangeAt Go.RowKit Go.Deep
open Go.ChangeMaps (open_string)
set_option linter.unusedVariables false
set_option linter.unusedSimpArgs false


theorem walk (Ag : Option Addr) (ng cg : Nat) (g : List IRow) (cl : Int) (w : World) (hg : RowsAt w 0 w.heap.size Ag ng cg g) (wcl : (Lit.int .i64 cl).wf = true) :
    Calls Try.prog 3 #[.slice Ag ng cg, .int .i64 cl] w fun e w' => e = .returned (.bool true) ∧ Below w.heap.size w w' := by
  have hq := hg.out.len
  have hq2 := hg.out.cap
  have hq3 := hg.out.max
  by_cases hsz : ng + totN g ≤ 1048576
  · go_enter Try.func3, Try.ntmps3
    have h0 : Below w.heap.size w w := Below.refl _ _
    have HG0 := hide hg
    clear hg
    go_wp2_with fail
    refine (szIntSS_ok 0 w.heap.size Ag ng cg g 1048576 _ HG0.out (Nat.le_refl _) (by omega) (by omega)).mono ?_
    rintro e w' ⟨⟨q, rfl, q0, q1⟩, rfl⟩
    have hneg : ¬ (q < 0) := by omega
    go_wp2_with fail
    refine (toIntSS_any 0 w.heap.size Ag ng cg g _ HG0.out (by omega) (by omega)).mono ?_
    rintro e w1 ⟨Aa, Aar, rfl, hAa, hEAa, hb1⟩
    have z1 := hb1.size
    have h1 := h0.trans (hb1.mono (by omega))
    have HG1 := hide (HG0.out.below hb1 (by omega))
    have HA1 := hide hAa
    have EHA := hide hEAa
    clear hAa hEAa
    go_wp2_with fail
    refine (sgof_any cl w.heap.size w1.heap.size Aa ng ng Aar _ HA1.out).mono ?_
    rw [EHA.out]
    rintro e w' ⟨rfl, rfl⟩
    go_wp2_with fail
    refine (toIntSS_any 0 w.heap.size Ag ng cg g _ HG1.out (by omega) (by omega)).mono ?_
    rintro e w2 ⟨Ab, Abr, rfl, hAb, hEAb, hb2⟩
    have z2 := hb2.size
    have h2 := h1.trans (hb2.mono (by omega))
    have HG2 := hide (HG1.out.below hb2 (by omega))
    have HA2 := hide (HA1.out.below hb2 (by omega))
    have HB2 := hide hAb
    have EHB := hide hEAb
    clear hAb hEAb
    go_wp2_with fail
    refine (gof_any cl w1.heap.size w2.heap.size Ab ng ng Abr _ HB2.out (by omega)).mono ?_
    rw [EHB.out]
    rintro e w3 ⟨rfl, hb3⟩
    have z3 := hb3.size
    have h3 := h2.trans (hb3.mono (by omega))
    have HG3 := hide (HG2.out.below hb3 (by omega))
    have HA3 := hide (HA2.out.below hb3 (by omega))
    have HB3 := hide (HB2.out.below hb3 (by omega))
    go_wp2_with fail
    refine (toIntSS_any 0 w.heap.size Ag ng cg g _ HG3.out (by omega) (by omega)).mono ?_
    rintro e w4 ⟨Ac, Acr, rfl, hAc, hEAc, hb4⟩
    have z4 := hb4.size
    have h4 := h3.trans (hb4.mono (by omega))
    have HG4 := hide (HG3.out.below hb4 (by omega))
    have HA4 := hide (HA3.out.below hb4 (by omega))
    have HB4 := hide (HB3.out.below hb4 (by omega))
    have HC4 := hide hAc
    have EHC := hide hEAc
    clear hAc hEAc
    go_wp2_with fail
    refine (eqIntSS_any w1.heap.size w2.heap.size w3.heap.size w4.heap.size Ab Ac ng ng ng Abr Acr _ HB4.out (by omega) HC4.out (by omega) (EHB.out.trans EHC.out.symm)).mono ?_
    rintro e w5 ⟨rfl, hb5⟩
    have z5 := hb5.size
    have h5 := h4.trans (hb5.mono (by omega))
    have HG5 := hide (HG4.out.below hb5 (by omega))
    have HA5 := hide (HA4.out.below hb5 (by omega))
    have HB5 := hide (HB4.out.below hb5 (by omega))
    have HC5 := hide (HC4.out.below hb5 (by omega))
    go_wp2
    go_ret
    exact ⟨rfl, h5⟩
  · go_enter Try.func3, Try.ntmps3
    go_wp2_with fail
    refine (szIntSS_no 0 w.heap.size Ag ng cg g 1048576 _ hg (Nat.le_refl _) (by omega) (by omega)).mono ?_
    rintro e w1 ⟨rfl, rfl⟩
    go_wp2
    go_ret
    exact ⟨rfl, Below.refl _ _⟩
set_option maxRecDepth 100000 in
set_option maxHeartbeats 1000000 in
theorem lifted (os : Os) (started : os.Started) (H : Type) (enc : TypeId × Value → H) :
    ReturnsInHanded {} Try.checked os 3 .any (Rows.fnExactGroupOfSpec.pre6 enc Try.prog Try.f3 Rows.fnExactGroupOfRow.domain false) (Rows.fnExactGroupOfSpec.post enc Try.prog Try.f3 false true false false) := by
  refine returnsInHanded_of_change (C := Try.checked) ownK started (by kernel_rfl) Try.func3
    (ChangeSpec.witness6 (enc := enc) (C := Try.checked) false ⟨#[], #[.slice none 0 0, .int .i64 0], []⟩ 8 (by kernel_rfl) (by kernel_rfl) (by kernel_rfl) (by kernel_rfl)) ?_
  intro W base args ds gs before hval0 hW hcnd _
  have hval : ∀ (j : Nat) t v, Try.f3.params[j]? = some t → args[j]? = some v → Value.okWide Try.prog W .any base t v := hval0
  have hW' := hW
  obtain ⟨p, q, hA0, hV, rfl, hfz, hnd⟩ := hW
  have hA : DataW.TrodAll enc Try.prog W 0 (fun _ => true) true Try.f3.params.toList args.toList ds p := hA0
  have hV' := hV
  obtain ⟨rfl, rfl⟩ := trodVars_none hV'
  rw [Try.params3] at hA hval
  obtain ⟨v0, vs0, d0, ds0, p0, q0, hargs, rfl, rfl, h0, r0⟩ := trodAll_cons hA
  obtain ⟨v1, vs1, d1, ds1, p1, q1, rfl, rfl, rfl, h1, r1⟩ := trodAll_cons r0
  obtain ⟨rfl, rfl, rfl⟩ := trodAll_nil r1
  obtain rfl : args = #[v0, v1] := by cases args; simp_all
  have hz0 : W.noneFrozen p0 := fun b off hin => hfz b off (by simp [hin])
  have hz1 : W.noneFrozen p1 := fun b off hin => hfz b off (by simp [hin])
  obtain ⟨Ag, ng, cg, g, rfl, hg⟩ : ∃ A n c xs, v0 = .slice A n c ∧ RowsAt W 0 W.heap.size A n c xs := by
    obtain ⟨a0, len0, cap0, rfl⟩ := okWide_slice Try.underlying22 (hval 0 22 v0 rfl rfl)
    obtain ⟨fu, hf⟩ := h0
    exact open_iss Try.underlying22 (by kernel_rfl) Try.underlying56 Try.underlying3 cInt (by simpa [Value.cells] using hf) hz0
  obtain ⟨cl, rfl, _, _, wcl⟩ := open_int Try.underlying3 (hval 1 3 v1 rfl rfl) h1
  refine (walk Ag ng cg g cl W hg wcl).mono fun e W' ⟨he, hb⟩ => ?_
  subst he
  exact ⟨_, rfl, law_post laidO (by intro t ht; rw [Try.params3] at ht; simp only [List.mem_cons, List.not_mem_nil, or_false] at ht; rcases ht with rfl | rfl <;> exact ⟨by kernel_rfl, of_decide_eq_true (by kernel_rfl)⟩) rfl (by kernel_rfl) Try.underlying4 hW' rfl hb⟩

theorem over : Rows.fnExactGroupOfRow.holds Try.pinned (OpenSpec.ofChange Rows.fnExactGroupOfSpec) :=
  OpenClaim.holds_of_wide 3 Try.f3 rfl rfl rfl rfl rfl rfl rfl ⟨rfl, rfl, rfl, rfl, rfl⟩ rfl rfl rfl rfl rfl (by kernel_rfl) Try.func3 (by kernel_rfl)
    (of_decide_eq_true (by kernel_rfl)) (by unfold Func.isWrapper; first | (rw [if_pos (by decide +kernel)]; kernel_rfl) | (rw [if_neg (by decide +kernel)]; exact ⟨rfl, rfl⟩))
    (fun os started H enc _ => lifted os started H enc)

theorem proved : Rows.FnExactGroupOfSaid :=
  over
#print axioms proved
end Go.Proofs.Ytojmkkcjjlppiaa.fnExactGroupOf
