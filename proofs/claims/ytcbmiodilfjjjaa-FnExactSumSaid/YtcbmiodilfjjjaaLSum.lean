/- The law FnExactSum holds for every input: the call answers true, and each argument reads afterwards as it read before. -/
import Derived.Test.YtcbmiodilfjjjaaD1
import Derived.Test.YtcbmiodilfjjjaaRw
import Derived.Test.YtcbmiodilfjjjaaS2
namespace Go.Proofs.Ytcbmiodilfjjjaa.fnExactSum
open Go.ChangeShapes Go.WideShapes Go.ChangeAt Go.RowKit Go.Deep
open Go.ChangeMaps (open_string)
set_option linter.unusedVariables false
set_option linter.unusedSimpArgs false


theorem walk (As : Option Addr) (ns cs : Nat) (s : List Int) (w : World) (hs : SlK 1 encInt w 0 w.heap.size As ns cs s) :
    Calls Try.prog 3 #[.slice As ns cs] w fun e w' => e = .returned (.bool true) ∧ Below w.heap.size w w' := by
  have hq := hs.len
  have hq2 := hs.cap
  have hq3 := hs.max
  by_cases hsz : ns ≤ 1048576
  · have hneg : ¬ ((1048576 : Int) < (ns : Int)) := by omega
    have H0 := hide hs
    clear hs
    go_enter Try.func3, Try.ntmps3
    go_wp2_with fail
    refine (toIntS_any 0 w.heap.size As ns cs s _ H0.out (by omega) hsz).mono ?_
    rintro e w1 ⟨Aa, rfl, ha, hb1⟩
    have HA := hide ha
    clear ha
    go_wp2_with fail
    refine (ssum_any _ _ _ _ _ s _ HA.out hsz).mono ?_
    rintro e w1' ⟨rfl, rfl⟩
    go_wp2_with fail
    have z1 := hb1.size
    refine (toIntS_any 0 w.heap.size As ns cs s _ (H0.out.below hb1 (Nat.le_refl _)) (by omega) hsz).mono ?_
    rintro e w2 ⟨Ab, rfl, hb, hb2⟩
    have HB := hide hb
    clear hb
    go_wp2_with fail
    refine (sum_any _ _ _ _ _ s _ HB.out hsz).mono ?_
    rintro e w2' ⟨rfl, rfl⟩
    go_wp2_with fail
    have z2 := hb2.size
    have h2 := hb1.trans (hb2.mono z1)
    refine (toIntS_any 0 w.heap.size As ns cs s _ (H0.out.below h2 (Nat.le_refl _)) (by omega) hsz).mono ?_
    rintro e w3 ⟨Ac, rfl, hc, hb3⟩
    have HC := hide hc
    clear hc
    have z3 := hb3.size
    go_wp2_with fail
    refine (eqIntS_any _ _ _ _ _ _ _ _ _ s _ (HB.out.below hb3 (Nat.le_refl _)) (by omega) HC.out (Nat.le_refl _)).mono ?_
    rintro e w4 ⟨rfl, hb4⟩
    go_wp2
    go_ret
    exact ⟨rfl, (h2.trans (hb3.mono (by omega))).trans (hb4.mono (by omega))⟩
  · have hpos : ((1048576 : Int) < (ns : Int)) := by omega
    go_enter Try.func3, Try.ntmps3
    go_wp2
    go_ret
    exact ⟨rfl, Below.refl _ _⟩
set_option maxRecDepth 100000 in
set_option maxHeartbeats 1000000 in
theorem lifted (os : Os) (started : os.Started) (H : Type) (enc : TypeId × Value → H) :
    ReturnsInHanded {} Try.checked os 3 .any (Rows.fnExactSumSpec.pre6 enc Try.prog Try.f3 Rows.fnExactSumRow.domain false) (Rows.fnExactSumSpec.post enc Try.prog Try.f3 false true false false) := by
  refine returnsInHanded_of_change (C := Try.checked) ownK started (by kernel_rfl) Try.func3
    (ChangeSpec.witness6 (enc := enc) (C := Try.checked) false ⟨#[], #[.slice none 0 0], []⟩ 8 (by kernel_rfl) (by kernel_rfl) (by kernel_rfl) (by kernel_rfl)) ?_
  intro W base args ds gs before hval0 hW hcnd _
  have hval : ∀ (j : Nat) t v, Try.f3.params[j]? = some t → args[j]? = some v → Value.okWide Try.prog W .any base t v := hval0
  have hW' := hW
  obtain ⟨p, q, hA0, hV, rfl, hfz, hnd⟩ := hW
  have hA : DataW.TrodAll enc Try.prog W 0 (fun _ => true) true Try.f3.params.toList args.toList ds p := hA0
  have hV' := hV
  obtain ⟨rfl, rfl⟩ := trodVars_none hV'
  rw [Try.params3] at hA hval
  obtain ⟨v0, vs0, d0, ds0, p0, q0, hargs, rfl, rfl, h0, r0⟩ := trodAll_cons hA
  obtain ⟨rfl, rfl, rfl⟩ := trodAll_nil r0
  obtain rfl : args = #[v0] := by cases args; simp_all
  have hz0 : W.noneFrozen p0 := fun b off hin => hfz b off (by simp [hin])
  obtain ⟨As, ns, cs, s, rfl, hs⟩ : ∃ A n c xs, v0 = .slice A n c ∧ SlK 1 encInt W 0 W.heap.size A n c xs := by
    obtain ⟨a0, len0, cap0, rfl⟩ := okWide_slice Try.underlying22 (hval 0 22 v0 rfl rfl)
    obtain ⟨fu, hf⟩ := h0
    exact open_is Try.underlying22 Try.underlying3 cInt (by simpa [Value.cells] using hf) hz0
  refine (walk As ns cs s W hs).mono fun e W' ⟨he, hb⟩ => ?_
  subst he
  exact ⟨_, rfl, law_post laidO (by intro t ht; rw [Try.params3] at ht; simp only [List.mem_cons, List.not_mem_nil, or_false] at ht; subst ht; exact ⟨by kernel_rfl, of_decide_eq_true (by kernel_rfl)⟩) rfl (by kernel_rfl) Try.underlying4 hW' rfl hb⟩

theorem over : Rows.fnExactSumRow.holds Try.pinned (OpenSpec.ofChange Rows.fnExactSumSpec) :=
  OpenClaim.holds_of_wide 3 Try.f3 rfl rfl rfl rfl rfl rfl rfl ⟨rfl, rfl, rfl, rfl, rfl⟩ rfl rfl rfl rfl rfl (by kernel_rfl) Try.func3 (by kernel_rfl)
    (of_decide_eq_true (by kernel_rfl)) (by unfold Func.isWrapper; first | (rw [if_pos (by decide +kernel)]; kernel_rfl) | (rw [if_neg (by decide +kernel)]; exact ⟨rfl, rfl⟩))
    (fun os started H enc _ => lifted os started H enc)

theorem proved : Rows.FnExactSumSaid :=
  over
#print axioms proved
end Go.Proofs.Ytcbmiodilfjjjaa.fnExactSum
