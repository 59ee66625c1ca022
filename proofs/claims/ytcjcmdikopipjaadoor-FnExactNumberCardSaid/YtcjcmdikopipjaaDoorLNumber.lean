/- The law FnExactNumber holds for every input: the call answers true, and each argument reads afterwards as it read before. -/
import Derived.Test.YtcjcmdikopipjaaDoorNum
import Derived.Test.YtcjcmdikopipjaaDoorRw
import Derived.Test.YtcjcmdikopipjaaDoorS2
import Derived.Test.YtcjcmdikopipjaaDoorTie
import Derived.Test.YtcjcmdikopipjaaDoorCards
import Derived.SevenTiedAt
import Derived.LaidMore
import Derived.LaidHandle
import Derived.ProofKit
namespace Go.Proofs.YtcjcmdikopipjaaDoor.fnExactNumber
open Go.ChangeShapes Go.WideShapes Go.ChangeAt Go.RowKit Go.Deep
open Go.ChangeMaps (open_string)
set_option linter.unusedVariables false
set_option linter.unusedSimpArgs false

open Go.Joins

theorem walk (s : ByteArray) (w : World) (ws : s.size ≤ maxLen) (htab : Lib.TabIs Tryd.prog w "internal/strconv.uint64pow10" .u64 Lib.pow10Tab) (hrng : ∃ tp p, w.var? Tryd.prog "strconv.ErrRange" = some #[.iface tp p]) (hsyn : ∃ tp p, w.var? Tryd.prog "strconv.ErrSyntax" = some #[.iface tp p]) :
    Calls Tryd.prog 4 #[.string s] w fun e w' => e = .returned (.bool true) ∧ Below w.heap.size w w' := by
  by_cases hbig : s.size ≤ 1048576
  · have hb2 : ¬ ((1048576 : Int) < (s.size : Int)) := by omega
    have HT := hide htab
    obtain ⟨tr, pr, hr⟩ := hrng
    obtain ⟨ts, ps, hs⟩ := hsyn
    have HRG := hide hr
    have HSY := hide hs
    have HN := hide (fun W h1 h2 h3 => number_any s W hbig h1 h2 h3)
    obtain ⟨⟨rv, rb⟩, hrr⟩ : ∃ q, numR s = q := ⟨_, rfl⟩
    have HSN := hide (snumber_any s w hbig)
    rw [hrr] at HSN
    simp only [hrr] at HN
    clear htab hr hs hrr
    go_enter Tryd.func4, Tryd.ntmps4
    go_wp2_with fail
    refine HSN.out.mono ?_
    rintro e w1 ⟨rfl, hb1⟩
    have z1 := hb1.size
    have HT1 := hide (tab_stays gPow HT.out hb1 (Nat.le_refl _))
    have HR1 := hide (var_stays gRng HRG.out hb1 (Nat.le_refl _))
    have HS1 := hide (var_stays gSyn HSY.out hb1 (Nat.le_refl _))
    go_wp2_with fail
    refine (HN.out _ HT1.out ⟨_, _, HR1.out⟩ ⟨_, _, HS1.out⟩).mono ?_
    rintro e w2 ⟨rfl, hb2⟩
    have e1 : (rv != rv) = false := by simp
    have e2 : (rb != rb) = false := by simp
    go_wp2_with fail
    go_ret
    exact ⟨rfl, hb1.trans (hb2.mono z1)⟩
  · have hb2 : (1048576 : Int) < (s.size : Int) := by omega
    go_enter Tryd.func4, Tryd.ntmps4
    go_wp2
    go_ret
    exact ⟨rfl, Below.refl _ _⟩
/-- The door's own heap meets the condition. -/
theorem door_met (os : Os) (args : Array Value) : laidMetH Tryd.prog Rows.fnExactNumberRow.laid ((World.doorLaid Tryd.prog 62 os).forCall (fun _ _ => 0) ⟨#[], args, []⟩).memory :=
  laidMetH_of_parts3 (fuel := 8) (laidMet_of_run' 8 (by kernel_rfl) (by kernel_rfl)) (by kernel_rfl) (by kernel_rfl)
theorem met_plain {W : World} (h : laidMetH Tryd.prog Rows.fnExactNumberRow.laid W) : laidMet Tryd.prog Rows.fnExactNumberRow.laid W := by
  rw [MakeChecks.laidMetH_plain _ _ _ (by kernel_rfl)] at h
  exact h
theorem tab_of_laid {W : World} (h : laidMetH Tryd.prog Rows.fnExactNumberRow.laid W) : Lib.TabIs Tryd.prog W "internal/strconv.uint64pow10" .u64 Lib.pow10Tab :=
  Lib.tabIs_of_head gPow gPowTy Tryd.underlying160 Tryd.underlying143 cU64 cPow (met_plain h).tail.tail
theorem rng_of_laid {W : World} (h : laidMetH Tryd.prog Rows.fnExactNumberRow.laid W) : ∃ tp p, W.var? Tryd.prog "strconv.ErrRange" = some #[.iface tp p] := by
  obtain ⟨a0, s0, hv0, _⟩ := laid_sentinel (met_plain h).tail.tail.tail gRng gRngTy Tryd.underlying63 rowErr Tryd.underlying165 Tryd.underlying167 rfl rfl Tryd.underlying9 cErr cStr
  exact ⟨_, _, hv0⟩
theorem syn_of_laid {W : World} (h : laidMetH Tryd.prog Rows.fnExactNumberRow.laid W) : ∃ tp p, W.var? Tryd.prog "strconv.ErrSyntax" = some #[.iface tp p] := by
  obtain ⟨a0, s0, hv0, _⟩ := laid_sentinel (met_plain h).tail.tail.tail.tail gSyn gSynTy Tryd.underlying63 rowErr Tryd.underlying165 Tryd.underlying167 rfl rfl Tryd.underlying9 cErr cStr
  exact ⟨_, _, hv0⟩
set_option maxRecDepth 100000 in
set_option maxHeartbeats 1000000 in
theorem lifted (os : Os) (started : os.Started) (H : Type) (enc : TypeId × Value → H) :
    ReturnsInHanded {} Tryd.checked os 4 .any (fun w args => (Rows.fnExactNumberSpec.pre enc Tryd.prog Tryd.f4 [] false w args ∧ laidMetH Tryd.prog Rows.fnExactNumberRow.laid w) ∧ sizedMet enc Tryd.prog Tryd.f4 (OpenSpec.ofChange Rows.fnExactNumberSpec) false w args) (Rows.fnExactNumberSpec.post enc Tryd.prog Tryd.f4 false true false false) := by
  refine returnsInHanded_of_change_and (C := Tryd.checked) (X := fun w _ => laidMetH Tryd.prog Rows.fnExactNumberRow.laid w) (fun _ _ _ hh h => h.of_heap hh) ownK started (by kernel_rfl) Tryd.func4
    (ChangeSpec.witness_shaped (enc := enc) (C := Tryd.checked) (os := os) (X := fun w _ => laidMetH Tryd.prog Rows.fnExactNumberRow.laid w) false (World.doorLaid Tryd.prog 62 os) #[.string ByteArray.empty] 8 rfl (World.shaped_of_RefB (by kernel_rfl) (by kernel_rfl)) (by kernel_rfl) (by kernel_rfl) (by kernel_rfl) (door_met os _)) ?_
  intro W base args ds gs before hval0 hW _ _ hL _
  have hval : ∀ (j : Nat) t v, Tryd.f4.params[j]? = some t → args[j]? = some v → Value.okWide Tryd.prog W .any base t v := hval0
  have hW' := hW
  obtain ⟨p, q, hA0, hV, rfl, hfz, hnd⟩ := hW
  have hA : DataW.TrodAll enc Tryd.prog W 0 (fun _ => true) true Tryd.f4.params.toList args.toList ds p := hA0
  have hV' := hV
  obtain ⟨rfl, rfl⟩ := trodVars_none hV'
  rw [Tryd.params4] at hA hval
  obtain ⟨v0, vs0, d0, ds0, p0, q0, hargs, rfl, rfl, h0, r0⟩ := trodAll_cons hA
  obtain ⟨rfl, rfl, rfl⟩ := trodAll_nil r0
  obtain rfl : args = #[v0] := by cases args; simp_all
  have hz0 : W.noneFrozen p0 := fun b off hin => hfz b off (by simp [hin])
  obtain ⟨s, rfl, _, _, ws⟩ := open_string Tryd.underlying9 (hval 0 9 v0 rfl rfl) h0
  refine (walk s W ws (tab_of_laid hL) (rng_of_laid hL) (syn_of_laid hL)).mono fun e W' ⟨he, hb⟩ => ?_
  subst he
  exact ⟨_, rfl, law_post laidO (by intro t ht; rw [Tryd.params4] at ht; simp only [List.mem_cons, List.not_mem_nil, or_false] at ht; subst ht; exact ⟨by kernel_rfl, of_decide_eq_true (by kernel_rfl)⟩) rfl (by kernel_rfl) Tryd.underlying4 hW' rfl hb⟩

theorem over : Rows.fnExactNumberRow.holds Tryd.pinned (OpenSpec.ofChange Rows.fnExactNumberSpec) :=
  OpenClaim.holds_of_wide 4 Tryd.f4 rfl rfl rfl rfl rfl rfl rfl ⟨rfl, rfl, rfl, rfl, rfl⟩ rfl rfl rfl rfl rfl (by kernel_rfl) Tryd.func4 (by kernel_rfl)
    (of_decide_eq_true (by kernel_rfl)) (by unfold Func.isWrapper; first | (rw [if_pos (by decide +kernel)]; kernel_rfl) | (rw [if_neg (by decide +kernel)]; exact ⟨rfl, rfl⟩))
    (fun os started H enc _ => lifted os started H enc)

theorem proved : Rows.FnExactNumberCardSaid :=
  Claim7.holds_tied_plain_at .later [] [.data, .data, .data, .sentinel, .sentinel] true (true, "47db44bfef9637420b27c10cfcd8988c2986ee371ee12df26c06bbb8d457f40f") true
    over (fun _ h => by cases h) (by kernel_rfl) (fun _ h => by cases h) fnExactNumber_row_tie rfl ⟨rfl, rfl⟩ (by kernel_rfl) rfl
    (fun f fn hf hfn => by
      obtain rfl : f = 4 := Option.some.inj ((show Tryd.prog.funcNamed "loop.example/g00489/laws.FnExactNumber" = some 4 by kernel_rfl).symm.trans hf) |>.symm
      obtain rfl : fn = Tryd.f4 := (Option.some.inj (Tryd.func4.symm.trans hfn)).symm
      exact ⟨by kernel_rfl, fun j t ht => by
        rw [Tryd.params4] at ht
        have hm : t ∈ [9] := by simpa using Array.mem_of_getElem? ht
        have hall : ([9].all fun u => !Tryd.prog.wantsStandIn u) = true := by kernel_rfl
        exact (show Tryd.prog.wantsStandIn t = false by simpa using List.all_eq_true.1 hall t hm)⟩)
    (by kernel_rfl)
#print axioms proved
end Go.Proofs.YtcjcmdikopipjaaDoor.fnExactNumber
