/- The law FnExactReadOrder holds for every input: the call answers true, and each argument reads afterwards as it read before. -/
import Derived.Test.YtcjcmdikopipjaaDoorRds
import Derived.Test.YtcjcmdikopipjaaDoorMkp
import Derived.Test.YtcjcmdikopipjaaDoorRw
import Derived.Test.YtcjcmdikopipjaaDoorS2
import Derived.Test.YtcjcmdikopipjaaDoorTie
import Derived.Test.YtcjcmdikopipjaaDoorCards
import Derived.SevenTiedAt
import Derived.LaidMore
import Derived.LaidHandle
import Derived.ProofKit
namespace Go.Proofs.YtcjcmdikopipjaaDoor.fnExactReadOrder
open Go.ChangeShapes Go.WideShapes Go.ChangeAt Go.RowKit Go.Deep
open Go.ChangeMaps (open_string)
set_option linter.unusedVariables false
set_option linter.unusedSimpArgs false

open Go.Joins

set_option maxRecDepth 20000 in
set_option maxHeartbeats 4000000 in
theorem walk (s : ByteArray) (w : World) (ws : s.size ≤ maxLen) (htab : Lib.TabIs Tryd.prog w "internal/strconv.uint64pow10" .u64 Lib.pow10Tab) (hrng : ∃ tp p, w.var? Tryd.prog "strconv.ErrRange" = some #[.iface tp p]) (hsyn : ∃ tp p, w.var? Tryd.prog "strconv.ErrSyntax" = some #[.iface tp p]) :
    Calls Tryd.prog 8 #[.string s] w fun e w' => e = .returned (.bool true) ∧ Below w.heap.size w w' := by
  obtain ⟨tr, pr, hr⟩ := hrng
  obtain ⟨ts, ps, hsy⟩ := hsyn
  by_cases hbig : s.size ≤ 1048576
  · have hb2 : ¬ ((1048576 : Int) < (s.size : Int)) := by omega
    have HI := hide (fun (W : World) (hb : Below w.heap.size w W) => readOrder_any s W hbig (tab_stays gPow htab hb (Nat.le_refl _)) ⟨_, _, var_stays gRng hr hb (Nat.le_refl _)⟩ ⟨_, _, var_stays gSyn hsy hb (Nat.le_refl _)⟩)
    have HSP := hide (sreadOrder_any s w hbig)
    obtain ⟨⟨r, ai⟩, hrr⟩ : ∃ q, readS s = q := ⟨_, rfl⟩
    rw [hrr] at HSP
    simp only [hrr] at HI
    unfold rqV rdCells at HI HSP
    have hai : (ai != ai) = false := by simp
    clear htab hr hsy hrr
    go_enter Tryd.func8, Tryd.ntmps8
    go_wp2_with fail
    refine HSP.out.mono ?_
    rintro e w1 ⟨⟨a1, a2, a3, rfl, ho1, hlen⟩, hb1⟩
    have hl3 : r.pairs.length + r.types.length + r.items.length ≤ 60 := hlen
    obtain ⟨A1, Ac1, A2, Ac2, A3, Ac3, rfl, rfl, rfl, _⟩ := ho1.rqAt
    have HA1 := hide ho1.atS
    have z1 := hb1.size
    have L1 := hide hb1
    clear ho1 hb1 hlen
    go_wp2_with fail
    refine (HI.out _ (by repeat (first | with_reducible exact Below.refl _ _ | with_reducible assumption | with_reducible refine Below.setCell ?_ (by (try simp) <;> omega) _ | with_reducible refine Below.alloc ?_ (by (try simp) <;> omega) _ | with_reducible refine Below.drew ?_ | with_reducible refine below_drewN ?_ _ | with_reducible exact L1.out | with_reducible refine Below.trans ?_ (Below.mono L1.out (by (try simp) <;> omega))))).mono ?_
    rintro e w2 ⟨⟨b1, b2, b3, rfl, ho2, hlen⟩, hb2⟩
    obtain ⟨B1, Bc1, B2, Bc2, B3, Bc3, rfl, rfl, rfl, _⟩ := ho2.rqAt
    have z2 := hb2.size
    simp only [World.size_alloc] at z2
    have HO2 : Hid (RqOwn w2 (w1.heap.size + 1) r (.slice B1 r.pairs.length Bc1) (.slice B2 r.types.length Bc2) (.slice B3 r.items.length Bc3)) := hide (by simpa only [World.size_alloc] using ho2)
    have PX2 := hide (Blk.belowH (Blk.new w1 41 #[.int .i64 r.way, .int .i64 r.pal.w, .int .i64 r.pal.d, .int .i64 r.pal.h, .int .i64 r.pal.gram, .int .i64 r.cls, .slice A1 r.pairs.length Ac1, .slice A2 r.types.length Ac2, .int .i64 r.master, .slice A3 r.items.length Ac3] (g := w1.heap.size) rfl) hb2)
    have HA2 := hide ((HA1.out.alloc (Nat.le_refl _) (.cells #[.int .i64 r.way, .int .i64 r.pal.w, .int .i64 r.pal.d, .int .i64 r.pal.h, .int .i64 r.pal.gram, .int .i64 r.cls, .slice A1 r.pairs.length Ac1, .slice A2 r.types.length Ac2, .int .i64 r.master, .slice A3 r.items.length Ac3] 41)).below hb2 (by simp))
    have L2 := hide (show Below w.heap.size w w2 from (by repeat (first | with_reducible exact Below.refl _ _ | with_reducible assumption | with_reducible refine Below.setCell ?_ (by (try simp) <;> omega) _ | with_reducible refine Below.alloc ?_ (by (try simp) <;> omega) _ | with_reducible refine Below.drew ?_ | with_reducible refine below_drewN ?_ _ | with_reducible exact L1.out | with_reducible exact hb2 | with_reducible refine Below.trans ?_ (Below.mono L1.out (by (try simp) <;> omega)) | with_reducible refine Below.trans ?_ (Below.mono hb2 (by (try simp) <;> omega)))))
    have kX := PX2.out.cell
    have yX := PX2.out.lt
    clear ho2 hb2 HA1 L1 hlen
    go_wp2_with fail
    refine (eqRequest_any r B1 B2 B3 r.pairs.length r.types.length r.items.length Bc1 Bc2 Bc3 A1 A2 A3 r.pairs.length r.types.length r.items.length Ac1 Ac2 Ac3 (w1.heap.size + 1) w2.heap.size w.heap.size w1.heap.size _ (HO2.out.atS.alloc (Nat.le_refl _) _) (by simp) (HA2.out.alloc (by omega) _) (by simp; omega)).mono ?_
    rintro e w3 ⟨rfl, hb3⟩
    have z3 := hb3.size
    simp only [World.size_alloc] at z3
    have PX3 := hide ((PX2.out.alloc _).belowH hb3)
    have PY3 := hide (Blk.belowH (Blk.new w2 41 #[.int .i64 r.way, .int .i64 r.pal.w, .int .i64 r.pal.d, .int .i64 r.pal.h, .int .i64 r.pal.gram, .int .i64 r.cls, .slice B1 r.pairs.length Bc1, .slice B2 r.types.length Bc2, .int .i64 r.master, .slice B3 r.items.length Bc3] (g := w2.heap.size) rfl) hb3)
    have HA3 := hide ((HA2.out.alloc (by omega) (.cells #[.int .i64 r.way, .int .i64 r.pal.w, .int .i64 r.pal.d, .int .i64 r.pal.h, .int .i64 r.pal.gram, .int .i64 r.cls, .slice B1 r.pairs.length Bc1, .slice B2 r.types.length Bc2, .int .i64 r.master, .slice B3 r.items.length Bc3] 41)).below hb3 (by simp; omega))
    have HO3 := hide ((HO2.out.alloc (.cells #[.int .i64 r.way, .int .i64 r.pal.w, .int .i64 r.pal.d, .int .i64 r.pal.h, .int .i64 r.pal.gram, .int .i64 r.cls, .slice B1 r.pairs.length Bc1, .slice B2 r.types.length Bc2, .int .i64 r.master, .slice B3 r.items.length Bc3] 41)).below hb3)
    have L3 := hide (show Below w.heap.size w w3 from (by repeat (first | with_reducible exact Below.refl _ _ | with_reducible assumption | with_reducible refine Below.setCell ?_ (by (try simp) <;> omega) _ | with_reducible refine Below.alloc ?_ (by (try simp) <;> omega) _ | with_reducible refine Below.drew ?_ | with_reducible refine below_drewN ?_ _ | with_reducible exact L2.out | with_reducible exact hb3 | with_reducible refine Below.trans ?_ (Below.mono L2.out (by (try simp) <;> omega)) | with_reducible refine Below.trans ?_ (Below.mono hb3 (by (try simp) <;> omega)))))
    have q1 := hide (fun z hz => (HO2.out.pr.lt z hz).2)
    have q2 := hide (fun z hz => (HO2.out.ty.lt z hz).2)
    have q3 := hide (fun z hz => (HO2.out.it.lt z hz).2)
    clear hb3 kX yX PX2 HA2 HO2 L2
    have kY := PY3.out.cell
    have yY := PY3.out.lt
    go_wp2_with fail
    refine (markRequest_keep r _ _ _ (w1.heap.size + 1) _ HO3.out (by omega) (by omega)).mono ?_
    rintro e w4 ⟨rfl, ho4, hb4, hkp⟩
    have z4 := hb4.size
    have HO4 := hide ho4
    have HM4 := hide ho4.atS
    have PX4 := hide (PX3.out.below hb4 (by omega))
    have PY4 := hide (hkp w2.heap.size _ _ PY3.out (fun e => by have := q1.out _ e; omega) (fun e => by have := q2.out _ e; omega) (fun e => by have := q3.out _ e; omega))
    have HA4 := hide (HA3.out.below hb4 (by omega))
    have L4 := hide (L3.out.trans (hb4.mono (by omega)))
    have hk1 : ¬ ((1 : Int) + 2 * (r.pairs.length : Int) + 7 * (r.types.length : Int) + 7 * (r.items.length : Int) < 0) := by omega
    clear ho4 hb4 hkp kY yY PX3 PY3 HA3 HO3 L3
    have kY := PY4.out.cell
    have yY := PY4.out.lt
    go_wp2_with fail
    refine (heldRequest_any r B1 B2 B3 r.pairs.length r.types.length r.items.length Bc1 Bc2 Bc3 (w1.heap.size + 1) w4.heap.size _ HM4.out (Nat.le_refl _) rfl rfl rfl (by omega)).mono ?_
    rintro e w5 ⟨rfl, hb5⟩
    have z5 := hb5.size
    have PX5 := hide (PX4.out.belowH hb5)
    have PY5 := hide (PY4.out.belowH hb5)
    have HA5 := hide (HA4.out.below hb5 (by omega))
    have HM5 := hide (HM4.out.below hb5 (Nat.le_refl _))
    have L5 := hide (L4.out.trans (hb5.mono (by omega)))
    clear hb5 kY yY PX4 PY4 HA4 HM4 L4 HO4
    go_wp2_with fail
    refine (HI.out _ L5.out).mono ?_
    rintro e w6 ⟨⟨d1, d2, d3, rfl, ho6, hlen⟩, hb6⟩
    obtain ⟨D1, Dc1, D2, Dc2, D3, Dc3, rfl, rfl, rfl, _⟩ := ho6.rqAt
    have z6 := hb6.size
    have HD6 := hide ho6.atS
    have PX6 := hide (PX5.out.belowH hb6)
    have PY6 := hide (PY5.out.belowH hb6)
    have HA6 := hide (HA5.out.below hb6 (by omega))
    have HM6 := hide (HM5.out.below hb6 (by omega))
    have L6 := hide (L5.out.trans (hb6.mono (by omega)))
    clear hb6 ho6 PX5 PY5 HA5 HM5 L5 hlen
    have kX := PX6.out.cell
    have yX := PX6.out.lt
    go_wp2_with fail
    refine (eqRequest_any r D1 D2 D3 r.pairs.length r.types.length r.items.length Dc1 Dc2 Dc3 A1 A2 A3 r.pairs.length r.types.length r.items.length Ac1 Ac2 Ac3 w5.heap.size w6.heap.size w.heap.size w1.heap.size _ (HD6.out.alloc (Nat.le_refl _) _) (by simp) (HA6.out.alloc (by omega) _) (by simp; omega)).mono ?_
    rintro e w7 ⟨rfl, hb7⟩
    have z7 := hb7.size
    simp only [World.size_alloc] at z7
    have PY7 := hide ((PY6.out.alloc _).belowH hb7)
    have HM7 := hide ((HM6.out.alloc (by omega) (.cells #[.int .i64 r.way, .int .i64 r.pal.w, .int .i64 r.pal.d, .int .i64 r.pal.h, .int .i64 r.pal.gram, .int .i64 r.cls, .slice D1 r.pairs.length Dc1, .slice D2 r.types.length Dc2, .int .i64 r.master, .slice D3 r.items.length Dc3] 41)).below hb7 (by simp; omega))
    have L7 := hide (show Below w.heap.size w w7 from (by repeat (first | with_reducible exact Below.refl _ _ | with_reducible assumption | with_reducible refine Below.setCell ?_ (by (try simp) <;> omega) _ | with_reducible refine Below.alloc ?_ (by (try simp) <;> omega) _ | with_reducible refine Below.drew ?_ | with_reducible refine below_drewN ?_ _ | with_reducible exact L6.out | with_reducible exact hb7 | with_reducible refine Below.trans ?_ (Below.mono L6.out (by (try simp) <;> omega)) | with_reducible refine Below.trans ?_ (Below.mono hb7 (by (try simp) <;> omega)))))
    clear hb7 kX yX PX6 PY6 HA6 HM6 L6
    have kY := PY7.out.cell
    have yY := PY7.out.lt
    go_wp2_with fail
    refine (heldRequest_any r B1 B2 B3 r.pairs.length r.types.length r.items.length Bc1 Bc2 Bc3 (w1.heap.size + 1) w4.heap.size _ HM7.out (by omega) rfl rfl rfl (by omega)).mono ?_
    rintro e w8 ⟨rfl, hb8⟩
    go_wp2_with fail
    go_ret
    exact ⟨rfl, L7.out.trans (hb8.mono (by have := L7.out.size; omega))⟩
  · have hb2 : (1048576 : Int) < (s.size : Int) := by omega
    go_enter Tryd.func8, Tryd.ntmps8
    go_wp2
    go_ret
    exact ⟨rfl, Below.refl _ _⟩
/-- The door's own heap meets the condition. -/
theorem door_met (os : Os) (args : Array Value) : laidMetH Tryd.prog Rows.fnExactReadOrderRow.laid ((World.doorLaid Tryd.prog 62 os).forCall (fun _ _ => 0) ⟨#[], args, []⟩).memory :=
  laidMetH_of_parts3 (fuel := 8) (laidMet_of_run' 8 (by kernel_rfl) (by kernel_rfl)) (by kernel_rfl) (by kernel_rfl)
theorem met_plain {W : World} (h : laidMetH Tryd.prog Rows.fnExactReadOrderRow.laid W) : laidMet Tryd.prog Rows.fnExactReadOrderRow.laid W := by
  rw [MakeChecks.laidMetH_plain _ _ _ (by kernel_rfl)] at h
  exact h
theorem tab_of_laid {W : World} (h : laidMetH Tryd.prog Rows.fnExactReadOrderRow.laid W) : Lib.TabIs Tryd.prog W "internal/strconv.uint64pow10" .u64 Lib.pow10Tab :=
  Lib.tabIs_of_head gPow gPowTy Tryd.underlying160 Tryd.underlying143 cU64 cPow (met_plain h).tail.tail
theorem rng_of_laid {W : World} (h : laidMetH Tryd.prog Rows.fnExactReadOrderRow.laid W) : ∃ tp p, W.var? Tryd.prog "strconv.ErrRange" = some #[.iface tp p] := by
  obtain ⟨a0, s0, hv0, _⟩ := laid_sentinel (met_plain h).tail.tail.tail gRng gRngTy Tryd.underlying63 rowErr Tryd.underlying165 Tryd.underlying167 rfl rfl Tryd.underlying9 cErr cStr
  exact ⟨_, _, hv0⟩
theorem syn_of_laid {W : World} (h : laidMetH Tryd.prog Rows.fnExactReadOrderRow.laid W) : ∃ tp p, W.var? Tryd.prog "strconv.ErrSyntax" = some #[.iface tp p] := by
  obtain ⟨a0, s0, hv0, _⟩ := laid_sentinel (met_plain h).tail.tail.tail.tail gSyn gSynTy Tryd.underlying63 rowErr Tryd.underlying165 Tryd.underlying167 rfl rfl Tryd.underlying9 cErr cStr
  exact ⟨_, _, hv0⟩
set_option maxRecDepth 100000 in
set_option maxHeartbeats 1000000 in
theorem lifted (os : Os) (started : os.Started) (H : Type) (enc : TypeId × Value → H) :
    ReturnsInHanded {} Tryd.checked os 8 .any (fun w args => (Rows.fnExactReadOrderSpec.pre enc Tryd.prog Tryd.f8 [] false w args ∧ laidMetH Tryd.prog Rows.fnExactReadOrderRow.laid w) ∧ sizedMet enc Tryd.prog Tryd.f8 (OpenSpec.ofChange Rows.fnExactReadOrderSpec) false w args) (Rows.fnExactReadOrderSpec.post enc Tryd.prog Tryd.f8 false true false false) := by
  refine returnsInHanded_of_change_and (C := Tryd.checked) (X := fun w _ => laidMetH Tryd.prog Rows.fnExactReadOrderRow.laid w) (fun _ _ _ hh h => h.of_heap hh) ownK started (by kernel_rfl) Tryd.func8
    (ChangeSpec.witness_shaped (enc := enc) (C := Tryd.checked) (os := os) (X := fun w _ => laidMetH Tryd.prog Rows.fnExactReadOrderRow.laid w) false (World.doorLaid Tryd.prog 62 os) #[.string ByteArray.empty] 8 rfl (World.shaped_of_RefB (by kernel_rfl) (by kernel_rfl)) (by kernel_rfl) (by kernel_rfl) (by kernel_rfl) (door_met os _)) ?_
  intro W base args ds gs before hval0 hW _ _ hL _
  have hval : ∀ (j : Nat) t v, Tryd.f8.params[j]? = some t → args[j]? = some v → Value.okWide Tryd.prog W .any base t v := hval0
  have hW' := hW
  obtain ⟨p, q, hA0, hV, rfl, hfz, hnd⟩ := hW
  have hA : DataW.TrodAll enc Tryd.prog W 0 (fun _ => true) true Tryd.f8.params.toList args.toList ds p := hA0
  have hV' := hV
  obtain ⟨rfl, rfl⟩ := trodVars_none hV'
  rw [Tryd.params8] at hA hval
  obtain ⟨v0, vs0, d0, ds0, p0, q0, hargs, rfl, rfl, h0, r0⟩ := trodAll_cons hA
  obtain ⟨rfl, rfl, rfl⟩ := trodAll_nil r0
  obtain rfl : args = #[v0] := by cases args; simp_all
  have hz0 : W.noneFrozen p0 := fun b off hin => hfz b off (by simp [hin])
  obtain ⟨s, rfl, _, _, ws⟩ := open_string Tryd.underlying9 (hval 0 9 v0 rfl rfl) h0
  refine (walk s W ws (tab_of_laid hL) (rng_of_laid hL) (syn_of_laid hL)).mono fun e W' ⟨he, hb⟩ => ?_
  subst he
  exact ⟨_, rfl, law_post laidO (by intro t ht; rw [Tryd.params8] at ht; simp only [List.mem_cons, List.not_mem_nil, or_false] at ht; subst ht; exact ⟨by kernel_rfl, of_decide_eq_true (by kernel_rfl)⟩) rfl (by kernel_rfl) Tryd.underlying4 hW' rfl hb⟩

theorem over : Rows.fnExactReadOrderRow.holds Tryd.pinned (OpenSpec.ofChange Rows.fnExactReadOrderSpec) :=
  OpenClaim.holds_of_wide 8 Tryd.f8 rfl rfl rfl rfl rfl rfl rfl ⟨rfl, rfl, rfl, rfl, rfl⟩ rfl rfl rfl rfl rfl (by kernel_rfl) Tryd.func8 (by kernel_rfl)
    (of_decide_eq_true (by kernel_rfl)) (by unfold Func.isWrapper; first | (rw [if_pos (by decide +kernel)]; kernel_rfl) | (rw [if_neg (by decide +kernel)]; exact ⟨rfl, rfl⟩))
    (fun os started H enc _ => lifted os started H enc)

theorem proved : Rows.FnExactReadOrderCardSaid :=
  Claim7.holds_tied_plain_at .later [] [.data, .data, .data, .sentinel, .sentinel] true (true, "47db44bfef9637420b27c10cfcd8988c2986ee371ee12df26c06bbb8d457f40f") true
    over (fun _ h => by cases h) (by kernel_rfl) (fun _ h => by cases h) fnExactReadOrder_row_tie rfl ⟨rfl, rfl⟩ (by kernel_rfl) rfl
    (fun f fn hf hfn => by
      obtain rfl : f = 8 := Option.some.inj ((show Tryd.prog.funcNamed "loop.example/g00489/laws.FnExactReadOrder" = some 8 by kernel_rfl).symm.trans hf) |>.symm
      obtain rfl : fn = Tryd.f8 := (Option.some.inj (Tryd.func8.symm.trans hfn)).symm
      exact ⟨by kernel_rfl, fun j t ht => by
        rw [Tryd.params8] at ht
        have hm : t ∈ [9] := by simpa using Array.mem_of_getElem? ht
        have hall : ([9].all fun u => !Tryd.prog.wantsStandIn u) = true := by kernel_rfl
        exact (show Tryd.prog.wantsStandIn t = false by simpa using List.all_eq_true.1 hall t hm)⟩)
    (by kernel_rfl)
#print axioms proved
end Go.Proofs.YtcjcmdikopipjaaDoor.fnExactReadOrder
