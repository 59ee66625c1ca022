/- The reference's stable sort: l1Places, l1Merge, SortUp, SortDown. -/
import Derived.Test.YtkpakpjbpmnbgaaRows
import Derived.Test.YtkpakpjbpmnbgaaApp
import Derived.Test.YtkpakpjbpmnbgaaLex
namespace Go.Proofs.Ytkpakpjbpmnbgaa
open Go.ChangeShapes Go.WideShapes Go.ChangeAt Go.RowKit Go.Deep
set_option linter.unusedVariables false
set_option linter.unusedSimpArgs false

theorem intInfo : (Try.prog.info? 3).map (fun i => (i.zero, i.size, i.bytes)) = some (some zI, 1, 8) := by kernel_rfl
/-- One number more, out of a block of its own. -/
theorem app1 {w : World} {base : Nat} {v : Value} {xs : List Int} (ho : Own 1 encInt 3 w base v xs) (hb : base ≤ w.heap.size) (hn : xs.length ≤ 4194304) (x : Int) :
    AppOk Try.prog 1 encInt (w.alloc (.cells #[.int .i64 x] 3)) base 22 3 v xs (some ⟨w.heap.size, 0, none⟩) 1 1 [x] where
  hk := encInt_len
  h1 := encInt_one
  ht := Try.underlying22
  info := ⟨zI, 8, intInfo, rfl, by omega⟩
  pos := by omega
  own := ho.alloc _
  src := ⟨_, _, slk_one w x _⟩
  h63 := by unfold maxLen; omega
  hb := by simp; omega
/-- A list more. -/
theorem appL {w : World} {base : Nat} {v : Value} {xs : List Int} (ho : Own 1 encInt 3 w base v xs) (hb : base ≤ w.heap.size) {lo hi : Nat} {A : Option Addr} {m c : Nat} {ys : List Int} (hs : SlK 1 encInt w lo hi A m c ys) (hn : xs.length + m ≤ 4194304) :
    AppOk Try.prog 1 encInt w base 22 3 v xs A m c ys where
  hk := encInt_len
  h1 := encInt_one
  ht := Try.underlying22
  info := ⟨zI, 8, intInfo, rfl, by omega⟩
  pos := by omega
  own := ho
  src := ⟨_, _, hs⟩
  h63 := by unfold maxLen; omega
  hb := hb
set_option maxRecDepth 20000 in
set_option maxHeartbeats 1000000 in
theorem splaces_any (n : Nat) (w : World) (hn : n ≤ 1048576) : Calls Try.prog 14 #[.int .i64 n] w fun e w' => ∃ v, e = .returned v ∧ Own 1 encInt 3 w' w.heap.size v (rng n) ∧ Below w.heap.size w w' := by
  go_enter Try.func14, Try.ntmps14
  go_wp2
  go_loopw [3, 4] (fun o i wr => ∃ k : Nat, k ≤ n ∧ i = .int .i64 k ∧ Own 1 encInt 3 wr w.heap.size o (rng k) ∧ Below w.heap.size w wr) (fun _ i _ => n - (intOf i).toNat)
  case atStart => exact ⟨0, Nat.zero_le _, rfl, own_lit (Nat.le_refl _) [] 0 _ _ rfl (by simp [maxLen]) rfl, (by repeat (first | with_reducible exact Below.refl _ _ | with_reducible assumption | with_reducible refine Below.setCell ?_ (by (try simp) <;> omega) _ | with_reducible refine Below.alloc ?_ (by (try simp) <;> omega) _ | with_reducible refine Below.drew ?_ | with_reducible refine below_drewN ?_ _))⟩
  case round =>
    obtain ⟨k, hk, rfl, ho, hbel⟩ := hrel
    by_cases hlt : k < n
    · have HO := hide ho
      have hz := hbel.size
      clear ho
      go_wp2_with (at_builtin; refine wpList_app rfl _ _ rfl rfl rfl (app1 HO.out hz (by rw [rng_len]; omega) k) ?_; intro v' w1 ho1 hg1 hat1)
      go_roundw
      case rel => exact ⟨k + 1, by omega, by go_num, by rw [rng_succ]; exact ho1, below_app hbel HO.out hz _ hg1⟩
      case measure => simp [intOf]; omega
    · obtain rfl : k = n := by omega
      clear hlt
      go_wp2
      go_ret
      exact ⟨_, rfl, ho, hbel⟩
set_option maxRecDepth 20000 in
set_option maxHeartbeats 1000000 in
theorem smerge_small (ks : List Int) (Ak : Option Addr) (nk ck : Nat) (down : Bool) (ps : List Int) (lo hi : Nat) (A : Option Addr) (n c : Nat) (w : World) (hp : SlK 1 encInt w lo hi A n c ps) (hB : hi ≤ w.heap.size) (h2 : n < 2) :
    Calls Try.prog 13 #[.slice Ak nk ck, .slice A n c, .bool down] w fun e w' => ∃ v, e = .returned v ∧ Own 1 encInt 3 w' w.heap.size v (sortBy ks down ps) ∧ Below w.heap.size w w' := by
  have hs := hide (sortBy_small ks down (l := ps) (by rw [hp.len]; exact h2))
  have HP := hide (hp.alloc hB (.cells #[] 3))
  have h2' : (n : Int) < 2 := by omega
  have hO := own_lit (w := w) (base := w.heap.size) (Nat.le_refl _) [] 0 #[] 3 rfl (by simp [maxLen]) rfl
  have HO := hide hO
  clear hO hp
  go_enter Try.func13, Try.ntmps13
  go_wp2_with (at_builtin; refine wpList_app rfl _ _ rfl rfl rfl (appL HO.out (by simp) HP.out (by simp; omega)) ?_; intro v' w1 ho1 hg1 hat1)
  go_ret
  refine ⟨_, rfl, ?_, ?_⟩
  · rw [hs.out]; simpa using ho1
  · exact below_app0 (B := w.heap.size) (by repeat (first | with_reducible exact Below.refl _ _ | with_reducible assumption | with_reducible refine Below.setCell ?_ (by (try simp) <;> omega) _ | with_reducible refine Below.alloc ?_ (by (try simp) <;> omega) _ | with_reducible refine Below.drew ?_ | with_reducible refine below_drewN ?_ _)) HO.out (by simp) hg1
set_option maxRecDepth 20000 in
set_option maxHeartbeats 2000000 in
theorem smerge_any (ks : List Int) (Ak : Option Addr) (nk ck lok hik : Nat) (down : Bool) : ∀ (N : Nat) (ps : List Int) (lo hi : Nat) (A : Option Addr) (n c : Nat) (w : World), n ≤ N → SlK 1 encInt w lok hik Ak nk ck ks → hik ≤ w.heap.size →
    SlK 1 encInt w lo hi A n c ps → hi ≤ w.heap.size → (∀ p ∈ ps, 0 ≤ p ∧ p < (nk : Int)) → ps.Pairwise (· < ·) → n ≤ 1048576 →
    Calls Try.prog 13 #[.slice Ak nk ck, .slice A n c, .bool down] w fun e w' => ∃ v, e = .returned v ∧ Own 1 encInt 3 w' w.heap.size v (sortBy ks down ps) ∧ Below w.heap.size w w' := by
  intro N
  induction N with
  | zero =>
    intro ps lo hi A n c w hN hk hBk hp hB _ _ _
    exact smerge_small ks Ak nk ck down ps lo hi A n c w hp hB (by omega)
  | succ N ih =>
    intro ps lo hi A n c w hN hk hBk hp hB hin hlt hn
    by_cases hsm : n < 2
    · exact smerge_small ks Ak nk ck down ps lo hi A n c w hp hB hsm
    have IH := hide ih
    clear ih
    obtain ⟨h, hh⟩ : ∃ h : Nat, n / 2 = h := ⟨_, rfl⟩
    have hh1 : (n : Int) / 2 = (h : Int) := by omega
    have hhn : h < n := by omega
    have hh0 : 0 < h := by omega
    have HHv := hide hh
    clear hh
    have hpc := hp.cap
    have hpm := hp.max
    have hcne : c ≠ h := by omega
    obtain ⟨b, off, rfl, hb, hp2⟩ := hp.drop_ hhn
    have hp1 := hp.take_ (Nat.le_of_lt hhn)
    have HP1 := hide hp1
    have HP2 := hide hp2
    have HIN := hide hin
    have HLT := hide hlt
    have HK := hide hk
    clear hp hp1 hp2 hin hlt hk
    go_enter Try.func13, Try.ntmps13
    go_wp2_with fail
    refine (IH.out (ps.take h) lo hi _ h c _ (by omega) HK.out hBk HP1.out hB (fun p hp => HIN.out p (List.mem_of_mem_take hp)) (HLT.out.sublist (List.take_sublist _ _)) (by omega)).mono ?_
    rintro e w1 ⟨v1, rfl, ho1, hb1⟩
    have HL1 := hide (show (sortBy ks down (ps.take h)).length = h by rw [sortBy_len]; exact HP1.out.len)
    have z1 := hb1.size
    obtain ⟨A1, c1, rfl, s1⟩ := Own.slk' encInt_len HL1.out ho1
    have S1 := hide s1
    have L1 := hide hb1
    clear ho1 s1 hb1
    go_wp2_with fail
    refine (IH.out (ps.drop h) lo hi _ (n - h) (c - h) _ (by omega) (HK.out.below L1.out hBk) (by omega) (by simpa using HP2.out.below L1.out hB) (by omega) (fun p hp => HIN.out p (List.mem_of_mem_drop hp)) (HLT.out.sublist (List.drop_sublist _ _)) (by omega)).mono ?_
    rintro e w2 ⟨v2, rfl, ho2, hb2⟩
    have HL2 := hide (show (sortBy ks down (ps.drop h)).length = n - h by rw [sortBy_len]; exact HP2.out.len)
    have z2 := hb2.size
    obtain ⟨A2, c2, rfl, s2⟩ := Own.slk' encInt_len HL2.out ho2
    have S2 := hide s2
    have T1 := hide (S1.out.below hb2 (Nat.le_refl _))
    have K2 := hide ((HK.out.below L1.out hBk).below hb2 (by omega))
    have L2 := hide (L1.out.trans (hb2.mono z1))
    have HIN1 := hide (show ∀ x ∈ sortBy ks down (ps.take h), 0 ≤ x ∧ x < (nk : Int) from fun x hx => HIN.out x (List.mem_of_mem_take ((sortBy_perm _ _ _).mem_iff.1 hx)))
    have HIN2 := hide (show ∀ x ∈ sortBy ks down (ps.drop h), 0 ≤ x ∧ x < (nk : Int) from fun x hx => HIN.out x (List.mem_of_mem_drop ((sortBy_perm _ _ _).mem_iff.1 hx)))
    have HAB := hide (show ∀ x ∈ sortBy ks down (ps.take h), ∀ y ∈ sortBy ks down (ps.drop h), x < y from fun x hx y hy => by
      have := HLT.out
      rw [← List.take_append_drop h ps, List.pairwise_append] at this
      exact this.2.2 x ((sortBy_perm _ _ _).mem_iff.1 hx) y ((sortBy_perm _ _ _).mem_iff.1 hy))
    have HFIN := hide (show mrg ks down (sortBy ks down (ps.take h)) (sortBy ks down (ps.drop h)) = sortBy ks down ps by rw [mrg_sorted, List.take_append_drop])
    generalize sortBy ks down (ps.take h) = la at *
    generalize sortBy ks down (ps.drop h) = lb at *
    have hm1 := S1.out.max
    have hm2 := S2.out.max
    have hq1 := S1.out.cap
    have hq2 := S2.out.cap
    obtain ⟨m, hmn⟩ : ∃ m : Nat, n - h = m := ⟨_, rfl⟩
    rw [hmn] at S2 HL2 hq2
    rw [hmn]
    have hmn' : h + m ≤ 1048576 := by omega
    have HM := hide hmn
    clear ho2 s2 S1 HP1 HP2 HIN HLT HK hmn
    go_wp2
    go_loopw [10, 11, 12] (fun o i j wr => ∃ ki kj : Nat, ∃ out : List Int, ki ≤ h ∧ kj ≤ m ∧ i = .int .i64 ki ∧ j = .int .i64 kj ∧ out.length = ki + kj ∧ MrgAt ks down la lb ki kj out ∧ Own 1 encInt 3 wr w2.heap.size o out ∧ Below w2.heap.size w2 wr) (fun _ i j _ => h + m - (intOf i).toNat - (intOf j).toNat)
    case atStart => exact ⟨0, 0, [], Nat.zero_le _, Nat.zero_le _, rfl, rfl, rfl, mrg0 _ _ _ _, own_lit (Nat.le_refl _) [] 0 _ _ rfl (by simp [maxLen]) rfl, (by repeat (first | with_reducible exact Below.refl _ _ | with_reducible assumption | with_reducible refine Below.setCell ?_ (by (try simp) <;> omega) _ | with_reducible refine Below.alloc ?_ (by (try simp) <;> omega) _ | with_reducible refine Below.drew ?_ | with_reducible refine below_drewN ?_ _))⟩
    case round =>
      obtain ⟨ki, kj, out, hki, hkj, rfl, rfl, hol, hM, ho, hbel⟩ := hrel
      have HO := hide ho
      have HMr := hide hM
      have HOL := hide (show out.length ≤ 4194304 by omega)
      have HOL2 := hide hol
      have hz := hbel.size
      clear ho hM hol
      by_cases hi1 : ki < h
      · obtain ⟨ba, oa, x, hx, rfl, _, hba, ca, _⟩ := (T1.out.below hbel z2).int hi1
        have HX := hide hx
        have hd1 : decide (ki < h) = true := by simp; omega
        clear hx
        by_cases hj1 : kj < m
        · obtain ⟨bb, ob, y, hy, rfl, _, hbb, cb, _⟩ := (S2.out.below hbel (Nat.le_refl _)).int hj1
          have HY := hide hy
          clear hy
          have hx0 := HIN1.out x (List.mem_of_getElem? HX.out)
          have hy0 := HIN2.out y (List.mem_of_getElem? HY.out)
          obtain ⟨bk, ok, kx, hkx, rfl, _, hbk, ckx, _⟩ := (K2.out.below hbel (by omega)).int (i := x.toNat) (by omega)
          obtain ⟨bk', ok', ky, hky, e0, _, _, cky, _⟩ := (K2.out.below hbel (by omega)).int (i := y.toNat) (by omega)
          simp only [Option.some.injEq, Addr.mk.injEq, and_true] at e0
          obtain ⟨rfl, rfl⟩ := e0
          have HLESS := hide (show lessK ks down y x = if down then decide (kx < ky) else decide (ky < kx) by simp [lessK, keyAt, List.getD, hkx, hky])
          have HXY := hide (HAB.out x (List.mem_of_getElem? HX.out) y (List.mem_of_getElem? HY.out))
          obtain ⟨hx1, hx2⟩ := hx0
          obtain ⟨hy1, hy2⟩ := hy0
          clear hkx hky
          have hj3 : ((kj : Int) == (m : Int)) = false := by simp; omega
          have hi3 : ((ki : Int) == (h : Int)) = false := by simp; omega
          have hzq : ∀ q, w2.heap.size ≤ (wr.drewN q).heap.size := fun q => by simpa using hz
          have HZQ := hide hzq
          clear hzq
          rcases Int.lt_trichotomy ky kx with hc | hc | hc
          · have hd3 : decide (ky < kx) = true := by simp; omega
            have hd4 : decide (kx < ky) = false := by simp; omega
            have HC := hide hc
            clear hc
            cases down
            · have HLS := hide (show lessK ks false y x = true by rw [HLESS.out]; simp [hd3, hd4])
              go_wp2_with fail
              go_quiet (fail)
              go_wp2_with (at_builtin; refine wpList_app rfl _ _ rfl rfl rfl (app1 (HO.out.drewN _) (HZQ.out _) HOL.out y) ?_; intro v' w3 ho3 hg3 hat3)
              go_roundw
              case rel => exact ⟨ki, kj + 1, _, hki, by omega, rfl, by go_num, by have := HOL2.out; simp; omega, HMr.out.stepR HX.out HY.out HXY.out HLS.out, ho3, below_app (below_drewN hbel _) (HO.out.drewN _) (HZQ.out _) _ hg3⟩
              case measure => simp [intOf]; omega
            · have HLS := hide (show lessK ks true y x = false by rw [HLESS.out]; simp [hd3, hd4])
              go_wp2_with fail
              go_quiet (fail)
              go_wp2_with (at_builtin; refine wpList_app rfl _ _ rfl rfl rfl (app1 (HO.out.drewN _) (HZQ.out _) HOL.out x) ?_; intro v' w3 ho3 hg3 hat3)
              go_roundw
              case rel => exact ⟨ki + 1, kj, _, by omega, hkj, by go_num, rfl, by have := HOL2.out; simp; omega, HMr.out.stepL HX.out HY.out HXY.out HLS.out, ho3, below_app (below_drewN hbel _) (HO.out.drewN _) (HZQ.out _) _ hg3⟩
              case measure => simp [intOf]; omega
          · have hd3 : decide (ky < kx) = false := by simp; omega
            have hd4 : decide (kx < ky) = false := by simp; omega
            have HC := hide hc
            clear hc
            cases down
            · have HLS := hide (show lessK ks false y x = false by rw [HLESS.out]; simp [hd3, hd4])
              go_wp2_with fail
              go_quiet (fail)
              go_wp2_with (at_builtin; refine wpList_app rfl _ _ rfl rfl rfl (app1 (HO.out.drewN _) (HZQ.out _) HOL.out x) ?_; intro v' w3 ho3 hg3 hat3)
              go_roundw
              case rel => exact ⟨ki + 1, kj, _, by omega, hkj, by go_num, rfl, by have := HOL2.out; simp; omega, HMr.out.stepL HX.out HY.out HXY.out HLS.out, ho3, below_app (below_drewN hbel _) (HO.out.drewN _) (HZQ.out _) _ hg3⟩
              case measure => simp [intOf]; omega
            · have HLS := hide (show lessK ks true y x = false by rw [HLESS.out]; simp [hd3, hd4])
              go_wp2_with fail
              go_quiet (fail)
              go_wp2_with (at_builtin; refine wpList_app rfl _ _ rfl rfl rfl (app1 (HO.out.drewN _) (HZQ.out _) HOL.out x) ?_; intro v' w3 ho3 hg3 hat3)
              go_roundw
              case rel => exact ⟨ki + 1, kj, _, by omega, hkj, by go_num, rfl, by have := HOL2.out; simp; omega, HMr.out.stepL HX.out HY.out HXY.out HLS.out, ho3, below_app (below_drewN hbel _) (HO.out.drewN _) (HZQ.out _) _ hg3⟩
              case measure => simp [intOf]; omega
          · have hd3 : decide (ky < kx) = false := by simp; omega
            have hd4 : decide (kx < ky) = true := by simp; omega
            have HC := hide hc
            clear hc
            cases down
            · have HLS := hide (show lessK ks false y x = false by rw [HLESS.out]; simp [hd3, hd4])
              go_wp2_with fail
              go_quiet (fail)
              go_wp2_with (at_builtin; refine wpList_app rfl _ _ rfl rfl rfl (app1 (HO.out.drewN _) (HZQ.out _) HOL.out x) ?_; intro v' w3 ho3 hg3 hat3)
              go_roundw
              case rel => exact ⟨ki + 1, kj, _, by omega, hkj, by go_num, rfl, by have := HOL2.out; simp; omega, HMr.out.stepL HX.out HY.out HXY.out HLS.out, ho3, below_app (below_drewN hbel _) (HO.out.drewN _) (HZQ.out _) _ hg3⟩
              case measure => simp [intOf]; omega
            · have HLS := hide (show lessK ks true y x = true by rw [HLESS.out]; simp [hd3, hd4])
              go_wp2_with fail
              go_quiet (fail)
              go_wp2_with (at_builtin; refine wpList_app rfl _ _ rfl rfl rfl (app1 (HO.out.drewN _) (HZQ.out _) HOL.out y) ?_; intro v' w3 ho3 hg3 hat3)
              go_roundw
              case rel => exact ⟨ki, kj + 1, _, hki, by omega, rfl, by go_num, by have := HOL2.out; simp; omega, HMr.out.stepR HX.out HY.out HXY.out HLS.out, ho3, below_app (below_drewN hbel _) (HO.out.drewN _) (HZQ.out _) _ hg3⟩
              case measure => simp [intOf]; omega
        · have hj2 : kj = m := by omega
          have hj3 : ((kj : Int) == (m : Int)) = true := by simp; omega
          have hjm : ¬ (kj < m) := by omega
          have HJ := hide hj2
          clear hj1 hj2
          go_wp2_with (at_builtin; refine wpList_app rfl _ _ rfl rfl rfl (app1 HO.out hz HOL.out x) ?_; intro v' w3 ho3 hg3 hat3)
          go_roundw
          case rel => exact ⟨ki + 1, kj, _, by omega, hkj, by go_num, rfl, by have := HOL2.out; simp; omega, HMr.out.left HX.out (by rw [HL2.out]; exact Nat.le_of_eq HJ.out.symm), ho3, below_app hbel HO.out hz _ hg3⟩
          case measure => simp [intOf]; omega
      · have hi2 : ki = h := by omega
        by_cases hj1 : kj < m
        · obtain ⟨bb, ob, y, hy, rfl, _, hbb, cb, _⟩ := (S2.out.below hbel (Nat.le_refl _)).int hj1
          have HY := hide hy
          have hd1 : decide (ki < h) = false := by simp; omega
          have hd2 : decide (kj < m) = true := by simp; omega
          have hi3 : ((ki : Int) == (h : Int)) = true := by simp; omega
          have hj3 : ((kj : Int) == (m : Int)) = false := by simp; omega
          have HI := hide hi2
          clear hy hi2
          go_wp2_with (at_builtin; refine wpList_app rfl _ _ rfl rfl rfl (app1 HO.out hz HOL.out y) ?_; intro v' w3 ho3 hg3 hat3)
          go_roundw
          case rel => exact ⟨ki, kj + 1, _, hki, by omega, rfl, by go_num, by have := HOL2.out; simp; omega, HMr.out.right HY.out (by rw [HL1.out]; exact Nat.le_of_eq HI.out.symm), ho3, below_app hbel HO.out hz _ hg3⟩
          case measure => simp [intOf]; omega
        · have hd1 : decide (ki < h) = false := by simp; omega
          have hd2 : decide (kj < m) = false := by simp; omega
          have HD := hide (HMr.out.done (by rw [HL1.out]; omega) (by rw [HL2.out]; omega))
          go_wp2
          go_ret
          refine ⟨_, rfl, ?_, L2.out.trans (hbel.mono (by omega))⟩
          have := HD.out
          rw [HFIN.out] at this
          rw [← this]
          exact HO.out.base_le (by omega)
set_option maxHeartbeats 400000 in
theorem ssortUp_any (ks : List Int) (lo hi : Nat) (A : Option Addr) (n c : Nat) (w : World) (hs : SlK 1 encInt w lo hi A n c ks) (hB : hi ≤ w.heap.size) (hn : n ≤ 1048576) :
    Calls Try.prog 11 #[.slice A n c] w fun e w' => ∃ v, e = .returned v ∧ Own 1 encInt 3 w' w.heap.size v (sortBy ks false (rng n)) ∧ Below w.heap.size w w' := by
  have hc := hs.cap
  have hm := hs.max
  have HS := hide hs
  clear hs
  go_enter Try.func11, Try.ntmps11
  go_wp2_with fail
  refine (splaces_any n _ hn).mono ?_
  rintro e w1 ⟨v1, rfl, ho1, hb1⟩
  have z1 := hb1.size
  obtain ⟨A1, c1, rfl, s1⟩ := Own.slk' encInt_len (rng_len n) ho1
  have S1 := hide s1
  have L1 := hide hb1
  clear ho1 s1 hb1
  go_wp2_with fail
  refine (smerge_any ks A n c lo hi false n (rng n) _ _ A1 n c1 _ (Nat.le_refl _) (HS.out.below L1.out hB) (by omega) S1.out (Nat.le_refl _) (fun p hp => mem_rng.1 hp) (rng_lt n) hn).mono ?_
  rintro e w2 ⟨v2, rfl, ho2, hb2⟩
  go_wp2
  go_ret
  exact ⟨_, rfl, ho2.base_le z1, L1.out.trans (hb2.mono z1)⟩
set_option maxHeartbeats 400000 in
theorem ssortDown_any (ks : List Int) (lo hi : Nat) (A : Option Addr) (n c : Nat) (w : World) (hs : SlK 1 encInt w lo hi A n c ks) (hB : hi ≤ w.heap.size) (hn : n ≤ 1048576) :
    Calls Try.prog 5 #[.slice A n c] w fun e w' => ∃ v, e = .returned v ∧ Own 1 encInt 3 w' w.heap.size v (sortBy ks true (rng n)) ∧ Below w.heap.size w w' := by
  have hc := hs.cap
  have hm := hs.max
  have HS := hide hs
  clear hs
  go_enter Try.func5, Try.ntmps5
  go_wp2_with fail
  refine (splaces_any n _ hn).mono ?_
  rintro e w1 ⟨v1, rfl, ho1, hb1⟩
  have z1 := hb1.size
  obtain ⟨A1, c1, rfl, s1⟩ := Own.slk' encInt_len (rng_len n) ho1
  have S1 := hide s1
  have L1 := hide hb1
  clear ho1 s1 hb1
  go_wp2_with fail
  refine (smerge_any ks A n c lo hi true n (rng n) _ _ A1 n c1 _ (Nat.le_refl _) (HS.out.below L1.out hB) (by omega) S1.out (Nat.le_refl _) (fun p hp => mem_rng.1 hp) (rng_lt n) hn).mono ?_
  rintro e w2 ⟨v2, rfl, ho2, hb2⟩
  go_wp2
  go_ret
  exact ⟨_, rfl, ho2.base_le z1, L1.out.trans (hb2.mono z1)⟩
end Go.Proofs.Ytkpakpjbpmnbgaa
