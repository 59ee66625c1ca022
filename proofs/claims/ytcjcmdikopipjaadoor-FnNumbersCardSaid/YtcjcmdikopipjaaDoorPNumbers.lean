/- The law FnNumbers holds for every input: the call answers true, and each argument reads afterwards as it read before. -/
import Derived.Test.YtcjcmdikopipjaaDoorNf
import Derived.Test.YtcjcmdikopipjaaDoorOpG
import Derived.Test.YtcjcmdikopipjaaDoorRw
import Derived.Test.YtcjcmdikopipjaaDoorS2
import Derived.Test.YtcjcmdikopipjaaDoorTie
import Derived.Test.YtcjcmdikopipjaaDoorCards
import Derived.SevenTiedAt
import Derived.LaidMore
import Derived.LaidHandle
import Derived.ProofKit
namespace Go.Proofs.YtcjcmdikopipjaaDoor.fnNumbers
open Go.ChangeShapes Go.WideShapes Go.ChangeAt Go.RowKit Go.Deep
open Go.ChangeMaps (open_string)
set_option linter.unusedVariables false
set_option linter.unusedSimpArgs false

open Go.Joins

set_option maxRecDepth 20000 in
set_option maxHeartbeats 8000000 in
theorem walk (Ab : Option Addr) (nb cb : Nat) (b : List Int) (w : World) (hb : SlK 1 encByte w 0 w.heap.size Ab nb cb b ∧ ∀ z ∈ b, 0 ≤ z ∧ z ≤ 255) (htab : Lib.TabIs Tryd.prog w "internal/strconv.uint64pow10" .u64 Lib.pow10Tab) (hrng : ∃ tp p, w.var? Tryd.prog "strconv.ErrRange" = some #[.iface tp p]) (hsyn : ∃ tp p, w.var? Tryd.prog "strconv.ErrSyntax" = some #[.iface tp p]) :
    Calls Tryd.prog 6 #[.slice Ab nb cb] w fun e w' => e = .returned (.bool true) ∧ Below w.heap.size w w' := by
  obtain ⟨hs, hb⟩ := hb
  have hcap := hs.cap
  have hmax := hs.max
  have HBB := hide hb
  have HCS := hide hs
  obtain ⟨tr, pr, hr⟩ := hrng
  obtain ⟨ts, ps, hsy⟩ := hsyn
  have RG := hide hr
  have SY := hide hsy
  have T0 := hide htab
  clear hs hb hr hsy htab
  by_cases hbig : nb ≤ 1048576
  · have HDP := hide (fun (w3 : World) (h : Below w.heap.size w w3) => drawParts_any Ab nb cb b w3 ((HCS.out.below h (Nat.le_refl _)).more (Nat.le_refl 0) h.size) HBB.out)
    have HDS := hide (fun (w3 : World) (h : Below w.heap.size w w3) => drawSortUp_any Ab nb cb b w3 ((HCS.out.below h (Nat.le_refl _)).more (Nat.le_refl 0) h.size) HBB.out)
    go_enter Tryd.func6, Tryd.ntmps6
    go_wp2_with fail
    refine (big_no Ab nb cb _ hcap hmax hbig).mono ?_
    rintro e w' ⟨rfl, rfl⟩
    go_wp2_with fail
    refine (drawDigits_any Ab nb cb b _ HCS.out HBB.out).mono ?_
    rintro e w1 ⟨⟨x, rfl, hx0, hx1⟩, hb1⟩
    have z1 := hb1.size
    have L1 := hide hb1
    have T1 := hide (tab_stays gPow T0.out hb1 (Nat.le_refl _))
    have HNR := hide (numR_dig x hx0 hx1)
    have hsz := digS_size x hx0 hx1
    have HDG := hide (fun W h => digits_any x W hx0 hx1 h)
    have HSD := hide (fun W => sdigits_any x W hx0 hx1)
    have HNU := hide (fun W h1 h2 h3 => number_any (digS x) W (by omega) h1 h2 h3)
    obtain ⟨S, hS⟩ : ∃ S, digS x = S := ⟨_, rfl⟩
    rw [hS] at HNR HNU hsz
    simp only [hS] at HDG HSD
    clear hb1 hS T0
    go_wp2_with fail
    refine (HDG.out _ T1.out).mono ?_
    rintro e w2 ⟨rfl, hb2⟩
    have z2 := hb2.size
    have L2 := hide (L1.out.trans (hb2.mono (by omega)))
    have T2 := hide (tab_stays gPow T1.out hb2 (Nat.le_refl _))
    clear hb2 L1 T1 
    go_wp2_with fail
    refine (HNU.out _ T2.out ⟨tr, pr, var_stays gRng RG.out L2.out (Nat.le_refl _)⟩ ⟨ts, ps, var_stays gSyn SY.out L2.out (Nat.le_refl _)⟩).mono ?_
    rintro e w3 ⟨rfl, hb3⟩
    have z3 := hb3.size
    have L3 := hide (L2.out.trans (hb3.mono (by omega)))
    have T3 := hide (tab_stays gPow T2.out hb3 (Nat.le_refl _))
    clear hb3 L2 T2 
    have HSD3 := hide (HSD.out w3)
    obtain ⟨rv, hrv⟩ : ∃ v, (numR S).1 = v := ⟨_, rfl⟩
    obtain ⟨rb, hrb⟩ : ∃ v, (numR S).2 = v := ⟨_, rfl⟩
    rw [hrv, hrb]
    have HRV : Hid ((0 ≤ x ∧ x ≤ 999999 ∧ rv = x ∧ rb = true) ∨ (¬ (0 ≤ x ∧ x ≤ 999999) ∧ rv = 0 ∧ rb = false)) := hide (by
      rw [← hrv, ← hrb, HNR.out]
      by_cases h : 0 ≤ x ∧ x ≤ 999999
      · rw [if_pos h]
        exact .inl ⟨h.1, h.2, rfl, rfl⟩
      · rw [if_neg h]
        exact .inr ⟨h, rfl, rfl⟩)
    clear hrv hrb HNR HSD HNU HDG
    go_wp2_with fail
    refine HSD3.out.mono ?_
    rintro e w4 ⟨rfl, hb4⟩
    have z4 := hb4.size
    have L4 := hide (L3.out.trans (hb4.mono (by omega)))
    have T4 := hide (tab_stays gPow T3.out hb4 (Nat.le_refl _))
    clear hb4 L3 T3 
    have hSS : (S.toList == S.toList) = true := by simp
    rcases HRV.out with ⟨g0, g1, rfl, rfl⟩ | ⟨gn, rfl, rfl⟩
    · have d0 : decide (0 ≤ rv) = true := decide_eq_true g0
      have d1 : decide (rv ≤ 999999) = true := decide_eq_true g1
      have d2 : (rv != rv) = false := by simp
      clear HRV hSS
      go_wp2_with fail
      clear d0 d1 d2 g0 g1
      refine (HDP.out _ L4.out).mono ?_
      rintro e w5 ⟨⟨t, by_, rfl, ht6, hy0, hy1⟩, hb5⟩
      obtain ⟨d, hdb⟩ : ∃ d : UInt8, (d.toNat : Int) = by_ := ⟨UInt8.ofNat by_.toNat, by
        have h1 : (UInt8.ofNat by_.toNat).toNat = by_.toNat % 256 := UInt8.toNat_ofNat'
        omega⟩
      have HJN := hide (parts_join t by_ d hdb)
      have HPS := hide (partsL_size t by_)
      have hpl := partsL_len t by_
      have hpp := partsL_pos t by_
      have HCV := hide (fun W => conv1 W by_ d hdb)
      obtain ⟨m, hm⟩ : ∃ m, (partsL t by_).length = m := ⟨_, rfl⟩
      rw [hm] at hpl hpp
      have HM := hide hm
      have HPA := hide (fun W => parts_any t by_ W (by omega))
      obtain ⟨PL, hPL⟩ : ∃ PL, partsL t by_ = PL := ⟨_, rfl⟩
      rw [hPL] at HJN HPS HM
      simp only [hPL] at HPA
      clear hdb hm hPL
      have z5 := hb5.size
      have L5 := hide (L4.out.trans (hb5.mono (by omega)))
      have T5 := hide (tab_stays gPow T4.out hb5 (Nat.le_refl _))
      clear hb5 L4 T4 
      go_wp2_with fail
      refine (HPA.out _).mono ?_
      rintro e w6 ⟨v6, rfl, ho6, hb6⟩
      obtain ⟨A6, c6, rfl, s6⟩ := Own.slk' encStr_len HM.out ho6
      have hc6 := s6.cap
      have hm6 := s6.max
      have P6 := hide s6
      clear ho6 s6 HPA
      have z6 := hb6.size
      have L6 := hide (L5.out.trans (hb6.mono (by omega)))
      have T6 := hide (tab_stays gPow T5.out hb6 (Nat.le_refl _))
      clear hb6 L5 T5 
      go_wp2_with fail
      go_loopw [10, 11] (fun o i wr => ∃ k : Nat, k ≤ m ∧ i = .int .i64 k ∧ o = .string (jnB ⟨#[d]⟩ (PL.take k)) ∧ (jnB ⟨#[d]⟩ (PL.take k)).size ≤ 7 * k ∧ Below w6.heap.size w6 wr) (fun _ i _ => m - (intOf i).toNat)
      case atStart => exact ⟨0, Nat.zero_le _, rfl, rfl, by simp [jnB], Below.refl _ _⟩
      case round =>
        obtain ⟨k, hk, rfl, rfl, hjs, hbel⟩ := hrel
        have HB := hide hbel
        have y1 := hbel.size
        clear hbel
        by_cases hlt : k < m
        · obtain ⟨b0, off, p, hp, rfl, _, hb0, c0, _⟩ := (P6.out.below HB.out (Nat.le_refl _)).str hlt
          have hp6 := HPS.out p (List.mem_of_getElem? hp)
          have zb0 : b0 < wr.heap.size := by omega
          have i0 : (0 : Int) ≤ (k : Int) := by omega
          have i1 : (k : Int) < (m : Int) := by omega
          have hts : PL.take (k + 1) = PL.take k ++ [p] := take_snoc hp
          by_cases hk0 : 0 < k
          · have hne : PL.take k ≠ [] := by
              intro h
              have := congrArg List.length h
              rw [List.length_take, HM.out] at this
              simp at this
              omega
            have HJS := hide (show jnB ⟨#[d]⟩ (PL.take (k + 1)) = (jnB ⟨#[d]⟩ (PL.take k) ++ ⟨#[d]⟩) ++ p by rw [hts, jnB_snoc _ _ _ hne])
            obtain ⟨J, hJ⟩ : ∃ J, jnB ⟨#[d]⟩ (PL.take k) = J := ⟨_, rfl⟩
            rw [hJ] at HJS hjs ⊢
            have hds : (ByteArray.mk #[d]).size = 1 := rfl
            have hcv := HCV.out wr
            have i2 : (0 : Int) < (k : Int) := by omega
            have hs1 : J.size ≤ 9223372036854775000 := by omega
            have hs2 : (J ++ ByteArray.mk #[d]).size ≤ 9223372036854775000 := by rw [ByteArray.size_append, hds]; omega
            have hs3 : p.size ≤ 6 := by omega
            clear hp hts hne hJ
            obtain ⟨D, hD⟩ : ∃ D : ByteArray, ByteArray.mk #[d] = D := ⟨_, rfl⟩
            rw [hD] at hcv hds hs2 HJS
            go_wp2_with fail
            go_roundw
            case rel => exact ⟨k + 1, by omega, by go_num, by rw [hD, HJS.out], by rw [hD, HJS.out, ByteArray.size_append, ByteArray.size_append, hds]; omega, (by repeat (first | with_reducible exact Below.refl _ _ | with_reducible assumption | with_reducible refine Below.setCell ?_ (by (try simp) <;> omega) _ | with_reducible refine Below.alloc ?_ (by (try simp) <;> omega) _ | with_reducible refine Below.drew ?_ | with_reducible refine below_drewN ?_ _ | with_reducible exact HB.out | with_reducible refine Below.trans ?_ (Below.mono HB.out (by (try simp) <;> omega))))⟩
            case measure => simp [intOf]; omega
          · obtain rfl : k = 0 := by omega
            have HJS := hide (show jnB ⟨#[d]⟩ (PL.take (0 + 1)) = ByteArray.empty ++ p by rw [hts, List.take_zero, List.nil_append, jnB_one, ByteArray.empty_append])
            have hJ0 : jnB ⟨#[d]⟩ (PL.take 0) = ByteArray.empty := rfl
            simp only [Nat.add_zero] at c0
            rw [hJ0]
            have i2 : ¬ ((0 : Int) < ((0 : Nat) : Int)) := by omega
            have hs3 : p.size ≤ 6 := by omega
            clear hp hts hJ0 hjs
            go_wp2_with fail
            go_roundw
            case rel => exact ⟨0 + 1, by omega, by go_num, by rw [HJS.out]; rfl, by rw [HJS.out, ByteArray.size_append]; simp; omega, HB.out⟩
            case measure => simp [intOf]; omega
        · obtain rfl : k = m := by omega
          have hj2 : jnB ⟨#[d]⟩ (PL.take k) = t := by rw [List.take_of_length_le (by rw [HM.out]; exact Nat.le_refl _), HJN.out]
          rw [hj2]
          clear hj2 hjs hlt
          obtain ⟨w7, hw7⟩ : ∃ W : World, W = wr := ⟨_, rfl⟩
          subst hw7
          have hb7 := HB.out
          clear HB
          have z7 := hb7.size
          have L7 := hide (L6.out.trans (hb7.mono (by omega)))
          have T7 := hide (tab_stays gPow T6.out hb7 (Nat.le_refl _))
          clear hb7 L6 T6 
          go_wp2_with fail
          refine (HDS.out _ L7.out).mono ?_
          rintro e w8 ⟨⟨ks, Ak, n, ck, rfl, hk8, hn9⟩, hb8⟩
          have hkc := hk8.cap
          have hkm := hk8.max
          have HKL := hide hk8.len
          have K8 := hide hk8
          clear hk8
          have z8 := hb8.size
          have L8 := hide (L7.out.trans (hb8.mono (by omega)))
          have T8 := hide (tab_stays gPow T7.out hb8 (Nat.le_refl _))
          clear hb8 L7 T7 
          go_wp2_with fail
          refine (sortUp_any ks w7.heap.size w8.heap.size Ak n ck _ K8.out (Nat.le_refl _) (by omega)).mono ?_
          rintro e w9 ⟨v9, rfl, ho9, hb9⟩
          obtain ⟨A9, c9, rfl, s9⟩ := Own.slk' encInt_len (show (sortBy ks false (rng n)).length = n by rw [sortBy_len, rng_len]) ho9
          have hc9 := s9.cap
          have hm9 := s9.max
          have A9s := hide s9
          clear ho9 s9
          have z9 := hb9.size
          have L9 := hide (L8.out.trans (hb9.mono (by omega)))
          have T9 := hide (tab_stays gPow T8.out hb9 (Nat.le_refl _))
          have K9 := hide (K8.out.below hb9 (by omega))
          clear hb9 L8 T8 K8
          have hnn : ((n : Int) != (n : Int)) = false := by simp
          have HSK := hide (fun (j : Nat) (x : Int) (h : (sortBy ks false (rng n))[j]? = some x) => (show (sKeys ks n).take (j + 1) = (sKeys ks n).take j ++ [keyAt ks x] from take_snoc (by unfold sKeys; rw [List.getElem?_map, h]; rfl)))
          have HSL := hide (sKeys_len ks n)
          have HSU := hide (sKeys_sum ks n HKL.out)
          have HSA := hide (sort_again (sKeys ks n) n (sKeys_len ks n) (sKeys_sorted ks n))
          go_wp2_with fail
          go_loopw [14, 15] (fun o i wr => ∃ j : Nat, j ≤ n ∧ i = .int .i64 j ∧ Own 1 encInt 3 wr w9.heap.size o ((sKeys ks n).take j) ∧ Below w9.heap.size w9 wr) (fun _ i _ => n - (intOf i).toNat)
          case atStart => exact ⟨0, Nat.zero_le _, rfl, own_lit (by omega) [] 0 _ _ rfl (by simp [maxLen]) rfl, (by repeat (first | with_reducible exact Below.refl _ _ | with_reducible assumption | with_reducible refine Below.setCell ?_ (by (try simp) <;> omega) _ | with_reducible refine Below.alloc ?_ (by (try simp) <;> omega) _ | with_reducible refine Below.drew ?_ | with_reducible refine below_drewN ?_ _))⟩
          case round =>
            obtain ⟨j, hj, rfl, ho, hbel⟩ := hrel
            have HO := hide ho
            have HB := hide hbel
            have y2 := hbel.size
            clear ho hbel
            by_cases hlt : j < n
            · obtain ⟨b0, off, x, hx, rfl, _, hb0, c0, _⟩ := (A9s.out.below HB.out (Nat.le_refl _)).int hlt
              have hxm := (sortBy_perm ks false (rng n)).mem_iff.1 (List.mem_of_getElem? hx)
              rw [mem_rng] at hxm
              have HS1 := hide (HSK.out j x hx)
              obtain ⟨x, rfl⟩ := Int.eq_ofNat_of_zero_le hxm.1
              obtain ⟨b1, off1, kx, hkx, rfl, _, hb1, c1, _⟩ := (K9.out.below HB.out (by omega)).int (i := x) (by omega)
              rw [key_of hkx] at HS1
              have i0 : (0 : Int) ≤ (j : Int) := by omega
              have i1 : (j : Int) < (n : Int) := by omega
              have i2 : (0 : Int) ≤ (x : Int) := by omega
              have i3 : (x : Int) < (n : Int) := by omega
              have hll : ((sKeys ks n).take j).length ≤ 4194304 := by rw [List.length_take]; omega
              clear hx hkx
              go_wp2_with (at_builtin; refine wpList_app rfl _ _ rfl rfl rfl (app1 HO.out (by omega) hll kx) ?_; intro vf wf hof hgf hatf; have HBf := hide (below_app HB.out HO.out (by omega) _ hgf); have HOf := hide hof; clear hof hgf hatf)
              go_roundw
              case rel => exact ⟨j + 1, by omega, by go_num, by rw [HS1.out]; exact HOf.out, HBf.out⟩
              case measure => simp [intOf]; omega
            · obtain rfl : j = n := by omega
              have htk : (sKeys ks j).take j = sKeys ks j := List.take_of_length_le (by rw [HSL.out]; exact Nat.le_refl _)
              have ho10 := HO.out
              rw [htk] at ho10
              obtain ⟨A10, c10, rfl, s10⟩ := Own.slk' encInt_len HSL.out ho10
              have hc10 := s10.cap
              have hm10 := s10.max
              obtain ⟨w10, hw10⟩ : ∃ W : World, W = wr := ⟨_, rfl⟩
              subst hw10
              have hb10 := HB.out
              have S10 := hide s10
              clear HB HO ho10 s10 htk hlt
              have z10 := hb10.size
              have L10 := hide (L9.out.trans (hb10.mono (by omega)))
              have T10 := hide (tab_stays gPow T9.out hb10 (Nat.le_refl _))
              have K10 := hide (K9.out.below hb10 (by omega))
              clear hb10 L9 T9 K9
              go_wp2_with fail
              refine (sortUp_any (sKeys ks j) w9.heap.size w10.heap.size A10 j c10 _ S10.out (Nat.le_refl _) (by omega)).mono ?_
              rw [HSA.out]
              rintro e w11 ⟨v11, rfl, ho11, hb11⟩
              obtain ⟨A11, c11, rfl, s11⟩ := Own.slk' encInt_len (rng_len j) ho11
              have hc11 := s11.cap
              have hm11 := s11.max
              have R11 := hide s11
              clear ho11 s11
              have z11 := hb11.size
              have L11 := hide (L10.out.trans (hb11.mono (by omega)))
              have T11 := hide (tab_stays gPow T10.out hb11 (Nat.le_refl _))
              have K11 := hide (K10.out.below hb11 (by omega))
              have S11 := hide (S10.out.below hb11 (by omega))
              clear hb11 L10 T10 K10 S10
              go_wp2_with fail
              go_loopw [17] (fun i wr => ∃ q : Nat, q ≤ j ∧ i = .int .i64 q ∧ w11 = wr) (fun i _ => j - (intOf i).toNat)
              case atStart => exact ⟨0, Nat.zero_le _, rfl, rfl⟩
              case round =>
                obtain ⟨q, hq, rfl, rfl⟩ := hrel
                by_cases hlt : q < j
                · obtain ⟨b0, off, x, hx, rfl, _, hb0, c0, _⟩ := R11.out.int hlt
                  have hxq : x = (q : Int) := by
                    have h1 : (rng j)[q]? = some (q : Int) := by simp [rng, hlt]
                    rw [h1] at hx
                    exact (Option.some.inj hx).symm
                  subst hxq
                  have i0 : (0 : Int) ≤ (q : Int) := by omega
                  have i1 : (q : Int) < (j : Int) := by omega
                  have i2 : ((q : Int) != (q : Int)) = false := by simp
                  clear hx
                  go_wp2_with fail
                  go_roundw
                  case rel => exact ⟨q + 1, by omega, by go_num, by trivial⟩
                  case measure => first | omega | (simp [intOf]; done) | (simp [intOf]; omega)
                · have hge : ¬ ((q : Int) < (j : Int)) := by omega
                  have e1 : (t.toList == t.toList) = true := by simp
                  have e2 : ((j : Int) == (j : Int)) = true := by simp
                  have HS1 := hide (sum_any w9.heap.size w10.heap.size A10 j c10 (sKeys ks j) w11 S11.out (by omega))
                  have HS2 := hide (sum_any w7.heap.size w8.heap.size Ak j ck ks w11 K11.out (by omega))
                  rw [HSU.out] at HS1
                  obtain ⟨U, hU⟩ : ∃ U, sumB ks = U := ⟨_, rfl⟩
                  rw [hU] at HS1 HS2
                  have e3 : (U == U) = true := by simp
                  clear hU hlt hq
                  go_wp2_with fail
                  refine HS1.out.mono ?_
                  rintro e w' ⟨rfl, rfl⟩
                  go_wp2_with fail
                  refine HS2.out.mono ?_
                  rintro e w' ⟨rfl, rfl⟩
                  go_wp2_with fail
                  go_ret
                  exact ⟨rfl, L11.out⟩

    · have d1 : decide (x ≤ 999999) = decide (x ≤ 999999) := rfl
      by_cases g0 : 0 ≤ x
      · have g1 : ¬ x ≤ 999999 := fun h => gn ⟨g0, h⟩
        clear HRV hSS gn d1
        go_wp2_with fail
        clear g0 g1
        refine (HDP.out _ L4.out).mono ?_
        rintro e w5 ⟨⟨t, by_, rfl, ht6, hy0, hy1⟩, hb5⟩
        obtain ⟨d, hdb⟩ : ∃ d : UInt8, (d.toNat : Int) = by_ := ⟨UInt8.ofNat by_.toNat, by
          have h1 : (UInt8.ofNat by_.toNat).toNat = by_.toNat % 256 := UInt8.toNat_ofNat'
          omega⟩
        have HJN := hide (parts_join t by_ d hdb)
        have HPS := hide (partsL_size t by_)
        have hpl := partsL_len t by_
        have hpp := partsL_pos t by_
        have HCV := hide (fun W => conv1 W by_ d hdb)
        obtain ⟨m, hm⟩ : ∃ m, (partsL t by_).length = m := ⟨_, rfl⟩
        rw [hm] at hpl hpp
        have HM := hide hm
        have HPA := hide (fun W => parts_any t by_ W (by omega))
        obtain ⟨PL, hPL⟩ : ∃ PL, partsL t by_ = PL := ⟨_, rfl⟩
        rw [hPL] at HJN HPS HM
        simp only [hPL] at HPA
        clear hdb hm hPL
        have z5 := hb5.size
        have L5 := hide (L4.out.trans (hb5.mono (by omega)))
        have T5 := hide (tab_stays gPow T4.out hb5 (Nat.le_refl _))
        clear hb5 L4 T4 
        go_wp2_with fail
        refine (HPA.out _).mono ?_
        rintro e w6 ⟨v6, rfl, ho6, hb6⟩
        obtain ⟨A6, c6, rfl, s6⟩ := Own.slk' encStr_len HM.out ho6
        have hc6 := s6.cap
        have hm6 := s6.max
        have P6 := hide s6
        clear ho6 s6 HPA
        have z6 := hb6.size
        have L6 := hide (L5.out.trans (hb6.mono (by omega)))
        have T6 := hide (tab_stays gPow T5.out hb6 (Nat.le_refl _))
        clear hb6 L5 T5 
        go_wp2_with fail
        go_loopw [10, 11] (fun o i wr => ∃ k : Nat, k ≤ m ∧ i = .int .i64 k ∧ o = .string (jnB ⟨#[d]⟩ (PL.take k)) ∧ (jnB ⟨#[d]⟩ (PL.take k)).size ≤ 7 * k ∧ Below w6.heap.size w6 wr) (fun _ i _ => m - (intOf i).toNat)
        case atStart => exact ⟨0, Nat.zero_le _, rfl, rfl, by simp [jnB], Below.refl _ _⟩
        case round =>
          obtain ⟨k, hk, rfl, rfl, hjs, hbel⟩ := hrel
          have HB := hide hbel
          have y1 := hbel.size
          clear hbel
          by_cases hlt : k < m
          · obtain ⟨b0, off, p, hp, rfl, _, hb0, c0, _⟩ := (P6.out.below HB.out (Nat.le_refl _)).str hlt
            have hp6 := HPS.out p (List.mem_of_getElem? hp)
            have zb0 : b0 < wr.heap.size := by omega
            have i0 : (0 : Int) ≤ (k : Int) := by omega
            have i1 : (k : Int) < (m : Int) := by omega
            have hts : PL.take (k + 1) = PL.take k ++ [p] := take_snoc hp
            by_cases hk0 : 0 < k
            · have hne : PL.take k ≠ [] := by
                intro h
                have := congrArg List.length h
                rw [List.length_take, HM.out] at this
                simp at this
                omega
              have HJS := hide (show jnB ⟨#[d]⟩ (PL.take (k + 1)) = (jnB ⟨#[d]⟩ (PL.take k) ++ ⟨#[d]⟩) ++ p by rw [hts, jnB_snoc _ _ _ hne])
              obtain ⟨J, hJ⟩ : ∃ J, jnB ⟨#[d]⟩ (PL.take k) = J := ⟨_, rfl⟩
              rw [hJ] at HJS hjs ⊢
              have hds : (ByteArray.mk #[d]).size = 1 := rfl
              have hcv := HCV.out wr
              have i2 : (0 : Int) < (k : Int) := by omega
              have hs1 : J.size ≤ 9223372036854775000 := by omega
              have hs2 : (J ++ ByteArray.mk #[d]).size ≤ 9223372036854775000 := by rw [ByteArray.size_append, hds]; omega
              have hs3 : p.size ≤ 6 := by omega
              clear hp hts hne hJ
              obtain ⟨D, hD⟩ : ∃ D : ByteArray, ByteArray.mk #[d] = D := ⟨_, rfl⟩
              rw [hD] at hcv hds hs2 HJS
              go_wp2_with fail
              go_roundw
              case rel => exact ⟨k + 1, by omega, by go_num, by rw [hD, HJS.out], by rw [hD, HJS.out, ByteArray.size_append, ByteArray.size_append, hds]; omega, (by repeat (first | with_reducible exact Below.refl _ _ | with_reducible assumption | with_reducible refine Below.setCell ?_ (by (try simp) <;> omega) _ | with_reducible refine Below.alloc ?_ (by (try simp) <;> omega) _ | with_reducible refine Below.drew ?_ | with_reducible refine below_drewN ?_ _ | with_reducible exact HB.out | with_reducible refine Below.trans ?_ (Below.mono HB.out (by (try simp) <;> omega))))⟩
              case measure => simp [intOf]; omega
            · obtain rfl : k = 0 := by omega
              have HJS := hide (show jnB ⟨#[d]⟩ (PL.take (0 + 1)) = ByteArray.empty ++ p by rw [hts, List.take_zero, List.nil_append, jnB_one, ByteArray.empty_append])
              have hJ0 : jnB ⟨#[d]⟩ (PL.take 0) = ByteArray.empty := rfl
              simp only [Nat.add_zero] at c0
              rw [hJ0]
              have i2 : ¬ ((0 : Int) < ((0 : Nat) : Int)) := by omega
              have hs3 : p.size ≤ 6 := by omega
              clear hp hts hJ0 hjs
              go_wp2_with fail
              go_roundw
              case rel => exact ⟨0 + 1, by omega, by go_num, by rw [HJS.out]; rfl, by rw [HJS.out, ByteArray.size_append]; simp; omega, HB.out⟩
              case measure => simp [intOf]; omega
          · obtain rfl : k = m := by omega
            have hj2 : jnB ⟨#[d]⟩ (PL.take k) = t := by rw [List.take_of_length_le (by rw [HM.out]; exact Nat.le_refl _), HJN.out]
            rw [hj2]
            clear hj2 hjs hlt
            obtain ⟨w7, hw7⟩ : ∃ W : World, W = wr := ⟨_, rfl⟩
            subst hw7
            have hb7 := HB.out
            clear HB
            have z7 := hb7.size
            have L7 := hide (L6.out.trans (hb7.mono (by omega)))
            have T7 := hide (tab_stays gPow T6.out hb7 (Nat.le_refl _))
            clear hb7 L6 T6 
            go_wp2_with fail
            refine (HDS.out _ L7.out).mono ?_
            rintro e w8 ⟨⟨ks, Ak, n, ck, rfl, hk8, hn9⟩, hb8⟩
            have hkc := hk8.cap
            have hkm := hk8.max
            have HKL := hide hk8.len
            have K8 := hide hk8
            clear hk8
            have z8 := hb8.size
            have L8 := hide (L7.out.trans (hb8.mono (by omega)))
            have T8 := hide (tab_stays gPow T7.out hb8 (Nat.le_refl _))
            clear hb8 L7 T7 
            go_wp2_with fail
            refine (sortUp_any ks w7.heap.size w8.heap.size Ak n ck _ K8.out (Nat.le_refl _) (by omega)).mono ?_
            rintro e w9 ⟨v9, rfl, ho9, hb9⟩
            obtain ⟨A9, c9, rfl, s9⟩ := Own.slk' encInt_len (show (sortBy ks false (rng n)).length = n by rw [sortBy_len, rng_len]) ho9
            have hc9 := s9.cap
            have hm9 := s9.max
            have A9s := hide s9
            clear ho9 s9
            have z9 := hb9.size
            have L9 := hide (L8.out.trans (hb9.mono (by omega)))
            have T9 := hide (tab_stays gPow T8.out hb9 (Nat.le_refl _))
            have K9 := hide (K8.out.below hb9 (by omega))
            clear hb9 L8 T8 K8
            have hnn : ((n : Int) != (n : Int)) = false := by simp
            have HSK := hide (fun (j : Nat) (x : Int) (h : (sortBy ks false (rng n))[j]? = some x) => (show (sKeys ks n).take (j + 1) = (sKeys ks n).take j ++ [keyAt ks x] from take_snoc (by unfold sKeys; rw [List.getElem?_map, h]; rfl)))
            have HSL := hide (sKeys_len ks n)
            have HSU := hide (sKeys_sum ks n HKL.out)
            have HSA := hide (sort_again (sKeys ks n) n (sKeys_len ks n) (sKeys_sorted ks n))
            go_wp2_with fail
            go_loopw [14, 15] (fun o i wr => ∃ j : Nat, j ≤ n ∧ i = .int .i64 j ∧ Own 1 encInt 3 wr w9.heap.size o ((sKeys ks n).take j) ∧ Below w9.heap.size w9 wr) (fun _ i _ => n - (intOf i).toNat)
            case atStart => exact ⟨0, Nat.zero_le _, rfl, own_lit (by omega) [] 0 _ _ rfl (by simp [maxLen]) rfl, (by repeat (first | with_reducible exact Below.refl _ _ | with_reducible assumption | with_reducible refine Below.setCell ?_ (by (try simp) <;> omega) _ | with_reducible refine Below.alloc ?_ (by (try simp) <;> omega) _ | with_reducible refine Below.drew ?_ | with_reducible refine below_drewN ?_ _))⟩
            case round =>
              obtain ⟨j, hj, rfl, ho, hbel⟩ := hrel
              have HO := hide ho
              have HB := hide hbel
              have y2 := hbel.size
              clear ho hbel
              by_cases hlt : j < n
              · obtain ⟨b0, off, x, hx, rfl, _, hb0, c0, _⟩ := (A9s.out.below HB.out (Nat.le_refl _)).int hlt
                have hxm := (sortBy_perm ks false (rng n)).mem_iff.1 (List.mem_of_getElem? hx)
                rw [mem_rng] at hxm
                have HS1 := hide (HSK.out j x hx)
                obtain ⟨x, rfl⟩ := Int.eq_ofNat_of_zero_le hxm.1
                obtain ⟨b1, off1, kx, hkx, rfl, _, hb1, c1, _⟩ := (K9.out.below HB.out (by omega)).int (i := x) (by omega)
                rw [key_of hkx] at HS1
                have i0 : (0 : Int) ≤ (j : Int) := by omega
                have i1 : (j : Int) < (n : Int) := by omega
                have i2 : (0 : Int) ≤ (x : Int) := by omega
                have i3 : (x : Int) < (n : Int) := by omega
                have hll : ((sKeys ks n).take j).length ≤ 4194304 := by rw [List.length_take]; omega
                clear hx hkx
                go_wp2_with (at_builtin; refine wpList_app rfl _ _ rfl rfl rfl (app1 HO.out (by omega) hll kx) ?_; intro vf wf hof hgf hatf; have HBf := hide (below_app HB.out HO.out (by omega) _ hgf); have HOf := hide hof; clear hof hgf hatf)
                go_roundw
                case rel => exact ⟨j + 1, by omega, by go_num, by rw [HS1.out]; exact HOf.out, HBf.out⟩
                case measure => simp [intOf]; omega
              · obtain rfl : j = n := by omega
                have htk : (sKeys ks j).take j = sKeys ks j := List.take_of_length_le (by rw [HSL.out]; exact Nat.le_refl _)
                have ho10 := HO.out
                rw [htk] at ho10
                obtain ⟨A10, c10, rfl, s10⟩ := Own.slk' encInt_len HSL.out ho10
                have hc10 := s10.cap
                have hm10 := s10.max
                obtain ⟨w10, hw10⟩ : ∃ W : World, W = wr := ⟨_, rfl⟩
                subst hw10
                have hb10 := HB.out
                have S10 := hide s10
                clear HB HO ho10 s10 htk hlt
                have z10 := hb10.size
                have L10 := hide (L9.out.trans (hb10.mono (by omega)))
                have T10 := hide (tab_stays gPow T9.out hb10 (Nat.le_refl _))
                have K10 := hide (K9.out.below hb10 (by omega))
                clear hb10 L9 T9 K9
                go_wp2_with fail
                refine (sortUp_any (sKeys ks j) w9.heap.size w10.heap.size A10 j c10 _ S10.out (Nat.le_refl _) (by omega)).mono ?_
                rw [HSA.out]
                rintro e w11 ⟨v11, rfl, ho11, hb11⟩
                obtain ⟨A11, c11, rfl, s11⟩ := Own.slk' encInt_len (rng_len j) ho11
                have hc11 := s11.cap
                have hm11 := s11.max
                have R11 := hide s11
                clear ho11 s11
                have z11 := hb11.size
                have L11 := hide (L10.out.trans (hb11.mono (by omega)))
                have T11 := hide (tab_stays gPow T10.out hb11 (Nat.le_refl _))
                have K11 := hide (K10.out.below hb11 (by omega))
                have S11 := hide (S10.out.below hb11 (by omega))
                clear hb11 L10 T10 K10 S10
                go_wp2_with fail
                go_loopw [17] (fun i wr => ∃ q : Nat, q ≤ j ∧ i = .int .i64 q ∧ w11 = wr) (fun i _ => j - (intOf i).toNat)
                case atStart => exact ⟨0, Nat.zero_le _, rfl, rfl⟩
                case round =>
                  obtain ⟨q, hq, rfl, rfl⟩ := hrel
                  by_cases hlt : q < j
                  · obtain ⟨b0, off, x, hx, rfl, _, hb0, c0, _⟩ := R11.out.int hlt
                    have hxq : x = (q : Int) := by
                      have h1 : (rng j)[q]? = some (q : Int) := by simp [rng, hlt]
                      rw [h1] at hx
                      exact (Option.some.inj hx).symm
                    subst hxq
                    have i0 : (0 : Int) ≤ (q : Int) := by omega
                    have i1 : (q : Int) < (j : Int) := by omega
                    have i2 : ((q : Int) != (q : Int)) = false := by simp
                    clear hx
                    go_wp2_with fail
                    go_roundw
                    case rel => exact ⟨q + 1, by omega, by go_num, by trivial⟩
                    case measure => first | omega | (simp [intOf]; done) | (simp [intOf]; omega)
                  · have hge : ¬ ((q : Int) < (j : Int)) := by omega
                    have e1 : (t.toList == t.toList) = true := by simp
                    have e2 : ((j : Int) == (j : Int)) = true := by simp
                    have HS1 := hide (sum_any w9.heap.size w10.heap.size A10 j c10 (sKeys ks j) w11 S11.out (by omega))
                    have HS2 := hide (sum_any w7.heap.size w8.heap.size Ak j ck ks w11 K11.out (by omega))
                    rw [HSU.out] at HS1
                    obtain ⟨U, hU⟩ : ∃ U, sumB ks = U := ⟨_, rfl⟩
                    rw [hU] at HS1 HS2
                    have e3 : (U == U) = true := by simp
                    clear hU hlt hq
                    go_wp2_with fail
                    refine HS1.out.mono ?_
                    rintro e w' ⟨rfl, rfl⟩
                    go_wp2_with fail
                    refine HS2.out.mono ?_
                    rintro e w' ⟨rfl, rfl⟩
                    go_wp2_with fail
                    go_ret
                    exact ⟨rfl, L11.out⟩

      · clear HRV hSS gn d1
        go_wp2_with fail
        clear g0
        refine (HDP.out _ L4.out).mono ?_
        rintro e w5 ⟨⟨t, by_, rfl, ht6, hy0, hy1⟩, hb5⟩
        obtain ⟨d, hdb⟩ : ∃ d : UInt8, (d.toNat : Int) = by_ := ⟨UInt8.ofNat by_.toNat, by
          have h1 : (UInt8.ofNat by_.toNat).toNat = by_.toNat % 256 := UInt8.toNat_ofNat'
          omega⟩
        have HJN := hide (parts_join t by_ d hdb)
        have HPS := hide (partsL_size t by_)
        have hpl := partsL_len t by_
        have hpp := partsL_pos t by_
        have HCV := hide (fun W => conv1 W by_ d hdb)
        obtain ⟨m, hm⟩ : ∃ m, (partsL t by_).length = m := ⟨_, rfl⟩
        rw [hm] at hpl hpp
        have HM := hide hm
        have HPA := hide (fun W => parts_any t by_ W (by omega))
        obtain ⟨PL, hPL⟩ : ∃ PL, partsL t by_ = PL := ⟨_, rfl⟩
        rw [hPL] at HJN HPS HM
        simp only [hPL] at HPA
        clear hdb hm hPL
        have z5 := hb5.size
        have L5 := hide (L4.out.trans (hb5.mono (by omega)))
        have T5 := hide (tab_stays gPow T4.out hb5 (Nat.le_refl _))
        clear hb5 L4 T4 
        go_wp2_with fail
        refine (HPA.out _).mono ?_
        rintro e w6 ⟨v6, rfl, ho6, hb6⟩
        obtain ⟨A6, c6, rfl, s6⟩ := Own.slk' encStr_len HM.out ho6
        have hc6 := s6.cap
        have hm6 := s6.max
        have P6 := hide s6
        clear ho6 s6 HPA
        have z6 := hb6.size
        have L6 := hide (L5.out.trans (hb6.mono (by omega)))
        have T6 := hide (tab_stays gPow T5.out hb6 (Nat.le_refl _))
        clear hb6 L5 T5 
        go_wp2_with fail
        go_loopw [10, 11] (fun o i wr => ∃ k : Nat, k ≤ m ∧ i = .int .i64 k ∧ o = .string (jnB ⟨#[d]⟩ (PL.take k)) ∧ (jnB ⟨#[d]⟩ (PL.take k)).size ≤ 7 * k ∧ Below w6.heap.size w6 wr) (fun _ i _ => m - (intOf i).toNat)
        case atStart => exact ⟨0, Nat.zero_le _, rfl, rfl, by simp [jnB], Below.refl _ _⟩
        case round =>
          obtain ⟨k, hk, rfl, rfl, hjs, hbel⟩ := hrel
          have HB := hide hbel
          have y1 := hbel.size
          clear hbel
          by_cases hlt : k < m
          · obtain ⟨b0, off, p, hp, rfl, _, hb0, c0, _⟩ := (P6.out.below HB.out (Nat.le_refl _)).str hlt
            have hp6 := HPS.out p (List.mem_of_getElem? hp)
            have zb0 : b0 < wr.heap.size := by omega
            have i0 : (0 : Int) ≤ (k : Int) := by omega
            have i1 : (k : Int) < (m : Int) := by omega
            have hts : PL.take (k + 1) = PL.take k ++ [p] := take_snoc hp
            by_cases hk0 : 0 < k
            · have hne : PL.take k ≠ [] := by
                intro h
                have := congrArg List.length h
                rw [List.length_take, HM.out] at this
                simp at this
                omega
              have HJS := hide (show jnB ⟨#[d]⟩ (PL.take (k + 1)) = (jnB ⟨#[d]⟩ (PL.take k) ++ ⟨#[d]⟩) ++ p by rw [hts, jnB_snoc _ _ _ hne])
              obtain ⟨J, hJ⟩ : ∃ J, jnB ⟨#[d]⟩ (PL.take k) = J := ⟨_, rfl⟩
              rw [hJ] at HJS hjs ⊢
              have hds : (ByteArray.mk #[d]).size = 1 := rfl
              have hcv := HCV.out wr
              have i2 : (0 : Int) < (k : Int) := by omega
              have hs1 : J.size ≤ 9223372036854775000 := by omega
              have hs2 : (J ++ ByteArray.mk #[d]).size ≤ 9223372036854775000 := by rw [ByteArray.size_append, hds]; omega
              have hs3 : p.size ≤ 6 := by omega
              clear hp hts hne hJ
              obtain ⟨D, hD⟩ : ∃ D : ByteArray, ByteArray.mk #[d] = D := ⟨_, rfl⟩
              rw [hD] at hcv hds hs2 HJS
              go_wp2_with fail
              go_roundw
              case rel => exact ⟨k + 1, by omega, by go_num, by rw [hD, HJS.out], by rw [hD, HJS.out, ByteArray.size_append, ByteArray.size_append, hds]; omega, (by repeat (first | with_reducible exact Below.refl _ _ | with_reducible assumption | with_reducible refine Below.setCell ?_ (by (try simp) <;> omega) _ | with_reducible refine Below.alloc ?_ (by (try simp) <;> omega) _ | with_reducible refine Below.drew ?_ | with_reducible refine below_drewN ?_ _ | with_reducible exact HB.out | with_reducible refine Below.trans ?_ (Below.mono HB.out (by (try simp) <;> omega))))⟩
              case measure => simp [intOf]; omega
            · obtain rfl : k = 0 := by omega
              have HJS := hide (show jnB ⟨#[d]⟩ (PL.take (0 + 1)) = ByteArray.empty ++ p by rw [hts, List.take_zero, List.nil_append, jnB_one, ByteArray.empty_append])
              have hJ0 : jnB ⟨#[d]⟩ (PL.take 0) = ByteArray.empty := rfl
              simp only [Nat.add_zero] at c0
              rw [hJ0]
              have i2 : ¬ ((0 : Int) < ((0 : Nat) : Int)) := by omega
              have hs3 : p.size ≤ 6 := by omega
              clear hp hts hJ0 hjs
              go_wp2_with fail
              go_roundw
              case rel => exact ⟨0 + 1, by omega, by go_num, by rw [HJS.out]; rfl, by rw [HJS.out, ByteArray.size_append]; simp; omega, HB.out⟩
              case measure => simp [intOf]; omega
          · obtain rfl : k = m := by omega
            have hj2 : jnB ⟨#[d]⟩ (PL.take k) = t := by rw [List.take_of_length_le (by rw [HM.out]; exact Nat.le_refl _), HJN.out]
            rw [hj2]
            clear hj2 hjs hlt
            obtain ⟨w7, hw7⟩ : ∃ W : World, W = wr := ⟨_, rfl⟩
            subst hw7
            have hb7 := HB.out
            clear HB
            have z7 := hb7.size
            have L7 := hide (L6.out.trans (hb7.mono (by omega)))
            have T7 := hide (tab_stays gPow T6.out hb7 (Nat.le_refl _))
            clear hb7 L6 T6 
            go_wp2_with fail
            refine (HDS.out _ L7.out).mono ?_
            rintro e w8 ⟨⟨ks, Ak, n, ck, rfl, hk8, hn9⟩, hb8⟩
            have hkc := hk8.cap
            have hkm := hk8.max
            have HKL := hide hk8.len
            have K8 := hide hk8
            clear hk8
            have z8 := hb8.size
            have L8 := hide (L7.out.trans (hb8.mono (by omega)))
            have T8 := hide (tab_stays gPow T7.out hb8 (Nat.le_refl _))
            clear hb8 L7 T7 
            go_wp2_with fail
            refine (sortUp_any ks w7.heap.size w8.heap.size Ak n ck _ K8.out (Nat.le_refl _) (by omega)).mono ?_
            rintro e w9 ⟨v9, rfl, ho9, hb9⟩
            obtain ⟨A9, c9, rfl, s9⟩ := Own.slk' encInt_len (show (sortBy ks false (rng n)).length = n by rw [sortBy_len, rng_len]) ho9
            have hc9 := s9.cap
            have hm9 := s9.max
            have A9s := hide s9
            clear ho9 s9
            have z9 := hb9.size
            have L9 := hide (L8.out.trans (hb9.mono (by omega)))
            have T9 := hide (tab_stays gPow T8.out hb9 (Nat.le_refl _))
            have K9 := hide (K8.out.below hb9 (by omega))
            clear hb9 L8 T8 K8
            have hnn : ((n : Int) != (n : Int)) = false := by simp
            have HSK := hide (fun (j : Nat) (x : Int) (h : (sortBy ks false (rng n))[j]? = some x) => (show (sKeys ks n).take (j + 1) = (sKeys ks n).take j ++ [keyAt ks x] from take_snoc (by unfold sKeys; rw [List.getElem?_map, h]; rfl)))
            have HSL := hide (sKeys_len ks n)
            have HSU := hide (sKeys_sum ks n HKL.out)
            have HSA := hide (sort_again (sKeys ks n) n (sKeys_len ks n) (sKeys_sorted ks n))
            go_wp2_with fail
            go_loopw [14, 15] (fun o i wr => ∃ j : Nat, j ≤ n ∧ i = .int .i64 j ∧ Own 1 encInt 3 wr w9.heap.size o ((sKeys ks n).take j) ∧ Below w9.heap.size w9 wr) (fun _ i _ => n - (intOf i).toNat)
            case atStart => exact ⟨0, Nat.zero_le _, rfl, own_lit (by omega) [] 0 _ _ rfl (by simp [maxLen]) rfl, (by repeat (first | with_reducible exact Below.refl _ _ | with_reducible assumption | with_reducible refine Below.setCell ?_ (by (try simp) <;> omega) _ | with_reducible refine Below.alloc ?_ (by (try simp) <;> omega) _ | with_reducible refine Below.drew ?_ | with_reducible refine below_drewN ?_ _))⟩
            case round =>
              obtain ⟨j, hj, rfl, ho, hbel⟩ := hrel
              have HO := hide ho
              have HB := hide hbel
              have y2 := hbel.size
              clear ho hbel
              by_cases hlt : j < n
              · obtain ⟨b0, off, x, hx, rfl, _, hb0, c0, _⟩ := (A9s.out.below HB.out (Nat.le_refl _)).int hlt
                have hxm := (sortBy_perm ks false (rng n)).mem_iff.1 (List.mem_of_getElem? hx)
                rw [mem_rng] at hxm
                have HS1 := hide (HSK.out j x hx)
                obtain ⟨x, rfl⟩ := Int.eq_ofNat_of_zero_le hxm.1
                obtain ⟨b1, off1, kx, hkx, rfl, _, hb1, c1, _⟩ := (K9.out.below HB.out (by omega)).int (i := x) (by omega)
                rw [key_of hkx] at HS1
                have i0 : (0 : Int) ≤ (j : Int) := by omega
                have i1 : (j : Int) < (n : Int) := by omega
                have i2 : (0 : Int) ≤ (x : Int) := by omega
                have i3 : (x : Int) < (n : Int) := by omega
                have hll : ((sKeys ks n).take j).length ≤ 4194304 := by rw [List.length_take]; omega
                clear hx hkx
                go_wp2_with (at_builtin; refine wpList_app rfl _ _ rfl rfl rfl (app1 HO.out (by omega) hll kx) ?_; intro vf wf hof hgf hatf; have HBf := hide (below_app HB.out HO.out (by omega) _ hgf); have HOf := hide hof; clear hof hgf hatf)
                go_roundw
                case rel => exact ⟨j + 1, by omega, by go_num, by rw [HS1.out]; exact HOf.out, HBf.out⟩
                case measure => simp [intOf]; omega
              · obtain rfl : j = n := by omega
                have htk : (sKeys ks j).take j = sKeys ks j := List.take_of_length_le (by rw [HSL.out]; exact Nat.le_refl _)
                have ho10 := HO.out
                rw [htk] at ho10
                obtain ⟨A10, c10, rfl, s10⟩ := Own.slk' encInt_len HSL.out ho10
                have hc10 := s10.cap
                have hm10 := s10.max
                obtain ⟨w10, hw10⟩ : ∃ W : World, W = wr := ⟨_, rfl⟩
                subst hw10
                have hb10 := HB.out
                have S10 := hide s10
                clear HB HO ho10 s10 htk hlt
                have z10 := hb10.size
                have L10 := hide (L9.out.trans (hb10.mono (by omega)))
                have T10 := hide (tab_stays gPow T9.out hb10 (Nat.le_refl _))
                have K10 := hide (K9.out.below hb10 (by omega))
                clear hb10 L9 T9 K9
                go_wp2_with fail
                refine (sortUp_any (sKeys ks j) w9.heap.size w10.heap.size A10 j c10 _ S10.out (Nat.le_refl _) (by omega)).mono ?_
                rw [HSA.out]
                rintro e w11 ⟨v11, rfl, ho11, hb11⟩
                obtain ⟨A11, c11, rfl, s11⟩ := Own.slk' encInt_len (rng_len j) ho11
                have hc11 := s11.cap
                have hm11 := s11.max
                have R11 := hide s11
                clear ho11 s11
                have z11 := hb11.size
                have L11 := hide (L10.out.trans (hb11.mono (by omega)))
                have T11 := hide (tab_stays gPow T10.out hb11 (Nat.le_refl _))
                have K11 := hide (K10.out.below hb11 (by omega))
                have S11 := hide (S10.out.below hb11 (by omega))
                clear hb11 L10 T10 K10 S10
                go_wp2_with fail
                go_loopw [17] (fun i wr => ∃ q : Nat, q ≤ j ∧ i = .int .i64 q ∧ w11 = wr) (fun i _ => j - (intOf i).toNat)
                case atStart => exact ⟨0, Nat.zero_le _, rfl, rfl⟩
                case round =>
                  obtain ⟨q, hq, rfl, rfl⟩ := hrel
                  by_cases hlt : q < j
                  · obtain ⟨b0, off, x, hx, rfl, _, hb0, c0, _⟩ := R11.out.int hlt
                    have hxq : x = (q : Int) := by
                      have h1 : (rng j)[q]? = some (q : Int) := by simp [rng, hlt]
                      rw [h1] at hx
                      exact (Option.some.inj hx).symm
                    subst hxq
                    have i0 : (0 : Int) ≤ (q : Int) := by omega
                    have i1 : (q : Int) < (j : Int) := by omega
                    have i2 : ((q : Int) != (q : Int)) = false := by simp
                    clear hx
                    go_wp2_with fail
                    go_roundw
                    case rel => exact ⟨q + 1, by omega, by go_num, by trivial⟩
                    case measure => first | omega | (simp [intOf]; done) | (simp [intOf]; omega)
                  · have hge : ¬ ((q : Int) < (j : Int)) := by omega
                    have e1 : (t.toList == t.toList) = true := by simp
                    have e2 : ((j : Int) == (j : Int)) = true := by simp
                    have HS1 := hide (sum_any w9.heap.size w10.heap.size A10 j c10 (sKeys ks j) w11 S11.out (by omega))
                    have HS2 := hide (sum_any w7.heap.size w8.heap.size Ak j ck ks w11 K11.out (by omega))
                    rw [HSU.out] at HS1
                    obtain ⟨U, hU⟩ : ∃ U, sumB ks = U := ⟨_, rfl⟩
                    rw [hU] at HS1 HS2
                    have e3 : (U == U) = true := by simp
                    clear hU hlt hq
                    go_wp2_with fail
                    refine HS1.out.mono ?_
                    rintro e w' ⟨rfl, rfl⟩
                    go_wp2_with fail
                    refine HS2.out.mono ?_
                    rintro e w' ⟨rfl, rfl⟩
                    go_wp2_with fail
                    go_ret
                    exact ⟨rfl, L11.out⟩

  · go_enter Tryd.func6, Tryd.ntmps6
    go_wp2_with fail
    refine (big_yes Ab nb cb _ hcap hmax hbig).mono ?_
    rintro e w' ⟨rfl, rfl⟩
    go_wp2
    go_ret
    exact ⟨rfl, Below.refl _ _⟩
/-- The door's own heap meets the condition. -/
theorem door_met (os : Os) (args : Array Value) : laidMetH Tryd.prog Rows.fnNumbersRow.laid ((World.doorLaid Tryd.prog 62 os).forCall (fun _ _ => 0) ⟨#[], args, []⟩).memory :=
  laidMetH_of_parts3 (fuel := 8) (laidMet_of_run' 8 (by kernel_rfl) (by kernel_rfl)) (by kernel_rfl) (by kernel_rfl)
theorem met_plain {W : World} (h : laidMetH Tryd.prog Rows.fnNumbersRow.laid W) : laidMet Tryd.prog Rows.fnNumbersRow.laid W := by
  rw [MakeChecks.laidMetH_plain _ _ _ (by kernel_rfl)] at h
  exact h
theorem tab_of_laid {W : World} (h : laidMetH Tryd.prog Rows.fnNumbersRow.laid W) : Lib.TabIs Tryd.prog W "internal/strconv.uint64pow10" .u64 Lib.pow10Tab :=
  Lib.tabIs_of_head gPow gPowTy Tryd.underlying160 Tryd.underlying143 cU64 cPow (met_plain h).tail.tail
theorem rng_of_laid {W : World} (h : laidMetH Tryd.prog Rows.fnNumbersRow.laid W) : ∃ tp p, W.var? Tryd.prog "strconv.ErrRange" = some #[.iface tp p] := by
  obtain ⟨a0, s0, hv0, _⟩ := laid_sentinel (met_plain h).tail.tail.tail gRng gRngTy Tryd.underlying63 rowErr Tryd.underlying165 Tryd.underlying167 rfl rfl Tryd.underlying9 cErr cStr
  exact ⟨_, _, hv0⟩
theorem syn_of_laid {W : World} (h : laidMetH Tryd.prog Rows.fnNumbersRow.laid W) : ∃ tp p, W.var? Tryd.prog "strconv.ErrSyntax" = some #[.iface tp p] := by
  obtain ⟨a0, s0, hv0, _⟩ := laid_sentinel (met_plain h).tail.tail.tail.tail gSyn gSynTy Tryd.underlying63 rowErr Tryd.underlying165 Tryd.underlying167 rfl rfl Tryd.underlying9 cErr cStr
  exact ⟨_, _, hv0⟩
set_option maxRecDepth 100000 in
set_option maxHeartbeats 1000000 in
theorem lifted (os : Os) (started : os.Started) (H : Type) (enc : TypeId × Value → H) :
    ReturnsInHanded {} Tryd.checked os 6 .any (fun w args => (Rows.fnNumbersSpec.pre enc Tryd.prog Tryd.f6 [] false w args ∧ laidMetH Tryd.prog Rows.fnNumbersRow.laid w) ∧ sizedMet enc Tryd.prog Tryd.f6 (OpenSpec.ofChange Rows.fnNumbersSpec) false w args) (Rows.fnNumbersSpec.post enc Tryd.prog Tryd.f6 false true false false) := by
  refine returnsInHanded_of_change_and (C := Tryd.checked) (X := fun w _ => laidMetH Tryd.prog Rows.fnNumbersRow.laid w) (fun _ _ _ hh h => h.of_heap hh) ownK started (by kernel_rfl) Tryd.func6
    (ChangeSpec.witness_shaped (enc := enc) (C := Tryd.checked) (os := os) (X := fun w _ => laidMetH Tryd.prog Rows.fnNumbersRow.laid w) false (World.doorLaid Tryd.prog 62 os) #[.slice none 0 0] 8 rfl (World.shaped_of_RefB (by kernel_rfl) (by kernel_rfl)) (by kernel_rfl) (by kernel_rfl) (by kernel_rfl) (door_met os _)) ?_
  intro W base args ds gs before hval0 hW _ _ hL _
  have hval : ∀ (j : Nat) t v, Tryd.f6.params[j]? = some t → args[j]? = some v → Value.okWide Tryd.prog W .any base t v := hval0
  have hW' := hW
  obtain ⟨p, q, hA0, hV, rfl, hfz, hnd⟩ := hW
  have hA : DataW.TrodAll enc Tryd.prog W 0 (fun _ => true) true Tryd.f6.params.toList args.toList ds p := hA0
  have hV' := hV
  obtain ⟨rfl, rfl⟩ := trodVars_none hV'
  rw [Tryd.params6] at hA hval
  obtain ⟨v0, vs0, d0, ds0, p0, q0, hargs, rfl, rfl, h0, r0⟩ := trodAll_cons hA
  obtain ⟨rfl, rfl, rfl⟩ := trodAll_nil r0
  obtain rfl : args = #[v0] := by cases args; simp_all
  have hz0 : W.noneFrozen p0 := fun b off hin => hfz b off (by simp [hin])
  obtain ⟨Ab, nb, cb, b, rfl, hb⟩ : ∃ A n c, ∃ xs : List Int, v0 = .slice A n c ∧ (SlK 1 encByte W 0 W.heap.size A n c xs ∧ ∀ z ∈ xs, 0 ≤ z ∧ z ≤ 255) := by
    obtain ⟨a0, len0, cap0, rfl⟩ := okWide_slice Tryd.underlying45 (hval 0 45 v0 rfl rfl)
    obtain ⟨fu, hf⟩ := h0
    exact open_bytes Tryd.underlying45 (by kernel_rfl) Tryd.underlying5 (by simpa [Value.cells] using hf) hz0
  refine (walk Ab nb cb b W hb (tab_of_laid hL) (rng_of_laid hL) (syn_of_laid hL)).mono fun e W' ⟨he, hb⟩ => ?_
  subst he
  exact ⟨_, rfl, law_post laidO (by intro t ht; rw [Tryd.params6] at ht; simp only [List.mem_cons, List.not_mem_nil, or_false] at ht; subst ht; exact ⟨by kernel_rfl, of_decide_eq_true (by kernel_rfl)⟩) rfl (by kernel_rfl) Tryd.underlying4 hW' rfl hb⟩

theorem over : Rows.fnNumbersRow.holds Tryd.pinned (OpenSpec.ofChange Rows.fnNumbersSpec) :=
  OpenClaim.holds_of_wide 6 Tryd.f6 rfl rfl rfl rfl rfl rfl rfl ⟨rfl, rfl, rfl, rfl, rfl⟩ rfl rfl rfl rfl rfl (by kernel_rfl) Tryd.func6 (by kernel_rfl)
    (of_decide_eq_true (by kernel_rfl)) (by unfold Func.isWrapper; first | (rw [if_pos (by decide +kernel)]; kernel_rfl) | (rw [if_neg (by decide +kernel)]; exact ⟨rfl, rfl⟩))
    (fun os started H enc _ => lifted os started H enc)

theorem proved : Rows.FnNumbersCardSaid :=
  Claim7.holds_tied_plain_at .later [] [.data, .data, .data, .sentinel, .sentinel] true (true, "47db44bfef9637420b27c10cfcd8988c2986ee371ee12df26c06bbb8d457f40f") true
    over (fun _ h => by cases h) (by kernel_rfl) (fun _ h => by cases h) fnNumbers_row_tie rfl ⟨rfl, rfl⟩ (by kernel_rfl) rfl
    (fun f fn hf hfn => by
      obtain rfl : f = 6 := Option.some.inj ((show Tryd.prog.funcNamed "loop.example/g00489/laws.FnNumbers" = some 6 by kernel_rfl).symm.trans hf) |>.symm
      obtain rfl : fn = Tryd.f6 := (Option.some.inj (Tryd.func6.symm.trans hfn)).symm
      exact ⟨by kernel_rfl, fun j t ht => by
        rw [Tryd.params6] at ht
        have hm : t ∈ [45] := by simpa using Array.mem_of_getElem? ht
        have hall : ([45].all fun u => !Tryd.prog.wantsStandIn u) = true := by kernel_rfl
        exact (show Tryd.prog.wantsStandIn t = false by simpa using List.all_eq_true.1 hall t hm)⟩)
    (by kernel_rfl)
#print axioms proved
end Go.Proofs.YtcjcmdikopipjaaDoor.fnNumbers
