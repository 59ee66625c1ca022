/- VolumeOf, GramOf of the program. -/
import Derived.Test.YtehgdhekiogppaaGreatUn3
namespace Go.Proofs.YtehgdhekiogppaaGreat
open Go.ChangeShapes Go.WideShapes Go.ChangeAt Go.RowKit Go.Deep
set_option linter.unusedVariables false
set_option linter.unusedSimpArgs false

set_option maxRecDepth 20000 in
set_option maxHeartbeats 2000000 in
theorem volOf_any (r : Rq) (A1 A2 A3 : Option Addr) (n1 n2 n3 c1 c2 c3 : Nat) (lo hi : Nat) (lo2 hi2 : Nat) (A : Option Addr) (n c : Nat) (us : List Int) (w : World) (hr : RqAt w lo hi r A1 n1 c1 A2 n2 c2 A3 n3 c3) (hB : hi ≤ w.heap.size) (hs : SlK 1 encInt w lo2 hi2 A n c us) (hB2 : hi2 ≤ w.heap.size) (hn : n ≤ 1048580) :
    Calls Tryz.prog 27 #[.agg #[.int .i64 r.way, .int .i64 r.pal.w, .int .i64 r.pal.d, .int .i64 r.pal.h, .int .i64 r.pal.gram, .int .i64 r.cls, .slice A1 n1 c1, .slice A2 n2 c2, .int .i64 r.master, .slice A3 n3 c3], .slice A n c] w fun e w' => e = .returned (.int .i64 (volU r us)) ∧ Below w.heap.size w w' := by
  have HV := hide (volU_eq r us)
  have HLI := hide (show (itemsOfL r us).length ≤ n by have := itemsOf_len r us; rw [hs.len] at this; exact this)
  have HOK := hide (fun (x : It) (hx : x ∈ itemsOfL r us) => itemsOf_ok hx)
  have HR := hide hr
  have HS := hide hs
  clear hr hs
  go_enter Tryz.func27, Tryz.ntmps27
  go_wp2_with fail
  refine (itemsOf_any r A1 A2 A3 n1 n2 n3 c1 c2 c3 lo hi lo2 hi2 A n c us _ (HR.out.below (B := w.heap.size) (by repeat (first | with_reducible exact Below.refl _ _ | with_reducible assumption | with_reducible refine Below.setCell ?_ (by (try simp) <;> omega) _ | with_reducible refine Below.alloc ?_ (by (try simp) <;> omega) _ | with_reducible refine Below.drew ?_ | with_reducible refine below_drewN ?_ _)) hB) (by (try simp) <;> omega) (HS.out.below (B := w.heap.size) (by repeat (first | with_reducible exact Below.refl _ _ | with_reducible assumption | with_reducible refine Below.setCell ?_ (by (try simp) <;> omega) _ | with_reducible refine Below.alloc ?_ (by (try simp) <;> omega) _ | with_reducible refine Below.drew ?_ | with_reducible refine below_drewN ?_ _)) hB2) (by (try simp) <;> omega) hn).mono ?_
  rintro e w1 ⟨v1, rfl, ho1, hb1⟩
  have L1 := hide (show Below w.heap.size w w1 from (by repeat (first | with_reducible exact Below.refl _ _ | with_reducible assumption | with_reducible refine Below.setCell ?_ (by (try simp) <;> omega) _ | with_reducible refine Below.alloc ?_ (by (try simp) <;> omega) _ | with_reducible refine Below.drew ?_ | with_reducible refine below_drewN ?_ _ | with_reducible exact hb1 | with_reducible refine Below.trans ?_ (Below.mono hb1 (by (try simp) <;> omega)))))
  obtain ⟨m, hm⟩ : ∃ m, (itemsOfL r us).length = m := ⟨_, rfl⟩
  obtain ⟨A1', c1', rfl, s1⟩ := Own.slk' encIt_len hm ho1
  rw [hm] at HLI
  have S1 := hide s1
  have hmn : m ≤ n := HLI.out
  have hcm := s1.cap
  have hcx := s1.max
  have HM := hide hm
  have z1 : w.heap.size ≤ w1.heap.size := L1.out.size
  clear hb1 ho1 s1 hm
  generalize itemsOfL r us = xs at *
  go_wp2
  go_loopw [5, 12] (fun s i wr => ∃ k : Nat, k ≤ m ∧ i = .int .i64 k ∧ s = .int .i64 (volS (xs.take k)) ∧ Below w1.heap.size w1 wr) (fun _ i _ => m - (intOf i).toNat)
  case atStart => exact ⟨0, Nat.zero_le _, rfl, rfl, (by repeat (first | with_reducible exact Below.refl _ _ | with_reducible assumption | with_reducible refine Below.setCell ?_ (by (try simp) <;> omega) _ | with_reducible refine Below.alloc ?_ (by (try simp) <;> omega) _ | with_reducible refine Below.drew ?_ | with_reducible refine below_drewN ?_ _))⟩
  case round =>
    obtain ⟨k, hk, rfl, rfl, hbel⟩ := hrel
    have HBel := hide hbel
    have HB := hide (volS_bd (xs.take k))
    have hlen : (xs.take k).length ≤ k := List.length_take_le _ _
    have hz := hbel.size
    clear hbel
    by_cases hlt : k < m
    · obtain ⟨b0, off, x, hx, q, _, hb, d0, d1, d2, d3, d4, d5, d6, _⟩ := (S1.out.below HBel.out (Nat.le_refl _)).it hlt
      subst q
      have HX := hide hx
      have hsn := hide (volS_snoc hx)
      have hv1 := (volI_bd x).1
      have hv2 := (volI_bd x).2
      rw [show volI x = vol x.w x.h x.d from rfl] at hv1 hv2
      have hb1 : 0 ≤ volS (xs.take k) := HB.out.1
      have hb2 : volS (xs.take k) ≤ 8388640000000000 := by have := HB.out.2; omega
      have i0 : (0 : Int) ≤ (k : Int) := by omega
      have i1 : (k : Int) < (m : Int) := by omega
      have z0 : b0 < wr.heap.size := by omega
      clear hx
      obtain ⟨S, hS⟩ : ∃ S, volS (xs.take k) = S := ⟨_, rfl⟩
      have HSS := hide hS
      rw [hS] at hb1 hb2 ⊢
      clear hS
      have h1 : -9223372036854775808 ≤ S + vol x.w x.h x.d := by omega
      have h2 : S + vol x.w x.h x.d ≤ 9223372036854775807 := by omega
      go_wp2_with fail
      refine (vol_any _ _ _ _).mono ?_
      rintro e w' ⟨rfl, rfl⟩
      go_wp2
      go_roundw
      case rel => exact ⟨k + 1, by omega, by go_num, by rw [hsn.out, HSS.out]; try rfl, (by repeat (first | with_reducible exact Below.refl _ _ | with_reducible assumption | with_reducible refine Below.setCell ?_ (by (try simp) <;> omega) _ | with_reducible refine Below.alloc ?_ (by (try simp) <;> omega) _ | with_reducible refine Below.drew ?_ | with_reducible refine below_drewN ?_ _ | with_reducible exact HBel.out | with_reducible refine Below.trans ?_ (Below.mono HBel.out (by (try simp) <;> omega))))⟩
      case measure => simp [intOf]; omega
    · have hge : m ≤ k := by omega
      clear hlt
      have HT := hide (show xs.take k = xs from List.take_of_length_le (by rw [HM.out]; exact hge))
      go_wp2
      go_ret
      exact ⟨ret_int (by rw [HT.out, HV.out]), L1.out.trans (HBel.out.mono z1)⟩
set_option maxRecDepth 20000 in
set_option maxHeartbeats 2000000 in
theorem gramOf_any (r : Rq) (A1 A2 A3 : Option Addr) (n1 n2 n3 c1 c2 c3 : Nat) (lo hi : Nat) (lo2 hi2 : Nat) (A : Option Addr) (n c : Nat) (us : List Int) (w : World) (hr : RqAt w lo hi r A1 n1 c1 A2 n2 c2 A3 n3 c3) (hB : hi ≤ w.heap.size) (hs : SlK 1 encInt w lo2 hi2 A n c us) (hB2 : hi2 ≤ w.heap.size) (hn : n ≤ 1048580) :
    Calls Tryz.prog 28 #[.agg #[.int .i64 r.way, .int .i64 r.pal.w, .int .i64 r.pal.d, .int .i64 r.pal.h, .int .i64 r.pal.gram, .int .i64 r.cls, .slice A1 n1 c1, .slice A2 n2 c2, .int .i64 r.master, .slice A3 n3 c3], .slice A n c] w fun e w' => e = .returned (.int .i64 (gramU r us)) ∧ Below w.heap.size w w' := by
  have HV := hide (gramU_eq r us)
  have HLI := hide (show (itemsOfL r us).length ≤ n by have := itemsOf_len r us; rw [hs.len] at this; exact this)
  have HOK := hide (fun (x : It) (hx : x ∈ itemsOfL r us) => itemsOf_ok hx)
  have HR := hide hr
  have HS := hide hs
  clear hr hs
  go_enter Tryz.func28, Tryz.ntmps28
  go_wp2_with fail
  refine (itemsOf_any r A1 A2 A3 n1 n2 n3 c1 c2 c3 lo hi lo2 hi2 A n c us _ (HR.out.below (B := w.heap.size) (by repeat (first | with_reducible exact Below.refl _ _ | with_reducible assumption | with_reducible refine Below.setCell ?_ (by (try simp) <;> omega) _ | with_reducible refine Below.alloc ?_ (by (try simp) <;> omega) _ | with_reducible refine Below.drew ?_ | with_reducible refine below_drewN ?_ _)) hB) (by (try simp) <;> omega) (HS.out.below (B := w.heap.size) (by repeat (first | with_reducible exact Below.refl _ _ | with_reducible assumption | with_reducible refine Below.setCell ?_ (by (try simp) <;> omega) _ | with_reducible refine Below.alloc ?_ (by (try simp) <;> omega) _ | with_reducible refine Below.drew ?_ | with_reducible refine below_drewN ?_ _)) hB2) (by (try simp) <;> omega) hn).mono ?_
  rintro e w1 ⟨v1, rfl, ho1, hb1⟩
  have L1 := hide (show Below w.heap.size w w1 from (by repeat (first | with_reducible exact Below.refl _ _ | with_reducible assumption | with_reducible refine Below.setCell ?_ (by (try simp) <;> omega) _ | with_reducible refine Below.alloc ?_ (by (try simp) <;> omega) _ | with_reducible refine Below.drew ?_ | with_reducible refine below_drewN ?_ _ | with_reducible exact hb1 | with_reducible refine Below.trans ?_ (Below.mono hb1 (by (try simp) <;> omega)))))
  obtain ⟨m, hm⟩ : ∃ m, (itemsOfL r us).length = m := ⟨_, rfl⟩
  obtain ⟨A1', c1', rfl, s1⟩ := Own.slk' encIt_len hm ho1
  rw [hm] at HLI
  have S1 := hide s1
  have hmn : m ≤ n := HLI.out
  have hcm := s1.cap
  have hcx := s1.max
  have HM := hide hm
  have z1 : w.heap.size ≤ w1.heap.size := L1.out.size
  clear hb1 ho1 s1 hm
  generalize itemsOfL r us = xs at *
  go_wp2
  go_loopw [5, 12] (fun s i wr => ∃ k : Nat, k ≤ m ∧ i = .int .i64 k ∧ s = .int .i64 (gramS (xs.take k)) ∧ Below w1.heap.size w1 wr) (fun _ i _ => m - (intOf i).toNat)
  case atStart => exact ⟨0, Nat.zero_le _, rfl, rfl, (by repeat (first | with_reducible exact Below.refl _ _ | with_reducible assumption | with_reducible refine Below.setCell ?_ (by (try simp) <;> omega) _ | with_reducible refine Below.alloc ?_ (by (try simp) <;> omega) _ | with_reducible refine Below.drew ?_ | with_reducible refine below_drewN ?_ _))⟩
  case round =>
    obtain ⟨k, hk, rfl, rfl, hbel⟩ := hrel
    have HBel := hide hbel
    have HB := hide (gramS_bd (xs := xs.take k) (fun x hx => HOK.out x (List.mem_of_mem_take hx)))
    have hlen : (xs.take k).length ≤ k := List.length_take_le _ _
    have hz := hbel.size
    clear hbel
    by_cases hlt : k < m
    · obtain ⟨b0, off, x, hx, q, _, hb, d0, d1, d2, d3, d4, d5, d6, _⟩ := (S1.out.below HBel.out (Nat.le_refl _)).it hlt
      subst q
      have HX := hide hx
      have hsn := hide (gramS_snoc hx)
      have hv1 := (itemOk_gram (HOK.out x (List.mem_of_getElem? hx))).1
      have hv2 := (itemOk_gram (HOK.out x (List.mem_of_getElem? hx))).2
      have hb1 : 0 ≤ gramS (xs.take k) := HB.out.1
      have hb2 : gramS (xs.take k) ≤ 104858000000 := by have := HB.out.2; omega
      have i0 : (0 : Int) ≤ (k : Int) := by omega
      have i1 : (k : Int) < (m : Int) := by omega
      have z0 : b0 < wr.heap.size := by omega
      clear hx
      obtain ⟨S, hS⟩ : ∃ S, gramS (xs.take k) = S := ⟨_, rfl⟩
      have HSS := hide hS
      rw [hS] at hb1 hb2 ⊢
      clear hS
      have h1 : -9223372036854775808 ≤ S + x.gram := by omega
      have h2 : S + x.gram ≤ 9223372036854775807 := by omega
      go_wp2
      go_roundw
      case rel => exact ⟨k + 1, by omega, by go_num, by rw [hsn.out, HSS.out]; try rfl, (by repeat (first | with_reducible exact Below.refl _ _ | with_reducible assumption | with_reducible refine Below.setCell ?_ (by (try simp) <;> omega) _ | with_reducible refine Below.alloc ?_ (by (try simp) <;> omega) _ | with_reducible refine Below.drew ?_ | with_reducible refine below_drewN ?_ _ | with_reducible exact HBel.out | with_reducible refine Below.trans ?_ (Below.mono HBel.out (by (try simp) <;> omega))))⟩
      case measure => simp [intOf]; omega
    · have hge : m ≤ k := by omega
      clear hlt
      have HT := hide (show xs.take k = xs from List.take_of_length_le (by rw [HM.out]; exact hge))
      go_wp2
      go_ret
      exact ⟨ret_int (by rw [HT.out, HV.out]), L1.out.trans (HBel.out.mono z1)⟩
end Go.Proofs.YtehgdhekiogppaaGreat
