/- The units of an order: sound, l6Units, l6Item and Units of the reference. -/
import Derived.Test.YtehgdhekiogppaaGreatUn
import Derived.Test.YtehgdhekiogppaaGreatFit
namespace Go.Proofs.YtehgdhekiogppaaGreat
open Go.ChangeShapes Go.WideShapes Go.ChangeAt Go.RowKit Go.Deep
set_option linter.unusedVariables false
set_option linter.unusedSimpArgs false

theorem sound_any (r : Rq) (A1 A2 A3 : Option Addr) (n1 n2 n3 c1 c2 c3 : Nat) (lo hi : Nat) (w : World) (hr : RqAt w lo hi r A1 n1 c1 A2 n2 c2 A3 n3 c3) (hB : hi ≤ w.heap.size) :
    Calls Tryz.prog 50 #[.agg #[.int .i64 r.way, .int .i64 r.pal.w, .int .i64 r.pal.d, .int .i64 r.pal.h, .int .i64 r.pal.gram, .int .i64 r.cls, .slice A1 n1 c1, .slice A2 n2 c2, .int .i64 r.master, .slice A3 n3 c3]] w fun e w' => e = .returned (.bool (decide (classN r = 0))) ∧ Below w.heap.size w w' := by
  obtain ⟨q, hq⟩ : ∃ q, classN r = q := ⟨_, rfl⟩
  have HC := class_any r A1 A2 A3 n1 n2 n3 c1 c2 c3 lo hi
  rw [hq] at HC ⊢
  clear hq
  by_cases h0 : q = 0
  · subst h0
    go_enter Tryz.func50, Tryz.ntmps50
    go_wp2_with fail
    refine (HC _ (hr.below (B := w.heap.size) (by repeat (first | with_reducible exact Below.refl _ _ | with_reducible assumption | with_reducible refine Below.setCell ?_ (by (try simp) <;> omega) _ | with_reducible refine Below.alloc ?_ (by (try simp) <;> omega) _ | with_reducible refine Below.drew ?_ | with_reducible refine below_drewN ?_ _)) hB) (by (try simp) <;> omega)).mono ?_
    rintro e w1 ⟨rfl, hb1⟩
    go_wp2
    go_ret
    exact ⟨ret_bool (by simp), (by repeat (first | with_reducible exact Below.refl _ _ | with_reducible assumption | with_reducible refine Below.setCell ?_ (by (try simp) <;> omega) _ | with_reducible refine Below.alloc ?_ (by (try simp) <;> omega) _ | with_reducible refine Below.drew ?_ | with_reducible refine below_drewN ?_ _ | with_reducible exact hb1 | with_reducible refine Below.trans ?_ (Below.mono hb1 (by (try simp) <;> omega))))⟩
  · have hd : (q == 0) = false := by simpa using h0
    go_enter Tryz.func50, Tryz.ntmps50
    go_wp2_with fail
    refine (HC _ (hr.below (B := w.heap.size) (by repeat (first | with_reducible exact Below.refl _ _ | with_reducible assumption | with_reducible refine Below.setCell ?_ (by (try simp) <;> omega) _ | with_reducible refine Below.alloc ?_ (by (try simp) <;> omega) _ | with_reducible refine Below.drew ?_ | with_reducible refine below_drewN ?_ _)) hB) (by (try simp) <;> omega)).mono ?_
    rintro e w1 ⟨rfl, hb1⟩
    go_wp2
    go_ret
    exact ⟨ret_bool (by simp [h0]), (by repeat (first | with_reducible exact Below.refl _ _ | with_reducible assumption | with_reducible refine Below.setCell ?_ (by (try simp) <;> omega) _ | with_reducible refine Below.alloc ?_ (by (try simp) <;> omega) _ | with_reducible refine Below.drew ?_ | with_reducible refine below_drewN ?_ _ | with_reducible exact hb1 | with_reducible refine Below.trans ?_ (Below.mono hb1 (by (try simp) <;> omega))))⟩
theorem rep_succ (m : Nat) (x : Int) (us : List Int) : us ++ List.replicate (m + 1) x = (us ++ List.replicate m x) ++ [x] := by
  rw [List.replicate_succ', List.append_assoc]
set_option maxRecDepth 20000 in
set_option maxHeartbeats 2000000 in
theorem sl6units_any (r : Rq) (A1 A2 A3 : Option Addr) (n1 n2 n3 c1 c2 c3 : Nat) (lo hi : Nat) (w : World) (hr : RqAt w lo hi r A1 n1 c1 A2 n2 c2 A3 n3 c3) (hB : hi ≤ w.heap.size) (hok : ∀ x ∈ r.items, itemOkB x = true) (hn : n3 ≤ 8) :
    Calls Tryz.prog 45 #[.agg #[.int .i64 r.way, .int .i64 r.pal.w, .int .i64 r.pal.d, .int .i64 r.pal.h, .int .i64 r.pal.gram, .int .i64 r.cls, .slice A1 n1 c1, .slice A2 n2 c2, .int .i64 r.master, .slice A3 n3 c3]] w fun e w' => ∃ v, e = .returned v ∧ Own 1 encInt 3 w' w.heap.size v (unitsL r.items) ∧ Below w.heap.size w w' := by
  have HR := hide hr
  have HL := hide hr.it.len
  have HOK := hide hok
  have HLE := hide (fun k hk => unitsTo_le (xs := r.items) hok k hk)
  have hm3 := hr.it.max
  have hc3 := hr.it.cap
  clear hr hok
  go_enter Tryz.func45, Tryz.ntmps45
  go_wp2
  obtain ⟨RL, hRL⟩ : ∃ RL : Array Value, RL = #[.int .i64 r.way, .int .i64 r.pal.w, .int .i64 r.pal.d, .int .i64 r.pal.h, .int .i64 r.pal.gram, .int .i64 r.cls, .slice A1 n1 c1, .slice A2 n2 c2, .int .i64 r.master, .slice A3 n3 c3] := ⟨_, rfl⟩
  have HRL := hide hRL
  clear hRL
  go_loopw [3, 4] (fun o i wr => ∃ k : Nat, k ≤ n3 ∧ i = .int .i64 k ∧ Blk wr w.heap.size 37 RL ∧ Own 1 encInt 3 wr (w.heap.size + 1) o (unitsTo r.items k) ∧ Below w.heap.size w wr) (fun _ i _ => n3 - (intOf i).toNat)
  case atStart => exact ⟨0, Nat.zero_le _, rfl, ((Blk.new w _ _ rfl).alloc _).as HRL.out.symm, own_at (by simp) (by simp) [] 0 _ _ rfl (by simp [maxLen]) rfl, (by repeat (first | with_reducible exact Below.refl _ _ | with_reducible assumption | with_reducible refine Below.setCell ?_ (by (try simp) <;> omega) _ | with_reducible refine Below.alloc ?_ (by (try simp) <;> omega) _ | with_reducible refine Below.drew ?_ | with_reducible refine below_drewN ?_ _))⟩
  case round =>
    obtain ⟨k, hk, rfl, B0, ho, hbel⟩ := hrel
    have HO := hide ho
    have PR := hide B0
    have HBel := hide hbel
    have hz := hbel.size
    have kR := (B0.as HRL.out).cell
    have yR := B0.lt
    clear ho B0 hbel
    by_cases hlt : k < n3
    · obtain ⟨b0, off, x, hx, q, _, hb, d0, d1, d2, d3, d4, d5, d6, _⟩ := (HR.out.it.below HBel.out hB).it hlt
      subst q
      have HX := hide hx
      have HC := hide (itemOk_cnt (HOK.out x (List.mem_of_getElem? hx)))
      have HLk := hide (HLE.out k (by rw [HL.out]; exact hk))
      clear hx d0 d1 d2 d3 d4 d5 d6
      obtain ⟨m, hm⟩ : ∃ m : Nat, x.cnt = m := ⟨x.cnt.toNat, by have := HC.out; omega⟩
      have hm6 : m ≤ 6 := by have := HC.out; omega
      have i0 : (0 : Int) ≤ (k : Int) := by omega
      have i1 : (k : Int) < (n3 : Int) := by omega
      have HM := hide hm
      clear hm
      go_wp2
      go_loopw [3, 5] (fun o j wr => ∃ q : Nat, q ≤ m ∧ j = .int .i64 q ∧ Blk wr w.heap.size 37 RL ∧ Own 1 encInt 3 wr (w.heap.size + 1) o (unitsTo r.items k ++ List.replicate q (k : Int)) ∧ Below w.heap.size w wr) (fun _ j _ => m - (intOf j).toNat)
      case atStart => exact ⟨0, Nat.zero_le _, rfl, PR.out, by simpa using HO.out, HBel.out⟩
      case round =>
        obtain ⟨q, hq, rfl, B0, ho, hbel⟩ := hrel
        have HO2 := hide ho
        clear kR yR
        have kR := (B0.as HRL.out).cell
        have yR := B0.lt
        have PR2 := hide B0
        have HBel2 := hide hbel
        have hz2 := hbel.size
        have hz3 : w.heap.size + 1 ≤ wr.heap.size := B0.lt
        have z0 : b0 < wr.heap.size := by omega
        clear ho B0 hbel
        obtain ⟨b0', off', x', hx', q', _, _, d0, d1, d2, d3, d4, d5, d6, _⟩ := (HR.out.it.below HBel2.out hB).it hlt
        simp only [Option.some.injEq, Addr.mk.injEq, and_true] at q'
        obtain ⟨rfl, rfl⟩ := q'
        obtain rfl : x' = x := by have := HX.out; rw [hx'] at this; exact Option.some.inj this
        rw [HM.out] at d6
        clear hx' d0 d1 d2 d3 d4 d5
        by_cases hlt2 : q < m
        · have hln : (unitsTo r.items k ++ List.replicate q (k : Int)).length ≤ 4194304 := by
            have := HLk.out
            simp
            omega
          have HLN := hide hln
          have j1 : (q : Int) < (m : Int) := by omega
          clear hln
          go_wp2_with (at_builtin; refine wpList_app rfl _ _ rfl rfl rfl (app1 HO2.out hz3 HLN.out k) ?_; intro v' w1 ho1 hg1 hat1)
          go_roundw
          case rel => exact ⟨q + 1, by omega, by go_num, (PR2.out.alloc _).grown hg1 (fun e => by have := (HO2.out.lt _ e.symm).1; omega), by rw [rep_succ]; exact ho1, below_app HBel2.out (HO2.out.base_le (by omega)) hz2 _ hg1⟩
          case measure => simp [intOf]; omega
        · obtain rfl : q = m := by omega
          have HU := hide (show unitsTo r.items (k + 1) = unitsTo r.items k ++ List.replicate q (k : Int) by rw [unitsTo_succ HX.out, HM.out]; simp)
          clear hlt2
          go_wp2
          go_roundw
          case rel => exact ⟨k + 1, by omega, by go_num, PR2.out, by rw [HU.out]; exact HO2.out, HBel2.out⟩
          case measure => simp [intOf]; omega
    · obtain rfl : k = n3 := by omega
      clear hlt
      go_wp2
      go_ret
      exact ⟨_, rfl, by unfold unitsL; rw [HL.out]; exact HO.out.base_le (by omega), HBel.out⟩
set_option maxRecDepth 20000 in
set_option maxHeartbeats 1000000 in
theorem sunits_any (r : Rq) (A1 A2 A3 : Option Addr) (n1 n2 n3 c1 c2 c3 : Nat) (lo hi : Nat) (w : World) (hr : RqAt w lo hi r A1 n1 c1 A2 n2 c2 A3 n3 c3) (hB : hi ≤ w.heap.size) :
    Calls Tryz.prog 24 #[.agg #[.int .i64 r.way, .int .i64 r.pal.w, .int .i64 r.pal.d, .int .i64 r.pal.h, .int .i64 r.pal.gram, .int .i64 r.cls, .slice A1 n1 c1, .slice A2 n2 c2, .int .i64 r.master, .slice A3 n3 c3]] w fun e w' => ∃ v, e = .returned v ∧ Own 1 encInt 3 w' w.heap.size v (unitsR r) ∧ Below w.heap.size w w' := by
  have HC := hide (sclass_any r A1 A2 A3 n1 n2 n3 c1 c2 c3 lo hi)
  have HR := hide hr
  clear hr
  by_cases h0 : classN r = 0
  · have HU := hide (show unitsR r = unitsL r.items by simp [unitsR, h0])
    have hb := bounds_items (class0_bounds h0)
    have HOK := hide hb.1
    have hn : n3 ≤ 8 := by have := hb.2.1; rw [HR.out.it.len] at this; exact this
    rw [h0] at HC
    clear hb h0
    go_enter Tryz.func24, Tryz.ntmps24
    go_wp2_with fail
    refine (HC.out _ (HR.out.below (B := w.heap.size) (by repeat (first | with_reducible exact Below.refl _ _ | with_reducible assumption | with_reducible refine Below.setCell ?_ (by (try simp) <;> omega) _ | with_reducible refine Below.alloc ?_ (by (try simp) <;> omega) _ | with_reducible refine Below.drew ?_ | with_reducible refine below_drewN ?_ _)) hB) (by (try simp) <;> omega)).mono ?_
    rintro e w1 ⟨rfl, hb1⟩
    have L1 := hide (show Below w.heap.size w w1 from (by repeat (first | with_reducible exact Below.refl _ _ | with_reducible assumption | with_reducible refine Below.setCell ?_ (by (try simp) <;> omega) _ | with_reducible refine Below.alloc ?_ (by (try simp) <;> omega) _ | with_reducible refine Below.drew ?_ | with_reducible refine below_drewN ?_ _ | with_reducible exact hb1 | with_reducible refine Below.trans ?_ (Below.mono hb1 (by (try simp) <;> omega)))))
    have P1 := hide (Blk.belowH (Blk.new w 37 (#[.int .i64 r.way, .int .i64 r.pal.w, .int .i64 r.pal.d, .int .i64 r.pal.h, .int .i64 r.pal.gram, .int .i64 r.cls, .slice A1 n1 c1, .slice A2 n2 c2, .int .i64 r.master, .slice A3 n3 c3]) (g := w.heap.size) (by simp)) hb1)
    have z1 : w.heap.size + 1 ≤ w1.heap.size := by simpa using hb1.size
    clear hb1
    have kR := P1.out.cell
    have yR := P1.out.lt
    go_wp2_with fail
    refine (sl6units_any r A1 A2 A3 n1 n2 n3 c1 c2 c3 lo hi _ (HR.out.below L1.out hB) (by (try simp) <;> omega) HOK.out hn).mono ?_
    rintro e w2 ⟨v, rfl, ho, hb2⟩
    have HO := hide ho
    clear ho
    go_wp2
    go_ret
    exact ⟨_, rfl, by rw [HU.out]; exact HO.out.base_le (by omega), (by repeat (first | with_reducible exact Below.refl _ _ | with_reducible assumption | with_reducible refine Below.setCell ?_ (by (try simp) <;> omega) _ | with_reducible refine Below.alloc ?_ (by (try simp) <;> omega) _ | with_reducible refine Below.drew ?_ | with_reducible refine below_drewN ?_ _ | with_reducible exact L1.out | with_reducible exact hb2 | with_reducible refine Below.trans ?_ (Below.mono L1.out (by (try simp) <;> omega)) | with_reducible refine Below.trans ?_ (Below.mono hb2 (by (try simp) <;> omega))))⟩
  · have HU := hide (show unitsR r = [] by simp [unitsR, h0])
    obtain ⟨q, hq⟩ : ∃ q, classN r = q := ⟨_, rfl⟩
    rw [hq] at HC h0
    clear hq
    have hd : (q == 0) = false := by simpa using h0
    go_enter Tryz.func24, Tryz.ntmps24
    go_wp2_with fail
    refine (HC.out _ (HR.out.below (B := w.heap.size) (by repeat (first | with_reducible exact Below.refl _ _ | with_reducible assumption | with_reducible refine Below.setCell ?_ (by (try simp) <;> omega) _ | with_reducible refine Below.alloc ?_ (by (try simp) <;> omega) _ | with_reducible refine Below.drew ?_ | with_reducible refine below_drewN ?_ _)) hB) (by (try simp) <;> omega)).mono ?_
    rintro e w1 ⟨rfl, hb1⟩
    have z1 : w.heap.size + 1 ≤ w1.heap.size := by simpa using hb1.size
    go_wp2
    go_ret
    exact ⟨_, rfl, by rw [HU.out]; exact own_at (by simp) (by omega) [] 0 _ _ rfl (by simp [maxLen]) rfl, (by repeat (first | with_reducible exact Below.refl _ _ | with_reducible assumption | with_reducible refine Below.setCell ?_ (by (try simp) <;> omega) _ | with_reducible refine Below.alloc ?_ (by (try simp) <;> omega) _ | with_reducible refine Below.drew ?_ | with_reducible refine below_drewN ?_ _ | with_reducible exact hb1 | with_reducible refine Below.trans ?_ (Below.mono hb1 (by (try simp) <;> omega))))⟩
set_option maxRecDepth 20000 in
set_option maxHeartbeats 1000000 in
theorem sl6item_any (r : Rq) (A1 A2 A3 : Option Addr) (n1 n2 n3 c1 c2 c3 : Nat) (lo hi : Nat) (u : Int) (lo2 hi2 : Nat) (A : Option Addr) (n c : Nat) (w : World) (hr : RqAt w lo hi r A1 n1 c1 A2 n2 c2 A3 n3 c3) (hB : hi ≤ w.heap.size) (hs : SlK 1 encInt w lo2 hi2 A n c (unitsR r)) (hB2 : hi2 ≤ w.heap.size) :
    Calls Tryz.prog 80 #[.agg #[.int .i64 r.way, .int .i64 r.pal.w, .int .i64 r.pal.d, .int .i64 r.pal.h, .int .i64 r.pal.gram, .int .i64 r.cls, .slice A1 n1 c1, .slice A2 n2 c2, .int .i64 r.master, .slice A3 n3 c3], .slice A n c, .int .i64 u] w fun e w' => e = .returned (.tuple #[.agg #[.int .i64 (itD (unitIt r u)).id, .int .i64 (itD (unitIt r u)).w, .int .i64 (itD (unitIt r u)).h, .int .i64 (itD (unitIt r u)).d, .int .i64 (itD (unitIt r u)).gram, .int .i64 (itD (unitIt r u)).cls, .int .i64 (itD (unitIt r u)).cnt], .bool (isUnit r u)]) ∧ Below w.heap.size w w' := by
  have hnl := hs.len
  have hn12 := unitsR_len r
  have hcap := hs.cap
  have hmax := hs.max
  have hm3 := hr.it.max
  have hc3 := hr.it.cap
  have hI : inB u 0 ((n : Int) - 1) = isUnit r u := by unfold isUnit; rw [hnl]
  rw [hnl] at hn12
  cases hu : isUnit r u
  · rw [hu] at hI
    have HU := hide (unitIt_no hu)
    clear hu
    go_enter Tryz.func80, Tryz.ntmps80
    go_wp2_with (go_at_call 105; refine (sin_any _ _ _ _).mono ?_; rintro e w' ⟨rfl, rfl⟩)
    refine bodyPost_ret (v := .tuple #[.agg #[.int .i64 it0.id, .int .i64 it0.w, .int .i64 it0.h, .int .i64 it0.d, .int .i64 it0.gram, .int .i64 it0.cls, .int .i64 it0.cnt], .bool false]) (by simp [results, Tryz.results80, go_sem, it0]) rfl ⟨?_, (by repeat (first | with_reducible exact Below.refl _ _ | with_reducible assumption | with_reducible refine Below.setCell ?_ (by (try simp) <;> omega) _ | with_reducible refine Below.alloc ?_ (by (try simp) <;> omega) _ | with_reducible refine Below.drew ?_ | with_reducible refine below_drewN ?_ _))⟩
    rw [HU.out]
    rfl
  · rw [hu] at hI
    obtain ⟨i, x, h1, h2, h3, h4, h5⟩ := unitIt_yes hu
    have hu' := hu
    unfold isUnit at hu'
    rw [inB_iff, hnl] at hu'
    obtain ⟨u0, u1⟩ := hu'
    have HU := hide h5
    have hl3 := hr.it.len
    have i3 : i.toNat < n3 := by omega
    obtain ⟨b, off, y, hy, rfl, _, hb, e1, _⟩ := hs.int (i := u.toNat) (by omega)
    obtain rfl : y = i := by rw [h1] at hy; exact (Option.some.inj hy).symm
    obtain ⟨b0, off0, x', hx', rfl, _, hb0, d0, d1, d2, d3, d4, d5, d6, _⟩ := hr.it.it i3
    obtain rfl : x' = x := by rw [h4] at hx'; exact (Option.some.inj hx').symm
    have y1 : y < (n3 : Int) := by omega
    have u2 : u < (n : Int) := by omega
    have z0 : b0 < w.heap.size := by omega
    have z1 : b < w.heap.size := by omega
    clear h1 hy hx' h4 h5 hu hr hs hnl hn12
    go_enter Tryz.func80, Tryz.ntmps80
    go_wp2_with fail
    refine (sin_any _ _ _ _).mono ?_
    rw [hI]
    rintro e w' ⟨rfl, rfl⟩
    have ne0 : b0 ≠ w.heap.size + 1 := by omega
    have ne1 : b ≠ w.heap.size + 1 := by omega
    go_wp2_with fail
    go_region_held3 (fun w' => w'.cell? ⟨w.heap.size, 9, none⟩ = some (.slice (some ⟨b0, off0, none⟩) n3 c3) ∧ w'.cell? ⟨b, off + u.toNat, none⟩ = some (.int .i64 y) ∧ w'.cell? ⟨b0, off0 + y.toNat * 7, none⟩ = some (.int .i64 x'.id) ∧ w'.cell? ⟨b0, off0 + y.toNat * 7 + 1, none⟩ = some (.int .i64 x'.w) ∧ w'.cell? ⟨b0, off0 + y.toNat * 7 + 2, none⟩ = some (.int .i64 x'.h) ∧ w'.cell? ⟨b0, off0 + y.toNat * 7 + 3, none⟩ = some (.int .i64 x'.d) ∧ w'.cell? ⟨b0, off0 + y.toNat * 7 + 4, none⟩ = some (.int .i64 x'.gram) ∧ w'.cell? ⟨b0, off0 + y.toNat * 7 + 5, none⟩ = some (.int .i64 x'.cls) ∧ w'.cell? ⟨b0, off0 + y.toNat * 7 + 6, none⟩ = some (.int .i64 x'.cnt)) (go_keep) (fail)
    go_wp2
    refine bodyPost_ret (v := .tuple #[.agg #[.int .i64 x'.id, .int .i64 x'.w, .int .i64 x'.h, .int .i64 x'.d, .int .i64 x'.gram, .int .i64 x'.cls, .int .i64 x'.cnt], .bool true]) (by simp [results, Tryz.results80, go_sem]) rfl ⟨?_, (by repeat (first | with_reducible exact Below.refl _ _ | with_reducible assumption | with_reducible refine Below.setCell ?_ (by (try simp) <;> omega) _ | with_reducible refine Below.alloc ?_ (by (try simp) <;> omega) _ | with_reducible refine Below.drew ?_ | with_reducible refine below_drewN ?_ _))⟩
    rw [HU.out]
    rfl
end Go.Proofs.YtehgdhekiogppaaGreat
