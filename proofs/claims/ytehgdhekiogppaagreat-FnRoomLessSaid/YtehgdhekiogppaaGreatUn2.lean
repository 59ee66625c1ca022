/- Units, itemsOf, VolumeOf, GramOf of the program. -/
import Derived.Test.YtehgdhekiogppaaGreatUn1
import Derived.Test.YtehgdhekiogppaaGreatRep
namespace Go.Proofs.YtehgdhekiogppaaGreat
open Go.ChangeShapes Go.WideShapes Go.ChangeAt Go.RowKit Go.Deep
set_option linter.unusedVariables false
set_option linter.unusedSimpArgs false

set_option maxRecDepth 20000 in
set_option maxHeartbeats 2000000 in
theorem units_any (r : Rq) (A1 A2 A3 : Option Addr) (n1 n2 n3 c1 c2 c3 : Nat) (lo hi : Nat) (w : World) (hr : RqAt w lo hi r A1 n1 c1 A2 n2 c2 A3 n3 c3) (hB : hi ≤ w.heap.size) :
    Calls Tryz.prog 22 #[.agg #[.int .i64 r.way, .int .i64 r.pal.w, .int .i64 r.pal.d, .int .i64 r.pal.h, .int .i64 r.pal.gram, .int .i64 r.cls, .slice A1 n1 c1, .slice A2 n2 c2, .int .i64 r.master, .slice A3 n3 c3]] w fun e w' => ∃ v, e = .returned v ∧ Own 1 encInt 3 w' w.heap.size v (unitsR r) ∧ Below w.heap.size w w' := by
  have HC := hide (sound_any r A1 A2 A3 n1 n2 n3 c1 c2 c3 lo hi)
  have HR := hide hr
  have hm3 := hr.it.max
  have hc3 := hr.it.cap
  have HL := hide hr.it.len
  clear hr
  by_cases h0 : classN r = 0
  · have HU := hide (show unitsR r = unitsL r.items by simp [unitsR, h0])
    have hb := bounds_items (class0_bounds h0)
    have HOK := hide hb.1
    have HLE := hide (fun k hk => unitsTo_le (xs := r.items) hb.1 k hk)
    have hn : n3 ≤ 8 := by have := hb.2.1; rw [HL.out] at this; exact this
    have hd : decide (classN r = 0) = true := by simp [h0]
    rw [hd] at HC
    clear hb h0 hd
    go_enter Tryz.func22, Tryz.ntmps22
    go_wp2_with fail
    refine (HC.out _ (HR.out.below (B := w.heap.size) (by repeat (first | with_reducible exact Below.refl _ _ | with_reducible assumption | with_reducible refine Below.setCell ?_ (by (try simp) <;> omega) _ | with_reducible refine Below.alloc ?_ (by (try simp) <;> omega) _ | with_reducible refine Below.drew ?_ | with_reducible refine below_drewN ?_ _)) hB) (by (try simp) <;> omega)).mono ?_
    rintro e w1 ⟨rfl, hb1⟩
    have L1 := hide (show Below w.heap.size w w1 from (by repeat (first | with_reducible exact Below.refl _ _ | with_reducible assumption | with_reducible refine Below.setCell ?_ (by (try simp) <;> omega) _ | with_reducible refine Below.alloc ?_ (by (try simp) <;> omega) _ | with_reducible refine Below.drew ?_ | with_reducible refine below_drewN ?_ _ | with_reducible exact hb1 | with_reducible refine Below.trans ?_ (Below.mono hb1 (by (try simp) <;> omega)))))
    have P1 := hide (Blk.belowH (Blk.new w 37 (#[.int .i64 r.way, .int .i64 r.pal.w, .int .i64 r.pal.d, .int .i64 r.pal.h, .int .i64 r.pal.gram, .int .i64 r.cls, .slice A1 n1 c1, .slice A2 n2 c2, .int .i64 r.master, .slice A3 n3 c3]) (g := w.heap.size) (by simp)) hb1)
    have z1 : w.heap.size + 1 ≤ w1.heap.size := by simpa using hb1.size
    clear hb1
    have kR := P1.out.cell
    have yR := P1.out.lt
    go_wp2
    go_loopw [3, 13] (fun o i wr => ∃ k : Nat, k ≤ n3 ∧ i = .int .i64 k ∧ Own 1 encInt 3 wr w.heap.size o (unitsTo r.items k) ∧ Below w.heap.size w wr) (fun _ i _ => n3 - (intOf i).toNat)
    case atStart => exact ⟨0, Nat.zero_le _, rfl, own_lit (by omega) [] 0 _ _ rfl (by simp [maxLen]) rfl, (by repeat (first | with_reducible exact Below.refl _ _ | with_reducible assumption | with_reducible refine Below.setCell ?_ (by (try simp) <;> omega) _ | with_reducible refine Below.alloc ?_ (by (try simp) <;> omega) _ | with_reducible refine Below.drew ?_ | with_reducible refine below_drewN ?_ _ | with_reducible exact L1.out | with_reducible refine Below.trans ?_ (Below.mono L1.out (by (try simp) <;> omega))))⟩
    case round =>
      obtain ⟨k, hk, rfl, ho, hbel⟩ := hrel
      have HO := hide ho
      have HBel := hide hbel
      have hz := hbel.size
      clear ho hbel kR yR
      by_cases hlt : k < n3
      · obtain ⟨b0, off, x, hx, q, _, hb, d0, d1, d2, d3, d4, d5, d6, _⟩ := (HR.out.it.below HBel.out hB).it hlt
        subst q
        have HX := hide hx
        have HCt := hide (itemOk_cnt (HOK.out x (List.mem_of_getElem? hx)))
        have HLk := hide (HLE.out k (by rw [HL.out]; exact hk))
        clear hx
        obtain ⟨m, hm⟩ : ∃ m : Nat, x.cnt = m := ⟨x.cnt.toNat, by have := HCt.out; omega⟩
        have hm6 : m ≤ 6 := by have := HCt.out; omega
        have hm1 : 1 ≤ m := by have := HCt.out; omega
        have i0 : (0 : Int) ≤ (k : Int) := by omega
        have i1 : (k : Int) < (n3 : Int) := by omega
        have HM := hide hm
        rw [hm] at d6
        clear hm
        go_wp2_with fail
        refine (repeat_any (k : Int) m hm1 hm6 (wr.heap.size + 1) (wr.heap.size + 1 + 1) _ 1 _ (slk_at (by simp) [(k : Int)] 1 _ _ rfl (by simp [maxLen]) rfl) (by simp)).mono ?_
        rintro e w2 ⟨v2, rfl, ho2, hb2⟩
        have hz2 : wr.heap.size + 1 + 1 ≤ w2.heap.size := by simpa using hb2.size
        have L2 := hide (show Below w.heap.size w w2 from (by repeat (first | with_reducible exact Below.refl _ _ | with_reducible assumption | with_reducible refine Below.setCell ?_ (by (try simp) <;> omega) _ | with_reducible refine Below.alloc ?_ (by (try simp) <;> omega) _ | with_reducible refine Below.drew ?_ | with_reducible refine below_drewN ?_ _ | with_reducible exact HBel.out | with_reducible exact hb2 | with_reducible refine Below.trans ?_ (Below.mono HBel.out (by (try simp) <;> omega)) | with_reducible refine Below.trans ?_ (Below.mono hb2 (by (try simp) <;> omega)))))
        have HO2 := hide ((HO.out.alloc _).alloc _ |>.below hb2)
        obtain ⟨A2', c2', rfl, s2⟩ := Own.slk' encInt_len (n := m) (by simp) ho2
        have S2 := hide s2
        have HW := hide (show (unitsTo r.items k).length + m ≤ 4194304 by have := HLk.out; omega)
        have HU2 := hide (show unitsTo r.items (k + 1) = unitsTo r.items k ++ List.replicate m (k : Int) by rw [unitsTo_succ HX.out, HM.out]; simp)
        clear ho2 s2 hb2
        go_wp2_with (at_builtin; refine wpList_app rfl _ _ rfl rfl rfl (appL HO2.out (by omega) S2.out HW.out) ?_; intro v' w3 ho3 hg3 hat3)
        go_roundw
        case rel => exact ⟨k + 1, by omega, by go_num, by rw [HU2.out]; exact ho3, below_app0 L2.out HO2.out (by omega) hg3⟩
        case measure => simp [intOf]; omega
      · obtain rfl : k = n3 := by omega
        clear hlt
        go_wp2
        go_ret
        exact ⟨_, rfl, by rw [HU.out]; unfold unitsL; rw [HL.out]; exact HO.out, HBel.out⟩
  · have HU := hide (show unitsR r = [] by simp [unitsR, h0])
    have hd : decide (classN r = 0) = false := by simp [h0]
    rw [hd] at HC
    clear hd h0
    go_enter Tryz.func22, Tryz.ntmps22
    go_wp2_with fail
    refine (HC.out _ (HR.out.below (B := w.heap.size) (by repeat (first | with_reducible exact Below.refl _ _ | with_reducible assumption | with_reducible refine Below.setCell ?_ (by (try simp) <;> omega) _ | with_reducible refine Below.alloc ?_ (by (try simp) <;> omega) _ | with_reducible refine Below.drew ?_ | with_reducible refine below_drewN ?_ _)) hB) (by (try simp) <;> omega)).mono ?_
    rintro e w1 ⟨rfl, hb1⟩
    go_wp2
    go_ret
    exact ⟨_, rfl, by rw [HU.out]; exact Own.nil_ _ _, (by repeat (first | with_reducible exact Below.refl _ _ | with_reducible assumption | with_reducible refine Below.setCell ?_ (by (try simp) <;> omega) _ | with_reducible refine Below.alloc ?_ (by (try simp) <;> omega) _ | with_reducible refine Below.drew ?_ | with_reducible refine below_drewN ?_ _ | with_reducible exact hb1 | with_reducible refine Below.trans ?_ (Below.mono hb1 (by (try simp) <;> omega))))⟩
end Go.Proofs.YtehgdhekiogppaaGreat
