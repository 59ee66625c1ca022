/- The law FnGroupsFew holds for every input: the call answers true, and each argument reads afterwards as it read before. -/
import Derived.Test.YtehgdhekiogppaaGreatGf
import Derived.Test.YtehgdhekiogppaaGreatDg
import Derived.Test.YtehgdhekiogppaaGreatLw
import Derived.Test.YtehgdhekiogppaaGreatOpG
import Derived.Test.YtehgdhekiogppaaGreatRw
import Derived.Test.YtehgdhekiogppaaGreatS2
namespace Go.Proofs.YtehgdhekiogppaaGreat.fnGroupsFew
open Go.ChangeShapes Go.WideShapes Go.ChangeAt Go.RowKit Go.Deep
open Go.ChangeMaps (open_string)
set_option linter.unusedVariables false
set_option linter.unusedSimpArgs false


set_option maxRecDepth 20000 in
set_option maxHeartbeats 2000000 in
theorem walk (Ab : Option Addr) (nb cb : Nat) (b : List Int) (w : World) (hb : SlK 1 encByte w 0 w.heap.size Ab nb cb b ∧ ∀ z ∈ b, 0 ≤ z ∧ z ≤ 255) :
    Calls Tryz.prog 6 #[.slice Ab nb cb] w fun e w' => e = .returned (.bool true) ∧ Below w.heap.size w w' := by
  obtain ⟨hs, hb⟩ := hb
  have hcap := hs.cap
  have hmax := hs.max
  by_cases hbig : nb ≤ 1048576
  · go_enter Tryz.func6, Tryz.ntmps6
    go_wp2_with fail
    refine (big_no Ab nb cb _ hcap hmax hbig).mono ?_
    rintro e w' ⟨rfl, rfl⟩
    go_wp2_with fail
    refine (drawGroupsOf_any Ab nb cb b _ hs hb).mono ?_
    rintro e w1 ⟨⟨r, A1, n1, c1, A2, n2, c2, A3, n3, c3, rfl, hr, q1, q2, q3⟩, hb1⟩
    have z1 := hb1.size
    have L1 := hide hb1
    have HR1 := hide hr
    obtain ⟨N, hN⟩ : ∃ N, (gsR r).length = N := ⟨_, rfl⟩
    obtain ⟨m, hm⟩ : ∃ m, (presR r).length = m := ⟨_, rfl⟩
    obtain ⟨un, hun⟩ : ∃ m, (unitsR r).length = m := ⟨_, rfl⟩
    have f1 := gs_pres r
    have f2 := gs_units r
    have f3 := presR_len r
    have f4 := unitsR_len r
    rw [hN, hm] at f1
    rw [hN, hun] at f2
    rw [hm] at f3
    rw [hun] at f4
    have HN := hide hN
    have HM := hide hm
    have HUN := hide hun
    clear hb1 hr hs hb hN hm hun
    go_wp2_with fail
    refine (groupsOf_any r A1 A2 A3 n1 n2 n3 c1 c2 c3 w.heap.size w1.heap.size _ (HR1.out.below (B := w1.heap.size) (by repeat (first | with_reducible exact Below.refl _ _ | with_reducible assumption | with_reducible refine Below.setCell ?_ (by (try simp) <;> omega) _ | with_reducible refine Below.alloc ?_ (by (try simp) <;> omega) _ | with_reducible refine Below.drew ?_ | with_reducible refine below_drewN ?_ _)) (by omega)) (by (try simp) <;> omega)).mono ?_
    rintro e w2 ⟨vg, rowsg, rfl, hg, hE, hb2⟩
    have D2 := hide (show Below w1.heap.size w1 w2 from (by repeat (first | with_reducible exact Below.refl _ _ | with_reducible assumption | with_reducible refine Below.setCell ?_ (by (try simp) <;> omega) _ | with_reducible refine Below.alloc ?_ (by (try simp) <;> omega) _ | with_reducible refine Below.drew ?_ | with_reducible refine below_drewN ?_ _ | with_reducible exact hb2 | with_reducible refine Below.trans ?_ (Below.mono hb2 (by (try simp) <;> omega)))))
    have PR2 := hide (Blk.belowH (Blk.new w1 37 (#[.int .i64 r.way, .int .i64 r.pal.w, .int .i64 r.pal.d, .int .i64 r.pal.h, .int .i64 r.pal.gram, .int .i64 r.cls, .slice A1 n1 c1, .slice A2 n2 c2, .int .i64 r.master, .slice A3 n3 c3]) (g := w1.heap.size) (by simp)) hb2)
    have L2 := hide (show Below w.heap.size w w2 from (by repeat (first | with_reducible exact Below.refl _ _ | with_reducible assumption | with_reducible refine Below.setCell ?_ (by (try simp) <;> omega) _ | with_reducible refine Below.alloc ?_ (by (try simp) <;> omega) _ | with_reducible refine Below.drew ?_ | with_reducible refine below_drewN ?_ _ | with_reducible exact L1.out | with_reducible exact hb2 | with_reducible refine Below.trans ?_ (Below.mono L1.out (by (try simp) <;> omega)) | with_reducible refine Below.trans ?_ (Below.mono hb2 (by (try simp) <;> omega)))))
    have z2 : w1.heap.size + 1 ≤ w2.heap.size := by simpa using hb2.size
    have HR2 := hide (HR1.out.below D2.out (by omega))
    have kR := PR2.out.cell
    have yR := PR2.out.lt
    clear hb2 D2 L1 HR1
    have hl : rowsg.length = N := by rw [← HN.out, ← hE]; simp [rowsL]
    obtain ⟨Ag, cg, rfl, hr⟩ := hg.rows1 hl
    have hgc := hr.out.cap
    have hgm := hr.out.max
    have HG2 := hide hr
    have HE := hide hE
    clear hg hr hE hl
    go_wp2_with fail
    refine (present_any r A1 A2 A3 n1 n2 n3 c1 c2 c3 w.heap.size w1.heap.size _ HR2.out (by omega)).mono ?_
    rintro e w3 ⟨vp, rfl, ho, hb3⟩
    have PR3 := hide (PR2.out.belowH hb3)
    have L3 := hide (L2.out.trans (hb3.mono (by omega)))
    have z3 : w2.heap.size ≤ w3.heap.size := by simpa using hb3.size
    have HR3 := hide (HR2.out.below hb3 (by omega))
    have HG3 := hide (HG2.out.below hb3 (by omega))
    clear kR yR
    have kR := PR3.out.cell
    have yR := PR3.out.lt
    clear hb3 PR2 L2 HR2 HG2
    obtain ⟨Ap, cp, rfl, sp⟩ := Own.slk' encInt_len HM.out ho
    have HP3 := hide sp
    have hpc := sp.cap
    have hpm := sp.max
    clear ho sp
    go_wp2_with fail
    refine (sgroupsOf_any r A1 A2 A3 n1 n2 n3 c1 c2 c3 w.heap.size w1.heap.size _ HR3.out (by omega)).mono ?_
    rintro e w4 ⟨vs, rowss, rfl, hg, hE2, hb4⟩
    have PR4 := hide (PR3.out.belowH hb4)
    have L4 := hide (L3.out.trans (hb4.mono (by omega)))
    have z4 : w3.heap.size ≤ w4.heap.size := by simpa using hb4.size
    have HR4 := hide (HR3.out.below hb4 (by omega))
    have HG4 := hide (HG3.out.below hb4 (by omega))
    have HP4 := hide (HP3.out.below hb4 (by omega))
    clear kR yR
    have kR := PR4.out.cell
    have yR := PR4.out.lt
    clear hb4 PR3 L3 HR3 HG3 HP3
    have hl : rowss.length = N := by rw [← HN.out, ← hE2]; simp [rowsL]
    obtain ⟨As, cs, rfl, hr⟩ := hg.rows1 hl
    have hsc := hr.out.cap
    have hsm := hr.out.max
    clear hg hr hE2 hl
    go_wp2_with fail
    refine (spresent_any r A1 A2 A3 n1 n2 n3 c1 c2 c3 w.heap.size w1.heap.size _ HR4.out (by omega)).mono ?_
    rintro e w5 ⟨vq, rfl, ho, hb5⟩
    have PR5 := hide (PR4.out.belowH hb5)
    have L5 := hide (L4.out.trans (hb5.mono (by omega)))
    have z5 : w4.heap.size ≤ w5.heap.size := by simpa using hb5.size
    have HR5 := hide (HR4.out.below hb5 (by omega))
    have HG5 := hide (HG4.out.below hb5 (by omega))
    have HP5 := hide (HP4.out.below hb5 (by omega))
    clear kR yR
    have kR := PR5.out.cell
    have yR := PR5.out.lt
    clear hb5 PR4 L4 HR4 HG4 HP4
    obtain ⟨Aq, cq, rfl, sq⟩ := Own.slk' encInt_len HM.out ho
    have HQ5 := hide sq
    clear ho sq
    go_wp2_with fail
    refine (sameInts_any w2.heap.size w3.heap.size w4.heap.size w5.heap.size Ap Aq m cp m cq (presR r) (presR r) _ HP5.out (by omega) HQ5.out (by omega)).mono ?_
    rintro e w6 ⟨rfl, hb6⟩
    have PR6 := hide (PR5.out.belowH hb6)
    have L6 := hide (L5.out.trans (hb6.mono (by omega)))
    have z6 : w5.heap.size ≤ w6.heap.size := by simpa using hb6.size
    have HR6 := hide (HR5.out.below hb6 (by omega))
    have HG6 := hide (HG5.out.below hb6 (by omega))
    have HP6 := hide (HP5.out.below hb6 (by omega))
    have HQ6 := hide (HQ5.out.below hb6 (by omega))
    clear kR yR
    have kR := PR6.out.cell
    have yR := PR6.out.lt
    clear hb6 PR5 L5 HR5 HG5 HP5 HQ5
    rw [show decide (presR r = presR r) = true from decide_eq_true rfl]
    clear HQ6
    have hNm : ¬ ((m : Int) < (N : Int)) := by omega
    have hNm2 : ¬ (m < N) := by omega
    have hnn2 : ¬ (un < N) := by omega
    obtain ⟨cN, hcN⟩ : ∃ c, classN r = c := ⟨_, rfl⟩
    have HC := hide (sclass_any r A1 A2 A3 n1 n2 n3 c1 c2 c3 w.heap.size w1.heap.size)
    have f5 := pres_cls r
    rw [HM.out, hcN] at f5
    rw [hcN] at HC
    have f6 : ¬ cN = 0 → m = 0 := fun h => by rw [← HM.out]; unfold presR; rw [if_neg (by rw [hcN]; exact h)]; rfl
    clear hcN
    by_cases hlc : r.cls < (m : Int)
    · have hc0 : ¬ cN = 0 := fun h => by have := f5 h; omega
      have hm0 := f6 hc0
      have hcb : (cN == 0) = false := by simp [hc0]
      have hml2 : ¬ (0 < m) := by omega
      have hml : ¬ ((0 : Int) < (m : Int)) := by omega
      have hnn : ¬ ((un : Int) < (N : Int)) := by omega
      clear f5 f6 hm0
      go_wp2_with fail
      refine (HC.out _ HR6.out (by omega)).mono ?_
      rintro e w7 ⟨rfl, hb7⟩
      have PR7 := hide (PR6.out.belowH hb7)
      have L7 := hide (L6.out.trans (hb7.mono (by omega)))
      have z7 : w6.heap.size ≤ w7.heap.size := by simpa using hb7.size
      have HR7 := hide (HR6.out.below hb7 (by omega))
      have HP7 := hide (HP6.out.below hb7 (by omega))
      clear kR yR
      have kR := PR7.out.cell
      have yR := PR7.out.lt
      clear hb7 PR6 L6 HR6 HP6
      go_wp2_with fail
      refine (units_any r A1 A2 A3 n1 n2 n3 c1 c2 c3 w.heap.size w1.heap.size _ HR7.out (by omega)).mono ?_
      rintro e w8 ⟨vu, rfl, ho, hb8⟩
      have PR8 := hide (PR7.out.belowH hb8)
      have L8 := hide (L7.out.trans (hb8.mono (by omega)))
      have z8 : w7.heap.size ≤ w8.heap.size := by simpa using hb8.size
      have HR8 := hide (HR7.out.below hb8 (by omega))
      have HP8 := hide (HP7.out.below hb8 (by omega))
      clear kR yR
      have kR := PR8.out.cell
      have yR := PR8.out.lt
      clear hb8 PR7 L7 HR7 HP7
      obtain ⟨Au, cu, rfl, su⟩ := Own.slk' encInt_len HUN.out ho
      have huc := su.cap
      have hum := su.max
      clear ho su
      go_wp2_with fail
      refine (units_any r A1 A2 A3 n1 n2 n3 c1 c2 c3 w.heap.size w1.heap.size _ HR8.out (by omega)).mono ?_
      rintro e w9 ⟨vu2, rfl, ho, hb9⟩
      have PR9 := hide (PR8.out.belowH hb9)
      have L9 := hide (L8.out.trans (hb9.mono (by omega)))
      have z9 : w8.heap.size ≤ w9.heap.size := by simpa using hb9.size
      have HR9 := hide (HR8.out.below hb9 (by omega))
      have HP9 := hide (HP8.out.below hb9 (by omega))
      clear kR yR
      have kR := PR9.out.cell
      have yR := PR9.out.lt
      clear hb9 PR8 L8 HR8 HP8
      obtain ⟨Au2, cu2, rfl, su⟩ := Own.slk' encInt_len HUN.out ho
      have huc2 := su.cap
      have hum2 := su.max
      clear ho su
      go_wp2_with fail
      go_loopw [7] (fun i wr => i = .int .i64 0 ∧ Below w.heap.size w wr) (fun i _ => 0)
      case atStart => exact ⟨rfl, L9.out⟩
      case round =>
        obtain ⟨rfl, hbel⟩ := hrel
        go_wp2_with fail
        go_ret
        exact ⟨rfl, hbel⟩
    · have hnn : ¬ ((un : Int) < (N : Int)) := by omega
      have hle : (m : Int) ≤ r.cls := by omega
      clear f5 f6
      go_wp2_with fail
      refine (units_any r A1 A2 A3 n1 n2 n3 c1 c2 c3 w.heap.size w1.heap.size _ HR6.out (by omega)).mono ?_
      rintro e w7 ⟨vu, rfl, ho, hb7⟩
      have PR7 := hide (PR6.out.belowH hb7)
      have L7 := hide (L6.out.trans (hb7.mono (by omega)))
      have z7 : w6.heap.size ≤ w7.heap.size := by simpa using hb7.size
      have HR7 := hide (HR6.out.below hb7 (by omega))
      have HG7 := hide (HG6.out.below hb7 (by omega))
      have HP7 := hide (HP6.out.below hb7 (by omega))
      clear kR yR
      have kR := PR7.out.cell
      have yR := PR7.out.lt
      clear hb7 PR6 L6 HR6 HG6 HP6
      obtain ⟨Au, cu, rfl, su⟩ := Own.slk' encInt_len HUN.out ho
      have huc := su.cap
      have hum := su.max
      clear ho su
      go_wp2_with fail
      refine (units_any r A1 A2 A3 n1 n2 n3 c1 c2 c3 w.heap.size w1.heap.size _ HR7.out (by omega)).mono ?_
      rintro e w8 ⟨vu2, rfl, ho, hb8⟩
      have PR8 := hide (PR7.out.belowH hb8)
      have L8 := hide (L7.out.trans (hb8.mono (by omega)))
      have z8 : w7.heap.size ≤ w8.heap.size := by simpa using hb8.size
      have HR8 := hide (HR7.out.below hb8 (by omega))
      have HG8 := hide (HG7.out.below hb8 (by omega))
      have HP8 := hide (HP7.out.below hb8 (by omega))
      clear kR yR
      have kR := PR8.out.cell
      have yR := PR8.out.lt
      clear hb8 PR7 L7 HR7 HG7 HP7
      obtain ⟨Au2, cu2, rfl, su⟩ := Own.slk' encInt_len HUN.out ho
      have huc2 := su.cap
      have hum2 := su.max
      have HU8 := hide su
      clear ho su
      go_wp2_with fail
      have HBD := hide (fun (x : Int) => uoL_bd r (gofL (gsR r) x))
      have HHA := hide (fun (x : Int) (h : x ∈ presR r) => hit_all h)
      have HGO := hide (fun (cl : Int) (lo : Nat) (W : World) (h : RowsAt W lo w2.heap.size Ag N cg rowsg) h' => gof_any cl lo w2.heap.size Ag N cg rowsg W h h')
      rw [HE.out] at HGO
      go_loopw [7] (fun i wr => ∃ q : Nat, q ≤ m ∧ i = .int .i64 q ∧ Below w8.heap.size w8 wr) (fun i _ => m - (intOf i).toNat)
      case atStart => exact ⟨0, Nat.zero_le _, rfl, Below.refl _ _⟩
      case round =>
        obtain ⟨q, hq, rfl, hbel⟩ := hrel
        have HB := hide hbel
        have y1 := hbel.size
        clear hbel
        by_cases hlt : q < m
        · obtain ⟨b0, off, x, hx, rfl, _, hb0, c0, _⟩ := (HP8.out.below HB.out (by omega)).int hlt
          have HX := hide hx
          have i0 : (0 : Int) ≤ (q : Int) := by omega
          have i1 : (q : Int) < (m : Int) := by omega
          clear hx kR yR
          go_wp2_with fail
          refine (HGO.out x _ _ (HG8.out.below HB.out (by omega)) (by omega)).mono ?_
          rintro e wa ⟨rfl, hba⟩
          have za := hba.size
          have HBa := hide (HB.out.trans (hba.mono (by omega)))
          obtain ⟨kk, hkk⟩ : ∃ k, gofL (gsR r) x = k := ⟨_, rfl⟩
          have HBX := hide (HBD.out x)
          have HHX := hide (HHA.out x (List.mem_of_getElem? HX.out))
          rw [hkk] at HBX HHX
          rw [hkk]
          clear hba HB c0 hkk
          have PRa := hide (PR8.out.belowH HBa.out)
          have kR := PRa.out.cell
          have yR := PRa.out.lt
          go_wp2_with fail
          refine (unitsOf_any kk r A1 A2 A3 n1 n2 n3 c1 c2 c3 w.heap.size w1.heap.size _ (HR8.out.below HBa.out (by omega)) (by omega)).mono ?_
          rintro e wb ⟨vl, rfl, hol, hbb⟩
          have zb := hbb.size
          have HBb := hide (HBa.out.trans (hbb.mono (by omega)))
          obtain ⟨ll, hll⟩ : ∃ k, (uoL r kk).length = k := ⟨_, rfl⟩
          have HLL := hide hll
          obtain ⟨Al, cl, rfl, sl⟩ := Own.slk' encInt_len hll hol
          have hlc' := sl.cap
          have hlm := sl.max
          have HL := hide sl
          clear hbb HBa hol sl hll PRa kR yR
          go_wp2_with fail
          go_loopw [9, 11] (fun hh i wr => ∃ v : Nat, v ≤ ll ∧ i = .int .i64 v ∧ hh = .bool (hitB r x ((uoL r kk).take v)) ∧ Below wb.heap.size wb wr) (fun hh i _ => ll - (intOf i).toNat)
          case atStart => exact ⟨0, Nat.zero_le _, rfl, rfl, Below.refl _ _⟩
          case round =>
            obtain ⟨v, hv, rfl, rfl, hbel⟩ := hrel
            have HC2 := hide hbel
            have y2 := hbel.size
            have HW := hide (HBb.out.trans (hbel.mono (by omega)))
            clear hbel
            by_cases hv2 : v < ll
            · obtain ⟨bl, ol, y, hy, rfl, _, hbl, cl0, _⟩ := (HL.out.below HC2.out (by omega)).int hv2
              have hyb := HBX.out y (List.mem_of_getElem? hy)
              rw [HUN.out] at hyb
              have HY := hide hy
              obtain ⟨yn, rfl⟩ : ∃ n : Nat, y = n := ⟨y.toNat, by omega⟩
              obtain ⟨bu, ou, j, hj, rfl, _, hbu, cu0, _⟩ := (HU8.out.below HW.out (by omega)).int (i := yn) (by omega)
              have hjb := unitsR_mem (List.mem_of_getElem? hj)
              have hl3 := HR8.out.it.len
              rw [hl3] at hjb
              obtain ⟨jn, rfl⟩ : ∃ n : Nat, j = n := ⟨j.toNat, by omega⟩
              obtain ⟨bi, oi, it, hit, rfl, _, hbi, _, _, _, _, _, ci5, _⟩ := (HR8.out.below HW.out (by omega)).it.it (i := jn) (by omega)
              obtain ⟨b0', off', x', hx', e1, _, hb0', c0', _⟩ := (HP8.out.below HW.out (by omega)).int hlt
              injection e1 with e1
              injection e1 with e1 e2
              subst e1 e2
              obtain rfl : x' = x := by have := HX.out; rw [hx'] at this; exact Option.some.inj this
              have PRv := hide (PR8.out.belowH HW.out)
              have kR := PRv.out.cell
              have yR := PRv.out.lt
              have hnx : hitB r x' ((uoL r kk).take (v + 1)) = (hitB r x' ((uoL r kk).take v) || it.cls == x') := hit_snoc HY.out hj hit
              obtain ⟨hb, hhb⟩ : ∃ h, hitB r x' ((uoL r kk).take v) = h := ⟨_, rfl⟩
              rw [hhb] at hnx
              rw [hhb]
              have HNX := hide hnx
              clear hnx hhb hx' hj hit hy
              have k0 : (0 : Int) ≤ (v : Int) := by omega
              have k1 : (v : Int) < (ll : Int) := by omega
              have k2 : (0 : Int) ≤ (yn : Int) := by omega
              have k3 : (yn : Int) < (un : Int) := by omega
              have k4 : (0 : Int) ≤ (jn : Int) := by omega
              have k5 : (jn : Int) < (n3 : Int) := by omega
              cases hb
              · go_wp2_with fail
                go_quiet (fail)
                go_wp2
                go_roundw
                case rel => exact ⟨v + 1, by omega, by go_num, by rw [HNX.out]; rfl, below_drewN HC2.out _⟩
                case measure => simp [intOf]; omega
              · go_wp2_with fail
                go_quiet (fail)
                go_wp2
                go_roundw
                case rel => exact ⟨v + 1, by omega, by go_num, by rw [HNX.out]; rfl, below_drewN HC2.out _⟩
                case measure => simp [intOf]; omega
            · have hge2 : ll ≤ v := by omega
              have hh : hitB r x ((uoL r kk).take v) = true := by rw [List.take_of_length_le (by rw [HLL.out]; exact hge2)]; exact HHX.out
              rw [hh]
              clear hh hv2
              have hge3 : ¬ ((v : Int) < (ll : Int)) := by omega
              go_wp2_with fail
              go_roundw
              case rel => exact ⟨q + 1, by omega, by go_num, HW.out⟩
              case measure => simp [intOf]; omega
        · have hge : ¬ ((q : Int) < (m : Int)) := by omega
          go_wp2_with fail
          go_ret
          exact ⟨rfl, L8.out.trans (HB.out.mono (by omega))⟩
  · go_enter Tryz.func6, Tryz.ntmps6
    go_wp2_with fail
    refine (big_yes Ab nb cb _ hcap hmax hbig).mono ?_
    rintro e w' ⟨rfl, rfl⟩
    go_wp2
    go_ret
    exact ⟨rfl, Below.refl _ _⟩
set_option maxRecDepth 100000 in
set_option maxHeartbeats 1000000 in
theorem lifted (os : Os) (started : os.Started) (H : Type) (enc : TypeId × Value → H) :
    ReturnsInHanded {} Tryz.checked os 6 .any (Rows.fnGroupsFewSpec.pre6 enc Tryz.prog Tryz.f6 Rows.fnGroupsFewRow.domain false) (Rows.fnGroupsFewSpec.post enc Tryz.prog Tryz.f6 false true false false) := by
  refine returnsInHanded_of_change (C := Tryz.checked) ownK started (by kernel_rfl) Tryz.func6
    (ChangeSpec.witness6 (enc := enc) (C := Tryz.checked) false ⟨#[], #[.slice none 0 0], []⟩ 8 (by kernel_rfl) (by kernel_rfl) (by kernel_rfl) (by kernel_rfl)) ?_
  intro W base args ds gs before hval0 hW hcnd _
  have hval : ∀ (j : Nat) t v, Tryz.f6.params[j]? = some t → args[j]? = some v → Value.okWide Tryz.prog W .any base t v := hval0
  have hW' := hW
  obtain ⟨p, q, hA0, hV, rfl, hfz, hnd⟩ := hW
  have hA : DataW.TrodAll enc Tryz.prog W 0 (fun _ => true) true Tryz.f6.params.toList args.toList ds p := hA0
  have hV' := hV
  obtain ⟨rfl, rfl⟩ := trodVars_none hV'
  rw [Tryz.params6] at hA hval
  obtain ⟨v0, vs0, d0, ds0, p0, q0, hargs, rfl, rfl, h0, r0⟩ := trodAll_cons hA
  obtain ⟨rfl, rfl, rfl⟩ := trodAll_nil r0
  obtain rfl : args = #[v0] := by cases args; simp_all
  have hz0 : W.noneFrozen p0 := fun b off hin => hfz b off (by simp [hin])
  obtain ⟨Ab, nb, cb, b, rfl, hb⟩ : ∃ A n c, ∃ xs : List Int, v0 = .slice A n c ∧ (SlK 1 encByte W 0 W.heap.size A n c xs ∧ ∀ z ∈ xs, 0 ≤ z ∧ z ≤ 255) := by
    obtain ⟨a0, len0, cap0, rfl⟩ := okWide_slice Tryz.underlying43 (hval 0 43 v0 rfl rfl)
    obtain ⟨fu, hf⟩ := h0
    exact open_bytes Tryz.underlying43 (by kernel_rfl) Tryz.underlying5 (by simpa [Value.cells] using hf) hz0
  refine (walk Ab nb cb b W hb).mono fun e W' ⟨he, hb⟩ => ?_
  subst he
  exact ⟨_, rfl, law_post laidO (by intro t ht; rw [Tryz.params6] at ht; simp only [List.mem_cons, List.not_mem_nil, or_false] at ht; subst ht; exact ⟨by kernel_rfl, of_decide_eq_true (by kernel_rfl)⟩) rfl (by kernel_rfl) Tryz.underlying4 hW' rfl hb⟩

theorem over : Rows.fnGroupsFewRow.holds Tryz.pinned (OpenSpec.ofChange Rows.fnGroupsFewSpec) :=
  OpenClaim.holds_of_wide 6 Tryz.f6 rfl rfl rfl rfl rfl rfl rfl ⟨rfl, rfl, rfl, rfl, rfl⟩ rfl rfl rfl rfl rfl (by kernel_rfl) Tryz.func6 (by kernel_rfl)
    (of_decide_eq_true (by kernel_rfl)) (by unfold Func.isWrapper; first | (rw [if_pos (by decide +kernel)]; kernel_rfl) | (rw [if_neg (by decide +kernel)]; exact ⟨rfl, rfl⟩))
    (fun os started H enc _ => lifted os started H enc)

theorem proved : Rows.FnGroupsFewSaid :=
  over
#print axioms proved
end Go.Proofs.YtehgdhekiogppaaGreat.fnGroupsFew
