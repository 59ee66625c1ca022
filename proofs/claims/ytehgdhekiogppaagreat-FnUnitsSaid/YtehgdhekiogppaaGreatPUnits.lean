/- The law FnUnits holds for every input: the call answers true, and each argument reads afterwards as it read before. -/
import Derived.Test.YtehgdhekiogppaaGreatUf
import Derived.Test.YtehgdhekiogppaaGreatUn4
import Derived.Test.YtehgdhekiogppaaGreatDg
import Derived.Test.YtehgdhekiogppaaGreatLw
import Derived.Test.YtehgdhekiogppaaGreatOpG
import Derived.Test.YtehgdhekiogppaaGreatRw
import Derived.Test.YtehgdhekiogppaaGreatS2
namespace Go.Proofs.YtehgdhekiogppaaGreat.fnUnits
open Go.ChangeShapes Go.WideShapes Go.ChangeAt Go.RowKit Go.Deep
open Go.ChangeMaps (open_string)
set_option linter.unusedVariables false
set_option linter.unusedSimpArgs false


set_option maxRecDepth 20000 in
set_option maxHeartbeats 2000000 in
theorem walk (Ab : Option Addr) (nb cb : Nat) (b : List Int) (w : World) (hb : SlK 1 encByte w 0 w.heap.size Ab nb cb b ∧ ∀ z ∈ b, 0 ≤ z ∧ z ≤ 255) :
    Calls Tryz.prog 5 #[.slice Ab nb cb] w fun e w' => e = .returned (.bool true) ∧ Below w.heap.size w w' := by
  obtain ⟨hs, hb⟩ := hb
  have hcap := hs.cap
  have hmax := hs.max
  by_cases hbig : nb ≤ 1048576
  · go_enter Tryz.func5, Tryz.ntmps5
    go_wp2_with fail
    refine (big_no Ab nb cb _ hcap hmax hbig).mono ?_
    rintro e w' ⟨rfl, rfl⟩
    go_wp2_with fail
    refine (drawUnits_any Ab nb cb b _ hs hb).mono ?_
    rintro e w1 ⟨⟨r, A1, n1, c1, A2, n2, c2, A3, n3, c3, rfl, hr, q1, q2, q3⟩, hb1⟩
    have z1 := hb1.size
    have L1 := hide hb1
    have HR1 := hide hr
    obtain ⟨N, hN⟩ : ∃ N, (gsR r).length = N := ⟨_, rfl⟩
    obtain ⟨un, hun⟩ : ∃ m, (unitsR r).length = m := ⟨_, rfl⟩
    have f2 := gs_units r
    have f4 := unitsR_len r
    rw [hN, hun] at f2
    rw [hun] at f4
    have HN := hide hN
    have HUN := hide hun
    clear hb1 hr hs hb hN hun
    go_wp2_with fail
    refine (units_any r A1 A2 A3 n1 n2 n3 c1 c2 c3 w.heap.size w1.heap.size _ (HR1.out.below (B := w1.heap.size) (by repeat (first | with_reducible exact Below.refl _ _ | with_reducible assumption | with_reducible refine Below.setCell ?_ (by (try simp) <;> omega) _ | with_reducible refine Below.alloc ?_ (by (try simp) <;> omega) _ | with_reducible refine Below.drew ?_ | with_reducible refine below_drewN ?_ _)) (by omega)) (by (try simp) <;> omega)).mono ?_
    rintro e w2 ⟨vu, rfl, ho, hb2⟩
    have D2 := hide (show Below w1.heap.size w1 w2 from (by repeat (first | with_reducible exact Below.refl _ _ | with_reducible assumption | with_reducible refine Below.setCell ?_ (by (try simp) <;> omega) _ | with_reducible refine Below.alloc ?_ (by (try simp) <;> omega) _ | with_reducible refine Below.drew ?_ | with_reducible refine below_drewN ?_ _ | with_reducible exact hb2 | with_reducible refine Below.trans ?_ (Below.mono hb2 (by (try simp) <;> omega)))))
    have PR2 := hide (Blk.belowH (Blk.new w1 37 (#[.int .i64 r.way, .int .i64 r.pal.w, .int .i64 r.pal.d, .int .i64 r.pal.h, .int .i64 r.pal.gram, .int .i64 r.cls, .slice A1 n1 c1, .slice A2 n2 c2, .int .i64 r.master, .slice A3 n3 c3]) (g := w1.heap.size) (by simp)) hb2)
    have L2 := hide (show Below w.heap.size w w2 from (by repeat (first | with_reducible exact Below.refl _ _ | with_reducible assumption | with_reducible refine Below.setCell ?_ (by (try simp) <;> omega) _ | with_reducible refine Below.alloc ?_ (by (try simp) <;> omega) _ | with_reducible refine Below.drew ?_ | with_reducible refine below_drewN ?_ _ | with_reducible exact L1.out | with_reducible exact hb2 | with_reducible refine Below.trans ?_ (Below.mono L1.out (by (try simp) <;> omega)) | with_reducible refine Below.trans ?_ (Below.mono hb2 (by (try simp) <;> omega)))))
    have z2 : w1.heap.size + 1 ≤ w2.heap.size := by simpa using hb2.size
    have HR2 := hide (HR1.out.below D2.out (by omega))
    have kR := PR2.out.cell
    have yR := PR2.out.lt
    clear hb2 D2 L1 HR1
    obtain ⟨Au, cu, rfl, su⟩ := Own.slk' encInt_len HUN.out ho
    have HU2 := hide su
    have huc := su.cap
    have hum := su.max
    clear ho su
    go_wp2_with fail
    refine (sunits_any r A1 A2 A3 n1 n2 n3 c1 c2 c3 w.heap.size w1.heap.size _ HR2.out (by omega)).mono ?_
    rintro e w3 ⟨vu2, rfl, ho, hb3⟩
    have PR3 := hide (PR2.out.belowH hb3)
    have L3 := hide (L2.out.trans (hb3.mono (by omega)))
    have z3 : w2.heap.size ≤ w3.heap.size := by simpa using hb3.size
    have HR3 := hide (HR2.out.below hb3 (by omega))
    have HU3 := hide (HU2.out.below hb3 (by omega))
    clear kR yR
    have kR := PR3.out.cell
    have yR := PR3.out.lt
    clear hb3 PR2 L2 HR2 HU2
    obtain ⟨As, cs, rfl, su⟩ := Own.slk' encInt_len HUN.out ho
    clear ho
    go_wp2_with fail
    refine (sameInts_any w1.heap.size w2.heap.size w2.heap.size w3.heap.size Au As un cu un cs (unitsR r) (unitsR r) _ (HU3.out.more (by (try simp) <;> omega) (Nat.le_refl _)) (by omega) su (by omega)).mono ?_
    rintro e w4 ⟨rfl, hb4⟩
    have PR4 := hide (PR3.out.belowH hb4)
    have L4 := hide (L3.out.trans (hb4.mono (by omega)))
    have z4 : w3.heap.size ≤ w4.heap.size := by simpa using hb4.size
    have HR4 := hide (HR3.out.below hb4 (by omega))
    have HU4 := hide (HU3.out.below hb4 (by omega))
    clear kR yR
    have kR := PR4.out.cell
    have yR := PR4.out.lt
    clear hb4 PR3 L3 HR3 HU3
    rw [show decide (unitsR r = unitsR r) = true from decide_eq_true rfl]
    clear su
    go_wp2_with fail
    refine (groupsOf_any r A1 A2 A3 n1 n2 n3 c1 c2 c3 w.heap.size w1.heap.size _ HR4.out (by omega)).mono ?_
    rintro e w5 ⟨vg, rowsg, rfl, hg, hE, hb5⟩
    have PR5 := hide (PR4.out.belowH hb5)
    have L5 := hide (L4.out.trans (hb5.mono (by omega)))
    have z5 : w4.heap.size ≤ w5.heap.size := by simpa using hb5.size
    have HR5 := hide (HR4.out.below hb5 (by omega))
    have HU5 := hide (HU4.out.below hb5 (by omega))
    clear kR yR
    have kR := PR5.out.cell
    have yR := PR5.out.lt
    clear hb5 PR4 L4 HR4 HU4
    have hl : rowsg.length = N := by rw [← HN.out, ← hE]; simp [rowsL]
    obtain ⟨Ag, cg, rfl, hr⟩ := hg.rows1 hl
    have hgc := hr.out.cap
    have hgm := hr.out.max
    clear hg hr hE hl HU5
    have HV0 := hide (fun (k : Nat) => volU_bd r (flatG r ((gsR r).take k)))
    have HG0 := hide (fun (k : Nat) => gramU_bd r (flatG r ((gsR r).take k)))
    have HFL := hide (flatG_len r)
    have HFS := hide (fun (k : Nat) (h : k < N) => flatG_snoc r (k := k) (by rw [HN.out]; exact h))
    have HFA := hide (flatG_all r)
    have HFC := hide (fun (u : Nat) (h : u < un) => flatG_cnt r (u := u) (by rw [HUN.out]; exact h))
    have HVA := hide (volU_all r)
    have HGA := hide (gramU_all r)
    have HUL := hide (uoL_len r)
    rw [HUN.out] at HFL HFA HVA HGA HUL
    go_wp2_with fail
    go_loopw [6, 7, 8, 9] (fun o v g i wr => ∃ k : Nat, k ≤ N ∧ i = .int .i64 k ∧ Own 1 encInt 3 wr w5.heap.size o (flatG r ((gsR r).take k)) ∧ v = .int .i64 (volU r (flatG r ((gsR r).take k))) ∧ g = .int .i64 (gramU r (flatG r ((gsR r).take k))) ∧ Below w5.heap.size w5 wr) (fun _ _ _ i _ => N - (intOf i).toNat)
    case atStart => exact ⟨0, Nat.zero_le _, rfl, own_lit (by omega) [] 0 _ _ rfl (by simp [maxLen]) rfl, rfl, rfl, (by repeat (first | with_reducible exact Below.refl _ _ | with_reducible assumption | with_reducible refine Below.setCell ?_ (by (try simp) <;> omega) _ | with_reducible refine Below.alloc ?_ (by (try simp) <;> omega) _ | with_reducible refine Below.drew ?_ | with_reducible refine below_drewN ?_ _))⟩
    case round =>
      obtain ⟨k, hk, rfl, ho, rfl, rfl, hbel⟩ := hrel
      have hfl : (flatG r ((gsR r).take k)).length ≤ un := HFL.out k
      have hvo : 0 ≤ volU r (flatG r ((gsR r).take k)) ∧ volU r (flatG r ((gsR r).take k)) ≤ 96000000000 := by have := HV0.out k; omega
      have hgo : 0 ≤ gramU r (flatG r ((gsR r).take k)) ∧ gramU r (flatG r ((gsR r).take k)) ≤ 1200000 := by have := HG0.out k; omega
      by_cases hlt : k < N
      · have hfk := HFS.out k hlt
        have hvn : 0 ≤ volU r (uoL r k) ∧ volU r (uoL r k) ≤ 96000000000 := by have := volU_bd r (uoL r k); have := HUL.out (k : Int); omega
        have hgn : 0 ≤ gramU r (uoL r k) ∧ gramU r (uoL r k) ≤ 1200000 := by have := gramU_bd r (uoL r k); have := HUL.out (k : Int); omega
        have hvk := volU_app r (flatG r ((gsR r).take k)) (uoL r k)
        have hgk := gramU_app r (flatG r ((gsR r).take k)) (uoL r k)
        obtain ⟨xs, hxs⟩ : ∃ xs, flatG r ((gsR r).take k) = xs := ⟨_, rfl⟩
        obtain ⟨ys, hys⟩ : ∃ ys, uoL r k = ys := ⟨_, rfl⟩
        have hl12 : ys.length ≤ 12 := by have := HUL.out (k : Int); rw [hys] at this; omega
        rw [hys] at hfk hvn hgn hvk hgk
        rw [hxs] at hfk hfl hvo hgo hvk hgk ho ⊢
        rw [← hfk] at hvk hgk
        obtain ⟨V, hV⟩ : ∃ V, volU r xs = V := ⟨_, rfl⟩
        obtain ⟨G, hG⟩ : ∃ G, gramU r xs = G := ⟨_, rfl⟩
        rw [hV] at hvo hvk ⊢
        rw [hG] at hgo hgk ⊢
        have HVK := hide hvk
        have HGK := hide hgk
        have HFK := hide hfk
        have HYS := hide hys
        have HO := hide ho
        have HB := hide hbel
        have y1 := hbel.size
        have HOX := hide (fun x (hx : Value.ownBlock _ = some x) => (HO.out.lt x hx).2)
        clear ho hbel kR yR hvk hgk hfk hxs hys hV hG
        have PRk := hide (PR5.out.belowH HB.out)
        have i0 : (0 : Int) ≤ (k : Int) := by omega
        have i1 : (k : Int) < (N : Int) := by omega
        have kR := PRk.out.cell
        have yR := PRk.out.lt
        go_wp2_with fail
        refine (unitsOf_any (k : Int) r A1 A2 A3 n1 n2 n3 c1 c2 c3 w.heap.size w1.heap.size _ (HR5.out.below HB.out (by omega)) (by omega)).mono ?_
        rintro e wa ⟨vl, rfl, hol, hba⟩
        rw [HYS.out] at hol
        have za := hba.size
        have HBa := hide (HB.out.trans (hba.mono (by omega)))
        have HOa := hide (HO.out.below hba)
        obtain ⟨ll, hll⟩ : ∃ k', ys.length = k' := ⟨_, rfl⟩
        obtain ⟨Al, cl, rfl, sl⟩ := Own.slk' encInt_len hll hol
        rw [hll] at hl12
        have HL := hide sl
        have hlc := sl.cap
        have hlm := sl.max
        clear hol sl hba HO HB PRk kR yR hll
        have PRa := hide (PR5.out.belowH HBa.out)
        have kR := PRa.out.cell
        have yR := PRa.out.lt
        have HLN := hide (show xs.length + ll ≤ 4194304 by omega)
        go_wp2_with (at_builtin; refine wpList_app rfl _ _ rfl rfl rfl (appL HOa.out (by omega) HL.out HLN.out) ?_; intro vf wf hof hgf hatf; have HBf := hide (below_app0 HBa.out HOa.out (by omega) hgf); have HLf := hide (HL.out.grown hgf (by omega) (fun x hx => .inl (HOX.out x hx))); have HOf := hide hof; have zf := hgf.size; clear hof hgf hatf PRa kR yR; have PRf := hide (PR5.out.belowH HBf.out); have kR := PRf.out.cell; have yR := PRf.out.lt)
        refine (volOf_any r A1 A2 A3 n1 n2 n3 c1 c2 c3 w.heap.size w1.heap.size wr.heap.size wa.heap.size Al ll cl ys _ (HR5.out.below HBf.out (by omega)) (by omega) HLf.out (by omega) (by omega)).mono ?_
        rintro e wb ⟨rfl, hbb⟩
        have zb := hbb.size
        have HBb := hide (HBf.out.trans (hbb.mono (by omega)))
        have HLb := hide (HLf.out.below hbb (by omega))
        have HOb := hide (HOf.out.below hbb)
        clear hbb HBf HLf HOf PRf kR yR HBa HL HOa
        have PRb := hide (PR5.out.belowH HBb.out)
        have kR := PRb.out.cell
        have yR := PRb.out.lt
        obtain ⟨Vn, hVn⟩ : ∃ V, volU r ys = V := ⟨_, rfl⟩
        obtain ⟨Gn, hGn⟩ : ∃ G, gramU r ys = G := ⟨_, rfl⟩
        rw [hVn] at hvn HVK ⊢
        rw [hGn] at hgn HGK
        have HGN := hide hGn
        clear hVn hGn
        have o1 : -9223372036854775808 ≤ V + Vn := by omega
        have o2 : V + Vn ≤ 9223372036854775807 := by omega
        have o3 : -9223372036854775808 ≤ G + Gn := by omega
        have o4 : G + Gn ≤ 9223372036854775807 := by omega
        go_wp2_with fail
        refine (gramOf_any r A1 A2 A3 n1 n2 n3 c1 c2 c3 w.heap.size w1.heap.size wr.heap.size wa.heap.size Al ll cl ys _ (HR5.out.below HBb.out (by omega)) (by omega) HLb.out (by omega) (by omega)).mono ?_
        rw [HGN.out]
        rintro e wc ⟨rfl, hbc⟩
        have zc := hbc.size
        have HBc := hide (HBb.out.trans (hbc.mono (by omega)))
        have HOc := hide (HOb.out.below hbc)
        clear hbc HBb HOb HLb PRb kR yR
        go_wp2
        go_roundw
        case rel => exact ⟨k + 1, by omega, by go_num, by rw [HFK.out]; exact HOc.out, by rw [HVK.out], by rw [HGK.out], HBc.out⟩
        case measure => simp [intOf]; omega
      · obtain rfl : k = N := by omega
        have hge : ¬ ((k : Int) < (k : Int)) := by omega
        have hall : (gsR r).take k = gsR r := List.take_of_length_le (by rw [HN.out]; exact Nat.le_refl _)
        rw [hall] at ho hfl hvo hgo ⊢
        have hva := HVA.out
        have hga := HGA.out
        rw [hva] at hvo ⊢
        rw [hga] at hgo ⊢
        obtain ⟨V, hV⟩ : ∃ V, volU r (rng un) = V := ⟨_, rfl⟩
        obtain ⟨G, hG⟩ : ∃ G, gramU r (rng un) = G := ⟨_, rfl⟩
        rw [hV] at hvo ⊢
        rw [hG] at hgo ⊢
        have HV := hide hV
        have HG := hide hG
        obtain ⟨wo, hwo⟩ : ∃ wo : World, wo = wr := ⟨_, rfl⟩
        subst hwo
        obtain ⟨xs, hxs⟩ : ∃ xs, flatG r (gsR r) = xs := ⟨_, rfl⟩
        have HC := hide (fun (u : Nat) (h : u < un) => HFC.out u h)
        have hfa := HFA.out
        rw [hxs] at ho HC hfa
        obtain ⟨Af, cf, rfl, sf⟩ := Own.slk' encInt_len hfa ho
        have HF := hide sf
        have hfc := sf.cap
        have hfm := sf.max
        have HB := hide hbel
        have y1 := hbel.size
        clear hlt ho hbel kR yR hV hG hxs hfa hva hga HFA HFC HFS HFL HVA HGA HV0 HG0 sf hall hfl
        have PRo := hide (PR5.out.belowH HB.out)
        have HRo := hide (HR5.out.below HB.out (by omega))
        have HLo := hide (L5.out.trans (HB.out.mono (by omega)))
        go_wp2_with fail
        go_loopw [11, 12] (fun o i wr => ∃ j : Nat, j ≤ un ∧ i = .int .i64 j ∧ Own 1 encInt 3 wr wo.heap.size o (rng j) ∧ Below wo.heap.size wo wr) (fun _ i _ => un - (intOf i).toNat)
        case atStart => exact ⟨0, Nat.zero_le _, rfl, own_lit (by omega) [] 0 _ _ rfl (by simp [maxLen]) rfl, (by repeat (first | with_reducible exact Below.refl _ _ | with_reducible assumption | with_reducible refine Below.setCell ?_ (by (try simp) <;> omega) _ | with_reducible refine Below.alloc ?_ (by (try simp) <;> omega) _ | with_reducible refine Below.drew ?_ | with_reducible refine below_drewN ?_ _))⟩
        case round =>
          obtain ⟨j, hj, rfl, ho, hbel⟩ := hrel
          have HO := hide ho
          have HBJ := hide hbel
          have y2 := hbel.size
          clear ho hbel
          by_cases hlt : j < un
          · have j0 : (0 : Int) ≤ (j : Int) := by omega
            have j1 : (j : Int) < (un : Int) := by omega
            have HCJ := hide (HC.out j hlt)
            go_wp2_with (at_builtin; refine wpList_app rfl _ _ rfl rfl rfl (app1 HO.out (by omega) (by rw [rng_len]; omega) (j : Int)) ?_; intro vf wf hof hgf hatf; have HBf := hide (below_app HBJ.out HO.out (by omega) _ hgf); have HOf := hide hof; have zf := hgf.size; simp only [World.size_alloc] at zf; clear hof hgf hatf)
            refine (times_any (j : Int) w5.heap.size wo.heap.size Af un cf xs _ (HF.out.below HBf.out (Nat.le_refl _)) (by omega)).mono ?_
            rw [HCJ.out]
            rintro e w' ⟨rfl, rfl⟩
            go_wp2
            go_roundw
            case rel => exact ⟨j + 1, by omega, by go_num, by rw [rng_succ]; exact HOf.out, HBf.out⟩
            case measure => simp [intOf]; omega
          · obtain rfl : j = un := by omega
            have hge2 : ¬ ((j : Int) < (j : Int)) := by omega
            obtain ⟨Ae, ce, rfl, se⟩ := Own.slk' encInt_len (rng_len j) HO.out
            have HE := hide se
            clear se hlt HO
            have PRj := hide (PRo.out.belowH HBJ.out)
            have kR := PRj.out.cell
            have yR := PRj.out.lt
            obtain ⟨cN, hcN⟩ : ∃ c, classN r = c := ⟨_, rfl⟩
            have HCL := hide (sclass_any r A1 A2 A3 n1 n2 n3 c1 c2 c3 w.heap.size w1.heap.size)
            rw [hcN] at HCL
            have hcu : ¬ cN = 0 → j = 0 := fun h => by rw [← HUN.out]; exact units_no (by rw [hcN]; exact h)
            clear hcN
            by_cases hc : cN = 0
            · subst hc
              clear hcu
              go_wp2_with fail
              refine (volOf_any r A1 A2 A3 n1 n2 n3 c1 c2 c3 w.heap.size w1.heap.size wo.heap.size wr.heap.size Ae j ce (rng j) _ (HRo.out.below HBJ.out (by omega)) (by omega) HE.out (by omega) (by omega)).mono ?_
              rw [HV.out]
              rintro e wd ⟨rfl, hbd⟩
              have zd := hbd.size
              have HBd := hide (HBJ.out.trans (hbd.mono (by omega)))
              have HEd := hide (HE.out.below hbd (by omega))
              clear hbd PRj kR yR
              have PRd := hide (PRo.out.belowH HBd.out)
              have kR := PRd.out.cell
              have yR := PRd.out.lt
              go_wp2_with fail
              refine (gramOf_any r A1 A2 A3 n1 n2 n3 c1 c2 c3 w.heap.size w1.heap.size wo.heap.size wr.heap.size Ae j ce (rng j) _ (HRo.out.below HBd.out (by omega)) (by omega) HEd.out (by omega) (by omega)).mono ?_
              rw [HG.out]
              rintro e we ⟨rfl, hbe⟩
              have ze := hbe.size
              have HBe := hide (HBd.out.trans (hbe.mono (by omega)))
              clear hbe PRd kR yR
              have PRe := hide (PRo.out.belowH HBe.out)
              have kR := PRe.out.cell
              have yR := PRe.out.lt
              go_wp2_with fail
              refine (HCL.out _ (HRo.out.below HBe.out (by omega)) (by omega)).mono ?_
              rintro e wf ⟨rfl, hbf⟩
              have HBf := hide (HBe.out.trans (hbf.mono (by omega)))
              go_wp2
              go_ret
              exact ⟨rfl, HLo.out.trans (HBf.out.mono (by omega))⟩
            · have hcb : (cN == 0) = false := by simp [hc]
              have hju : ((j : Int) == 0) = true := by have := hcu hc; simp [this]
              clear hcu
              go_wp2_with fail
              refine (volOf_any r A1 A2 A3 n1 n2 n3 c1 c2 c3 w.heap.size w1.heap.size wo.heap.size wr.heap.size Ae j ce (rng j) _ (HRo.out.below HBJ.out (by omega)) (by omega) HE.out (by omega) (by omega)).mono ?_
              rw [HV.out]
              rintro e wd ⟨rfl, hbd⟩
              have zd := hbd.size
              have HBd := hide (HBJ.out.trans (hbd.mono (by omega)))
              have HEd := hide (HE.out.below hbd (by omega))
              clear hbd PRj kR yR
              have PRd := hide (PRo.out.belowH HBd.out)
              have kR := PRd.out.cell
              have yR := PRd.out.lt
              go_wp2_with fail
              refine (gramOf_any r A1 A2 A3 n1 n2 n3 c1 c2 c3 w.heap.size w1.heap.size wo.heap.size wr.heap.size Ae j ce (rng j) _ (HRo.out.below HBd.out (by omega)) (by omega) HEd.out (by omega) (by omega)).mono ?_
              rw [HG.out]
              rintro e we ⟨rfl, hbe⟩
              have ze := hbe.size
              have HBe := hide (HBd.out.trans (hbe.mono (by omega)))
              clear hbe PRd kR yR
              have PRe := hide (PRo.out.belowH HBe.out)
              have kR := PRe.out.cell
              have yR := PRe.out.lt
              go_wp2_with fail
              refine (HCL.out _ (HRo.out.below HBe.out (by omega)) (by omega)).mono ?_
              rintro e wf ⟨rfl, hbf⟩
              have HBf := hide (HBe.out.trans (hbf.mono (by omega)))
              go_wp2
              go_ret
              exact ⟨rfl, HLo.out.trans (HBf.out.mono (by omega))⟩
  · go_enter Tryz.func5, Tryz.ntmps5
    go_wp2_with fail
    refine (big_yes Ab nb cb _ hcap hmax hbig).mono ?_
    rintro e w' ⟨rfl, rfl⟩
    go_wp2
    go_ret
    exact ⟨rfl, Below.refl _ _⟩
set_option maxRecDepth 100000 in
set_option maxHeartbeats 1000000 in
theorem lifted (os : Os) (started : os.Started) (H : Type) (enc : TypeId × Value → H) :
    ReturnsInHanded {} Tryz.checked os 5 .any (Rows.fnUnitsSpec.pre6 enc Tryz.prog Tryz.f5 Rows.fnUnitsRow.domain false) (Rows.fnUnitsSpec.post enc Tryz.prog Tryz.f5 false true false false) := by
  refine returnsInHanded_of_change (C := Tryz.checked) ownK started (by kernel_rfl) Tryz.func5
    (ChangeSpec.witness6 (enc := enc) (C := Tryz.checked) false ⟨#[], #[.slice none 0 0], []⟩ 8 (by kernel_rfl) (by kernel_rfl) (by kernel_rfl) (by kernel_rfl)) ?_
  intro W base args ds gs before hval0 hW hcnd _
  have hval : ∀ (j : Nat) t v, Tryz.f5.params[j]? = some t → args[j]? = some v → Value.okWide Tryz.prog W .any base t v := hval0
  have hW' := hW
  obtain ⟨p, q, hA0, hV, rfl, hfz, hnd⟩ := hW
  have hA : DataW.TrodAll enc Tryz.prog W 0 (fun _ => true) true Tryz.f5.params.toList args.toList ds p := hA0
  have hV' := hV
  obtain ⟨rfl, rfl⟩ := trodVars_none hV'
  rw [Tryz.params5] at hA hval
  obtain ⟨v0, vs0, d0, ds0, p0, q0, hargs, rfl, rfl, h0, r0⟩ := trodAll_cons hA
  obtain ⟨rfl, rfl, rfl⟩ := trodAll_nil r0
  obtain rfl : args = #[v0] := by cases args; simp_all
  have hz0 : W.noneFrozen p0 := fun b off hin => hfz b off (by simp [hin])
  obtain ⟨Ab, nb, cb, b, rfl, hb⟩ : ∃ A n c, ∃ xs : List Int, v0 = .slice A n c ∧ (SlK 1 encByte W 0 W.heap.size A n c xs ∧ ∀ z ∈ xs, 0 ≤ z ∧ z ≤ 255) := by
    obtain ⟨a0, len0, cap0, rfl⟩ := okWide_slice Tryz.underlying43 (hval 0 43 v0 rfl rfl)
    obtain ⟨fu, hf⟩ := h0
    exact open_bytes Tryz.underlying43 (by kernel_rfl) Tryz.underlying5 (by simpa [Value.cells] using hf) hz0
  refine (walk Ab nb cb b W hb).mono fun e W' ⟨he, hb⟩ => ?_
  subst he
  exact ⟨_, rfl, law_post laidO (by intro t ht; rw [Tryz.params5] at ht; simp only [List.mem_cons, List.not_mem_nil, or_false] at ht; subst ht; exact ⟨by kernel_rfl, of_decide_eq_true (by kernel_rfl)⟩) rfl (by kernel_rfl) Tryz.underlying4 hW' rfl hb⟩

theorem over : Rows.fnUnitsRow.holds Tryz.pinned (OpenSpec.ofChange Rows.fnUnitsSpec) :=
  OpenClaim.holds_of_wide 5 Tryz.f5 rfl rfl rfl rfl rfl rfl rfl ⟨rfl, rfl, rfl, rfl, rfl⟩ rfl rfl rfl rfl rfl (by kernel_rfl) Tryz.func5 (by kernel_rfl)
    (of_decide_eq_true (by kernel_rfl)) (by unfold Func.isWrapper; first | (rw [if_pos (by decide +kernel)]; kernel_rfl) | (rw [if_neg (by decide +kernel)]; exact ⟨rfl, rfl⟩))
    (fun os started H enc _ => lifted os started H enc)

theorem proved : Rows.FnUnitsSaid :=
  over
#print axioms proved
end Go.Proofs.YtehgdhekiogppaaGreat.fnUnits
