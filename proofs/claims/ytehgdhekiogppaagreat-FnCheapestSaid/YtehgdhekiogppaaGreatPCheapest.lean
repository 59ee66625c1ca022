/- The law FnCheapest holds for every input: the call answers true, and each argument reads afterwards as it read before. -/
import Derived.Test.YtehgdhekiogppaaGreatChf
import Derived.Test.YtehgdhekiogppaaGreatDh
import Derived.Test.YtehgdhekiogppaaGreatLw
import Derived.Test.YtehgdhekiogppaaGreatOpG
import Derived.Test.YtehgdhekiogppaaGreatRw
import Derived.Test.YtehgdhekiogppaaGreatS2
namespace Go.Proofs.YtehgdhekiogppaaGreat.fnCheapest
open Go.ChangeShapes Go.WideShapes Go.ChangeAt Go.RowKit Go.Deep
open Go.ChangeMaps (open_string)
set_option linter.unusedVariables false
set_option linter.unusedSimpArgs false


set_option maxRecDepth 20000 in
set_option maxHeartbeats 2000000 in
theorem walk (Ab : Option Addr) (nb cb : Nat) (b : List Int) (w : World) (hb : SlK 1 encByte w 0 w.heap.size Ab nb cb b ∧ ∀ z ∈ b, 0 ≤ z ∧ z ≤ 255) :
    Calls Tryz.prog 4 #[.slice Ab nb cb] w fun e w' => e = .returned (.bool true) ∧ Below w.heap.size w w' := by
  obtain ⟨hs, hb⟩ := hb
  have hcap := hs.cap
  have hmax := hs.max
  by_cases hbig : nb ≤ 1048576
  · go_enter Tryz.func4, Tryz.ntmps4
    go_wp2_with fail
    refine (big_no Ab nb cb _ hcap hmax hbig).mono ?_
    rintro e w' ⟨rfl, rfl⟩
    go_wp2_with fail
    refine (drawCheapest_any Ab nb cb b _ hs hb).mono ?_
    rintro e w1 ⟨⟨r, A1, n1, c1, A2, n2, c2, A3, n3, c3, us, A4, n4, c4, rfl, hr, hu, q1, q2, q3, q4⟩, hb1⟩
    have z1 := hb1.size
    have L1 := hide hb1
    have HR1 := hide hr
    have HU1 := hide hu
    have F1 := hide (ch_f1 r us)
    have F2 := hide (ch_f2 r us)
    have F3 := hide (ch_f3 r us)
    have CH := hide (fun W h1 h2 h3 h4 => cheap_any r A1 A2 A3 n1 n2 n3 c1 c2 c3 w.heap.size w1.heap.size w.heap.size w1.heap.size A4 n4 c4 us W h1 h2 h3 h4 (by omega))
    have SCH := hide (fun W h1 h2 h3 h4 => scheap_any r A1 A2 A3 n1 n2 n3 c1 c2 c3 w.heap.size w1.heap.size w.heap.size w1.heap.size A4 n4 c4 us W h1 h2 h3 h4 (by omega))
    have HH := hide (fun t W h1 h2 h3 h4 => holds_any r A1 A2 A3 n1 n2 n3 c1 c2 c3 w.heap.size w1.heap.size w.heap.size w1.heap.size A4 n4 c4 us t W h1 h2 h3 h4 (by omega))
    have HM := hide (master_any r A1 A2 A3 n1 n2 n3 c1 c2 c3 w.heap.size w1.heap.size)
    obtain ⟨ok, hok⟩ : ∃ o, (cheapL r us r.types).isSome = o := ⟨_, rfl⟩
    obtain ⟨bt, hbt⟩ : ∃ o, tyD (cheapL r us r.types) = o := ⟨_, rfl⟩
    obtain ⟨mt, hmt⟩ : ∃ o, tyD (findTy r.types r.master) = o := ⟨_, rfl⟩
    obtain ⟨fine, hfine⟩ : ∃ o, (findTy r.types r.master).isSome = o := ⟨_, rfl⟩
    rw [hok, hbt] at F1 F2 F3
    rw [hmt, hfine] at F3
    simp only [hok, hbt] at CH SCH
    simp only [hmt, hfine] at HM
    have hm2 := hr.ty.max
    have hc2 := hr.ty.cap
    have hm4 := hu.max
    have hc4 := hu.cap
    clear hb1 hr hu hs hb hok hbt hmt hfine
    go_wp2_with fail
    refine (CH.out _ (HR1.out.alloc (Nat.le_refl _) _) (by (try simp) <;> omega) (HU1.out.alloc (Nat.le_refl _) _) (by (try simp) <;> omega)).mono ?_
    rintro e w2 ⟨rfl, hb2⟩
    have z2 : w1.heap.size + 1 ≤ w2.heap.size := by simpa using hb2.size
    have D2 := hide (show Below w1.heap.size w1 w2 from (by repeat (first | with_reducible exact Below.refl _ _ | with_reducible assumption | with_reducible refine Below.setCell ?_ (by (try simp) <;> omega) _ | with_reducible refine Below.alloc ?_ (by (try simp) <;> omega) _ | with_reducible refine Below.drew ?_ | with_reducible refine below_drewN ?_ _ | with_reducible exact hb2 | with_reducible refine Below.trans ?_ (Below.mono hb2 (by (try simp) <;> omega)))))
    have L2 := hide (show Below w.heap.size w w2 from (by repeat (first | with_reducible exact Below.refl _ _ | with_reducible assumption | with_reducible refine Below.setCell ?_ (by (try simp) <;> omega) _ | with_reducible refine Below.alloc ?_ (by (try simp) <;> omega) _ | with_reducible refine Below.drew ?_ | with_reducible refine below_drewN ?_ _ | with_reducible exact L1.out | with_reducible exact hb2 | with_reducible refine Below.trans ?_ (Below.mono L1.out (by (try simp) <;> omega)) | with_reducible refine Below.trans ?_ (Below.mono hb2 (by (try simp) <;> omega)))))
    have PR2 := hide (Blk.belowH (Blk.new w1 37 (#[.int .i64 r.way, .int .i64 r.pal.w, .int .i64 r.pal.d, .int .i64 r.pal.h, .int .i64 r.pal.gram, .int .i64 r.cls, .slice A1 n1 c1, .slice A2 n2 c2, .int .i64 r.master, .slice A3 n3 c3]) (g := w1.heap.size) rfl) hb2)
    have HR2 := hide (HR1.out.below D2.out (Nat.le_refl _))
    have HU2 := hide (HU1.out.below D2.out (Nat.le_refl _))
    have kR := (PR2.out.alloc (.cells (#[.int .i64 bt.id, .int .i64 bt.w, .int .i64 bt.h, .int .i64 bt.d, .int .i64 bt.tare, .int .i64 bt.gram, .int .i64 bt.cost]) 48)).cell
    have yR := PR2.out.lt
    clear hb2 D2 L1 HR1 HU1
    go_wp2_with fail
    refine (SCH.out _ (HR2.out.alloc (by omega) _) (by (try simp) <;> omega) (HU2.out.alloc (by omega) _) (by (try simp) <;> omega)).mono ?_
    rintro e w3 ⟨rfl, hb3⟩
    have z3 : w2.heap.size + 1 ≤ w3.heap.size := by simpa using hb3.size
    have D3 := hide (show Below w2.heap.size w2 w3 from (by repeat (first | with_reducible exact Below.refl _ _ | with_reducible assumption | with_reducible refine Below.setCell ?_ (by (try simp) <;> omega) _ | with_reducible refine Below.alloc ?_ (by (try simp) <;> omega) _ | with_reducible refine Below.drew ?_ | with_reducible refine below_drewN ?_ _ | with_reducible exact hb3 | with_reducible refine Below.trans ?_ (Below.mono hb3 (by (try simp) <;> omega)))))
    have L3 := hide (show Below w.heap.size w w3 from (by repeat (first | with_reducible exact Below.refl _ _ | with_reducible assumption | with_reducible refine Below.setCell ?_ (by (try simp) <;> omega) _ | with_reducible refine Below.alloc ?_ (by (try simp) <;> omega) _ | with_reducible refine Below.drew ?_ | with_reducible refine below_drewN ?_ _ | with_reducible exact L2.out | with_reducible exact hb3 | with_reducible refine Below.trans ?_ (Below.mono L2.out (by (try simp) <;> omega)) | with_reducible refine Below.trans ?_ (Below.mono hb3 (by (try simp) <;> omega)))))
    have PR3 := hide (PR2.out.belowH D3.out)
    have PT3 := hide (Blk.belowH (Blk.new w2 48 (#[.int .i64 bt.id, .int .i64 bt.w, .int .i64 bt.h, .int .i64 bt.d, .int .i64 bt.tare, .int .i64 bt.gram, .int .i64 bt.cost]) (g := w2.heap.size) rfl) hb3)
    have HR3 := hide (HR2.out.below D3.out (by omega))
    have HU3 := hide (HU2.out.below D3.out (by omega))
    clear kR yR hb3 D3 L2 HR2 HU2 PR2 CH SCH
    go_wp2_with fail
    go_loopw [9] (fun i wr => ∃ k : Nat, k ≤ n2 ∧ i = .int .i64 k ∧ Below w3.heap.size w3 wr) (fun i _ => n2 - (intOf i).toNat)
    case atStart => exact ⟨0, Nat.zero_le _, rfl, (by repeat (first | with_reducible exact Below.refl _ _ | with_reducible assumption | with_reducible refine Below.setCell ?_ (by (try simp) <;> omega) _ | with_reducible refine Below.alloc ?_ (by (try simp) <;> omega) _ | with_reducible refine Below.drew ?_ | with_reducible refine below_drewN ?_ _))⟩
    case round =>
      obtain ⟨k, hk, rfl, hbel⟩ := hrel
      have HB := hide hbel
      have y1 := hbel.size
      clear hbel
      have PRr := hide (PR3.out.belowH HB.out)
      have PTr := hide (PT3.out.belowH HB.out)
      have kR := PRr.out.cell
      have yR := PRr.out.lt
      by_cases hlt : k < n2
      · obtain ⟨b0, off, u, hx, rfl, _, hb0, d0, d1, d2, d3, d4, d5, d6, _⟩ := (HR3.out.below HB.out (by omega)).ty.ty hlt
        have HX := hide (List.mem_of_getElem? hx)
        have i0 : (0 : Int) ≤ (k : Int) := by omega
        have i1 : (k : Int) < (n2 : Int) := by omega
        have z0 : b0 < wr.heap.size := by omega
        obtain ⟨h, hh⟩ : ∃ h, holdsB r us u = h := ⟨_, rfl⟩
        have HHU := hide (HH.out u)
        have FU := hide (F1.out u HX.out)
        rw [hh] at HHU FU
        clear hx hh HX
        go_wp2_with fail
        refine (HHU.out _ ((HR3.out.below HB.out (by omega)).alloc (by omega) _) (by (try simp) <;> omega) ((HU3.out.below HB.out (by omega)).alloc (by omega) _) (by (try simp) <;> omega)).mono ?_
        rintro e w4 ⟨rfl, hb4⟩
        have L4 := hide (show Below w3.heap.size w3 w4 from (by repeat (first | with_reducible exact Below.refl _ _ | with_reducible assumption | with_reducible refine Below.setCell ?_ (by (try simp) <;> omega) _ | with_reducible refine Below.alloc ?_ (by (try simp) <;> omega) _ | with_reducible refine Below.drew ?_ | with_reducible refine below_drewN ?_ _ | with_reducible exact HB.out | with_reducible exact hb4 | with_reducible refine Below.trans ?_ (Below.mono HB.out (by (try simp) <;> omega)) | with_reducible refine Below.trans ?_ (Below.mono hb4 (by (try simp) <;> omega)))))
        have PT4 := hide (PT3.out.belowH L4.out)
        have PU4 := hide (Blk.belowH (Blk.new wr 48 (#[.int .i64 u.id, .int .i64 u.w, .int .i64 u.h, .int .i64 u.d, .int .i64 u.tare, .int .i64 u.gram, .int .i64 u.cost]) (g := wr.heap.size) rfl) hb4)
        clear hb4 kR yR d0 d1 d2 d3 d4 d5 d6 PRr PTr HB
        cases h
        · go_wp2
          go_roundw
          case rel => exact ⟨k + 1, by omega, by go_num, L4.out⟩
          case measure => simp [intOf]; omega
        · obtain ⟨rfl, hco, hid⟩ := FU.out rfl
          have kT := PT4.out.cell
          have yT := PT4.out.lt
          have kU := PU4.out.cell
          have yU := PU4.out.lt
          have d1 : decide (u.cost < bt.cost) = false := decide_eq_false (by omega)
          have e1 : ¬ u.cost < bt.cost := by omega
          by_cases c2 : u.cost = bt.cost
          · have d2 : (u.cost == bt.cost) = true := by simpa using c2
            have d3 : decide (u.id < bt.id) = false := decide_eq_false (by have := hid c2; omega)
            have e3 : ¬ u.id < bt.id := by have := hid c2; omega
            clear c2 hid hco
            go_wp2_with fail
            go_roundw
            case rel => exact ⟨k + 1, by omega, by go_num, L4.out⟩
            case measure => simp [intOf]; omega
          · have d2 : (u.cost == bt.cost) = false := by simpa using c2
            clear hid hco
            go_wp2_with fail
            go_roundw
            case rel => exact ⟨k + 1, by omega, by go_num, L4.out⟩
            case measure => simp [intOf]; omega
      · have hge : ¬ ((k : Int) < (n2 : Int)) := by omega
        go_wp2_with fail
        refine (HM.out _ (HR3.out.below HB.out (by omega)) (by omega)).mono ?_
        rintro e w4 ⟨rfl, hb4⟩
        have z4 := hb4.size
        have L4 := hide (HB.out.trans (hb4.mono (by omega)))
        have PR4 := hide ((PR3.out.belowH L4.out).alloc (.cells (#[.int .i64 mt.id, .int .i64 mt.w, .int .i64 mt.h, .int .i64 mt.d, .int .i64 mt.tare, .int .i64 mt.gram, .int .i64 mt.cost]) 48))
        have PT4 := hide ((PT3.out.belowH L4.out).alloc (.cells (#[.int .i64 mt.id, .int .i64 mt.w, .int .i64 mt.h, .int .i64 mt.d, .int .i64 mt.tare, .int .i64 mt.gram, .int .i64 mt.cost]) 48))
        have PM4 := hide (Blk.new w4 48 (#[.int .i64 mt.id, .int .i64 mt.w, .int .i64 mt.h, .int .i64 mt.d, .int .i64 mt.tare, .int .i64 mt.gram, .int .i64 mt.cost]) (g := w4.heap.size) rfl)
        have HR4 := hide ((HR3.out.below L4.out (by omega)).alloc (by omega) (.cells (#[.int .i64 mt.id, .int .i64 mt.w, .int .i64 mt.h, .int .i64 mt.d, .int .i64 mt.tare, .int .i64 mt.gram, .int .i64 mt.cost]) 48))
        have HU4 := hide ((HU3.out.below L4.out (by omega)).alloc (by omega) (.cells (#[.int .i64 mt.id, .int .i64 mt.w, .int .i64 mt.h, .int .i64 mt.d, .int .i64 mt.tare, .int .i64 mt.gram, .int .i64 mt.cost]) 48))
        have kT := PT4.out.cell
        have yT := PT4.out.lt
        have kM := PM4.out.cell
        have yM := PM4.out.lt
        clear hb4 kR yR HB PRr PTr
        have kR := PR4.out.cell
        have yR := PR4.out.lt
        cases ok
        · obtain ⟨g1, g2⟩ := F3.out rfl
          have g3 : (bt.id == 0) = true := by rw [g1]; rfl
          cases fine
          · go_wp2_with fail
            go_ret
            exact ⟨rfl, (by repeat (first | with_reducible exact Below.refl _ _ | with_reducible assumption | with_reducible refine Below.setCell ?_ (by (try simp) <;> omega) _ | with_reducible refine Below.alloc ?_ (by (try simp) <;> omega) _ | with_reducible refine Below.drew ?_ | with_reducible refine below_drewN ?_ _ | with_reducible exact L3.out | with_reducible exact L4.out | with_reducible refine Below.trans ?_ (Below.mono L3.out (by (try simp) <;> omega)) | with_reducible refine Below.trans ?_ (Below.mono L4.out (by (try simp) <;> omega))))⟩
          · have HHM := hide (HH.out mt)
            rw [g2 rfl] at HHM
            clear g1 g2
            go_wp2_with fail
            refine (HHM.out _ HR4.out (by (try simp) <;> omega) HU4.out (by (try simp) <;> omega)).mono ?_
            rintro e w5 ⟨rfl, hb5⟩
            go_wp2_with fail
            go_ret
            exact ⟨rfl, (by repeat (first | with_reducible exact Below.refl _ _ | with_reducible assumption | with_reducible refine Below.setCell ?_ (by (try simp) <;> omega) _ | with_reducible refine Below.alloc ?_ (by (try simp) <;> omega) _ | with_reducible refine Below.drew ?_ | with_reducible refine below_drewN ?_ _ | with_reducible exact L3.out | with_reducible exact L4.out | with_reducible exact hb5 | with_reducible refine Below.trans ?_ (Below.mono L3.out (by (try simp) <;> omega)) | with_reducible refine Below.trans ?_ (Below.mono L4.out (by (try simp) <;> omega)) | with_reducible refine Below.trans ?_ (Below.mono hb5 (by (try simp) <;> omega))))⟩
        · have HHB := hide (HH.out bt)
          rw [F2.out rfl] at HHB
          go_wp2_with fail
          refine (HHB.out _ HR4.out (by (try simp) <;> omega) HU4.out (by (try simp) <;> omega)).mono ?_
          rintro e w5 ⟨rfl, hb5⟩
          go_wp2_with fail
          go_ret
          exact ⟨rfl, (by repeat (first | with_reducible exact Below.refl _ _ | with_reducible assumption | with_reducible refine Below.setCell ?_ (by (try simp) <;> omega) _ | with_reducible refine Below.alloc ?_ (by (try simp) <;> omega) _ | with_reducible refine Below.drew ?_ | with_reducible refine below_drewN ?_ _ | with_reducible exact L3.out | with_reducible exact L4.out | with_reducible exact hb5 | with_reducible refine Below.trans ?_ (Below.mono L3.out (by (try simp) <;> omega)) | with_reducible refine Below.trans ?_ (Below.mono L4.out (by (try simp) <;> omega)) | with_reducible refine Below.trans ?_ (Below.mono hb5 (by (try simp) <;> omega))))⟩
  · go_enter Tryz.func4, Tryz.ntmps4
    go_wp2_with fail
    refine (big_yes Ab nb cb _ hcap hmax hbig).mono ?_
    rintro e w' ⟨rfl, rfl⟩
    go_wp2
    go_ret
    exact ⟨rfl, Below.refl _ _⟩
set_option maxRecDepth 100000 in
set_option maxHeartbeats 1000000 in
theorem lifted (os : Os) (started : os.Started) (H : Type) (enc : TypeId × Value → H) :
    ReturnsInHanded {} Tryz.checked os 4 .any (Rows.fnCheapestSpec.pre6 enc Tryz.prog Tryz.f4 Rows.fnCheapestRow.domain false) (Rows.fnCheapestSpec.post enc Tryz.prog Tryz.f4 false true false false) := by
  refine returnsInHanded_of_change (C := Tryz.checked) ownK started (by kernel_rfl) Tryz.func4
    (ChangeSpec.witness6 (enc := enc) (C := Tryz.checked) false ⟨#[], #[.slice none 0 0], []⟩ 8 (by kernel_rfl) (by kernel_rfl) (by kernel_rfl) (by kernel_rfl)) ?_
  intro W base args ds gs before hval0 hW hcnd _
  have hval : ∀ (j : Nat) t v, Tryz.f4.params[j]? = some t → args[j]? = some v → Value.okWide Tryz.prog W .any base t v := hval0
  have hW' := hW
  obtain ⟨p, q, hA0, hV, rfl, hfz, hnd⟩ := hW
  have hA : DataW.TrodAll enc Tryz.prog W 0 (fun _ => true) true Tryz.f4.params.toList args.toList ds p := hA0
  have hV' := hV
  obtain ⟨rfl, rfl⟩ := trodVars_none hV'
  rw [Tryz.params4] at hA hval
  obtain ⟨v0, vs0, d0, ds0, p0, q0, hargs, rfl, rfl, h0, r0⟩ := trodAll_cons hA
  obtain ⟨rfl, rfl, rfl⟩ := trodAll_nil r0
  obtain rfl : args = #[v0] := by cases args; simp_all
  have hz0 : W.noneFrozen p0 := fun b off hin => hfz b off (by simp [hin])
  obtain ⟨Ab, nb, cb, b, rfl, hb⟩ : ∃ A n c, ∃ xs : List Int, v0 = .slice A n c ∧ (SlK 1 encByte W 0 W.heap.size A n c xs ∧ ∀ z ∈ xs, 0 ≤ z ∧ z ≤ 255) := by
    obtain ⟨a0, len0, cap0, rfl⟩ := okWide_slice Tryz.underlying43 (hval 0 43 v0 rfl rfl)
    obtain ⟨fu, hf⟩ := h0
    exact open_bytes Tryz.underlying43 (by kernel_rfl) Tryz.underlying5 (by simpa [Value.cells] using hf) hz0
  refine (walk Ab nb cb b W hb).mono fun e W' ⟨he, hb⟩ => ?_
  subst he
  exact ⟨_, rfl, law_post laidO (by intro t ht; rw [Tryz.params4] at ht; simp only [List.mem_cons, List.not_mem_nil, or_false] at ht; subst ht; exact ⟨by kernel_rfl, of_decide_eq_true (by kernel_rfl)⟩) rfl (by kernel_rfl) Tryz.underlying4 hW' rfl hb⟩

theorem over : Rows.fnCheapestRow.holds Tryz.pinned (OpenSpec.ofChange Rows.fnCheapestSpec) :=
  OpenClaim.holds_of_wide 4 Tryz.f4 rfl rfl rfl rfl rfl rfl rfl ⟨rfl, rfl, rfl, rfl, rfl⟩ rfl rfl rfl rfl rfl (by kernel_rfl) Tryz.func4 (by kernel_rfl)
    (of_decide_eq_true (by kernel_rfl)) (by unfold Func.isWrapper; first | (rw [if_pos (by decide +kernel)]; kernel_rfl) | (rw [if_neg (by decide +kernel)]; exact ⟨rfl, rfl⟩))
    (fun os started H enc _ => lifted os started H enc)

theorem proved : Rows.FnCheapestSaid :=
  over
#print axioms proved
end Go.Proofs.YtehgdhekiogppaaGreat.fnCheapest
