/- Holds of the reference. -/
import Derived.Test.YtehgdhekiogppaaGreatHo
import Derived.Test.YtehgdhekiogppaaGreatUn6
namespace Go.Proofs.YtehgdhekiogppaaGreat
open Go.ChangeShapes Go.WideShapes Go.ChangeAt Go.RowKit Go.Deep
set_option linter.unusedVariables false
set_option linter.unusedSimpArgs false

theorem holdsB_no {r : Rq} {us : List Int} {t : Ty} {u : Int} (hu : u ∈ us) (h : isUnit r u = false) : holdsB r us t = false := by
  have : allThere r us = false := by
    unfold allThere
    rw [decide_eq_false_iff_not]
    intro he
    have := List.length_filter_eq_length_iff.1 he u hu
    rw [h] at this
    cases this
  simp [holdsB, this]
theorem holdsB_unfit {r : Rq} {us : List Int} {t : Ty} {u : Int} (hu : u ∈ us) (h : isUnit r u = true) (hf : fitsB (itD (unitIt r u)) t = false) : holdsB r us t = false := by
  obtain ⟨i, x, _, _, _, _, e⟩ := unitIt_yes h
  have : someUnfit r us t = true := by
    unfold someUnfit
    rw [List.any_eq_true]
    refine ⟨x, List.mem_filterMap.2 ⟨u, hu, e⟩, ?_⟩
    rw [e] at hf
    simpa [itD] using hf
  simp [holdsB, this]
theorem holdsB_yes {r : Rq} {us : List Int} {t : Ty} (h0 : classN r = 0) (h : ∀ u ∈ us, isUnit r u = true ∧ fitsB (itD (unitIt r u)) t = true) : holdsB r us t = withinB r us t := by
  have h1 : allThere r us = true := by
    unfold allThere
    rw [decide_eq_true_iff]
    exact List.length_filter_eq_length_iff.2 fun u hu => (h u hu).1
  have h2 : someUnfit r us t = false := by
    unfold someUnfit
    rw [List.any_eq_false]
    intro x hx
    obtain ⟨u, hu, e⟩ := List.mem_filterMap.1 hx
    have := (h u hu).2
    rw [e] at this
    simpa [itD] using this
  simp [holdsB, h0, h1, h2]
set_option maxRecDepth 20000 in
set_option maxHeartbeats 4000000 in
theorem sholds_any (r : Rq) (A1 A2 A3 : Option Addr) (n1 n2 n3 c1 c2 c3 : Nat) (lo hi : Nat) (lo2 hi2 : Nat) (A : Option Addr) (n c : Nat) (us : List Int) (t : Ty) (w : World) (hr : RqAt w lo hi r A1 n1 c1 A2 n2 c2 A3 n3 c3) (hB : hi ≤ w.heap.size) (hs : SlK 1 encInt w lo2 hi2 A n c us) (hB2 : hi2 ≤ w.heap.size) (hn : n ≤ 1048580) :
    Calls Tryz.prog 38 #[.agg #[.int .i64 r.way, .int .i64 r.pal.w, .int .i64 r.pal.d, .int .i64 r.pal.h, .int .i64 r.pal.gram, .int .i64 r.cls, .slice A1 n1 c1, .slice A2 n2 c2, .int .i64 r.master, .slice A3 n3 c3], .slice A n c, .agg #[.int .i64 t.id, .int .i64 t.w, .int .i64 t.h, .int .i64 t.d, .int .i64 t.tare, .int .i64 t.gram, .int .i64 t.cost]] w fun e w' => e = .returned (.bool (holdsB r us t)) ∧ Below w.heap.size w w' := by
  have HR := hide hr
  have HS := hide hs
  have HL := hide hs.len
  have hcu := hs.cap
  have hmu := hs.max
  have HC := hide (sclass_any r A1 A2 A3 n1 n2 n3 c1 c2 c3 lo hi)
  clear hr hs
  by_cases h0 : classN r = 0
  case neg =>
    have HF := hide (show holdsB r us t = false by simp [holdsB, h0])
    obtain ⟨q, hq⟩ : ∃ q, classN r = q := ⟨_, rfl⟩
    rw [hq] at HC h0
    clear hq
    have hd : (q == 0) = false := by simpa using h0
    go_enter Tryz.func38, Tryz.ntmps38
    go_wp2_with fail
    refine (HC.out _ (HR.out.below (B := w.heap.size) (by repeat (first | with_reducible exact Below.refl _ _ | with_reducible assumption | with_reducible refine Below.setCell ?_ (by (try simp) <;> omega) _ | with_reducible refine Below.alloc ?_ (by (try simp) <;> omega) _ | with_reducible refine Below.drew ?_ | with_reducible refine below_drewN ?_ _)) hB) (by (try simp) <;> omega)).mono ?_
    rintro e w1 ⟨rfl, hb1⟩
    go_wp2
    go_ret
    exact ⟨ret_bool HF.out.symm, (by repeat (first | with_reducible exact Below.refl _ _ | with_reducible assumption | with_reducible refine Below.setCell ?_ (by (try simp) <;> omega) _ | with_reducible refine Below.alloc ?_ (by (try simp) <;> omega) _ | with_reducible refine Below.drew ?_ | with_reducible refine below_drewN ?_ _ | with_reducible exact hb1 | with_reducible refine Below.trans ?_ (Below.mono hb1 (by (try simp) <;> omega))))⟩
  have hbd := bounds_items (class0_bounds h0)
  have HOK := hide hbd.1
  have hn8 : n3 ≤ 8 := by have := hbd.2.1; rw [HR.out.it.len] at this; exact this
  have HUR := hide (show unitsR r = unitsL r.items by simp [unitsR, h0])
  have HYES := hide (fun h => holdsB_yes (r := r) (us := us) (t := t) h0 h)
  have HWD := hide (show withinB r us t = (decide (volU r us ≤ vol t.w t.h t.d) && decide (gramU r us ≤ t.gram)) from rfl)
  rw [h0] at HC
  have HLU6 := hide (sl6units_any r A1 A2 A3 n1 n2 n3 c1 c2 c3 lo hi)
  rw [← HUR.out] at HLU6
  have HVo := hide (svol_any t.w t.h t.d)
  obtain ⟨m, hm⟩ : ∃ m, (unitsR r).length = m := ⟨_, rfl⟩
  have HM := hide hm
  clear h0 hbd hm
  go_enter Tryz.func38, Tryz.ntmps38
  go_wp2_with fail
  refine (HC.out _ (HR.out.below (B := w.heap.size) (by repeat (first | with_reducible exact Below.refl _ _ | with_reducible assumption | with_reducible refine Below.setCell ?_ (by (try simp) <;> omega) _ | with_reducible refine Below.alloc ?_ (by (try simp) <;> omega) _ | with_reducible refine Below.drew ?_ | with_reducible refine below_drewN ?_ _)) hB) (by (try simp) <;> omega)).mono ?_
  rintro e w1 ⟨rfl, hb1⟩
  have L1 := hide (show Below w.heap.size w w1 from (by repeat (first | with_reducible exact Below.refl _ _ | with_reducible assumption | with_reducible refine Below.setCell ?_ (by (try simp) <;> omega) _ | with_reducible refine Below.alloc ?_ (by (try simp) <;> omega) _ | with_reducible refine Below.drew ?_ | with_reducible refine below_drewN ?_ _ | with_reducible exact hb1 | with_reducible refine Below.trans ?_ (Below.mono hb1 (by (try simp) <;> omega)))))
  have P1 := hide (Blk.belowH ((Blk.new w 37 (#[.int .i64 r.way, .int .i64 r.pal.w, .int .i64 r.pal.d, .int .i64 r.pal.h, .int .i64 r.pal.gram, .int .i64 r.cls, .slice A1 n1 c1, .slice A2 n2 c2, .int .i64 r.master, .slice A3 n3 c3]) (g := w.heap.size) (by simp)).alloc _) hb1)
  have T1 := hide (Blk.belowH (Blk.new (w.alloc _) 48 #[.int .i64 t.id, .int .i64 t.w, .int .i64 t.h, .int .i64 t.d, .int .i64 t.tare, .int .i64 t.gram, .int .i64 t.cost] (g := w.heap.size + 1) (by simp)) hb1)
  have z1 : w.heap.size + 1 + 1 ≤ w1.heap.size := by simpa using hb1.size
  clear hb1
  have kR := P1.out.cell
  have yR := P1.out.lt
  go_wp2_with fail
  refine (HLU6.out _ (HR.out.below L1.out hB) (by (try simp) <;> omega) HOK.out hn8).mono ?_
  rintro e w2 ⟨v2, rfl, ho2, hb2⟩
  obtain ⟨A2', c2', rfl, s2⟩ := Own.slk' encInt_len HM.out ho2
  have S2 := hide (s2.more (Nat.zero_le _) (Nat.le_refl _))
  have L2 := hide (L1.out.trans (hb2.mono (by omega)))
  have P2 := hide (Blk.belowH P1.out hb2)
  have T2 := hide (Blk.belowH T1.out hb2)
  have z2 : w1.heap.size ≤ w2.heap.size := hb2.size
  clear hb2 ho2 s2 kR yR P1 T1
  obtain ⟨RL, hRL⟩ : ∃ RL : Array Value, RL = #[.int .i64 r.way, .int .i64 r.pal.w, .int .i64 r.pal.d, .int .i64 r.pal.h, .int .i64 r.pal.gram, .int .i64 r.cls, .slice A1 n1 c1, .slice A2 n2 c2, .int .i64 r.master, .slice A3 n3 c3] := ⟨_, rfl⟩
  have HRL := hide hRL
  clear hRL
  go_wp2
  go_loopw [8] (fun i wr => ∃ k : Nat, k ≤ n ∧ i = .int .i64 k ∧ Blk wr w.heap.size 37 RL ∧ Blk wr (w.heap.size + 1) 48 #[.int .i64 t.id, .int .i64 t.w, .int .i64 t.h, .int .i64 t.d, .int .i64 t.tare, .int .i64 t.gram, .int .i64 t.cost] ∧ Below w2.heap.size w2 wr ∧ ∀ u ∈ us.take k, isUnit r u = true ∧ fitsB (itD (unitIt r u)) t = true) (fun i _ => n - (intOf i).toNat)
  case atStart => exact ⟨0, Nat.zero_le _, rfl, P2.out.as HRL.out.symm, T2.out, (by repeat (first | with_reducible exact Below.refl _ _ | with_reducible assumption | with_reducible refine Below.setCell ?_ (by (try simp) <;> omega) _ | with_reducible refine Below.alloc ?_ (by (try simp) <;> omega) _ | with_reducible refine Below.drew ?_ | with_reducible refine below_drewN ?_ _)), by simp⟩
  case round =>
    obtain ⟨k, hk, rfl, B0, B1, hbel, hA⟩ := hrel
    have HA := hide hA
    have HBel := hide hbel
    have PR := hide B0
    have PT := hide B1
    have kR := (B0.as HRL.out).cell
    have yR := B0.lt
    have kT := B1.cell
    have yT := B1.lt
    have hz := hbel.size
    have HL0 := hide (show Below w.heap.size w wr from L2.out.trans (hbel.mono (by omega)))
    clear hbel B0 B1 hA
    by_cases hlt : k < n
    · obtain ⟨bu, ou, x, hx, rfl, _, hbu, cu, _⟩ := (HS.out.below HL0.out hB2).int hlt
      have HX := hide hx
      have HMEM := hide (List.mem_of_getElem? hx)
      have i0 : (0 : Int) ≤ (k : Int) := by omega
      have i1 : (k : Int) < (n : Int) := by omega
      have z0 : bu < wr.heap.size := by omega
      have HI := sl6item_any r A1 A2 A3 n1 n2 n3 c1 c2 c3 lo hi x 0 w2.heap.size A2' m c2'
      clear hx
      obtain ⟨y, hy⟩ : ∃ y, itD (unitIt r x) = y := ⟨_, rfl⟩
      obtain ⟨b, hb⟩ : ∃ b, isUnit r x = b := ⟨_, rfl⟩
      have HY := hide hy
      have HBB := hide hb
      rw [hy, hb] at HI
      clear hy hb
      have HII := hide HI
      clear HI
      have e0 : w.heap.size ≠ wr.heap.size := by omega
      have e1 : bu ≠ wr.heap.size := by omega
      have e0' : wr.heap.size ≠ w.heap.size := by omega
      have e1' : wr.heap.size ≠ bu := by omega
      go_wp2_with fail
      go_region_held3 (fun w' => w'.cell? ⟨w.heap.size, 0, none⟩ = some (.int .i64 r.way) ∧ w'.cell? ⟨w.heap.size, 1, none⟩ = some (.int .i64 r.pal.w) ∧ w'.cell? ⟨w.heap.size, 2, none⟩ = some (.int .i64 r.pal.d) ∧ w'.cell? ⟨w.heap.size, 3, none⟩ = some (.int .i64 r.pal.h) ∧ w'.cell? ⟨w.heap.size, 4, none⟩ = some (.int .i64 r.pal.gram) ∧ w'.cell? ⟨w.heap.size, 5, none⟩ = some (.int .i64 r.cls) ∧ w'.cell? ⟨w.heap.size, 6, none⟩ = some (.slice A1 n1 c1) ∧ w'.cell? ⟨w.heap.size, 7, none⟩ = some (.slice A2 n2 c2) ∧ w'.cell? ⟨w.heap.size, 8, none⟩ = some (.int .i64 r.master) ∧ w'.cell? ⟨w.heap.size, 9, none⟩ = some (.slice A3 n3 c3) ∧ w'.cell? ⟨bu, ou + k, none⟩ = some (.int .i64 x)) (go_keep) (first
        | (go_at_call 80; (with_reducible refine (HII.out _ (HR.out.below HL0.out hB).drew (by simp; omega) (S2.out.below HBel.out (Nat.le_refl _)).drew (by simpa using hz)).mono ?_); rintro e w4 ⟨rfl, hb2'⟩; have PR2 := hide (PR.out.drew.belowH hb2'); have PT2 := hide (PT.out.drew.belowH hb2'); have BB := hide ((Below.refl wr.heap.size wr).drew.trans (hb2'.mono (by simp))); have L4 := hide (HBel.out.trans (BB.out.mono hz)); have hcc : ∀ b o, b < wr.heap.size → w4.cell? ⟨b, o, none⟩ = wr.cell? ⟨b, o, none⟩ := (fun b o h => BB.out.cell (p := ⟨b, o, none⟩) h); have z4 : wr.heap.size ≤ w4.heap.size := (by simpa using hb2'.size); have e2 : w.heap.size ≠ w4.heap.size := (by omega); have e3 : bu ≠ w4.heap.size := (by omega); have e2' : w4.heap.size ≠ w.heap.size := (by omega); have e3' : w4.heap.size ≠ bu := (by omega))
        | (go_at_call 80; (with_reducible refine (HII.out _ ((HR.out.below HL0.out hB).alloc (by omega) _).drew (by simp; omega) ((S2.out.below HBel.out (Nat.le_refl _)).alloc hz _).drew (by simp; omega)).mono ?_); rintro e w4 ⟨rfl, hb2'⟩; have PR2 := hide ((PR.out.alloc _).drew.belowH hb2'); have PT2 := hide ((PT.out.alloc _).drew.belowH hb2'); have PX2 := hide ((Blk.new wr 63 #[.int .i64 0, .int .i64 0, .int .i64 0, .int .i64 0, .int .i64 0, .int .i64 0, .int .i64 0] (g := wr.heap.size) rfl).drew.belowH hb2'); have BB := hide ((((Below.refl wr.heap.size wr).alloc (Nat.le_refl _) _).drew).trans (hb2'.mono (by simp))); have L4 := hide (HBel.out.trans (BB.out.mono hz)); have hcc : ∀ b o, b < wr.heap.size → w4.cell? ⟨b, o, none⟩ = wr.cell? ⟨b, o, none⟩ := (fun b o h => BB.out.cell (p := ⟨b, o, none⟩) h); have z4 : wr.heap.size < w4.heap.size := PX2.out.lt; have kX := PX2.out.cell; have fX := PX2.out.frozen))
      all_goals first
        | (have PX3 := hide (((((((PX2.out.set_ 0 (.int .i64 y.id)).set_ 1 (.int .i64 y.w)).set_ 2 (.int .i64 y.h)).set_ 3 (.int .i64 y.d)).set_ 4 (.int .i64 y.gram)).set_ 5 (.int .i64 y.cls)).set_ 6 (.int .i64 y.cnt))
           simp only [List.setIfInBounds_toArray, List.set_cons_zero, List.set_cons_succ] at PX3
           have PR3 := hide (((((((PR2.out.far (p := ⟨wr.heap.size, 0, none⟩) (by simp <;> omega) (.int .i64 y.id)).far (p := ⟨wr.heap.size, 1, none⟩) (by simp <;> omega) (.int .i64 y.w)).far (p := ⟨wr.heap.size, 2, none⟩) (by simp <;> omega) (.int .i64 y.h)).far (p := ⟨wr.heap.size, 3, none⟩) (by simp <;> omega) (.int .i64 y.d)).far (p := ⟨wr.heap.size, 4, none⟩) (by simp <;> omega) (.int .i64 y.gram)).far (p := ⟨wr.heap.size, 5, none⟩) (by simp <;> omega) (.int .i64 y.cls)).far (p := ⟨wr.heap.size, 6, none⟩) (by simp <;> omega) (.int .i64 y.cnt))
           have PT3 := hide (((((((PT2.out.far (p := ⟨wr.heap.size, 0, none⟩) (by simp <;> omega) (.int .i64 y.id)).far (p := ⟨wr.heap.size, 1, none⟩) (by simp <;> omega) (.int .i64 y.w)).far (p := ⟨wr.heap.size, 2, none⟩) (by simp <;> omega) (.int .i64 y.h)).far (p := ⟨wr.heap.size, 3, none⟩) (by simp <;> omega) (.int .i64 y.d)).far (p := ⟨wr.heap.size, 4, none⟩) (by simp <;> omega) (.int .i64 y.gram)).far (p := ⟨wr.heap.size, 5, none⟩) (by simp <;> omega) (.int .i64 y.cls)).far (p := ⟨wr.heap.size, 6, none⟩) (by simp <;> omega) (.int .i64 y.cnt))
           have L3 := hide (show Below w2.heap.size w2 (((((((w4.setCell ⟨wr.heap.size, 0, none⟩ (.int .i64 y.id)).setCell ⟨wr.heap.size, 1, none⟩ (.int .i64 y.w)).setCell ⟨wr.heap.size, 2, none⟩ (.int .i64 y.h)).setCell ⟨wr.heap.size, 3, none⟩ (.int .i64 y.d)).setCell ⟨wr.heap.size, 4, none⟩ (.int .i64 y.gram)).setCell ⟨wr.heap.size, 5, none⟩ (.int .i64 y.cls)).setCell ⟨wr.heap.size, 6, none⟩ (.int .i64 y.cnt)) from (by repeat (first | with_reducible exact Below.refl _ _ | with_reducible assumption | with_reducible refine Below.setCell ?_ (by (try simp) <;> omega) _ | with_reducible refine Below.alloc ?_ (by (try simp) <;> omega) _ | with_reducible refine Below.drew ?_ | with_reducible refine below_drewN ?_ _ | with_reducible exact L4.out | with_reducible refine Below.trans ?_ (Below.mono L4.out (by (try simp) <;> omega)))))
           obtain ⟨w3, hw3⟩ : ∃ w3, (((((((w4.setCell ⟨wr.heap.size, 0, none⟩ (.int .i64 y.id)).setCell ⟨wr.heap.size, 1, none⟩ (.int .i64 y.w)).setCell ⟨wr.heap.size, 2, none⟩ (.int .i64 y.h)).setCell ⟨wr.heap.size, 3, none⟩ (.int .i64 y.d)).setCell ⟨wr.heap.size, 4, none⟩ (.int .i64 y.gram)).setCell ⟨wr.heap.size, 5, none⟩ (.int .i64 y.cls)).setCell ⟨wr.heap.size, 6, none⟩ (.int .i64 y.cnt)) = w3 := ⟨_, rfl⟩
           obtain ⟨X, hX⟩ : ∃ X, wr.heap.size = X := ⟨_, rfl⟩
           rw [hw3] at PX3 PR3 PT3 L3 ⊢
           rw [hX] at PX3 ⊢
           have hX1 : w.heap.size + 1 < X := by omega)
        | (have PX3 := hide (Blk.new w4 63 #[.int .i64 y.id, .int .i64 y.w, .int .i64 y.h, .int .i64 y.d, .int .i64 y.gram, .int .i64 y.cls, .int .i64 y.cnt] (g := w4.heap.size) rfl)
           have PR3 := hide (PR2.out.alloc (.cells #[.int .i64 y.id, .int .i64 y.w, .int .i64 y.h, .int .i64 y.d, .int .i64 y.gram, .int .i64 y.cls, .int .i64 y.cnt] 63))
           have PT3 := hide (PT2.out.alloc (.cells #[.int .i64 y.id, .int .i64 y.w, .int .i64 y.h, .int .i64 y.d, .int .i64 y.gram, .int .i64 y.cls, .int .i64 y.cnt] 63))
           have L3 := hide (show Below w2.heap.size w2 (w4.alloc (.cells #[.int .i64 y.id, .int .i64 y.w, .int .i64 y.h, .int .i64 y.d, .int .i64 y.gram, .int .i64 y.cls, .int .i64 y.cnt] 63)) from (by repeat (first | with_reducible exact Below.refl _ _ | with_reducible assumption | with_reducible refine Below.setCell ?_ (by (try simp) <;> omega) _ | with_reducible refine Below.alloc ?_ (by (try simp) <;> omega) _ | with_reducible refine Below.drew ?_ | with_reducible refine below_drewN ?_ _ | with_reducible exact L4.out | with_reducible refine Below.trans ?_ (Below.mono L4.out (by (try simp) <;> omega)))))
           obtain ⟨w3, hw3⟩ : ∃ w3, w4.alloc (.cells #[.int .i64 y.id, .int .i64 y.w, .int .i64 y.h, .int .i64 y.d, .int .i64 y.gram, .int .i64 y.cls, .int .i64 y.cnt] 63) = w3 := ⟨_, rfl⟩
           obtain ⟨X, hX⟩ : ∃ X, w4.heap.size = X := ⟨_, rfl⟩
           rw [hw3] at PX3 PR3 PT3 L3 ⊢
           rw [hX] at PX3 ⊢
           have hX1 : w.heap.size + 1 < X := by omega)
      all_goals (
        clear PR2 PT2 L4 hw3 BB hcc kR yR kT yT
        have kX := PX3.out.cell
        have yX := PX3.out.lt
        have kT := PT3.out.cell
        have yT := PT3.out.lt
        have HFi := hide (sfits_any y t)
        obtain ⟨f, hf⟩ : ∃ f, fitsB y t = f := ⟨_, rfl⟩
        have HFF := hide hf
        rw [hf] at HFi
        clear hf
        have z3 : w2.heap.size ≤ w3.heap.size := L3.out.size
        have LX := hide (L2.out.trans (L3.out.mono (by omega)))
        cases b
        · have HNO := hide (holdsB_no (t := t) HMEM.out HBB.out)
          go_wp2_with fail
          go_ret
          exact ⟨ret_bool HNO.out.symm, (by repeat (first | with_reducible exact Below.refl _ _ | with_reducible assumption | with_reducible refine Below.setCell ?_ (by (try simp) <;> omega) _ | with_reducible refine Below.alloc ?_ (by (try simp) <;> omega) _ | with_reducible refine Below.drew ?_ | with_reducible refine below_drewN ?_ _ | with_reducible exact LX.out | with_reducible refine Below.trans ?_ (Below.mono LX.out (by (try simp) <;> omega))))⟩
        · cases f
          · have HNO := hide (holdsB_unfit HMEM.out HBB.out (by rw [HY.out]; exact HFF.out))
            go_wp2_with fail
            refine (HFi.out _).mono ?_
            rintro e w5 ⟨rfl, hb5⟩
            go_wp2
            go_ret
            exact ⟨ret_bool HNO.out.symm, (L2.out.trans (L3.out.mono (by omega))).trans (hb5.mono (by omega))⟩
          · have yR3 := PR3.out.lt
            go_wp2_with fail
            refine (HFi.out _).mono ?_
            rintro e w5 ⟨rfl, hb5⟩
            have PR5 := hide (PR3.out.belowH hb5)
            have PT5 := hide (PT3.out.belowH hb5)
            go_wp2
            go_roundw
            case rel =>
              refine ⟨k + 1, by omega, by go_num, PR5.out, PT5.out, L3.out.trans (hb5.mono z3), fun u hu => ?_⟩
              rcases mem_take_succ HX.out hu with h | h
              · exact HA.out u h
              · rw [h]; exact ⟨HBB.out, by rw [HY.out]; exact HFF.out⟩
            case measure => simp [intOf]; omega)
    · have hge : n ≤ k := by omega
      have HT := hide (show us.take k = us from List.take_of_length_le (by rw [HL.out]; exact hge))
      have HYY := hide (HYES.out (by rw [← HT.out]; exact HA.out))
      have HO := hide (sl7of_any r A1 A2 A3 n1 n2 n3 c1 c2 c3 lo hi 0 w2.heap.size A2' m c2' lo2 hi2 A n c us)
      clear hlt
      obtain ⟨V, hV⟩ : ∃ V, volU r us = V := ⟨_, rfl⟩
      obtain ⟨G, hG⟩ : ∃ G, gramU r us = G := ⟨_, rfl⟩
      obtain ⟨M, hM⟩ : ∃ M, vol t.w t.h t.d = M := ⟨_, rfl⟩
      rw [hM] at HVo HWD
      rw [hV] at HO HWD
      rw [hG] at HO HWD
      rw [HWD.out] at HYY
      clear hV hG hM
      go_wp2_with fail
      refine (HO.out _ (HR.out.below HL0.out hB) (by omega) (S2.out.below HBel.out (Nat.le_refl _)) hz (HS.out.below HL0.out hB2) (by omega) hn).mono ?_
      rintro e w5 ⟨rfl, hb5⟩
      have PT5 := hide (PT.out.belowH hb5)
      have L5 := hide (HL0.out.trans (hb5.mono (by omega)))
      have z5 : wr.heap.size ≤ w5.heap.size := hb5.size
      clear hb5 kT yT kR yR
      have kT := PT5.out.cell
      have yT := PT5.out.lt
      by_cases q1 : V ≤ M
      case neg =>
        have d1 : decide (V ≤ M) = false := by simpa using q1
        have HF := hide (show holdsB r us t = false by rw [HYY.out, d1]; rfl)
        have q2 : M < V := by omega
        go_wp2_with fail
        go_quiet ((go_at_call 82; exact (HVo.out _).mono (by rintro e w' ⟨rfl, rfl⟩; exact ⟨rfl, _, rfl⟩)))
        go_wp2
        go_ret
        exact ⟨ret_bool HF.out.symm, (by repeat (first | with_reducible exact Below.refl _ _ | with_reducible assumption | with_reducible refine Below.setCell ?_ (by (try simp) <;> omega) _ | with_reducible refine Below.alloc ?_ (by (try simp) <;> omega) _ | with_reducible refine Below.drew ?_ | with_reducible refine below_drewN ?_ _ | with_reducible exact L5.out | with_reducible refine Below.trans ?_ (Below.mono L5.out (by (try simp) <;> omega))))⟩
      have d1 : decide (V ≤ M) = true := by simpa using q1
      by_cases q3 : G ≤ t.gram
      case neg =>
        have d2 : decide (G ≤ t.gram) = false := by simpa using q3
        have HF := hide (show holdsB r us t = false by rw [HYY.out, d1, d2]; rfl)
        have q4 : t.gram < G := by omega
        go_wp2_with fail
        go_quiet ((go_at_call 82; exact (HVo.out _).mono (by rintro e w' ⟨rfl, rfl⟩; exact ⟨rfl, _, rfl⟩)))
        go_wp2
        go_ret
        exact ⟨ret_bool HF.out.symm, (by repeat (first | with_reducible exact Below.refl _ _ | with_reducible assumption | with_reducible refine Below.setCell ?_ (by (try simp) <;> omega) _ | with_reducible refine Below.alloc ?_ (by (try simp) <;> omega) _ | with_reducible refine Below.drew ?_ | with_reducible refine below_drewN ?_ _ | with_reducible exact L5.out | with_reducible refine Below.trans ?_ (Below.mono L5.out (by (try simp) <;> omega))))⟩
      have d2 : decide (G ≤ t.gram) = true := by simpa using q3
      have HF := hide (show holdsB r us t = true by rw [HYY.out, d1, d2]; rfl)
      go_wp2_with fail
      go_quiet ((go_at_call 82; exact (HVo.out _).mono (by rintro e w' ⟨rfl, rfl⟩; exact ⟨rfl, _, rfl⟩)))
      go_wp2
      go_ret
      exact ⟨ret_bool HF.out.symm, (by repeat (first | with_reducible exact Below.refl _ _ | with_reducible assumption | with_reducible refine Below.setCell ?_ (by (try simp) <;> omega) _ | with_reducible refine Below.alloc ?_ (by (try simp) <;> omega) _ | with_reducible refine Below.drew ?_ | with_reducible refine below_drewN ?_ _ | with_reducible exact L5.out | with_reducible refine Below.trans ?_ (Below.mono L5.out (by (try simp) <;> omega))))⟩
end Go.Proofs.YtehgdhekiogppaaGreat
