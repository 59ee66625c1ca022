/- LowerGreat of the reference. -/
import Derived.Test.YtbbcmldhdebolaaGreatLg
import Derived.Test.YtbbcmldhdebolaaGreatNam
namespace Go.Proofs.YtbbcmldhdebolaaGreat
open Go.ChangeShapes Go.WideShapes Go.ChangeAt Go.RowKit Go.Deep
set_option linter.unusedVariables false
set_option linter.unusedSimpArgs false

theorem sbit_any (b : Bool) (w : World) : Calls Tryz.prog 45 #[.bool b] w fun e w' => e = .returned (.int .i64 (bitI b)) ∧ w = w' := by
  cases b
  · go_enter Tryz.func45, Tryz.ntmps45
    go_wp2
    go_ret
    exact ⟨rfl, rfl⟩
  · go_enter Tryz.func45, Tryz.ntmps45
    go_wp2
    go_ret
    exact ⟨rfl, rfl⟩
theorem sbit_f (w : World) : Calls Tryz.prog 45 #[.bool false] w fun e w' => e = .returned (.int .i64 0) ∧ w = w' := sbit_any false w
theorem sbit_t (w : World) : Calls Tryz.prog 45 #[.bool true] w fun e w' => e = .returned (.int .i64 1) ∧ w = w' := sbit_any true w
theorem smax_any (a b : Int) (w : World) : Calls Tryz.prog 46 #[.int .i64 a, .int .i64 b] w fun e w' => e = .returned (.int .i64 (maxB a b)) ∧ w = w' := by
  by_cases h : b < a
  · go_enter Tryz.func46, Tryz.ntmps46
    go_wp2
    go_ret
    exact ⟨ret_int (by simp [maxB, h]), rfl⟩
  · have h' : a ≤ b := by omega
    go_enter Tryz.func46, Tryz.ntmps46
    go_wp2
    go_ret
    exact ⟨ret_int (by unfold maxB; rw [if_neg (by omega)]), rfl⟩
set_option maxRecDepth 20000 in
set_option maxHeartbeats 4000000 in
theorem slowGr_any (r : Rq) (A1 A2 A3 : Option Addr) (n1 n2 n3 c1 c2 c3 : Nat) (lo hi : Nat) (lo2 hi2 : Nat) (A : Option Addr) (n c : Nat) (us : List Int) (w : World) (hr : RqAt w lo hi r A1 n1 c1 A2 n2 c2 A3 n3 c3) (hB : hi ≤ w.heap.size) (hs : SlK 1 encInt w lo2 hi2 A n c us) (hB2 : hi2 ≤ w.heap.size) (hn : n ≤ 1048580) :
    Calls Tryz.prog 16 #[.agg #[.int .i64 r.way, .int .i64 r.pal.w, .int .i64 r.pal.d, .int .i64 r.pal.h, .int .i64 r.pal.gram, .int .i64 r.cls, .slice A1 n1 c1, .slice A2 n2 c2, .int .i64 r.master, .slice A3 n3 c3], .slice A n c] w fun e w' => e = .returned (.int .i64 (lowGr r us)) ∧ Below w.heap.size w w' := by
  have HC := hide (sclass_any r A1 A2 A3 n1 n2 n3 c1 c2 c3 lo hi)
  have HR := hide hr
  have HS := hide hs
  have HL := hide hs.len
  have hcu := hs.cap
  have hmu := hs.max
  clear hr hs
  by_cases h0 : classN r = 0
  case neg =>
    have HF := hide (show lowGr r us = 0 by simp [lowGr, h0])
    obtain ⟨q, hq⟩ : ∃ q, classN r = q := ⟨_, rfl⟩
    rw [hq] at HC h0
    clear hq
    have hd : (q == 0) = false := by simpa using h0
    go_enter Tryz.func16, Tryz.ntmps16
    go_wp2_with fail
    refine (HC.out _ (HR.out.below (B := w.heap.size) (by repeat (first | with_reducible exact Below.refl _ _ | with_reducible assumption | with_reducible refine Below.setCell ?_ (by (try simp) <;> omega) _ | with_reducible refine Below.alloc ?_ (by (try simp) <;> omega) _ | with_reducible refine Below.drew ?_ | with_reducible refine below_drewN ?_ _)) hB) (by (try simp) <;> omega)).mono ?_
    rintro e w1 ⟨rfl, hb1⟩
    go_wp2
    go_ret
    exact ⟨ret_int HF.out.symm, (by repeat (first | with_reducible exact Below.refl _ _ | with_reducible assumption | with_reducible refine Below.setCell ?_ (by (try simp) <;> omega) _ | with_reducible refine Below.alloc ?_ (by (try simp) <;> omega) _ | with_reducible refine Below.drew ?_ | with_reducible refine below_drewN ?_ _ | with_reducible exact hb1 | with_reducible refine Below.trans ?_ (Below.mono hb1 (by (try simp) <;> omega))))⟩
  have hbd := bounds_items (class0_bounds h0)
  have HOK := hide hbd.1
  have hn8 : n3 ≤ 8 := by have := hbd.2.1; rw [HR.out.it.len] at this; exact this
  have HUR := hide (show unitsR r = unitsL r.items by simp [unitsR, h0])
  have HF := hide (show lowGr r us = maxB (greatU r (vol (masterTy r).w (masterTy r).h (masterTy r).d) us) (heavyU r (masterTy r).gram us) by simp [lowGr, h0])
  rw [h0] at HC
  have hv := typeOk_vol (master_ok h0)
  have hg := (typeOk_bd (master_ok h0)).2.2.2.2.1
  have HLU6 := hide (sl6units_any r A1 A2 A3 n1 n2 n3 c1 c2 c3 lo hi)
  rw [← HUR.out] at HLU6
  have HMa := hide (smaster_any r A1 A2 A3 n1 n2 n3 c1 c2 c3 lo hi)
  have H7 := hide (sl7of_any r A1 A2 A3 n1 n2 n3 c1 c2 c3 lo hi)
  obtain ⟨bo, hbo⟩ : ∃ bo, (findTy r.types r.master).isSome = bo := ⟨_, rfl⟩
  obtain ⟨t, hT⟩ : ∃ T, masterTy r = T := ⟨_, rfl⟩
  have hT' := hT
  change tyD (findTy r.types r.master) = t at hT'
  rw [hT', hbo] at HMa
  rw [hT] at hv hg HF
  have HVo := hide (svol_any t.w t.h t.d)
  obtain ⟨M, hM⟩ : ∃ M, vol t.w t.h t.d = M := ⟨_, rfl⟩
  rw [hM] at HVo hv HF
  obtain ⟨m, hm⟩ : ∃ m, (unitsR r).length = m := ⟨_, rfl⟩
  have HM := hide hm
  clear h0 hM hT hT' hbo hbd hm
  go_enter Tryz.func16, Tryz.ntmps16
  go_wp2_with fail
  refine (HC.out _ (HR.out.below (B := w.heap.size) (by repeat (first | with_reducible exact Below.refl _ _ | with_reducible assumption | with_reducible refine Below.setCell ?_ (by (try simp) <;> omega) _ | with_reducible refine Below.alloc ?_ (by (try simp) <;> omega) _ | with_reducible refine Below.drew ?_ | with_reducible refine below_drewN ?_ _)) hB) (by (try simp) <;> omega)).mono ?_
  rintro e w1 ⟨rfl, hb1⟩
  have L1 := hide (show Below w.heap.size w w1 from (by repeat (first | with_reducible exact Below.refl _ _ | with_reducible assumption | with_reducible refine Below.setCell ?_ (by (try simp) <;> omega) _ | with_reducible refine Below.alloc ?_ (by (try simp) <;> omega) _ | with_reducible refine Below.drew ?_ | with_reducible refine below_drewN ?_ _ | with_reducible exact hb1 | with_reducible refine Below.trans ?_ (Below.mono hb1 (by (try simp) <;> omega)))))
  have P1 := hide (Blk.belowH (Blk.new w 37 (#[.int .i64 r.way, .int .i64 r.pal.w, .int .i64 r.pal.d, .int .i64 r.pal.h, .int .i64 r.pal.gram, .int .i64 r.cls, .slice A1 n1 c1, .slice A2 n2 c2, .int .i64 r.master, .slice A3 n3 c3]) (g := w.heap.size) (by simp)) hb1)
  have z1 : w.heap.size + 1 ≤ w1.heap.size := by simpa using hb1.size
  clear hb1
  have kR := P1.out.cell
  have yR := P1.out.lt
  go_wp2_with fail
  refine (HMa.out _ (HR.out.below L1.out hB) (by (try simp) <;> omega)).mono ?_
  rintro e w2 ⟨rfl, hb2⟩
  have L2 := hide (L1.out.trans (hb2.mono (by omega)))
  have P2 := hide (Blk.belowH P1.out hb2)
  have z2 : w1.heap.size ≤ w2.heap.size := hb2.size
  clear hb2 kR yR P1
  have kR := P2.out.cell
  have yR := P2.out.lt
  go_wp2_with fail
  refine (HLU6.out _ ((HR.out.below L2.out hB).alloc (by omega) _) (by (try simp) <;> omega) HOK.out hn8).mono ?_
  rintro e w5 ⟨v5, rfl, ho5, hb5⟩
  obtain ⟨A5, c5, rfl, s5⟩ := Own.slk' encInt_len HM.out ho5
  have S5 := hide (s5.more (Nat.zero_le _) (Nat.le_refl _))
  have L5 := hide (show Below w.heap.size w w5 from (by repeat (first | with_reducible exact Below.refl _ _ | with_reducible assumption | with_reducible refine Below.setCell ?_ (by (try simp) <;> omega) _ | with_reducible refine Below.alloc ?_ (by (try simp) <;> omega) _ | with_reducible refine Below.drew ?_ | with_reducible refine below_drewN ?_ _ | with_reducible exact L2.out | with_reducible exact hb5 | with_reducible refine Below.trans ?_ (Below.mono L2.out (by (try simp) <;> omega)) | with_reducible refine Below.trans ?_ (Below.mono hb5 (by (try simp) <;> omega)))))
  have P5 := hide (Blk.belowH (P2.out.alloc _) hb5)
  have T5 := hide (Blk.belowH (Blk.new w2 56 #[.int .i64 t.id, .int .i64 t.w, .int .i64 t.h, .int .i64 t.d, .int .i64 t.tare, .int .i64 t.gram, .int .i64 t.cost] (g := w2.heap.size) rfl) hb5)
  have z5 : w2.heap.size + 1 ≤ w5.heap.size := by simpa using hb5.size
  clear hb5 ho5 s5 kR yR P2
  obtain ⟨RL, hRL⟩ : ∃ RL : Array Value, RL = #[.int .i64 r.way, .int .i64 r.pal.w, .int .i64 r.pal.d, .int .i64 r.pal.h, .int .i64 r.pal.gram, .int .i64 r.cls, .slice A1 n1 c1, .slice A2 n2 c2, .int .i64 r.master, .slice A3 n3 c3] := ⟨_, rfl⟩
  have HRL := hide hRL
  clear hRL
  go_wp2
  go_loopw [8, 9, 10] (fun a b i wr => ∃ k : Nat, k ≤ n ∧ i = .int .i64 k ∧ a = .int .i64 (greatU r M (us.take k)) ∧ b = .int .i64 (heavyU r t.gram (us.take k)) ∧ Blk wr w.heap.size 37 RL ∧ Blk wr w2.heap.size 56 #[.int .i64 t.id, .int .i64 t.w, .int .i64 t.h, .int .i64 t.d, .int .i64 t.tare, .int .i64 t.gram, .int .i64 t.cost] ∧ Below w5.heap.size w5 wr) (fun _ _ i _ => n - (intOf i).toNat)
  case atStart => exact ⟨0, Nat.zero_le _, rfl, rfl, rfl, P5.out.as HRL.out.symm, T5.out, (by repeat (first | with_reducible exact Below.refl _ _ | with_reducible assumption | with_reducible refine Below.setCell ?_ (by (try simp) <;> omega) _ | with_reducible refine Below.alloc ?_ (by (try simp) <;> omega) _ | with_reducible refine Below.drew ?_ | with_reducible refine below_drewN ?_ _))⟩
  case round =>
    obtain ⟨k, hk, rfl, rfl, rfl, B0, B1, hbel⟩ := hrel
    have HBel := hide hbel
    have PR := hide B0
    have PT := hide B1
    have kR := (B0.as HRL.out).cell
    have yR := B0.lt
    have kT := B1.cell
    have yT := B1.lt
    have hz := hbel.size
    have HL0 := hide (show Below w.heap.size w wr from L5.out.trans (hbel.mono (by omega)))
    have hlen : (us.take k).length ≤ k := List.length_take_le _ _
    have B1' := sum_bits (fun u => grB M (itD (unitIt r u))) (us.take k)
    have B2' := sum_bits (fun u => hvB t.gram (itD (unitIt r u))) (us.take k)
    change 0 ≤ greatU r M (us.take k) ∧ greatU r M (us.take k) ≤ _ at B1'
    change 0 ≤ heavyU r t.gram (us.take k) ∧ heavyU r t.gram (us.take k) ≤ _ at B2'
    have b1 : 0 ≤ greatU r M (us.take k) := B1'.1
    have b2 : greatU r M (us.take k) ≤ 1048580 := by have := B1'.2; omega
    have b3 : 0 ≤ heavyU r t.gram (us.take k) := B2'.1
    have b4 : heavyU r t.gram (us.take k) ≤ 1048580 := by have := B2'.2; omega
    clear hbel B0 B1 B1' B2'
    by_cases hlt : k < n
    · obtain ⟨bu, ou, x, hx, q, _, hbu, cu, _⟩ := (HS.out.below HL0.out hB2).int hlt
      subst q
      obtain ⟨bu', ou', q', hbu', hdr⟩ := (HS.out.below HL0.out hB2).drop_ hlt
      simp only [Option.some.injEq, Addr.mk.injEq, and_true] at q'
      obtain ⟨rfl, rfl⟩ := q'
      have h1n : 1 ≤ n - k := by omega
      have hone := hdr.take_ h1n
      rw [show (us.drop k).take 1 = [x] by
        obtain ⟨hkl, e⟩ := List.getElem?_eq_some_iff.1 hx
        rw [List.drop_eq_getElem_cons hkl, e]
        rfl] at hone
      simp only [Nat.mul_one] at hone
      have HONE := hide hone
      have HX := hide hx
      have hsn1 := hide (greatU_snoc (r := r) (M := M) hx)
      have hsn2 := hide (heavyU_snoc (r := r) (M := t.gram) hx)
      have HVb := hide (volI_bd (itD (unitIt r x)))
      have HGb := hide (itD_gram r x)
      have HVU := hide (show volU r [x] = volI (itD (unitIt r x)) by simp [volU])
      have HGU := hide (show gramU r [x] = (itD (unitIt r x)).gram by simp [gramU])
      clear hx hdr hone
      have i0 : (0 : Int) ≤ (k : Int) := by omega
      have i1 : (k : Int) < (n : Int) := by omega
      have i2 : (k : Int) + 1 ≤ (n : Int) := by omega
      have i3 : (k : Int) + 1 ≤ (c : Int) := by omega
      have i4 : (k : Int) ≤ (k : Int) + 1 := by omega
      have z0 : bu < wr.heap.size := by omega
      have hw1 : IntKind.i64.wrap ((k : Int) + 1) = (k : Int) + 1 := by rw [IntKind.wrap_i64]; omega
      have hck : c ≠ k := by omega
      have hck' : ¬ (c = k) := hck
      have i5 : ((k : Int) + 1).toNat - k = 1 := by omega
      have i6 : ((k : Int) + 1).toNat = k + 1 := by omega
      have i7 : k + 1 - k = 1 := by omega
      have i8 : (0 : Int) ≤ (k : Int) + 1 := by omega
      have i9 : k + 1 ≤ c := by omega
      have H7x := H7.out 0 w5.heap.size A5 m c5 0 hi2 (some ⟨bu, ou + k, none⟩) 1 (c - k) [x]
      rw [HVU.out, HGU.out] at H7x
      obtain ⟨y, hy⟩ : ∃ y, itD (unitIt r x) = y := ⟨_, rfl⟩
      rw [hy] at H7x HVb HGb hsn1 hsn2
      clear hy HVU HGU
      obtain ⟨V, hV⟩ : ∃ V, volI y = V := ⟨_, rfl⟩
      obtain ⟨G, hG⟩ : ∃ G, y.gram = G := ⟨_, rfl⟩
      have hVV := hide hV
      have hGG := hide hG
      rw [hV] at H7x HVb
      rw [hG] at H7x HGb
      have H7y := hide H7x
      clear H7x hV hG
      have hv1 := HVb.out.1
      have hv2 := HVb.out.2
      have hg1 := HGb.out.1
      have hg2 := HGb.out.2
      obtain ⟨a, ha⟩ : ∃ S, greatU r M (us.take k) = S := ⟨_, rfl⟩
      obtain ⟨b, hb'⟩ : ∃ S, heavyU r t.gram (us.take k) = S := ⟨_, rfl⟩
      rw [ha] at b1 b2 hsn1 ⊢
      rw [hb'] at b3 b4 hsn2 ⊢
      clear ha hb'
      have h1 : -9223372036854775808 ≤ 2 * V := by omega
      have h2 : 2 * V ≤ 9223372036854775807 := by omega
      have h3 : -9223372036854775808 ≤ 2 * G := by omega
      have h4 : 2 * G ≤ 9223372036854775807 := by omega
      have hp1 : decide (M < 2 * V) = grB M y := by unfold grB; rw [hVV.out]
      have hp2 : decide (t.gram < 2 * G) = hvB t.gram y := by unfold hvB; rw [hGG.out]
      obtain ⟨p1, hq1⟩ : ∃ p, grB M y = p := ⟨_, rfl⟩
      obtain ⟨p2, hq2⟩ : ∃ p, hvB t.gram y = p := ⟨_, rfl⟩
      rw [hq1] at hsn1 hp1
      rw [hq2] at hsn2 hp2
      clear hq1 hq2
      have e0 : w.heap.size ≠ wr.heap.size := by omega
      have e0' : wr.heap.size ≠ w.heap.size := by omega
      have hz7 : hi2 ≤ wr.heap.size := by omega
      go_wp2_with fail
      go_region_held3 (fun w' => w'.cell? ⟨w.heap.size, 0, none⟩ = some (.int .i64 r.way) ∧ w'.cell? ⟨w.heap.size, 1, none⟩ = some (.int .i64 r.pal.w) ∧ w'.cell? ⟨w.heap.size, 2, none⟩ = some (.int .i64 r.pal.d) ∧ w'.cell? ⟨w.heap.size, 3, none⟩ = some (.int .i64 r.pal.h) ∧ w'.cell? ⟨w.heap.size, 4, none⟩ = some (.int .i64 r.pal.gram) ∧ w'.cell? ⟨w.heap.size, 5, none⟩ = some (.int .i64 r.cls) ∧ w'.cell? ⟨w.heap.size, 6, none⟩ = some (.slice A1 n1 c1) ∧ w'.cell? ⟨w.heap.size, 7, none⟩ = some (.slice A2 n2 c2) ∧ w'.cell? ⟨w.heap.size, 8, none⟩ = some (.int .i64 r.master) ∧ w'.cell? ⟨w.heap.size, 9, none⟩ = some (.slice A3 n3 c3)) (go_keep) (first
        | (go_at_call 29; (with_reducible refine (H7y.out _ (HR.out.below HL0.out hB).drew (by simp; omega) (S5.out.below HBel.out (Nat.le_refl _)).drew (by simpa using hz) (HONE.out.more (Nat.zero_le _) (Nat.le_refl _)).drew (by simpa using hz7) (by omega)).mono ?_); rintro e w4 ⟨rfl, hb2'⟩; have PR2 := hide (PR.out.drew.belowH hb2'); have PT2 := hide (PT.out.drew.belowH hb2'); have BB := hide ((Below.refl wr.heap.size wr).drew.trans (hb2'.mono (by simp))); have L4 := hide (HBel.out.trans (BB.out.mono hz)); have hcc : ∀ b o, b < wr.heap.size → w4.cell? ⟨b, o, none⟩ = wr.cell? ⟨b, o, none⟩ := (fun b o h => BB.out.cell (p := ⟨b, o, none⟩) h); have z4 : wr.heap.size ≤ w4.heap.size := (by simpa using hb2'.size); have e2 : w.heap.size ≠ w4.heap.size := (by omega); have e2' : w4.heap.size ≠ w.heap.size := (by omega))
        | (go_at_call 29; (with_reducible refine (H7y.out _ ((HR.out.below HL0.out hB).alloc (by omega) _).drew (by simp; omega) ((S5.out.below HBel.out (Nat.le_refl _)).alloc hz _).drew (by simp; omega) ((HONE.out.more (Nat.zero_le _) (Nat.le_refl _)).alloc hz7 _).drew (by simp; omega) (by omega)).mono ?_); rintro e w4 ⟨rfl, hb2'⟩; have PR2 := hide ((PR.out.alloc _).drew.belowH hb2'); have PT2 := hide ((PT.out.alloc _).drew.belowH hb2'); have PX2 := hide ((Blk.new wr 61 #[.int .i64 0, .int .i64 0] (g := wr.heap.size) rfl).drew.belowH hb2'); have BB := hide ((((Below.refl wr.heap.size wr).alloc (Nat.le_refl _) _).drew).trans (hb2'.mono (by simp))); have L4 := hide (HBel.out.trans (BB.out.mono hz)); have hcc : ∀ b o, b < wr.heap.size → w4.cell? ⟨b, o, none⟩ = wr.cell? ⟨b, o, none⟩ := (fun b o h => BB.out.cell (p := ⟨b, o, none⟩) h); have z4 : wr.heap.size < w4.heap.size := PX2.out.lt; have kX := PX2.out.cell; have fX := PX2.out.frozen))
      all_goals first
        | (have PX3 := hide ((PX2.out.set_ 0 (.int .i64 V)).set_ 1 (.int .i64 G))
           simp only [List.setIfInBounds_toArray, List.set_cons_zero, List.set_cons_succ] at PX3
           have PR3 := hide ((PR2.out.far (p := ⟨wr.heap.size, 0, none⟩) (by simp <;> omega) (.int .i64 V)).far (p := ⟨wr.heap.size, 1, none⟩) (by simp <;> omega) (.int .i64 G))
           have PT3 := hide ((PT2.out.far (p := ⟨wr.heap.size, 0, none⟩) (by simp <;> omega) (.int .i64 V)).far (p := ⟨wr.heap.size, 1, none⟩) (by simp <;> omega) (.int .i64 G))
           have L3 := hide (show Below w5.heap.size w5 ((w4.setCell ⟨wr.heap.size, 0, none⟩ (.int .i64 V)).setCell ⟨wr.heap.size, 1, none⟩ (.int .i64 G)) from (by repeat (first | with_reducible exact Below.refl _ _ | with_reducible assumption | with_reducible refine Below.setCell ?_ (by (try simp) <;> omega) _ | with_reducible refine Below.alloc ?_ (by (try simp) <;> omega) _ | with_reducible refine Below.drew ?_ | with_reducible refine below_drewN ?_ _ | with_reducible exact L4.out | with_reducible refine Below.trans ?_ (Below.mono L4.out (by (try simp) <;> omega)))))
           obtain ⟨w3, hw3⟩ : ∃ w3, ((w4.setCell ⟨wr.heap.size, 0, none⟩ (.int .i64 V)).setCell ⟨wr.heap.size, 1, none⟩ (.int .i64 G)) = w3 := ⟨_, rfl⟩
           obtain ⟨X, hX⟩ : ∃ X, wr.heap.size = X := ⟨_, rfl⟩
           rw [hw3] at PX3 PR3 PT3 L3 ⊢
           rw [hX] at PX3 ⊢
           have hX1 : w5.heap.size ≤ X := by omega)
        | (have PX3 := hide (Blk.new w4 61 #[.int .i64 V, .int .i64 G] (g := w4.heap.size) rfl)
           have PR3 := hide (PR2.out.alloc (.cells #[.int .i64 V, .int .i64 G] 61))
           have PT3 := hide (PT2.out.alloc (.cells #[.int .i64 V, .int .i64 G] 61))
           have L3 := hide (show Below w5.heap.size w5 (w4.alloc (.cells #[.int .i64 V, .int .i64 G] 61)) from (by repeat (first | with_reducible exact Below.refl _ _ | with_reducible assumption | with_reducible refine Below.setCell ?_ (by (try simp) <;> omega) _ | with_reducible refine Below.alloc ?_ (by (try simp) <;> omega) _ | with_reducible refine Below.drew ?_ | with_reducible refine below_drewN ?_ _ | with_reducible exact L4.out | with_reducible refine Below.trans ?_ (Below.mono L4.out (by (try simp) <;> omega)))))
           obtain ⟨w3, hw3⟩ : ∃ w3, w4.alloc (.cells #[.int .i64 V, .int .i64 G] 61) = w3 := ⟨_, rfl⟩
           obtain ⟨X, hX⟩ : ∃ X, w4.heap.size = X := ⟨_, rfl⟩
           rw [hw3] at PX3 PR3 PT3 L3 ⊢
           rw [hX] at PX3 ⊢
           have hX1 : w5.heap.size ≤ X := by omega)
      all_goals (
        clear PR2 PT2 L4 hw3 BB hcc kR yR kT yT
        have kX := PX3.out.cell
        have yX := PX3.out.lt
        have kT := PT3.out.cell
        have yT := PT3.out.lt
        cases p1 <;> cases p2
        all_goals (
          go_wp2_with fail
          go_quiet (first | (go_at_call 43; exact (HVo.out _).mono (by rintro e w' ⟨rfl, rfl⟩; exact ⟨rfl, _, rfl⟩)) | (go_at_call 45; exact (sbit_f _).mono (by rintro e w' ⟨rfl, rfl⟩; exact ⟨rfl, _, rfl⟩)) | (go_at_call 45; exact (sbit_t _).mono (by rintro e w' ⟨rfl, rfl⟩; exact ⟨rfl, _, rfl⟩)))
          go_wp2_with fail
          first
            | (with_reducible refine (sbit_f _).mono ?_)
            | (with_reducible refine (sbit_t _).mono ?_)
          rintro e w' ⟨rfl, rfl⟩
          go_wp2
          go_roundw
          case rel => exact ⟨k + 1, by omega, by go_num, by rw [hsn1.out]; simp [bitI], by rw [hsn2.out]; simp [bitI], PR3.out.drewN _, PT3.out.drewN _, (by repeat (first | with_reducible exact Below.refl _ _ | with_reducible assumption | with_reducible refine Below.setCell ?_ (by (try simp) <;> omega) _ | with_reducible refine Below.alloc ?_ (by (try simp) <;> omega) _ | with_reducible refine Below.drew ?_ | with_reducible refine below_drewN ?_ _ | with_reducible exact L3.out | with_reducible refine Below.trans ?_ (Below.mono L3.out (by (try simp) <;> omega))))⟩
          case measure => simp [intOf]; omega))
    · have hge : n ≤ k := by omega
      have HT := hide (show us.take k = us from List.take_of_length_le (by rw [HL.out]; exact hge))
      clear hlt
      obtain ⟨a, ha⟩ : ∃ S, greatU r M (us.take k) = S := ⟨_, rfl⟩
      obtain ⟨b, hb'⟩ : ∃ S, heavyU r t.gram (us.take k) = S := ⟨_, rfl⟩
      rw [HT.out] at ha hb' ⊢
      rw [ha, hb'] at HF ⊢
      clear ha hb'
      go_wp2_with fail
      refine (smax_any a b _).mono ?_
      rintro e w' ⟨rfl, rfl⟩
      go_wp2
      go_ret
      exact ⟨ret_int HF.out.symm, HL0.out⟩
end Go.Proofs.YtbbcmldhdebolaaGreat
