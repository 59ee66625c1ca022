/- LowerVolume, LowerGram of both. -/
import Derived.Test.YtbbcmldhdebolaaGreatUn4
import Derived.Test.YtbbcmldhdebolaaGreatUn6
namespace Go.Proofs.YtbbcmldhdebolaaGreat
open Go.ChangeShapes Go.WideShapes Go.ChangeAt Go.RowKit Go.Deep
set_option linter.unusedVariables false
set_option linter.unusedSimpArgs false

/-- A quotient, rounded up. -/
def upB (a b : Int) : Int := Int.tdiv (a + b - 1) b
def lowV (r : Rq) (us : List Int) : Int := if classN r = 0 then upB (volU r us) (vol (masterTy r).w (masterTy r).h (masterTy r).d) else 0
def lowG (r : Rq) (us : List Int) : Int := if classN r = 0 then upB (gramU r us) (masterTy r).gram else 0
theorem typeOk_bd {t : Ty} (h : typeOkB t = true) : (1 ≤ t.w ∧ t.w ≤ 2000) ∧ (1 ≤ t.h ∧ t.h ≤ 2000) ∧ (1 ≤ t.d ∧ t.d ≤ 2000) ∧ (0 ≤ t.tare ∧ t.tare ≤ 100000) ∧ (1 ≤ t.gram ∧ t.gram ≤ 100000) ∧ (0 ≤ t.cost ∧ t.cost ≤ 100000) := by
  simp only [typeOkB, Bool.and_eq_true, inB_iff] at h
  omega
theorem typeOk_vol {t : Ty} (h : typeOkB t = true) : 1 ≤ vol t.w t.h t.d ∧ vol t.w t.h t.d ≤ 8000000000 := by
  obtain ⟨h1, h2, h3, _⟩ := typeOk_bd h
  obtain ⟨e, _, _, _, e4⟩ := vol_mul t.w t.h t.d (by rw [inB_iff]; omega) (by rw [inB_iff]; omega) (by rw [inB_iff]; omega)
  rw [e]
  have k1 : 1 * 1 ≤ t.w * t.h := Int.mul_le_mul h1.1 h2.1 (by omega) (by omega)
  have k2 : 1 * 1 ≤ t.w * t.h * t.d := Int.mul_le_mul (by omega) h3.1 (by omega) (by omega)
  exact ⟨by omega, by rw [← e]; exact (vol_range _ _ _).2⟩
theorem bounds_types {r : Rq} (h : boundsB r = true) : ∀ t ∈ r.types, typeOkB t = true := by
  simp only [boundsB, Bool.and_eq_true, Bool.not_eq_true'] at h
  have h1 := h.1.1.1.1.2
  unfold typesBadB at h1
  rw [List.any_eq_false] at h1
  intro t ht
  simpa using h1 t ht
theorem names_master {r : Rq} (h : namesB r = true) : ∃ t, findTy r.types r.master = some t := by
  simp only [namesB, Bool.and_eq_true] at h
  exact Option.isSome_iff_exists.1 h.1.2
theorem class0_names {r : Rq} (h : classN r = 0) : namesB r = true := by
  have hb := class0_bounds h
  cases hn : namesB r
  · simp [classN, hb, hn] at h
  · rfl
theorem findTy_mem {ts : List Ty} {id : Int} {t : Ty} (h : findTy ts id = some t) : t ∈ ts := List.mem_of_find?_eq_some h
theorem master_ok {r : Rq} (h : classN r = 0) : typeOkB (masterTy r) = true := by
  obtain ⟨t, ht⟩ := names_master (class0_names h)
  have : masterTy r = t := by unfold masterTy; rw [ht]; rfl
  rw [this]
  exact bounds_types (class0_bounds h) t (findTy_mem ht)
set_option maxHeartbeats 400000 in
theorem upBy_any (a b : Int) (w : World) (h1 : 0 ≤ a) (h2 : a ≤ 8388648000000000) (h3 : 1 ≤ b) (h4 : b ≤ 8000000000) : Calls Tryz.prog 37 #[.int .i64 a, .int .i64 b] w fun e w' => e = .returned (.int .i64 (upB a b)) ∧ w = w' := by
  have e1 : -9223372036854775808 ≤ a + b := by omega
  have e2 : a + b ≤ 9223372036854775807 := by omega
  have e3 : -9223372036854775808 ≤ a + b - 1 := by omega
  have e4 : a + b - 1 ≤ 9223372036854775807 := by omega
  have hb0 : ¬ (b = 0) := by omega
  have hq0 : 0 ≤ Int.tdiv (a + b - 1) b := Int.tdiv_nonneg (by omega) (by omega)
  have hq1 : Int.tdiv (a + b - 1) b ≤ a + b - 1 := by
    rw [Int.tdiv_eq_ediv_of_nonneg (by omega)]
    exact Int.ediv_le_self _ (by omega)
  have HU := hide (show upB a b = Int.tdiv (a + b - 1) b from rfl)
  go_enter Tryz.func37, Tryz.ntmps37
  go_wp2
  go_ret
  exact ⟨ret_int (by rw [HU.out]), rfl⟩
set_option maxHeartbeats 400000 in
theorem supBy_any (a b : Int) (w : World) (h1 : 0 ≤ a) (h2 : a ≤ 8388648000000000) (h3 : 1 ≤ b) (h4 : b ≤ 8000000000) : Calls Tryz.prog 28 #[.int .i64 a, .int .i64 b] w fun e w' => e = .returned (.int .i64 (upB a b)) ∧ w = w' := by
  have e1 : -9223372036854775808 ≤ a + b := by omega
  have e2 : a + b ≤ 9223372036854775807 := by omega
  have e3 : -9223372036854775808 ≤ a + b - 1 := by omega
  have e4 : a + b - 1 ≤ 9223372036854775807 := by omega
  have hb0 : ¬ (b = 0) := by omega
  have hq0 : 0 ≤ Int.tdiv (a + b - 1) b := Int.tdiv_nonneg (by omega) (by omega)
  have hq1 : Int.tdiv (a + b - 1) b ≤ a + b - 1 := by
    rw [Int.tdiv_eq_ediv_of_nonneg (by omega)]
    exact Int.ediv_le_self _ (by omega)
  have HU := hide (show upB a b = Int.tdiv (a + b - 1) b from rfl)
  go_enter Tryz.func28, Tryz.ntmps28
  go_wp2
  go_ret
  exact ⟨ret_int (by rw [HU.out]), rfl⟩
set_option maxRecDepth 20000 in
set_option maxHeartbeats 1000000 in
theorem masterRoom_any (r : Rq) (A1 A2 A3 : Option Addr) (n1 n2 n3 c1 c2 c3 : Nat) (lo hi : Nat) (w : World) (hr : RqAt w lo hi r A1 n1 c1 A2 n2 c2 A3 n3 c3) (hB : hi ≤ w.heap.size) :
    Calls Tryz.prog 36 #[.agg #[.int .i64 r.way, .int .i64 r.pal.w, .int .i64 r.pal.d, .int .i64 r.pal.h, .int .i64 r.pal.gram, .int .i64 r.cls, .slice A1 n1 c1, .slice A2 n2 c2, .int .i64 r.master, .slice A3 n3 c3]] w fun e w' => e = .returned (.tuple #[.int .i64 (vol (masterTy r).w (masterTy r).h (masterTy r).d), .int .i64 (masterTy r).gram]) ∧ Below w.heap.size w w' := by
  obtain ⟨bo, hbo⟩ : ∃ bo, (findTy r.types r.master).isSome = bo := ⟨_, rfl⟩
  obtain ⟨t, hT⟩ : ∃ T, masterTy r = T := ⟨_, rfl⟩
  have HMa := hide (master_any r A1 A2 A3 n1 n2 n3 c1 c2 c3 lo hi)
  have hT' := hT
  change tyD (findTy r.types r.master) = t at hT'
  rw [hT', hbo] at HMa
  rw [hT]
  have HVo := hide (vol_any t.w t.h t.d)
  obtain ⟨M, hM⟩ : ∃ M, vol t.w t.h t.d = M := ⟨_, rfl⟩
  rw [hM] at HVo ⊢
  have HR := hide hr
  clear hT hT' hbo hM hr
  go_enter Tryz.func36, Tryz.ntmps36
  go_wp2_with fail
  refine (HMa.out _ (HR.out.below (B := w.heap.size) (by repeat (first | with_reducible exact Below.refl _ _ | with_reducible assumption | with_reducible refine Below.setCell ?_ (by (try simp) <;> omega) _ | with_reducible refine Below.alloc ?_ (by (try simp) <;> omega) _ | with_reducible refine Below.drew ?_ | with_reducible refine below_drewN ?_ _)) hB) (by (try simp) <;> omega)).mono ?_
  rintro e w1 ⟨rfl, hb1⟩
  have L1 := hide (show Below w.heap.size w w1 from (by repeat (first | with_reducible exact Below.refl _ _ | with_reducible assumption | with_reducible refine Below.setCell ?_ (by (try simp) <;> omega) _ | with_reducible refine Below.alloc ?_ (by (try simp) <;> omega) _ | with_reducible refine Below.drew ?_ | with_reducible refine below_drewN ?_ _ | with_reducible exact hb1 | with_reducible refine Below.trans ?_ (Below.mono hb1 (by (try simp) <;> omega)))))
  have z1 := L1.out.size
  have kT := (Blk.new w1 56 #[.int .i64 t.id, .int .i64 t.w, .int .i64 t.h, .int .i64 t.d, .int .i64 t.tare, .int .i64 t.gram, .int .i64 t.cost] rfl).cell
  clear hb1
  go_wp2_with fail
  go_region_held3 (fun w' => w'.cell? ⟨w1.heap.size, 1, none⟩ = some (.int .i64 t.w) ∧ w'.cell? ⟨w1.heap.size, 2, none⟩ = some (.int .i64 t.h) ∧ w'.cell? ⟨w1.heap.size, 3, none⟩ = some (.int .i64 t.d) ∧ w'.cell? ⟨w1.heap.size, 5, none⟩ = some (.int .i64 t.gram)) (go_keep) ((go_at_call 48; (with_reducible refine (HVo.out _).mono ?_); rintro e w' ⟨rfl, rfl⟩))
  go_wp2
  go_ret2
  exact ⟨rfl, (by repeat (first | with_reducible exact Below.refl _ _ | with_reducible assumption | with_reducible refine Below.setCell ?_ (by (try simp) <;> omega) _ | with_reducible refine Below.alloc ?_ (by (try simp) <;> omega) _ | with_reducible refine Below.drew ?_ | with_reducible refine below_drewN ?_ _ | with_reducible exact L1.out | with_reducible refine Below.trans ?_ (Below.mono L1.out (by (try simp) <;> omega))))⟩
set_option maxRecDepth 20000 in
set_option maxHeartbeats 2000000 in
theorem lowV_any (r : Rq) (A1 A2 A3 : Option Addr) (n1 n2 n3 c1 c2 c3 : Nat) (lo hi : Nat) (lo2 hi2 : Nat) (A : Option Addr) (n c : Nat) (us : List Int) (w : World) (hr : RqAt w lo hi r A1 n1 c1 A2 n2 c2 A3 n3 c3) (hB : hi ≤ w.heap.size) (hs : SlK 1 encInt w lo2 hi2 A n c us) (hB2 : hi2 ≤ w.heap.size) (hn : n ≤ 1048580) :
    Calls Tryz.prog 15 #[.agg #[.int .i64 r.way, .int .i64 r.pal.w, .int .i64 r.pal.d, .int .i64 r.pal.h, .int .i64 r.pal.gram, .int .i64 r.cls, .slice A1 n1 c1, .slice A2 n2 c2, .int .i64 r.master, .slice A3 n3 c3], .slice A n c] w fun e w' => e = .returned (.int .i64 (lowV r us)) ∧ Below w.heap.size w w' := by
  have HSo := hide (sound_any r A1 A2 A3 n1 n2 n3 c1 c2 c3 lo hi)
  have HR := hide hr
  have HS := hide hs
  have HLU := hide hs.len
  clear hr hs
  by_cases h0 : classN r = 0
  · have HF := hide (show lowV r us = upB (volU r us) (vol (masterTy r).w (masterTy r).h (masterTy r).d) by simp [lowV, h0])
    have hd : decide (classN r = 0) = true := by simp [h0]
    rw [hd] at HSo
    have hv := typeOk_vol (master_ok h0)
    have hg := (typeOk_bd (master_ok h0)).2.2.2.2.1
    have hb := volU_bd r us
    have HMR := hide (masterRoom_any r A1 A2 A3 n1 n2 n3 c1 c2 c3 lo hi)
    have HV := hide (volOf_any r A1 A2 A3 n1 n2 n3 c1 c2 c3 lo hi lo2 hi2 A n c us)
    obtain ⟨M, hM⟩ : ∃ M, vol (masterTy r).w (masterTy r).h (masterTy r).d = M := ⟨_, rfl⟩
    obtain ⟨G, hG⟩ : ∃ G, (masterTy r).gram = G := ⟨_, rfl⟩
    obtain ⟨V, hV⟩ : ∃ V, volU r us = V := ⟨_, rfl⟩
    rw [hM] at hv HMR
    rw [hG] at hg HMR
    rw [hV] at hb HV
    rw [hV, hM] at HF
    rw [HLU.out] at hb
    have HU := hide (upBy_any V M)
    obtain ⟨U, hU⟩ : ∃ U, upB V M = U := ⟨_, rfl⟩
    rw [hU] at HU HF
    have k1 : 0 ≤ V := hb.1
    have k2 : V ≤ 8388648000000000 := by omega
    have k3 : 1 ≤ M := by omega
    have k4 : M ≤ 8000000000 := by omega
    clear hd h0 hM hG hV hU hv hg hb
    go_enter Tryz.func15, Tryz.ntmps15
    go_wp2_with fail
    refine (HSo.out _ (HR.out.below (B := w.heap.size) (by repeat (first | with_reducible exact Below.refl _ _ | with_reducible assumption | with_reducible refine Below.setCell ?_ (by (try simp) <;> omega) _ | with_reducible refine Below.alloc ?_ (by (try simp) <;> omega) _ | with_reducible refine Below.drew ?_ | with_reducible refine below_drewN ?_ _)) hB) (by (try simp) <;> omega)).mono ?_
    rintro e w1 ⟨rfl, hb1⟩
    have L1 := hide (show Below w.heap.size w w1 from (by repeat (first | with_reducible exact Below.refl _ _ | with_reducible assumption | with_reducible refine Below.setCell ?_ (by (try simp) <;> omega) _ | with_reducible refine Below.alloc ?_ (by (try simp) <;> omega) _ | with_reducible refine Below.drew ?_ | with_reducible refine below_drewN ?_ _ | with_reducible exact hb1 | with_reducible refine Below.trans ?_ (Below.mono hb1 (by (try simp) <;> omega)))))
    have P1 := hide (Blk.belowH (Blk.new w 37 (#[.int .i64 r.way, .int .i64 r.pal.w, .int .i64 r.pal.d, .int .i64 r.pal.h, .int .i64 r.pal.gram, .int .i64 r.cls, .slice A1 n1 c1, .slice A2 n2 c2, .int .i64 r.master, .slice A3 n3 c3]) (g := w.heap.size) (by simp)) hb1)
    have z1 : w.heap.size + 1 ≤ w1.heap.size := by simpa using hb1.size
    clear hb1
    have kR := P1.out.cell
    have yR := P1.out.lt
    go_wp2_with fail
    refine (HMR.out _ (HR.out.below L1.out hB) (by (try simp) <;> omega)).mono ?_
    rintro e w2 ⟨rfl, hb2⟩
    have L2 := hide (L1.out.trans (hb2.mono (by omega)))
    have P2 := hide (Blk.belowH P1.out hb2)
    have z2 : w1.heap.size ≤ w2.heap.size := hb2.size
    clear hb2 kR yR P1
    have kR := P2.out.cell
    have yR := P2.out.lt
    go_wp2_with fail
    refine (HV.out _ (HR.out.below L2.out hB) (by (try simp) <;> omega) (HS.out.below L2.out hB2) (by (try simp) <;> omega) hn).mono ?_
    rintro e w3 ⟨rfl, hb3⟩
    have L3 := hide (L2.out.trans (hb3.mono (by omega)))
    clear hb3
    go_wp2_with fail
    refine (HU.out _ k1 k2 k3 k4).mono ?_
    rintro e w' ⟨rfl, rfl⟩
    go_wp2
    go_ret
    exact ⟨ret_int HF.out.symm, (by repeat (first | with_reducible exact Below.refl _ _ | with_reducible assumption | with_reducible refine Below.setCell ?_ (by (try simp) <;> omega) _ | with_reducible refine Below.alloc ?_ (by (try simp) <;> omega) _ | with_reducible refine Below.drew ?_ | with_reducible refine below_drewN ?_ _ | with_reducible exact L3.out | with_reducible refine Below.trans ?_ (Below.mono L3.out (by (try simp) <;> omega))))⟩
  · have HF := hide (show lowV r us = 0 by simp [lowV, h0])
    have hd : decide (classN r = 0) = false := by simp [h0]
    rw [hd] at HSo
    clear hd h0
    go_enter Tryz.func15, Tryz.ntmps15
    go_wp2_with fail
    refine (HSo.out _ (HR.out.below (B := w.heap.size) (by repeat (first | with_reducible exact Below.refl _ _ | with_reducible assumption | with_reducible refine Below.setCell ?_ (by (try simp) <;> omega) _ | with_reducible refine Below.alloc ?_ (by (try simp) <;> omega) _ | with_reducible refine Below.drew ?_ | with_reducible refine below_drewN ?_ _)) hB) (by (try simp) <;> omega)).mono ?_
    rintro e w1 ⟨rfl, hb1⟩
    go_wp2
    go_ret
    exact ⟨ret_int HF.out.symm, (by repeat (first | with_reducible exact Below.refl _ _ | with_reducible assumption | with_reducible refine Below.setCell ?_ (by (try simp) <;> omega) _ | with_reducible refine Below.alloc ?_ (by (try simp) <;> omega) _ | with_reducible refine Below.drew ?_ | with_reducible refine below_drewN ?_ _ | with_reducible exact hb1 | with_reducible refine Below.trans ?_ (Below.mono hb1 (by (try simp) <;> omega))))⟩
set_option maxRecDepth 20000 in
set_option maxHeartbeats 4000000 in
theorem slowV_any (r : Rq) (A1 A2 A3 : Option Addr) (n1 n2 n3 c1 c2 c3 : Nat) (lo hi : Nat) (lo2 hi2 : Nat) (A : Option Addr) (n c : Nat) (us : List Int) (w : World) (hr : RqAt w lo hi r A1 n1 c1 A2 n2 c2 A3 n3 c3) (hB : hi ≤ w.heap.size) (hs : SlK 1 encInt w lo2 hi2 A n c us) (hB2 : hi2 ≤ w.heap.size) (hn : n ≤ 1048580) :
    Calls Tryz.prog 14 #[.agg #[.int .i64 r.way, .int .i64 r.pal.w, .int .i64 r.pal.d, .int .i64 r.pal.h, .int .i64 r.pal.gram, .int .i64 r.cls, .slice A1 n1 c1, .slice A2 n2 c2, .int .i64 r.master, .slice A3 n3 c3], .slice A n c] w fun e w' => e = .returned (.int .i64 (lowV r us)) ∧ Below w.heap.size w w' := by
  have HC := hide (sclass_any r A1 A2 A3 n1 n2 n3 c1 c2 c3 lo hi)
  have HR := hide hr
  have HS := hide hs
  have HLU := hide hs.len
  clear hr hs
  by_cases h0 : classN r = 0
  · have hbd := bounds_items (class0_bounds h0)
    have HOK := hide hbd.1
    have hn8 : n3 ≤ 8 := by have := hbd.2.1; rw [HR.out.it.len] at this; exact this
    have HUR := hide (show unitsR r = unitsL r.items by simp [unitsR, h0])
    have HF := hide (show lowV r us = upB (volU r us) (vol (masterTy r).w (masterTy r).h (masterTy r).d) by simp [lowV, h0])
    rw [h0] at HC
    have hv := typeOk_vol (master_ok h0)
    have hg := (typeOk_bd (master_ok h0)).2.2.2.2.1
    have hb := volU_bd r us
    have HLU6 := hide (sl6units_any r A1 A2 A3 n1 n2 n3 c1 c2 c3 lo hi)
    rw [← HUR.out] at HLU6
    have HMa := hide (smaster_any r A1 A2 A3 n1 n2 n3 c1 c2 c3 lo hi)
    have HV := hide (fun lo1 hi1 A1' m c1' => sl7of_any r A1 A2 A3 n1 n2 n3 c1 c2 c3 lo hi lo1 hi1 A1' m c1' lo2 hi2 A n c us)
    obtain ⟨bo, hbo⟩ : ∃ bo, (findTy r.types r.master).isSome = bo := ⟨_, rfl⟩
    obtain ⟨t, hT⟩ : ∃ T, masterTy r = T := ⟨_, rfl⟩
    have hT' := hT
    change tyD (findTy r.types r.master) = t at hT'
    rw [hT', hbo] at HMa
    rw [hT] at hv hg HF
    have HVo := hide (svol_any t.w t.h t.d)
    obtain ⟨V, hV⟩ : ∃ V, volU r us = V := ⟨_, rfl⟩
    obtain ⟨G, hG⟩ : ∃ G, gramU r us = G := ⟨_, rfl⟩
    rw [hV, hG] at HV
    rw [hV] at HF hb
    rw [HLU.out] at hb
    obtain ⟨M, hM⟩ : ∃ M, vol t.w t.h t.d = M := ⟨_, rfl⟩
    rw [hM] at HVo hv
    rw [hM] at HF
    have HU := hide (supBy_any V M)
    obtain ⟨U, hU⟩ : ∃ U, upB V M = U := ⟨_, rfl⟩
    rw [hU] at HU HF
    have k1 : 0 ≤ V := hb.1
    have k2 : V ≤ 8388648000000000 := by omega
    have k3 : 1 ≤ M := by omega
    have k4 : M ≤ 8000000000 := by omega
    obtain ⟨m, hm⟩ : ∃ m, (unitsR r).length = m := ⟨_, rfl⟩
    have HM := hide hm
    clear h0 hM hG hV hU hv hg hb hT hT' hbo hbd hm
    go_enter Tryz.func14, Tryz.ntmps14
    go_wp2_with fail
    refine (HC.out _ (HR.out.below (B := w.heap.size) (by repeat (first | with_reducible exact Below.refl _ _ | with_reducible assumption | with_reducible refine Below.setCell ?_ (by (try simp) <;> omega) _ | with_reducible refine Below.alloc ?_ (by (try simp) <;> omega) _ | with_reducible refine Below.drew ?_ | with_reducible refine below_drewN ?_ _)) hB) (by (try simp) <;> omega)).mono ?_
    rintro e w1 ⟨rfl, hb1⟩
    have L1 := hide (show Below w.heap.size w w1 from (by repeat (first | with_reducible exact Below.refl _ _ | with_reducible assumption | with_reducible refine Below.setCell ?_ (by (try simp) <;> omega) _ | with_reducible refine Below.alloc ?_ (by (try simp) <;> omega) _ | with_reducible refine Below.drew ?_ | with_reducible refine below_drewN ?_ _ | with_reducible exact hb1 | with_reducible refine Below.trans ?_ (Below.mono hb1 (by (try simp) <;> omega)))))
    have P1 := hide (Blk.belowH (Blk.new w 37 (#[.int .i64 r.way, .int .i64 r.pal.w, .int .i64 r.pal.d, .int .i64 r.pal.h, .int .i64 r.pal.gram, .int .i64 r.cls, .slice A1 n1 c1, .slice A2 n2 c2, .int .i64 r.master, .slice A3 n3 c3]) (g := w.heap.size) (by simp)) hb1)
    have z1 : w.heap.size + 1 ≤ w1.heap.size := by simpa using hb1.size
    clear hb1
    have kR := P1.out.cell
    have yR := P1.out.lt
    go_wp2_with fail
    refine (HMa.out _ (HR.out.below L1.out hB) (by (try simp) <;> omega)).mono ?_
    rintro e w2 ⟨rfl, hb2⟩
    have L2 := hide (L1.out.trans (hb2.mono (by omega)))
    have P2 := hide (Blk.belowH P1.out hb2)
    have z2 : w1.heap.size ≤ w2.heap.size := hb2.size
    clear hb2 kR yR P1
    have kR := P2.out.cell
    have yR := P2.out.lt
    have kT := (Blk.new w2 56 #[.int .i64 t.id, .int .i64 t.w, .int .i64 t.h, .int .i64 t.d, .int .i64 t.tare, .int .i64 t.gram, .int .i64 t.cost] rfl).cell
    have hf0 : ∀ W : World, (Instr.field 61 (.agg #[.int .i64 V, .int .i64 G]) 0).run Tryz.prog W = .ok (.int .i64 V) W := fun _ => by kernel_rfl
    have hf1 : ∀ W : World, (Instr.field 61 (.agg #[.int .i64 V, .int .i64 G]) 1).run Tryz.prog W = .ok (.int .i64 G) W := fun _ => by kernel_rfl
    go_wp2_with fail
    go_region_held3 (fun w' => w'.cell? ⟨w.heap.size, 0, none⟩ = some (.int .i64 r.way) ∧ w'.cell? ⟨w.heap.size, 1, none⟩ = some (.int .i64 r.pal.w) ∧ w'.cell? ⟨w.heap.size, 2, none⟩ = some (.int .i64 r.pal.d) ∧ w'.cell? ⟨w.heap.size, 3, none⟩ = some (.int .i64 r.pal.h) ∧ w'.cell? ⟨w.heap.size, 4, none⟩ = some (.int .i64 r.pal.gram) ∧ w'.cell? ⟨w.heap.size, 5, none⟩ = some (.int .i64 r.cls) ∧ w'.cell? ⟨w.heap.size, 6, none⟩ = some (.slice A1 n1 c1) ∧ w'.cell? ⟨w.heap.size, 7, none⟩ = some (.slice A2 n2 c2) ∧ w'.cell? ⟨w.heap.size, 8, none⟩ = some (.int .i64 r.master) ∧ w'.cell? ⟨w.heap.size, 9, none⟩ = some (.slice A3 n3 c3) ∧ w'.cell? ⟨w2.heap.size, 0, none⟩ = some (.int .i64 t.id) ∧ w'.cell? ⟨w2.heap.size, 1, none⟩ = some (.int .i64 t.w) ∧ w'.cell? ⟨w2.heap.size, 2, none⟩ = some (.int .i64 t.h) ∧ w'.cell? ⟨w2.heap.size, 3, none⟩ = some (.int .i64 t.d) ∧ w'.cell? ⟨w2.heap.size, 4, none⟩ = some (.int .i64 t.tare) ∧ w'.cell? ⟨w2.heap.size, 5, none⟩ = some (.int .i64 t.gram) ∧ w'.cell? ⟨w2.heap.size, 6, none⟩ = some (.int .i64 t.cost)) (go_keep) (first
      | (go_at_call 30; (with_reducible refine (HLU6.out _ ((HR.out.below L2.out hB).alloc (by omega) _).drew (by (try simp) <;> omega) HOK.out hn8).mono ?_); rintro e w3 ⟨v3, rfl, ho3, hb3⟩; obtain ⟨A3', c3', rfl, s3⟩ := Own.slk' encInt_len HM.out ho3; have S3 := hide s3; have L3 := hide (show Below w.heap.size w w3 from (by repeat (first | with_reducible exact Below.refl _ _ | with_reducible assumption | with_reducible refine Below.setCell ?_ (by (try simp) <;> omega) _ | with_reducible refine Below.alloc ?_ (by (try simp) <;> omega) _ | with_reducible refine Below.drew ?_ | with_reducible refine below_drewN ?_ _ | with_reducible exact L2.out | with_reducible exact hb3 | with_reducible refine Below.trans ?_ (Below.mono L2.out (by (try simp) <;> omega)) | with_reducible refine Below.trans ?_ (Below.mono hb3 (by (try simp) <;> omega))))); have P3 := hide (Blk.belowH (P2.out.alloc _).drew hb3); have PT3 := hide (Blk.belowH (Blk.new w2 56 #[.int .i64 t.id, .int .i64 t.w, .int .i64 t.h, .int .i64 t.d, .int .i64 t.tare, .int .i64 t.gram, .int .i64 t.cost] (g := w2.heap.size) rfl).drew hb3); have z3 : w2.heap.size + 1 ≤ w3.heap.size := (by simpa using hb3.size); clear hb3 ho3 s3; have kR3 := P3.out.cell; have yR3 := P3.out.lt; have kT3 := PT3.out.cell; have yT3 := PT3.out.lt)
      | (go_at_call 29; (with_reducible refine (HV.out _ _ _ _ _ _ (HR.out.below L3.out hB) (by (try simp) <;> omega) S3.out (Nat.le_refl _) (HS.out.below L3.out hB2) (by (try simp) <;> omega) hn).mono ?_); rintro e w4 ⟨rfl, hb4⟩; have L4 := hide (show Below w.heap.size w w4 from (by repeat (first | with_reducible exact Below.refl _ _ | with_reducible assumption | with_reducible refine Below.setCell ?_ (by (try simp) <;> omega) _ | with_reducible refine Below.alloc ?_ (by (try simp) <;> omega) _ | with_reducible refine Below.drew ?_ | with_reducible refine below_drewN ?_ _ | with_reducible exact L3.out | with_reducible exact hb4 | with_reducible refine Below.trans ?_ (Below.mono L3.out (by (try simp) <;> omega)) | with_reducible refine Below.trans ?_ (Below.mono hb4 (by (try simp) <;> omega))))); have P4 := hide (Blk.belowH P3.out hb4); have PT4 := hide (Blk.belowH PT3.out hb4); clear hb4; have kR4 := P4.out.cell; have kT4 := PT4.out.cell)
      | (go_at_call 43; (with_reducible refine (HVo.out _).mono ?_); rintro e w' ⟨rfl, rfl⟩)
      | (go_at_call 28; (with_reducible refine (HU.out _ k1 k2 k3 k4).mono ?_); rintro e w' ⟨rfl, rfl⟩))
    go_wp2
    go_ret
    exact ⟨ret_int HF.out.symm, (by repeat (first | with_reducible exact Below.refl _ _ | with_reducible assumption | with_reducible refine Below.setCell ?_ (by (try simp) <;> omega) _ | with_reducible refine Below.alloc ?_ (by (try simp) <;> omega) _ | with_reducible refine Below.drew ?_ | with_reducible refine below_drewN ?_ _ | with_reducible exact L4.out | with_reducible refine Below.trans ?_ (Below.mono L4.out (by (try simp) <;> omega))))⟩
  · have HF := hide (show lowV r us = 0 by simp [lowV, h0])
    obtain ⟨q, hq⟩ : ∃ q, classN r = q := ⟨_, rfl⟩
    rw [hq] at HC h0
    clear hq
    have hd : (q == 0) = false := by simpa using h0
    go_enter Tryz.func14, Tryz.ntmps14
    go_wp2_with fail
    refine (HC.out _ (HR.out.below (B := w.heap.size) (by repeat (first | with_reducible exact Below.refl _ _ | with_reducible assumption | with_reducible refine Below.setCell ?_ (by (try simp) <;> omega) _ | with_reducible refine Below.alloc ?_ (by (try simp) <;> omega) _ | with_reducible refine Below.drew ?_ | with_reducible refine below_drewN ?_ _)) hB) (by (try simp) <;> omega)).mono ?_
    rintro e w1 ⟨rfl, hb1⟩
    go_wp2
    go_ret
    exact ⟨ret_int HF.out.symm, (by repeat (first | with_reducible exact Below.refl _ _ | with_reducible assumption | with_reducible refine Below.setCell ?_ (by (try simp) <;> omega) _ | with_reducible refine Below.alloc ?_ (by (try simp) <;> omega) _ | with_reducible refine Below.drew ?_ | with_reducible refine below_drewN ?_ _ | with_reducible exact hb1 | with_reducible refine Below.trans ?_ (Below.mono hb1 (by (try simp) <;> omega))))⟩
set_option maxRecDepth 20000 in
set_option maxHeartbeats 2000000 in
theorem lowG_any (r : Rq) (A1 A2 A3 : Option Addr) (n1 n2 n3 c1 c2 c3 : Nat) (lo hi : Nat) (lo2 hi2 : Nat) (A : Option Addr) (n c : Nat) (us : List Int) (w : World) (hr : RqAt w lo hi r A1 n1 c1 A2 n2 c2 A3 n3 c3) (hB : hi ≤ w.heap.size) (hs : SlK 1 encInt w lo2 hi2 A n c us) (hB2 : hi2 ≤ w.heap.size) (hn : n ≤ 1048580) :
    Calls Tryz.prog 11 #[.agg #[.int .i64 r.way, .int .i64 r.pal.w, .int .i64 r.pal.d, .int .i64 r.pal.h, .int .i64 r.pal.gram, .int .i64 r.cls, .slice A1 n1 c1, .slice A2 n2 c2, .int .i64 r.master, .slice A3 n3 c3], .slice A n c] w fun e w' => e = .returned (.int .i64 (lowG r us)) ∧ Below w.heap.size w w' := by
  have HSo := hide (sound_any r A1 A2 A3 n1 n2 n3 c1 c2 c3 lo hi)
  have HR := hide hr
  have HS := hide hs
  have HLU := hide hs.len
  clear hr hs
  by_cases h0 : classN r = 0
  · have HF := hide (show lowG r us = upB (gramU r us) (masterTy r).gram by simp [lowG, h0])
    have hd : decide (classN r = 0) = true := by simp [h0]
    rw [hd] at HSo
    have hv := typeOk_vol (master_ok h0)
    have hg := (typeOk_bd (master_ok h0)).2.2.2.2.1
    have hb := gramU_bd r us
    have HMR := hide (masterRoom_any r A1 A2 A3 n1 n2 n3 c1 c2 c3 lo hi)
    have HV := hide (gramOf_any r A1 A2 A3 n1 n2 n3 c1 c2 c3 lo hi lo2 hi2 A n c us)
    obtain ⟨M, hM⟩ : ∃ M, vol (masterTy r).w (masterTy r).h (masterTy r).d = M := ⟨_, rfl⟩
    obtain ⟨G, hG⟩ : ∃ G, (masterTy r).gram = G := ⟨_, rfl⟩
    obtain ⟨V, hV⟩ : ∃ V, gramU r us = V := ⟨_, rfl⟩
    rw [hM] at hv HMR
    rw [hG] at hg HMR
    rw [hV] at hb HV
    rw [hV, hG] at HF
    rw [HLU.out] at hb
    have HU := hide (upBy_any V G)
    obtain ⟨U, hU⟩ : ∃ U, upB V G = U := ⟨_, rfl⟩
    rw [hU] at HU HF
    have k1 : 0 ≤ V := hb.1
    have k2 : V ≤ 8388648000000000 := by omega
    have k3 : 1 ≤ G := by omega
    have k4 : G ≤ 8000000000 := by omega
    clear hd h0 hM hG hV hU hv hg hb
    go_enter Tryz.func11, Tryz.ntmps11
    go_wp2_with fail
    refine (HSo.out _ (HR.out.below (B := w.heap.size) (by repeat (first | with_reducible exact Below.refl _ _ | with_reducible assumption | with_reducible refine Below.setCell ?_ (by (try simp) <;> omega) _ | with_reducible refine Below.alloc ?_ (by (try simp) <;> omega) _ | with_reducible refine Below.drew ?_ | with_reducible refine below_drewN ?_ _)) hB) (by (try simp) <;> omega)).mono ?_
    rintro e w1 ⟨rfl, hb1⟩
    have L1 := hide (show Below w.heap.size w w1 from (by repeat (first | with_reducible exact Below.refl _ _ | with_reducible assumption | with_reducible refine Below.setCell ?_ (by (try simp) <;> omega) _ | with_reducible refine Below.alloc ?_ (by (try simp) <;> omega) _ | with_reducible refine Below.drew ?_ | with_reducible refine below_drewN ?_ _ | with_reducible exact hb1 | with_reducible refine Below.trans ?_ (Below.mono hb1 (by (try simp) <;> omega)))))
    have P1 := hide (Blk.belowH (Blk.new w 37 (#[.int .i64 r.way, .int .i64 r.pal.w, .int .i64 r.pal.d, .int .i64 r.pal.h, .int .i64 r.pal.gram, .int .i64 r.cls, .slice A1 n1 c1, .slice A2 n2 c2, .int .i64 r.master, .slice A3 n3 c3]) (g := w.heap.size) (by simp)) hb1)
    have z1 : w.heap.size + 1 ≤ w1.heap.size := by simpa using hb1.size
    clear hb1
    have kR := P1.out.cell
    have yR := P1.out.lt
    go_wp2_with fail
    refine (HMR.out _ (HR.out.below L1.out hB) (by (try simp) <;> omega)).mono ?_
    rintro e w2 ⟨rfl, hb2⟩
    have L2 := hide (L1.out.trans (hb2.mono (by omega)))
    have P2 := hide (Blk.belowH P1.out hb2)
    have z2 : w1.heap.size ≤ w2.heap.size := hb2.size
    clear hb2 kR yR P1
    have kR := P2.out.cell
    have yR := P2.out.lt
    go_wp2_with fail
    refine (HV.out _ (HR.out.below L2.out hB) (by (try simp) <;> omega) (HS.out.below L2.out hB2) (by (try simp) <;> omega) hn).mono ?_
    rintro e w3 ⟨rfl, hb3⟩
    have L3 := hide (L2.out.trans (hb3.mono (by omega)))
    clear hb3
    go_wp2_with fail
    refine (HU.out _ k1 k2 k3 k4).mono ?_
    rintro e w' ⟨rfl, rfl⟩
    go_wp2
    go_ret
    exact ⟨ret_int HF.out.symm, (by repeat (first | with_reducible exact Below.refl _ _ | with_reducible assumption | with_reducible refine Below.setCell ?_ (by (try simp) <;> omega) _ | with_reducible refine Below.alloc ?_ (by (try simp) <;> omega) _ | with_reducible refine Below.drew ?_ | with_reducible refine below_drewN ?_ _ | with_reducible exact L3.out | with_reducible refine Below.trans ?_ (Below.mono L3.out (by (try simp) <;> omega))))⟩
  · have HF := hide (show lowG r us = 0 by simp [lowG, h0])
    have hd : decide (classN r = 0) = false := by simp [h0]
    rw [hd] at HSo
    clear hd h0
    go_enter Tryz.func11, Tryz.ntmps11
    go_wp2_with fail
    refine (HSo.out _ (HR.out.below (B := w.heap.size) (by repeat (first | with_reducible exact Below.refl _ _ | with_reducible assumption | with_reducible refine Below.setCell ?_ (by (try simp) <;> omega) _ | with_reducible refine Below.alloc ?_ (by (try simp) <;> omega) _ | with_reducible refine Below.drew ?_ | with_reducible refine below_drewN ?_ _)) hB) (by (try simp) <;> omega)).mono ?_
    rintro e w1 ⟨rfl, hb1⟩
    go_wp2
    go_ret
    exact ⟨ret_int HF.out.symm, (by repeat (first | with_reducible exact Below.refl _ _ | with_reducible assumption | with_reducible refine Below.setCell ?_ (by (try simp) <;> omega) _ | with_reducible refine Below.alloc ?_ (by (try simp) <;> omega) _ | with_reducible refine Below.drew ?_ | with_reducible refine below_drewN ?_ _ | with_reducible exact hb1 | with_reducible refine Below.trans ?_ (Below.mono hb1 (by (try simp) <;> omega))))⟩
set_option maxRecDepth 20000 in
set_option maxHeartbeats 4000000 in
theorem slowG_any (r : Rq) (A1 A2 A3 : Option Addr) (n1 n2 n3 c1 c2 c3 : Nat) (lo hi : Nat) (lo2 hi2 : Nat) (A : Option Addr) (n c : Nat) (us : List Int) (w : World) (hr : RqAt w lo hi r A1 n1 c1 A2 n2 c2 A3 n3 c3) (hB : hi ≤ w.heap.size) (hs : SlK 1 encInt w lo2 hi2 A n c us) (hB2 : hi2 ≤ w.heap.size) (hn : n ≤ 1048580) :
    Calls Tryz.prog 8 #[.agg #[.int .i64 r.way, .int .i64 r.pal.w, .int .i64 r.pal.d, .int .i64 r.pal.h, .int .i64 r.pal.gram, .int .i64 r.cls, .slice A1 n1 c1, .slice A2 n2 c2, .int .i64 r.master, .slice A3 n3 c3], .slice A n c] w fun e w' => e = .returned (.int .i64 (lowG r us)) ∧ Below w.heap.size w w' := by
  have HC := hide (sclass_any r A1 A2 A3 n1 n2 n3 c1 c2 c3 lo hi)
  have HR := hide hr
  have HS := hide hs
  have HLU := hide hs.len
  clear hr hs
  by_cases h0 : classN r = 0
  · have hbd := bounds_items (class0_bounds h0)
    have HOK := hide hbd.1
    have hn8 : n3 ≤ 8 := by have := hbd.2.1; rw [HR.out.it.len] at this; exact this
    have HUR := hide (show unitsR r = unitsL r.items by simp [unitsR, h0])
    have HF := hide (show lowG r us = upB (gramU r us) (masterTy r).gram by simp [lowG, h0])
    rw [h0] at HC
    have hv := typeOk_vol (master_ok h0)
    have hg := (typeOk_bd (master_ok h0)).2.2.2.2.1
    have hb := gramU_bd r us
    have HLU6 := hide (sl6units_any r A1 A2 A3 n1 n2 n3 c1 c2 c3 lo hi)
    rw [← HUR.out] at HLU6
    have HMa := hide (smaster_any r A1 A2 A3 n1 n2 n3 c1 c2 c3 lo hi)
    have HV := hide (fun lo1 hi1 A1' m c1' => sl7of_any r A1 A2 A3 n1 n2 n3 c1 c2 c3 lo hi lo1 hi1 A1' m c1' lo2 hi2 A n c us)
    obtain ⟨bo, hbo⟩ : ∃ bo, (findTy r.types r.master).isSome = bo := ⟨_, rfl⟩
    obtain ⟨t, hT⟩ : ∃ T, masterTy r = T := ⟨_, rfl⟩
    have hT' := hT
    change tyD (findTy r.types r.master) = t at hT'
    rw [hT', hbo] at HMa
    rw [hT] at hv hg HF
    have HVo := hide (svol_any t.w t.h t.d)
    obtain ⟨V, hV⟩ : ∃ V, volU r us = V := ⟨_, rfl⟩
    obtain ⟨G, hG⟩ : ∃ G, gramU r us = G := ⟨_, rfl⟩
    rw [hV, hG] at HV
    rw [hG] at HF hb
    rw [HLU.out] at hb
    obtain ⟨M, hM⟩ : ∃ M, vol t.w t.h t.d = M := ⟨_, rfl⟩
    rw [hM] at HVo hv
    skip
    have HU := hide (supBy_any G t.gram)
    obtain ⟨U, hU⟩ : ∃ U, upB G t.gram = U := ⟨_, rfl⟩
    rw [hU] at HU HF
    have k1 : 0 ≤ G := hb.1
    have k2 : G ≤ 8388648000000000 := by omega
    have k3 : 1 ≤ t.gram := by omega
    have k4 : t.gram ≤ 8000000000 := by omega
    obtain ⟨m, hm⟩ : ∃ m, (unitsR r).length = m := ⟨_, rfl⟩
    have HM := hide hm
    clear h0 hM hG hV hU hv hg hb hT hT' hbo hbd hm
    go_enter Tryz.func8, Tryz.ntmps8
    go_wp2_with fail
    refine (HC.out _ (HR.out.below (B := w.heap.size) (by repeat (first | with_reducible exact Below.refl _ _ | with_reducible assumption | with_reducible refine Below.setCell ?_ (by (try simp) <;> omega) _ | with_reducible refine Below.alloc ?_ (by (try simp) <;> omega) _ | with_reducible refine Below.drew ?_ | with_reducible refine below_drewN ?_ _)) hB) (by (try simp) <;> omega)).mono ?_
    rintro e w1 ⟨rfl, hb1⟩
    have L1 := hide (show Below w.heap.size w w1 from (by repeat (first | with_reducible exact Below.refl _ _ | with_reducible assumption | with_reducible refine Below.setCell ?_ (by (try simp) <;> omega) _ | with_reducible refine Below.alloc ?_ (by (try simp) <;> omega) _ | with_reducible refine Below.drew ?_ | with_reducible refine below_drewN ?_ _ | with_reducible exact hb1 | with_reducible refine Below.trans ?_ (Below.mono hb1 (by (try simp) <;> omega)))))
    have P1 := hide (Blk.belowH (Blk.new w 37 (#[.int .i64 r.way, .int .i64 r.pal.w, .int .i64 r.pal.d, .int .i64 r.pal.h, .int .i64 r.pal.gram, .int .i64 r.cls, .slice A1 n1 c1, .slice A2 n2 c2, .int .i64 r.master, .slice A3 n3 c3]) (g := w.heap.size) (by simp)) hb1)
    have z1 : w.heap.size + 1 ≤ w1.heap.size := by simpa using hb1.size
    clear hb1
    have kR := P1.out.cell
    have yR := P1.out.lt
    go_wp2_with fail
    refine (HMa.out _ (HR.out.below L1.out hB) (by (try simp) <;> omega)).mono ?_
    rintro e w2 ⟨rfl, hb2⟩
    have L2 := hide (L1.out.trans (hb2.mono (by omega)))
    have P2 := hide (Blk.belowH P1.out hb2)
    have z2 : w1.heap.size ≤ w2.heap.size := hb2.size
    clear hb2 kR yR P1
    have kR := P2.out.cell
    have yR := P2.out.lt
    have kT := (Blk.new w2 56 #[.int .i64 t.id, .int .i64 t.w, .int .i64 t.h, .int .i64 t.d, .int .i64 t.tare, .int .i64 t.gram, .int .i64 t.cost] rfl).cell
    have hf0 : ∀ W : World, (Instr.field 61 (.agg #[.int .i64 V, .int .i64 G]) 0).run Tryz.prog W = .ok (.int .i64 V) W := fun _ => by kernel_rfl
    have hf1 : ∀ W : World, (Instr.field 61 (.agg #[.int .i64 V, .int .i64 G]) 1).run Tryz.prog W = .ok (.int .i64 G) W := fun _ => by kernel_rfl
    go_wp2_with fail
    go_region_held3 (fun w' => w'.cell? ⟨w.heap.size, 0, none⟩ = some (.int .i64 r.way) ∧ w'.cell? ⟨w.heap.size, 1, none⟩ = some (.int .i64 r.pal.w) ∧ w'.cell? ⟨w.heap.size, 2, none⟩ = some (.int .i64 r.pal.d) ∧ w'.cell? ⟨w.heap.size, 3, none⟩ = some (.int .i64 r.pal.h) ∧ w'.cell? ⟨w.heap.size, 4, none⟩ = some (.int .i64 r.pal.gram) ∧ w'.cell? ⟨w.heap.size, 5, none⟩ = some (.int .i64 r.cls) ∧ w'.cell? ⟨w.heap.size, 6, none⟩ = some (.slice A1 n1 c1) ∧ w'.cell? ⟨w.heap.size, 7, none⟩ = some (.slice A2 n2 c2) ∧ w'.cell? ⟨w.heap.size, 8, none⟩ = some (.int .i64 r.master) ∧ w'.cell? ⟨w.heap.size, 9, none⟩ = some (.slice A3 n3 c3) ∧ w'.cell? ⟨w2.heap.size, 0, none⟩ = some (.int .i64 t.id) ∧ w'.cell? ⟨w2.heap.size, 1, none⟩ = some (.int .i64 t.w) ∧ w'.cell? ⟨w2.heap.size, 2, none⟩ = some (.int .i64 t.h) ∧ w'.cell? ⟨w2.heap.size, 3, none⟩ = some (.int .i64 t.d) ∧ w'.cell? ⟨w2.heap.size, 4, none⟩ = some (.int .i64 t.tare) ∧ w'.cell? ⟨w2.heap.size, 5, none⟩ = some (.int .i64 t.gram) ∧ w'.cell? ⟨w2.heap.size, 6, none⟩ = some (.int .i64 t.cost)) (go_keep) (first
      | (go_at_call 30; (with_reducible refine (HLU6.out _ ((HR.out.below L2.out hB).alloc (by omega) _).drew (by (try simp) <;> omega) HOK.out hn8).mono ?_); rintro e w3 ⟨v3, rfl, ho3, hb3⟩; obtain ⟨A3', c3', rfl, s3⟩ := Own.slk' encInt_len HM.out ho3; have S3 := hide s3; have L3 := hide (show Below w.heap.size w w3 from (by repeat (first | with_reducible exact Below.refl _ _ | with_reducible assumption | with_reducible refine Below.setCell ?_ (by (try simp) <;> omega) _ | with_reducible refine Below.alloc ?_ (by (try simp) <;> omega) _ | with_reducible refine Below.drew ?_ | with_reducible refine below_drewN ?_ _ | with_reducible exact L2.out | with_reducible exact hb3 | with_reducible refine Below.trans ?_ (Below.mono L2.out (by (try simp) <;> omega)) | with_reducible refine Below.trans ?_ (Below.mono hb3 (by (try simp) <;> omega))))); have P3 := hide (Blk.belowH (P2.out.alloc _).drew hb3); have PT3 := hide (Blk.belowH (Blk.new w2 56 #[.int .i64 t.id, .int .i64 t.w, .int .i64 t.h, .int .i64 t.d, .int .i64 t.tare, .int .i64 t.gram, .int .i64 t.cost] (g := w2.heap.size) rfl).drew hb3); have z3 : w2.heap.size + 1 ≤ w3.heap.size := (by simpa using hb3.size); clear hb3 ho3 s3; have kR3 := P3.out.cell; have yR3 := P3.out.lt; have kT3 := PT3.out.cell; have yT3 := PT3.out.lt)
      | (go_at_call 29; (with_reducible refine (HV.out _ _ _ _ _ _ (HR.out.below L3.out hB) (by (try simp) <;> omega) S3.out (Nat.le_refl _) (HS.out.below L3.out hB2) (by (try simp) <;> omega) hn).mono ?_); rintro e w4 ⟨rfl, hb4⟩; have L4 := hide (show Below w.heap.size w w4 from (by repeat (first | with_reducible exact Below.refl _ _ | with_reducible assumption | with_reducible refine Below.setCell ?_ (by (try simp) <;> omega) _ | with_reducible refine Below.alloc ?_ (by (try simp) <;> omega) _ | with_reducible refine Below.drew ?_ | with_reducible refine below_drewN ?_ _ | with_reducible exact L3.out | with_reducible exact hb4 | with_reducible refine Below.trans ?_ (Below.mono L3.out (by (try simp) <;> omega)) | with_reducible refine Below.trans ?_ (Below.mono hb4 (by (try simp) <;> omega))))); have P4 := hide (Blk.belowH P3.out hb4); have PT4 := hide (Blk.belowH PT3.out hb4); clear hb4; have kR4 := P4.out.cell; have kT4 := PT4.out.cell)
      | (go_at_call 43; (with_reducible refine (HVo.out _).mono ?_); rintro e w' ⟨rfl, rfl⟩)
      | (go_at_call 28; (with_reducible refine (HU.out _ k1 k2 k3 k4).mono ?_); rintro e w' ⟨rfl, rfl⟩))
    go_wp2
    go_ret
    exact ⟨ret_int HF.out.symm, (by repeat (first | with_reducible exact Below.refl _ _ | with_reducible assumption | with_reducible refine Below.setCell ?_ (by (try simp) <;> omega) _ | with_reducible refine Below.alloc ?_ (by (try simp) <;> omega) _ | with_reducible refine Below.drew ?_ | with_reducible refine below_drewN ?_ _ | with_reducible exact L4.out | with_reducible refine Below.trans ?_ (Below.mono L4.out (by (try simp) <;> omega))))⟩
  · have HF := hide (show lowG r us = 0 by simp [lowG, h0])
    obtain ⟨q, hq⟩ : ∃ q, classN r = q := ⟨_, rfl⟩
    rw [hq] at HC h0
    clear hq
    have hd : (q == 0) = false := by simpa using h0
    go_enter Tryz.func8, Tryz.ntmps8
    go_wp2_with fail
    refine (HC.out _ (HR.out.below (B := w.heap.size) (by repeat (first | with_reducible exact Below.refl _ _ | with_reducible assumption | with_reducible refine Below.setCell ?_ (by (try simp) <;> omega) _ | with_reducible refine Below.alloc ?_ (by (try simp) <;> omega) _ | with_reducible refine Below.drew ?_ | with_reducible refine below_drewN ?_ _)) hB) (by (try simp) <;> omega)).mono ?_
    rintro e w1 ⟨rfl, hb1⟩
    go_wp2
    go_ret
    exact ⟨ret_int HF.out.symm, (by repeat (first | with_reducible exact Below.refl _ _ | with_reducible assumption | with_reducible refine Below.setCell ?_ (by (try simp) <;> omega) _ | with_reducible refine Below.alloc ?_ (by (try simp) <;> omega) _ | with_reducible refine Below.drew ?_ | with_reducible refine below_drewN ?_ _ | with_reducible exact hb1 | with_reducible refine Below.trans ?_ (Below.mono hb1 (by (try simp) <;> omega))))⟩
end Go.Proofs.YtbbcmldhdebolaaGreat
