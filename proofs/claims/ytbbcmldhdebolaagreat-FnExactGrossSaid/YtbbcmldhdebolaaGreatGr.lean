/- Gross of both. -/
import Derived.Test.YtbbcmldhdebolaaGreatLo
import Derived.Test.YtbbcmldhdebolaaGreatUn5
import Derived.Test.YtbbcmldhdebolaaGreatCt
namespace Go.Proofs.YtbbcmldhdebolaaGreat
open Go.ChangeShapes Go.WideShapes Go.ChangeAt Go.RowKit Go.Deep
set_option linter.unusedVariables false
set_option linter.unusedSimpArgs false

def grossV (r : Rq) (x : Ct) : Int := if classN r = 0 ∧ (findTy r.types x.ty).isSome = true then (tyD (findTy r.types x.ty)).tare + gramU r x.us else 0
theorem tare_bd {r : Rq} {id : Int} (h : classN r = 0) (hs : (findTy r.types id).isSome = true) : 0 ≤ (tyD (findTy r.types id)).tare ∧ (tyD (findTy r.types id)).tare ≤ 100000 := by
  obtain ⟨t, ht⟩ := Option.isSome_iff_exists.1 hs
  rw [ht]
  exact (typeOk_bd (bounds_types (class0_bounds h) t (findTy_mem ht))).2.2.2.1
set_option maxRecDepth 20000 in
set_option maxHeartbeats 4000000 in
theorem gross_any (r : Rq) (A1 A2 A3 : Option Addr) (n1 n2 n3 c1 c2 c3 : Nat) (lo hi : Nat) (x : Ct) (lo2 hi2 : Nat) (A : Option Addr) (n c : Nat) (w : World) (hr : RqAt w lo hi r A1 n1 c1 A2 n2 c2 A3 n3 c3) (hB : hi ≤ w.heap.size) (hs : SlK 1 encInt w lo2 hi2 A n c x.us) (hB2 : hi2 ≤ w.heap.size) (hn : n ≤ 1048580) :
    Calls Tryz.prog 21 #[.agg #[.int .i64 r.way, .int .i64 r.pal.w, .int .i64 r.pal.d, .int .i64 r.pal.h, .int .i64 r.pal.gram, .int .i64 r.cls, .slice A1 n1 c1, .slice A2 n2 c2, .int .i64 r.master, .slice A3 n3 c3], .agg #[.int .i64 x.ty, .int .i64 x.gr, .slice A n c]] w fun e w' => e = .returned (.int .i64 (grossV r x)) ∧ Below w.heap.size w w' := by
  have HC := hide (sound_any r A1 A2 A3 n1 n2 n3 c1 c2 c3 lo hi)
  have HT := hide (tyById_any r A1 A2 A3 n1 n2 n3 c1 c2 c3 lo hi x.ty)
  have HG := hide (gramOf_any r A1 A2 A3 n1 n2 n3 c1 c2 c3 lo hi lo2 hi2 A n c x.us)
  have HGb := hide (gramU_bd r x.us)
  have HLU := hide hs.len
  have HR := hide hr
  have HS := hide hs
  clear hr hs
  obtain ⟨bo, hbo⟩ : ∃ bo, (findTy r.types x.ty).isSome = bo := ⟨_, rfl⟩
  obtain ⟨t, ht⟩ : ∃ t, tyD (findTy r.types x.ty) = t := ⟨_, rfl⟩
  obtain ⟨G, hG⟩ : ∃ G, gramU r x.us = G := ⟨_, rfl⟩
  rw [ht, hbo] at HT
  rw [hG] at HG HGb
  have hg1 : 0 ≤ G := HGb.out.1
  have hg2 : G ≤ 104858000000 := by have := HGb.out.2; rw [HLU.out] at this; omega
  have hz : w.heap.size ≠ w.heap.size + 1 := by omega
  cases bo
  · have HF := hide (show grossV r x = 0 by simp [grossV, hbo])
    clear hbo ht hG
    go_enter Tryz.func21, Tryz.ntmps21
    go_wp2_with fail
    refine (HT.out _ (HR.out.below (B := w.heap.size) (by repeat (first | with_reducible exact Below.refl _ _ | with_reducible assumption | with_reducible refine Below.setCell ?_ (by (try simp) <;> omega) _ | with_reducible refine Below.alloc ?_ (by (try simp) <;> omega) _ | with_reducible refine Below.drew ?_ | with_reducible refine below_drewN ?_ _)) hB) (by (try simp) <;> omega)).mono ?_
    rintro e w1 ⟨rfl, hb1⟩
    have L1 := hide (show Below w.heap.size w w1 from (by repeat (first | with_reducible exact Below.refl _ _ | with_reducible assumption | with_reducible refine Below.setCell ?_ (by (try simp) <;> omega) _ | with_reducible refine Below.alloc ?_ (by (try simp) <;> omega) _ | with_reducible refine Below.drew ?_ | with_reducible refine below_drewN ?_ _ | with_reducible exact hb1 | with_reducible refine Below.trans ?_ (Below.mono hb1 (by (try simp) <;> omega)))))
    have PR1 := hide (Blk.belowH ((Blk.new w 37 (#[.int .i64 r.way, .int .i64 r.pal.w, .int .i64 r.pal.d, .int .i64 r.pal.h, .int .i64 r.pal.gram, .int .i64 r.cls, .slice A1 n1 c1, .slice A2 n2 c2, .int .i64 r.master, .slice A3 n3 c3]) (g := w.heap.size) (by simp)).alloc _) hb1)
    have PX1 := hide (Blk.belowH (Blk.new (w.alloc _) 47 #[.int .i64 x.ty, .int .i64 x.gr, .slice A n c] (g := w.heap.size + 1) (by simp)) hb1)
    have z1 : w.heap.size + 1 + 1 ≤ w1.heap.size := (by simpa using hb1.size)
    clear hb1
    have kR := PR1.out.cell
    have yR := PR1.out.lt
    have kX := PX1.out.cell
    have yX := PX1.out.lt
    have kT := (Blk.new w1 56 #[.int .i64 t.id, .int .i64 t.w, .int .i64 t.h, .int .i64 t.d, .int .i64 t.tare, .int .i64 t.gram, .int .i64 t.cost] rfl).cell
    go_wp2
    go_ret
    exact ⟨ret_int HF.out.symm, (by repeat (first | with_reducible exact Below.refl _ _ | with_reducible assumption | with_reducible refine Below.setCell ?_ (by (try simp) <;> omega) _ | with_reducible refine Below.alloc ?_ (by (try simp) <;> omega) _ | with_reducible refine Below.drew ?_ | with_reducible refine below_drewN ?_ _ | with_reducible exact L1.out | with_reducible refine Below.trans ?_ (Below.mono L1.out (by (try simp) <;> omega))))⟩
  by_cases h0 : classN r = 0
  case neg =>
    have HF := hide (show grossV r x = 0 by simp [grossV, h0])
    have hd : decide (classN r = 0) = false := by simp [h0]
    rw [hd] at HC
    clear hbo ht hG hd h0
    go_enter Tryz.func21, Tryz.ntmps21
    go_wp2_with fail
    refine (HT.out _ (HR.out.below (B := w.heap.size) (by repeat (first | with_reducible exact Below.refl _ _ | with_reducible assumption | with_reducible refine Below.setCell ?_ (by (try simp) <;> omega) _ | with_reducible refine Below.alloc ?_ (by (try simp) <;> omega) _ | with_reducible refine Below.drew ?_ | with_reducible refine below_drewN ?_ _)) hB) (by (try simp) <;> omega)).mono ?_
    rintro e w1 ⟨rfl, hb1⟩
    have L1 := hide (show Below w.heap.size w w1 from (by repeat (first | with_reducible exact Below.refl _ _ | with_reducible assumption | with_reducible refine Below.setCell ?_ (by (try simp) <;> omega) _ | with_reducible refine Below.alloc ?_ (by (try simp) <;> omega) _ | with_reducible refine Below.drew ?_ | with_reducible refine below_drewN ?_ _ | with_reducible exact hb1 | with_reducible refine Below.trans ?_ (Below.mono hb1 (by (try simp) <;> omega)))))
    have PR1 := hide (Blk.belowH ((Blk.new w 37 (#[.int .i64 r.way, .int .i64 r.pal.w, .int .i64 r.pal.d, .int .i64 r.pal.h, .int .i64 r.pal.gram, .int .i64 r.cls, .slice A1 n1 c1, .slice A2 n2 c2, .int .i64 r.master, .slice A3 n3 c3]) (g := w.heap.size) (by simp)).alloc _) hb1)
    have PX1 := hide (Blk.belowH (Blk.new (w.alloc _) 47 #[.int .i64 x.ty, .int .i64 x.gr, .slice A n c] (g := w.heap.size + 1) (by simp)) hb1)
    have z1 : w.heap.size + 1 + 1 ≤ w1.heap.size := (by simpa using hb1.size)
    clear hb1
    have kR := PR1.out.cell
    have yR := PR1.out.lt
    have kX := PX1.out.cell
    have yX := PX1.out.lt
    have kT := (Blk.new w1 56 #[.int .i64 t.id, .int .i64 t.w, .int .i64 t.h, .int .i64 t.d, .int .i64 t.tare, .int .i64 t.gram, .int .i64 t.cost] rfl).cell
    go_wp2_with fail
    refine (HC.out _ ((HR.out.below L1.out hB).alloc (by omega) _) (by (try simp) <;> omega)).mono ?_
    rintro e w2 ⟨rfl, hb2⟩
    have L2 := hide (show Below w.heap.size w w2 from (by repeat (first | with_reducible exact Below.refl _ _ | with_reducible assumption | with_reducible refine Below.setCell ?_ (by (try simp) <;> omega) _ | with_reducible refine Below.alloc ?_ (by (try simp) <;> omega) _ | with_reducible refine Below.drew ?_ | with_reducible refine below_drewN ?_ _ | with_reducible exact L1.out | with_reducible exact hb2 | with_reducible refine Below.trans ?_ (Below.mono L1.out (by (try simp) <;> omega)) | with_reducible refine Below.trans ?_ (Below.mono hb2 (by (try simp) <;> omega)))))
    have PR2 := hide (Blk.belowH (PR1.out.alloc _) hb2)
    have PX2 := hide (Blk.belowH (PX1.out.alloc _) hb2)
    have PT2 := hide (Blk.belowH (Blk.new w1 56 #[.int .i64 t.id, .int .i64 t.w, .int .i64 t.h, .int .i64 t.d, .int .i64 t.tare, .int .i64 t.gram, .int .i64 t.cost] (g := w1.heap.size) rfl) hb2)
    have z2 : w1.heap.size + 1 ≤ w2.heap.size := (by simpa using hb2.size)
    clear hb2 kR yR kX yX kT PR1 PX1
    have kR := PR2.out.cell
    have yR := PR2.out.lt
    have kX := PX2.out.cell
    have yX := PX2.out.lt
    have kT := PT2.out.cell
    have yT := PT2.out.lt
    go_wp2
    go_ret
    exact ⟨ret_int HF.out.symm, (by repeat (first | with_reducible exact Below.refl _ _ | with_reducible assumption | with_reducible refine Below.setCell ?_ (by (try simp) <;> omega) _ | with_reducible refine Below.alloc ?_ (by (try simp) <;> omega) _ | with_reducible refine Below.drew ?_ | with_reducible refine below_drewN ?_ _ | with_reducible exact L2.out | with_reducible refine Below.trans ?_ (Below.mono L2.out (by (try simp) <;> omega))))⟩
  have hb := tare_bd h0 hbo
  have HF := hide (show grossV r x = t.tare + G by simp [grossV, h0, hbo, ht, hG])
  have hd : decide (classN r = 0) = true := by simp [h0]
  rw [hd] at HC
  rw [ht] at hb
  clear hbo ht hG hd h0
  go_enter Tryz.func21, Tryz.ntmps21
  go_wp2_with fail
  refine (HT.out _ (HR.out.below (B := w.heap.size) (by repeat (first | with_reducible exact Below.refl _ _ | with_reducible assumption | with_reducible refine Below.setCell ?_ (by (try simp) <;> omega) _ | with_reducible refine Below.alloc ?_ (by (try simp) <;> omega) _ | with_reducible refine Below.drew ?_ | with_reducible refine below_drewN ?_ _)) hB) (by (try simp) <;> omega)).mono ?_
  rintro e w1 ⟨rfl, hb1⟩
  have L1 := hide (show Below w.heap.size w w1 from (by repeat (first | with_reducible exact Below.refl _ _ | with_reducible assumption | with_reducible refine Below.setCell ?_ (by (try simp) <;> omega) _ | with_reducible refine Below.alloc ?_ (by (try simp) <;> omega) _ | with_reducible refine Below.drew ?_ | with_reducible refine below_drewN ?_ _ | with_reducible exact hb1 | with_reducible refine Below.trans ?_ (Below.mono hb1 (by (try simp) <;> omega)))))
  have PR1 := hide (Blk.belowH ((Blk.new w 37 (#[.int .i64 r.way, .int .i64 r.pal.w, .int .i64 r.pal.d, .int .i64 r.pal.h, .int .i64 r.pal.gram, .int .i64 r.cls, .slice A1 n1 c1, .slice A2 n2 c2, .int .i64 r.master, .slice A3 n3 c3]) (g := w.heap.size) (by simp)).alloc _) hb1)
  have PX1 := hide (Blk.belowH (Blk.new (w.alloc _) 47 #[.int .i64 x.ty, .int .i64 x.gr, .slice A n c] (g := w.heap.size + 1) (by simp)) hb1)
  have z1 : w.heap.size + 1 + 1 ≤ w1.heap.size := (by simpa using hb1.size)
  clear hb1
  have kR := PR1.out.cell
  have yR := PR1.out.lt
  have kX := PX1.out.cell
  have yX := PX1.out.lt
  have kT := (Blk.new w1 56 #[.int .i64 t.id, .int .i64 t.w, .int .i64 t.h, .int .i64 t.d, .int .i64 t.tare, .int .i64 t.gram, .int .i64 t.cost] rfl).cell
  go_wp2_with fail
  refine (HC.out _ ((HR.out.below L1.out hB).alloc (by omega) _) (by (try simp) <;> omega)).mono ?_
  rintro e w2 ⟨rfl, hb2⟩
  have L2 := hide (show Below w.heap.size w w2 from (by repeat (first | with_reducible exact Below.refl _ _ | with_reducible assumption | with_reducible refine Below.setCell ?_ (by (try simp) <;> omega) _ | with_reducible refine Below.alloc ?_ (by (try simp) <;> omega) _ | with_reducible refine Below.drew ?_ | with_reducible refine below_drewN ?_ _ | with_reducible exact L1.out | with_reducible exact hb2 | with_reducible refine Below.trans ?_ (Below.mono L1.out (by (try simp) <;> omega)) | with_reducible refine Below.trans ?_ (Below.mono hb2 (by (try simp) <;> omega)))))
  have PR2 := hide (Blk.belowH (PR1.out.alloc _) hb2)
  have PX2 := hide (Blk.belowH (PX1.out.alloc _) hb2)
  have PT2 := hide (Blk.belowH (Blk.new w1 56 #[.int .i64 t.id, .int .i64 t.w, .int .i64 t.h, .int .i64 t.d, .int .i64 t.tare, .int .i64 t.gram, .int .i64 t.cost] (g := w1.heap.size) rfl) hb2)
  have z2 : w1.heap.size + 1 ≤ w2.heap.size := (by simpa using hb2.size)
  clear hb2 kR yR kX yX kT PR1 PX1
  have kR := PR2.out.cell
  have yR := PR2.out.lt
  have kX := PX2.out.cell
  have yX := PX2.out.lt
  have kT := PT2.out.cell
  have yT := PT2.out.lt
  have b1 : -9223372036854775808 ≤ t.tare + G := by omega
  have b2 : t.tare + G ≤ 9223372036854775807 := by omega
  go_wp2_with fail
  first
    | (refine (HG.out _ (HR.out.below L2.out hB) (by (try simp) <;> omega) (HS.out.below L2.out hB2) (by (try simp) <;> omega) hn).mono ?_
       rintro e w3 ⟨rfl, hb3⟩
       have L3 := hide (show Below w.heap.size w w3 from (by repeat (first | with_reducible exact Below.refl _ _ | with_reducible assumption | with_reducible refine Below.setCell ?_ (by (try simp) <;> omega) _ | with_reducible refine Below.alloc ?_ (by (try simp) <;> omega) _ | with_reducible refine Below.drew ?_ | with_reducible refine below_drewN ?_ _ | with_reducible exact L2.out | with_reducible exact hb3 | with_reducible refine Below.trans ?_ (Below.mono L2.out (by (try simp) <;> omega)) | with_reducible refine Below.trans ?_ (Below.mono hb3 (by (try simp) <;> omega))))))
    | go_region_held3 (fun w' => w'.cell? ⟨w.heap.size, 0, none⟩ = some (.int .i64 r.way) ∧ w'.cell? ⟨w.heap.size, 1, none⟩ = some (.int .i64 r.pal.w) ∧ w'.cell? ⟨w.heap.size, 2, none⟩ = some (.int .i64 r.pal.d) ∧ w'.cell? ⟨w.heap.size, 3, none⟩ = some (.int .i64 r.pal.h) ∧ w'.cell? ⟨w.heap.size, 4, none⟩ = some (.int .i64 r.pal.gram) ∧ w'.cell? ⟨w.heap.size, 5, none⟩ = some (.int .i64 r.cls) ∧ w'.cell? ⟨w.heap.size, 6, none⟩ = some (.slice A1 n1 c1) ∧ w'.cell? ⟨w.heap.size, 7, none⟩ = some (.slice A2 n2 c2) ∧ w'.cell? ⟨w.heap.size, 8, none⟩ = some (.int .i64 r.master) ∧ w'.cell? ⟨w.heap.size, 9, none⟩ = some (.slice A3 n3 c3) ∧ w'.cell? ⟨w1.heap.size, 0, none⟩ = some (.int .i64 t.id) ∧ w'.cell? ⟨w1.heap.size, 1, none⟩ = some (.int .i64 t.w) ∧ w'.cell? ⟨w1.heap.size, 2, none⟩ = some (.int .i64 t.h) ∧ w'.cell? ⟨w1.heap.size, 3, none⟩ = some (.int .i64 t.d) ∧ w'.cell? ⟨w1.heap.size, 4, none⟩ = some (.int .i64 t.tare) ∧ w'.cell? ⟨w1.heap.size, 5, none⟩ = some (.int .i64 t.gram) ∧ w'.cell? ⟨w1.heap.size, 6, none⟩ = some (.int .i64 t.cost) ∧ w'.cell? ⟨w.heap.size + 1, 0, none⟩ = some (.int .i64 x.ty) ∧ w'.cell? ⟨w.heap.size + 1, 1, none⟩ = some (.int .i64 x.gr) ∧ w'.cell? ⟨w.heap.size + 1, 2, none⟩ = some (.slice A n c)) (go_keep) ((go_at_call 38; (with_reducible refine (HG.out _ (HR.out.below L2.out hB).drew (by (try simp) <;> omega) (HS.out.below L2.out hB2).drew (by (try simp) <;> omega) hn).mono ?_); rintro e w3 ⟨rfl, hb3⟩; have L3 := hide (show Below w.heap.size w w3 from (by repeat (first | with_reducible exact Below.refl _ _ | with_reducible assumption | with_reducible refine Below.setCell ?_ (by (try simp) <;> omega) _ | with_reducible refine Below.alloc ?_ (by (try simp) <;> omega) _ | with_reducible refine Below.drew ?_ | with_reducible refine below_drewN ?_ _ | with_reducible exact L2.out | with_reducible exact hb3 | with_reducible refine Below.trans ?_ (Below.mono L2.out (by (try simp) <;> omega)) | with_reducible refine Below.trans ?_ (Below.mono hb3 (by (try simp) <;> omega))))); have PR3 := hide (Blk.belowH PR2.out.drew hb3); have PX3 := hide (Blk.belowH PX2.out.drew hb3); have PT3 := hide (Blk.belowH PT2.out.drew hb3); have kR3 := PR3.out.cell; have kX3 := PX3.out.cell; have kT3 := PT3.out.cell))
  go_wp2
  go_ret
  exact ⟨ret_int (by rw [HF.out]; first | rfl | (rw [IntKind.wrap_i64]; omega)), (by repeat (first | with_reducible exact Below.refl _ _ | with_reducible assumption | with_reducible refine Below.setCell ?_ (by (try simp) <;> omega) _ | with_reducible refine Below.alloc ?_ (by (try simp) <;> omega) _ | with_reducible refine Below.drew ?_ | with_reducible refine below_drewN ?_ _ | with_reducible exact L3.out | with_reducible refine Below.trans ?_ (Below.mono L3.out (by (try simp) <;> omega))))⟩
set_option maxRecDepth 20000 in
set_option maxHeartbeats 4000000 in
theorem sgross_any (r : Rq) (A1 A2 A3 : Option Addr) (n1 n2 n3 c1 c2 c3 : Nat) (lo hi : Nat) (x : Ct) (lo2 hi2 : Nat) (A : Option Addr) (n c : Nat) (w : World) (hr : RqAt w lo hi r A1 n1 c1 A2 n2 c2 A3 n3 c3) (hB : hi ≤ w.heap.size) (hs : SlK 1 encInt w lo2 hi2 A n c x.us) (hB2 : hi2 ≤ w.heap.size) (hn : n ≤ 1048580) :
    Calls Tryz.prog 19 #[.agg #[.int .i64 r.way, .int .i64 r.pal.w, .int .i64 r.pal.d, .int .i64 r.pal.h, .int .i64 r.pal.gram, .int .i64 r.cls, .slice A1 n1 c1, .slice A2 n2 c2, .int .i64 r.master, .slice A3 n3 c3], .agg #[.int .i64 x.ty, .int .i64 x.gr, .slice A n c]] w fun e w' => e = .returned (.int .i64 (grossV r x)) ∧ Below w.heap.size w w' := by
  have HC := hide (sclass_any r A1 A2 A3 n1 n2 n3 c1 c2 c3 lo hi)
  have HT := hide (styById_any r A1 A2 A3 n1 n2 n3 c1 c2 c3 lo hi x.ty)
  have HG := hide (sgramOf_any r A1 A2 A3 n1 n2 n3 c1 c2 c3 lo hi lo2 hi2 A n c x.us)
  have HGb := hide (gramU_bd r x.us)
  have HLU := hide hs.len
  have HR := hide hr
  have HS := hide hs
  clear hr hs
  obtain ⟨bo, hbo⟩ : ∃ bo, (findTy r.types x.ty).isSome = bo := ⟨_, rfl⟩
  obtain ⟨t, ht⟩ : ∃ t, tyD (findTy r.types x.ty) = t := ⟨_, rfl⟩
  obtain ⟨G, hG⟩ : ∃ G, gramU r x.us = G := ⟨_, rfl⟩
  rw [ht, hbo] at HT
  rw [hG] at HG HGb
  have hg1 : 0 ≤ G := HGb.out.1
  have hg2 : G ≤ 104858000000 := by have := HGb.out.2; rw [HLU.out] at this; omega
  have hz : w.heap.size ≠ w.heap.size + 1 := by omega
  by_cases h0 : classN r = 0
  case neg =>
    have HF := hide (show grossV r x = 0 by simp [grossV, h0])
    obtain ⟨q, hq⟩ : ∃ q, classN r = q := ⟨_, rfl⟩
    rw [hq] at HC h0
    clear hq hbo ht hG
    have hd : (q == 0) = false := by simpa using h0
    go_enter Tryz.func19, Tryz.ntmps19
    go_wp2_with fail
    refine (HT.out _ (HR.out.below (B := w.heap.size) (by repeat (first | with_reducible exact Below.refl _ _ | with_reducible assumption | with_reducible refine Below.setCell ?_ (by (try simp) <;> omega) _ | with_reducible refine Below.alloc ?_ (by (try simp) <;> omega) _ | with_reducible refine Below.drew ?_ | with_reducible refine below_drewN ?_ _)) hB) (by (try simp) <;> omega)).mono ?_
    rintro e w1 ⟨rfl, hb1⟩
    have L1 := hide (show Below w.heap.size w w1 from (by repeat (first | with_reducible exact Below.refl _ _ | with_reducible assumption | with_reducible refine Below.setCell ?_ (by (try simp) <;> omega) _ | with_reducible refine Below.alloc ?_ (by (try simp) <;> omega) _ | with_reducible refine Below.drew ?_ | with_reducible refine below_drewN ?_ _ | with_reducible exact hb1 | with_reducible refine Below.trans ?_ (Below.mono hb1 (by (try simp) <;> omega)))))
    have PR1 := hide (Blk.belowH ((Blk.new w 37 (#[.int .i64 r.way, .int .i64 r.pal.w, .int .i64 r.pal.d, .int .i64 r.pal.h, .int .i64 r.pal.gram, .int .i64 r.cls, .slice A1 n1 c1, .slice A2 n2 c2, .int .i64 r.master, .slice A3 n3 c3]) (g := w.heap.size) (by simp)).alloc _) hb1)
    have PX1 := hide (Blk.belowH (Blk.new (w.alloc _) 47 #[.int .i64 x.ty, .int .i64 x.gr, .slice A n c] (g := w.heap.size + 1) (by simp)) hb1)
    have z1 : w.heap.size + 1 + 1 ≤ w1.heap.size := (by simpa using hb1.size)
    clear hb1
    have kR := PR1.out.cell
    have yR := PR1.out.lt
    have kX := PX1.out.cell
    have yX := PX1.out.lt
    have kT := (Blk.new w1 56 #[.int .i64 t.id, .int .i64 t.w, .int .i64 t.h, .int .i64 t.d, .int .i64 t.tare, .int .i64 t.gram, .int .i64 t.cost] rfl).cell
    go_wp2_with fail
    refine (HC.out _ ((HR.out.below L1.out hB).alloc (by omega) _) (by (try simp) <;> omega)).mono ?_
    rintro e w2 ⟨rfl, hb2⟩
    have L2 := hide (show Below w.heap.size w w2 from (by repeat (first | with_reducible exact Below.refl _ _ | with_reducible assumption | with_reducible refine Below.setCell ?_ (by (try simp) <;> omega) _ | with_reducible refine Below.alloc ?_ (by (try simp) <;> omega) _ | with_reducible refine Below.drew ?_ | with_reducible refine below_drewN ?_ _ | with_reducible exact L1.out | with_reducible exact hb2 | with_reducible refine Below.trans ?_ (Below.mono L1.out (by (try simp) <;> omega)) | with_reducible refine Below.trans ?_ (Below.mono hb2 (by (try simp) <;> omega)))))
    have PR2 := hide (Blk.belowH (PR1.out.alloc _) hb2)
    have PX2 := hide (Blk.belowH (PX1.out.alloc _) hb2)
    have PT2 := hide (Blk.belowH (Blk.new w1 56 #[.int .i64 t.id, .int .i64 t.w, .int .i64 t.h, .int .i64 t.d, .int .i64 t.tare, .int .i64 t.gram, .int .i64 t.cost] (g := w1.heap.size) rfl) hb2)
    have z2 : w1.heap.size + 1 ≤ w2.heap.size := (by simpa using hb2.size)
    clear hb2 kR yR kX yX kT PR1 PX1
    have kR := PR2.out.cell
    have yR := PR2.out.lt
    have kX := PX2.out.cell
    have yX := PX2.out.lt
    have kT := PT2.out.cell
    have yT := PT2.out.lt
    go_wp2
    go_ret
    exact ⟨ret_int HF.out.symm, (by repeat (first | with_reducible exact Below.refl _ _ | with_reducible assumption | with_reducible refine Below.setCell ?_ (by (try simp) <;> omega) _ | with_reducible refine Below.alloc ?_ (by (try simp) <;> omega) _ | with_reducible refine Below.drew ?_ | with_reducible refine below_drewN ?_ _ | with_reducible exact L2.out | with_reducible refine Below.trans ?_ (Below.mono L2.out (by (try simp) <;> omega))))⟩
  rw [h0] at HC
  cases bo
  · have HF := hide (show grossV r x = 0 by simp [grossV, hbo])
    clear hbo ht hG h0
    go_enter Tryz.func19, Tryz.ntmps19
    go_wp2_with fail
    refine (HT.out _ (HR.out.below (B := w.heap.size) (by repeat (first | with_reducible exact Below.refl _ _ | with_reducible assumption | with_reducible refine Below.setCell ?_ (by (try simp) <;> omega) _ | with_reducible refine Below.alloc ?_ (by (try simp) <;> omega) _ | with_reducible refine Below.drew ?_ | with_reducible refine below_drewN ?_ _)) hB) (by (try simp) <;> omega)).mono ?_
    rintro e w1 ⟨rfl, hb1⟩
    have L1 := hide (show Below w.heap.size w w1 from (by repeat (first | with_reducible exact Below.refl _ _ | with_reducible assumption | with_reducible refine Below.setCell ?_ (by (try simp) <;> omega) _ | with_reducible refine Below.alloc ?_ (by (try simp) <;> omega) _ | with_reducible refine Below.drew ?_ | with_reducible refine below_drewN ?_ _ | with_reducible exact hb1 | with_reducible refine Below.trans ?_ (Below.mono hb1 (by (try simp) <;> omega)))))
    have PR1 := hide (Blk.belowH ((Blk.new w 37 (#[.int .i64 r.way, .int .i64 r.pal.w, .int .i64 r.pal.d, .int .i64 r.pal.h, .int .i64 r.pal.gram, .int .i64 r.cls, .slice A1 n1 c1, .slice A2 n2 c2, .int .i64 r.master, .slice A3 n3 c3]) (g := w.heap.size) (by simp)).alloc _) hb1)
    have PX1 := hide (Blk.belowH (Blk.new (w.alloc _) 47 #[.int .i64 x.ty, .int .i64 x.gr, .slice A n c] (g := w.heap.size + 1) (by simp)) hb1)
    have z1 : w.heap.size + 1 + 1 ≤ w1.heap.size := (by simpa using hb1.size)
    clear hb1
    have kR := PR1.out.cell
    have yR := PR1.out.lt
    have kX := PX1.out.cell
    have yX := PX1.out.lt
    have kT := (Blk.new w1 56 #[.int .i64 t.id, .int .i64 t.w, .int .i64 t.h, .int .i64 t.d, .int .i64 t.tare, .int .i64 t.gram, .int .i64 t.cost] rfl).cell
    go_wp2_with fail
    refine (HC.out _ ((HR.out.below L1.out hB).alloc (by omega) _) (by (try simp) <;> omega)).mono ?_
    rintro e w2 ⟨rfl, hb2⟩
    have L2 := hide (show Below w.heap.size w w2 from (by repeat (first | with_reducible exact Below.refl _ _ | with_reducible assumption | with_reducible refine Below.setCell ?_ (by (try simp) <;> omega) _ | with_reducible refine Below.alloc ?_ (by (try simp) <;> omega) _ | with_reducible refine Below.drew ?_ | with_reducible refine below_drewN ?_ _ | with_reducible exact L1.out | with_reducible exact hb2 | with_reducible refine Below.trans ?_ (Below.mono L1.out (by (try simp) <;> omega)) | with_reducible refine Below.trans ?_ (Below.mono hb2 (by (try simp) <;> omega)))))
    have PR2 := hide (Blk.belowH (PR1.out.alloc _) hb2)
    have PX2 := hide (Blk.belowH (PX1.out.alloc _) hb2)
    have PT2 := hide (Blk.belowH (Blk.new w1 56 #[.int .i64 t.id, .int .i64 t.w, .int .i64 t.h, .int .i64 t.d, .int .i64 t.tare, .int .i64 t.gram, .int .i64 t.cost] (g := w1.heap.size) rfl) hb2)
    have z2 : w1.heap.size + 1 ≤ w2.heap.size := (by simpa using hb2.size)
    clear hb2 kR yR kX yX kT PR1 PX1
    have kR := PR2.out.cell
    have yR := PR2.out.lt
    have kX := PX2.out.cell
    have yX := PX2.out.lt
    have kT := PT2.out.cell
    have yT := PT2.out.lt
    go_wp2
    go_ret
    exact ⟨ret_int HF.out.symm, (by repeat (first | with_reducible exact Below.refl _ _ | with_reducible assumption | with_reducible refine Below.setCell ?_ (by (try simp) <;> omega) _ | with_reducible refine Below.alloc ?_ (by (try simp) <;> omega) _ | with_reducible refine Below.drew ?_ | with_reducible refine below_drewN ?_ _ | with_reducible exact L2.out | with_reducible refine Below.trans ?_ (Below.mono L2.out (by (try simp) <;> omega))))⟩
  have hb := tare_bd h0 hbo
  have HF := hide (show grossV r x = t.tare + G by simp [grossV, h0, hbo, ht, hG])
  rw [ht] at hb
  clear hbo ht hG h0
  go_enter Tryz.func19, Tryz.ntmps19
  go_wp2_with fail
  refine (HT.out _ (HR.out.below (B := w.heap.size) (by repeat (first | with_reducible exact Below.refl _ _ | with_reducible assumption | with_reducible refine Below.setCell ?_ (by (try simp) <;> omega) _ | with_reducible refine Below.alloc ?_ (by (try simp) <;> omega) _ | with_reducible refine Below.drew ?_ | with_reducible refine below_drewN ?_ _)) hB) (by (try simp) <;> omega)).mono ?_
  rintro e w1 ⟨rfl, hb1⟩
  have L1 := hide (show Below w.heap.size w w1 from (by repeat (first | with_reducible exact Below.refl _ _ | with_reducible assumption | with_reducible refine Below.setCell ?_ (by (try simp) <;> omega) _ | with_reducible refine Below.alloc ?_ (by (try simp) <;> omega) _ | with_reducible refine Below.drew ?_ | with_reducible refine below_drewN ?_ _ | with_reducible exact hb1 | with_reducible refine Below.trans ?_ (Below.mono hb1 (by (try simp) <;> omega)))))
  have PR1 := hide (Blk.belowH ((Blk.new w 37 (#[.int .i64 r.way, .int .i64 r.pal.w, .int .i64 r.pal.d, .int .i64 r.pal.h, .int .i64 r.pal.gram, .int .i64 r.cls, .slice A1 n1 c1, .slice A2 n2 c2, .int .i64 r.master, .slice A3 n3 c3]) (g := w.heap.size) (by simp)).alloc _) hb1)
  have PX1 := hide (Blk.belowH (Blk.new (w.alloc _) 47 #[.int .i64 x.ty, .int .i64 x.gr, .slice A n c] (g := w.heap.size + 1) (by simp)) hb1)
  have z1 : w.heap.size + 1 + 1 ≤ w1.heap.size := (by simpa using hb1.size)
  clear hb1
  have kR := PR1.out.cell
  have yR := PR1.out.lt
  have kX := PX1.out.cell
  have yX := PX1.out.lt
  have kT := (Blk.new w1 56 #[.int .i64 t.id, .int .i64 t.w, .int .i64 t.h, .int .i64 t.d, .int .i64 t.tare, .int .i64 t.gram, .int .i64 t.cost] rfl).cell
  go_wp2_with fail
  refine (HC.out _ ((HR.out.below L1.out hB).alloc (by omega) _) (by (try simp) <;> omega)).mono ?_
  rintro e w2 ⟨rfl, hb2⟩
  have L2 := hide (show Below w.heap.size w w2 from (by repeat (first | with_reducible exact Below.refl _ _ | with_reducible assumption | with_reducible refine Below.setCell ?_ (by (try simp) <;> omega) _ | with_reducible refine Below.alloc ?_ (by (try simp) <;> omega) _ | with_reducible refine Below.drew ?_ | with_reducible refine below_drewN ?_ _ | with_reducible exact L1.out | with_reducible exact hb2 | with_reducible refine Below.trans ?_ (Below.mono L1.out (by (try simp) <;> omega)) | with_reducible refine Below.trans ?_ (Below.mono hb2 (by (try simp) <;> omega)))))
  have PR2 := hide (Blk.belowH (PR1.out.alloc _) hb2)
  have PX2 := hide (Blk.belowH (PX1.out.alloc _) hb2)
  have PT2 := hide (Blk.belowH (Blk.new w1 56 #[.int .i64 t.id, .int .i64 t.w, .int .i64 t.h, .int .i64 t.d, .int .i64 t.tare, .int .i64 t.gram, .int .i64 t.cost] (g := w1.heap.size) rfl) hb2)
  have z2 : w1.heap.size + 1 ≤ w2.heap.size := (by simpa using hb2.size)
  clear hb2 kR yR kX yX kT PR1 PX1
  have kR := PR2.out.cell
  have yR := PR2.out.lt
  have kX := PX2.out.cell
  have yX := PX2.out.lt
  have kT := PT2.out.cell
  have yT := PT2.out.lt
  have b1 : -9223372036854775808 ≤ t.tare + G := by omega
  have b2 : t.tare + G ≤ 9223372036854775807 := by omega
  go_wp2_with fail
  first
    | (refine (HG.out _ (HR.out.below L2.out hB) (by (try simp) <;> omega) (HS.out.below L2.out hB2) (by (try simp) <;> omega) hn).mono ?_
       rintro e w3 ⟨rfl, hb3⟩
       have L3 := hide (show Below w.heap.size w w3 from (by repeat (first | with_reducible exact Below.refl _ _ | with_reducible assumption | with_reducible refine Below.setCell ?_ (by (try simp) <;> omega) _ | with_reducible refine Below.alloc ?_ (by (try simp) <;> omega) _ | with_reducible refine Below.drew ?_ | with_reducible refine below_drewN ?_ _ | with_reducible exact L2.out | with_reducible exact hb3 | with_reducible refine Below.trans ?_ (Below.mono L2.out (by (try simp) <;> omega)) | with_reducible refine Below.trans ?_ (Below.mono hb3 (by (try simp) <;> omega))))))
    | go_region_held3 (fun w' => w'.cell? ⟨w.heap.size, 0, none⟩ = some (.int .i64 r.way) ∧ w'.cell? ⟨w.heap.size, 1, none⟩ = some (.int .i64 r.pal.w) ∧ w'.cell? ⟨w.heap.size, 2, none⟩ = some (.int .i64 r.pal.d) ∧ w'.cell? ⟨w.heap.size, 3, none⟩ = some (.int .i64 r.pal.h) ∧ w'.cell? ⟨w.heap.size, 4, none⟩ = some (.int .i64 r.pal.gram) ∧ w'.cell? ⟨w.heap.size, 5, none⟩ = some (.int .i64 r.cls) ∧ w'.cell? ⟨w.heap.size, 6, none⟩ = some (.slice A1 n1 c1) ∧ w'.cell? ⟨w.heap.size, 7, none⟩ = some (.slice A2 n2 c2) ∧ w'.cell? ⟨w.heap.size, 8, none⟩ = some (.int .i64 r.master) ∧ w'.cell? ⟨w.heap.size, 9, none⟩ = some (.slice A3 n3 c3) ∧ w'.cell? ⟨w1.heap.size, 0, none⟩ = some (.int .i64 t.id) ∧ w'.cell? ⟨w1.heap.size, 1, none⟩ = some (.int .i64 t.w) ∧ w'.cell? ⟨w1.heap.size, 2, none⟩ = some (.int .i64 t.h) ∧ w'.cell? ⟨w1.heap.size, 3, none⟩ = some (.int .i64 t.d) ∧ w'.cell? ⟨w1.heap.size, 4, none⟩ = some (.int .i64 t.tare) ∧ w'.cell? ⟨w1.heap.size, 5, none⟩ = some (.int .i64 t.gram) ∧ w'.cell? ⟨w1.heap.size, 6, none⟩ = some (.int .i64 t.cost) ∧ w'.cell? ⟨w.heap.size + 1, 0, none⟩ = some (.int .i64 x.ty) ∧ w'.cell? ⟨w.heap.size + 1, 1, none⟩ = some (.int .i64 x.gr) ∧ w'.cell? ⟨w.heap.size + 1, 2, none⟩ = some (.slice A n c)) (go_keep) ((go_at_call 51; (with_reducible refine (HG.out _ (HR.out.below L2.out hB).drew (by (try simp) <;> omega) (HS.out.below L2.out hB2).drew (by (try simp) <;> omega) hn).mono ?_); rintro e w3 ⟨rfl, hb3⟩; have L3 := hide (show Below w.heap.size w w3 from (by repeat (first | with_reducible exact Below.refl _ _ | with_reducible assumption | with_reducible refine Below.setCell ?_ (by (try simp) <;> omega) _ | with_reducible refine Below.alloc ?_ (by (try simp) <;> omega) _ | with_reducible refine Below.drew ?_ | with_reducible refine below_drewN ?_ _ | with_reducible exact L2.out | with_reducible exact hb3 | with_reducible refine Below.trans ?_ (Below.mono L2.out (by (try simp) <;> omega)) | with_reducible refine Below.trans ?_ (Below.mono hb3 (by (try simp) <;> omega))))); have PR3 := hide (Blk.belowH PR2.out.drew hb3); have PX3 := hide (Blk.belowH PX2.out.drew hb3); have PT3 := hide (Blk.belowH PT2.out.drew hb3); have kR3 := PR3.out.cell; have kX3 := PX3.out.cell; have kT3 := PT3.out.cell))
  go_wp2
  go_ret
  exact ⟨ret_int (by rw [HF.out]; first | rfl | (rw [IntKind.wrap_i64]; omega)), (by repeat (first | with_reducible exact Below.refl _ _ | with_reducible assumption | with_reducible refine Below.setCell ?_ (by (try simp) <;> omega) _ | with_reducible refine Below.alloc ?_ (by (try simp) <;> omega) _ | with_reducible refine Below.drew ?_ | with_reducible refine below_drewN ?_ _ | with_reducible exact L3.out | with_reducible refine Below.trans ?_ (Below.mono L3.out (by (try simp) <;> omega))))⟩
end Go.Proofs.YtbbcmldhdebolaaGreat
