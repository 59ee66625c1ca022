/- Room of both. -/
import Derived.Test.YtehgdhekiogppaaGreatUn8
namespace Go.Proofs.YtehgdhekiogppaaGreat
open Go.ChangeShapes Go.WideShapes Go.ChangeAt Go.RowKit Go.Deep
set_option linter.unusedVariables false
set_option linter.unusedSimpArgs false

/-- append as one step of a region that draws its order, whose guard is true. -/
theorem step_appG {P : Program} {α : Type} {enc : α → List Value} {size : Nat} {w : World} {base : Nat} {t e : TypeId} {v : Value} {xs ys : List α} {A : Option Addr} {m c : Nat} {ops : Array Oper} {o : Oper} {a : Act} {K : Act → World → Prop} {Q : Exit → Act → World → Prop} {E : Prop} (hw : Region.wanted o (yielded ops a.tmps) = true) (s x : Operand)
    (ho : o.op = .call { callee := .builtin .append, args := #[s, x], argTypes := #[t, t] }) (hs : a.eval s = v) (hx : a.eval x = .slice A m c) (H : AppOk P size enc w base t e v xs A m c ys)
    (h : ∀ v' w', Own size enc e w' base v' (xs ++ ys) → w.grownBy w' v.ownBlock → (v'.ownBlock = v.ownBlock ∨ v'.ownBlock = some w.heap.size) → K (a.put o.dst v') w') :
    if Region.wanted o (yielded ops a.tmps) = true then Oper.wp P o a w K Q else E := by
  rw [if_pos hw]
  exact wp_app s x ho hs hx H h
set_option maxRecDepth 20000 in
set_option maxHeartbeats 4000000 in
theorem sroom_any (r : Rq) (A1 A2 A3 : Option Addr) (n1 n2 n3 c1 c2 c3 : Nat) (lo hi : Nat) (lo2 hi2 : Nat) (A : Option Addr) (n c : Nat) (us : List Int) (u : Int) (w : World) (hr : RqAt w lo hi r A1 n1 c1 A2 n2 c2 A3 n3 c3) (hB : hi ≤ w.heap.size) (hs : SlK 1 encInt w lo2 hi2 A n c us) (hB2 : hi2 ≤ w.heap.size) (hn : n ≤ 1048576) :
    Calls Tryz.prog 9 #[.agg #[.int .i64 r.way, .int .i64 r.pal.w, .int .i64 r.pal.d, .int .i64 r.pal.h, .int .i64 r.pal.gram, .int .i64 r.cls, .slice A1 n1 c1, .slice A2 n2 c2, .int .i64 r.master, .slice A3 n3 c3], .slice A n c, .int .i64 u] w fun e w' => e = .returned (.bool (roomB r us u)) ∧ Below w.heap.size w w' := by
  have HC := hide (sclass_any r A1 A2 A3 n1 n2 n3 c1 c2 c3 lo hi)
  have HR := hide hr
  have HS := hide hs
  clear hr hs
  by_cases h0 : classN r = 0
  · have hbd := bounds_items (class0_bounds h0)
    have HOK := hide hbd.1
    have hn8 : n3 ≤ 8 := by have := hbd.2.1; rw [HR.out.it.len] at this; exact this
    have HUR := hide (show unitsR r = unitsL r.items by simp [unitsR, h0])
    have HF := hide (show roomB r us u = withinB r (us ++ [u]) (masterTy r) by simp [roomB, h0])
    rw [h0] at HC
    have HLU6 := hide (sl6units_any r A1 A2 A3 n1 n2 n3 c1 c2 c3 lo hi)
    rw [← HUR.out] at HLU6
    have HMa := hide (smaster_any r A1 A2 A3 n1 n2 n3 c1 c2 c3 lo hi)
    obtain ⟨bo, hbo⟩ : ∃ bo, (findTy r.types r.master).isSome = bo := ⟨_, rfl⟩
    obtain ⟨t, hT⟩ : ∃ T, masterTy r = T := ⟨_, rfl⟩
    have hT' := hT
    change tyD (findTy r.types r.master) = t at hT'
    rw [hT', hbo] at HMa
    rw [hT] at HF
    have HV := hide (fun lo1 hi1 A1' m c1' => sl7room_any r A1 A2 A3 n1 n2 n3 c1 c2 c3 lo hi lo1 hi1 A1' m c1' t lo2 hi2 A n c us u)
    obtain ⟨B, hBB⟩ : ∃ B, withinB r (us ++ [u]) t = B := ⟨_, rfl⟩
    rw [hBB] at HF HV
    obtain ⟨m, hm⟩ : ∃ m, (unitsR r).length = m := ⟨_, rfl⟩
    have HM := hide hm
    clear h0 hBB hT hT' hbo hbd hm
    go_enter Tryz.func9, Tryz.ntmps9
    go_wp2_with fail
    refine (HC.out _ (HR.out.below (B := w.heap.size) (by repeat (first | with_reducible exact Below.refl _ _ | with_reducible assumption | with_reducible refine Below.setCell ?_ (by (try simp) <;> omega) _ | with_reducible refine Below.alloc ?_ (by (try simp) <;> omega) _ | with_reducible refine Below.drew ?_ | with_reducible refine below_drewN ?_ _)) hB) (by (try simp) <;> omega)).mono ?_
    rintro e w1 ⟨rfl, hb1⟩
    have L1 := hide (show Below w.heap.size w w1 from (by repeat (first | with_reducible exact Below.refl _ _ | with_reducible assumption | with_reducible refine Below.setCell ?_ (by (try simp) <;> omega) _ | with_reducible refine Below.alloc ?_ (by (try simp) <;> omega) _ | with_reducible refine Below.drew ?_ | with_reducible refine below_drewN ?_ _ | with_reducible exact hb1 | with_reducible refine Below.trans ?_ (Below.mono hb1 (by (try simp) <;> omega)))))
    have P1 := hide (Blk.belowH (Blk.new w 37 (#[.int .i64 r.way, .int .i64 r.pal.w, .int .i64 r.pal.d, .int .i64 r.pal.h, .int .i64 r.pal.gram, .int .i64 r.cls, .slice A1 n1 c1, .slice A2 n2 c2, .int .i64 r.master, .slice A3 n3 c3]) (g := w.heap.size) (by simp)) hb1)
    have z1 : w.heap.size + 1 ≤ w1.heap.size := by simpa using hb1.size
    clear hb1
    have kR := P1.out.cell
    have yR := P1.out.lt
    go_wp2_with fail
    refine (HMa.out _ (HR.out.below L1.out hB) (by (try simp) <;> omega)).mono ?_
    rintro e w2 ⟨rfl, hb2⟩
    have L2 := hide (L1.out.trans (hb2.mono (by omega)))
    have P2 := hide (Blk.belowH P1.out hb2)
    have z2 : w1.heap.size ≤ w2.heap.size := hb2.size
    clear hb2 kR yR P1
    have kR := P2.out.cell
    have yR := P2.out.lt
    have kT := (Blk.new w2 48 #[.int .i64 t.id, .int .i64 t.w, .int .i64 t.h, .int .i64 t.d, .int .i64 t.tare, .int .i64 t.gram, .int .i64 t.cost] rfl).cell
    go_wp2_with fail
    go_region_held3 (fun w' => w'.cell? ⟨w.heap.size, 0, none⟩ = some (.int .i64 r.way) ∧ w'.cell? ⟨w.heap.size, 1, none⟩ = some (.int .i64 r.pal.w) ∧ w'.cell? ⟨w.heap.size, 2, none⟩ = some (.int .i64 r.pal.d) ∧ w'.cell? ⟨w.heap.size, 3, none⟩ = some (.int .i64 r.pal.h) ∧ w'.cell? ⟨w.heap.size, 4, none⟩ = some (.int .i64 r.pal.gram) ∧ w'.cell? ⟨w.heap.size, 5, none⟩ = some (.int .i64 r.cls) ∧ w'.cell? ⟨w.heap.size, 6, none⟩ = some (.slice A1 n1 c1) ∧ w'.cell? ⟨w.heap.size, 7, none⟩ = some (.slice A2 n2 c2) ∧ w'.cell? ⟨w.heap.size, 8, none⟩ = some (.int .i64 r.master) ∧ w'.cell? ⟨w.heap.size, 9, none⟩ = some (.slice A3 n3 c3) ∧ w'.cell? ⟨w2.heap.size, 0, none⟩ = some (.int .i64 t.id) ∧ w'.cell? ⟨w2.heap.size, 1, none⟩ = some (.int .i64 t.w) ∧ w'.cell? ⟨w2.heap.size, 2, none⟩ = some (.int .i64 t.h) ∧ w'.cell? ⟨w2.heap.size, 3, none⟩ = some (.int .i64 t.d) ∧ w'.cell? ⟨w2.heap.size, 4, none⟩ = some (.int .i64 t.tare) ∧ w'.cell? ⟨w2.heap.size, 5, none⟩ = some (.int .i64 t.gram) ∧ w'.cell? ⟨w2.heap.size, 6, none⟩ = some (.int .i64 t.cost)) (go_keep) (first
      | (go_at_call 45; (with_reducible refine (HLU6.out _ ((HR.out.below L2.out hB).alloc (by omega) _).drew (by (try simp) <;> omega) HOK.out hn8).mono ?_); rintro e w3 ⟨v3, rfl, ho3, hb3⟩; obtain ⟨A3', c3', rfl, s3⟩ := Own.slk' encInt_len HM.out ho3; have S3 := hide s3; have L3 := hide (show Below w.heap.size w w3 from (by repeat (first | with_reducible exact Below.refl _ _ | with_reducible assumption | with_reducible refine Below.setCell ?_ (by (try simp) <;> omega) _ | with_reducible refine Below.alloc ?_ (by (try simp) <;> omega) _ | with_reducible refine Below.drew ?_ | with_reducible refine below_drewN ?_ _ | with_reducible exact L2.out | with_reducible exact hb3 | with_reducible refine Below.trans ?_ (Below.mono L2.out (by (try simp) <;> omega)) | with_reducible refine Below.trans ?_ (Below.mono hb3 (by (try simp) <;> omega))))); have P3 := hide (Blk.belowH (P2.out.alloc _).drew hb3); have PT3 := hide (Blk.belowH (Blk.new w2 48 #[.int .i64 t.id, .int .i64 t.w, .int .i64 t.h, .int .i64 t.d, .int .i64 t.tare, .int .i64 t.gram, .int .i64 t.cost] (g := w2.heap.size) rfl).drew hb3); have z3 : w2.heap.size + 1 ≤ w3.heap.size := (by simpa using hb3.size); clear hb3 ho3 s3; have kR3 := P3.out.cell; have yR3 := P3.out.lt; have kT3 := PT3.out.cell; have yT3 := PT3.out.lt)
      | (go_at_call 44; (with_reducible refine (HV.out _ _ _ _ _ _ (HR.out.below L3.out hB) (by (try simp) <;> omega) S3.out (Nat.le_refl _) (HS.out.below L3.out hB2) (by (try simp) <;> omega) hn).mono ?_); rintro e w4 ⟨rfl, hb4⟩; have L4 := hide (show Below w.heap.size w w4 from (by repeat (first | with_reducible exact Below.refl _ _ | with_reducible assumption | with_reducible refine Below.setCell ?_ (by (try simp) <;> omega) _ | with_reducible refine Below.alloc ?_ (by (try simp) <;> omega) _ | with_reducible refine Below.drew ?_ | with_reducible refine below_drewN ?_ _ | with_reducible exact L3.out | with_reducible exact hb4 | with_reducible refine Below.trans ?_ (Below.mono L3.out (by (try simp) <;> omega)) | with_reducible refine Below.trans ?_ (Below.mono hb4 (by (try simp) <;> omega))))); have P4 := hide (Blk.belowH P3.out hb4); have PT4 := hide (Blk.belowH PT3.out hb4); clear hb4; have kR4 := P4.out.cell; have kT4 := PT4.out.cell))
    go_wp2
    go_ret
    exact ⟨ret_bool HF.out.symm, (by repeat (first | with_reducible exact Below.refl _ _ | with_reducible assumption | with_reducible refine Below.setCell ?_ (by (try simp) <;> omega) _ | with_reducible refine Below.alloc ?_ (by (try simp) <;> omega) _ | with_reducible refine Below.drew ?_ | with_reducible refine below_drewN ?_ _ | with_reducible exact L4.out | with_reducible refine Below.trans ?_ (Below.mono L4.out (by (try simp) <;> omega))))⟩
  · have HF := hide (show roomB r us u = false by simp [roomB, h0])
    obtain ⟨q, hq⟩ : ∃ q, classN r = q := ⟨_, rfl⟩
    rw [hq] at HC h0
    clear hq
    have hd : (q == 0) = false := by simpa using h0
    go_enter Tryz.func9, Tryz.ntmps9
    go_wp2_with fail
    refine (HC.out _ (HR.out.below (B := w.heap.size) (by repeat (first | with_reducible exact Below.refl _ _ | with_reducible assumption | with_reducible refine Below.setCell ?_ (by (try simp) <;> omega) _ | with_reducible refine Below.alloc ?_ (by (try simp) <;> omega) _ | with_reducible refine Below.drew ?_ | with_reducible refine below_drewN ?_ _)) hB) (by (try simp) <;> omega)).mono ?_
    rintro e w1 ⟨rfl, hb1⟩
    go_wp2
    go_ret
    exact ⟨ret_bool HF.out.symm, (by repeat (first | with_reducible exact Below.refl _ _ | with_reducible assumption | with_reducible refine Below.setCell ?_ (by (try simp) <;> omega) _ | with_reducible refine Below.alloc ?_ (by (try simp) <;> omega) _ | with_reducible refine Below.drew ?_ | with_reducible refine below_drewN ?_ _ | with_reducible exact hb1 | with_reducible refine Below.trans ?_ (Below.mono hb1 (by (try simp) <;> omega))))⟩
set_option maxRecDepth 20000 in
set_option maxHeartbeats 4000000 in
theorem room_any (r : Rq) (A1 A2 A3 : Option Addr) (n1 n2 n3 c1 c2 c3 : Nat) (lo hi : Nat) (lo2 hi2 : Nat) (A : Option Addr) (n c : Nat) (us : List Int) (u : Int) (w : World) (hr : RqAt w lo hi r A1 n1 c1 A2 n2 c2 A3 n3 c3) (hB : hi ≤ w.heap.size) (hs : SlK 1 encInt w lo2 hi2 A n c us) (hB2 : hi2 ≤ w.heap.size) (hn : n ≤ 1048576) :
    Calls Tryz.prog 12 #[.agg #[.int .i64 r.way, .int .i64 r.pal.w, .int .i64 r.pal.d, .int .i64 r.pal.h, .int .i64 r.pal.gram, .int .i64 r.cls, .slice A1 n1 c1, .slice A2 n2 c2, .int .i64 r.master, .slice A3 n3 c3], .slice A n c, .int .i64 u] w fun e w' => e = .returned (.bool (roomB r us u)) ∧ Below w.heap.size w w' := by
  have HR := hide hr
  have HS := hide hs
  have HLU := hide hs.len
  clear hr hs
  obtain ⟨us', hus⟩ : ∃ z, us ++ [u] = z := ⟨_, rfl⟩
  have HUS := hide hus
  obtain ⟨bo, hbo⟩ : ∃ bo, (findTy r.types r.master).isSome = bo := ⟨_, rfl⟩
  obtain ⟨t, hT⟩ : ∃ T, masterTy r = T := ⟨_, rfl⟩
  obtain ⟨b1, hb1⟩ : ∃ B, decide (classN r = 0) = B := ⟨_, rfl⟩
  obtain ⟨b2, hb2⟩ : ∃ B, withinB r us' t = B := ⟨_, rfl⟩
  have HF := hide (show roomB r us u = (b1 && b2) by rw [← hb1, ← hb2, ← hT, ← hus]; rfl)
  have HMa := hide (master_any r A1 A2 A3 n1 n2 n3 c1 c2 c3 lo hi)
  have HSo := hide (sound_any r A1 A2 A3 n1 n2 n3 c1 c2 c3 lo hi)
  have HWi := hide (fun lo2 hi2 A n c => within_any r A1 A2 A3 n1 n2 n3 c1 c2 c3 lo hi lo2 hi2 A n c us' t)
  rw [hb1] at HSo
  rw [hb2] at HWi
  change tyD (findTy r.types r.master) = t at hT
  rw [hT, hbo] at HMa
  obtain ⟨B, hBB⟩ : ∃ B, roomB r us u = B := ⟨_, rfl⟩
  rw [hBB] at HF ⊢
  clear hT hbo hb1 hb2 hus hBB
  cases b1
  case false =>
    have HF := hide (show B = false by rw [HF.out]; rfl)
    go_enter Tryz.func12, Tryz.ntmps12
    go_wp2_with fail
    refine (HMa.out _ (HR.out.below (B := w.heap.size) (by repeat (first | with_reducible exact Below.refl _ _ | with_reducible assumption | with_reducible refine Below.setCell ?_ (by (try simp) <;> omega) _ | with_reducible refine Below.alloc ?_ (by (try simp) <;> omega) _ | with_reducible refine Below.drew ?_ | with_reducible refine below_drewN ?_ _)) hB) (by (try simp) <;> omega)).mono ?_
    rintro e w1 ⟨rfl, hb1⟩
    have L1 := hide (show Below w.heap.size w w1 from (by repeat (first | with_reducible exact Below.refl _ _ | with_reducible assumption | with_reducible refine Below.setCell ?_ (by (try simp) <;> omega) _ | with_reducible refine Below.alloc ?_ (by (try simp) <;> omega) _ | with_reducible refine Below.drew ?_ | with_reducible refine below_drewN ?_ _ | with_reducible exact hb1 | with_reducible refine Below.trans ?_ (Below.mono hb1 (by (try simp) <;> omega)))))
    have P1 := hide (Blk.belowH (Blk.new w 37 (#[.int .i64 r.way, .int .i64 r.pal.w, .int .i64 r.pal.d, .int .i64 r.pal.h, .int .i64 r.pal.gram, .int .i64 r.cls, .slice A1 n1 c1, .slice A2 n2 c2, .int .i64 r.master, .slice A3 n3 c3]) (g := w.heap.size) (by simp)) hb1)
    have z1 : w.heap.size + 1 ≤ w1.heap.size := by simpa using hb1.size
    clear hb1
    have kR := P1.out.cell
    have yR := P1.out.lt
    have kT := (Blk.new w1 48 #[.int .i64 t.id, .int .i64 t.w, .int .i64 t.h, .int .i64 t.d, .int .i64 t.tare, .int .i64 t.gram, .int .i64 t.cost] rfl).cell
    go_wp2_with fail
    have HB_0 := hide (show Below w.heap.size w (w1.alloc (.cells #[.int .i64 t.id, .int .i64 t.w, .int .i64 t.h, .int .i64 t.d, .int .i64 t.tare, .int .i64 t.gram, .int .i64 t.cost] 48)).drew from (by repeat (first | with_reducible exact Below.refl _ _ | with_reducible assumption | with_reducible refine Below.setCell ?_ (by (try simp) <;> omega) _ | with_reducible refine Below.alloc ?_ (by (try simp) <;> omega) _ | with_reducible refine Below.drew ?_ | with_reducible refine below_drewN ?_ _ | with_reducible exact L1.out | with_reducible refine Below.trans ?_ (Below.mono L1.out (by (try simp) <;> omega)))))
    have PR_0 := hide (show Blk (w1.alloc (.cells #[.int .i64 t.id, .int .i64 t.w, .int .i64 t.h, .int .i64 t.d, .int .i64 t.tare, .int .i64 t.gram, .int .i64 t.cost] 48)).drew w.heap.size 37 (#[.int .i64 r.way, .int .i64 r.pal.w, .int .i64 r.pal.d, .int .i64 r.pal.h, .int .i64 r.pal.gram, .int .i64 r.cls, .slice A1 n1 c1, .slice A2 n2 c2, .int .i64 r.master, .slice A3 n3 c3]) from (P1.out.alloc _).drew)
    have PT_0 := hide (show Blk (w1.alloc (.cells #[.int .i64 t.id, .int .i64 t.w, .int .i64 t.h, .int .i64 t.d, .int .i64 t.tare, .int .i64 t.gram, .int .i64 t.cost] 48)).drew w1.heap.size 48 (#[.int .i64 t.id, .int .i64 t.w, .int .i64 t.h, .int .i64 t.d, .int .i64 t.tare, .int .i64 t.gram, .int .i64 t.cost]) from (Blk.new w1 48 (#[.int .i64 t.id, .int .i64 t.w, .int .i64 t.h, .int .i64 t.d, .int .i64 t.tare, .int .i64 t.gram, .int .i64 t.cost]) (g := w1.heap.size) rfl).drew)
    have z0 : w1.heap.size + 1 ≤ ((w1.alloc (.cells #[.int .i64 t.id, .int .i64 t.w, .int .i64 t.h, .int .i64 t.d, .int .i64 t.tare, .int .i64 t.gram, .int .i64 t.cost] 48)).drew).heap.size := by simp
    refine wp_region_held_drew (S := (fun w' => w'.cell? ⟨w.heap.size, 0, none⟩ = some (.int .i64 r.way) ∧ w'.cell? ⟨w.heap.size, 1, none⟩ = some (.int .i64 r.pal.w) ∧ w'.cell? ⟨w.heap.size, 2, none⟩ = some (.int .i64 r.pal.d) ∧ w'.cell? ⟨w.heap.size, 3, none⟩ = some (.int .i64 r.pal.h) ∧ w'.cell? ⟨w.heap.size, 4, none⟩ = some (.int .i64 r.pal.gram) ∧ w'.cell? ⟨w.heap.size, 5, none⟩ = some (.int .i64 r.cls) ∧ w'.cell? ⟨w.heap.size, 6, none⟩ = some (.slice A1 n1 c1) ∧ w'.cell? ⟨w.heap.size, 7, none⟩ = some (.slice A2 n2 c2) ∧ w'.cell? ⟨w.heap.size, 8, none⟩ = some (.int .i64 r.master) ∧ w'.cell? ⟨w.heap.size, 9, none⟩ = some (.slice A3 n3 c3) ∧ w'.cell? ⟨w1.heap.size, 0, none⟩ = some (.int .i64 t.id) ∧ w'.cell? ⟨w1.heap.size, 1, none⟩ = some (.int .i64 t.w) ∧ w'.cell? ⟨w1.heap.size, 2, none⟩ = some (.int .i64 t.h) ∧ w'.cell? ⟨w1.heap.size, 3, none⟩ = some (.int .i64 t.d) ∧ w'.cell? ⟨w1.heap.size, 4, none⟩ = some (.int .i64 t.tare) ∧ w'.cell? ⟨w1.heap.size, 5, none⟩ = some (.int .i64 t.gram) ∧ w'.cell? ⟨w1.heap.size, 6, none⟩ = some (.int .i64 t.cost))) (by kernel_rfl) ?hS0 (fun hHeld => ?_)
    case hS0 => (go_keep)
    obtain ⟨w0, hw0⟩ : ∃ y, (w1.alloc (.cells #[.int .i64 t.id, .int .i64 t.w, .int .i64 t.h, .int .i64 t.d, .int .i64 t.tare, .int .i64 t.gram, .int .i64 t.cost] 48)).drew = y := ⟨_, rfl⟩
    rw [hw0] at HB_0 PR_0 PT_0 z0 hHeld ⊢
    clear hw0 kR kT yR
    have kR := PR_0.out.cell
    have kT := PT_0.out.cell
    refine wpAnyH_take (i := 0) (v := ?_) rfl (by kernel_rfl) (by kernel_rfl) (by kernel_rfl) (fun _ _ _ h => h) (Or.inl ⟨by rfl, ?_⟩) (by assumption) ?_
    rotate_left 1
    · intro w hSw
      try dsimp only at hSw
      go_simp
      try with_reducible rfl
    simp only [Act.put, List.getElem_toArray, List.getElem_cons_succ, List.getElem_cons_zero, List.setIfInBounds_toArray, List.set_cons_zero, List.set_cons_succ]
    clear kR kT
    refine wpAnyH_ready (rs := [1]) (by kernel_rfl) (by simp) ?_
    refine AllReadyH.cons rfl (fun K hK => ?_) ?_
    · skip
      go_simp
      go_at_call 50
      (with_reducible refine (HSo.out _ (HR.out.below HB_0.out hB) (by omega)).mono ?_)
      rintro e w2 ⟨rfl, hb⟩
      have z2 := hb.size
      have HB_1 := hide (HB_0.out.trans (hb.mono (by omega)))
      have PR_1 := hide (PR_0.out.belowH hb)
      have PT_1 := hide (PT_0.out.belowH hb)
      clear hb HB_0 PR_0 PT_0
      go_wp2_with fail
      have kR := PR_1.out.cell
      have kT := PT_1.out.cell
      refine hK.out _ _ ?hS1 (fun hHeld => ?_)
      case hS1 => (try dsimp only); (go_keep)
      clear hK K
      try simp only [Act.put, List.getElem_toArray, List.getElem_cons_succ, List.getElem_cons_zero, List.setIfInBounds_toArray, List.set_cons_zero, List.set_cons_succ]
      refine wpAnyH_take (i := 2) (v := ?_) rfl (by kernel_rfl) (by kernel_rfl) (by kernel_rfl) (fun _ _ _ h => h) (Or.inl ⟨by rfl, ?_⟩) (by assumption) ?_
      rotate_left 1
      · intro w hSw
        try dsimp only at hSw
        go_simp
        try with_reducible rfl
      simp only [Act.put, List.getElem_toArray, List.getElem_cons_succ, List.getElem_cons_zero, List.setIfInBounds_toArray, List.set_cons_zero, List.set_cons_succ]
      refine wpAnyH_take (i := 3) (v := undef) rfl (by kernel_rfl) (by kernel_rfl) (by kernel_rfl) (fun _ _ _ h => h) (Or.inr ⟨by rfl, rfl⟩) (by assumption) ?_
      simp only [Act.put, List.getElem_toArray, List.getElem_cons_succ, List.getElem_cons_zero, List.setIfInBounds_toArray, List.set_cons_zero, List.set_cons_succ]
      refine wpAnyH_take (i := 4) (v := undef) rfl (by kernel_rfl) (by kernel_rfl) (by kernel_rfl) (fun _ _ _ h => h) (Or.inr ⟨by rfl, rfl⟩) (by assumption) ?_
      simp only [Act.put, List.getElem_toArray, List.getElem_cons_succ, List.getElem_cons_zero, List.setIfInBounds_toArray, List.set_cons_zero, List.set_cons_succ]
      refine wpAnyH_take (i := 5) (v := undef) rfl (by kernel_rfl) (by kernel_rfl) (by kernel_rfl) (fun _ _ _ h => h) (Or.inr ⟨by rfl, rfl⟩) (by assumption) ?_
      simp only [Act.put, List.getElem_toArray, List.getElem_cons_succ, List.getElem_cons_zero, List.setIfInBounds_toArray, List.set_cons_zero, List.set_cons_succ]
      refine wpAnyH_take (i := 6) (v := undef) rfl (by kernel_rfl) (by kernel_rfl) (by kernel_rfl) (fun _ _ _ h => h) (Or.inr ⟨by rfl, rfl⟩) (by assumption) ?_
      simp only [Act.put, List.getElem_toArray, List.getElem_cons_succ, List.getElem_cons_zero, List.setIfInBounds_toArray, List.set_cons_zero, List.set_cons_succ]
      refine wpAnyH_take (i := 7) (v := undef) rfl (by kernel_rfl) (by kernel_rfl) (by kernel_rfl) (fun _ _ _ h => h) (Or.inr ⟨by rfl, rfl⟩) (by assumption) ?_
      simp only [Act.put, List.getElem_toArray, List.getElem_cons_succ, List.getElem_cons_zero, List.setIfInBounds_toArray, List.set_cons_zero, List.set_cons_succ]
      refine wpAnyH_take (i := 8) (v := undef) rfl (by kernel_rfl) (by kernel_rfl) (by kernel_rfl) (fun _ _ _ h => h) (Or.inr ⟨by rfl, rfl⟩) (by assumption) ?_
      simp only [Act.put, List.getElem_toArray, List.getElem_cons_succ, List.getElem_cons_zero, List.setIfInBounds_toArray, List.set_cons_zero, List.set_cons_succ]
      refine wpAnyH_take (i := 9) (v := undef) rfl (by kernel_rfl) (by kernel_rfl) (by kernel_rfl) (fun _ _ _ h => h) (Or.inr ⟨by rfl, rfl⟩) (by assumption) ?_
      simp only [Act.put, List.getElem_toArray, List.getElem_cons_succ, List.getElem_cons_zero, List.setIfInBounds_toArray, List.set_cons_zero, List.set_cons_succ]
      refine wpAnyH_take (i := 10) (v := undef) rfl (by kernel_rfl) (by kernel_rfl) (by kernel_rfl) (fun _ _ _ h => h) (Or.inr ⟨by rfl, rfl⟩) (by assumption) ?_
      simp only [Act.put, List.getElem_toArray, List.getElem_cons_succ, List.getElem_cons_zero, List.setIfInBounds_toArray, List.set_cons_zero, List.set_cons_succ]
      refine wpAnyH_take (i := 11) (v := ?_) rfl (by kernel_rfl) (by kernel_rfl) (by kernel_rfl) (fun _ _ _ h => h) (Or.inl ⟨by rfl, ?_⟩) (by assumption) ?_
      rotate_left 1
      · intro w hSw
        try dsimp only at hSw
        go_simp
        try with_reducible rfl
      simp only [Act.put, List.getElem_toArray, List.getElem_cons_succ, List.getElem_cons_zero, List.setIfInBounds_toArray, List.set_cons_zero, List.set_cons_succ]
      refine wpAnyH_take (i := 12) (v := ?_) rfl (by kernel_rfl) (by kernel_rfl) (by kernel_rfl) (fun _ _ _ h => h) (Or.inl ⟨by rfl, ?_⟩) (by assumption) ?_
      rotate_left 1
      · intro w hSw
        try dsimp only at hSw
        go_simp
        try with_reducible rfl
      simp only [Act.put, List.getElem_toArray, List.getElem_cons_succ, List.getElem_cons_zero, List.setIfInBounds_toArray, List.set_cons_zero, List.set_cons_succ]
      refine wpAnyH_done (by kernel_rfl) ?_ _
      go_wp2
      go_ret
      exact ⟨ret_bool HF.out.symm, (by repeat (first | with_reducible exact Below.refl _ _ | with_reducible assumption | with_reducible refine Below.setCell ?_ (by (try simp) <;> omega) _ | with_reducible refine Below.alloc ?_ (by (try simp) <;> omega) _ | with_reducible refine Below.drew ?_ | with_reducible refine below_drewN ?_ _ | with_reducible exact HB_1.out | with_reducible refine Below.trans ?_ (Below.mono HB_1.out (by (try simp) <;> omega))))⟩
    exact AllReadyH.nil
  case true =>
    have HF := hide (show B = b2 by rw [HF.out]; rfl)
    go_enter Tryz.func12, Tryz.ntmps12
    go_wp2_with fail
    refine (HMa.out _ (HR.out.below (B := w.heap.size) (by repeat (first | with_reducible exact Below.refl _ _ | with_reducible assumption | with_reducible refine Below.setCell ?_ (by (try simp) <;> omega) _ | with_reducible refine Below.alloc ?_ (by (try simp) <;> omega) _ | with_reducible refine Below.drew ?_ | with_reducible refine below_drewN ?_ _)) hB) (by (try simp) <;> omega)).mono ?_
    rintro e w1 ⟨rfl, hb1⟩
    have L1 := hide (show Below w.heap.size w w1 from (by repeat (first | with_reducible exact Below.refl _ _ | with_reducible assumption | with_reducible refine Below.setCell ?_ (by (try simp) <;> omega) _ | with_reducible refine Below.alloc ?_ (by (try simp) <;> omega) _ | with_reducible refine Below.drew ?_ | with_reducible refine below_drewN ?_ _ | with_reducible exact hb1 | with_reducible refine Below.trans ?_ (Below.mono hb1 (by (try simp) <;> omega)))))
    have P1 := hide (Blk.belowH (Blk.new w 37 (#[.int .i64 r.way, .int .i64 r.pal.w, .int .i64 r.pal.d, .int .i64 r.pal.h, .int .i64 r.pal.gram, .int .i64 r.cls, .slice A1 n1 c1, .slice A2 n2 c2, .int .i64 r.master, .slice A3 n3 c3]) (g := w.heap.size) (by simp)) hb1)
    have z1 : w.heap.size + 1 ≤ w1.heap.size := by simpa using hb1.size
    clear hb1
    have kR := P1.out.cell
    have yR := P1.out.lt
    have kT := (Blk.new w1 48 #[.int .i64 t.id, .int .i64 t.w, .int .i64 t.h, .int .i64 t.d, .int .i64 t.tare, .int .i64 t.gram, .int .i64 t.cost] rfl).cell
    go_wp2_with fail
    have HB_0 := hide (show Below w.heap.size w (w1.alloc (.cells #[.int .i64 t.id, .int .i64 t.w, .int .i64 t.h, .int .i64 t.d, .int .i64 t.tare, .int .i64 t.gram, .int .i64 t.cost] 48)).drew from (by repeat (first | with_reducible exact Below.refl _ _ | with_reducible assumption | with_reducible refine Below.setCell ?_ (by (try simp) <;> omega) _ | with_reducible refine Below.alloc ?_ (by (try simp) <;> omega) _ | with_reducible refine Below.drew ?_ | with_reducible refine below_drewN ?_ _ | with_reducible exact L1.out | with_reducible refine Below.trans ?_ (Below.mono L1.out (by (try simp) <;> omega)))))
    have PR_0 := hide (show Blk (w1.alloc (.cells #[.int .i64 t.id, .int .i64 t.w, .int .i64 t.h, .int .i64 t.d, .int .i64 t.tare, .int .i64 t.gram, .int .i64 t.cost] 48)).drew w.heap.size 37 (#[.int .i64 r.way, .int .i64 r.pal.w, .int .i64 r.pal.d, .int .i64 r.pal.h, .int .i64 r.pal.gram, .int .i64 r.cls, .slice A1 n1 c1, .slice A2 n2 c2, .int .i64 r.master, .slice A3 n3 c3]) from (P1.out.alloc _).drew)
    have PT_0 := hide (show Blk (w1.alloc (.cells #[.int .i64 t.id, .int .i64 t.w, .int .i64 t.h, .int .i64 t.d, .int .i64 t.tare, .int .i64 t.gram, .int .i64 t.cost] 48)).drew w1.heap.size 48 (#[.int .i64 t.id, .int .i64 t.w, .int .i64 t.h, .int .i64 t.d, .int .i64 t.tare, .int .i64 t.gram, .int .i64 t.cost]) from (Blk.new w1 48 (#[.int .i64 t.id, .int .i64 t.w, .int .i64 t.h, .int .i64 t.d, .int .i64 t.tare, .int .i64 t.gram, .int .i64 t.cost]) (g := w1.heap.size) rfl).drew)
    have z0 : w1.heap.size + 1 ≤ ((w1.alloc (.cells #[.int .i64 t.id, .int .i64 t.w, .int .i64 t.h, .int .i64 t.d, .int .i64 t.tare, .int .i64 t.gram, .int .i64 t.cost] 48)).drew).heap.size := by simp
    refine wp_region_held_drew (S := (fun w' => w'.cell? ⟨w.heap.size, 0, none⟩ = some (.int .i64 r.way) ∧ w'.cell? ⟨w.heap.size, 1, none⟩ = some (.int .i64 r.pal.w) ∧ w'.cell? ⟨w.heap.size, 2, none⟩ = some (.int .i64 r.pal.d) ∧ w'.cell? ⟨w.heap.size, 3, none⟩ = some (.int .i64 r.pal.h) ∧ w'.cell? ⟨w.heap.size, 4, none⟩ = some (.int .i64 r.pal.gram) ∧ w'.cell? ⟨w.heap.size, 5, none⟩ = some (.int .i64 r.cls) ∧ w'.cell? ⟨w.heap.size, 6, none⟩ = some (.slice A1 n1 c1) ∧ w'.cell? ⟨w.heap.size, 7, none⟩ = some (.slice A2 n2 c2) ∧ w'.cell? ⟨w.heap.size, 8, none⟩ = some (.int .i64 r.master) ∧ w'.cell? ⟨w.heap.size, 9, none⟩ = some (.slice A3 n3 c3) ∧ w'.cell? ⟨w1.heap.size, 0, none⟩ = some (.int .i64 t.id) ∧ w'.cell? ⟨w1.heap.size, 1, none⟩ = some (.int .i64 t.w) ∧ w'.cell? ⟨w1.heap.size, 2, none⟩ = some (.int .i64 t.h) ∧ w'.cell? ⟨w1.heap.size, 3, none⟩ = some (.int .i64 t.d) ∧ w'.cell? ⟨w1.heap.size, 4, none⟩ = some (.int .i64 t.tare) ∧ w'.cell? ⟨w1.heap.size, 5, none⟩ = some (.int .i64 t.gram) ∧ w'.cell? ⟨w1.heap.size, 6, none⟩ = some (.int .i64 t.cost))) (by kernel_rfl) ?hS0 (fun hHeld => ?_)
    case hS0 => (go_keep)
    obtain ⟨w0, hw0⟩ : ∃ y, (w1.alloc (.cells #[.int .i64 t.id, .int .i64 t.w, .int .i64 t.h, .int .i64 t.d, .int .i64 t.tare, .int .i64 t.gram, .int .i64 t.cost] 48)).drew = y := ⟨_, rfl⟩
    rw [hw0] at HB_0 PR_0 PT_0 z0 hHeld ⊢
    clear hw0 kR kT yR
    have kR := PR_0.out.cell
    have kT := PT_0.out.cell
    refine wpAnyH_take (i := 0) (v := ?_) rfl (by kernel_rfl) (by kernel_rfl) (by kernel_rfl) (fun _ _ _ h => h) (Or.inl ⟨by rfl, ?_⟩) (by assumption) ?_
    rotate_left 1
    · intro w hSw
      try dsimp only at hSw
      go_simp
      try with_reducible rfl
    simp only [Act.put, List.getElem_toArray, List.getElem_cons_succ, List.getElem_cons_zero, List.setIfInBounds_toArray, List.set_cons_zero, List.set_cons_succ]
    clear kR kT
    refine wpAnyH_ready (rs := [1]) (by kernel_rfl) (by simp) ?_
    refine AllReadyH.cons rfl (fun K hK => ?_) ?_
    · skip
      go_simp
      go_at_call 50
      (with_reducible refine (HSo.out _ (HR.out.below HB_0.out hB) (by omega)).mono ?_)
      rintro e w2 ⟨rfl, hb⟩
      have z2 := hb.size
      have HB_1 := hide (HB_0.out.trans (hb.mono (by omega)))
      have PR_1 := hide (PR_0.out.belowH hb)
      have PT_1 := hide (PT_0.out.belowH hb)
      clear hb HB_0 PR_0 PT_0
      go_wp2_with fail
      have kR := PR_1.out.cell
      have kT := PT_1.out.cell
      refine hK.out _ _ ?hS1 (fun hHeld => ?_)
      case hS1 => (try dsimp only); (go_keep)
      clear hK K
      try simp only [Act.put, List.getElem_toArray, List.getElem_cons_succ, List.getElem_cons_zero, List.setIfInBounds_toArray, List.set_cons_zero, List.set_cons_succ]
      refine wpAnyH_take (i := 2) (v := ?_) rfl (by kernel_rfl) (by kernel_rfl) (by kernel_rfl) (fun _ _ _ h => h) (Or.inl ⟨by rfl, ?_⟩) (by assumption) ?_
      rotate_left 1
      · intro w hSw
        try dsimp only at hSw
        go_simp
        try with_reducible rfl
      simp only [Act.put, List.getElem_toArray, List.getElem_cons_succ, List.getElem_cons_zero, List.setIfInBounds_toArray, List.set_cons_zero, List.set_cons_succ]
      refine wpAnyH_take (i := 3) (v := ?_) rfl (by kernel_rfl) (by kernel_rfl) (by kernel_rfl) (fun _ _ _ h => h) (Or.inl ⟨by rfl, ?_⟩) (by assumption) ?_
      rotate_left 1
      · intro w hSw
        try dsimp only at hSw
        go_simp
        try with_reducible rfl
      simp only [Act.put, List.getElem_toArray, List.getElem_cons_succ, List.getElem_cons_zero, List.setIfInBounds_toArray, List.set_cons_zero, List.set_cons_succ]
      refine wpAnyH_take (i := 4) (v := ?_) rfl (by kernel_rfl) (by kernel_rfl) (by kernel_rfl) (fun _ _ _ h => h) (Or.inl ⟨by rfl, ?_⟩) (by assumption) ?_
      rotate_left 1
      · intro w hSw
        try dsimp only at hSw
        go_simp
        try with_reducible rfl
      simp only [Act.put, List.getElem_toArray, List.getElem_cons_succ, List.getElem_cons_zero, List.setIfInBounds_toArray, List.set_cons_zero, List.set_cons_succ]
      refine wpAnyH_take (i := 6) (v := ?_) rfl (by kernel_rfl) (by kernel_rfl) (by kernel_rfl) (fun _ _ _ h => h) (Or.inl ⟨by rfl, ?_⟩) (by assumption) ?_
      rotate_left 1
      · intro w hSw
        try dsimp only at hSw
        go_simp
        try with_reducible rfl
      simp only [Act.put, List.getElem_toArray, List.getElem_cons_succ, List.getElem_cons_zero, List.setIfInBounds_toArray, List.set_cons_zero, List.set_cons_succ]
      refine wpAnyH_take (i := 9) (v := ?_) rfl (by kernel_rfl) (by kernel_rfl) (by kernel_rfl) (fun _ _ _ h => h) (Or.inl ⟨by rfl, ?_⟩) (by assumption) ?_
      rotate_left 1
      · intro w hSw
        try dsimp only at hSw
        go_simp
        try with_reducible rfl
      simp only [Act.put, List.getElem_toArray, List.getElem_cons_succ, List.getElem_cons_zero, List.setIfInBounds_toArray, List.set_cons_zero, List.set_cons_succ]
      clear kR kT
      refine wpAnyH_ready (rs := [5, 7]) (by kernel_rfl) (by simp) ?_
      refine AllReadyH.cons rfl (fun K hK => ?_) ?_
      · skip
        go_simp
        go_at_call 52
        (with_reducible refine (clone_ints lo2 hi2 A n c us _ (HS.out.below HB_1.out hB2) (by omega)).mono ?_)
        rintro e w3 ⟨v1, rfl, ho, hb⟩
        have z3 := hb.size
        have HO_2 := hide ho
        have HB_2 := hide (HB_1.out.trans (hb.mono (by omega)))
        have PR_2 := hide (PR_1.out.belowH hb)
        have PT_2 := hide (PT_1.out.belowH hb)
        clear HB_1 PR_1 PT_1
        clear hb ho
        go_wp2_with fail
        have kR := PR_2.out.cell
        have kT := PT_2.out.cell
        refine hK.out _ _ ?hS1 (fun hHeld => ?_)
        case hS1 => (try dsimp only); (go_keep)
        clear hK K
        try simp only [Act.put, List.getElem_toArray, List.getElem_cons_succ, List.getElem_cons_zero, List.setIfInBounds_toArray, List.set_cons_zero, List.set_cons_succ]
        clear kR kT
        refine wpAnyH_ready (rs := [7]) (by kernel_rfl) (by simp) ?_
        refine AllReadyH.cons rfl (fun K hK => ?_) ?_
        · skip
          go_simp
          have HU1_3 := hide (slk_one w3 u 3)
          have z4 : w3.heap.size + 1 ≤ (w3.alloc (.cells #[.int .i64 u] 3)).heap.size := by simp
          have HB_3 := hide (HB_2.out.alloc (by omega) (.cells #[.int .i64 u] 3))
          have PR_3 := hide (PR_2.out.alloc (.cells #[.int .i64 u] 3))
          have PT_3 := hide (PT_2.out.alloc (.cells #[.int .i64 u] 3))
          have HO_3 := hide (HO_2.out.alloc (.cells #[.int .i64 u] 3))
          clear HB_2 PR_2 PT_2
          clear HO_2
          obtain ⟨y1, hy1⟩ : ∃ y, w3.heap.size = y := ⟨_, rfl⟩
          have y1a : y1 + 1 ≤ (w3.alloc (.cells #[.int .i64 u] 3)).heap.size := by rw [← hy1]; exact z4
          obtain ⟨w4, hw⟩ : ∃ y, (w3.alloc (.cells #[.int .i64 u] 3)) = y := ⟨_, rfl⟩
          rw [hw] at HB_3 PR_3 PT_3 HU1_3 HO_3 z4 y1a ⊢
          rw [hy1] at HU1_3 ⊢
          clear hw hy1
          have kR := PR_3.out.cell
          have kT := PT_3.out.cell
          refine hK.out _ _ ?hS1 (fun hHeld => ?_)
          case hS1 => (try dsimp only); (go_keep)
          clear hK K
          try simp only [Act.put, List.getElem_toArray, List.getElem_cons_succ, List.getElem_cons_zero, List.setIfInBounds_toArray, List.set_cons_zero, List.set_cons_succ]
          clear kR kT
          refine wpAnyH_ready (rs := [8]) (by kernel_rfl) (by simp) ?_
          refine AllReadyH.cons rfl (fun K hK => ?_) ?_
          · skip
            refine step_appG (by rfl) (.tmp 19) (.tmp 21) rfl (by simp [Act.eval, Act.put]) (by simp [Act.eval, Act.put]) (appL HO_3.out (by omega) HU1_3.out (by rw [HLU.out]; omega)) ?_
            intro v2 w5 ho hg hat
            have z5 : w4.heap.size ≤ w5.heap.size := hg.size
            have HB_4 := hide (below_app0 HB_3.out (HO_3.out.base_le (base' := w.heap.size) (by omega)) (by omega) hg)
            have PR_4 := hide (PR_3.out.grown hg (fun e => by have := (HO_3.out.lt _ e.symm).1; have := PR_3.out.lt; omega))
            have PT_4 := hide (PT_3.out.grown hg (fun e => by have := (HO_3.out.lt _ e.symm).1; have := PT_3.out.lt; omega))
            obtain ⟨A9, c9, rfl, hs9⟩ := Own.slk' encInt_len (n := n + 1) (by rw [List.length_append, HLU.out]; rfl) ho
            rw [HUS.out] at hs9
            have HS9 := hide hs9
            clear ho hg hat hs9 HB_3 PR_3 PT_3 HO_3 HU1_3
            have kR := PR_4.out.cell
            have kT := PT_4.out.cell
            refine hK.out _ _ ?hS1 (fun hHeld => ?_)
            case hS1 => (try dsimp only); (go_keep)
            clear hK K
            try simp only [Act.put, List.getElem_toArray, List.getElem_cons_succ, List.getElem_cons_zero, List.setIfInBounds_toArray, List.set_cons_zero, List.set_cons_succ]
            refine wpAnyH_ready (rs := [10]) (by kernel_rfl) (by simp) ?_
            refine AllReadyH.cons rfl (fun K hK => ?_) ?_
            · skip
              go_simp
              go_at_call 51
              (with_reducible refine (HWi.out _ _ A9 (n + 1) c9 _ (HR.out.below HB_4.out hB) (by omega) HS9.out (by omega) (by omega)).mono ?_)
              rintro e w6 ⟨rfl, hb⟩
              have z6 := hb.size
              have HB_5 := hide (HB_4.out.trans (hb.mono (by omega)))
              have PR_5 := hide (PR_4.out.belowH hb)
              have PT_5 := hide (PT_4.out.belowH hb)
              clear HB_4 PR_4 PT_4
              clear hb
              go_wp2_with fail
              have kR := PR_5.out.cell
              have kT := PT_5.out.cell
              refine hK.out _ _ ?hS1 (fun hHeld => ?_)
              case hS1 => (try dsimp only); (go_keep)
              clear hK K
              try simp only [Act.put, List.getElem_toArray, List.getElem_cons_succ, List.getElem_cons_zero, List.setIfInBounds_toArray, List.set_cons_zero, List.set_cons_succ]
              refine wpAnyH_take (i := 11) (v := ?_) rfl (by kernel_rfl) (by kernel_rfl) (by kernel_rfl) (fun _ _ _ h => h) (Or.inl ⟨by rfl, ?_⟩) (by assumption) ?_
              rotate_left 1
              · intro w hSw
                try dsimp only at hSw
                go_simp
                try with_reducible rfl
              simp only [Act.put, List.getElem_toArray, List.getElem_cons_succ, List.getElem_cons_zero, List.setIfInBounds_toArray, List.set_cons_zero, List.set_cons_succ]
              refine wpAnyH_take (i := 12) (v := ?_) rfl (by kernel_rfl) (by kernel_rfl) (by kernel_rfl) (fun _ _ _ h => h) (Or.inl ⟨by rfl, ?_⟩) (by assumption) ?_
              rotate_left 1
              · intro w hSw
                try dsimp only at hSw
                go_simp
                try with_reducible rfl
              simp only [Act.put, List.getElem_toArray, List.getElem_cons_succ, List.getElem_cons_zero, List.setIfInBounds_toArray, List.set_cons_zero, List.set_cons_succ]
              refine wpAnyH_done (by kernel_rfl) ?_ _
              go_wp2
              go_ret
              exact ⟨ret_bool HF.out.symm, (by repeat (first | with_reducible exact Below.refl _ _ | with_reducible assumption | with_reducible refine Below.setCell ?_ (by (try simp) <;> omega) _ | with_reducible refine Below.alloc ?_ (by (try simp) <;> omega) _ | with_reducible refine Below.drew ?_ | with_reducible refine below_drewN ?_ _ | with_reducible exact HB_5.out | with_reducible refine Below.trans ?_ (Below.mono HB_5.out (by (try simp) <;> omega))))⟩
            exact AllReadyH.nil
          exact AllReadyH.nil
        exact AllReadyH.nil
      refine AllReadyH.cons rfl (fun K hK => ?_) ?_
      · skip
        go_simp
        have HU1_2 := hide (slk_one w2 u 3)
        have z3 : w2.heap.size + 1 ≤ (w2.alloc (.cells #[.int .i64 u] 3)).heap.size := by simp
        have HB_2 := hide (HB_1.out.alloc (by omega) (.cells #[.int .i64 u] 3))
        have PR_2 := hide (PR_1.out.alloc (.cells #[.int .i64 u] 3))
        have PT_2 := hide (PT_1.out.alloc (.cells #[.int .i64 u] 3))
        clear HB_1 PR_1 PT_1
        obtain ⟨y1, hy1⟩ : ∃ y, w2.heap.size = y := ⟨_, rfl⟩
        have y1a : y1 + 1 ≤ (w2.alloc (.cells #[.int .i64 u] 3)).heap.size := by rw [← hy1]; exact z3
        obtain ⟨w3, hw⟩ : ∃ y, (w2.alloc (.cells #[.int .i64 u] 3)) = y := ⟨_, rfl⟩
        rw [hw] at HB_2 PR_2 PT_2 HU1_2 z3 y1a ⊢
        rw [hy1] at HU1_2 ⊢
        clear hw hy1
        have kR := PR_2.out.cell
        have kT := PT_2.out.cell
        refine hK.out _ _ ?hS1 (fun hHeld => ?_)
        case hS1 => (try dsimp only); (go_keep)
        clear hK K
        try simp only [Act.put, List.getElem_toArray, List.getElem_cons_succ, List.getElem_cons_zero, List.setIfInBounds_toArray, List.set_cons_zero, List.set_cons_succ]
        clear kR kT
        refine wpAnyH_ready (rs := [5]) (by kernel_rfl) (by simp) ?_
        refine AllReadyH.cons rfl (fun K hK => ?_) ?_
        · skip
          go_simp
          go_at_call 52
          (with_reducible refine (clone_ints lo2 hi2 A n c us _ (HS.out.below HB_2.out hB2) (by omega)).mono ?_)
          rintro e w4 ⟨v1, rfl, ho, hb⟩
          have z4 := hb.size
          have HO_3 := hide ho
          have HB_3 := hide (HB_2.out.trans (hb.mono (by omega)))
          have PR_3 := hide (PR_2.out.belowH hb)
          have PT_3 := hide (PT_2.out.belowH hb)
          have HU1_3 := hide (HU1_2.out.below hb (by omega))
          clear HB_2 PR_2 PT_2
          clear HU1_2
          clear hb ho
          go_wp2_with fail
          have kR := PR_3.out.cell
          have kT := PT_3.out.cell
          refine hK.out _ _ ?hS1 (fun hHeld => ?_)
          case hS1 => (try dsimp only); (go_keep)
          clear hK K
          try simp only [Act.put, List.getElem_toArray, List.getElem_cons_succ, List.getElem_cons_zero, List.setIfInBounds_toArray, List.set_cons_zero, List.set_cons_succ]
          clear kR kT
          refine wpAnyH_ready (rs := [8]) (by kernel_rfl) (by simp) ?_
          refine AllReadyH.cons rfl (fun K hK => ?_) ?_
          · skip
            refine step_appG (by rfl) (.tmp 19) (.tmp 21) rfl (by simp [Act.eval, Act.put]) (by simp [Act.eval, Act.put]) (appL HO_3.out (by omega) HU1_3.out (by rw [HLU.out]; omega)) ?_
            intro v2 w5 ho hg hat
            have z5 : w4.heap.size ≤ w5.heap.size := hg.size
            have HB_4 := hide (below_app0 HB_3.out (HO_3.out.base_le (base' := w.heap.size) (by omega)) (by omega) hg)
            have PR_4 := hide (PR_3.out.grown hg (fun e => by have := (HO_3.out.lt _ e.symm).1; have := PR_3.out.lt; omega))
            have PT_4 := hide (PT_3.out.grown hg (fun e => by have := (HO_3.out.lt _ e.symm).1; have := PT_3.out.lt; omega))
            obtain ⟨A9, c9, rfl, hs9⟩ := Own.slk' encInt_len (n := n + 1) (by rw [List.length_append, HLU.out]; rfl) ho
            rw [HUS.out] at hs9
            have HS9 := hide hs9
            clear ho hg hat hs9 HB_3 PR_3 PT_3 HO_3 HU1_3
            have kR := PR_4.out.cell
            have kT := PT_4.out.cell
            refine hK.out _ _ ?hS1 (fun hHeld => ?_)
            case hS1 => (try dsimp only); (go_keep)
            clear hK K
            try simp only [Act.put, List.getElem_toArray, List.getElem_cons_succ, List.getElem_cons_zero, List.setIfInBounds_toArray, List.set_cons_zero, List.set_cons_succ]
            refine wpAnyH_ready (rs := [10]) (by kernel_rfl) (by simp) ?_
            refine AllReadyH.cons rfl (fun K hK => ?_) ?_
            · skip
              go_simp
              go_at_call 51
              (with_reducible refine (HWi.out _ _ A9 (n + 1) c9 _ (HR.out.below HB_4.out hB) (by omega) HS9.out (by omega) (by omega)).mono ?_)
              rintro e w6 ⟨rfl, hb⟩
              have z6 := hb.size
              have HB_5 := hide (HB_4.out.trans (hb.mono (by omega)))
              have PR_5 := hide (PR_4.out.belowH hb)
              have PT_5 := hide (PT_4.out.belowH hb)
              clear HB_4 PR_4 PT_4
              clear hb
              go_wp2_with fail
              have kR := PR_5.out.cell
              have kT := PT_5.out.cell
              refine hK.out _ _ ?hS1 (fun hHeld => ?_)
              case hS1 => (try dsimp only); (go_keep)
              clear hK K
              try simp only [Act.put, List.getElem_toArray, List.getElem_cons_succ, List.getElem_cons_zero, List.setIfInBounds_toArray, List.set_cons_zero, List.set_cons_succ]
              refine wpAnyH_take (i := 11) (v := ?_) rfl (by kernel_rfl) (by kernel_rfl) (by kernel_rfl) (fun _ _ _ h => h) (Or.inl ⟨by rfl, ?_⟩) (by assumption) ?_
              rotate_left 1
              · intro w hSw
                try dsimp only at hSw
                go_simp
                try with_reducible rfl
              simp only [Act.put, List.getElem_toArray, List.getElem_cons_succ, List.getElem_cons_zero, List.setIfInBounds_toArray, List.set_cons_zero, List.set_cons_succ]
              refine wpAnyH_take (i := 12) (v := ?_) rfl (by kernel_rfl) (by kernel_rfl) (by kernel_rfl) (fun _ _ _ h => h) (Or.inl ⟨by rfl, ?_⟩) (by assumption) ?_
              rotate_left 1
              · intro w hSw
                try dsimp only at hSw
                go_simp
                try with_reducible rfl
              simp only [Act.put, List.getElem_toArray, List.getElem_cons_succ, List.getElem_cons_zero, List.setIfInBounds_toArray, List.set_cons_zero, List.set_cons_succ]
              refine wpAnyH_done (by kernel_rfl) ?_ _
              go_wp2
              go_ret
              exact ⟨ret_bool HF.out.symm, (by repeat (first | with_reducible exact Below.refl _ _ | with_reducible assumption | with_reducible refine Below.setCell ?_ (by (try simp) <;> omega) _ | with_reducible refine Below.alloc ?_ (by (try simp) <;> omega) _ | with_reducible refine Below.drew ?_ | with_reducible refine below_drewN ?_ _ | with_reducible exact HB_5.out | with_reducible refine Below.trans ?_ (Below.mono HB_5.out (by (try simp) <;> omega))))⟩
            exact AllReadyH.nil
          exact AllReadyH.nil
        exact AllReadyH.nil
      exact AllReadyH.nil
    exact AllReadyH.nil
end Go.Proofs.YtehgdhekiogppaaGreat
