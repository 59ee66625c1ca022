/- TypeById and MasterOf, the program's and the reference's. -/
import Derived.Test.YtcjcmdikopipjaaF1
namespace Go.Proofs.Ytcjcmdikopipjaa
open Go.ChangeShapes Go.WideShapes Go.ChangeAt Go.RowKit Go.Deep
set_option linter.unusedVariables false

def ty0 : Ty := ⟨0, 0, 0, 0, 0, 0, 0⟩
/-- The first type of that number. -/
def findTy (types : List Ty) (id : Int) : Option Ty := types.find? fun t => t.id == id
def tyD (o : Option Ty) : Ty := o.getD ty0
theorem find_hit {α : Type} {p : α → Bool} {xs : List α} {k : Nat} {x : α} (hx : xs[k]? = some x) (hp : p x = true) (h : ∀ y ∈ xs.take k, p y = false) : xs.find? p = some x := by
  have hs : xs = xs.take k ++ x :: xs.drop (k + 1) := by
    have hk := (List.getElem?_eq_some_iff.1 hx)
    obtain ⟨hk, e⟩ := hk
    rw [← e, List.getElem_cons_drop]
    exact (List.take_append_drop k xs).symm
  rw [hs, List.find?_append]
  have : (xs.take k).find? p = none := List.find?_eq_none.2 fun y hy => by simp [h y hy]
  rw [this]
  simp [hp]
theorem find_miss {α : Type} {p : α → Bool} {xs : List α} (h : ∀ y ∈ xs, p y = false) : xs.find? p = none := List.find?_eq_none.2 fun y hy => by simp [h y hy]
theorem ret_ty {t u : Ty} {a b : Bool} (h : t = u) (h' : a = b) : Ending.returned (.tuple #[.agg #[.int .i64 t.id, .int .i64 t.w, .int .i64 t.h, .int .i64 t.d, .int .i64 t.tare, .int .i64 t.gram, .int .i64 t.cost], .bool a]) = .returned (.tuple #[.agg #[.int .i64 u.id, .int .i64 u.w, .int .i64 u.h, .int .i64 u.d, .int .i64 u.tare, .int .i64 u.gram, .int .i64 u.cost], .bool b]) := by rw [h, h']
set_option maxHeartbeats 1000000 in
theorem styById_any (r : Rq) (A1 A2 A3 : Option Addr) (n1 n2 n3 c1 c2 c3 : Nat) (lo hi : Nat) (id : Int) (w : World) (hr : RqAt w lo hi r A1 n1 c1 A2 n2 c2 A3 n3 c3) (hB : hi ≤ w.heap.size) :
    Calls Try.prog 42 #[.agg #[.int .i64 r.way, .int .i64 r.pal.w, .int .i64 r.pal.d, .int .i64 r.pal.h, .int .i64 r.pal.gram, .int .i64 r.cls, .slice A1 n1 c1, .slice A2 n2 c2, .int .i64 r.master, .slice A3 n3 c3], .int .i64 id] w fun e w' => e = .returned (.tuple #[.agg #[.int .i64 (tyD (findTy r.types id)).id, .int .i64 (tyD (findTy r.types id)).w, .int .i64 (tyD (findTy r.types id)).h, .int .i64 (tyD (findTy r.types id)).d, .int .i64 (tyD (findTy r.types id)).tare, .int .i64 (tyD (findTy r.types id)).gram, .int .i64 (tyD (findTy r.types id)).cost], .bool (findTy r.types id).isSome]) ∧ Below w.heap.size w w' := by
  have hs := hr.ty
  have hm := hs.max
  have hc := hs.cap
  have HL := hide hs.len
  go_enter Try.func42, Try.ntmps42
  go_wp2
  go_loop [6] (fun i => ∃ k : Nat, k ≤ n2 ∧ i = .int .i64 k ∧ ∀ y ∈ r.types.take k, (y.id == id) = false) (fun i => n2 - (intOf i).toNat)
  case atStart => exact ⟨0, Nat.zero_le _, rfl, by simp⟩
  case round =>
    obtain ⟨k, hk, rfl, hA⟩ := hrel
    have HA := hide hA
    clear hA
    by_cases hlt : k < n2
    · obtain ⟨b0, off, x, hx, rfl, _, hb, c0, c1', c2', c3', c4, c5, c6, _⟩ := hs.ty hlt
      have HX := hide hx
      have HS := hide hs
      have hb0 : b0 < w.heap.size := by omega
      clear hx hs hr
      cases hq : (x.id == id) with
      | true =>
        have HF := hide (show findTy r.types id = some x from find_hit HX.out hq HA.out)
        go_wp2
        refine bodyPost_ret (v := .tuple #[.agg #[.int .i64 x.id, .int .i64 x.w, .int .i64 x.h, .int .i64 x.d, .int .i64 x.tare, .int .i64 x.gram, .int .i64 x.cost], .bool true]) (by simp [results, Try.results42, go_sem]) rfl ⟨?_, ((Below.refl _ _).alloc (Nat.le_refl _) _).alloc (by simp) _⟩
        rw [HF.out]
        rfl
      | false =>
        go_wp2
        go_round
        case rel =>
          refine ⟨k + 1, by omega, by go_num, fun y hy => ?_⟩
          rcases mem_take_succ HX.out hy with h | h
          · exact HA.out y h
          · rw [h]; exact hq
        case measure => simp [intOf]; omega
    · have hge : n2 ≤ k := by omega
      clear hlt
      have HF := hide (show findTy r.types id = none from find_miss (by have := HA.out; rwa [List.take_of_length_le (by rw [HL.out]; omega)] at this))
      go_wp2
      refine bodyPost_ret (v := .tuple #[.agg #[.int .i64 ty0.id, .int .i64 ty0.w, .int .i64 ty0.h, .int .i64 ty0.d, .int .i64 ty0.tare, .int .i64 ty0.gram, .int .i64 ty0.cost], .bool false]) (by simp [results, Try.results42, go_sem, ty0]) rfl ⟨?_, ((Below.refl _ _).alloc (Nat.le_refl _) _).alloc (by simp) _⟩
      rw [HF.out]
      rfl
theorem predTyId (id : Int) (B : Nat) (w : World) (hB : B < w.heap.size) (hcell : w.cell? ⟨B, 0, none⟩ = some (.int .i64 id)) :
    PredB Try.prog 71 #[.pointer (some ⟨B, 0, none⟩)] valType (fun t => t.id == id) w := fun W x hb => by
  have hc : W.cell? ⟨B, 0, none⟩ = some (.int .i64 id) := (hb.cell (p := ⟨B, 0, none⟩) hB).trans hcell
  have hBW : B < W.heap.size := Nat.lt_of_lt_of_le hB hb.size
  have hne : B ≠ W.heap.size := by omega
  show Calls Try.prog 71 #[.agg #[.int .i64 x.id, .int .i64 x.w, .int .i64 x.h, .int .i64 x.d, .int .i64 x.tare, .int .i64 x.gram, .int .i64 x.cost], .pointer (some ⟨B, 0, none⟩)] W _
  go_enter Try.func71, Try.ntmps71
  go_wp2
  go_ret
  exact ⟨rfl, (Below.refl _ _).alloc (Nat.le_refl _) _⟩
theorem idx_find {p : Ty → Bool} {xs : List Ty} : (idxOf p xs = -1 ∧ xs.find? p = none) ∨ ∃ (k : Nat) (x : Ty), idxOf p xs = (k : Int) ∧ xs[k]? = some x ∧ xs.find? p = some x := by
  cases h : xs.findIdx? p with
  | none => exact .inl ⟨by unfold idxOf; rw [h], List.find?_eq_none.2 fun y hy => by simpa using List.findIdx?_eq_none_iff.1 h y hy⟩
  | some k =>
    obtain ⟨hk, hp, hn⟩ := List.findIdx?_eq_some_iff_getElem.1 h
    refine .inr ⟨k, xs[k], by unfold idxOf; rw [h], List.getElem?_eq_getElem hk, find_hit (List.getElem?_eq_getElem hk) hp fun y hy => ?_⟩
    obtain ⟨j, hj, rfl⟩ := List.mem_take_iff_getElem.1 hy
    simpa using hn j (by omega)
set_option maxRecDepth 20000 in
set_option maxHeartbeats 1000000 in
theorem tyById_any (r : Rq) (A1 A2 A3 : Option Addr) (n1 n2 n3 c1 c2 c3 : Nat) (lo hi : Nat) (id : Int) (w : World) (hr : RqAt w lo hi r A1 n1 c1 A2 n2 c2 A3 n3 c3) (hB : hi ≤ w.heap.size) :
    Calls Try.prog 49 #[.agg #[.int .i64 r.way, .int .i64 r.pal.w, .int .i64 r.pal.d, .int .i64 r.pal.h, .int .i64 r.pal.gram, .int .i64 r.cls, .slice A1 n1 c1, .slice A2 n2 c2, .int .i64 r.master, .slice A3 n3 c3], .int .i64 id] w fun e w' => e = .returned (.tuple #[.agg #[.int .i64 (tyD (findTy r.types id)).id, .int .i64 (tyD (findTy r.types id)).w, .int .i64 (tyD (findTy r.types id)).h, .int .i64 (tyD (findTy r.types id)).d, .int .i64 (tyD (findTy r.types id)).tare, .int .i64 (tyD (findTy r.types id)).gram, .int .i64 (tyD (findTy r.types id)).cost], .bool (findTy r.types id).isSome]) ∧ Below w.heap.size w w' := by
  have hs := hr.ty
  have hm := hs.max
  have hc := hs.cap
  have HL := hide hs.len
  have eg : ∀ args w, (callFunc 71 args).run Try.prog w = .ok (.enter 71 args) w := enters_of Try.func71 (by kernel_rfl) rfl
  have hpr := predTyId id (w.heap.size + 1)
  have hcon := fun W h1 h2 => indexFuncType (fun t => t.id == id) 71 #[.pointer (some ⟨w.heap.size + 1, 0, none⟩)] eg lo hi A2 n2 c2 r.types W h1 h2
  have hu := Try.underlying73
  rcases idx_find (p := fun t => t.id == id) (xs := r.types) with ⟨hi1, hf1⟩ | ⟨k, x, hi1, hx, hf1⟩
  · rw [hi1] at hcon
    have HF := hide (show findTy r.types id = none from hf1)
    clear hi1 hf1
    go_enter Try.func49, Try.ntmps49
    go_wp2_with fail
    refine (hcon _ (hpr _ (by simp) (by simp [go_sem])) (hs.below (B := w.heap.size) (by repeat (first | with_reducible exact Below.refl _ _ | with_reducible assumption | with_reducible refine Below.setCell ?_ (by (try simp) <;> omega) _ | with_reducible refine Below.alloc ?_ (by (try simp) <;> omega) _ | with_reducible refine Below.drew ?_ | with_reducible refine below_drewN ?_ _)) hB) (by (try simp) <;> omega)).mono ?_
    rintro e w1 ⟨rfl, hb1⟩
    have P2 := hide ((Blk.new ((w.alloc _).alloc _) _ _ (g := w.heap.size + 1 + 1) (by simp)).belowH hb1)
    have L1 := hide (show Below w.heap.size w w1 from (by repeat (first | with_reducible exact Below.refl _ _ | with_reducible assumption | with_reducible refine Below.setCell ?_ (by (try simp) <;> omega) _ | with_reducible refine Below.alloc ?_ (by (try simp) <;> omega) _ | with_reducible refine Below.drew ?_ | with_reducible refine below_drewN ?_ _ | with_reducible exact hb1 | with_reducible refine Below.trans ?_ (Below.mono hb1 (by (try simp) <;> omega)))))
    clear hb1
    have k2 := P2.out.cell
    have f2 := P2.out.frozen
    have G1 : w.heap.size + 1 + 1 < w1.heap.size := P2.out.lt
    go_wp2
    have PF := ((((((P2.out.set_ 0 (.int .i64 0)).set_ 1 (.int .i64 0)).set_ 2 (.int .i64 0)).set_ 3 (.int .i64 0)).set_ 4 (.int .i64 0)).set_ 5 (.int .i64 0)).set_ 6 (.int .i64 0)
    simp only [List.setIfInBounds_toArray, List.set_cons_zero, List.set_cons_succ] at PF
    refine ret_cell2 Try.results49 rfl PF Try.underlying73 rfl (by kernel_rfl) rfl ⟨?_, (by repeat (first | with_reducible exact Below.refl _ _ | with_reducible assumption | with_reducible refine Below.setCell ?_ (by (try simp) <;> omega) _ | with_reducible refine Below.alloc ?_ (by (try simp) <;> omega) _ | with_reducible refine Below.drew ?_ | with_reducible refine below_drewN ?_ _ | with_reducible exact L1.out | with_reducible refine Below.trans ?_ (Below.mono L1.out (by (try simp) <;> omega))))⟩
    rw [HF.out]
    rfl
  · rw [hi1] at hcon
    have HF := hide (show findTy r.types id = some x from hf1)
    clear hi1 hf1
    have hk : k < n2 := by rw [← HL.out]; exact (List.getElem?_eq_some_iff.1 hx).1
    have hk0 : ¬ ((k : Int) < 0) := by omega
    have i0 : (0 : Int) ≤ (k : Int) := by omega
    have i1 : (k : Int) < (n2 : Int) := by omega
    go_enter Try.func49, Try.ntmps49
    go_wp2_with fail
    refine (hcon _ (hpr _ (by simp) (by simp [go_sem])) (hs.below (B := w.heap.size) (by repeat (first | with_reducible exact Below.refl _ _ | with_reducible assumption | with_reducible refine Below.setCell ?_ (by (try simp) <;> omega) _ | with_reducible refine Below.alloc ?_ (by (try simp) <;> omega) _ | with_reducible refine Below.drew ?_ | with_reducible refine below_drewN ?_ _)) hB) (by (try simp) <;> omega)).mono ?_
    rintro e w1 ⟨rfl, hb1⟩
    have P0 := hide ((((Blk.new w _ _ rfl).alloc _).alloc _).belowH hb1)
    have P2 := hide ((Blk.new ((w.alloc _).alloc _) _ _ (g := w.heap.size + 1 + 1) (by simp)).belowH hb1)
    have L1 := hide (show Below w.heap.size w w1 from (by repeat (first | with_reducible exact Below.refl _ _ | with_reducible assumption | with_reducible refine Below.setCell ?_ (by (try simp) <;> omega) _ | with_reducible refine Below.alloc ?_ (by (try simp) <;> omega) _ | with_reducible refine Below.drew ?_ | with_reducible refine below_drewN ?_ _ | with_reducible exact hb1 | with_reducible refine Below.trans ?_ (Below.mono hb1 (by (try simp) <;> omega)))))
    clear hb1 hcon hpr
    obtain ⟨b0, off, x', hx', rfl, _, hb, d0, d1, d2, d3, d4, d5, d6, _⟩ := (hs.below L1.out hB).ty hk
    obtain rfl : x = x' := by rw [hx] at hx'; exact Option.some.inj hx'
    clear hx hx' hs hr
    have k0 := P0.out.cell
    have k2 := P2.out.cell
    have f2 := P2.out.frozen
    have G1 : w.heap.size + 1 + 1 < w1.heap.size := P2.out.lt
    go_wp2
    have PF := ((((((P2.out.set_ 0 (.int .i64 x.id)).set_ 1 (.int .i64 x.w)).set_ 2 (.int .i64 x.h)).set_ 3 (.int .i64 x.d)).set_ 4 (.int .i64 x.tare)).set_ 5 (.int .i64 x.gram)).set_ 6 (.int .i64 x.cost)
    simp only [List.setIfInBounds_toArray, List.set_cons_zero, List.set_cons_succ] at PF
    refine ret_cell2 Try.results49 rfl PF Try.underlying73 rfl (by kernel_rfl) rfl ⟨?_, (by repeat (first | with_reducible exact Below.refl _ _ | with_reducible assumption | with_reducible refine Below.setCell ?_ (by (try simp) <;> omega) _ | with_reducible refine Below.alloc ?_ (by (try simp) <;> omega) _ | with_reducible refine Below.drew ?_ | with_reducible refine below_drewN ?_ _ | with_reducible exact L1.out | with_reducible refine Below.trans ?_ (Below.mono L1.out (by (try simp) <;> omega))))⟩
    rw [HF.out]
    rfl
set_option maxRecDepth 20000 in
set_option maxHeartbeats 1000000 in
theorem smaster_any (r : Rq) (A1 A2 A3 : Option Addr) (n1 n2 n3 c1 c2 c3 : Nat) (lo hi : Nat) (w : World) (hr : RqAt w lo hi r A1 n1 c1 A2 n2 c2 A3 n3 c3) (hB : hi ≤ w.heap.size) :
    Calls Try.prog 63 #[.agg #[.int .i64 r.way, .int .i64 r.pal.w, .int .i64 r.pal.d, .int .i64 r.pal.h, .int .i64 r.pal.gram, .int .i64 r.cls, .slice A1 n1 c1, .slice A2 n2 c2, .int .i64 r.master, .slice A3 n3 c3]] w fun e w' => e = .returned (.tuple #[.agg #[.int .i64 (tyD (findTy r.types r.master)).id, .int .i64 (tyD (findTy r.types r.master)).w, .int .i64 (tyD (findTy r.types r.master)).h, .int .i64 (tyD (findTy r.types r.master)).d, .int .i64 (tyD (findTy r.types r.master)).tare, .int .i64 (tyD (findTy r.types r.master)).gram, .int .i64 (tyD (findTy r.types r.master)).cost], .bool (findTy r.types r.master).isSome]) ∧ Below w.heap.size w w' := by
  have hs := hr.ty
  have hm := hs.max
  have hc := hs.cap
  have HL := hide hs.len
  go_enter Try.func63, Try.ntmps63
  go_wp2
  go_loopw [4] (fun i wr => ∃ k : Nat, k ≤ n2 ∧ i = .int .i64 k ∧ (∀ y ∈ r.types.take k, (y.id == r.master) = false) ∧ Blk wr w.heap.size 50 #[.int .i64 r.way, .int .i64 r.pal.w, .int .i64 r.pal.d, .int .i64 r.pal.h, .int .i64 r.pal.gram, .int .i64 r.cls, .slice A1 n1 c1, .slice A2 n2 c2, .int .i64 r.master, .slice A3 n3 c3] ∧ Blk wr (w.heap.size + 1) 73 #[.int .i64 0, .int .i64 0, .int .i64 0, .int .i64 0, .int .i64 0, .int .i64 0, .int .i64 0] ∧ Below w.heap.size w wr) (fun i _ => n2 - (intOf i).toNat)
  case atStart => exact ⟨0, Nat.zero_le _, rfl, by simp, (Blk.new w _ _ rfl).alloc _, Blk.new (w.alloc _) _ _ (by simp), (by repeat (first | with_reducible exact Below.refl _ _ | with_reducible assumption | with_reducible refine Below.setCell ?_ (by (try simp) <;> omega) _ | with_reducible refine Below.alloc ?_ (by (try simp) <;> omega) _ | with_reducible refine Below.drew ?_ | with_reducible refine below_drewN ?_ _))⟩
  case round =>
    obtain ⟨k, hk, rfl, hA, B0, B1, hbel⟩ := hrel
    have HA := hide hA
    have k0 := B0.cell
    have k1 := B1.cell
    have f1 := B1.frozen
    have P0 := hide B0
    have P1 := hide B1
    clear hA B0 B1
    by_cases hlt : k < n2
    · obtain ⟨b0, off, x, hx, rfl, _, hb, d0, d1, d2, d3, d4, d5, d6, _⟩ := (hs.below hbel hB).ty hlt
      have HX := hide hx
      have HS := hide hs
      have i0 : (0 : Int) ≤ (k : Int) := by omega
      have i1 : (k : Int) < (n2 : Int) := by omega
      clear hx hs hr
      cases hq : (x.id == r.master) with
      | true =>
        have HF := hide (show findTy r.types r.master = some x from find_hit HX.out hq HA.out)
        go_wp2_with fail
        go_quiet (fail)
        go_wp2
        have PF := fun q => ((((((((P1.out.drewN q).set_ 0 (.int .i64 x.id)).set_ 1 (.int .i64 x.w)).set_ 2 (.int .i64 x.h)).set_ 3 (.int .i64 x.d)).set_ 4 (.int .i64 x.tare)).set_ 5 (.int .i64 x.gram)).set_ 6 (.int .i64 x.cost))
        simp only [List.setIfInBounds_toArray, List.set_cons_zero, List.set_cons_succ] at PF
        refine ret_cell2 Try.results63 rfl (PF _) Try.underlying73 rfl (by kernel_rfl) rfl ⟨?_, (by repeat (first | with_reducible exact Below.refl _ _ | with_reducible assumption | with_reducible refine Below.setCell ?_ (by (try simp) <;> omega) _ | with_reducible refine Below.alloc ?_ (by (try simp) <;> omega) _ | with_reducible refine Below.drew ?_ | with_reducible refine below_drewN ?_ _ | with_reducible exact hbel | with_reducible refine Below.trans ?_ (Below.mono hbel (by (try simp) <;> omega))))⟩
        rw [HF.out]
        rfl
      | false =>
        go_wp2_with fail
        go_quiet (fail)
        go_wp2
        go_roundw
        case rel =>
          refine ⟨k + 1, by omega, by go_num, fun y hy => ?_, P0.out.drewN _, P1.out.drewN _, below_drewN hbel _⟩
          rcases mem_take_succ HX.out hy with h | h
          · exact HA.out y h
          · rw [h]; exact hq
        case measure => simp [intOf]; omega
    · have hge : n2 ≤ k := by omega
      clear hlt
      have HF := hide (show findTy r.types r.master = none from find_miss (by have := HA.out; rwa [List.take_of_length_le (by rw [HL.out]; omega)] at this))
      go_wp2
      have PF := ((((((P1.out.set_ 0 (.int .i64 0)).set_ 1 (.int .i64 0)).set_ 2 (.int .i64 0)).set_ 3 (.int .i64 0)).set_ 4 (.int .i64 0)).set_ 5 (.int .i64 0)).set_ 6 (.int .i64 0)
      simp only [List.setIfInBounds_toArray, List.set_cons_zero, List.set_cons_succ] at PF
      refine ret_cell2 Try.results63 rfl PF Try.underlying73 rfl (by kernel_rfl) rfl ⟨?_, (by repeat (first | with_reducible exact Below.refl _ _ | with_reducible assumption | with_reducible refine Below.setCell ?_ (by (try simp) <;> omega) _ | with_reducible refine Below.alloc ?_ (by (try simp) <;> omega) _ | with_reducible refine Below.drew ?_ | with_reducible refine below_drewN ?_ _ | with_reducible exact hbel | with_reducible refine Below.trans ?_ (Below.mono hbel (by (try simp) <;> omega))))⟩
      rw [HF.out]
      rfl
set_option maxRecDepth 20000 in
set_option maxHeartbeats 1000000 in
theorem master_any (r : Rq) (A1 A2 A3 : Option Addr) (n1 n2 n3 c1 c2 c3 : Nat) (lo hi : Nat) (w : World) (hr : RqAt w lo hi r A1 n1 c1 A2 n2 c2 A3 n3 c3) (hB : hi ≤ w.heap.size) :
    Calls Try.prog 86 #[.agg #[.int .i64 r.way, .int .i64 r.pal.w, .int .i64 r.pal.d, .int .i64 r.pal.h, .int .i64 r.pal.gram, .int .i64 r.cls, .slice A1 n1 c1, .slice A2 n2 c2, .int .i64 r.master, .slice A3 n3 c3]] w fun e w' => e = .returned (.tuple #[.agg #[.int .i64 (tyD (findTy r.types r.master)).id, .int .i64 (tyD (findTy r.types r.master)).w, .int .i64 (tyD (findTy r.types r.master)).h, .int .i64 (tyD (findTy r.types r.master)).d, .int .i64 (tyD (findTy r.types r.master)).tare, .int .i64 (tyD (findTy r.types r.master)).gram, .int .i64 (tyD (findTy r.types r.master)).cost], .bool (findTy r.types r.master).isSome]) ∧ Below w.heap.size w w' := by
  generalize hT : tyD (findTy r.types r.master) = T
  generalize hb : (findTy r.types r.master).isSome = bo
  have HT := hide hT
  have HB := hide hb
  clear hT hb
  go_enter Try.func86, Try.ntmps86
  go_wp2_with fail
  refine (tyById_any r A1 A2 A3 n1 n2 n3 c1 c2 c3 lo hi r.master _ (hr.below (B := w.heap.size) (by repeat (first | with_reducible exact Below.refl _ _ | with_reducible assumption | with_reducible refine Below.setCell ?_ (by (try simp) <;> omega) _ | with_reducible refine Below.alloc ?_ (by (try simp) <;> omega) _ | with_reducible refine Below.drew ?_ | with_reducible refine below_drewN ?_ _)) hB) (by (try simp) <;> omega)).mono ?_
  rw [HT.out, HB.out]
  rintro e w1 ⟨rfl, hb1⟩
  have P1 := hide ((Blk.new (w.alloc _) _ _ (g := w.heap.size + 1) (by simp)).belowH hb1)
  have L1 := hide (show Below w.heap.size w w1 from (by repeat (first | with_reducible exact Below.refl _ _ | with_reducible assumption | with_reducible refine Below.setCell ?_ (by (try simp) <;> omega) _ | with_reducible refine Below.alloc ?_ (by (try simp) <;> omega) _ | with_reducible refine Below.drew ?_ | with_reducible refine below_drewN ?_ _ | with_reducible exact hb1 | with_reducible refine Below.trans ?_ (Below.mono hb1 (by (try simp) <;> omega)))))
  clear hb1
  have k1 := P1.out.cell
  have f1 := P1.out.frozen
  have G1 : w.heap.size + 1 < w1.heap.size := P1.out.lt
  go_wp2
  have PF := ((((((P1.out.set_ 0 (.int .i64 T.id)).set_ 1 (.int .i64 T.w)).set_ 2 (.int .i64 T.h)).set_ 3 (.int .i64 T.d)).set_ 4 (.int .i64 T.tare)).set_ 5 (.int .i64 T.gram)).set_ 6 (.int .i64 T.cost)
  simp only [List.setIfInBounds_toArray, List.set_cons_zero, List.set_cons_succ] at PF
  refine ret_cell2 Try.results86 rfl PF Try.underlying73 rfl (by kernel_rfl) rfl ⟨?_, (by repeat (first | with_reducible exact Below.refl _ _ | with_reducible assumption | with_reducible refine Below.setCell ?_ (by (try simp) <;> omega) _ | with_reducible refine Below.alloc ?_ (by (try simp) <;> omega) _ | with_reducible refine Below.drew ?_ | with_reducible refine below_drewN ?_ _ | with_reducible exact L1.out | with_reducible refine Below.trans ?_ (Below.mono L1.out (by (try simp) <;> omega))))⟩
  rfl
end Go.Proofs.Ytcjcmdikopipjaa
