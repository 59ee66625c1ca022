/- GroupOf, the program's and the reference's. -/
import Derived.Test.YtehgdhekiogppaaGreatSS
namespace Go.Proofs.YtehgdhekiogppaaGreat
open Go.ChangeShapes Go.WideShapes Go.ChangeAt Go.RowKit Go.Deep
set_option linter.unusedVariables false
set_option linter.unusedSimpArgs false

/-- x is among the numbers. -/
def hasB (xs : List Int) (x : Int) : Bool := xs.any fun y => y == x
theorem hasB_iff (xs : List Int) (x : Int) : hasB xs x = true ↔ x ∈ xs := by simp [hasB]
theorem hasB_take {xs : List Int} {x : Int} {k : Nat} (h : ∀ y ∈ xs.take k, (y == x) = false) (hk : xs.length ≤ k) : hasB xs x = false := by
  unfold hasB
  rw [List.any_eq_false]
  rw [List.take_of_length_le hk] at h
  exact fun y hy => by rw [h y hy]; simp
theorem hasB_hit {xs : List Int} {x y : Int} {k : Nat} (hy : xs[k]? = some y) (h : (y == x) = true) : hasB xs x = true := by
  unfold hasB
  rw [List.any_eq_true]
  exact ⟨y, List.mem_of_getElem? hy, h⟩
set_option maxHeartbeats 1000000 in
theorem indexInt (v : Int) (lo hi : Nat) (A : Option Addr) (n c : Nat) (xs : List Int) (w : World) (hs : SlK 1 encInt w lo hi A n c xs) :
    Calls Tryz.prog 104 #[.slice A n c, .int .i64 v] w fun e w' => e = .returned (.int .i64 (idxOf (fun y => y == v) xs)) ∧ w = w' := by
  have hm := hs.max
  have hc := hs.cap
  have HL := hide hs.len
  go_enter Tryz.func104, Tryz.ntmps104
  go_wp2
  go_loop [5, 8] (fun _ i => ∃ k : Nat, k ≤ n ∧ i = .int .i64 k ∧ ∀ y ∈ xs.take k, (y == v) = false) (fun _ i => n - (intOf i).toNat)
  case atStart => exact ⟨0, Nat.zero_le _, rfl, by simp⟩
  case round =>
    obtain ⟨k, hk, rfl, hA⟩ := hrel
    have HA := hide hA
    clear hA
    by_cases hlt : k < n
    · obtain ⟨b0, off, x, hx, rfl, _, hb, c0, _⟩ := hs.int hlt
      have HX := hide hx
      have HS := hide hs
      have hltz : (k : Int) < (n : Int) := by omega
      have i0 : (0 : Int) ≤ (k : Int) := by omega
      clear hx hs
      by_cases hq : v = x
      · subst hq
        have HQ := hide (show (v == v) = true by simp)
        go_wp2
        go_ret
        exact ⟨ret_int (idxOf_hit (p := fun y => y == v) HX.out HQ.out HA.out).symm, rfl⟩
      · have HQ := hide (show (x == v) = false by simp; exact fun e => hq e.symm)
        go_wp2
        go_round
        case rel =>
          refine ⟨k + 1, by omega, by go_num, fun y hy => ?_⟩
          rcases mem_take_succ HX.out hy with h | h
          · exact HA.out y h
          · rw [h]; exact HQ.out
        case measure => simp [intOf]; omega
    · have hge : n ≤ k := by omega
      clear hlt
      have HM := hide (show idxOf (fun y => y == v) xs = -1 from idxOf_miss (by have := HA.out; rwa [List.take_of_length_le (by rw [HL.out]; omega)] at this))
      go_wp2
      go_ret
      exact ⟨ret_int HM.out.symm, rfl⟩
set_option maxHeartbeats 400000 in
theorem containsInt (v : Int) (lo hi : Nat) (A : Option Addr) (n c : Nat) (xs : List Int) (w : World) (hs : SlK 1 encInt w lo hi A n c xs) :
    Calls Tryz.prog 67 #[.slice A n c, .int .i64 v] w fun e w' => e = .returned (.bool (hasB xs v)) ∧ w = w' := by
  have HC := hide (indexInt v lo hi A n c xs w hs)
  have HI := hide (show decide (0 ≤ idxOf (fun y => y == v) xs) = hasB xs v from idxOf_nonneg _ xs)
  clear hs
  generalize idxOf (fun y => y == v) xs = r at *
  go_enter Tryz.func67, Tryz.ntmps67
  go_wp2_with (go_at_call 104; refine HC.out.mono ?_; rintro e w1 ⟨rfl, rfl⟩)
  go_ret
  exact ⟨ret_bool HI.out, rfl⟩
set_option maxHeartbeats 400000 in
theorem shas_any (v : Int) (lo hi : Nat) (A : Option Addr) (n c : Nat) (xs : List Int) (w : World) (hs : SlK 1 encInt w lo hi A n c xs) :
    Calls Tryz.prog 113 #[.slice A n c, .int .i64 v] w fun e w' => e = .returned (.bool (hasB xs v)) ∧ w = w' := by
  have hm := hs.max
  have hc := hs.cap
  have HL := hide hs.len
  go_enter Tryz.func113, Tryz.ntmps113
  go_wp2
  go_loop [5] (fun i => ∃ k : Nat, k ≤ n ∧ i = .int .i64 k ∧ ∀ y ∈ xs.take k, (y == v) = false) (fun i => n - (intOf i).toNat)
  case atStart => exact ⟨0, Nat.zero_le _, rfl, by simp⟩
  case round =>
    obtain ⟨k, hk, rfl, hA⟩ := hrel
    have HA := hide hA
    clear hA
    by_cases hlt : k < n
    · obtain ⟨b0, off, x, hx, rfl, _, hb, c0, _⟩ := hs.int hlt
      have HX := hide hx
      have HS := hide hs
      have hltz : (k : Int) < (n : Int) := by omega
      have i0 : (0 : Int) ≤ (k : Int) := by omega
      clear hx hs
      by_cases hq : x = v
      · subst hq
        have HQ := hide (show (x == x) = true by simp)
        go_wp2
        go_ret
        exact ⟨ret_bool (hasB_hit HX.out HQ.out).symm, rfl⟩
      · have HQ := hide (show (x == v) = false by simp [hq])
        go_wp2
        go_round
        case rel =>
          refine ⟨k + 1, by omega, by go_num, fun y hy => ?_⟩
          rcases mem_take_succ HX.out hy with h | h
          · exact HA.out y h
          · rw [h]; exact HQ.out
        case measure => simp [intOf]; omega
    · have hge : xs.length ≤ k := by rw [HL.out]; omega
      have hge' : n ≤ k := by omega
      clear hlt
      have HM := hide (hasB_take HA.out hge)
      go_wp2
      go_ret
      exact ⟨ret_bool HM.out.symm, rfl⟩
theorem predGof (cl : Int) (lo hi : Nat) (B : Nat) (rows : List IRow) (w : World) (hr : ∀ x ∈ rows, SlK 1 encInt w lo hi x.A x.n x.c x.xs) (hh : hi ≤ w.heap.size) (hB : B < w.heap.size) (hcell : w.cell? ⟨B, 0, none⟩ = some (.int .i64 cl)) :
    PredM Tryz.prog 75 #[.pointer (some ⟨B, 0, none⟩)] valRow (fun x => hasB x.xs cl) rows w := fun W x hx hb => by
  have hc : W.cell? ⟨B, 0, none⟩ = some (.int .i64 cl) := (hb.cell (p := ⟨B, 0, none⟩) hB).trans hcell
  have hBW : B < W.heap.size := Nat.lt_of_lt_of_le hB hb.size
  have HX := hide ((hr x hx).below hb hh)
  clear hr hx hcell
  show Calls Tryz.prog 75 #[.slice x.A x.n x.c, .pointer (some ⟨B, 0, none⟩)] W _
  go_enter Tryz.func75, Tryz.ntmps75
  go_wp2_with (go_at_call 67; refine (containsInt cl lo hi x.A x.n x.c x.xs _ HX.out).mono ?_; rintro e w1 ⟨rfl, rfl⟩)
  go_ret
  exact ⟨rfl, Below.refl _ _⟩
/-- The first group that has a kind. -/
def gofL (gs : List (List Int)) (cl : Int) : Int := idxOf (fun g => hasB g cl) gs
theorem gofL_rows (rows : List IRow) (cl : Int) : gofL (rowsL rows) cl = idxOf (fun x => hasB x.xs cl) rows := by
  unfold gofL rowsL idxOf
  rw [List.findIdx?_map]
  rfl
set_option maxHeartbeats 1000000 in
theorem gof_any (cl : Int) (lo hi : Nat) (A : Option Addr) (n c : Nat) (rows : List IRow) (w : World) (hs : RowsAt w lo hi A n c rows) (hB : hi ≤ w.heap.size) :
    Calls Tryz.prog 35 #[.slice A n c, .int .i64 cl] w fun e w' => e = .returned (.int .i64 (gofL (rowsL rows) cl)) ∧ Below w.heap.size w w' := by
  have e1 : ∀ args w, (callFunc 75 args).run Tryz.prog w = .ok (.enter 75 args) w := enters_of Tryz.func75 (by kernel_rfl) rfl
  have HC := hide (fun (p : IRow → Bool) lb W hp h h' => indexFuncRow p 75 lb e1 lo hi A n c rows W hp h h')
  have HE := hide (gofL_rows rows cl)
  generalize gofL (rowsL rows) cl = r at *
  have HS := hide hs
  clear e1 hs
  go_enter Tryz.func35, Tryz.ntmps35
  go_wp2_with fail
  refine (HC.out (fun x => hasB x.xs cl) _ _ (predGof cl lo hi w.heap.size rows _ (fun x hx => ((HS.out.below (B := w.heap.size) (by repeat (first | with_reducible exact Below.refl _ _ | with_reducible assumption | with_reducible refine Below.setCell ?_ (by (try simp) <;> omega) _ | with_reducible refine Below.alloc ?_ (by (try simp) <;> omega) _ | with_reducible refine Below.drew ?_ | with_reducible refine below_drewN ?_ _)) hB).inn x hx)) (by (try simp) <;> omega) (by simp) (by simp [go_sem])) ((HS.out.below (B := w.heap.size) (by repeat (first | with_reducible exact Below.refl _ _ | with_reducible assumption | with_reducible refine Below.setCell ?_ (by (try simp) <;> omega) _ | with_reducible refine Below.alloc ?_ (by (try simp) <;> omega) _ | with_reducible refine Below.drew ?_ | with_reducible refine below_drewN ?_ _)) hB).out) (by (try simp) <;> omega)).mono ?_
  rw [← HE.out]
  rintro e w1 ⟨rfl, hb1⟩
  go_wp2
  go_ret
  exact ⟨rfl, (by repeat (first | with_reducible exact Below.refl _ _ | with_reducible assumption | with_reducible refine Below.setCell ?_ (by (try simp) <;> omega) _ | with_reducible refine Below.alloc ?_ (by (try simp) <;> omega) _ | with_reducible refine Below.drew ?_ | with_reducible refine below_drewN ?_ _ | with_reducible exact hb1 | with_reducible refine Below.trans ?_ (Below.mono hb1 (by (try simp) <;> omega))))⟩
end Go.Proofs.YtehgdhekiogppaaGreat
