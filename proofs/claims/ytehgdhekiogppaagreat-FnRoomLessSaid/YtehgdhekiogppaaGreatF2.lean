/- slices.IndexFunc and slices.ContainsFunc at slices of numbers and of rows, whatever the predicate. Written by gen/gen_f2.py. -/
import Derived.Test.YtehgdhekiogppaaGreatF1
namespace Go.Proofs.YtehgdhekiogppaaGreat
open Go.ChangeShapes Go.WideShapes Go.ChangeAt Go.RowKit Go.Deep
set_option linter.unusedVariables false

/-- What is asked of a predicate: in every later world it answers p for each of xs, and leaves what was there. -/
def PredM {α : Type} (P : Program) (g : Nat) (lb : Array Value) (val : α → Value) (p : α → Bool) (xs : List α) (w : World) : Prop :=
  ∀ (W : World) (x : α), x ∈ xs → Below w.heap.size w W → Calls P g (#[val x] ++ lb) W fun e w' => e = .returned (.bool (p x)) ∧ Below W.heap.size W w'
/-- A row of numbers, as a slice in memory, and what it reads as. -/
structure IRow where
  A : Option Addr
  n : Nat
  c : Nat
  xs : List Int
def encRow (x : IRow) : List Value := [.slice x.A x.n x.c]
theorem encRow_len (x : IRow) : (encRow x).length = 1 := rfl
theorem encRow_one (x : IRow) : ∀ u ∈ encRow x, u.oneCell' = true := fun u hu => by
  simp only [encRow, List.mem_singleton] at hu
  subst hu
  rfl
theorem SlK.row {w : World} {lo hi : Nat} {A : Option Addr} {n c : Nat} {xs : List IRow} (h : SlK 1 encRow w lo hi A n c xs) {i : Nat} (hi' : i < n) :
    ∃ b off x, xs[i]? = some x ∧ A = some ⟨b, off, none⟩ ∧ lo ≤ b ∧ b < hi ∧ w.cell? ⟨b, off + i, none⟩ = some (.slice x.A x.n x.c) ∧ w.frozen? ⟨b, off + i, none⟩ = false := by
  obtain ⟨b, off, hx, hA, hl, hb, hc⟩ := h.at hi'
  have := hc 0 _ rfl
  simp only [Nat.mul_one, Nat.add_zero] at this
  exact ⟨b, off, xs[i], List.getElem?_eq_getElem hx, hA, hl, hb, this.1, this.2⟩
/-- A slice of rows: its cells and what each row reads as. -/
structure RowsAt (w : World) (lo hi : Nat) (A : Option Addr) (n c : Nat) (rows : List IRow) : Prop where
  out : SlK 1 encRow w lo hi A n c rows
  inn : ∀ x ∈ rows, SlK 1 encInt w lo hi x.A x.n x.c x.xs
theorem RowsAt.below {w w' : World} {lo hi : Nat} {A : Option Addr} {n c : Nat} {rows : List IRow} {B : Nat} (h : RowsAt w lo hi A n c rows) (hb : Below B w w') (hB : hi ≤ B) : RowsAt w' lo hi A n c rows :=
  ⟨h.out.below hb hB, fun x hx => (h.inn x hx).below hb hB⟩
theorem RowsAt.more {w : World} {lo hi lo' hi' : Nat} {A : Option Addr} {n c : Nat} {rows : List IRow} (h : RowsAt w lo hi A n c rows) (h1 : lo' ≤ lo) (h2 : hi ≤ hi') : RowsAt w lo' hi' A n c rows :=
  ⟨h.out.more h1 h2, fun x hx => (h.inn x hx).more h1 h2⟩
def valInt (x : Int) : Value := .int .i64 x
set_option maxHeartbeats 1000000 in
theorem indexFuncInt (p : Int → Bool) (g : Nat) (lb : Array Value) (eg : ∀ args w, (callFunc g args).run Tryz.prog w = .ok (.enter g args) w) (lo hi : Nat) (A : Option Addr) (n c : Nat) (xs : List Int) (w : World)
    (hp : PredM Tryz.prog g lb valInt p xs w) (hs : SlK 1 encInt w lo hi A n c xs) (hB : hi ≤ w.heap.size) :
    Calls Tryz.prog 123 #[.slice A n c, .func (.func g) #[] lb] w fun e w' => e = .returned (.int .i64 (idxOf p xs)) ∧ Below w.heap.size w w' := by
  have hm := hs.max
  have hc := hs.cap
  have HL := hide hs.len
  have HP := hide hp
  clear hp
  go_enter Tryz.func123, Tryz.ntmps123
  go_wp2
  go_loopw [5, 8] (fun _ i wr => ∃ k : Nat, k ≤ n ∧ i = .int .i64 k ∧ Below w.heap.size w wr ∧ ∀ y ∈ xs.take k, p y = false) (fun _ i _ => n - (intOf i).toNat)
  case atStart => exact ⟨0, Nat.zero_le _, rfl, Below.refl _ _, by simp⟩
  case round =>
    obtain ⟨k, hk, rfl, hbel, hA⟩ := hrel
    have HA := hide hA
    clear hA
    by_cases hlt : k < n
    · obtain ⟨b0, off, x, hx, rfl, _, hb, c0, _⟩ := (hs.below hbel hB).int hlt
      have hcall := HP.out wr x (List.mem_of_getElem? hx) hbel
      have HX := hide hx
      have HS := hide hs
      clear hx hs
      have hltz : (k : Int) < (n : Int) := by omega
      cases hq : p x with
      | true =>
        rw [hq] at hcall
        go_wp2_with (go_at_fn g; refine hcall.mono ?_; rintro e w' ⟨rfl, hb'⟩)
        go_ret
        exact ⟨ret_int (idxOf_hit HX.out hq HA.out).symm, hbel.trans (hb'.mono hbel.size)⟩
      | false =>
        rw [hq] at hcall
        go_wp2_with (go_at_fn g; refine hcall.mono ?_; rintro e w' ⟨rfl, hb'⟩)
        go_roundw
        case rel =>
          refine ⟨k + 1, by omega, by go_num, hbel.trans (hb'.mono hbel.size), fun y hy => ?_⟩
          rcases mem_take_succ HX.out hy with h | h
          · exact HA.out y h
          · rw [h]; exact hq
        case measure => simp [intOf]; omega
    · have hge : n ≤ k := by omega
      clear hlt
      have hm1 : idxOf p xs = -1 := idxOf_miss (by have := HA.out; rwa [List.take_of_length_le (by rw [HL.out]; omega)] at this)
      have HM := hide hm1
      clear hm1
      go_wp2
      go_ret
      exact ⟨ret_int HM.out.symm, hbel⟩
set_option maxHeartbeats 1000000 in
theorem containsFuncInt (p : Int → Bool) (g : Nat) (lb : Array Value) (eg : ∀ args w, (callFunc g args).run Tryz.prog w = .ok (.enter g args) w) (lo hi : Nat) (A : Option Addr) (n c : Nat) (xs : List Int) (w : World)
    (hp : PredM Tryz.prog g lb valInt p xs w) (hs : SlK 1 encInt w lo hi A n c xs) (hB : hi ≤ w.heap.size) :
    Calls Tryz.prog 101 #[.slice A n c, .func (.func g) #[] lb] w fun e w' => e = .returned (.bool (xs.any p)) ∧ Below w.heap.size w w' := by
  have HC := hide (indexFuncInt p g lb eg lo hi A n c xs w hp hs hB)
  have HI := hide (idxOf_nonneg p xs)
  clear hp hs
  generalize idxOf p xs = r at *
  go_enter Tryz.func101, Tryz.ntmps101
  go_wp2_with (go_at_call 123; refine HC.out.mono ?_; rintro e w' ⟨rfl, hb'⟩)
  go_ret
  exact ⟨ret_bool HI.out, hb'⟩
def valRow (x : IRow) : Value := .slice x.A x.n x.c
set_option maxHeartbeats 1000000 in
theorem indexFuncRow (p : IRow → Bool) (g : Nat) (lb : Array Value) (eg : ∀ args w, (callFunc g args).run Tryz.prog w = .ok (.enter g args) w) (lo hi : Nat) (A : Option Addr) (n c : Nat) (xs : List IRow) (w : World)
    (hp : PredM Tryz.prog g lb valRow p xs w) (hs : SlK 1 encRow w lo hi A n c xs) (hB : hi ≤ w.heap.size) :
    Calls Tryz.prog 74 #[.slice A n c, .func (.func g) #[] lb] w fun e w' => e = .returned (.int .i64 (idxOf p xs)) ∧ Below w.heap.size w w' := by
  have hm := hs.max
  have hc := hs.cap
  have HL := hide hs.len
  have HP := hide hp
  clear hp
  go_enter Tryz.func74, Tryz.ntmps74
  go_wp2
  go_loopw [5, 8] (fun _ i wr => ∃ k : Nat, k ≤ n ∧ i = .int .i64 k ∧ Below w.heap.size w wr ∧ ∀ y ∈ xs.take k, p y = false) (fun _ i _ => n - (intOf i).toNat)
  case atStart => exact ⟨0, Nat.zero_le _, rfl, Below.refl _ _, by simp⟩
  case round =>
    obtain ⟨k, hk, rfl, hbel, hA⟩ := hrel
    have HA := hide hA
    clear hA
    by_cases hlt : k < n
    · obtain ⟨b0, off, x, hx, rfl, _, hb, c0, _⟩ := (hs.below hbel hB).row hlt
      have hcall := HP.out wr x (List.mem_of_getElem? hx) hbel
      have HX := hide hx
      have HS := hide hs
      clear hx hs
      have hltz : (k : Int) < (n : Int) := by omega
      cases hq : p x with
      | true =>
        rw [hq] at hcall
        go_wp2_with (go_at_fn g; refine hcall.mono ?_; rintro e w' ⟨rfl, hb'⟩)
        go_ret
        exact ⟨ret_int (idxOf_hit HX.out hq HA.out).symm, hbel.trans (hb'.mono hbel.size)⟩
      | false =>
        rw [hq] at hcall
        go_wp2_with (go_at_fn g; refine hcall.mono ?_; rintro e w' ⟨rfl, hb'⟩)
        go_roundw
        case rel =>
          refine ⟨k + 1, by omega, by go_num, hbel.trans (hb'.mono hbel.size), fun y hy => ?_⟩
          rcases mem_take_succ HX.out hy with h | h
          · exact HA.out y h
          · rw [h]; exact hq
        case measure => simp [intOf]; omega
    · have hge : n ≤ k := by omega
      clear hlt
      have hm1 : idxOf p xs = -1 := idxOf_miss (by have := HA.out; rwa [List.take_of_length_le (by rw [HL.out]; omega)] at this)
      have HM := hide hm1
      clear hm1
      go_wp2
      go_ret
      exact ⟨ret_int HM.out.symm, hbel⟩
end Go.Proofs.YtehgdhekiogppaaGreat
