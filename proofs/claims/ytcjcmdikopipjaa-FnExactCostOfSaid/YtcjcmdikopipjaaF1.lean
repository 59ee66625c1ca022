/- slices.IndexFunc and slices.ContainsFunc at slices of pairs, items, types, whatever the predicate. Written by gen/gen_f1.py. -/
import Derived.Test.YtcjcmdikopipjaaC1
import Derived.Test.YtcjcmdikopipjaaMem
import Derived.Deep.RegionHeld3
import Derived.Shelf.Abstract
namespace Go.Proofs.Ytcjcmdikopipjaa
open Go.ChangeShapes Go.WideShapes Go.ChangeAt Go.RowKit Go.Deep
set_option linter.unusedVariables false

/-- What is asked of a predicate: in every later world it answers p, and leaves what was there. -/
def PredB {α : Type} (P : Program) (g : Nat) (lb : Array Value) (val : α → Value) (p : α → Bool) (w : World) : Prop :=
  ∀ (W : World) (x : α), Below w.heap.size w W → Calls P g (#[val x] ++ lb) W fun e w' => e = .returned (.bool (p x)) ∧ Below W.heap.size W w'
/-- The place of the first element of which p holds; -1. -/
def idxOf {α : Type} (p : α → Bool) (xs : List α) : Int := match xs.findIdx? p with | some i => (i : Int) | none => -1
theorem idxOf_miss {α : Type} {p : α → Bool} {xs : List α} (h : ∀ x ∈ xs, p x = false) : idxOf p xs = -1 := by
  unfold idxOf
  rw [List.findIdx?_eq_none_iff.2 h]
theorem idxOf_hit {α : Type} {p : α → Bool} {xs : List α} {k : Nat} {x : α} (hx : xs[k]? = some x) (hp : p x = true) (h : ∀ y ∈ xs.take k, p y = false) : idxOf p xs = k := by
  have hk : k < xs.length := (List.getElem?_eq_some_iff.1 hx).1
  have : xs.findIdx? p = some k := by
    rw [List.findIdx?_eq_some_iff_getElem]
    refine ⟨hk, ?_, fun j hj => ?_⟩
    · have := (List.getElem?_eq_some_iff.1 hx).2
      rw [this]; exact hp
    · have hm : xs[j]'(by omega) ∈ xs.take k := by
        rw [List.mem_take_iff_getElem]
        exact ⟨j, by omega, rfl⟩
      simp [h _ hm]
  unfold idxOf
  rw [this]
theorem idxOf_nonneg {α : Type} (p : α → Bool) (xs : List α) : decide (0 ≤ idxOf p xs) = xs.any p := by
  unfold idxOf
  cases h : xs.findIdx? p with
  | none =>
    have := List.findIdx?_eq_none_iff.1 h
    have h2 : xs.any p = false := by rw [List.any_eq_false]; intro x hx; simp [this x hx]
    rw [h2]; rfl
  | some i =>
    obtain ⟨hi, hp, _⟩ := List.findIdx?_eq_some_iff_getElem.1 h
    have h2 : xs.any p = true := by rw [List.any_eq_true]; exact ⟨_, List.getElem_mem hi, hp⟩
    rw [h2]
    simp
theorem mem_take_succ {α : Type} {xs : List α} {k : Nat} {x y : α} (hx : xs[k]? = some x) (hy : y ∈ xs.take (k + 1)) : y ∈ xs.take k ∨ y = x := by
  rw [List.take_add_one, hx] at hy
  simpa using hy
def valPair (x : Pr) : Value := .agg #[.int .i64 x.a, .int .i64 x.b]
set_option maxHeartbeats 1000000 in
theorem indexFuncPair (p : Pr → Bool) (g : Nat) (lb : Array Value) (eg : ∀ args w, (callFunc g args).run Try.prog w = .ok (.enter g args) w) (lo hi : Nat) (A : Option Addr) (n c : Nat) (xs : List Pr) (w : World)
    (hp : PredB Try.prog g lb valPair p w) (hs : SlK 2 encPr w lo hi A n c xs) (hB : hi ≤ w.heap.size) :
    Calls Try.prog 112 #[.slice A n c, .func (.func g) #[] lb] w fun e w' => e = .returned (.int .i64 (idxOf p xs)) ∧ Below w.heap.size w w' := by
  have hm := hs.max
  have hc := hs.cap
  have HL := hide hs.len
  have HP := hide hp
  clear hp
  go_enter Try.func112, Try.ntmps112
  go_wp2
  go_loopw [5, 8] (fun _ i wr => ∃ k : Nat, k ≤ n ∧ i = .int .i64 k ∧ Below w.heap.size w wr ∧ ∀ y ∈ xs.take k, p y = false) (fun _ i _ => n - (intOf i).toNat)
  case atStart => exact ⟨0, Nat.zero_le _, rfl, Below.refl _ _, by simp⟩
  case round =>
    obtain ⟨k, hk, rfl, hbel, hA⟩ := hrel
    have HA := hide hA
    clear hA
    by_cases hlt : k < n
    · obtain ⟨b0, off, x, hx, rfl, _, hb, c0, c1, _, _⟩ := (hs.below hbel hB).pr hlt
      have hcall := HP.out wr x hbel
      have HX := hide hx
      have HS := hide hs
      clear hx hs
      have hltz : (k : Int) < (n : Int) := by omega
      cases hq : p x with
      | true =>
        rw [hq] at hcall
        go_wp2_with (go_at_fn g; refine hcall.mono ?_; rintro e w' ⟨rfl, hb'⟩)
        go_ret
        exact ⟨ret_int (idxOf_hit HX.out hq HA.out).symm, hbel.trans (hb'.mono hbel.size)⟩
      | false =>
        rw [hq] at hcall
        go_wp2_with (go_at_fn g; refine hcall.mono ?_; rintro e w' ⟨rfl, hb'⟩)
        go_roundw
        case rel =>
          refine ⟨k + 1, by omega, by go_num, hbel.trans (hb'.mono hbel.size), fun y hy => ?_⟩
          rcases mem_take_succ HX.out hy with h | h
          · exact HA.out y h
          · rw [h]; exact hq
        case measure => simp [intOf]; omega
    · have hge : n ≤ k := by omega
      clear hlt
      have hm1 : idxOf p xs = -1 := idxOf_miss (by have := HA.out; rwa [List.take_of_length_le (by rw [HL.out]; omega)] at this)
      have HM := hide hm1
      clear hm1
      go_wp2
      go_ret
      exact ⟨ret_int HM.out.symm, hbel⟩
set_option maxHeartbeats 1000000 in
theorem containsFuncPair (p : Pr → Bool) (g : Nat) (lb : Array Value) (eg : ∀ args w, (callFunc g args).run Try.prog w = .ok (.enter g args) w) (lo hi : Nat) (A : Option Addr) (n c : Nat) (xs : List Pr) (w : World)
    (hp : PredB Try.prog g lb valPair p w) (hs : SlK 2 encPr w lo hi A n c xs) (hB : hi ≤ w.heap.size) :
    Calls Try.prog 99 #[.slice A n c, .func (.func g) #[] lb] w fun e w' => e = .returned (.bool (xs.any p)) ∧ Below w.heap.size w w' := by
  have HC := hide (indexFuncPair p g lb eg lo hi A n c xs w hp hs hB)
  have HI := hide (idxOf_nonneg p xs)
  clear hp hs
  generalize idxOf p xs = r at *
  go_enter Try.func99, Try.ntmps99
  go_wp2_with (go_at_call 112; refine HC.out.mono ?_; rintro e w' ⟨rfl, hb'⟩)
  go_ret
  exact ⟨ret_bool HI.out, hb'⟩
def valItem (x : It) : Value := .agg #[.int .i64 x.id, .int .i64 x.w, .int .i64 x.h, .int .i64 x.d, .int .i64 x.gram, .int .i64 x.cls, .int .i64 x.cnt]
set_option maxHeartbeats 1000000 in
theorem indexFuncItem (p : It → Bool) (g : Nat) (lb : Array Value) (eg : ∀ args w, (callFunc g args).run Try.prog w = .ok (.enter g args) w) (lo hi : Nat) (A : Option Addr) (n c : Nat) (xs : List It) (w : World)
    (hp : PredB Try.prog g lb valItem p w) (hs : SlK 7 encIt w lo hi A n c xs) (hB : hi ≤ w.heap.size) :
    Calls Try.prog 108 #[.slice A n c, .func (.func g) #[] lb] w fun e w' => e = .returned (.int .i64 (idxOf p xs)) ∧ Below w.heap.size w w' := by
  have hm := hs.max
  have hc := hs.cap
  have HL := hide hs.len
  have HP := hide hp
  clear hp
  go_enter Try.func108, Try.ntmps108
  go_wp2
  go_loopw [5, 8] (fun _ i wr => ∃ k : Nat, k ≤ n ∧ i = .int .i64 k ∧ Below w.heap.size w wr ∧ ∀ y ∈ xs.take k, p y = false) (fun _ i _ => n - (intOf i).toNat)
  case atStart => exact ⟨0, Nat.zero_le _, rfl, Below.refl _ _, by simp⟩
  case round =>
    obtain ⟨k, hk, rfl, hbel, hA⟩ := hrel
    have HA := hide hA
    clear hA
    by_cases hlt : k < n
    · obtain ⟨b0, off, x, hx, rfl, _, hb, c0, c1, c2, c3, c4, c5, c6, _⟩ := (hs.below hbel hB).it hlt
      have hcall := HP.out wr x hbel
      have HX := hide hx
      have HS := hide hs
      clear hx hs
      have hltz : (k : Int) < (n : Int) := by omega
      cases hq : p x with
      | true =>
        rw [hq] at hcall
        go_wp2_with (go_at_fn g; refine hcall.mono ?_; rintro e w' ⟨rfl, hb'⟩)
        go_ret
        exact ⟨ret_int (idxOf_hit HX.out hq HA.out).symm, hbel.trans (hb'.mono hbel.size)⟩
      | false =>
        rw [hq] at hcall
        go_wp2_with (go_at_fn g; refine hcall.mono ?_; rintro e w' ⟨rfl, hb'⟩)
        go_roundw
        case rel =>
          refine ⟨k + 1, by omega, by go_num, hbel.trans (hb'.mono hbel.size), fun y hy => ?_⟩
          rcases mem_take_succ HX.out hy with h | h
          · exact HA.out y h
          · rw [h]; exact hq
        case measure => simp [intOf]; omega
    · have hge : n ≤ k := by omega
      clear hlt
      have hm1 : idxOf p xs = -1 := idxOf_miss (by have := HA.out; rwa [List.take_of_length_le (by rw [HL.out]; omega)] at this)
      have HM := hide hm1
      clear hm1
      go_wp2
      go_ret
      exact ⟨ret_int HM.out.symm, hbel⟩
set_option maxHeartbeats 1000000 in
theorem containsFuncItem (p : It → Bool) (g : Nat) (lb : Array Value) (eg : ∀ args w, (callFunc g args).run Try.prog w = .ok (.enter g args) w) (lo hi : Nat) (A : Option Addr) (n c : Nat) (xs : List It) (w : World)
    (hp : PredB Try.prog g lb valItem p w) (hs : SlK 7 encIt w lo hi A n c xs) (hB : hi ≤ w.heap.size) :
    Calls Try.prog 90 #[.slice A n c, .func (.func g) #[] lb] w fun e w' => e = .returned (.bool (xs.any p)) ∧ Below w.heap.size w w' := by
  have HC := hide (indexFuncItem p g lb eg lo hi A n c xs w hp hs hB)
  have HI := hide (idxOf_nonneg p xs)
  clear hp hs
  generalize idxOf p xs = r at *
  go_enter Try.func90, Try.ntmps90
  go_wp2_with (go_at_call 108; refine HC.out.mono ?_; rintro e w' ⟨rfl, hb'⟩)
  go_ret
  exact ⟨ret_bool HI.out, hb'⟩
def valType (x : Ty) : Value := .agg #[.int .i64 x.id, .int .i64 x.w, .int .i64 x.h, .int .i64 x.d, .int .i64 x.tare, .int .i64 x.gram, .int .i64 x.cost]
set_option maxHeartbeats 1000000 in
theorem indexFuncType (p : Ty → Bool) (g : Nat) (lb : Array Value) (eg : ∀ args w, (callFunc g args).run Try.prog w = .ok (.enter g args) w) (lo hi : Nat) (A : Option Addr) (n c : Nat) (xs : List Ty) (w : World)
    (hp : PredB Try.prog g lb valType p w) (hs : SlK 7 encTy w lo hi A n c xs) (hB : hi ≤ w.heap.size) :
    Calls Try.prog 70 #[.slice A n c, .func (.func g) #[] lb] w fun e w' => e = .returned (.int .i64 (idxOf p xs)) ∧ Below w.heap.size w w' := by
  have hm := hs.max
  have hc := hs.cap
  have HL := hide hs.len
  have HP := hide hp
  clear hp
  go_enter Try.func70, Try.ntmps70
  go_wp2
  go_loopw [5, 8] (fun _ i wr => ∃ k : Nat, k ≤ n ∧ i = .int .i64 k ∧ Below w.heap.size w wr ∧ ∀ y ∈ xs.take k, p y = false) (fun _ i _ => n - (intOf i).toNat)
  case atStart => exact ⟨0, Nat.zero_le _, rfl, Below.refl _ _, by simp⟩
  case round =>
    obtain ⟨k, hk, rfl, hbel, hA⟩ := hrel
    have HA := hide hA
    clear hA
    by_cases hlt : k < n
    · obtain ⟨b0, off, x, hx, rfl, _, hb, c0, c1, c2, c3, c4, c5, c6, _⟩ := (hs.below hbel hB).ty hlt
      have hcall := HP.out wr x hbel
      have HX := hide hx
      have HS := hide hs
      clear hx hs
      have hltz : (k : Int) < (n : Int) := by omega
      cases hq : p x with
      | true =>
        rw [hq] at hcall
        go_wp2_with (go_at_fn g; refine hcall.mono ?_; rintro e w' ⟨rfl, hb'⟩)
        go_ret
        exact ⟨ret_int (idxOf_hit HX.out hq HA.out).symm, hbel.trans (hb'.mono hbel.size)⟩
      | false =>
        rw [hq] at hcall
        go_wp2_with (go_at_fn g; refine hcall.mono ?_; rintro e w' ⟨rfl, hb'⟩)
        go_roundw
        case rel =>
          refine ⟨k + 1, by omega, by go_num, hbel.trans (hb'.mono hbel.size), fun y hy => ?_⟩
          rcases mem_take_succ HX.out hy with h | h
          · exact HA.out y h
          · rw [h]; exact hq
        case measure => simp [intOf]; omega
    · have hge : n ≤ k := by omega
      clear hlt
      have hm1 : idxOf p xs = -1 := idxOf_miss (by have := HA.out; rwa [List.take_of_length_le (by rw [HL.out]; omega)] at this)
      have HM := hide hm1
      clear hm1
      go_wp2
      go_ret
      exact ⟨ret_int HM.out.symm, hbel⟩
set_option maxHeartbeats 1000000 in
theorem containsFuncType (p : Ty → Bool) (g : Nat) (lb : Array Value) (eg : ∀ args w, (callFunc g args).run Try.prog w = .ok (.enter g args) w) (lo hi : Nat) (A : Option Addr) (n c : Nat) (xs : List Ty) (w : World)
    (hp : PredB Try.prog g lb valType p w) (hs : SlK 7 encTy w lo hi A n c xs) (hB : hi ≤ w.heap.size) :
    Calls Try.prog 93 #[.slice A n c, .func (.func g) #[] lb] w fun e w' => e = .returned (.bool (xs.any p)) ∧ Below w.heap.size w w' := by
  have HC := hide (indexFuncType p g lb eg lo hi A n c xs w hp hs hB)
  have HI := hide (idxOf_nonneg p xs)
  clear hp hs
  generalize idxOf p xs = r at *
  go_enter Try.func93, Try.ntmps93
  go_wp2_with (go_at_call 70; refine HC.out.mono ?_; rintro e w' ⟨rfl, hb'⟩)
  go_ret
  exact ⟨ret_bool HI.out, hb'⟩
end Go.Proofs.Ytcjcmdikopipjaa
