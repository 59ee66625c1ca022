/- Equality of the structs, slices.Equal at pairs, types and items, RequestSame of both, Sum of both. Written by gen/gen_d1.py. -/
import Derived.Test.YtcjcmdikopipjaaDoorF1
import Derived.Laws.StructEq
namespace Go.Proofs.YtcjcmdikopipjaaDoor
open Go.ChangeShapes Go.WideShapes Go.ChangeAt Go.RowKit Go.Deep
set_option linter.unusedVariables false
set_option linter.unusedSimpArgs false

/-- Two lists are alike, element by element. -/
def sameL {α : Type} (p : α → α → Bool) : List α → List α → Bool
  | [], [] => true
  | x :: xs, y :: ys => p x y && sameL p xs ys
  | _, _ => false
theorem sameL_len {α : Type} {p : α → α → Bool} : ∀ {xs ys : List α}, xs.length ≠ ys.length → sameL p xs ys = false
  | [], [], h => absurd rfl h
  | x :: xs, y :: ys, h => by simp [sameL, sameL_len (p := p) (xs := xs) (ys := ys) (by simpa using h)]
  | [], _ :: _, _ => rfl
  | _ :: _, [], _ => rfl
theorem sameL_hit {α : Type} {p : α → α → Bool} : ∀ {xs ys : List α} {k : Nat} {x y : α}, xs[k]? = some x → ys[k]? = some y → p x y = false → sameL p xs ys = false
  | [], _, k, x, y, h, _, _ => by simp at h
  | _ :: _, [], k, x, y, _, h, _ => by simp at h
  | a :: xs, b :: ys, 0, x, y, h, h', hp => by simp at h h'; subst h h'; simp [sameL, hp]
  | a :: xs, b :: ys, k + 1, x, y, h, h', hp => by simp at h h'; simp [sameL, sameL_hit h h' hp]
theorem sameL_all {α : Type} {p : α → α → Bool} : ∀ {xs ys : List α}, xs.length = ys.length → (∀ (j : Nat) x y, xs[j]? = some x → ys[j]? = some y → p x y = true) → sameL p xs ys = true
  | [], [], _, _ => rfl
  | x :: xs, y :: ys, hl, h => by
    have h0 := h 0 x y rfl rfl
    have ih := sameL_all (p := p) (xs := xs) (ys := ys) (by simpa using hl) fun j a b ha hb => h (j + 1) a b (by simpa using ha) (by simpa using hb)
    simp [sameL, h0, ih]
  | [], _ :: _, h, _ => by simp at h
  | _ :: _, [], h, _ => by simp at h
theorem sameL_self {α : Type} {p : α → α → Bool} (h : ∀ x, p x x = true) (xs : List α) : sameL p xs xs = true :=
  sameL_all rfl fun j x y hx hy => by rw [hx] at hy; cases hy; exact h x
/-- The first k pairs of elements are alike. -/
def AlikeTo {α : Type} (p : α → α → Bool) (xs ys : List α) (k : Nat) : Prop := ∀ (j : Nat) x y, j < k → xs[j]? = some x → ys[j]? = some y → p x y = true
theorem alike0 {α : Type} (p : α → α → Bool) (xs ys : List α) : AlikeTo p xs ys 0 := fun j x y h => by omega
theorem AlikeTo.succ {α : Type} {p : α → α → Bool} {xs ys : List α} {k : Nat} {x y : α} (h : AlikeTo p xs ys k) (hx : xs[k]? = some x) (hy : ys[k]? = some y) (hp : p x y = true) : AlikeTo p xs ys (k + 1) := fun j a b hj ha hb => by
  by_cases hjk : j < k
  · exact h j a b hjk ha hb
  · obtain rfl : j = k := by omega
    rw [hx] at ha; rw [hy] at hb; cases ha; cases hb; exact hp
theorem AlikeTo.all {α : Type} {p : α → α → Bool} {xs ys : List α} {k : Nat} (h : AlikeTo p xs ys k) (hk : xs.length ≤ k) (hl : xs.length = ys.length) : sameL p xs ys = true :=
  sameL_all hl fun j x y hx hy => h j x y (by have := (List.getElem?_eq_some_iff.1 hx).1; omega) hx hy

def pPrB (x y : Pr) : Bool := x.a == y.a && x.b == y.b
theorem pPrB_self (x : Pr) : pPrB x x = true := by simp [pPrB]
set_option maxHeartbeats 1000000 in
theorem eqqPair (x y : Pr) (w : World) : (binOp .eql 82 (.agg #[.int .i64 x.a, .int .i64 x.b]) (.agg #[.int .i64 y.a, .int .i64 y.b])).run Tryd.prog w = .ok (.bool (pPrB x y)) w ∧ (binOp .neq 82 (.agg #[.int .i64 x.a, .int .i64 x.b]) (.agg #[.int .i64 y.a, .int .i64 y.b])).run Tryd.prog w = .ok (.bool (!pPrB x y)) w := by
  have u3 := Tryd.underlying3
  have a3 := Tryd.isAgg3
  have z3 := Tryd.sizeOf3
  have hS : Tryd.prog.underlying 82 = some (.struct (Tryd.prog.fieldsOf 82)) := by kernel_rfl
  have hp : Tryd.prog.stoodInHeld 82 = false := by kernel_rfl
  rw [run_eql_struct, run_neq_struct, show (10000 : Nat) = 9999 + 1 from rfl, run_equalIn_agg w 9999 82 _ _ hS hp]
  simp only [Program.fieldsOf, Tryd.underlying82]
  go_simp
  by_cases h0 : x.a = y.a
  case neg => simp [pPrB, h0]
  by_cases h1 : x.b = y.b
  case neg => simp [pPrB, h0, h1]
  simp [pPrB, h0, h1]
def pTyB (x y : Ty) : Bool := x.id == y.id && x.w == y.w && x.h == y.h && x.d == y.d && x.tare == y.tare && x.gram == y.gram && x.cost == y.cost
theorem pTyB_self (x : Ty) : pTyB x x = true := by simp [pTyB]
set_option maxHeartbeats 1000000 in
theorem eqqType (x y : Ty) (w : World) : (binOp .eql 84 (.agg #[.int .i64 x.id, .int .i64 x.w, .int .i64 x.h, .int .i64 x.d, .int .i64 x.tare, .int .i64 x.gram, .int .i64 x.cost]) (.agg #[.int .i64 y.id, .int .i64 y.w, .int .i64 y.h, .int .i64 y.d, .int .i64 y.tare, .int .i64 y.gram, .int .i64 y.cost])).run Tryd.prog w = .ok (.bool (pTyB x y)) w ∧ (binOp .neq 84 (.agg #[.int .i64 x.id, .int .i64 x.w, .int .i64 x.h, .int .i64 x.d, .int .i64 x.tare, .int .i64 x.gram, .int .i64 x.cost]) (.agg #[.int .i64 y.id, .int .i64 y.w, .int .i64 y.h, .int .i64 y.d, .int .i64 y.tare, .int .i64 y.gram, .int .i64 y.cost])).run Tryd.prog w = .ok (.bool (!pTyB x y)) w := by
  have u3 := Tryd.underlying3
  have a3 := Tryd.isAgg3
  have z3 := Tryd.sizeOf3
  have hS : Tryd.prog.underlying 84 = some (.struct (Tryd.prog.fieldsOf 84)) := by kernel_rfl
  have hp : Tryd.prog.stoodInHeld 84 = false := by kernel_rfl
  rw [run_eql_struct, run_neq_struct, show (10000 : Nat) = 9999 + 1 from rfl, run_equalIn_agg w 9999 84 _ _ hS hp]
  simp only [Program.fieldsOf, Tryd.underlying84]
  go_simp
  by_cases h0 : x.id = y.id
  case neg => simp [pTyB, h0]
  by_cases h1 : x.w = y.w
  case neg => simp [pTyB, h0, h1]
  by_cases h2 : x.h = y.h
  case neg => simp [pTyB, h0, h1, h2]
  by_cases h3 : x.d = y.d
  case neg => simp [pTyB, h0, h1, h2, h3]
  by_cases h4 : x.tare = y.tare
  case neg => simp [pTyB, h0, h1, h2, h3, h4]
  by_cases h5 : x.gram = y.gram
  case neg => simp [pTyB, h0, h1, h2, h3, h4, h5]
  by_cases h6 : x.cost = y.cost
  case neg => simp [pTyB, h0, h1, h2, h3, h4, h5, h6]
  simp [pTyB, h0, h1, h2, h3, h4, h5, h6]
def pItB (x y : It) : Bool := x.id == y.id && x.w == y.w && x.h == y.h && x.d == y.d && x.gram == y.gram && x.cls == y.cls && x.cnt == y.cnt
theorem pItB_self (x : It) : pItB x x = true := by simp [pItB]
set_option maxHeartbeats 1000000 in
theorem eqqItem (x y : It) (w : World) : (binOp .eql 86 (.agg #[.int .i64 x.id, .int .i64 x.w, .int .i64 x.h, .int .i64 x.d, .int .i64 x.gram, .int .i64 x.cls, .int .i64 x.cnt]) (.agg #[.int .i64 y.id, .int .i64 y.w, .int .i64 y.h, .int .i64 y.d, .int .i64 y.gram, .int .i64 y.cls, .int .i64 y.cnt])).run Tryd.prog w = .ok (.bool (pItB x y)) w ∧ (binOp .neq 86 (.agg #[.int .i64 x.id, .int .i64 x.w, .int .i64 x.h, .int .i64 x.d, .int .i64 x.gram, .int .i64 x.cls, .int .i64 x.cnt]) (.agg #[.int .i64 y.id, .int .i64 y.w, .int .i64 y.h, .int .i64 y.d, .int .i64 y.gram, .int .i64 y.cls, .int .i64 y.cnt])).run Tryd.prog w = .ok (.bool (!pItB x y)) w := by
  have u3 := Tryd.underlying3
  have a3 := Tryd.isAgg3
  have z3 := Tryd.sizeOf3
  have hS : Tryd.prog.underlying 86 = some (.struct (Tryd.prog.fieldsOf 86)) := by kernel_rfl
  have hp : Tryd.prog.stoodInHeld 86 = false := by kernel_rfl
  rw [run_eql_struct, run_neq_struct, show (10000 : Nat) = 9999 + 1 from rfl, run_equalIn_agg w 9999 86 _ _ hS hp]
  simp only [Program.fieldsOf, Tryd.underlying86]
  go_simp
  by_cases h0 : x.id = y.id
  case neg => simp [pItB, h0]
  by_cases h1 : x.w = y.w
  case neg => simp [pItB, h0, h1]
  by_cases h2 : x.h = y.h
  case neg => simp [pItB, h0, h1, h2]
  by_cases h3 : x.d = y.d
  case neg => simp [pItB, h0, h1, h2, h3]
  by_cases h4 : x.gram = y.gram
  case neg => simp [pItB, h0, h1, h2, h3, h4]
  by_cases h5 : x.cls = y.cls
  case neg => simp [pItB, h0, h1, h2, h3, h4, h5]
  by_cases h6 : x.cnt = y.cnt
  case neg => simp [pItB, h0, h1, h2, h3, h4, h5, h6]
  simp [pItB, h0, h1, h2, h3, h4, h5, h6]
def pPlB (x y : Pl) : Bool := x.w == y.w && x.d == y.d && x.h == y.h && x.gram == y.gram
theorem pPlB_self (x : Pl) : pPlB x x = true := by simp [pPlB]
set_option maxHeartbeats 1000000 in
theorem eqqPallet (x y : Pl) (w : World) : (binOp .eql 36 (.agg #[.int .i64 x.w, .int .i64 x.d, .int .i64 x.h, .int .i64 x.gram]) (.agg #[.int .i64 y.w, .int .i64 y.d, .int .i64 y.h, .int .i64 y.gram])).run Tryd.prog w = .ok (.bool (pPlB x y)) w ∧ (binOp .neq 36 (.agg #[.int .i64 x.w, .int .i64 x.d, .int .i64 x.h, .int .i64 x.gram]) (.agg #[.int .i64 y.w, .int .i64 y.d, .int .i64 y.h, .int .i64 y.gram])).run Tryd.prog w = .ok (.bool (!pPlB x y)) w := by
  have u3 := Tryd.underlying3
  have a3 := Tryd.isAgg3
  have z3 := Tryd.sizeOf3
  have hS : Tryd.prog.underlying 36 = some (.struct (Tryd.prog.fieldsOf 36)) := by kernel_rfl
  have hp : Tryd.prog.stoodInHeld 36 = false := by kernel_rfl
  rw [run_eql_struct, run_neq_struct, show (10000 : Nat) = 9999 + 1 from rfl, run_equalIn_agg w 9999 36 _ _ hS hp]
  simp only [Program.fieldsOf, Tryd.underlying36]
  go_simp
  by_cases h0 : x.w = y.w
  case neg => simp [pPlB, h0]
  by_cases h1 : x.d = y.d
  case neg => simp [pPlB, h0, h1]
  by_cases h2 : x.h = y.h
  case neg => simp [pPlB, h0, h1, h2]
  by_cases h3 : x.gram = y.gram
  case neg => simp [pPlB, h0, h1, h2, h3]
  simp [pPlB, h0, h1, h2, h3]
def smB (x : Int) : Int := if inB x (-1000000000) 1000000000 then x else 0
def sumB (xs : List Int) : Int := (xs.map smB).sum
theorem sumB_snoc {xs : List Int} {k : Nat} {x : Int} (hx : xs[k]? = some x) : sumB (xs.take (k + 1)) = sumB (xs.take k) + smB x := by
  unfold sumB
  rw [List.take_add_one, hx]
  simp
theorem smB_bd (x : Int) : -1000000000 ≤ smB x ∧ smB x ≤ 1000000000 := by
  unfold smB
  split
  · rename_i h; exact (inB_iff _ _ _).1 h
  · omega
theorem sumB_bd : ∀ xs : List Int, -1000000000 * (xs.length : Int) ≤ sumB xs ∧ sumB xs ≤ 1000000000 * (xs.length : Int)
  | [] => by simp [sumB]
  | x :: xs => by
    have ih := sumB_bd xs
    have hx := smB_bd x
    have e : sumB (x :: xs) = smB x + sumB xs := by simp [sumB]
    rw [e]
    simp only [List.length_cons]
    omega
set_option maxHeartbeats 400000 in
theorem sum_any (lo hi : Nat) (A : Option Addr) (n c : Nat) (xs : List Int) (w : World) (hs : SlK 1 encInt w lo hi A n c xs) (hn : n ≤ 1048576) :
    Calls Tryd.prog 25 #[.slice A n c] w fun e w' => e = .returned (.int .i64 (sumB xs)) ∧ w = w' := by
  have hm := hs.max
  have hc := hs.cap
  have HL := hide hs.len
  go_enter Tryd.func25, Tryd.ntmps25
  go_wp2
  go_loop [3, 8] (fun s i => ∃ k : Nat, k ≤ n ∧ i = .int .i64 k ∧ s = .int .i64 (sumB (xs.take k))) (fun _ i => n - (intOf i).toNat)
  case atStart => exact ⟨0, Nat.zero_le _, rfl, rfl⟩
  case round =>
    obtain ⟨k, hk, rfl, rfl⟩ := hrel
    have HB := hide (sumB_bd (xs.take k))
    have hlen : (xs.take k).length ≤ k := List.length_take_le _ _
    by_cases hlt : k < n
    · obtain ⟨b0, off, x, hx, rfl, _, hb, c0, _⟩ := hs.int hlt
      have HX := hide hx
      have HS := hide hs
      have i0 : (0 : Int) ≤ (k : Int) := by omega
      have i1 : (k : Int) < (n : Int) := by omega
      have hsn := hide (sumB_snoc hx)
      have hsx := smB_bd x
      have hb1 : -2000000000000000 ≤ sumB (xs.take k) := by have := HB.out.1; omega
      have hb2 : sumB (xs.take k) ≤ 2000000000000000 := by have := HB.out.2; omega
      clear hx hs
      cases hq : inB x (-1000000000) 1000000000 with
      | true =>
        have hsm : smB x = x := by simp [smB, hq]
        rw [hsm] at hsx
        have h1 : -9223372036854775808 ≤ sumB (xs.take k) + x := by omega
        have h2 : sumB (xs.take k) + x ≤ 9223372036854775807 := by omega
        go_wp2_with (go_at_call 37; refine (in_any _ _ _ _).mono ?_; rintro e w' ⟨rfl, rfl⟩)
        go_round
        case rel => exact ⟨k + 1, by omega, by go_num, by rw [hsn.out, hsm]⟩
        case measure => simp [intOf]; omega
      | false =>
        have hsm : smB x = 0 := by simp [smB, hq]
        go_wp2_with (go_at_call 37; refine (in_any _ _ _ _).mono ?_; rintro e w' ⟨rfl, rfl⟩)
        go_round
        case rel => exact ⟨k + 1, by omega, by go_num, by rw [hsn.out, hsm, Int.add_zero]⟩
        case measure => simp [intOf]; omega
    · have hge : n ≤ k := by omega
      clear hlt
      have HT := hide (show xs.take k = xs from List.take_of_length_le (by rw [HL.out]; exact hge))
      go_wp2
      go_ret
      exact ⟨ret_int (by rw [HT.out]), rfl⟩
end Go.Proofs.YtcjcmdikopipjaaDoor
