/- The laws' own copying, comparing and counting of slices of slices of numbers. -/
import Derived.Test.YtcjcmdikopipjaaF2
import Derived.Test.YtcjcmdikopipjaaS1
namespace Go.Proofs.Ytcjcmdikopipjaa
open Go.ChangeShapes Go.WideShapes Go.ChangeAt Go.RowKit Go.Deep
set_option linter.unusedVariables false
set_option linter.unusedSimpArgs false

/-- The rows' lists. -/
def rowsL (rows : List IRow) : List (List Int) := rows.map fun r => r.xs
/-- How many numbers the rows hold together. -/
def totN : List IRow → Nat
  | [] => 0
  | r :: rs => r.n + totN rs
theorem totN_snoc : ∀ (rs : List IRow) (r : IRow), totN (rs ++ [r]) = totN rs + r.n
  | [], r => by simp [totN]
  | x :: rs, r => by rw [List.cons_append, totN, totN_snoc rs r, totN]; omega
theorem totN_app : ∀ (rs ss : List IRow), totN (rs ++ ss) = totN rs + totN ss
  | [], ss => by simp [totN]
  | x :: rs, ss => by rw [List.cons_append, totN, totN_app rs ss, totN]; omega
theorem take_snoc {α : Type} {xs : List α} {k : Nat} {x : α} (hx : xs[k]? = some x) : xs.take (k + 1) = xs.take k ++ [x] := by
  rw [List.take_add_one, hx]; rfl
theorem totN_le {rs : List IRow} {k : Nat} {x : IRow} (hx : rs[k]? = some x) : totN (rs.take k) + x.n ≤ totN rs := by
  have h1 : totN rs = totN (rs.take (k + 1)) + totN (rs.drop (k + 1)) := by rw [← totN_app, List.take_append_drop]
  rw [h1, take_snoc hx, totN_snoc]
  omega
theorem totN_take_le (rs : List IRow) (k : Nat) : totN (rs.take k) ≤ totN rs := by
  have h1 : totN rs = totN (rs.take k) + totN (rs.drop k) := by rw [← totN_app, List.take_append_drop]
  omega
theorem row_fill' {α : Type} {k : Nat} {enc : α → List Value} (hk : ∀ x, (enc x).length = k) {n : Nat} (ys : List α) (Z : List Value) (z : α) {i : Nat} (hl : ys.length = i) (hZ : Z.length = n * k) (hi : i < n) :
    setL (ys.flatMap enc ++ Z.drop (i * k)) (i * k) (enc z) = (ys ++ [z]).flatMap enc ++ Z.drop ((i + 1) * k) := by
  have h1 : (ys.flatMap enc).length = i * k := by rw [flat_length hk, hl]
  have h2 : (i + 1) * k ≤ n * k := Nat.mul_le_mul_right _ (by omega)
  have h3 : (i + 1) * k = i * k + k := Nat.succ_mul i k
  rw [setL_eq _ _ _ (by rw [hk, List.length_append, h1, List.length_drop]; omega), hk]
  rw [List.take_left' h1, List.drop_append, h1, List.drop_of_length_le (by omega), List.drop_drop]
  simp only [List.flatMap_append, List.flatMap_cons, List.flatMap_nil, List.append_nil, List.nil_append]
  rw [show i * k + (i * k + k - i * k) = (i + 1) * k from by omega]
def zS : Value := .slice none 0 0
theorem IntS_info : (Try.prog.info? 29).map (fun i => (i.zero, i.size, i.bytes)) = some (some zS, 1, 24) := by kernel_rfl
end Go.Proofs.Ytcjcmdikopipjaa
