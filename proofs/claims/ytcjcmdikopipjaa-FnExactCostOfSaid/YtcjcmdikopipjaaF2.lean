/- slices.IndexFunc and slices.ContainsFunc at slices of numbers and of rows, whatever the predicate. Written by gen/gen_f2.py. -/
import Derived.Test.YtcjcmdikopipjaaF1
namespace Go.Proofs.Ytcjcmdikopipjaa
open Go.ChangeShapes Go.WideShapes Go.ChangeAt Go.RowKit Go.Deep
set_option linter.unusedVariables false

/-- What is asked of a predicate: in every later world it answers p for each of xs, and leaves what was there. -/
def PredM {α : Type} (P : Program) (g : Nat) (lb : Array Value) (val : α → Value) (p : α → Bool) (xs : List α) (w : World) : Prop :=
  ∀ (W : World) (x : α), x ∈ xs → Below w.heap.size w W → Calls P g (#[val x] ++ lb) W fun e w' => e = .returned (.bool (p x)) ∧ Below W.heap.size W w'
/-- A row of numbers, as a slice in memory, and what it reads as. -/
structure IRow where
  A : Option Addr
  n : Nat
  c : Nat
  xs : List Int
def encRow (x : IRow) : List Value := [.slice x.A x.n x.c]
theorem encRow_len (x : IRow) : (encRow x).length = 1 := rfl
theorem encRow_one (x : IRow) : ∀ u ∈ encRow x, u.oneCell' = true := fun u hu => by
  simp only [encRow, List.mem_singleton] at hu
  subst hu
  rfl
theorem SlK.row {w : World} {lo hi : Nat} {A : Option Addr} {n c : Nat} {xs : List IRow} (h : SlK 1 encRow w lo hi A n c xs) {i : Nat} (hi' : i < n) :
    ∃ b off x, xs[i]? = some x ∧ A = some ⟨b, off, none⟩ ∧ lo ≤ b ∧ b < hi ∧ w.cell? ⟨b, off + i, none⟩ = some (.slice x.A x.n x.c) ∧ w.frozen? ⟨b, off + i, none⟩ = false := by
  obtain ⟨b, off, hx, hA, hl, hb, hc⟩ := h.at hi'
  have := hc 0 _ rfl
  simp only [Nat.mul_one, Nat.add_zero] at this
  exact ⟨b, off, xs[i], List.getElem?_eq_getElem hx, hA, hl, hb, this.1, this.2⟩
/-- A slice of rows: its cells and what each row reads as. -/
structure RowsAt (w : World) (lo hi : Nat) (A : Option Addr) (n c : Nat) (rows : List IRow) : Prop where
  out : SlK 1 encRow w lo hi A n c rows
  inn : ∀ x ∈ rows, SlK 1 encInt w lo hi x.A x.n x.c x.xs
theorem RowsAt.below {w w' : World} {lo hi : Nat} {A : Option Addr} {n c : Nat} {rows : List IRow} {B : Nat} (h : RowsAt w lo hi A n c rows) (hb : Below B w w') (hB : hi ≤ B) : RowsAt w' lo hi A n c rows :=
  ⟨h.out.below hb hB, fun x hx => (h.inn x hx).below hb hB⟩
theorem RowsAt.more {w : World} {lo hi lo' hi' : Nat} {A : Option Addr} {n c : Nat} {rows : List IRow} (h : RowsAt w lo hi A n c rows) (h1 : lo' ≤ lo) (h2 : hi ≤ hi') : RowsAt w lo' hi' A n c rows :=
  ⟨h.out.more h1 h2, fun x hx => (h.inn x hx).more h1 h2⟩
def valInt (x : Int) : Value := .int .i64 x
def valRow (x : IRow) : Value := .slice x.A x.n x.c
end Go.Proofs.Ytcjcmdikopipjaa
