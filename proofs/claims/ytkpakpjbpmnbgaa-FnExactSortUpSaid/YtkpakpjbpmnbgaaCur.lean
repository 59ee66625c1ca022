/- The cursor of a draw in memory. -/
import Derived.Test.YtkpakpjbpmnbgaaApp
import Derived.Test.YtkpakpjbpmnbgaaInv
namespace Go.Proofs.Ytkpakpjbpmnbgaa
open Go.ChangeShapes Go.WideShapes Go.ChangeAt Go.RowKit Go.Deep
set_option linter.unusedVariables false
set_option linter.unusedSimpArgs false
def encByte (z : Int) : List Value := [.int .u8 z]
theorem encByte_len (z : Int) : (encByte z).length = 1 := rfl
theorem SlK.byte {w : World} {lo hi : Nat} {A : Option Addr} {n c : Nat} {xs : List Int} (h : SlK 1 encByte w lo hi A n c xs) {i : Nat} (hi' : i < n) :
    ∃ b off x, xs[i]? = some x ∧ A = some ⟨b, off, none⟩ ∧ lo ≤ b ∧ b < hi ∧ w.cell? ⟨b, off + i, none⟩ = some (.int .u8 x) ∧ w.frozen? ⟨b, off + i, none⟩ = false := by
  obtain ⟨b, off, hx, hA, hl, hb, hc⟩ := h.at hi'
  have := hc 0 _ rfl
  simp only [Nat.mul_one, Nat.add_zero] at this
  exact ⟨b, off, xs[i], List.getElem?_eq_getElem hx, hA, hl, hb, this.1, this.2⟩
/-- The cursor in block g, of type T, over the bytes of a code that is older. -/
structure CurAt (T : TypeId) (w : World) (g : Nat) (A : Option Addr) (n c : Nat) (bs : List Int) : Prop where
  cur : ∃ i : Nat, ∃ h : Int, i ≤ n ∧ Blk w g T #[.slice A n c, .int .i64 i, .int .i64 h]
  code : SlK 1 encByte w 0 g A n c bs
  byte : ∀ b ∈ bs, 0 ≤ b ∧ b ≤ 255
section
variable {T : TypeId} {w w' : World} {g : Nat} {A : Option Addr} {n c : Nat} {bs : List Int}
theorem CurAt.lt (h : CurAt T w g A n c bs) : g < w.heap.size := by
  obtain ⟨i, x, _, hb⟩ := h.cur
  exact hb.lt
theorem CurAt.below (h : CurAt T w g A n c bs) (hb : Below w.heap.size w w') : CurAt T w' g A n c bs := by
  have hl := h.lt
  obtain ⟨⟨i, x, hi, hk⟩, hc, hy⟩ := h
  exact ⟨⟨i, x, hi, hk.belowH hb⟩, hc.below hb (Nat.le_of_lt hl), hy⟩
theorem CurAt.alloc (h : CurAt T w g A n c bs) (o : Obj) : CurAt T (w.alloc o) g A n c bs := h.below ((Below.refl _ _).alloc (Nat.le_refl _) o)
theorem CurAt.drew (h : CurAt T w g A n c bs) : CurAt T w.drew g A n c bs := by
  obtain ⟨⟨i, x, hi, hk⟩, hc, hy⟩ := h
  exact ⟨⟨i, x, hi, hk.drew⟩, hc.drew, hy⟩
theorem CurAt.drewN (h : CurAt T w g A n c bs) (m : Nat) : CurAt T (w.drewN m) g A n c bs := by
  obtain ⟨⟨i, x, hi, hk⟩, hc, hy⟩ := h
  exact ⟨⟨i, x, hi, hk.drewN m⟩, hc.drewN m, hy⟩
theorem CurAt.grown {r : Option Nat} (h : CurAt T w g A n c bs) (hg : w.grownBy w' r) (hr : ∀ x, r = some x → g < x) : CurAt T w' g A n c bs := by
  have hl := h.lt
  obtain ⟨⟨i, x, hi, hk⟩, hc, hy⟩ := h
  exact ⟨⟨i, x, hi, hk.grown hg (fun e => by have := hr g e.symm; omega)⟩, hc.grown hg (Nat.le_of_lt hl) (fun z hz => .inr (by have := hr z hz; omega)), hy⟩
theorem CurAt.far (h : CurAt T w g A n c bs) {p : Addr} (hp : g < p.block) (u : Value) : CurAt T (w.setCell p u) g A n c bs := by
  obtain ⟨⟨i, x, hi, hk⟩, hc, hy⟩ := h
  exact ⟨⟨i, x, hi, hk.far (by omega) u⟩, hc.setCell (.inr (Nat.le_of_lt hp)) u, hy⟩
end
/-- Drawing has gone on: what was there stands, but for block g, and there may be more. -/
theorem grown_refl (w : World) (r : Option Nat) : w.grownBy w r := World.grownBy.refl w r
theorem grown_trans {a b c : World} {r : Option Nat} (h1 : a.grownBy b r) (h2 : b.grownBy c r) : a.grownBy c r :=
  ⟨h2.os.trans h1.os, h2.tape.trans h1.tape, h2.output.trans h1.output, Nat.le_trans h1.size h2.size, fun k hk hne => (h2.block k (Nat.lt_of_lt_of_le hk h1.size) hne).trans (h1.block k hk hne)⟩
theorem grown_below {a b : World} (r : Option Nat) (h : Below a.heap.size a b) : a.grownBy b r :=
  ⟨h.os, h.tape, h.output, h.size, fun k hk _ => h.block k hk⟩
theorem grown_alloc (w : World) (r : Option Nat) (o : Obj) : w.grownBy (w.alloc o) r := grown_below r ((Below.refl _ _).alloc (Nat.le_refl _) o)
theorem grown_drew (w : World) (r : Option Nat) : w.grownBy w.drew r := ⟨rfl, rfl, rfl, Nat.le_refl _, fun _ _ _ => rfl⟩
theorem grown_drewN (w : World) (r : Option Nat) (m : Nat) : w.grownBy (w.drewN m) r := ⟨rfl, rfl, rfl, Nat.le_refl _, fun _ _ _ => rfl⟩
theorem grown_set (w : World) (g o : Nat) (u : Value) : w.grownBy (w.setCell ⟨g, o, none⟩ u) (some g) :=
  ⟨rfl, rfl, rfl, by simp, fun k hk hne => Below.heap_setCell w ⟨g, o, none⟩ u k (fun e => hne (by rw [e]))⟩
/-- Growth behind a bound: writes in block g and in new blocks alone. -/
theorem below_of_grown {B : Nat} {a b : World} {r : Option Nat} (h : a.grownBy b r) (hr : ∀ x, r = some x → B ≤ x) (hB : B ≤ a.heap.size) : Below B a b :=
  ⟨h.os, h.tape, h.output, h.size, fun k hk => h.block k (by omega) (fun e => by have := hr k e.symm; omega)⟩
end Go.Proofs.Ytkpakpjbpmnbgaa
