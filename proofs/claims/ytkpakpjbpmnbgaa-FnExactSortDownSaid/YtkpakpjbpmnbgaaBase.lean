/- Plain words and lemmas: what the given functions compute, in plain Lean; small facts on worlds. No program in sight. -/
import Derived.WalkKit
import Derived.WalkSpells
import Derived.WalkLawsBesides
import Derived.ProofKit
import Derived.OpenShut
import Derived.Outline
import Derived.BigQuiet
import Derived.Deep.QuietTactic
import Derived.Lib.Hide
namespace Go.Proofs.Ytkpakpjbpmnbgaa
open Go.ChangeShapes Go.WideShapes Go.ChangeAt Go.RowKit
set_option linter.unusedVariables false

theorem bcell {W w1 : World} (hb : Below W.heap.size W w1) : (∀ b o, b < W.heap.size → w1.cell? ⟨b, o, none⟩ = W.cell? ⟨b, o, none⟩) ∧ (∀ b o, b < W.heap.size → w1.frozen? ⟨b, o, none⟩ = W.frozen? ⟨b, o, none⟩) :=
  ⟨fun b o h => hb.cell (p := ⟨b, o, none⟩) h, fun b o h => hb.frozen (p := ⟨b, o, none⟩) h⟩

/-- n lies between lo and hi. -/
def inB (n lo hi : Int) : Bool := decide (lo ≤ n) && decide (n ≤ hi)
theorem inB_iff (n lo hi : Int) : inB n lo hi = true ↔ lo ≤ n ∧ n ≤ hi := by simp [inB]
theorem inB_false (n lo hi : Int) : inB n lo hi = false ↔ (n < lo ∨ hi < n) := by
  cases h : inB n lo hi
  · simp only [inB, Bool.and_eq_false_iff, decide_eq_false_iff_not] at h; simp; omega
  · rw [inB_iff] at h; simp; omega

def volB (a b c : Int) : Bool := inB a 0 2000 && inB b 0 2000 && inB c 0 2000
def vol (a b c : Int) : Int := if volB a b c then a * b * c else 0
theorem vol_mul (a b c : Int) (ha : inB a 0 2000 = true) (hb : inB b 0 2000 = true) (hc : inB c 0 2000 = true) :
   vol a b c = a * b * c ∧ 0 ≤ a * b ∧ a * b ≤ 4000000 ∧ 0 ≤ a * b * c ∧ a * b * c ≤ 8000000000 := by
  refine ⟨by simp [vol, volB, ha, hb, hc], ?_⟩
  rw [inB_iff] at ha hb hc
  have h1 : 0 ≤ a * b := Int.mul_nonneg ha.1 hb.1
  have h2 : a * b ≤ 2000 * 2000 := Int.mul_le_mul ha.2 hb.2 hb.1 (by omega)
  have h3 : 0 ≤ a * b * c := Int.mul_nonneg h1 hc.1
  have h4 : a * b * c ≤ (2000 * 2000) * 2000 := Int.mul_le_mul h2 hc.2 hc.1 (by omega)
  exact ⟨h1, by omega, h3, by omega⟩
theorem vol_range (a b c : Int) : 0 ≤ vol a b c ∧ vol a b c ≤ 8000000000 := by
  unfold vol
  split
  · rename_i h
    simp only [volB, Bool.and_eq_true] at h
    obtain ⟨⟨ha, hb⟩, hc⟩ := h
    obtain ⟨_, _, _, h3, h4⟩ := vol_mul a b c ha hb hc
    exact ⟨h3, h4⟩
  · exact ⟨by omega, by omega⟩

structure It where
  id : Int
  w : Int
  h : Int
  d : Int
  gram : Int
  cls : Int
  cnt : Int
structure Ty where
  id : Int
  w : Int
  h : Int
  d : Int
  tare : Int
  gram : Int
  cost : Int
structure Pl where
  w : Int
  d : Int
  h : Int
  gram : Int
structure Pr where
  a : Int
  b : Int
theorem It.eta (x : It) : (⟨x.id, x.w, x.h, x.d, x.gram, x.cls, x.cnt⟩ : It) = x := rfl
theorem Ty.eta (x : Ty) : (⟨x.id, x.w, x.h, x.d, x.tare, x.gram, x.cost⟩ : Ty) = x := rfl
theorem Pl.eta (x : Pl) : (⟨x.w, x.d, x.h, x.gram⟩ : Pl) = x := rfl
theorem Pr.eta (x : Pr) : (⟨x.a, x.b⟩ : Pr) = x := rfl
def itemOkB (x : It) : Bool := inB x.id 0 999 && inB x.w 1 2000 && inB x.h 1 2000 && inB x.d 1 2000 && inB x.gram 1 100000 && inB x.cls 0 3 && inB x.cnt 1 6
def typeOkB (x : Ty) : Bool := inB x.id 0 999 && inB x.w 1 2000 && inB x.h 1 2000 && inB x.d 1 2000 && inB x.tare 0 100000 && inB x.gram 1 100000 && inB x.cost 0 100000
def palletOkB (x : Pl) : Bool := inB x.w 1 2000 && inB x.d 1 2000 && inB x.h 1 2000 && inB x.gram 1 100000
end Go.Proofs.Ytkpakpjbpmnbgaa
