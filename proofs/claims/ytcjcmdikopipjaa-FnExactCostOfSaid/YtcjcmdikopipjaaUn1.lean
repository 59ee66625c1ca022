/- The units of an order: sound, l6Units, l6Item and Units of the reference. -/
import Derived.Test.YtcjcmdikopipjaaUn
import Derived.Test.YtcjcmdikopipjaaFit
namespace Go.Proofs.Ytcjcmdikopipjaa
open Go.ChangeShapes Go.WideShapes Go.ChangeAt Go.RowKit Go.Deep
set_option linter.unusedVariables false
set_option linter.unusedSimpArgs false

theorem sound_any (r : Rq) (A1 A2 A3 : Option Addr) (n1 n2 n3 c1 c2 c3 : Nat) (lo hi : Nat) (w : World) (hr : RqAt w lo hi r A1 n1 c1 A2 n2 c2 A3 n3 c3) (hB : hi ≤ w.heap.size) :
    Calls Try.prog 48 #[.agg #[.int .i64 r.way, .int .i64 r.pal.w, .int .i64 r.pal.d, .int .i64 r.pal.h, .int .i64 r.pal.gram, .int .i64 r.cls, .slice A1 n1 c1, .slice A2 n2 c2, .int .i64 r.master, .slice A3 n3 c3]] w fun e w' => e = .returned (.bool (decide (classN r = 0))) ∧ Below w.heap.size w w' := by
  obtain ⟨q, hq⟩ : ∃ q, classN r = q := ⟨_, rfl⟩
  have HC := class_any r A1 A2 A3 n1 n2 n3 c1 c2 c3 lo hi
  rw [hq] at HC ⊢
  clear hq
  by_cases h0 : q = 0
  · subst h0
    go_enter Try.func48, Try.ntmps48
    go_wp2_with fail
    refine (HC _ (hr.below (B := w.heap.size) (by repeat (first | with_reducible exact Below.refl _ _ | with_reducible assumption | with_reducible refine Below.setCell ?_ (by (try simp) <;> omega) _ | with_reducible refine Below.alloc ?_ (by (try simp) <;> omega) _ | with_reducible refine Below.drew ?_ | with_reducible refine below_drewN ?_ _)) hB) (by (try simp) <;> omega)).mono ?_
    rintro e w1 ⟨rfl, hb1⟩
    go_wp2
    go_ret
    exact ⟨ret_bool (by simp), (by repeat (first | with_reducible exact Below.refl _ _ | with_reducible assumption | with_reducible refine Below.setCell ?_ (by (try simp) <;> omega) _ | with_reducible refine Below.alloc ?_ (by (try simp) <;> omega) _ | with_reducible refine Below.drew ?_ | with_reducible refine below_drewN ?_ _ | with_reducible exact hb1 | with_reducible refine Below.trans ?_ (Below.mono hb1 (by (try simp) <;> omega))))⟩
  · have hd : (q == 0) = false := by simpa using h0
    go_enter Try.func48, Try.ntmps48
    go_wp2_with fail
    refine (HC _ (hr.below (B := w.heap.size) (by repeat (first | with_reducible exact Below.refl _ _ | with_reducible assumption | with_reducible refine Below.setCell ?_ (by (try simp) <;> omega) _ | with_reducible refine Below.alloc ?_ (by (try simp) <;> omega) _ | with_reducible refine Below.drew ?_ | with_reducible refine below_drewN ?_ _)) hB) (by (try simp) <;> omega)).mono ?_
    rintro e w1 ⟨rfl, hb1⟩
    go_wp2
    go_ret
    exact ⟨ret_bool (by simp [h0]), (by repeat (first | with_reducible exact Below.refl _ _ | with_reducible assumption | with_reducible refine Below.setCell ?_ (by (try simp) <;> omega) _ | with_reducible refine Below.alloc ?_ (by (try simp) <;> omega) _ | with_reducible refine Below.drew ?_ | with_reducible refine below_drewN ?_ _ | with_reducible exact hb1 | with_reducible refine Below.trans ?_ (Below.mono hb1 (by (try simp) <;> omega))))⟩
end Go.Proofs.Ytcjcmdikopipjaa
