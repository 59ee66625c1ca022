/- The contracts of the laws' own copying, comparing and counting functions over slices. Written by gen/gen_s1.py. -/
import Derived.Test.YtkpakpjbpmnbgaaC1
import Derived.Test.YtkpakpjbpmnbgaaMem
import Derived.Deep.RegionHeld3
namespace Go.Proofs.Ytkpakpjbpmnbgaa
open Go.ChangeShapes Go.WideShapes Go.ChangeAt Go.RowKit Go.Deep
set_option linter.unusedVariables false

theorem bcellD {w w1 : World} (hb : Below w.drew.heap.size w.drew w1) : ∀ b o, b < w.heap.size → w1.cell? ⟨b, o, none⟩ = w.cell? ⟨b, o, none⟩ := fun b o h => hb.cell (p := ⟨b, o, none⟩) h
theorem int_info : (Try.prog.info? 3).map (fun i => (i.zero, i.size, i.bytes)) = some (some zI, 1, 8) := by kernel_rfl
set_option maxHeartbeats 2000000 in
theorem toIntS_any (lo hi : Nat) (A : Option Addr) (n c : Nat) (xs : List Int) (w : World) (hs : SlK 1 encInt w lo hi A n c xs) (hB : hi ≤ w.heap.size) (hn : n ≤ 1048576) :
    Calls Try.prog 6 #[.slice A n c] w fun e w' => ∃ A', e = .returned (.slice A' n n) ∧ SlK 1 encInt w' w.heap.size w'.heap.size A' n n xs ∧ Below w.heap.size w w' := by
  have hmk := fun W => mk_row Try.underlying22 int_info (by omega) n hn W
  have hm := hs.max
  have hc := hs.cap
  have HZ := hide (zeros_size zI (n * 1))
  have HL := hide hs.len
  generalize hZ : (zeros zI (n * 1)) = Z at *
  clear hZ
  go_enter Try.func6, Try.ntmps6
  go_wp2
  clear hmk
  go_loopw [4] (fun i wr => ∃ k : Nat, k ≤ n ∧ i = .int .i64 k ∧ wr.ownsRow w.heap.size 3 1 (.slice (some ⟨w.heap.size, 0, none⟩) n n) n ((xs.take k).flatMap encInt ++ Z.toList.drop (k * 1)) ∧ Below w.heap.size w wr) (fun i _ => n - (intOf i).toNat)
  case atStart =>
    refine ⟨0, Nat.zero_le _, rfl, ?_, (Below.refl _ _).alloc (Nat.le_refl _) _⟩
    simpa using World.ownsRow_lit (base := w.heap.size) (size := 1) (e := 3) w Z n (Nat.le_refl _) (by simp [maxLen]; omega) HZ.out
  case round =>
    obtain ⟨k, hk, rfl, hown, hbel⟩ := hrel
    by_cases hlt : k < n
    · obtain ⟨b0, off, x, hx, rfl, _, hb0, c0, _⟩ := (hs.below hbel hB).int hlt
      have HX := hide hx
      have HS := hide hs
      have HO := hide hown
      clear hx hown hs
      obtain ⟨u0, d0⟩ := own_cell HO.out (k * 1) (by omega)
      simp only [Nat.mul_one] at d0
      have fz := fun j => HO.out.frozenAt j
      go_wp2
      go_roundw
      case rel =>
        refine ⟨k + 1, by omega, by go_num, ?_, hbel.setCell (p := ⟨w.heap.size, k, none⟩) (Nat.le_refl _) _⟩
        rw [← row_fill encInt_len xs _ x HL.out (by simpa using HZ.out) hlt HX.out]
        have h1 := (HO.out.stored (k * 1) (.int .i64 x)).1
        simp only [Nat.mul_one] at h1 ⊢
        exact h1
      case measure => simp [intOf]; omega
    · have hge : n ≤ k := by omega
      clear hlt
      go_wp2
      go_ret
      refine ⟨_, rfl, ?_, hbel⟩
      rw [List.take_of_length_le (by rw [HL.out]; omega), List.drop_of_length_le (by have : n * 1 ≤ k * 1 := Nat.mul_le_mul_right _ hge; rw [Array.length_toList, HZ.out]; omega), List.append_nil] at hown
      exact slk_of_row encInt_len HL.out hown
set_option maxHeartbeats 800000 in
theorem eqIntS_any (lo hi lo' hi' : Nat) (A A' : Option Addr) (n c c' : Nat) (xs : List Int) (w : World) (hs : SlK 1 encInt w lo hi A n c xs) (hB : hi ≤ w.heap.size) (hs' : SlK 1 encInt w lo' hi' A' n c' xs) (hB' : hi' ≤ w.heap.size) :
    Calls Try.prog 8 #[.slice A n c, .slice A' n c'] w fun e w' => e = .returned (.bool true) ∧ Below w.heap.size w w' := by
  have hm := hs.max
  have hc := hs.cap
  have hm' := hs'.max
  have hc' := hs'.cap
  go_enter Try.func8, Try.ntmps8
  go_wp2
  go_loopw [5] (fun i wr => ∃ k : Nat, k ≤ n ∧ i = .int .i64 k ∧ Below w.heap.size w wr) (fun i _ => n - (intOf i).toNat)
  case atStart => exact ⟨0, Nat.zero_le _, rfl, Below.refl _ _⟩
  case round =>
    obtain ⟨k, hk, rfl, hbel⟩ := hrel
    by_cases hlt : k < n
    · obtain ⟨b0, off, x, hx, rfl, _, hb0, c0, _⟩ := (hs.below hbel hB).int hlt
      obtain ⟨b0', off', x', hx', rfl, _, hb0', d0, _⟩ := (hs'.below hbel hB').int hlt
      obtain rfl : x = x' := by rw [hx] at hx'; exact Option.some.inj hx'
      clear hx hx'
      have HS := hide hs
      have HS' := hide hs'
      clear hs hs'
      have i0 : (0 : Int) ≤ (k : Int) := by omega
      have i1 : (k : Int) < (n : Int) := by omega
      have z0 : b0 < wr.heap.size := by have := hbel.size; omega
      have z1 : b0' < wr.heap.size := by have := hbel.size; omega
      go_wp2_with fail
      go_quiet (fail)
      go_wp2
      go_roundw
      case rel => exact ⟨k + 1, by omega, by go_num, below_drewN hbel _⟩
      case measure => simp [intOf]; omega
    · have hge : n ≤ k := by omega
      clear hlt
      go_wp2
      go_ret
      exact ⟨rfl, hbel⟩
end Go.Proofs.Ytkpakpjbpmnbgaa
