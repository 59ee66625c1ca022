/- The laws' own small functions. -/
import Derived.Test.YtehgdhekiogppaaGreatGof
import Derived.Test.YtehgdhekiogppaaGreatCur
namespace Go.Proofs.YtehgdhekiogppaaGreat
open Go.ChangeShapes Go.WideShapes Go.ChangeAt Go.RowKit Go.Deep
set_option linter.unusedVariables false
set_option linter.unusedSimpArgs false

theorem big_no (A : Option Addr) (n c : Nat) (w : World) (hc : n ≤ c) (hm : c ≤ 9223372036854775807) (h : n ≤ 1048576) :
    Calls Tryz.prog 15 #[.slice A n c] w fun e w' => e = .returned (.bool false) ∧ w = w' := by
  have h2 : ¬ ((1048576 : Int) < (n : Int)) := by omega
  go_enter Tryz.func15, Tryz.ntmps15
  go_wp2
  go_ret
  exact ⟨rfl, rfl⟩
theorem big_yes (A : Option Addr) (n c : Nat) (w : World) (hc : n ≤ c) (hm : c ≤ 9223372036854775807) (h : ¬ n ≤ 1048576) :
    Calls Tryz.prog 15 #[.slice A n c] w fun e w' => e = .returned (.bool true) ∧ w = w' := by
  have h2 : (1048576 : Int) < (n : Int) := by omega
  go_enter Tryz.func15, Tryz.ntmps15
  go_wp2
  go_ret
  exact ⟨rfl, rfl⟩
def cntL (xs : List Int) (v : Int) : Nat := xs.countP fun y => y == v
theorem cntL_snoc {xs : List Int} {k : Nat} {x v : Int} (hx : xs[k]? = some x) : cntL (xs.take (k + 1)) v = cntL (xs.take k) v + (if x == v then 1 else 0) := by
  unfold cntL
  rw [take_snoc hx, List.countP_append]
  simp [List.countP_cons]
theorem cntL_le (xs : List Int) (v : Int) (k : Nat) : cntL (xs.take k) v ≤ k := by
  unfold cntL
  have h1 := List.countP_le_length (p := fun y => y == v) (l := xs.take k)
  rw [List.length_take] at h1
  omega
theorem cntL_pos (xs : List Int) (v : Int) : (0 < cntL xs v) ↔ hasB xs v = true := by
  unfold cntL hasB
  rw [List.countP_pos_iff, List.any_eq_true]
set_option maxHeartbeats 1000000 in
theorem times_any (v : Int) (lo hi : Nat) (A : Option Addr) (n c : Nat) (xs : List Int) (w : World) (hs : SlK 1 encInt w lo hi A n c xs) (hn : n ≤ 1048576) :
    Calls Tryz.prog 29 #[.slice A n c, .int .i64 v] w fun e w' => e = .returned (.int .i64 (cntL xs v)) ∧ w = w' := by
  have hm := hs.max
  have hc := hs.cap
  have HL := hide hs.len
  go_enter Tryz.func29, Tryz.ntmps29
  go_wp2
  go_loop [5, 6] (fun q i => ∃ k : Nat, k ≤ n ∧ i = .int .i64 k ∧ q = .int .i64 (cntL (xs.take k) v)) (fun _ i => n - (intOf i).toNat)
  case atStart => exact ⟨0, Nat.zero_le _, rfl, by simp [cntL]⟩
  case round =>
    obtain ⟨k, hk, rfl, rfl⟩ := hrel
    by_cases hlt : k < n
    · obtain ⟨b0, off, x, hx, rfl, _, hb, c0, _⟩ := hs.int hlt
      have HS := hide (cntL_snoc (v := v) hx)
      have hle := cntL_le xs v k
      obtain ⟨q, hq⟩ : ∃ q, cntL (xs.take k) v = q := ⟨_, rfl⟩
      rw [hq] at hle HS ⊢
      have i0 : (0 : Int) ≤ (k : Int) := by omega
      have i1 : (k : Int) < (n : Int) := by omega
      clear hx hq
      by_cases e : x = v
      · subst e
        go_wp2
        go_round
        case rel => exact ⟨k + 1, by omega, by go_num, by rw [HS.out]; simp⟩
        case measure => first | omega | (simp [intOf]; done) | (simp [intOf]; omega)
      · have HE := hide (show (x == v) = false by simp [e])
        rw [HE.out] at HS
        go_wp2
        go_round
        case rel => exact ⟨k + 1, by omega, by go_num, by rw [HS.out]; simp⟩
        case measure => first | omega | (simp [intOf]; done) | (simp [intOf]; omega)
    · obtain rfl : k = n := by omega
      clear hlt
      have HT := hide (show xs.take k = xs from List.take_of_length_le (by rw [HL.out]; exact Nat.le_refl _))
      rw [HT.out]
      go_wp2
      go_ret
      exact ⟨rfl, rfl⟩
end Go.Proofs.YtehgdhekiogppaaGreat
