/- Digits of both. -/
import Derived.Test.YtcjcmdikopipjaaDoorShelf
import Derived.Test.YtcjcmdikopipjaaDoorC1
import Derived.Test.YtcjcmdikopipjaaDoorMem
import Derived.Test.YtcjcmdikopipjaaDoorCur
import Derived.Laws.IdiomStrings
import Derived.Lib.LaidTab
import Derived.Lib.ItoaMem
import Derived.Lib.SmallJoins
namespace Go.Proofs.YtcjcmdikopipjaaDoor
open Go.ChangeShapes Go.WideShapes Go.ChangeAt Go.RowKit Go.Deep
set_option linter.unusedVariables false
set_option linter.unusedSimpArgs false

/-- The digits of a number, ahead of what is there. -/
def dgF : Nat → Nat → ByteArray → ByteArray
  | 0, _, out => out
  | f + 1, k, out => if k = 0 then out else dgF f (k / 10) (ByteArray.mk #[UInt8.ofNat (48 + k % 10)] ++ out)
theorem dgF_zero (f : Nat) (out : ByteArray) : dgF f 0 out = out := by
  cases f <;> simp [dgF]
theorem ba_app (l : List UInt8) (out : ByteArray) (d : UInt8) : ByteArray.mk l.toArray ++ (ByteArray.mk #[d] ++ out) = ByteArray.mk (l ++ [d]).toArray ++ out := by
  rw [← ByteArray.append_assoc]
  congr 1
theorem dgF_dec : ∀ (f k : Nat) (out : ByteArray), 0 < k → k ≤ f → dgF f k out = ByteArray.mk (Lib.decDigits k).toArray ++ out
  | 0, k, out, h0, hk => absurd h0 (by omega)
  | f + 1, k, out, h0, hk => by
    unfold dgF
    rw [if_neg (by omega)]
    by_cases h : k < 10
    · rw [show k / 10 = 0 by omega, dgF_zero, Lib.decDigits_one h, Nat.mod_eq_of_lt h]
    · rw [dgF_dec f (k / 10) _ (by omega) (by omega), ba_app]
      rw [show Lib.decDigits k = Lib.decDigits (k / 10) ++ [UInt8.ofNat (48 + k % 10)] by rw [Lib.decDigits, dif_neg h]]
theorem dgF_all {k : Nat} (h : 0 < k) : dgF k k ByteArray.empty = ByteArray.mk (Lib.decDigits k).toArray := by
  rw [dgF_dec k k _ h (Nat.le_refl _)]
  exact ByteArray.append_empty
/-- The decimal numeral as a string. -/
def digS (n : Int) : ByteArray := ByteArray.mk (Lib.itoa n).toArray
theorem digS_pos {k : Nat} (h : 0 < k) : digS (k : Int) = dgF k k ByteArray.empty := by
  unfold digS
  rw [Lib.itoa_nonneg, dgF_all h]
theorem digS_neg {k : Nat} (h : 0 < k) : digS (-(k : Int)) = ByteArray.mk #[45] ++ dgF k k ByteArray.empty := by
  unfold digS
  rw [Lib.itoa_neg k h, dgF_all h]
  ext1
  simp
theorem digS_zero : digS 0 = ByteArray.mk #[48] := by
  have := Lib.itoa_nonneg 0
  unfold digS
  rw [show ((0 : Nat) : Int) = 0 from rfl] at this
  rw [this, Lib.decDigits_one (by omega)]
  rfl
theorem below_growS {w : World} {k : Nat} {os : Array Obj} : Below w.heap.size w (Go.Sort.grow (w.drewN k) os) :=
  ⟨rfl, rfl, rfl, by simp [Go.Sort.grow], fun i hi => by rw [Go.Sort.heap_grow_old _ _ (by simpa using hi)]; rfl⟩
/-- A byte made a string. -/
theorem conv1 (w : World) (x : Int) (d : UInt8) (hx : (d.toNat : Int) = x) : (convert 45 9 (.slice (some ⟨w.heap.size, 0, none⟩) 1 1)).run Tryd.prog (w.alloc (.cells #[.int .u8 x] 5)) = .ok (.string (ByteArray.mk #[d])) (w.alloc (.cells #[.int .u8 x] 5)) :=
  run_convert_bytes_back _ _ _ 5 ⟨w.heap.size, 0, none⟩ 1 [d] Tryd.underlying45 Tryd.underlying5 Tryd.underlying9 (fun i hi => by
    have hi0 : i = 0 := by simpa using hi
    subst hi0
    have hb := (Blk.new w 5 #[.int .u8 x] rfl).cell 0
    simp only [List.getElem_cons_zero, hx]
    exact hb)
theorem dig_byte (j : Nat) : ∃ d : UInt8, UInt8.ofNat (48 + j % 10) = d ∧ (d.toNat : Int) = 48 + (j : Int) % 10 := by
  refine ⟨_, rfl, ?_⟩
  have h1 : (UInt8.ofNat (48 + j % 10)).toNat = (48 + j % 10) % 256 := UInt8.toNat_ofNat'
  omega
set_option maxRecDepth 20000 in
set_option maxHeartbeats 1000000 in
theorem sdigits_any (n : Int) (w : World) (h0 : -9223372036854775808 ≤ n) (h1 : n ≤ 9223372036854775807) :
    Calls Tryd.prog 10 #[.int .i64 n] w fun e w' => e = .returned (.string (digS n)) ∧ Below w.heap.size w w' := by
  rcases Int.lt_trichotomy n 0 with hneg | rfl | hpos
  · obtain ⟨k, rfl⟩ : ∃ k : Nat, n = -(k : Int) := ⟨n.natAbs, by omega⟩
    have hk0 : 0 < k := by omega
    have HM := hide (digS_neg hk0)
    have hz : (-(k : Int) == 0) = false := by rw [beq_eq_false_iff_ne]; omega
    go_enter Tryd.func10, Tryd.ntmps10
    go_wp2_with fail
    go_loopw [0, 4] (fun i o wr => ∃ (j f : Nat) (out : ByteArray), j ≤ f ∧ j ≤ k ∧ i = .int .i64 (-(j : Int)) ∧ o = .string out ∧ 9 * out.size + j ≤ k + 9 ∧ (0 < j → 9 * out.size + j ≤ k) ∧ Hid (dgF f j out = dgF k k ByteArray.empty) ∧ Below w.heap.size w wr) (fun i _ _ => (intOf i).natAbs)
    case atStart => exact ⟨k, k, ByteArray.empty, Nat.le_refl _, Nat.le_refl _, rfl, rfl, by simp, fun _ => by simp, hide rfl, Below.refl _ _⟩
    case round =>
      obtain ⟨j, f, out, hjf, hjk, rfl, rfl, hsz, hsz2, HF, hbel⟩ := hrel
      have HB := hide hbel
      have y1 := hbel.size
      clear hbel
      by_cases hj : 0 < j
      · obtain ⟨f, rfl⟩ : ∃ f', f = f' + 1 := ⟨f - 1, by omega⟩
        obtain ⟨d, hd, hdn⟩ := dig_byte j
        have HF2 := hide (show dgF f (j / 10) (ByteArray.mk #[d] ++ out) = dgF k k ByteArray.empty by rw [← HF.out, ← hd]; show _ = if j = 0 then _ else _; rw [if_neg (by omega)])
        have hcv := conv1 wr _ d hdn
        have hds : (ByteArray.mk #[d]).size = 1 := rfl
        have hso : out.size ≤ 9223372036854775806 := by omega
        have i1 : (-(j : Int) == 0) = false := by rw [beq_eq_false_iff_ne]; omega
        have HDN := hide hdn
        clear hd hdn
        obtain ⟨m, hm⟩ : ∃ m : Nat, j % 10 = m := ⟨_, rfl⟩
        have hm2 : (j : Int) % 10 = (m : Int) := by omega
        rw [hm2] at hcv
        have ht1 : Int.tmod (-(j : Int)) 10 = -(m : Int) := by rw [Int.neg_tmod, Int.tmod_eq_emod_of_nonneg (by omega)]; omega
        have ht2 : Int.tdiv (-(j : Int)) 10 = -((j / 10 : Nat) : Int) := by rw [Int.neg_tdiv, Int.tdiv_eq_ediv_of_nonneg (by omega)]; omega
        by_cases hm0 : 0 < m
        · have i2 : -(m : Int) < 0 := by omega
          go_wp2_with fail
          go_roundw
          case rel => exact ⟨j / 10, f, ByteArray.mk #[d] ++ out, by omega, by omega, congrArg (Value.int .i64) (by omega), rfl, by rw [ByteArray.size_append, hds]; omega, by intro hq; rw [ByteArray.size_append, hds]; omega, HF2, (by repeat (first | with_reducible exact Below.refl _ _ | with_reducible assumption | with_reducible refine Below.setCell ?_ (by (try simp) <;> omega) _ | with_reducible refine Below.alloc ?_ (by (try simp) <;> omega) _ | with_reducible refine Below.drew ?_ | with_reducible refine below_drewN ?_ _ | with_reducible exact HB.out | with_reducible refine Below.trans ?_ (Below.mono HB.out (by (try simp) <;> omega))))⟩
          case measure => simp [intOf]; omega
        · have i2 : ¬ (-(m : Int) < 0) := by omega
          have hcv2 := conv1 wr (48 + -(m : Int)) d (by have := HDN.out; omega)
          go_wp2_with fail
          go_roundw
          case rel => exact ⟨j / 10, f, ByteArray.mk #[d] ++ out, by omega, by omega, congrArg (Value.int .i64) (by omega), rfl, by rw [ByteArray.size_append, hds]; omega, by intro hq; rw [ByteArray.size_append, hds]; omega, HF2, (by repeat (first | with_reducible exact Below.refl _ _ | with_reducible assumption | with_reducible refine Below.setCell ?_ (by (try simp) <;> omega) _ | with_reducible refine Below.alloc ?_ (by (try simp) <;> omega) _ | with_reducible refine Below.drew ?_ | with_reducible refine below_drewN ?_ _ | with_reducible exact HB.out | with_reducible refine Below.trans ?_ (Below.mono HB.out (by (try simp) <;> omega))))⟩
          case measure => simp [intOf]; omega
      · obtain rfl : j = 0 := by omega
        have HF3 := hide (show out = dgF k k ByteArray.empty by rw [← HF.out, dgF_zero])
        have hso : out.size ≤ 9223372036854775806 := by omega
        go_wp2_with fail
        go_ret
        exact ⟨by rw [HM.out, ← HF3.out]; rfl, HB.out⟩
  · have HM := hide digS_zero
    go_enter Tryd.func10, Tryd.ntmps10
    go_wp2
    go_ret
    exact ⟨by rw [HM.out]; rfl, Below.refl _ _⟩
  · obtain ⟨k, rfl⟩ : ∃ k : Nat, n = (k : Int) := ⟨n.toNat, by omega⟩
    have hk0 : 0 < k := by omega
    have HM := hide (digS_pos hk0)
    have hz : ((k : Int) == 0) = false := by rw [beq_eq_false_iff_ne]; omega
    have hz2 : ¬ ((k : Int) < 0) := by omega
    go_enter Tryd.func10, Tryd.ntmps10
    go_wp2_with fail
    go_loopw [0, 4] (fun i o wr => ∃ (j f : Nat) (out : ByteArray), j ≤ f ∧ j ≤ k ∧ i = .int .i64 (j : Int) ∧ o = .string out ∧ 9 * out.size + j ≤ k + 9 ∧ (0 < j → 9 * out.size + j ≤ k) ∧ Hid (dgF f j out = dgF k k ByteArray.empty) ∧ Below w.heap.size w wr) (fun i _ _ => (intOf i).natAbs)
    case atStart => exact ⟨k, k, ByteArray.empty, Nat.le_refl _, Nat.le_refl _, rfl, rfl, by simp, fun _ => by simp, hide rfl, Below.refl _ _⟩
    case round =>
      obtain ⟨j, f, out, hjf, hjk, rfl, rfl, hsz, hsz2, HF, hbel⟩ := hrel
      have HB := hide hbel
      have y1 := hbel.size
      clear hbel
      by_cases hj : 0 < j
      · obtain ⟨f, rfl⟩ : ∃ f', f = f' + 1 := ⟨f - 1, by omega⟩
        obtain ⟨d, hd, hdn⟩ := dig_byte j
        have HF2 := hide (show dgF f (j / 10) (ByteArray.mk #[d] ++ out) = dgF k k ByteArray.empty by rw [← HF.out, ← hd]; show _ = if j = 0 then _ else _; rw [if_neg (by omega)])
        have hcv := conv1 wr _ d hdn
        have hds : (ByteArray.mk #[d]).size = 1 := rfl
        have hso : out.size ≤ 9223372036854775806 := by omega
        have i1 : ((j : Int) == 0) = false := by rw [beq_eq_false_iff_ne]; omega
        have i2 : ¬ ((j : Int) % 10 < 0) := by omega
        clear hd hdn
        go_wp2_with fail
        go_roundw
        case rel => exact ⟨j / 10, f, ByteArray.mk #[d] ++ out, by omega, by omega, by go_num, rfl, by rw [ByteArray.size_append, hds]; omega, by intro hq; rw [ByteArray.size_append, hds]; omega, HF2, (by repeat (first | with_reducible exact Below.refl _ _ | with_reducible assumption | with_reducible refine Below.setCell ?_ (by (try simp) <;> omega) _ | with_reducible refine Below.alloc ?_ (by (try simp) <;> omega) _ | with_reducible refine Below.drew ?_ | with_reducible refine below_drewN ?_ _ | with_reducible exact HB.out | with_reducible refine Below.trans ?_ (Below.mono HB.out (by (try simp) <;> omega))))⟩
        case measure => simp [intOf]; omega
      · obtain rfl : j = 0 := by omega
        have HF3 := hide (show out = dgF k k ByteArray.empty by rw [← HF.out, dgF_zero])
        have hso : out.size ≤ 9223372036854775806 := by omega
        go_wp2_with fail
        go_ret
        exact ⟨by rw [HM.out, ← HF3.out]; rfl, HB.out⟩
theorem digits_any (n : Int) (w : World) (h0 : -9223372036854775808 ≤ n) (h1 : n ≤ 9223372036854775807) (htab : Lib.TabIs Tryd.prog w "internal/strconv.uint64pow10" .u64 Lib.pow10Tab) :
    Calls Tryd.prog 11 #[.int .i64 n] w fun e w' => e = .returned (.string (digS n)) ∧ Below w.heap.size w w' := by
  have HI := hide (Tryd.strconv_Itoa n h0 h1 w htab)
  clear htab
  go_enter Tryd.func11, Tryd.ntmps11
  go_wp2_with fail
  refine HI.out.mono ?_
  rintro e w' ⟨rfl, k, os, rfl⟩
  go_wp2
  go_ret
  exact ⟨rfl, below_growS⟩
end Go.Proofs.YtcjcmdikopipjaaDoor
