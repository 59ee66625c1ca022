/- slices.Repeat of one number, up to six times. -/
import Derived.Test.YtehgdhekiogppaaGreatShelf
import Derived.Test.YtehgdhekiogppaaGreatMrg
import Derived.Laws.CopyOwn
import Derived.Deep.RegionLaw
import Derived.Shelf.Bits.Mul64
namespace Go.Proofs.YtehgdhekiogppaaGreat
open Go.ChangeShapes Go.WideShapes Go.ChangeAt Go.RowKit Go.Deep
set_option linter.unusedVariables false
set_option linter.unusedSimpArgs false

/-- n copies of x, then noughts, m cells. -/
def repRow (x : Int) (m n : Nat) : List Value := (List.replicate n x ++ List.replicate (m - n) 0).map (Value.int .i64)
theorem repRow_len (x : Int) {m n : Nat} (h : n ≤ m) : (repRow x m n).length = m := by simp [repRow]; omega
theorem repRow_zeros (x : Int) (m : Nat) : zeros zI (m * 1) = (repRow x m 0).toArray := by
  unfold zeros madeCells repRow
  apply Array.ext
  · simp
  · intro i h1 h2
    simp [zI, Value.cells, Nat.mod_one]
theorem repRow_splice (x : Int) {m n k : Nat} (hk : n + k ≤ m) : splice (repRow x m n) n ((List.replicate k x).map (Value.int .i64)) = repRow x m (n + k) := by
  unfold splice repRow
  rw [List.map_append, List.map_append, List.take_left' (by simp), List.drop_append]
  simp only [List.length_map, List.length_replicate]
  rw [List.drop_of_length_le (by simp), List.nil_append, List.map_replicate, List.map_replicate, List.map_replicate, List.map_replicate, List.map_replicate, List.drop_replicate, ← List.append_assoc, List.replicate_append_replicate]
  congr 2
  omega
theorem repRow_full (x : Int) (m : Nat) : repRow x m m = (List.replicate m x).map (Value.int .i64) := by simp [repRow]
theorem own_of_blk {w : World} {base g : Nat} {e : TypeId} {cs : List Value} {n : Nat} (h : Blk w g e cs.toArray) (hl : cs.length = n) (hn : n ≤ maxLen) (hg : base ≤ g := by omega) : w.ownsRow base e 1 (.slice (some ⟨g, 0, none⟩) n n) n cs := by
  subst hl
  exact ⟨by simp, .inr ⟨g, _, cs.toArray, rfl, hg, h, Nat.le_refl _, hn, by simp, by simp⟩⟩
theorem mul1 (m : Nat) (hm : m ≤ 6) (w : World) : Calls Tryz.prog 99 #[.int .u64 1, .int .u64 m] w fun e w' => e = .returned (.tuple #[.int .u64 0, .int .u64 m]) ∧ w = w' := by
  refine (Tryz.bits_Mul 1 m (by omega) (by omega) w).mono ?_
  rintro e w' ⟨rfl, rfl⟩
  refine ⟨?_, rfl⟩
  rw [show 1 * m / 18446744073709551616 = 0 by omega, show 1 * m % 18446744073709551616 = m by omega]
  rfl
set_option maxRecDepth 20000 in
set_option maxHeartbeats 2000000 in
theorem repeat_any (x : Int) (m : Nat) (hm1 : 1 ≤ m) (hm : m ≤ 6) (lo hi : Nat) (A : Option Addr) (c : Nat) (w : World) (hs : SlK 1 encInt w lo hi A 1 c [x]) (hB : hi ≤ w.heap.size) :
    Calls Tryz.prog 64 #[.slice A 1 c, .int .i64 m] w fun e w' => ∃ v, e = .returned v ∧ Own 1 encInt 3 w' w.heap.size v (List.replicate m x) ∧ Below w.heap.size w w' := by
  have hmk := fun W => mk_row Tryz.underlying29 intInfo (by omega) m (by omega) W
  have hcm := hs.max
  have hcc := hs.cap
  have HZ := hide (repRow_zeros x m)
  obtain ⟨b, off, x', hx', rfl, _, hb, hcell, _⟩ := hs.int (i := 0) (by omega)
  obtain rfl : x = x' := by simpa using hx'
  clear hs hx'
  generalize hZ : (zeros zI (m * 1)) = Z at *
  clear hZ
  have hm0 : ¬ ((m : Int) < 0) := by omega
  have hbl : b < w.heap.size := by omega
  simp only [Nat.add_zero] at hcell
  go_enter Tryz.func64, Tryz.ntmps64
  go_wp2_with fail
  refine (mul1 m hm _).mono ?_
  rintro e w' ⟨rfl, rfl⟩
  have hmi : (m : Int) ≤ 6 := by omega
  have hmi0 : (0 : Int) ≤ (m : Int) := by omega
  obtain ⟨X1, hX1⟩ : ∃ X1 : List Value, X1 = [.int .i64 x] := ⟨_, rfl⟩
  have HX1 := hide hX1
  clear hX1
  have hcp : ∀ W : World, W = w.alloc (.cells Z 3) → ∃ w2, (Builtin.copy_ #[29, 29] 3 #[.slice (some ⟨w.heap.size, 0, none⟩) m m, .slice (some ⟨b, off, none⟩) 1 c]).run Tryz.prog W = .ok (goInt 1) w2 ∧ Blk w2 w.heap.size 3 (repRow x m 1).toArray ∧ Below w.heap.size w w2 := by
    rintro W rfl
    have hg := Blk.new w 3 (repRow x m 0).toArray (g := w.heap.size) rfl
    rw [← HZ.out] at hg
    have hsz : Z.size = m := by rw [HZ.out]; simp [repRow]
    refine ⟨_, run_copy_row (P := Tryz.prog) _ 29 29 3 3 w.heap.size 0 m m ⟨b, off, none⟩ 1 c Z 3 [.int .i64 x] Tryz.underlying29 (by kernel_rfl) hg (by simp; exact (Nat.min_eq_left hm1).symm) ?_ (by simp [hsz]; omega) (ints_oneCell .i64 [x]), ?_, ?_⟩
    · intro j v hv
      obtain rfl : j = 0 := by
        rcases j with _ | j
        · rfl
        · simp at hv
      simp at hv
      subst hv
      have := (Below.alloc (Below.refl w.heap.size w) (Nat.le_refl _) (.cells Z 3)).cell (p := ⟨b, off, none⟩) hbl
      simpa [Addr.add] using this.trans hcell
    · have := setRow_heap _ w.heap.size Z (Z.toList.take 0 ++ [Value.int .i64 x] ++ Z.toList.drop (0 + [Value.int .i64 x].length)).toArray 3 (0, 0) hg
      unfold Blk
      rw [this, HZ.out]
      have e := repRow_splice x (m := m) (n := 0) (k := 1) (by omega)
      simp [splice] at e
      simp [e]
    · exact below_setRow (by repeat (first | with_reducible exact Below.refl _ _ | with_reducible assumption | with_reducible refine Below.setCell ?_ (by (try simp) <;> omega) _ | with_reducible refine Below.alloc ?_ (by (try simp) <;> omega) _ | with_reducible refine Below.drew ?_ | with_reducible refine below_drewN ?_ _)) (Nat.le_refl _) _
  obtain ⟨w2, hcp2, hB2, hL2⟩ := hcp _ rfl
  have HL2 := hide hL2
  have HB2 := hide hB2
  clear hcp hB2 hL2
  go_wp2_with fail
  clear hcp2
  have hloop : ∀ (k : Nat), 1 ≤ k → k < m → ∃ q : Nat, ∃ cs : List Value, 1 ≤ q ∧ k + q ≤ m ∧ cs.length = q ∧ cs.length = Nat.min k (m - k) ∧ (∀ W : World, Blk W w.heap.size 3 (repRow x m k).toArray → ∀ (j : Nat) (v : Value), cs[j]? = some v → W.cell? ((⟨w.heap.size, 0, none⟩ : Addr).add j) = some v) ∧ (∀ v ∈ cs, v.oneCell' = true) ∧ splice (repRow x m k) k cs = repRow x m (k + q) := by
    intro k h1 h2
    have hq : Nat.min k (m - k) ≤ k ∧ Nat.min k (m - k) ≤ m - k ∧ 1 ≤ Nat.min k (m - k) := by
      refine ⟨Nat.min_le_left _ _, Nat.min_le_right _ _, ?_⟩
      exact Nat.le_min.2 ⟨h1, by omega⟩
    generalize hqq : Nat.min k (m - k) = q at hq
    refine ⟨q, (List.replicate q x).map (Value.int .i64), hq.2.2, by omega, by simp, by simp, ?_, ints_oneCell .i64 _, repRow_splice x (by omega)⟩
    intro W hg j v hv
    have hj : j < q := by have := (List.getElem?_eq_some_iff.1 hv).1; simpa using this
    have := hg.cell j
    have hjk : j < k := by omega
    rw [show (⟨w.heap.size, 0, none⟩ : Addr).add j = ⟨w.heap.size, j, none⟩ by rw [Addr.add_mid, Nat.zero_add], this, ← hv]
    have e1 : (repRow x m k)[j]? = some (.int .i64 x) := by
      unfold repRow
      rw [List.getElem?_map, List.getElem?_append_left (by simp; omega), List.getElem?_replicate, if_pos hjk]
      rfl
    rw [List.getElem?_map, List.getElem?_replicate, if_pos hj, List.getElem?_toArray, e1]
    rfl
  go_loopw [8] (fun i wr => ∃ k : Nat, 1 ≤ k ∧ k ≤ m ∧ i = .int .i64 k ∧ Blk wr w.heap.size 3 (repRow x m k).toArray ∧ Below w.heap.size w wr) (fun i _ => m - (intOf i).toNat)
  case atStart => exact ⟨1, Nat.le_refl _, hm1, rfl, HB2.out, HL2.out⟩
  case round =>
    obtain ⟨k, hk1, hk, rfl, B0, hbel⟩ := hrel
    by_cases hlt : k < m
    · obtain ⟨q, cs, hq1, hq2, hl, hn, hsrc, hone, hsp⟩ := hloop k hk1 hlt
      have HL := hide hl
      have HN := hide hn
      have HG := hide (Blk.drew B0)
      have HS0 := hide (hsrc wr.drew (Blk.drew B0))
      have hne : ¬ (m = k) := by omega
      have HFIT := hide (show k + cs.length ≤ (repRow x m k).length by rw [hl]; simp [repRow]; omega)
      have HONE := hide hone
      have HSP := hide hsp
      have HBB := hide (hbel.drew)
      have i0 : (k : Int) < (m : Int) := by omega
      clear hl hn hsrc hone hsp hloop B0 hbel
      go_wp2_with fail
      go_region_law (refine step_copy_splice rfl (.tmp 41) (.tmp 44) 29 29 rfl 3 Tryz.underlying29 (by kernel_rfl) (some ⟨w.heap.size, k, none⟩) (some ⟨w.heap.size, 0, none⟩) (m - k) (m - k) k m (by simp [Act.eval, Act.put, hne]) (by simp [Act.eval, Act.put]) w.heap.size k (repRow x m k) 3 HG.out cs HN.out (fun _ => ⟨rfl, _, rfl, HS0.out⟩) HFIT.out HONE.out w.heap.size w HBB.out (Nat.le_refl _) ?_; intro w4 hg4 hb4)
      have HB4 := hide (show Blk w4 w.heap.size 3 (repRow x m (k + q)).toArray by rw [← HSP.out]; exact hg4.out)
      have HL4 := hide hb4
      rw [HL.out]
      clear hg4 hb4
      have HW := hide (show IntKind.i64.wrap ((k : Int) + (q : Int)) = ((k + q : Nat) : Int) by rw [IntKind.wrap_i64]; omega)
      go_simp
      go_roundw
      case rel =>
        refine ⟨_, _, _, _, _, _, _, _, _, _, _, _, _, _, ?_, rfl⟩
        exact ⟨k + q, by omega, hq2, by rw [HW.out], HB4.out, HL4.out⟩
      case measure =>
        rw [HW.out]
        simp [intOf]
        omega
    · obtain rfl : k = m := by omega
      clear hlt
      go_wp2
      go_ret
      refine ⟨_, rfl, ?_, hbel⟩
      rw [repRow_full] at B0
      exact own_of_ints (own_of_blk B0 (by simp) (by simp [maxLen]; omega))
end Go.Proofs.YtehgdhekiogppaaGreat
