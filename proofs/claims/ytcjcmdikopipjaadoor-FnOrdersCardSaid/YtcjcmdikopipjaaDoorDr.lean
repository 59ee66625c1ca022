/- The cursor of a draw: what it yields lies in bounds, and only its own block is written. -/
import Derived.Test.YtcjcmdikopipjaaDoorProg
import Derived.Test.YtcjcmdikopipjaaDoorCur
import Derived.Deep.RegionHeld3
namespace Go.Proofs.YtcjcmdikopipjaaDoor
open Go.ChangeShapes Go.WideShapes Go.ChangeAt Go.RowKit Go.Deep
set_option linter.unusedVariables false
set_option linter.unusedSimpArgs false

theorem i64_and255 (n : Int) : bits .and .i64 n 255 = n % 256 := by
  have h255 : (BitVec.ofInt 64 255).toNat = 2 ^ 8 - 1 := by decide
  have key : (BitVec.ofInt 64 n &&& BitVec.ofInt 64 255).toNat = (n % ((2 ^ 64 : Nat) : Int)).toNat % 2 ^ 8 := by
    rw [BitVec.toNat_and, BitVec.toNat_ofInt, h255, Nat.and_two_pow_sub_one_eq_mod]
  show IntKind.i64.wrap ((BitVec.ofInt 64 n &&& BitVec.ofInt 64 255).toNat : Nat) = n % 256
  rw [key, IntKind.wrap_i64]
  omega
theorem and255_in (n : Int) : 0 ≤ bits .and .i64 n 255 ∧ bits .and .i64 n 255 ≤ 255 := by
  rw [i64_and255]
  omega
theorem ret_ex {x lo hi : Int} (h : lo ≤ x ∧ x ≤ hi) : ∃ y : Int, Ending.returned (.int .i64 x) = .returned (.int .i64 y) ∧ lo ≤ y ∧ y ≤ hi := ⟨x, rfl, h⟩
set_option maxHeartbeats 1000000 in
theorem l1New_any (A : Option Addr) (n c : Nat) (bs : List Int) (w : World) (hs : SlK 1 encByte w 0 w.heap.size A n c bs) (hb : ∀ b ∈ bs, 0 ≤ b ∧ b ≤ 255) :
    Calls Tryd.prog 56 #[.slice A n c] w fun e w' => e = .returned (.pointer (some ⟨w.heap.size, 0, none⟩)) ∧ CurAt 128 w' w.heap.size A n c bs ∧ Below w.heap.size w w' := by
  have hm := hs.max
  have hc := hs.cap
  have HS := hide hs
  have HB := hide hb
  clear hs hb
  go_enter Tryd.func56, Tryd.ntmps56
  go_wp2
  go_loop [3, 4] (fun h i => ∃ k : Nat, ∃ x : Int, k ≤ n ∧ i = .int .i64 k ∧ h = .int .i64 x) (fun _ i => n - (intOf i).toNat)
  case atStart => exact ⟨0, _, Nat.zero_le _, rfl, rfl⟩
  case round =>
    obtain ⟨k, x, hk, rfl, rfl⟩ := hrel
    have i0 : (0 : Int) ≤ (k : Int) := by omega
    by_cases h4 : (k : Int) < 4000
    · by_cases hlt : k < n
      · have i1 : (k : Int) < (n : Int) := by omega
        obtain ⟨b0, off, y, hy, rfl, _, hb, c0, _⟩ := HS.out.byte hlt
        have hyb := HB.out y (List.mem_of_getElem? hy)
        clear hy
        go_wp2
        go_round
        case rel => exact ⟨k + 1, _, by omega, by go_num, rfl⟩
        case measure => simp [intOf]; omega
      · have i1 : ¬ (k : Int) < (n : Int) := by omega
        clear hlt
        go_wp2
        go_ret
        refine ⟨rfl, ⟨⟨0, _, Nat.zero_le _, Blk.new _ _ _ rfl⟩, HS.out.alloc (Nat.le_refl _) _, HB.out⟩, (by repeat (first | with_reducible exact Below.refl _ _ | with_reducible assumption | with_reducible refine Below.setCell ?_ (by (try simp) <;> omega) _ | with_reducible refine Below.alloc ?_ (by (try simp) <;> omega) _ | with_reducible refine Below.drew ?_ | with_reducible refine below_drewN ?_ _))⟩
    · by_cases hlt : k < n
      · have i1 : (k : Int) < (n : Int) := by omega
        go_wp2
        go_ret
        refine ⟨rfl, ⟨⟨0, _, Nat.zero_le _, Blk.new _ _ _ rfl⟩, HS.out.alloc (Nat.le_refl _) _, HB.out⟩, (by repeat (first | with_reducible exact Below.refl _ _ | with_reducible assumption | with_reducible refine Below.setCell ?_ (by (try simp) <;> omega) _ | with_reducible refine Below.alloc ?_ (by (try simp) <;> omega) _ | with_reducible refine Below.drew ?_ | with_reducible refine below_drewN ?_ _))⟩
      · have i1 : ¬ (k : Int) < (n : Int) := by omega
        go_wp2
        go_ret
        refine ⟨rfl, ⟨⟨0, _, Nat.zero_le _, Blk.new _ _ _ rfl⟩, HS.out.alloc (Nat.le_refl _) _, HB.out⟩, (by repeat (first | with_reducible exact Below.refl _ _ | with_reducible assumption | with_reducible refine Below.setCell ?_ (by (try simp) <;> omega) _ | with_reducible refine Below.alloc ?_ (by (try simp) <;> omega) _ | with_reducible refine Below.drew ?_ | with_reducible refine below_drewN ?_ _))⟩
set_option maxHeartbeats 2000000 in
theorem l1Byte_any (g : Nat) (A : Option Addr) (n c : Nat) (bs : List Int) (w : World) (hc : CurAt 128 w g A n c bs) :
    Calls Tryd.prog 100 #[.pointer (some ⟨g, 0, none⟩)] w fun e w' => (∃ x : Int, e = .returned (.int .i64 x) ∧ 0 ≤ x ∧ x ≤ 255) ∧ CurAt 128 w' g A n c bs ∧ w.grownBy w' (some g) := by
  obtain ⟨⟨i, h, hi, hk⟩, hcode, hby⟩ := hc
  have k0 := hk.cell 0
  have k1 := hk.cell 1
  have k2 := hk.cell 2
  have f2 := hk.frozen 2
  have f1 := hk.frozen 1
  simp only [List.getElem?_toArray, List.getElem?_cons_zero, List.getElem?_cons_succ] at k0 k1 k2
  have HK := hide hk
  have HC := hide hcode
  have HB := hide hby
  have hgl := hk.lt
  have hcm := hcode.max
  have hcc := hcode.cap
  clear hk hcode hby
  by_cases hlt : i < n
  · have i0 : (0 : Int) ≤ (i : Int) := by omega
    have i1 : (i : Int) < (n : Int) := by omega
    obtain ⟨b0, off, y, hy, rfl, _, hb, c0, _⟩ := HC.out.byte hlt
    have hne : b0 ≠ g := by omega
    go_enter Tryd.func100, Tryd.ntmps100
    go_wp2_with fail
    go_quiet (fail)
    go_wp2_with fail
    go_quiet (fail)
    go_wp2_with fail
    go_quiet (fail)
    go_wp2_with fail
    go_ret
    refine ⟨ret_ex (and255_in _), ⟨⟨i + 1, _, by omega, ((HK.out.set_ 2 _).drewN _).set_ 1 _⟩, ((HC.out.setCell (.inr (Nat.le_refl _)) _).drewN _).setCell (.inr (Nat.le_refl _)) _, HB.out⟩, ?_⟩
    exact grown_trans (grown_trans (grown_set _ _ _ _) (grown_drewN _ _ _)) (grown_set _ _ _ _)
  · have i1 : ¬ (i : Int) < (n : Int) := by omega
    have i2 : i = n := by omega
    clear hlt
    go_enter Tryd.func100, Tryd.ntmps100
    go_wp2_with fail
    go_quiet (fail)
    go_wp2_with fail
    go_quiet (fail)
    go_wp2_with fail
    go_ret
    refine ⟨ret_ex (and255_in _), ⟨?ha, ?hb, HB.out⟩, ?hc⟩
    case ha => exact ⟨i, _, hi, ((HK.out.set_ 2 _).drewN _).drewN _⟩
    case hb => with_reducible exact SlK.drewN (SlK.drewN (HC.out.setCell (.inr (Nat.le_refl _)) _) _) _
    case hc =>
      with_reducible refine grown_trans ?_ (grown_drewN _ _ _)
      with_reducible refine grown_trans ?_ (grown_drewN _ _ _)
      with_reducible exact grown_set _ _ _ _
set_option maxHeartbeats 1000000 in
theorem l1Below_any (m : Int) (hm0 : 0 < m) (hm : m ≤ 256) (g : Nat) (A : Option Addr) (n c : Nat) (bs : List Int) (w : World) (hc : CurAt 128 w g A n c bs) :
    Calls Tryd.prog 87 #[.pointer (some ⟨g, 0, none⟩), .int .i64 m] w fun e w' => (∃ x : Int, e = .returned (.int .i64 x) ∧ 0 ≤ x ∧ x ≤ m - 1) ∧ CurAt 128 w' g A n c bs ∧ w.grownBy w' (some g) := by
  go_enter Tryd.func87, Tryd.ntmps87
  go_wp2_with fail
  refine (l1Byte_any g A n c bs _ hc).mono ?_
  rintro e w1 ⟨⟨x, rfl, h0, h1⟩, hc1, hg1⟩
  go_wp2_with fail
  go_ret
  refine ⟨ret_ex ⟨?_, ?_⟩, hc1, hg1⟩
  · exact Int.emod_nonneg _ (by omega)
  · have := Int.emod_lt_of_pos x hm0
    omega
theorem l1Once_any (m : Int) (hm0 : 0 < m) (hm : m ≤ 256) (g : Nat) (A : Option Addr) (n c : Nat) (bs : List Int) (w : World) (hc : CurAt 128 w g A n c bs) :
    Calls Tryd.prog 74 #[.pointer (some ⟨g, 0, none⟩), .int .i64 m] w fun e w' => (∃ b : Bool, e = .returned (.bool b)) ∧ CurAt 128 w' g A n c bs ∧ w.grownBy w' (some g) := by
  go_enter Tryd.func74, Tryd.ntmps74
  go_wp2_with fail
  refine (l1Below_any m hm0 hm g A n c bs _ hc).mono ?_
  rintro e w1 ⟨⟨x, rfl, h0, h1⟩, hc1, hg1⟩
  go_wp2_with fail
  go_ret
  exact ⟨⟨_, rfl⟩, hc1, hg1⟩
set_option maxHeartbeats 1000000 in
theorem l1PickInt_any (B : Option Addr) (m cb : Nat) (xs : List Int) (lo hi : Nat) (hm0 : 0 < m) (hm : m ≤ 256) (g : Nat) (A : Option Addr) (n c : Nat) (bs : List Int) (w : World) (hs : SlK 1 encInt w lo hi B m cb xs) (hB : hi ≤ w.heap.size) (hg : g < lo ∨ hi ≤ g) (hc : CurAt 128 w g A n c bs) :
    Calls Tryd.prog 55 #[.pointer (some ⟨g, 0, none⟩), .slice B m cb] w fun e w' => (∃ x : Int, e = .returned (.int .i64 x) ∧ x ∈ xs) ∧ CurAt 128 w' g A n c bs ∧ w.grownBy w' (some g) := by
  have hcm := hs.max
  have hcc := hs.cap
  go_enter Tryd.func55, Tryd.ntmps55
  go_wp2_with fail
  refine (l1Below_any m (by omega) (by omega) g A n c bs _ hc).mono ?_
  rintro e w1 ⟨⟨x, rfl, h0, h1⟩, hc1, hg1⟩
  obtain ⟨k, rfl⟩ := Int.eq_ofNat_of_zero_le h0
  have hlt : k < m := by omega
  have hs1 := hs.grown hg1 hB (fun r hr => by injection hr with hr; omega)
  obtain ⟨b0, off, y, hy, rfl, _, hb, c0, _⟩ := hs1.int hlt
  have HY := hide (List.mem_of_getElem? hy)
  clear hs hs1 hy
  have i1 : (k : Int) < (m : Int) := by omega
  go_wp2_with fail
  go_ret
  exact ⟨⟨y, rfl, HY.out⟩, hc1, hg1⟩
end Go.Proofs.YtcjcmdikopipjaaDoor
