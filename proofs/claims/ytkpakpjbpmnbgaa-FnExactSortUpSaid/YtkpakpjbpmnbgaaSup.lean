/- SortUp, SortDown of the program at any length; marks on a list. -/
import Derived.Test.YtkpakpjbpmnbgaaStb
import Derived.Test.YtkpakpjbpmnbgaaMk
namespace Go.Proofs.Ytkpakpjbpmnbgaa
open Go.ChangeShapes Go.WideShapes Go.ChangeAt Go.RowKit Go.Deep
set_option linter.unusedVariables false
set_option linter.unusedSimpArgs false

theorem cellsF_id (n : Nat) : cellsF idF n = (rng n).map (Value.int .i64) := by
  unfold cellsF rng idF
  rw [List.map_map]
  rfl
theorem cellsF_map (F : Nat → Int) (n : Nat) : cellsF F n = ((List.range n).map F).map (Value.int .i64) := by
  unfold cellsF
  rw [List.map_map]
  rfl
set_option maxRecDepth 20000 in
set_option maxHeartbeats 1000000 in
theorem sortUp_all (ks : List Int) (lo hi : Nat) (A : Option Addr) (n c : Nat) (w : World) (hs : SlK 1 encInt w lo hi A n c ks) (hB : hi ≤ w.heap.size) (hn : n ≤ 1048576) :
    Calls Try.prog 12 #[.slice A n c] w fun e w' => ∃ v, e = .returned v ∧ Own 1 encInt 3 w' w.heap.size v (sortBy ks false (rng n)) ∧ Below w.heap.size w w' := by
  have hc := hs.cap
  have hm := hs.max
  have HS := hide hs
  clear hs
  have eg : ∀ args w, (callFunc 19 args).run Try.prog w = .ok (.enter 19 args) w := enters_of Try.func19 (by kernel_rfl) rfl
  have HEG := hide eg
  clear eg
  go_enter Try.func12, Try.ntmps12
  go_wp2_with fail
  refine (places_any n _ (by omega)).mono ?_
  rintro e w1 ⟨v1, rfl, ho1, hb1⟩
  have z1 : w.heap.size + 1 ≤ w1.heap.size := by simpa using hb1.size
  have PB := hide (Blk.belowH (Blk.new w 22 #[.slice A n c] (g := w.heap.size) rfl) hb1)
  have L1 := hide (show Below w.heap.size w w1 from (by repeat (first | with_reducible exact Below.refl _ _ | with_reducible assumption | with_reducible refine Below.setCell ?_ (by (try simp) <;> omega) _ | with_reducible refine Below.alloc ?_ (by (try simp) <;> omega) _ | with_reducible refine Below.drew ?_ | with_reducible refine below_drewN ?_ _ | with_reducible exact hb1 | with_reducible refine Below.trans ?_ (Below.mono hb1 (by (try simp) <;> omega)))))
  have HK := hide (HS.out.below L1.out hB)
  simp only [World.size_alloc] at ho1
  have HO := hide ho1
  have kB := PB.out.cell
  have yB := PB.out.lt
  rcases own_form ho1 with ⟨rfl, hnil⟩ | ⟨g, cap, rfl, hg, hlt, hnc, hcm⟩
  · have hn0 : n = 0 := by have := rng_len n; rw [hnil] at this; simpa using this.symm
    subst hn0
    clear ho1 hb1
    go_wp2_with fail
    refine (stable_nil _ _ _ _ _).mono ?_
    rintro e w2 ⟨rfl, rfl⟩
    go_wp2_with fail
    go_ret
    refine ⟨_, rfl, ?_, L1.out⟩
    rw [sortBy_small ks false (by simp [rng_len])]
    exact HO.out.base_le (by omega)
  · rw [rng_len] at hnc ⊢
    have hcm' : cap ≤ 9223372036854775807 := by unfold maxLen at hcm; omega
    have hoi := ints_of_own ho1
    rw [rng_len, ← cellsF_id] at hoi
    have HR := hide (show RowF w1 w1 (w.heap.size + 1) g n cap idF from ⟨hoi, World.grownBy.refl _ _⟩)
    have HCA := hide (show CmpAll Try.prog 19 #[.pointer (some ⟨w.heap.size, 0, none⟩)] ks false n g w1 from fun W x y hgr hx hy => by
      have h := closUp_any x.toNat y.toNat n w.heap.size lo hi A c ks W (by omega) (by omega)
        (HK.out.grown hgr (by omega) (fun r hr => .inr (by have hr2 : g = r := Option.some.inj hr; omega))) (by have := hgr.size; omega)
        (PB.out.grown hgr (fun e => by have e2 : w.heap.size = g := Option.some.inj e; omega))
      rw [Int.toNat_of_nonneg hx.1, Int.toNat_of_nonneg hy.1] at h
      exact h)
    have HSS := hide (sortStable_any ks false 19 #[.pointer (some ⟨w.heap.size, 0, none⟩)] HEG.out w1 (w.heap.size + 1) g n cap HCA.out hn hnc hcm' w1 HR.out)
    clear ho1 hb1 hoi HCA HR
    go_wp2_with fail
    refine HSS.out.mono ?_
    rintro e w2 ⟨rfl, G, hr, hG⟩
    have hrow := hr.row
    rw [cellsF_map, hG] at hrow
    have HOW := hide (own_of_ints hrow)
    have L2 := hide (L1.out.grown hr.gr (by omega) (fun r hr => by have hr2 : g = r := Option.some.inj hr; omega))
    clear hr hrow hG HSS
    go_wp2_with fail
    go_ret
    exact ⟨_, rfl, HOW.out.base_le (by omega), L2.out⟩
set_option maxRecDepth 20000 in
set_option maxHeartbeats 1000000 in
theorem sortDown_all (ks : List Int) (lo hi : Nat) (A : Option Addr) (n c : Nat) (w : World) (hs : SlK 1 encInt w lo hi A n c ks) (hB : hi ≤ w.heap.size) (hn : n ≤ 1048576) :
    Calls Try.prog 7 #[.slice A n c] w fun e w' => ∃ v, e = .returned v ∧ Own 1 encInt 3 w' w.heap.size v (sortBy ks true (rng n)) ∧ Below w.heap.size w w' := by
  have hc := hs.cap
  have hm := hs.max
  have HS := hide hs
  clear hs
  have eg : ∀ args w, (callFunc 17 args).run Try.prog w = .ok (.enter 17 args) w := enters_of Try.func17 (by kernel_rfl) rfl
  have HEG := hide eg
  clear eg
  go_enter Try.func7, Try.ntmps7
  go_wp2_with fail
  refine (places_any n _ (by omega)).mono ?_
  rintro e w1 ⟨v1, rfl, ho1, hb1⟩
  have z1 : w.heap.size + 1 ≤ w1.heap.size := by simpa using hb1.size
  have PB := hide (Blk.belowH (Blk.new w 22 #[.slice A n c] (g := w.heap.size) rfl) hb1)
  have L1 := hide (show Below w.heap.size w w1 from (by repeat (first | with_reducible exact Below.refl _ _ | with_reducible assumption | with_reducible refine Below.setCell ?_ (by (try simp) <;> omega) _ | with_reducible refine Below.alloc ?_ (by (try simp) <;> omega) _ | with_reducible refine Below.drew ?_ | with_reducible refine below_drewN ?_ _ | with_reducible exact hb1 | with_reducible refine Below.trans ?_ (Below.mono hb1 (by (try simp) <;> omega)))))
  have HK := hide (HS.out.below L1.out hB)
  simp only [World.size_alloc] at ho1
  have HO := hide ho1
  have kB := PB.out.cell
  have yB := PB.out.lt
  rcases own_form ho1 with ⟨rfl, hnil⟩ | ⟨g, cap, rfl, hg, hlt, hnc, hcm⟩
  · have hn0 : n = 0 := by have := rng_len n; rw [hnil] at this; simpa using this.symm
    subst hn0
    clear ho1 hb1
    go_wp2_with fail
    refine (stable_nil _ _ _ _ _).mono ?_
    rintro e w2 ⟨rfl, rfl⟩
    go_wp2_with fail
    go_ret
    refine ⟨_, rfl, ?_, L1.out⟩
    rw [sortBy_small ks true (by simp [rng_len])]
    exact HO.out.base_le (by omega)
  · rw [rng_len] at hnc ⊢
    have hcm' : cap ≤ 9223372036854775807 := by unfold maxLen at hcm; omega
    have hoi := ints_of_own ho1
    rw [rng_len, ← cellsF_id] at hoi
    have HR := hide (show RowF w1 w1 (w.heap.size + 1) g n cap idF from ⟨hoi, World.grownBy.refl _ _⟩)
    have HCA := hide (show CmpAll Try.prog 17 #[.pointer (some ⟨w.heap.size, 0, none⟩)] ks true n g w1 from fun W x y hgr hx hy => by
      have h := closDown_any x.toNat y.toNat n w.heap.size lo hi A c ks W (by omega) (by omega)
        (HK.out.grown hgr (by omega) (fun r hr => .inr (by have hr2 : g = r := Option.some.inj hr; omega))) (by have := hgr.size; omega)
        (PB.out.grown hgr (fun e => by have e2 : w.heap.size = g := Option.some.inj e; omega))
      rw [Int.toNat_of_nonneg hx.1, Int.toNat_of_nonneg hy.1] at h
      exact h)
    have HSS := hide (sortStable_any ks true 17 #[.pointer (some ⟨w.heap.size, 0, none⟩)] HEG.out w1 (w.heap.size + 1) g n cap HCA.out hn hnc hcm' w1 HR.out)
    clear ho1 hb1 hoi HCA HR
    go_wp2_with fail
    refine HSS.out.mono ?_
    rintro e w2 ⟨rfl, G, hr, hG⟩
    have hrow := hr.row
    rw [cellsF_map, hG] at hrow
    have HOW := hide (own_of_ints hrow)
    have L2 := hide (L1.out.grown hr.gr (by omega) (fun r hr => by have hr2 : g = r := Option.some.inj hr; omega))
    clear hr hrow hG HSS
    go_wp2_with fail
    go_ret
    exact ⟨_, rfl, HOW.out.base_le (by omega), L2.out⟩
set_option maxRecDepth 20000 in
set_option maxHeartbeats 2000000 in
theorem markIntS_wr (k0 : Int) (lo hi : Nat) (A : Option Addr) (n c : Nat) (w : World) (h : WrK 1 w lo hi A n) (hc : n ≤ c) (hm : c ≤ 9223372036854775807) (hn : n ≤ 1048576) (hk : 0 ≤ k0) (hk2 : k0 ≤ 10485760) :
    Calls Try.prog 9 #[.slice A n c, .int .i64 k0] w fun e w' => e = .returned (.int .i64 (k0 + n)) ∧ MkB lo hi w w' := by
  have H := hide h
  clear h
  go_enter Try.func9, Try.ntmps9
  go_wp2
  go_loopw [1, 5] (fun k i wr => ∃ j : Nat, j ≤ n ∧ i = .int .i64 j ∧ k = .int .i64 (k0 + j) ∧ MkB lo hi w wr) (fun _ i _ => n - (intOf i).toNat)
  case atStart => exact ⟨0, Nat.zero_le _, rfl, by simp, MkB.refl _ _ _⟩
  case round =>
    obtain ⟨j, hj, rfl, rfl, hmk⟩ := hrel
    have HM := hide hmk
    clear hmk
    by_cases hlt : j < n
    · obtain ⟨b, off, rfl, hl, hb, hcell⟩ := (H.out.mk HM.out) (by omega)
      have hcc := hcell j hlt
      obtain ⟨c0', f0⟩ := hcc 0 (by omega)
      obtain ⟨u0, g0⟩ := Option.isSome_iff_exists.1 c0'
      clear c0'
      simp only [Nat.add_zero, Nat.mul_one] at g0 f0
      clear hcell hcc
      have i0 : (0 : Int) ≤ (j : Int) := by omega
      have i1 : (j : Int) < (n : Int) := by omega
      have s1 : -9223372036854775808 ≤ k0 + (j : Int) + 1 := by omega
      have t1 : k0 + (j : Int) + 1 ≤ 9223372036854775807 := by omega
      have HL := hide (show lo ≤ b ∧ b < hi from ⟨hl, hb⟩)
      obtain ⟨K, hK⟩ : ∃ K, k0 + (j : Int) = K := ⟨_, rfl⟩
      have HK := hide hK
      rw [hK] at s1 t1 ⊢
      clear hK
      go_wp2
      go_roundw
      case rel =>
        refine ⟨j + 1, by omega, by go_num, ?_, ?_⟩
        · have := HK.out
          congr 1
          omega
        · repeat (first | with_reducible exact HM.out | with_reducible refine MkB.set ?_ HL.out _)
      case measure => simp [intOf]; omega
    · obtain rfl : j = n := by omega
      clear hlt
      go_wp2
      go_ret
      exact ⟨rfl, HM.out⟩
end Go.Proofs.Ytkpakpjbpmnbgaa
