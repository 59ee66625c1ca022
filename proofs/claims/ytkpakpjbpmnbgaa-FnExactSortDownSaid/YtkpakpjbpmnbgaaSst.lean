/- SortUp, SortDown of the program at 19 keys or fewer: slices.SortStableFunc comes to one insertion sort there. -/
import Derived.Test.YtkpakpjbpmnbgaaIsl
import Derived.Test.YtkpakpjbpmnbgaaMrg
import Derived.Test.YtkpakpjbpmnbgaaRow1
import Derived.Test.YtkpakpjbpmnbgaaS1
import Derived.Shelf.SlSortCmp.Insertion
namespace Go.Proofs.Ytkpakpjbpmnbgaa
open Go.ChangeShapes Go.WideShapes Go.ChangeAt Go.RowKit Go.Deep
set_option linter.unusedVariables false
set_option linter.unusedSimpArgs false

def cmpK (ks : List Int) (down : Bool) (x y : Int) : Int := if lessK ks down x y then -1 else if lessK ks down y x then 1 else 0
theorem cmpK_lt (ks : List Int) (down : Bool) (x y : Int) : decide (cmpK ks down x y < 0) = lessK ks down x y := by
  unfold cmpK
  cases h : lessK ks down x y
  · cases h2 : lessK ks down y x <;> simp
  · simp
/-- A place that there is. -/
def clampK (n : Nat) (x : Int) : Int := if 0 ≤ x ∧ x < n then x else 0
theorem clampK_in {n : Nat} (hn : 0 < n) (x : Int) : 0 ≤ clampK n x ∧ clampK n x < n := by
  unfold clampK
  split <;> omega
theorem clampK_id {n : Nat} {x : Int} (h : 0 ≤ x ∧ x < n) : clampK n x = x := if_pos h
def encK (n : Nat) (x : Int) : Value := .int .i64 (clampK n x)
theorem putRow_congr {enc enc' : Int → Value} {d : Array Int} (h : ∀ x ∈ d, enc x = enc' x) (w : World) (blk : Nat) : Go.Sort.putRow enc w blk 0 d = Go.Sort.putRow enc' w blk 0 d := by
  unfold Go.Sort.putRow
  congr 1
  funext c
  unfold Go.Sort.putCells
  congr 1
  funext k x
  by_cases hk : 0 ≤ k ∧ k < 0 + d.size
  · rw [if_pos hk, if_pos hk]
    have hk2 : k - 0 < d.size := by omega
    rw [getElem!_pos d (k - 0) hk2]
    exact h _ (Array.getElem_mem hk2)
  · rw [if_neg hk, if_neg hk]
theorem sort_grown {enc : Int → Value} {w : World} {g k : Nat} {d : Array Int} {os : Array Obj} : w.grownBy (sortWorld enc w g 0 k d os) (some g) := by
  refine ⟨rfl, rfl, rfl, by simp [sortWorld, Go.Sort.grow], fun i hi hne => ?_⟩
  unfold sortWorld
  rw [Go.Sort.heap_grow_old _ _ (by simpa using hi)]
  have : g ≠ i := fun e => hne (by rw [e])
  simp [Go.Sort.putRow, Go.Sort.mapBlock, Array.getElem?_modify, this]
set_option maxRecDepth 20000 in
set_option maxHeartbeats 1000000 in
theorem places_any (n : Nat) (w : World) (hn : n ≤ 1048576) : Calls Try.prog 15 #[.int .i64 n] w fun e w' => ∃ v, e = .returned v ∧ Own 1 encInt 3 w' w.heap.size v (rng n) ∧ Below w.heap.size w w' := by
  go_enter Try.func15, Try.ntmps15
  go_wp2
  go_loopw [3, 7] (fun o i wr => ∃ k : Nat, k ≤ n ∧ i = .int .i64 k ∧ Own 1 encInt 3 wr w.heap.size o (rng k) ∧ Below w.heap.size w wr) (fun _ i _ => n - (intOf i).toNat)
  case atStart => exact ⟨0, Nat.zero_le _, rfl, own_lit (by omega) [] 0 _ _ rfl (by simp [maxLen]) rfl, (by repeat (first | with_reducible exact Below.refl _ _ | with_reducible assumption | with_reducible refine Below.setCell ?_ (by (try simp) <;> omega) _ | with_reducible refine Below.alloc ?_ (by (try simp) <;> omega) _ | with_reducible refine Below.drew ?_ | with_reducible refine below_drewN ?_ _))⟩
  case round =>
    obtain ⟨k, hk, rfl, ho, hbel⟩ := hrel
    have HO := hide ho
    have HB := hide hbel
    have y1 := hbel.size
    clear ho hbel
    by_cases hlt : k < n
    · have i0 : (0 : Int) ≤ (k : Int) := by omega
      have i1 : (k : Int) < (n : Int) := by omega
      go_wp2_with (at_builtin; refine wpList_app rfl _ _ rfl rfl rfl (app1 HO.out (by omega) (by rw [rng_len]; omega) (k : Int)) ?_; intro vf wf hof hgf hatf; have HBf := hide (below_app HB.out HO.out (by omega) _ hgf); have HOf := hide hof; clear hof hgf hatf)
      go_roundw
      case rel => exact ⟨k + 1, by omega, by go_num, by rw [rng_succ]; exact HOf.out, HBf.out⟩
      case measure => first | omega | (simp [intOf]; done) | (simp [intOf]; omega)
    · obtain rfl : k = n := by omega
      clear hlt
      go_wp2
      go_ret
      exact ⟨_, rfl, HO.out, HB.out⟩
theorem compare_any (a b : Int) (w : World) : Calls Try.prog 18 #[.int .i64 a, .int .i64 b] w fun e w' => e = .returned (.int .i64 (if a < b then -1 else if b < a then 1 else 0)) ∧ w = w' := by
  by_cases h1 : a < b
  · rw [if_pos h1]
    go_enter Try.func18, Try.ntmps18
    go_wp2
    go_ret
    exact ⟨rfl, rfl⟩
  · rw [if_neg h1]
    by_cases h2 : b < a
    · rw [if_pos h2]
      go_enter Try.func18, Try.ntmps18
      go_wp2
      go_ret
      exact ⟨rfl, rfl⟩
    · rw [if_neg h2]
      go_enter Try.func18, Try.ntmps18
      go_wp2
      go_ret
      exact ⟨rfl, rfl⟩
theorem key_of {ks : List Int} {i : Nat} {x : Int} (h : ks[i]? = some x) : keyAt ks (i : Int) = x := by
  unfold keyAt
  rw [Int.toNat_natCast, List.getD_eq_getElem?_getD, h]
  rfl
set_option maxRecDepth 20000 in
theorem closUp_any (i j n B lo hi : Nat) (A : Option Addr) (c : Nat) (ks : List Int) (W : World) (hi' : i < n) (hj : j < n) (hs : SlK 1 encInt W lo hi A n c ks) (hB : hi ≤ W.heap.size) (hb : Blk W B 22 #[.slice A n c]) :
    Calls Try.prog 19 #[.int .i64 i, .int .i64 j, .pointer (some ⟨B, 0, none⟩)] W fun e w' => e = .returned (.int .i64 (cmpK ks false i j)) ∧ ∃ q, w' = W.drewN q := by
  obtain ⟨b0, off, x, hx, rfl, _, hb0, c0, _⟩ := hs.int hi'
  obtain ⟨b1, off1, y, hy, e1, _, hb1, c1, _⟩ := hs.int hj
  injection e1 with e1
  injection e1 with e1 e2
  subst e1 e2
  have HF := hide (show cmpK ks false i j = (if x < y then -1 else if y < x then 1 else 0) by unfold cmpK lessK; rw [key_of hx, key_of hy]; simp)
  have HC := hide (compare_any x y)
  have kB := hb.cell
  have yB := hb.lt
  have i0 : (0 : Int) ≤ (i : Int) := by omega
  have i1 : (i : Int) < (n : Int) := by omega
  have j0 : (0 : Int) ≤ (j : Int) := by omega
  have j1 : (j : Int) < (n : Int) := by omega
  have z0 : b0 < W.heap.size := by omega
  obtain ⟨r, hr⟩ : ∃ r : Int, (if x < y then -1 else if y < x then 1 else 0) = r := ⟨_, rfl⟩
  rw [hr] at HF HC
  clear hx hy hs hr hb
  go_enter Try.func19, Try.ntmps19
  go_wp2_with fail
  go_quiet ((go_at_call 18; exact (HC.out _).mono (by rintro e w' ⟨rfl, rfl⟩; exact ⟨rfl, _, rfl⟩)))
  go_wp2
  go_ret
  exact ⟨by rw [HF.out]; rfl, _, rfl⟩
set_option maxRecDepth 20000 in
theorem closDown_any (i j n B lo hi : Nat) (A : Option Addr) (c : Nat) (ks : List Int) (W : World) (hi' : i < n) (hj : j < n) (hs : SlK 1 encInt W lo hi A n c ks) (hB : hi ≤ W.heap.size) (hb : Blk W B 22 #[.slice A n c]) :
    Calls Try.prog 17 #[.int .i64 i, .int .i64 j, .pointer (some ⟨B, 0, none⟩)] W fun e w' => e = .returned (.int .i64 (cmpK ks true i j)) ∧ ∃ q, w' = W.drewN q := by
  obtain ⟨b0, off, x, hx, rfl, _, hb0, c0, _⟩ := hs.int hi'
  obtain ⟨b1, off1, y, hy, e1, _, hb1, c1, _⟩ := hs.int hj
  injection e1 with e1
  injection e1 with e1 e2
  subst e1 e2
  have HF := hide (show cmpK ks true i j = (if y < x then -1 else if x < y then 1 else 0) by unfold cmpK lessK; rw [key_of hx, key_of hy]; simp)
  have HC := hide (compare_any y x)
  have kB := hb.cell
  have yB := hb.lt
  have i0 : (0 : Int) ≤ (i : Int) := by omega
  have i1 : (i : Int) < (n : Int) := by omega
  have j0 : (0 : Int) ≤ (j : Int) := by omega
  have j1 : (j : Int) < (n : Int) := by omega
  have z0 : b0 < W.heap.size := by omega
  obtain ⟨r, hr⟩ : ∃ r : Int, (if y < x then -1 else if x < y then 1 else 0) = r := ⟨_, rfl⟩
  rw [hr] at HF HC
  clear hx hy hs hr hb
  go_enter Try.func17, Try.ntmps17
  go_wp2_with fail
  go_quiet ((go_at_call 18; exact (HC.out _).mono (by rintro e w' ⟨rfl, rfl⟩; exact ⟨rfl, _, rfl⟩)))
  go_wp2
  go_ret
  exact ⟨by rw [HF.out]; rfl, _, rfl⟩
def lays20_ren : Go.Shelf.Ren := ⟨fun | 20 => 21 | n => n, fun | 0 => 0 | 3 => 3 | 4 => 4 | 22 => 22 | 24 => 3 | 25 => 30 | n => n, fun | n => n⟩
theorem lays20 : Go.Proofs.SlLaysF.n20 Try.prog lays20_ren := {
  mixed := by kernel_rfl
  f20 := ⟨Try.f21.name, by decide, Try.func21.trans (congrArg some (by kernel_rfl))⟩
  t0 := Try.underlying0
  a0 := Try.isAgg0
  z0 := Try.sizeOf0
  v0 := Try.zeroValue0
  t3 := Try.underlying3
  a3 := Try.isAgg3
  z3 := Try.sizeOf3
  v3 := Try.zeroValue3
  t4 := Try.underlying4
  a4 := Try.isAgg4
  z4 := Try.sizeOf4
  v4 := Try.zeroValue4
  t22 := Try.underlying22
  a22 := Try.isAgg22
  z22 := Try.sizeOf22
  v22 := Try.zeroValue22
  a24 := Try.isAgg3
  z24 := Try.sizeOf3
  t25 := Try.underlying30
  a25 := Try.isAgg30
  z25 := Try.sizeOf30
  v25 := Try.zeroValue30 }
set_option maxRecDepth 20000 in
set_option maxHeartbeats 1000000 in
theorem stable_small (cf : Int → Int → Int) (n : Nat) (g : Nat) (cb : Array Value) (blk cap : Nat) (d : Array Int) (w : World) (eg : ∀ args w, (callFunc g args).run Try.prog w = .ok (.enter g args) w)
    (hcmp : CmpReads Try.prog g cb (encK n) cf blk 0 d.size w) (hH : Go.Sort.Holds (encK n) w blk 0 d) (hn : d.size = n) (hn19 : n ≤ 19) :
    Calls Try.prog 16 #[.slice (some ⟨blk, 0, none⟩) n cap, .func (.func g) #[] cb] w fun e w' => e = .returned (.tuple #[]) ∧ ∃ q, w' = (Go.Sort.putRow (encK n) w blk 0 (Go.Sort.insertionSort (ltOf cf) d 0 n)).drewN q := by
  have HI : Hid (Calls Try.prog 21 #[.slice (some ⟨blk, 0, none⟩) n cap, .int .i64 0, .int .i64 n, .func (.func g) #[] cb] w fun e w' => e = .returned (.tuple #[]) ∧ ∃ q, w' = (Go.Sort.putRow (encK n) w blk 0 (Go.Sort.insertionSort (ltOf cf) d 0 n)).drewN q) := hide (by
    have h := Any.insertionSortCmpFunc_one lays20 (encK n) (fun _ => rfl) cf g cb blk 0 cap 0 n d w eg hcmp hH (Nat.zero_le _) (by omega) (by omega)
    rw [hn] at h
    exact h)
  have h20 : ¬ ((20 : Int) ≤ (n : Int)) := by omega
  have h21 : ¬ ((20 : Int) < (n : Int)) := by omega
  have hn0 : (0 : Int) ≤ (n : Int) := by omega
  clear hcmp hH
  have HS : Hid (Calls Try.prog 20 #[.slice (some ⟨blk, 0, none⟩) n cap, .int .i64 n, .func (.func g) #[] cb] w fun e w' => e = .returned (.tuple #[]) ∧ ∃ q, w' = (Go.Sort.putRow (encK n) w blk 0 (Go.Sort.insertionSort (ltOf cf) d 0 n)).drewN q) := hide (by
    go_enter Try.func20, Try.ntmps20
    go_wp2_with fail
    refine wp_loop_rounds 1 ?_
    rw [rounds_succ]
    go_wp2_with fail
    refine HI.out.mono ?_
    rintro e w2 ⟨rfl, q, rfl⟩
    obtain ⟨w3, hw3⟩ : ∃ w3, (Go.Sort.putRow (encK n) w blk 0 (Go.Sort.insertionSort (ltOf cf) d 0 n)).drewN q = w3 := ⟨_, rfl⟩
    have HW := hide hw3
    rw [hw3]
    clear hw3
    go_wp2_with fail
    refine wp_loop_rounds 1 ?_
    rw [rounds_succ]
    go_wp2_with fail
    go_end0
    exact ⟨rfl, q, HW.out.symm⟩)
  go_enter Try.func16, Try.ntmps16
  go_wp2_with fail
  refine HS.out.mono ?_
  rintro e w2 ⟨rfl, q, rfl⟩
  obtain ⟨w3, hw3⟩ : ∃ w3, (Go.Sort.putRow (encK n) w blk 0 (Go.Sort.insertionSort (ltOf cf) d 0 n)).drewN q = w3 := ⟨_, rfl⟩
  have HW := hide hw3
  rw [hw3]
  clear hw3
  go_wp2_with fail
  go_end0
  exact ⟨rfl, q, HW.out.symm⟩
theorem stable_nil (A : Option Addr) (c : Nat) (g : Nat) (cb : Array Value) (w : World) : Calls Try.prog 16 #[.slice A 0 c, .func (.func g) #[] cb] w fun e w' => e = .returned (.tuple #[]) ∧ w = w' := by
  have HI : Hid (Calls Try.prog 21 #[.slice A 0 c, .int .i64 0, .int .i64 0, .func (.func g) #[] cb] w fun e w' => e = .returned (.tuple #[]) ∧ w = w') := hide (by
    go_enter Try.func21, Try.ntmps21
    go_wp2_with fail
    refine wp_loop_rounds 1 ?_
    rw [rounds_succ]
    go_wp2_with fail
    go_end0
    exact ⟨rfl, rfl⟩)
  have HS : Hid (Calls Try.prog 20 #[.slice A 0 c, .int .i64 0, .func (.func g) #[] cb] w fun e w' => e = .returned (.tuple #[]) ∧ w = w') := hide (by
    go_enter Try.func20, Try.ntmps20
    go_wp2_with fail
    refine wp_loop_rounds 1 ?_
    rw [rounds_succ]
    go_wp2_with fail
    refine HI.out.mono ?_
    rintro e w2 ⟨rfl, rfl⟩
    go_wp2_with fail
    refine wp_loop_rounds 1 ?_
    rw [rounds_succ]
    go_wp2_with fail
    go_end0
    exact ⟨rfl, rfl⟩)
  go_enter Try.func16, Try.ntmps16
  go_wp2_with fail
  refine HS.out.mono ?_
  rintro e w2 ⟨rfl, rfl⟩
  go_wp2_with fail
  go_end0
  exact ⟨rfl, rfl⟩
set_option maxRecDepth 20000 in
set_option maxHeartbeats 1000000 in
theorem sortUp_any (ks : List Int) (lo hi : Nat) (A : Option Addr) (n c : Nat) (w : World) (hs : SlK 1 encInt w lo hi A n c ks) (hB : hi ≤ w.heap.size) (hn : n ≤ 19) :
    Calls Try.prog 12 #[.slice A n c] w fun e w' => ∃ v, e = .returned v ∧ Own 1 encInt 3 w' w.heap.size v (sortBy ks false (rng n)) ∧ Below w.heap.size w w' := by
  have hc := hs.cap
  have hm := hs.max
  have HS := hide hs
  clear hs
  have eg : ∀ args w, (callFunc 19 args).run Try.prog w = .ok (.enter 19 args) w := enters_of Try.func19 (by kernel_rfl) rfl
  have HEG := hide eg
  clear eg
  go_enter Try.func12, Try.ntmps12
  go_wp2_with fail
  refine (places_any n _ (by omega)).mono ?_
  rintro e w1 ⟨v1, rfl, ho1, hb1⟩
  have z1 : w.heap.size + 1 ≤ w1.heap.size := by simpa using hb1.size
  have PB := hide (Blk.belowH (Blk.new w 22 #[.slice A n c] (g := w.heap.size) rfl) hb1)
  have L1 := hide (show Below w.heap.size w w1 from (by repeat (first | with_reducible exact Below.refl _ _ | with_reducible assumption | with_reducible refine Below.setCell ?_ (by (try simp) <;> omega) _ | with_reducible refine Below.alloc ?_ (by (try simp) <;> omega) _ | with_reducible refine Below.drew ?_ | with_reducible refine below_drewN ?_ _ | with_reducible exact hb1 | with_reducible refine Below.trans ?_ (Below.mono hb1 (by (try simp) <;> omega)))))
  have HK := hide (HS.out.below L1.out hB)
  simp only [World.size_alloc] at ho1
  have HO := hide ho1
  have kB := PB.out.cell
  have yB := PB.out.lt
  rcases own_form ho1 with ⟨rfl, hnil⟩ | ⟨g, cap, rfl, hg, hlt, hnc, hcm⟩
  · have hn0 : n = 0 := by have := rng_len n; rw [hnil] at this; simpa using this.symm
    subst hn0
    clear ho1 hb1
    go_wp2_with fail
    refine (stable_nil _ _ _ _ _).mono ?_
    rintro e w2 ⟨rfl, rfl⟩
    go_wp2_with fail
    go_ret
    refine ⟨_, rfl, ?_, L1.out⟩
    rw [sortBy_small ks false (by simp [rng_len])]
    exact HO.out.base_le (by omega)
  · rw [rng_len] at hnc ⊢
    have HOI := hide (ints_of_own ho1)
    rw [rng_len] at HOI
    have HH := hide (own_holds HOI.out)
    have HST := hide (fun (hn0 : 0 < n) => stable_small (fun x y => cmpK ks false (clampK n x) (clampK n y)) n 19 #[.pointer (some ⟨w.heap.size, 0, none⟩)] g cap (rng n).toArray w1 HEG.out
      (fun m os dk hsz x y => by
        have h1 := clampK_in hn0 x
        have h2 := clampK_in hn0 y
        have hgr := sort_grown (enc := encK n) (w := w1) (g := g) (k := m) (d := dk) (os := os)
        have h := closUp_any (clampK n x).toNat (clampK n y).toNat n w.heap.size lo hi A c ks (sortWorld (encK n) w1 g 0 m dk os) (by omega) (by omega)
          (HK.out.grown hgr (by omega) (fun r hr => .inr (by have hr2 : g = r := Option.some.inj hr; omega))) (by have := hgr.size; omega)
          (PB.out.grown hgr (fun e => by have e2 : w.heap.size = g := Option.some.inj e; omega))
        rw [Int.toNat_of_nonneg h1.1, Int.toNat_of_nonneg h2.1] at h
        exact h)
      (fun j hj => by
        have hj' : j < n := by simpa [rng_len] using hj
        have h := HH.out j hj
        have hv : (rng n).toArray[j]! = (j : Int) := by
          rw [getElem!_pos _ j hj]
          simp [rng]
        rw [hv] at h ⊢
        unfold encK
        rw [clampK_id (by omega)]
        exact h) (by simp [rng_len]) hn)
    by_cases hn0 : 0 < n
    · clear ho1 hb1
      have HSS := hide (HST.out hn0)
      clear HST
      go_wp2_with fail
      refine HSS.out.mono ?_
      rintro e w2 ⟨rfl, q, hw2⟩
      have hins : Go.Sort.insertionSort (ltOf fun x y => cmpK ks false (clampK n x) (clampK n y)) (rng n).toArray 0 n = (sortBy ks false (rng n)).toArray :=
        ins_all _ ks false n (fun x y hx hy => by
          unfold ltOf
          rw [cmpK_lt, clampK_id hx, clampK_id hy])
      have hw3 : w2 = Go.Sort.grow (Go.Sort.putRow (Value.int .i64) (Go.Sort.ahead w1 q) g 0 (sortBy ks false (rng n)).toArray) #[] := by
        rw [hw2, hins, putRow_congr (enc' := Value.int .i64) (fun x hx => by
          have hx2 : x ∈ sortBy ks false (rng n) := by simpa using hx
          rw [(sortBy_perm ks false (rng n)).mem_iff, mem_rng] at hx2
          unfold encK
          rw [clampK_id hx2]), Go.Sort.grow_empty]
        have h := putRow_drewN (Value.int .i64) w1 0 q g 0 (sortBy ks false (rng n)).toArray
        rw [Go.Sort.ahead_zero, Nat.zero_add] at h
        exact h
      have hown := own_put (k := q) (m := n) (os := #[]) HOI.out (show (sortBy ks false (rng n)).length = n by rw [sortBy_len, rng_len]) (Nat.le_refl _)
      rw [List.take_of_length_le (by rw [sortBy_len, rng_len]; exact Nat.le_refl _), ← hw3] at hown
      have hgr := put_grown (w := w1) (g := g) (k := q) (d := (sortBy ks false (rng n)).toArray) (os := #[])
      rw [← hw3] at hgr
      have HOW := hide (own_of_ints hown)
      have L2 := hide (L1.out.grown hgr (by omega) (fun r hr => by have hr2 : g = r := Option.some.inj hr; omega))
      clear hw2 hw3 hown hgr hins HSS
      go_wp2_with fail
      go_ret
      exact ⟨_, rfl, HOW.out.base_le (by omega), L2.out⟩
    · obtain rfl : n = 0 := by omega
      clear ho1 hb1 HST
      go_wp2_with fail
      refine (stable_nil _ _ _ _ _).mono ?_
      rintro e w2 ⟨rfl, rfl⟩
      go_wp2_with fail
      go_ret
      refine ⟨_, rfl, ?_, L1.out⟩
      rw [sortBy_small ks false (by simp [rng_len])]
      exact HO.out.base_le (by omega)
set_option maxRecDepth 20000 in
set_option maxHeartbeats 1000000 in
theorem sortDown_any (ks : List Int) (lo hi : Nat) (A : Option Addr) (n c : Nat) (w : World) (hs : SlK 1 encInt w lo hi A n c ks) (hB : hi ≤ w.heap.size) (hn : n ≤ 19) :
    Calls Try.prog 7 #[.slice A n c] w fun e w' => ∃ v, e = .returned v ∧ Own 1 encInt 3 w' w.heap.size v (sortBy ks true (rng n)) ∧ Below w.heap.size w w' := by
  have hc := hs.cap
  have hm := hs.max
  have HS := hide hs
  clear hs
  have eg : ∀ args w, (callFunc 17 args).run Try.prog w = .ok (.enter 17 args) w := enters_of Try.func17 (by kernel_rfl) rfl
  have HEG := hide eg
  clear eg
  go_enter Try.func7, Try.ntmps7
  go_wp2_with fail
  refine (places_any n _ (by omega)).mono ?_
  rintro e w1 ⟨v1, rfl, ho1, hb1⟩
  have z1 : w.heap.size + 1 ≤ w1.heap.size := by simpa using hb1.size
  have PB := hide (Blk.belowH (Blk.new w 22 #[.slice A n c] (g := w.heap.size) rfl) hb1)
  have L1 := hide (show Below w.heap.size w w1 from (by repeat (first | with_reducible exact Below.refl _ _ | with_reducible assumption | with_reducible refine Below.setCell ?_ (by (try simp) <;> omega) _ | with_reducible refine Below.alloc ?_ (by (try simp) <;> omega) _ | with_reducible refine Below.drew ?_ | with_reducible refine below_drewN ?_ _ | with_reducible exact hb1 | with_reducible refine Below.trans ?_ (Below.mono hb1 (by (try simp) <;> omega)))))
  have HK := hide (HS.out.below L1.out hB)
  simp only [World.size_alloc] at ho1
  have HO := hide ho1
  have kB := PB.out.cell
  have yB := PB.out.lt
  rcases own_form ho1 with ⟨rfl, hnil⟩ | ⟨g, cap, rfl, hg, hlt, hnc, hcm⟩
  · have hn0 : n = 0 := by have := rng_len n; rw [hnil] at this; simpa using this.symm
    subst hn0
    clear ho1 hb1
    go_wp2_with fail
    refine (stable_nil _ _ _ _ _).mono ?_
    rintro e w2 ⟨rfl, rfl⟩
    go_wp2_with fail
    go_ret
    refine ⟨_, rfl, ?_, L1.out⟩
    rw [sortBy_small ks true (by simp [rng_len])]
    exact HO.out.base_le (by omega)
  · rw [rng_len] at hnc ⊢
    have HOI := hide (ints_of_own ho1)
    rw [rng_len] at HOI
    have HH := hide (own_holds HOI.out)
    have HST := hide (fun (hn0 : 0 < n) => stable_small (fun x y => cmpK ks true (clampK n x) (clampK n y)) n 17 #[.pointer (some ⟨w.heap.size, 0, none⟩)] g cap (rng n).toArray w1 HEG.out
      (fun m os dk hsz x y => by
        have h1 := clampK_in hn0 x
        have h2 := clampK_in hn0 y
        have hgr := sort_grown (enc := encK n) (w := w1) (g := g) (k := m) (d := dk) (os := os)
        have h := closDown_any (clampK n x).toNat (clampK n y).toNat n w.heap.size lo hi A c ks (sortWorld (encK n) w1 g 0 m dk os) (by omega) (by omega)
          (HK.out.grown hgr (by omega) (fun r hr => .inr (by have hr2 : g = r := Option.some.inj hr; omega))) (by have := hgr.size; omega)
          (PB.out.grown hgr (fun e => by have e2 : w.heap.size = g := Option.some.inj e; omega))
        rw [Int.toNat_of_nonneg h1.1, Int.toNat_of_nonneg h2.1] at h
        exact h)
      (fun j hj => by
        have hj' : j < n := by simpa [rng_len] using hj
        have h := HH.out j hj
        have hv : (rng n).toArray[j]! = (j : Int) := by
          rw [getElem!_pos _ j hj]
          simp [rng]
        rw [hv] at h ⊢
        unfold encK
        rw [clampK_id (by omega)]
        exact h) (by simp [rng_len]) hn)
    by_cases hn0 : 0 < n
    · clear ho1 hb1
      have HSS := hide (HST.out hn0)
      clear HST
      go_wp2_with fail
      refine HSS.out.mono ?_
      rintro e w2 ⟨rfl, q, hw2⟩
      have hins : Go.Sort.insertionSort (ltOf fun x y => cmpK ks true (clampK n x) (clampK n y)) (rng n).toArray 0 n = (sortBy ks true (rng n)).toArray :=
        ins_all _ ks true n (fun x y hx hy => by
          unfold ltOf
          rw [cmpK_lt, clampK_id hx, clampK_id hy])
      have hw3 : w2 = Go.Sort.grow (Go.Sort.putRow (Value.int .i64) (Go.Sort.ahead w1 q) g 0 (sortBy ks true (rng n)).toArray) #[] := by
        rw [hw2, hins, putRow_congr (enc' := Value.int .i64) (fun x hx => by
          have hx2 : x ∈ sortBy ks true (rng n) := by simpa using hx
          rw [(sortBy_perm ks true (rng n)).mem_iff, mem_rng] at hx2
          unfold encK
          rw [clampK_id hx2]), Go.Sort.grow_empty]
        have h := putRow_drewN (Value.int .i64) w1 0 q g 0 (sortBy ks true (rng n)).toArray
        rw [Go.Sort.ahead_zero, Nat.zero_add] at h
        exact h
      have hown := own_put (k := q) (m := n) (os := #[]) HOI.out (show (sortBy ks true (rng n)).length = n by rw [sortBy_len, rng_len]) (Nat.le_refl _)
      rw [List.take_of_length_le (by rw [sortBy_len, rng_len]; exact Nat.le_refl _), ← hw3] at hown
      have hgr := put_grown (w := w1) (g := g) (k := q) (d := (sortBy ks true (rng n)).toArray) (os := #[])
      rw [← hw3] at hgr
      have HOW := hide (own_of_ints hown)
      have L2 := hide (L1.out.grown hgr (by omega) (fun r hr => by have hr2 : g = r := Option.some.inj hr; omega))
      clear hw2 hw3 hown hgr hins HSS
      go_wp2_with fail
      go_ret
      exact ⟨_, rfl, HOW.out.base_le (by omega), L2.out⟩
    · obtain rfl : n = 0 := by omega
      clear ho1 hb1 HST
      go_wp2_with fail
      refine (stable_nil _ _ _ _ _).mono ?_
      rintro e w2 ⟨rfl, rfl⟩
      go_wp2_with fail
      go_ret
      refine ⟨_, rfl, ?_, L1.out⟩
      rw [sortBy_small ks true (by simp [rng_len])]
      exact HO.out.base_le (by omega)
end Go.Proofs.Ytkpakpjbpmnbgaa
