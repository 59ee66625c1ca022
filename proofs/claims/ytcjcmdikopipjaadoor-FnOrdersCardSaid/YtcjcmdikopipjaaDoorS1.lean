/- The contracts of the laws' own copying, comparing and counting functions over slices. Written by gen/gen_s1.py. -/
import Derived.Test.YtcjcmdikopipjaaDoorC1
import Derived.Test.YtcjcmdikopipjaaDoorMem
import Derived.Deep.RegionHeld3
namespace Go.Proofs.YtcjcmdikopipjaaDoor
open Go.ChangeShapes Go.WideShapes Go.ChangeAt Go.RowKit Go.Deep
set_option linter.unusedVariables false

theorem bcellD {w w1 : World} (hb : Below w.drew.heap.size w.drew w1) : ∀ b o, b < w.heap.size → w1.cell? ⟨b, o, none⟩ = w.cell? ⟨b, o, none⟩ := fun b o h => hb.cell (p := ⟨b, o, none⟩) h
theorem int_info : (Tryd.prog.info? 3).map (fun i => (i.zero, i.size, i.bytes)) = some (some zI, 1, 8) := by kernel_rfl
theorem pr_info : (Tryd.prog.info? 82).map (fun i => (i.zero, i.size, i.bytes)) = some (some zPr, 2, 16) := by kernel_rfl
set_option maxHeartbeats 2000000 in
theorem toPairS_any (lo hi : Nat) (A : Option Addr) (n c : Nat) (xs : List Pr) (w : World) (hs : SlK 2 encPr w lo hi A n c xs) (hB : hi ≤ w.heap.size) (hn : n ≤ 1048576) :
    Calls Tryd.prog 45 #[.slice A n c] w fun e w' => ∃ A', e = .returned (.slice A' n n) ∧ SlK 2 encPr w' w.heap.size w'.heap.size A' n n xs ∧ Below w.heap.size w w' := by
  have hmk := fun W => mk_row Tryd.underlying37 pr_info (by omega) n hn W
  have hm := hs.max
  have hc := hs.cap
  have HZ := hide (zeros_size zPr (n * 2))
  have HL := hide hs.len
  generalize hZ : (zeros zPr (n * 2)) = Z at *
  clear hZ
  go_enter Tryd.func45, Tryd.ntmps45
  go_wp2
  clear hmk
  go_loopw [4] (fun i wr => ∃ k : Nat, k ≤ n ∧ i = .int .i64 k ∧ wr.ownsRow w.heap.size 82 2 (.slice (some ⟨w.heap.size, 0, none⟩) n n) n ((xs.take k).flatMap encPr ++ Z.toList.drop (k * 2)) ∧ Below w.heap.size w wr) (fun i _ => n - (intOf i).toNat)
  case atStart =>
    refine ⟨0, Nat.zero_le _, rfl, ?_, (Below.refl _ _).alloc (Nat.le_refl _) _⟩
    simpa using World.ownsRow_lit (base := w.heap.size) (size := 2) (e := 82) w Z n (Nat.le_refl _) (by simp [maxLen]; omega) HZ.out
  case round =>
    obtain ⟨k, hk, rfl, hown, hbel⟩ := hrel
    by_cases hlt : k < n
    · obtain ⟨b0, off, x, hx, rfl, _, hb0, c0, c1, _, _⟩ := (hs.below hbel hB).pr hlt
      have HX := hide hx
      have HS := hide hs
      have HO := hide hown
      clear hx hown hs
      go_wp2_with (go_at_call 78; refine (toPair_any _ _ _).mono ?_; rintro e w1 ⟨rfl, hb1⟩; have ho1 := hide (row_below HO.out hb1); obtain ⟨u0, d0⟩ := own_cell ho1.out (k * 2) (by omega); obtain ⟨u1, d1⟩ := own_cell ho1.out (k * 2 + 1) (by omega); have fz := fun j => ho1.out.frozenAt j)
      go_roundw
      case rel =>
        refine ⟨k + 1, by omega, by go_num, ?_, ?_⟩
        · rw [← row_fill encPr_len xs _ x HL.out (by simpa using HZ.out) hlt HX.out]
          exact (stored2 ho1.out _ _ _).1
        · exact below2 (hbel.trans (hb1.mono hbel.size)) (Nat.le_refl _) _ _ _
      case measure => simp [intOf]; omega
    · have hge : n ≤ k := by omega
      clear hlt
      go_wp2
      go_ret
      refine ⟨_, rfl, ?_, hbel⟩
      rw [List.take_of_length_le (by rw [HL.out]; omega), List.drop_of_length_le (by have : n * 2 ≤ k * 2 := Nat.mul_le_mul_right _ hge; rw [Array.length_toList, HZ.out]; omega), List.append_nil] at hown
      exact slk_of_row encPr_len HL.out hown
set_option maxHeartbeats 800000 in
theorem eqPair_any (x : Pr) (w : World) : Calls Tryd.prog 84 #[.agg #[.int .i64 x.a, .int .i64 x.b], .agg #[.int .i64 x.a, .int .i64 x.b]] w fun e w' => e = .returned (.bool true) ∧ Below w.heap.size w w' := by
  go_enter Tryd.func84, Tryd.ntmps84
  go_wp2
  go_ret
  exact ⟨rfl, ((Below.refl _ _).alloc (Nat.le_refl _) _).alloc (by simp) _⟩
set_option maxHeartbeats 800000 in
theorem eqPairS_any (lo hi lo' hi' : Nat) (A A' : Option Addr) (n c c' : Nat) (xs : List Pr) (w : World) (hs : SlK 2 encPr w lo hi A n c xs) (hB : hi ≤ w.heap.size) (hs' : SlK 2 encPr w lo' hi' A' n c' xs) (hB' : hi' ≤ w.heap.size) :
    Calls Tryd.prog 52 #[.slice A n c, .slice A' n c'] w fun e w' => e = .returned (.bool true) ∧ Below w.heap.size w w' := by
  have hm := hs.max
  have hc := hs.cap
  have hm' := hs'.max
  have hc' := hs'.cap
  go_enter Tryd.func52, Tryd.ntmps52
  go_wp2
  go_loopw [5] (fun i wr => ∃ k : Nat, k ≤ n ∧ i = .int .i64 k ∧ Below w.heap.size w wr) (fun i _ => n - (intOf i).toNat)
  case atStart => exact ⟨0, Nat.zero_le _, rfl, Below.refl _ _⟩
  case round =>
    obtain ⟨k, hk, rfl, hbel⟩ := hrel
    by_cases hlt : k < n
    · obtain ⟨b0, off, x, hx, rfl, _, hb0, c0, c1, _, _⟩ := (hs.below hbel hB).pr hlt
      obtain ⟨b0', off', x', hx', rfl, _, hb0', d0, d1, _, _⟩ := (hs'.below hbel hB').pr hlt
      obtain rfl : x = x' := by rw [hx] at hx'; exact Option.some.inj hx'
      clear hx hx'
      have HS := hide hs
      have HS' := hide hs'
      clear hs hs'
      have i0 : (0 : Int) ≤ (k : Int) := by omega
      have i1 : (k : Int) < (n : Int) := by omega
      have z0 : b0 < wr.heap.size := by have := hbel.size; omega
      have z1 : b0' < wr.heap.size := by have := hbel.size; omega
      go_wp2_with fail
      go_region_held3 (fun w' => w'.cell? ⟨b0, off + k * 2, none⟩ = some (.int .i64 x.a) ∧ w'.cell? ⟨b0, off + k * 2 + 1, none⟩ = some (.int .i64 x.b) ∧ w'.cell? ⟨b0', off' + k * 2, none⟩ = some (.int .i64 x.a) ∧ w'.cell? ⟨b0', off' + k * 2 + 1, none⟩ = some (.int .i64 x.b)) (go_keep) ((go_at_call 84; refine (eqPair_any _ _).mono ?_; rintro e w1 ⟨rfl, hb1⟩; have hcc := bcellD hb1))
      go_wp2
      go_roundw
      case rel => exact ⟨k + 1, by omega, by go_num, hbel.drew.trans (hb1.mono hbel.size)⟩
      case measure => simp [intOf]; omega
    · have hge : n ≤ k := by omega
      clear hlt
      go_wp2
      go_ret
      exact ⟨rfl, hbel⟩
theorem szPairS_ok (A : Option Addr) (n c : Nat) (left : Int) (w : World) (h1 : (n : Int) ≤ left) (h2 : left ≤ 1048576) (hc : n ≤ c) (hm : c ≤ 9223372036854775807) :
    Calls Tryd.prog 38 #[.slice A n c, .int .i64 left] w fun e w' => e = .returned (.int .i64 (left - n)) ∧ w = w' := by
  have h3 : ¬ (left - n < 0) := by omega
  go_enter Tryd.func38, Tryd.ntmps38
  go_wp2
  go_ret
  exact ⟨rfl, rfl⟩
theorem szPairS_no (A : Option Addr) (n c : Nat) (left : Int) (w : World) (h1 : left < (n : Int)) (h0 : 0 ≤ left) (h2 : left ≤ 1048576) (hc : n ≤ c) (hm : c ≤ 9223372036854775807) :
    Calls Tryd.prog 38 #[.slice A n c, .int .i64 left] w fun e w' => e = .returned (.int .i64 (-1)) ∧ w = w' := by
  have h3 : (left - n < 0) := by omega
  go_enter Tryd.func38, Tryd.ntmps38
  go_wp2
  go_ret
  exact ⟨rfl, rfl⟩
theorem it_info : (Tryd.prog.info? 86).map (fun i => (i.zero, i.size, i.bytes)) = some (some z7, 7, 56) := by kernel_rfl
set_option maxHeartbeats 2000000 in
theorem toItemS_any (lo hi : Nat) (A : Option Addr) (n c : Nat) (xs : List It) (w : World) (hs : SlK 7 encIt w lo hi A n c xs) (hB : hi ≤ w.heap.size) (hn : n ≤ 1048576) :
    Calls Tryd.prog 47 #[.slice A n c] w fun e w' => ∃ A', e = .returned (.slice A' n n) ∧ SlK 7 encIt w' w.heap.size w'.heap.size A' n n xs ∧ Below w.heap.size w w' := by
  have hmk := fun W => mk_row Tryd.underlying39 it_info (by omega) n hn W
  have hm := hs.max
  have hc := hs.cap
  have HZ := hide (zeros_size z7 (n * 7))
  have HL := hide hs.len
  generalize hZ : (zeros z7 (n * 7)) = Z at *
  clear hZ
  go_enter Tryd.func47, Tryd.ntmps47
  go_wp2
  clear hmk
  go_loopw [4] (fun i wr => ∃ k : Nat, k ≤ n ∧ i = .int .i64 k ∧ wr.ownsRow w.heap.size 86 7 (.slice (some ⟨w.heap.size, 0, none⟩) n n) n ((xs.take k).flatMap encIt ++ Z.toList.drop (k * 7)) ∧ Below w.heap.size w wr) (fun i _ => n - (intOf i).toNat)
  case atStart =>
    refine ⟨0, Nat.zero_le _, rfl, ?_, (Below.refl _ _).alloc (Nat.le_refl _) _⟩
    simpa using World.ownsRow_lit (base := w.heap.size) (size := 7) (e := 86) w Z n (Nat.le_refl _) (by simp [maxLen]; omega) HZ.out
  case round =>
    obtain ⟨k, hk, rfl, hown, hbel⟩ := hrel
    by_cases hlt : k < n
    · obtain ⟨b0, off, x, hx, rfl, _, hb0, c0, c1, c2, c3, c4, c5, c6, _⟩ := (hs.below hbel hB).it hlt
      have HX := hide hx
      have HS := hide hs
      have HO := hide hown
      clear hx hown hs
      go_wp2_with (go_at_call 80; refine (toItem_any _ _ _ _ _ _ _ _).mono ?_; rintro e w1 ⟨rfl, hb1⟩; have ho1 := hide (row_below HO.out hb1); obtain ⟨u0, d0⟩ := own_cell ho1.out (k * 7) (by omega); obtain ⟨u1, d1⟩ := own_cell ho1.out (k * 7 + 1) (by omega); obtain ⟨u2, d2⟩ := own_cell ho1.out (k * 7 + 2) (by omega); obtain ⟨u3, d3⟩ := own_cell ho1.out (k * 7 + 3) (by omega); obtain ⟨u4, d4⟩ := own_cell ho1.out (k * 7 + 4) (by omega); obtain ⟨u5, d5⟩ := own_cell ho1.out (k * 7 + 5) (by omega); obtain ⟨u6, d6⟩ := own_cell ho1.out (k * 7 + 6) (by omega); have fz := fun j => ho1.out.frozenAt j)
      go_roundw
      case rel =>
        refine ⟨k + 1, by omega, by go_num, ?_, ?_⟩
        · rw [← row_fill encIt_len xs _ x HL.out (by simpa using HZ.out) hlt HX.out]
          exact (stored7 ho1.out _ _ _ _ _ _ _ _).1
        · exact below7 (hbel.trans (hb1.mono hbel.size)) (Nat.le_refl _) _ _ _ _ _ _ _ _
      case measure => simp [intOf]; omega
    · have hge : n ≤ k := by omega
      clear hlt
      go_wp2
      go_ret
      refine ⟨_, rfl, ?_, hbel⟩
      rw [List.take_of_length_le (by rw [HL.out]; omega), List.drop_of_length_le (by have : n * 7 ≤ k * 7 := Nat.mul_le_mul_right _ hge; rw [Array.length_toList, HZ.out]; omega), List.append_nil] at hown
      exact slk_of_row encIt_len HL.out hown
set_option maxHeartbeats 800000 in
theorem eqItem_any (x : It) (w : World) : Calls Tryd.prog 86 #[.agg #[.int .i64 x.id, .int .i64 x.w, .int .i64 x.h, .int .i64 x.d, .int .i64 x.gram, .int .i64 x.cls, .int .i64 x.cnt], .agg #[.int .i64 x.id, .int .i64 x.w, .int .i64 x.h, .int .i64 x.d, .int .i64 x.gram, .int .i64 x.cls, .int .i64 x.cnt]] w fun e w' => e = .returned (.bool true) ∧ Below w.heap.size w w' := by
  go_enter Tryd.func86, Tryd.ntmps86
  go_wp2
  go_ret
  exact ⟨rfl, ((Below.refl _ _).alloc (Nat.le_refl _) _).alloc (by simp) _⟩
set_option maxHeartbeats 800000 in
theorem eqItemS_any (lo hi lo' hi' : Nat) (A A' : Option Addr) (n c c' : Nat) (xs : List It) (w : World) (hs : SlK 7 encIt w lo hi A n c xs) (hB : hi ≤ w.heap.size) (hs' : SlK 7 encIt w lo' hi' A' n c' xs) (hB' : hi' ≤ w.heap.size) :
    Calls Tryd.prog 54 #[.slice A n c, .slice A' n c'] w fun e w' => e = .returned (.bool true) ∧ Below w.heap.size w w' := by
  have hm := hs.max
  have hc := hs.cap
  have hm' := hs'.max
  have hc' := hs'.cap
  go_enter Tryd.func54, Tryd.ntmps54
  go_wp2
  go_loopw [5] (fun i wr => ∃ k : Nat, k ≤ n ∧ i = .int .i64 k ∧ Below w.heap.size w wr) (fun i _ => n - (intOf i).toNat)
  case atStart => exact ⟨0, Nat.zero_le _, rfl, Below.refl _ _⟩
  case round =>
    obtain ⟨k, hk, rfl, hbel⟩ := hrel
    by_cases hlt : k < n
    · obtain ⟨b0, off, x, hx, rfl, _, hb0, c0, c1, c2, c3, c4, c5, c6, _⟩ := (hs.below hbel hB).it hlt
      obtain ⟨b0', off', x', hx', rfl, _, hb0', d0, d1, d2, d3, d4, d5, d6, _⟩ := (hs'.below hbel hB').it hlt
      obtain rfl : x = x' := by rw [hx] at hx'; exact Option.some.inj hx'
      clear hx hx'
      have HS := hide hs
      have HS' := hide hs'
      clear hs hs'
      have i0 : (0 : Int) ≤ (k : Int) := by omega
      have i1 : (k : Int) < (n : Int) := by omega
      have z0 : b0 < wr.heap.size := by have := hbel.size; omega
      have z1 : b0' < wr.heap.size := by have := hbel.size; omega
      go_wp2_with fail
      go_region_held3 (fun w' => w'.cell? ⟨b0, off + k * 7, none⟩ = some (.int .i64 x.id) ∧ w'.cell? ⟨b0, off + k * 7 + 1, none⟩ = some (.int .i64 x.w) ∧ w'.cell? ⟨b0, off + k * 7 + 2, none⟩ = some (.int .i64 x.h) ∧ w'.cell? ⟨b0, off + k * 7 + 3, none⟩ = some (.int .i64 x.d) ∧ w'.cell? ⟨b0, off + k * 7 + 4, none⟩ = some (.int .i64 x.gram) ∧ w'.cell? ⟨b0, off + k * 7 + 5, none⟩ = some (.int .i64 x.cls) ∧ w'.cell? ⟨b0, off + k * 7 + 6, none⟩ = some (.int .i64 x.cnt) ∧ w'.cell? ⟨b0', off' + k * 7, none⟩ = some (.int .i64 x.id) ∧ w'.cell? ⟨b0', off' + k * 7 + 1, none⟩ = some (.int .i64 x.w) ∧ w'.cell? ⟨b0', off' + k * 7 + 2, none⟩ = some (.int .i64 x.h) ∧ w'.cell? ⟨b0', off' + k * 7 + 3, none⟩ = some (.int .i64 x.d) ∧ w'.cell? ⟨b0', off' + k * 7 + 4, none⟩ = some (.int .i64 x.gram) ∧ w'.cell? ⟨b0', off' + k * 7 + 5, none⟩ = some (.int .i64 x.cls) ∧ w'.cell? ⟨b0', off' + k * 7 + 6, none⟩ = some (.int .i64 x.cnt)) (go_keep) ((go_at_call 86; refine (eqItem_any _ _).mono ?_; rintro e w1 ⟨rfl, hb1⟩; have hcc := bcellD hb1))
      go_wp2
      go_roundw
      case rel => exact ⟨k + 1, by omega, by go_num, hbel.drew.trans (hb1.mono hbel.size)⟩
      case measure => simp [intOf]; omega
    · have hge : n ≤ k := by omega
      clear hlt
      go_wp2
      go_ret
      exact ⟨rfl, hbel⟩
theorem szItemS_ok (A : Option Addr) (n c : Nat) (left : Int) (w : World) (h1 : (n : Int) ≤ left) (h2 : left ≤ 1048576) (hc : n ≤ c) (hm : c ≤ 9223372036854775807) :
    Calls Tryd.prog 40 #[.slice A n c, .int .i64 left] w fun e w' => e = .returned (.int .i64 (left - n)) ∧ w = w' := by
  have h3 : ¬ (left - n < 0) := by omega
  go_enter Tryd.func40, Tryd.ntmps40
  go_wp2
  go_ret
  exact ⟨rfl, rfl⟩
theorem szItemS_no (A : Option Addr) (n c : Nat) (left : Int) (w : World) (h1 : left < (n : Int)) (h0 : 0 ≤ left) (h2 : left ≤ 1048576) (hc : n ≤ c) (hm : c ≤ 9223372036854775807) :
    Calls Tryd.prog 40 #[.slice A n c, .int .i64 left] w fun e w' => e = .returned (.int .i64 (-1)) ∧ w = w' := by
  have h3 : (left - n < 0) := by omega
  go_enter Tryd.func40, Tryd.ntmps40
  go_wp2
  go_ret
  exact ⟨rfl, rfl⟩
theorem ty_info : (Tryd.prog.info? 84).map (fun i => (i.zero, i.size, i.bytes)) = some (some z7, 7, 56) := by kernel_rfl
set_option maxHeartbeats 2000000 in
theorem toTypeS_any (lo hi : Nat) (A : Option Addr) (n c : Nat) (xs : List Ty) (w : World) (hs : SlK 7 encTy w lo hi A n c xs) (hB : hi ≤ w.heap.size) (hn : n ≤ 1048576) :
    Calls Tryd.prog 46 #[.slice A n c] w fun e w' => ∃ A', e = .returned (.slice A' n n) ∧ SlK 7 encTy w' w.heap.size w'.heap.size A' n n xs ∧ Below w.heap.size w w' := by
  have hmk := fun W => mk_row Tryd.underlying38 ty_info (by omega) n hn W
  have hm := hs.max
  have hc := hs.cap
  have HZ := hide (zeros_size z7 (n * 7))
  have HL := hide hs.len
  generalize hZ : (zeros z7 (n * 7)) = Z at *
  clear hZ
  go_enter Tryd.func46, Tryd.ntmps46
  go_wp2
  clear hmk
  go_loopw [4] (fun i wr => ∃ k : Nat, k ≤ n ∧ i = .int .i64 k ∧ wr.ownsRow w.heap.size 84 7 (.slice (some ⟨w.heap.size, 0, none⟩) n n) n ((xs.take k).flatMap encTy ++ Z.toList.drop (k * 7)) ∧ Below w.heap.size w wr) (fun i _ => n - (intOf i).toNat)
  case atStart =>
    refine ⟨0, Nat.zero_le _, rfl, ?_, (Below.refl _ _).alloc (Nat.le_refl _) _⟩
    simpa using World.ownsRow_lit (base := w.heap.size) (size := 7) (e := 84) w Z n (Nat.le_refl _) (by simp [maxLen]; omega) HZ.out
  case round =>
    obtain ⟨k, hk, rfl, hown, hbel⟩ := hrel
    by_cases hlt : k < n
    · obtain ⟨b0, off, x, hx, rfl, _, hb0, c0, c1, c2, c3, c4, c5, c6, _⟩ := (hs.below hbel hB).ty hlt
      have HX := hide hx
      have HS := hide hs
      have HO := hide hown
      clear hx hown hs
      go_wp2_with (go_at_call 79; refine (toType_any _ _ _ _ _ _ _ _).mono ?_; rintro e w1 ⟨rfl, hb1⟩; have ho1 := hide (row_below HO.out hb1); obtain ⟨u0, d0⟩ := own_cell ho1.out (k * 7) (by omega); obtain ⟨u1, d1⟩ := own_cell ho1.out (k * 7 + 1) (by omega); obtain ⟨u2, d2⟩ := own_cell ho1.out (k * 7 + 2) (by omega); obtain ⟨u3, d3⟩ := own_cell ho1.out (k * 7 + 3) (by omega); obtain ⟨u4, d4⟩ := own_cell ho1.out (k * 7 + 4) (by omega); obtain ⟨u5, d5⟩ := own_cell ho1.out (k * 7 + 5) (by omega); obtain ⟨u6, d6⟩ := own_cell ho1.out (k * 7 + 6) (by omega); have fz := fun j => ho1.out.frozenAt j)
      go_roundw
      case rel =>
        refine ⟨k + 1, by omega, by go_num, ?_, ?_⟩
        · rw [← row_fill encTy_len xs _ x HL.out (by simpa using HZ.out) hlt HX.out]
          exact (stored7 ho1.out _ _ _ _ _ _ _ _).1
        · exact below7 (hbel.trans (hb1.mono hbel.size)) (Nat.le_refl _) _ _ _ _ _ _ _ _
      case measure => simp [intOf]; omega
    · have hge : n ≤ k := by omega
      clear hlt
      go_wp2
      go_ret
      refine ⟨_, rfl, ?_, hbel⟩
      rw [List.take_of_length_le (by rw [HL.out]; omega), List.drop_of_length_le (by have : n * 7 ≤ k * 7 := Nat.mul_le_mul_right _ hge; rw [Array.length_toList, HZ.out]; omega), List.append_nil] at hown
      exact slk_of_row encTy_len HL.out hown
set_option maxHeartbeats 800000 in
theorem eqType_any (x : Ty) (w : World) : Calls Tryd.prog 85 #[.agg #[.int .i64 x.id, .int .i64 x.w, .int .i64 x.h, .int .i64 x.d, .int .i64 x.tare, .int .i64 x.gram, .int .i64 x.cost], .agg #[.int .i64 x.id, .int .i64 x.w, .int .i64 x.h, .int .i64 x.d, .int .i64 x.tare, .int .i64 x.gram, .int .i64 x.cost]] w fun e w' => e = .returned (.bool true) ∧ Below w.heap.size w w' := by
  go_enter Tryd.func85, Tryd.ntmps85
  go_wp2
  go_ret
  exact ⟨rfl, ((Below.refl _ _).alloc (Nat.le_refl _) _).alloc (by simp) _⟩
set_option maxHeartbeats 800000 in
theorem eqTypeS_any (lo hi lo' hi' : Nat) (A A' : Option Addr) (n c c' : Nat) (xs : List Ty) (w : World) (hs : SlK 7 encTy w lo hi A n c xs) (hB : hi ≤ w.heap.size) (hs' : SlK 7 encTy w lo' hi' A' n c' xs) (hB' : hi' ≤ w.heap.size) :
    Calls Tryd.prog 53 #[.slice A n c, .slice A' n c'] w fun e w' => e = .returned (.bool true) ∧ Below w.heap.size w w' := by
  have hm := hs.max
  have hc := hs.cap
  have hm' := hs'.max
  have hc' := hs'.cap
  go_enter Tryd.func53, Tryd.ntmps53
  go_wp2
  go_loopw [5] (fun i wr => ∃ k : Nat, k ≤ n ∧ i = .int .i64 k ∧ Below w.heap.size w wr) (fun i _ => n - (intOf i).toNat)
  case atStart => exact ⟨0, Nat.zero_le _, rfl, Below.refl _ _⟩
  case round =>
    obtain ⟨k, hk, rfl, hbel⟩ := hrel
    by_cases hlt : k < n
    · obtain ⟨b0, off, x, hx, rfl, _, hb0, c0, c1, c2, c3, c4, c5, c6, _⟩ := (hs.below hbel hB).ty hlt
      obtain ⟨b0', off', x', hx', rfl, _, hb0', d0, d1, d2, d3, d4, d5, d6, _⟩ := (hs'.below hbel hB').ty hlt
      obtain rfl : x = x' := by rw [hx] at hx'; exact Option.some.inj hx'
      clear hx hx'
      have HS := hide hs
      have HS' := hide hs'
      clear hs hs'
      have i0 : (0 : Int) ≤ (k : Int) := by omega
      have i1 : (k : Int) < (n : Int) := by omega
      have z0 : b0 < wr.heap.size := by have := hbel.size; omega
      have z1 : b0' < wr.heap.size := by have := hbel.size; omega
      go_wp2_with fail
      go_region_held3 (fun w' => w'.cell? ⟨b0, off + k * 7, none⟩ = some (.int .i64 x.id) ∧ w'.cell? ⟨b0, off + k * 7 + 1, none⟩ = some (.int .i64 x.w) ∧ w'.cell? ⟨b0, off + k * 7 + 2, none⟩ = some (.int .i64 x.h) ∧ w'.cell? ⟨b0, off + k * 7 + 3, none⟩ = some (.int .i64 x.d) ∧ w'.cell? ⟨b0, off + k * 7 + 4, none⟩ = some (.int .i64 x.tare) ∧ w'.cell? ⟨b0, off + k * 7 + 5, none⟩ = some (.int .i64 x.gram) ∧ w'.cell? ⟨b0, off + k * 7 + 6, none⟩ = some (.int .i64 x.cost) ∧ w'.cell? ⟨b0', off' + k * 7, none⟩ = some (.int .i64 x.id) ∧ w'.cell? ⟨b0', off' + k * 7 + 1, none⟩ = some (.int .i64 x.w) ∧ w'.cell? ⟨b0', off' + k * 7 + 2, none⟩ = some (.int .i64 x.h) ∧ w'.cell? ⟨b0', off' + k * 7 + 3, none⟩ = some (.int .i64 x.d) ∧ w'.cell? ⟨b0', off' + k * 7 + 4, none⟩ = some (.int .i64 x.tare) ∧ w'.cell? ⟨b0', off' + k * 7 + 5, none⟩ = some (.int .i64 x.gram) ∧ w'.cell? ⟨b0', off' + k * 7 + 6, none⟩ = some (.int .i64 x.cost)) (go_keep) ((go_at_call 85; refine (eqType_any _ _).mono ?_; rintro e w1 ⟨rfl, hb1⟩; have hcc := bcellD hb1))
      go_wp2
      go_roundw
      case rel => exact ⟨k + 1, by omega, by go_num, hbel.drew.trans (hb1.mono hbel.size)⟩
      case measure => simp [intOf]; omega
    · have hge : n ≤ k := by omega
      clear hlt
      go_wp2
      go_ret
      exact ⟨rfl, hbel⟩
theorem szTypeS_ok (A : Option Addr) (n c : Nat) (left : Int) (w : World) (h1 : (n : Int) ≤ left) (h2 : left ≤ 1048576) (hc : n ≤ c) (hm : c ≤ 9223372036854775807) :
    Calls Tryd.prog 39 #[.slice A n c, .int .i64 left] w fun e w' => e = .returned (.int .i64 (left - n)) ∧ w = w' := by
  have h3 : ¬ (left - n < 0) := by omega
  go_enter Tryd.func39, Tryd.ntmps39
  go_wp2
  go_ret
  exact ⟨rfl, rfl⟩
theorem szTypeS_no (A : Option Addr) (n c : Nat) (left : Int) (w : World) (h1 : left < (n : Int)) (h0 : 0 ≤ left) (h2 : left ≤ 1048576) (hc : n ≤ c) (hm : c ≤ 9223372036854775807) :
    Calls Tryd.prog 39 #[.slice A n c, .int .i64 left] w fun e w' => e = .returned (.int .i64 (-1)) ∧ w = w' := by
  have h3 : (left - n < 0) := by omega
  go_enter Tryd.func39, Tryd.ntmps39
  go_wp2
  go_ret
  exact ⟨rfl, rfl⟩
end Go.Proofs.YtcjcmdikopipjaaDoor
