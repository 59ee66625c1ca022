/- The draws of texts of orders. -/
import Derived.Test.YtcjcmdikopipjaaDoorDot
import Derived.Test.YtcjcmdikopipjaaDoorDn
import Derived.Test.YtcjcmdikopipjaaDoorOtt
import Derived.Test.YtcjcmdikopipjaaDoorOtt2
import Derived.Lib.ConvBytes
import Derived.Lib.SmallJoins
namespace Go.Proofs.YtcjcmdikopipjaaDoor
open Go.ChangeShapes Go.WideShapes Go.ChangeAt Go.RowKit Go.Deep Go.Joins
set_option linter.unusedVariables false
set_option linter.unusedSimpArgs false

set_option maxHeartbeats 2000000 in
theorem l1BelowB_any (m : Int) (hm0 : 0 < m) (hm : m ≤ 10000000) (g : Nat) (A : Option Addr) (n c : Nat) (bs : List Int) (w : World) (hc : CurAt 128 w g A n c bs) :
    Calls Tryd.prog 87 #[.pointer (some ⟨g, 0, none⟩), .int .i64 m] w fun e w' => (∃ x : Int, e = .returned (.int .i64 x) ∧ 0 ≤ x ∧ x ≤ m - 1) ∧ CurAt 128 w' g A n c bs ∧ w.grownBy w' (some g) := by
  by_cases h256 : m ≤ 256
  · exact l1Below_any m hm0 h256 g A n c bs w hc
  · go_enter Tryd.func87, Tryd.ntmps87
    go_wp2_with fail
    refine (l1Byte_any g A n c bs _ hc).mono ?_
    rintro e w1 ⟨⟨x1, rfl, h1, h1'⟩, hc1, hg1⟩
    go_wp2_with fail
    refine (l1Byte_any g A n c bs _ hc1).mono ?_
    rintro e w2 ⟨⟨x2, rfl, h2, h2'⟩, hc2, hg2⟩
    go_wp2_with fail
    refine (l1Byte_any g A n c bs _ hc2).mono ?_
    rintro e w3 ⟨⟨x3, rfl, h3, h3'⟩, hc3, hg3⟩
    go_wp2_with fail
    refine (l1Byte_any g A n c bs _ hc3).mono ?_
    rintro e w4 ⟨⟨x4, rfl, h4, h4'⟩, hc4, hg4⟩
    have b1 : -9223372036854775808 ≤ x1 * 16777216 := by omega
    have b2 : x1 * 16777216 ≤ 9223372036854775807 := by omega
    have b3 : -9223372036854775808 ≤ x2 * 65536 := by omega
    have b4 : x2 * 65536 ≤ 9223372036854775807 := by omega
    go_wp2_with fail
    go_ret
    refine ⟨ret_ex ⟨?_, ?_⟩, hc4, grown_trans (grown_trans (grown_trans hg1 hg2) hg3) hg4⟩
    · exact Int.emod_nonneg _ (by omega)
    · have := Int.emod_lt_of_pos (x1 * 16777216 + x2 * 65536 + x3 * 256 + x4) hm0
      omega
/-- The bytes of a string lie in a block. -/
def BytesAt (w : World) (B : Nat) (s : ByteArray) : Prop := ∀ j, j < s.size → w.cell? ⟨B, j, none⟩ = some (.int .u8 ((s.data.toList.getD j 0).toNat : Int))
theorem BytesAt.grown {w w' : World} {B : Nat} {s : ByteArray} {r : Option Nat} (h : BytesAt w B s) (hB : B < w.heap.size) (hg : w.grownBy w' r) (hne : r ≠ some B) : BytesAt w' B s := fun j hj => by
  have e := hg.block B hB (fun e => hne e.symm)
  rw [World.cell?_of_block (a := ⟨B, j, none⟩) e]
  exact h j hj
theorem size_tl (s : ByteArray) : s.data.toList.length = s.size := Array.length_toList
/-- A part of the bytes is made a string. -/
theorem conv_part {w : World} {B : Nat} {s : ByteArray} (h : BytesAt w B s) (o len cap : Nat) (hl : o + len ≤ s.size) :
    (convert 45 9 (.slice (some ⟨B, o, none⟩) len cap)).run Tryd.prog w = .ok (.string ⟨((s.data.toList.drop o).take len).toArray⟩) w := by
  have hlen : ((s.data.toList.drop o).take len).length = len := by rw [List.length_take, List.length_drop, size_tl]; omega
  have h2 := run_convert_bytes_back w 45 9 5 ⟨B, o, none⟩ cap ((s.data.toList.drop o).take len) Tryd.underlying45 Tryd.underlying5 Tryd.underlying9 (fun j hj => by
    have hj' : j < len := by omega
    have hp : (⟨B, o, none⟩ : Addr).add j = ⟨B, o + j, none⟩ := by rw [Addr.add_mid]
    rw [hp, h (o + j) (by omega), List.getElem_take, List.getElem_drop, List.getD_eq_getElem?_getD, List.getElem?_eq_getElem (by rw [size_tl]; omega)]
    rfl)
  rw [hlen] at h2
  exact h2
theorem conv_partI {w : World} {B : Nat} {s : ByteArray} (h : BytesAt w B s) (o len cap CP : Nat) (hl : o + len ≤ s.size) (hcp : s.size ≤ CP) :
    (convert 45 9 (.slice (if CP = o then some ⟨B, 0, none⟩ else some ⟨B, o, none⟩) len cap)).run Tryd.prog w = .ok (.string ⟨((s.data.toList.drop o).take len).toArray⟩) w := by
  by_cases hc : CP = o
  · rw [if_pos hc]
    obtain rfl : len = 0 := by omega
    have := conv_part h 0 0 cap (by omega)
    simpa using this
  · rw [if_neg hc]
    exact conv_part h o len cap hl
theorem part_size (s : ByteArray) (o len : Nat) : (ByteArray.mk ((s.data.toList.drop o).take len).toArray).size ≤ s.size := by
  show ((s.data.toList.drop o).take len).toArray.size ≤ _
  rw [List.size_toArray, List.length_take, List.length_drop, size_tl]
  omega
def txtsA : List ByteArray := [(ByteArray.mk #[120]), (ByteArray.mk #[32]), (ByteArray.mk #[48]), (ByteArray.mk #[10]), (ByteArray.mk #[105, 116, 101, 109, 32, 49, 32, 49, 32, 49, 32, 49, 32, 49, 32, 48, 32, 49, 10]), (ByteArray.mk #[57, 57, 57, 57, 57, 57, 57])]
def txtsB : List ByteArray := [(ByteArray.mk #[]), (ByteArray.mk #[119, 97, 121, 32, 102, 105, 114, 115, 116, 10]), (ByteArray.mk #[119, 97, 121, 10]), (ByteArray.mk #[119, 97, 121, 32, 110, 101, 120, 116, 10, 112, 97, 108, 108, 101, 116, 32, 49, 32, 49, 32, 49, 32, 49, 10, 99, 108, 97, 115, 115, 101, 115, 32, 49, 10, 109, 97, 115, 116, 101, 114, 32, 49, 10]), (ByteArray.mk #[119, 97, 121, 32, 110, 101, 120, 116, 10, 112, 97, 108, 108, 101, 116, 32, 49, 32, 49, 32, 49, 32, 48, 49, 10]), (ByteArray.mk #[119, 97, 121, 32, 102, 105, 114, 115, 116, 10, 112, 97, 108, 108, 101, 116, 32, 49, 32, 49, 32, 49, 32, 49, 10, 99, 108, 97, 115, 115, 101, 115, 32, 49, 10, 109, 97, 115, 116, 101, 114, 32, 49])]
theorem txtsA_size : ∀ x ∈ txtsA, x.size ≤ 100 := by
  intro x hx
  unfold txtsA at hx
  simp only [List.mem_cons, List.not_mem_nil, or_false] at hx
  rcases hx with rfl | rfl | rfl | rfl | rfl | rfl <;> decide
theorem txtsB_size : ∀ x ∈ txtsB, x.size ≤ 100 := by
  intro x hx
  unfold txtsB at hx
  simp only [List.mem_cons, List.not_mem_nil, or_false] at hx
  rcases hx with rfl | rfl | rfl | rfl | rfl | rfl <;> decide
set_option maxRecDepth 20000 in
set_option maxHeartbeats 4000000 in
theorem l4Text_any (g : Nat) (A : Option Addr) (n c : Nat) (bs : List Int) (w : World) (hc : CurAt 128 w g A n c bs) :
    Calls Tryd.prog 73 #[.pointer (some ⟨g, 0, none⟩)] w fun e w' => (∃ s : ByteArray, e = .returned (.string s) ∧ s.size ≤ 20000) ∧ CurAt 128 w' g A n c bs ∧ w.grownBy w' (some g) := by
  have hgl := hc.lt
  go_enter Tryd.func73, Tryd.ntmps73
  go_wp2_with fail
  refine (l2Draw_any g A n c bs _ hc).mono ?_
  rintro e w1 ⟨⟨r, A1, n1, c1, A2, n2, c2, A3, n3, c3, rfl, hr, hn1, hn2, hn3⟩, hc1, hg1⟩
  have z1 := hg1.size
  have hsz := otS_size r
  rw [hr.pr.len, hr.ty.len, hr.it.len] at hsz
  have HOS := hide (sorderText_any r A1 A2 A3 n1 n2 n3 c1 c2 c3 w.heap.size w1.heap.size w1 hr (Nat.le_refl _) (by omega))
  obtain ⟨S, hS⟩ : ∃ S, otS r = S := ⟨_, rfl⟩
  rw [hS] at HOS hsz
  clear hS hr
  go_wp2_with fail
  refine HOS.out.mono ?_
  rintro e w2 ⟨rfl, hb2⟩
  have z2 := hb2.size
  have HC2 := hide (hc1.below hb2)
  have HG2 := hide (grown_trans hg1 (grown_below (some g) hb2))
  have hcv := Lib.run_convert_string_bytes w2 9 45 5 S Tryd.underlying9 Tryd.underlying45 Tryd.underlying5
  have HBW := hide (below_bytesWorld w2.heap.size w2 5 S (Nat.le_refl _))
  have hB3 : BytesAt (Lib.bytesWorld w2 5 S) w2.heap.size S := fun j hj => Lib.bytesWorld_cell w2 5 S j hj
  have z3 := Lib.bytesWorld_size w2 5 S
  obtain ⟨CP, hCP⟩ : ∃ CP, grownCap w2 S.size 0 5 = CP := ⟨_, rfl⟩
  have hcp1 : S.size ≤ CP := by rw [← hCP]; exact grownCap_ge _ _ _ _
  have hcp2 : CP ≤ 9223372036854775807 := by rw [← hCP]; have := grownCap_le_maxLen w2 S.size 0 5 (by unfold maxLen; omega); unfold maxLen at this; omega
  obtain ⟨w3, hw3⟩ : ∃ w3, Lib.bytesWorld w2 5 S = w3 := ⟨_, rfl⟩
  rw [hCP, hw3] at hcv
  rw [hw3] at HBW hB3 z3
  have hc3 := HC2.out.below HBW.out
  have HG3 := hide (grown_trans HG2.out (grown_below (some g) HBW.out))
  clear hCP hw3 hc1 hg1 hb2
  have hgB : g < w2.heap.size := by omega
  go_wp2_with fail
  refine (l1BelowB_any ((S.size : Int) + 1) (by omega) (by omega) g A n c bs _ hc3).mono ?_
  rintro e w4 ⟨⟨x, rfl, hx0, hx1⟩, hc4, hg4⟩
  obtain ⟨k, rfl⟩ := Int.eq_ofNat_of_zero_le hx0
  have hkS : k ≤ S.size := by omega
  have hB4 := hB3.grown (by omega) hg4 (fun e => by have := Option.some.inj e; omega)
  have z4 := hg4.size
  have HG4 := hide (grown_trans HG3.out hg4)
  clear hcv hB3 hc3 hg4
  go_wp2_with fail
  refine (l1Below_any 10 (by omega) (by omega) g A n c bs _ hc4).mono ?_
  rintro e w5 ⟨⟨d, rfl, hd0, hd1⟩, hc5, hg5⟩
  have hB5 := hB4.grown (by omega) hg5 (fun e => by have := Option.some.inj e; omega)
  have z5 := hg5.size
  have HG5 := hide (grown_trans HG4.out hg5)
  have HC5 := hide hc5
  have HB5 := hide hB5
  have i0 : (0 : Int) ≤ (k : Int) := by omega
  have i1 : (k : Int) ≤ (S.size : Int) := by omega
  have i2 : (k : Int) ≤ (CP : Int) := by omega
  have i3 : (S.size : Int) ≤ (CP : Int) := by omega
  clear hc4 hg5 hB4 hB5 hc5
  have hdd : d = 0 ∨ d = 1 ∨ d = 2 ∨ d = 3 ∨ 4 ≤ d := by omega
  rcases hdd with rfl | rfl | rfl | rfl | h4
  · have hcA := conv_part HB5.out 0 k CP (by omega)
    go_wp2_with fail
    go_ret
    exact ⟨⟨_, rfl, Nat.le_trans (part_size S 0 k) (by omega)⟩, HC5.out, HG5.out⟩
  · have hsA := hide (part_size S 0 k)
    have hsB := hide (part_size S k (S.size - k))
    go_wp2_with fail
    by_cases hCk : CP = k
    · obtain rfl : k = CP := hCk.symm
      have i7 : (k : Int) ≤ (k : Int) + 1 := by omega
      refine wp_region_held_drew (S := (fun w' => BytesAt w' w2.heap.size S)) (by kernel_rfl) ?hS0 (fun hHeld => ?_)
      case hS0 => (exact HB5.out)
      refine wpAnyH_take (i := 0) (v := ?_) rfl (by kernel_rfl) (by kernel_rfl) (by kernel_rfl) (fun _ _ _ h => h) (Or.inl ⟨by rfl, ?_⟩) (by assumption) ?_
      rotate_left 1
      · intro w hSw
        try dsimp only at hSw
        go_simp
        try with_reducible rfl
      simp only [Act.put, List.getElem_toArray, List.getElem_cons_succ, List.getElem_cons_zero, List.setIfInBounds_toArray, List.set_cons_zero, List.set_cons_succ]
      refine wpAnyH_take (i := 1) (v := ?_) rfl (by kernel_rfl) (by kernel_rfl) (by kernel_rfl) (fun _ _ _ h => h) (Or.inl ⟨by rfl, ?_⟩) (by assumption) ?_
      rotate_left 1
      · intro w hSw
        try dsimp only at hSw
        go_simp
        try with_reducible rfl
      simp only [Act.put, List.getElem_toArray, List.getElem_cons_succ, List.getElem_cons_zero, List.setIfInBounds_toArray, List.set_cons_zero, List.set_cons_succ]
      refine wpAnyH_take (i := 2) (v := ?_) rfl (by kernel_rfl) (by kernel_rfl) (by kernel_rfl) (fun _ _ _ h => h) (Or.inl ⟨by rfl, ?_⟩) (by assumption) ?_
      rotate_left 1
      · intro w hSw
        try dsimp only at hSw
        go_simp
        try with_reducible rfl
      simp only [Act.put, List.getElem_toArray, List.getElem_cons_succ, List.getElem_cons_zero, List.setIfInBounds_toArray, List.set_cons_zero, List.set_cons_succ]
      refine wpAnyH_take (i := 3) (v := .string ⟨((S.data.toList.drop 0).take k).toArray⟩) rfl (by kernel_rfl) (by kernel_rfl) (by kernel_rfl) (fun _ _ _ h => h) (Or.inl ⟨by rfl, ?_⟩) (by assumption) ?_
      · intro w hSw
        have hcv1 := conv_part (show BytesAt w w2.heap.size S from hSw) 0 (k) k (by omega)
        try first | rw [if_neg hCk] at hcv1 | rw [if_pos rfl] at hcv1
        have hcv2 : (convert 45 9 (.slice (some ⟨w2.heap.size, 0, none⟩) 0 0)).run Tryd.prog w = .ok (.string ⟨#[]⟩) w := by simpa using conv_part (show BytesAt w w2.heap.size S from hSw) 0 0 0 (by omega)
        try dsimp only at hSw
        go_simp
        try with_reducible rfl
      simp only [Act.put, List.getElem_toArray, List.getElem_cons_succ, List.getElem_cons_zero, List.setIfInBounds_toArray, List.set_cons_zero, List.set_cons_succ]
      obtain ⟨TA, hTA⟩ : ∃ TA : ByteArray, ⟨((S.data.toList.drop 0).take k).toArray⟩ = TA := ⟨_, rfl⟩
      rw [hTA] at hsA ⊢
      clear hTA
      refine wpAnyH_take (i := 4) (v := ?_) rfl (by kernel_rfl) (by kernel_rfl) (by kernel_rfl) (fun _ _ _ h => h) (Or.inl ⟨by rfl, ?_⟩) (by assumption) ?_
      rotate_left 1
      · intro w hSw
        try dsimp only at hSw
        go_simp
        try with_reducible rfl
      simp only [Act.put, List.getElem_toArray, List.getElem_cons_succ, List.getElem_cons_zero, List.setIfInBounds_toArray, List.set_cons_zero, List.set_cons_succ]
      refine wpAnyH_take (i := 8) (v := ?_) rfl (by kernel_rfl) (by kernel_rfl) (by kernel_rfl) (fun _ _ _ h => h) (Or.inl ⟨by rfl, ?_⟩) (by assumption) ?_
      rotate_left 1
      · intro w hSw
        try dsimp only at hSw
        go_simp
        try with_reducible rfl
      simp only [Act.put, List.getElem_toArray, List.getElem_cons_succ, List.getElem_cons_zero, List.setIfInBounds_toArray, List.set_cons_zero, List.set_cons_succ]
      refine wpAnyH_take (i := 9) (v := ?_) rfl (by kernel_rfl) (by kernel_rfl) (by kernel_rfl) (fun _ _ _ h => h) (Or.inl ⟨by rfl, ?_⟩) (by assumption) ?_
      rotate_left 1
      · intro w hSw
        try dsimp only at hSw
        go_simp
        try with_reducible rfl
      simp only [Act.put, List.getElem_toArray, List.getElem_cons_succ, List.getElem_cons_zero, List.setIfInBounds_toArray, List.set_cons_zero, List.set_cons_succ]
      refine wpAnyH_take (i := 10) (v := ?_) rfl (by kernel_rfl) (by kernel_rfl) (by kernel_rfl) (fun _ _ _ h => h) (Or.inl ⟨by rfl, ?_⟩) (by assumption) ?_
      rotate_left 1
      · intro w hSw
        try dsimp only at hSw
        go_simp
        try with_reducible rfl
      simp only [Act.put, List.getElem_toArray, List.getElem_cons_succ, List.getElem_cons_zero, List.setIfInBounds_toArray, List.set_cons_zero, List.set_cons_succ]
      refine wpAnyH_take (i := 11) (v := .string ⟨((S.data.toList.drop k).take (S.size - k)).toArray⟩) rfl (by kernel_rfl) (by kernel_rfl) (by kernel_rfl) (fun _ _ _ h => h) (Or.inl ⟨by rfl, ?_⟩) (by assumption) ?_
      · intro w hSw
        have hcv1 := conv_partI (show BytesAt w w2.heap.size S from hSw) (k) (S.size - k) (k - (k)) k (by omega) hcp1
        try first | rw [if_neg hCk] at hcv1 | rw [if_pos rfl] at hcv1
        have hcv2 : (convert 45 9 (.slice (some ⟨w2.heap.size, 0, none⟩) 0 0)).run Tryd.prog w = .ok (.string ⟨#[]⟩) w := by simpa using conv_part (show BytesAt w w2.heap.size S from hSw) 0 0 0 (by omega)
        try dsimp only at hSw
        go_simp
        try with_reducible rfl
      simp only [Act.put, List.getElem_toArray, List.getElem_cons_succ, List.getElem_cons_zero, List.setIfInBounds_toArray, List.set_cons_zero, List.set_cons_succ]
      obtain ⟨TB, hTB⟩ : ∃ TB : ByteArray, ⟨((S.data.toList.drop k).take (S.size - k)).toArray⟩ = TB := ⟨_, rfl⟩
      rw [hTB] at hsB ⊢
      clear hTB
      refine wpAnyH_ready (rs := [5]) (by kernel_rfl) (by simp) ?_
      refine AllReadyH.cons rfl (fun K hK => ?_) AllReadyH.nil
      go_simp
      refine hK.out _ _ ?hS1 (fun hHeld => ?_)
      case hS1 => (try dsimp only); (exact (show BytesAt w5 w2.heap.size S from HB5.out).grown (by omega) (grown_trans (grown_alloc w5 (some g) _) (grown_drew _ (some g))) (fun e => by have e2 : g = w2.heap.size := Option.some.inj e; omega))
      clear hK K
      try simp only [Act.put, List.getElem_toArray, List.getElem_cons_succ, List.getElem_cons_zero, List.setIfInBounds_toArray, List.set_cons_zero, List.set_cons_succ]
      refine wpAnyH_ready (rs := [6]) (by kernel_rfl) (by simp) ?_
      refine AllReadyH.cons rfl (fun K hK => ?_) AllReadyH.nil
      go_simp
      refine (l1Pick_any (some ⟨w5.heap.size, 0, none⟩) 6 6 txtsA w5.heap.size (w5.heap.size + 1) (by omega) (by omega) g A n c bs _ (slk_new encStr_len w5.drew txtsA 6 _ 9 rfl (by simp [maxLen]) rfl) (by simp) (.inl (by omega)) (HC5.out.drew.alloc _)).mono ?_
      rintro e w6 ⟨⟨y, rfl, hy⟩, hc6, hg6⟩
      have hys := txtsA_size y hy
      have HC6 := hide hc6
      have HG6 := hide (grown_trans (grown_trans (grown_trans HG5.out (grown_drew w5 (some g))) (grown_alloc w5.drew (some g) _)) hg6)
      have hB6 : BytesAt w6 w2.heap.size S := (((show BytesAt w5 w2.heap.size S from HB5.out).grown (by omega) (grown_drew w5 (some g)) (fun e => by have := Option.some.inj e; omega)).grown (by simp; omega) (grown_alloc w5.drew (some g) _) (fun e => by have := Option.some.inj e; omega)).grown (by simp; omega) hg6 (fun e => by have := Option.some.inj e; omega)
      have hsy1 : ¬ (9223372036854775807 < TA.size + y.size) := by have := hsA.out; omega
      have hsy2 : (TA ++ y).size ≤ 20000 := by have := hsA.out; rw [ByteArray.size_append]; omega
      have hsy3 : ¬ (9223372036854775807 < (TA ++ y).size + TB.size) := by have := hsB.out; omega
      have hsy4 : ¬ (9223372036854775807 < TA.size + y.size + TB.size) := by have := hsB.out; have := hsA.out; omega
      clear hy hc6 hg6
      go_wp2_with fail
      refine hK.out _ _ ?hS1 (fun hHeld => ?_)
      case hS1 => (try dsimp only); (exact hB6)
      clear hK K
      try simp only [Act.put, List.getElem_toArray, List.getElem_cons_succ, List.getElem_cons_zero, List.setIfInBounds_toArray, List.set_cons_zero, List.set_cons_succ]
      refine wpAnyH_take (i := 7) (v := ?_) rfl (by kernel_rfl) (by kernel_rfl) (by kernel_rfl) (fun _ _ _ h => h) (Or.inl ⟨by rfl, ?_⟩) (by assumption) ?_
      rotate_left 1
      · intro w hSw
        try dsimp only at hSw
        go_simp
        try with_reducible rfl
      simp only [Act.put, List.getElem_toArray, List.getElem_cons_succ, List.getElem_cons_zero, List.setIfInBounds_toArray, List.set_cons_zero, List.set_cons_succ]
      refine wpAnyH_take (i := 12) (v := ?_) rfl (by kernel_rfl) (by kernel_rfl) (by kernel_rfl) (fun _ _ _ h => h) (Or.inl ⟨by rfl, ?_⟩) (by assumption) ?_
      rotate_left 1
      · intro w hSw
        try dsimp only at hSw
        go_simp
        try with_reducible rfl
      simp only [Act.put, List.getElem_toArray, List.getElem_cons_succ, List.getElem_cons_zero, List.setIfInBounds_toArray, List.set_cons_zero, List.set_cons_succ]
      refine wpAnyH_ready (rs := [13]) (by kernel_rfl) (by simp) ?_
      refine AllReadyH.cons rfl (fun K hK => ?_) AllReadyH.nil
      go_simp
      refine hK.out _ _ ?hS1 (fun hHeld => ?_)
      case hS1 => (try dsimp only); (exact hB6)
      clear hK K
      try simp only [Act.put, List.getElem_toArray, List.getElem_cons_succ, List.getElem_cons_zero, List.setIfInBounds_toArray, List.set_cons_zero, List.set_cons_succ]
      refine wpAnyH_done (by kernel_rfl) ?_ _
      go_wp2_with fail
      go_ret
      exact ⟨⟨_, rfl, by have := hsA.out; have := hsB.out; rw [ByteArray.size_append, ByteArray.size_append]; omega⟩, HC6.out, HG6.out⟩
    · skip
      refine wp_region_held_drew (S := (fun w' => BytesAt w' w2.heap.size S)) (by kernel_rfl) ?hS0 (fun hHeld => ?_)
      case hS0 => (exact HB5.out)
      refine wpAnyH_take (i := 0) (v := ?_) rfl (by kernel_rfl) (by kernel_rfl) (by kernel_rfl) (fun _ _ _ h => h) (Or.inl ⟨by rfl, ?_⟩) (by assumption) ?_
      rotate_left 1
      · intro w hSw
        try dsimp only at hSw
        go_simp
        try with_reducible rfl
      simp only [Act.put, List.getElem_toArray, List.getElem_cons_succ, List.getElem_cons_zero, List.setIfInBounds_toArray, List.set_cons_zero, List.set_cons_succ]
      refine wpAnyH_take (i := 1) (v := ?_) rfl (by kernel_rfl) (by kernel_rfl) (by kernel_rfl) (fun _ _ _ h => h) (Or.inl ⟨by rfl, ?_⟩) (by assumption) ?_
      rotate_left 1
      · intro w hSw
        try dsimp only at hSw
        go_simp
        try with_reducible rfl
      simp only [Act.put, List.getElem_toArray, List.getElem_cons_succ, List.getElem_cons_zero, List.setIfInBounds_toArray, List.set_cons_zero, List.set_cons_succ]
      refine wpAnyH_take (i := 2) (v := ?_) rfl (by kernel_rfl) (by kernel_rfl) (by kernel_rfl) (fun _ _ _ h => h) (Or.inl ⟨by rfl, ?_⟩) (by assumption) ?_
      rotate_left 1
      · intro w hSw
        try dsimp only at hSw
        go_simp
        try with_reducible rfl
      simp only [Act.put, List.getElem_toArray, List.getElem_cons_succ, List.getElem_cons_zero, List.setIfInBounds_toArray, List.set_cons_zero, List.set_cons_succ]
      refine wpAnyH_take (i := 3) (v := .string ⟨((S.data.toList.drop 0).take k).toArray⟩) rfl (by kernel_rfl) (by kernel_rfl) (by kernel_rfl) (fun _ _ _ h => h) (Or.inl ⟨by rfl, ?_⟩) (by assumption) ?_
      · intro w hSw
        have hcv1 := conv_part (show BytesAt w w2.heap.size S from hSw) 0 (k) CP (by omega)
        try first | rw [if_neg hCk] at hcv1 | rw [if_pos rfl] at hcv1
        try dsimp only at hSw
        go_simp
        try with_reducible rfl
      simp only [Act.put, List.getElem_toArray, List.getElem_cons_succ, List.getElem_cons_zero, List.setIfInBounds_toArray, List.set_cons_zero, List.set_cons_succ]
      obtain ⟨TA, hTA⟩ : ∃ TA : ByteArray, ⟨((S.data.toList.drop 0).take k).toArray⟩ = TA := ⟨_, rfl⟩
      rw [hTA] at hsA ⊢
      clear hTA
      refine wpAnyH_take (i := 4) (v := ?_) rfl (by kernel_rfl) (by kernel_rfl) (by kernel_rfl) (fun _ _ _ h => h) (Or.inl ⟨by rfl, ?_⟩) (by assumption) ?_
      rotate_left 1
      · intro w hSw
        try dsimp only at hSw
        go_simp
        try with_reducible rfl
      simp only [Act.put, List.getElem_toArray, List.getElem_cons_succ, List.getElem_cons_zero, List.setIfInBounds_toArray, List.set_cons_zero, List.set_cons_succ]
      refine wpAnyH_take (i := 8) (v := ?_) rfl (by kernel_rfl) (by kernel_rfl) (by kernel_rfl) (fun _ _ _ h => h) (Or.inl ⟨by rfl, ?_⟩) (by assumption) ?_
      rotate_left 1
      · intro w hSw
        try dsimp only at hSw
        go_simp
        try with_reducible rfl
      simp only [Act.put, List.getElem_toArray, List.getElem_cons_succ, List.getElem_cons_zero, List.setIfInBounds_toArray, List.set_cons_zero, List.set_cons_succ]
      refine wpAnyH_take (i := 9) (v := ?_) rfl (by kernel_rfl) (by kernel_rfl) (by kernel_rfl) (fun _ _ _ h => h) (Or.inl ⟨by rfl, ?_⟩) (by assumption) ?_
      rotate_left 1
      · intro w hSw
        try dsimp only at hSw
        go_simp
        try with_reducible rfl
      simp only [Act.put, List.getElem_toArray, List.getElem_cons_succ, List.getElem_cons_zero, List.setIfInBounds_toArray, List.set_cons_zero, List.set_cons_succ]
      refine wpAnyH_take (i := 10) (v := ?_) rfl (by kernel_rfl) (by kernel_rfl) (by kernel_rfl) (fun _ _ _ h => h) (Or.inl ⟨by rfl, ?_⟩) (by assumption) ?_
      rotate_left 1
      · intro w hSw
        try dsimp only at hSw
        go_simp
        try with_reducible rfl
      simp only [Act.put, List.getElem_toArray, List.getElem_cons_succ, List.getElem_cons_zero, List.setIfInBounds_toArray, List.set_cons_zero, List.set_cons_succ]
      refine wpAnyH_take (i := 11) (v := .string ⟨((S.data.toList.drop k).take (S.size - k)).toArray⟩) rfl (by kernel_rfl) (by kernel_rfl) (by kernel_rfl) (fun _ _ _ h => h) (Or.inl ⟨by rfl, ?_⟩) (by assumption) ?_
      · intro w hSw
        have hcv1 := conv_partI (show BytesAt w w2.heap.size S from hSw) (k) (S.size - k) (CP - (k)) CP (by omega) hcp1
        try first | rw [if_neg hCk] at hcv1 | rw [if_pos rfl] at hcv1
        try dsimp only at hSw
        go_simp
        try with_reducible rfl
      simp only [Act.put, List.getElem_toArray, List.getElem_cons_succ, List.getElem_cons_zero, List.setIfInBounds_toArray, List.set_cons_zero, List.set_cons_succ]
      obtain ⟨TB, hTB⟩ : ∃ TB : ByteArray, ⟨((S.data.toList.drop k).take (S.size - k)).toArray⟩ = TB := ⟨_, rfl⟩
      rw [hTB] at hsB ⊢
      clear hTB
      refine wpAnyH_ready (rs := [5]) (by kernel_rfl) (by simp) ?_
      refine AllReadyH.cons rfl (fun K hK => ?_) AllReadyH.nil
      go_simp
      refine hK.out _ _ ?hS1 (fun hHeld => ?_)
      case hS1 => (try dsimp only); (exact (show BytesAt w5 w2.heap.size S from HB5.out).grown (by omega) (grown_trans (grown_alloc w5 (some g) _) (grown_drew _ (some g))) (fun e => by have e2 : g = w2.heap.size := Option.some.inj e; omega))
      clear hK K
      try simp only [Act.put, List.getElem_toArray, List.getElem_cons_succ, List.getElem_cons_zero, List.setIfInBounds_toArray, List.set_cons_zero, List.set_cons_succ]
      refine wpAnyH_ready (rs := [6]) (by kernel_rfl) (by simp) ?_
      refine AllReadyH.cons rfl (fun K hK => ?_) AllReadyH.nil
      go_simp
      refine (l1Pick_any (some ⟨w5.heap.size, 0, none⟩) 6 6 txtsA w5.heap.size (w5.heap.size + 1) (by omega) (by omega) g A n c bs _ (slk_new encStr_len w5.drew txtsA 6 _ 9 rfl (by simp [maxLen]) rfl) (by simp) (.inl (by omega)) (HC5.out.drew.alloc _)).mono ?_
      rintro e w6 ⟨⟨y, rfl, hy⟩, hc6, hg6⟩
      have hys := txtsA_size y hy
      have HC6 := hide hc6
      have HG6 := hide (grown_trans (grown_trans (grown_trans HG5.out (grown_drew w5 (some g))) (grown_alloc w5.drew (some g) _)) hg6)
      have hB6 : BytesAt w6 w2.heap.size S := (((show BytesAt w5 w2.heap.size S from HB5.out).grown (by omega) (grown_drew w5 (some g)) (fun e => by have := Option.some.inj e; omega)).grown (by simp; omega) (grown_alloc w5.drew (some g) _) (fun e => by have := Option.some.inj e; omega)).grown (by simp; omega) hg6 (fun e => by have := Option.some.inj e; omega)
      have hsy1 : ¬ (9223372036854775807 < TA.size + y.size) := by have := hsA.out; omega
      have hsy2 : (TA ++ y).size ≤ 20000 := by have := hsA.out; rw [ByteArray.size_append]; omega
      have hsy3 : ¬ (9223372036854775807 < (TA ++ y).size + TB.size) := by have := hsB.out; omega
      have hsy4 : ¬ (9223372036854775807 < TA.size + y.size + TB.size) := by have := hsB.out; have := hsA.out; omega
      clear hy hc6 hg6
      go_wp2_with fail
      refine hK.out _ _ ?hS1 (fun hHeld => ?_)
      case hS1 => (try dsimp only); (exact hB6)
      clear hK K
      try simp only [Act.put, List.getElem_toArray, List.getElem_cons_succ, List.getElem_cons_zero, List.setIfInBounds_toArray, List.set_cons_zero, List.set_cons_succ]
      refine wpAnyH_take (i := 7) (v := ?_) rfl (by kernel_rfl) (by kernel_rfl) (by kernel_rfl) (fun _ _ _ h => h) (Or.inl ⟨by rfl, ?_⟩) (by assumption) ?_
      rotate_left 1
      · intro w hSw
        try dsimp only at hSw
        go_simp
        try with_reducible rfl
      simp only [Act.put, List.getElem_toArray, List.getElem_cons_succ, List.getElem_cons_zero, List.setIfInBounds_toArray, List.set_cons_zero, List.set_cons_succ]
      refine wpAnyH_take (i := 12) (v := ?_) rfl (by kernel_rfl) (by kernel_rfl) (by kernel_rfl) (fun _ _ _ h => h) (Or.inl ⟨by rfl, ?_⟩) (by assumption) ?_
      rotate_left 1
      · intro w hSw
        try dsimp only at hSw
        go_simp
        try with_reducible rfl
      simp only [Act.put, List.getElem_toArray, List.getElem_cons_succ, List.getElem_cons_zero, List.setIfInBounds_toArray, List.set_cons_zero, List.set_cons_succ]
      refine wpAnyH_ready (rs := [13]) (by kernel_rfl) (by simp) ?_
      refine AllReadyH.cons rfl (fun K hK => ?_) AllReadyH.nil
      go_simp
      refine hK.out _ _ ?hS1 (fun hHeld => ?_)
      case hS1 => (try dsimp only); (exact hB6)
      clear hK K
      try simp only [Act.put, List.getElem_toArray, List.getElem_cons_succ, List.getElem_cons_zero, List.setIfInBounds_toArray, List.set_cons_zero, List.set_cons_succ]
      refine wpAnyH_done (by kernel_rfl) ?_ _
      go_wp2_with fail
      go_ret
      exact ⟨⟨_, rfl, by have := hsA.out; have := hsB.out; rw [ByteArray.size_append, ByteArray.size_append]; omega⟩, HC6.out, HG6.out⟩
  · by_cases hlt : k < S.size
    · have i4 : (k : Int) + 1 ≤ (S.size : Int) := by omega
      have i5 : (k : Int) < (S.size : Int) := by omega
      have i6 : (0 : Int) ≤ (k : Int) + 1 := by omega
      have hwk : IntKind.i64.wrap ((k : Int) + 1) = (k : Int) + 1 := by rw [IntKind.wrap_i64] <;> omega
      have hsA := hide (part_size S 0 k)
      have hsC := hide (part_size S (k + 1) (S.size - (k + 1)))
      go_wp2_with fail
      by_cases hCk : CP = k + 1
      · subst hCk
        have i7 : (k : Int) ≤ (k : Int) + 1 := by omega
        refine wp_region_held_drew (S := (fun w' => BytesAt w' w2.heap.size S)) (by kernel_rfl) ?hS0 (fun hHeld => ?_)
        case hS0 => (exact HB5.out)
        refine wpAnyH_take (i := 0) (v := ?_) rfl (by kernel_rfl) (by kernel_rfl) (by kernel_rfl) (fun _ _ _ h => h) (Or.inl ⟨by rfl, ?_⟩) (by assumption) ?_
        rotate_left 1
        · intro w hSw
          try dsimp only at hSw
          go_simp
          try with_reducible rfl
        simp only [Act.put, List.getElem_toArray, List.getElem_cons_succ, List.getElem_cons_zero, List.setIfInBounds_toArray, List.set_cons_zero, List.set_cons_succ]
        refine wpAnyH_take (i := 1) (v := ?_) rfl (by kernel_rfl) (by kernel_rfl) (by kernel_rfl) (fun _ _ _ h => h) (Or.inl ⟨by rfl, ?_⟩) (by assumption) ?_
        rotate_left 1
        · intro w hSw
          try dsimp only at hSw
          go_simp
          try with_reducible rfl
        simp only [Act.put, List.getElem_toArray, List.getElem_cons_succ, List.getElem_cons_zero, List.setIfInBounds_toArray, List.set_cons_zero, List.set_cons_succ]
        refine wpAnyH_take (i := 2) (v := ?_) rfl (by kernel_rfl) (by kernel_rfl) (by kernel_rfl) (fun _ _ _ h => h) (Or.inl ⟨by rfl, ?_⟩) (by assumption) ?_
        rotate_left 1
        · intro w hSw
          try dsimp only at hSw
          go_simp
          try with_reducible rfl
        simp only [Act.put, List.getElem_toArray, List.getElem_cons_succ, List.getElem_cons_zero, List.setIfInBounds_toArray, List.set_cons_zero, List.set_cons_succ]
        refine wpAnyH_take (i := 3) (v := .string ⟨((S.data.toList.drop 0).take k).toArray⟩) rfl (by kernel_rfl) (by kernel_rfl) (by kernel_rfl) (fun _ _ _ h => h) (Or.inl ⟨by rfl, ?_⟩) (by assumption) ?_
        · intro w hSw
          have hcv1 := conv_part (show BytesAt w w2.heap.size S from hSw) 0 (k) (k + 1) (by omega)
          try first | rw [if_neg hCk] at hcv1 | rw [if_pos rfl] at hcv1
          have hcv2 : (convert 45 9 (.slice (some ⟨w2.heap.size, 0, none⟩) 0 0)).run Tryd.prog w = .ok (.string ⟨#[]⟩) w := by simpa using conv_part (show BytesAt w w2.heap.size S from hSw) 0 0 0 (by omega)
          try dsimp only at hSw
          go_simp
          try with_reducible rfl
        simp only [Act.put, List.getElem_toArray, List.getElem_cons_succ, List.getElem_cons_zero, List.setIfInBounds_toArray, List.set_cons_zero, List.set_cons_succ]
        obtain ⟨TA, hTA⟩ : ∃ TA : ByteArray, ⟨((S.data.toList.drop 0).take k).toArray⟩ = TA := ⟨_, rfl⟩
        rw [hTA] at hsA ⊢
        clear hTA
        refine wpAnyH_take (i := 4) (v := ?_) rfl (by kernel_rfl) (by kernel_rfl) (by kernel_rfl) (fun _ _ _ h => h) (Or.inl ⟨by rfl, ?_⟩) (by assumption) ?_
        rotate_left 1
        · intro w hSw
          try dsimp only at hSw
          go_simp
          try with_reducible rfl
        simp only [Act.put, List.getElem_toArray, List.getElem_cons_succ, List.getElem_cons_zero, List.setIfInBounds_toArray, List.set_cons_zero, List.set_cons_succ]
        refine wpAnyH_take (i := 5) (v := ?_) rfl (by kernel_rfl) (by kernel_rfl) (by kernel_rfl) (fun _ _ _ h => h) (Or.inl ⟨by rfl, ?_⟩) (by assumption) ?_
        rotate_left 1
        · intro w hSw
          try dsimp only at hSw
          go_simp
          try with_reducible rfl
        simp only [Act.put, List.getElem_toArray, List.getElem_cons_succ, List.getElem_cons_zero, List.setIfInBounds_toArray, List.set_cons_zero, List.set_cons_succ]
        refine wpAnyH_take (i := 6) (v := ?_) rfl (by kernel_rfl) (by kernel_rfl) (by kernel_rfl) (fun _ _ _ h => h) (Or.inl ⟨by rfl, ?_⟩) (by assumption) ?_
        rotate_left 1
        · intro w hSw
          try dsimp only at hSw
          go_simp
          try with_reducible rfl
        simp only [Act.put, List.getElem_toArray, List.getElem_cons_succ, List.getElem_cons_zero, List.setIfInBounds_toArray, List.set_cons_zero, List.set_cons_succ]
        refine wpAnyH_take (i := 7) (v := ?_) rfl (by kernel_rfl) (by kernel_rfl) (by kernel_rfl) (fun _ _ _ h => h) (Or.inl ⟨by rfl, ?_⟩) (by assumption) ?_
        rotate_left 1
        · intro w hSw
          try dsimp only at hSw
          go_simp
          try with_reducible rfl
        simp only [Act.put, List.getElem_toArray, List.getElem_cons_succ, List.getElem_cons_zero, List.setIfInBounds_toArray, List.set_cons_zero, List.set_cons_succ]
        refine wpAnyH_take (i := 8) (v := .string ⟨((S.data.toList.drop (k + 1)).take (S.size - (k + 1))).toArray⟩) rfl (by kernel_rfl) (by kernel_rfl) (by kernel_rfl) (fun _ _ _ h => h) (Or.inl ⟨by rfl, ?_⟩) (by assumption) ?_
        · intro w hSw
          have hcv1 := conv_partI (show BytesAt w w2.heap.size S from hSw) (k + 1) (S.size - (k + 1)) ((k + 1) - (k + 1)) (k + 1) (by omega) hcp1
          try first | rw [if_neg hCk] at hcv1 | rw [if_pos rfl] at hcv1
          have hcv2 : (convert 45 9 (.slice (some ⟨w2.heap.size, 0, none⟩) 0 0)).run Tryd.prog w = .ok (.string ⟨#[]⟩) w := by simpa using conv_part (show BytesAt w w2.heap.size S from hSw) 0 0 0 (by omega)
          try dsimp only at hSw
          go_simp
          try with_reducible rfl
        simp only [Act.put, List.getElem_toArray, List.getElem_cons_succ, List.getElem_cons_zero, List.setIfInBounds_toArray, List.set_cons_zero, List.set_cons_succ]
        obtain ⟨TB, hTB⟩ : ∃ TB : ByteArray, ⟨((S.data.toList.drop (k + 1)).take (S.size - (k + 1))).toArray⟩ = TB := ⟨_, rfl⟩
        rw [hTB] at hsC ⊢
        clear hTB
        have hsy1 : ¬ (9223372036854775807 < TA.size + TB.size) := by have := hsA.out; have := hsC.out; omega
        refine wpAnyH_take (i := 9) (v := ?_) rfl (by kernel_rfl) (by kernel_rfl) (by kernel_rfl) (fun _ _ _ h => h) (Or.inl ⟨by rfl, ?_⟩) (by assumption) ?_
        rotate_left 1
        · intro w hSw
          try dsimp only at hSw
          go_simp
          try with_reducible rfl
        simp only [Act.put, List.getElem_toArray, List.getElem_cons_succ, List.getElem_cons_zero, List.setIfInBounds_toArray, List.set_cons_zero, List.set_cons_succ]
        refine wpAnyH_ready (rs := [10]) (by kernel_rfl) (by simp) ?_
        refine AllReadyH.cons rfl (fun K hK => ?_) AllReadyH.nil
        go_simp
        refine hK.out _ _ ?hS1 (fun hHeld => ?_)
        case hS1 => (try dsimp only); (exact HB5.out)
        clear hK K
        try simp only [Act.put, List.getElem_toArray, List.getElem_cons_succ, List.getElem_cons_zero, List.setIfInBounds_toArray, List.set_cons_zero, List.set_cons_succ]
        refine wpAnyH_done (by kernel_rfl) ?_ _
        go_wp2_with fail
        go_ret
        exact ⟨⟨_, rfl, by have := hsA.out; have := hsC.out; rw [ByteArray.size_append]; omega⟩, HC5.out.drew, grown_trans HG5.out (grown_drew w5 (some g))⟩
      · skip
        refine wp_region_held_drew (S := (fun w' => BytesAt w' w2.heap.size S)) (by kernel_rfl) ?hS0 (fun hHeld => ?_)
        case hS0 => (exact HB5.out)
        refine wpAnyH_take (i := 0) (v := ?_) rfl (by kernel_rfl) (by kernel_rfl) (by kernel_rfl) (fun _ _ _ h => h) (Or.inl ⟨by rfl, ?_⟩) (by assumption) ?_
        rotate_left 1
        · intro w hSw
          try dsimp only at hSw
          go_simp
          try with_reducible rfl
        simp only [Act.put, List.getElem_toArray, List.getElem_cons_succ, List.getElem_cons_zero, List.setIfInBounds_toArray, List.set_cons_zero, List.set_cons_succ]
        refine wpAnyH_take (i := 1) (v := ?_) rfl (by kernel_rfl) (by kernel_rfl) (by kernel_rfl) (fun _ _ _ h => h) (Or.inl ⟨by rfl, ?_⟩) (by assumption) ?_
        rotate_left 1
        · intro w hSw
          try dsimp only at hSw
          go_simp
          try with_reducible rfl
        simp only [Act.put, List.getElem_toArray, List.getElem_cons_succ, List.getElem_cons_zero, List.setIfInBounds_toArray, List.set_cons_zero, List.set_cons_succ]
        refine wpAnyH_take (i := 2) (v := ?_) rfl (by kernel_rfl) (by kernel_rfl) (by kernel_rfl) (fun _ _ _ h => h) (Or.inl ⟨by rfl, ?_⟩) (by assumption) ?_
        rotate_left 1
        · intro w hSw
          try dsimp only at hSw
          go_simp
          try with_reducible rfl
        simp only [Act.put, List.getElem_toArray, List.getElem_cons_succ, List.getElem_cons_zero, List.setIfInBounds_toArray, List.set_cons_zero, List.set_cons_succ]
        refine wpAnyH_take (i := 3) (v := .string ⟨((S.data.toList.drop 0).take k).toArray⟩) rfl (by kernel_rfl) (by kernel_rfl) (by kernel_rfl) (fun _ _ _ h => h) (Or.inl ⟨by rfl, ?_⟩) (by assumption) ?_
        · intro w hSw
          have hcv1 := conv_part (show BytesAt w w2.heap.size S from hSw) 0 (k) CP (by omega)
          try first | rw [if_neg hCk] at hcv1 | rw [if_pos rfl] at hcv1
          try dsimp only at hSw
          go_simp
          try with_reducible rfl
        simp only [Act.put, List.getElem_toArray, List.getElem_cons_succ, List.getElem_cons_zero, List.setIfInBounds_toArray, List.set_cons_zero, List.set_cons_succ]
        obtain ⟨TA, hTA⟩ : ∃ TA : ByteArray, ⟨((S.data.toList.drop 0).take k).toArray⟩ = TA := ⟨_, rfl⟩
        rw [hTA] at hsA ⊢
        clear hTA
        refine wpAnyH_take (i := 4) (v := ?_) rfl (by kernel_rfl) (by kernel_rfl) (by kernel_rfl) (fun _ _ _ h => h) (Or.inl ⟨by rfl, ?_⟩) (by assumption) ?_
        rotate_left 1
        · intro w hSw
          try dsimp only at hSw
          go_simp
          try with_reducible rfl
        simp only [Act.put, List.getElem_toArray, List.getElem_cons_succ, List.getElem_cons_zero, List.setIfInBounds_toArray, List.set_cons_zero, List.set_cons_succ]
        refine wpAnyH_take (i := 5) (v := ?_) rfl (by kernel_rfl) (by kernel_rfl) (by kernel_rfl) (fun _ _ _ h => h) (Or.inl ⟨by rfl, ?_⟩) (by assumption) ?_
        rotate_left 1
        · intro w hSw
          try dsimp only at hSw
          go_simp
          try with_reducible rfl
        simp only [Act.put, List.getElem_toArray, List.getElem_cons_succ, List.getElem_cons_zero, List.setIfInBounds_toArray, List.set_cons_zero, List.set_cons_succ]
        refine wpAnyH_take (i := 6) (v := ?_) rfl (by kernel_rfl) (by kernel_rfl) (by kernel_rfl) (fun _ _ _ h => h) (Or.inl ⟨by rfl, ?_⟩) (by assumption) ?_
        rotate_left 1
        · intro w hSw
          try dsimp only at hSw
          go_simp
          try with_reducible rfl
        simp only [Act.put, List.getElem_toArray, List.getElem_cons_succ, List.getElem_cons_zero, List.setIfInBounds_toArray, List.set_cons_zero, List.set_cons_succ]
        refine wpAnyH_take (i := 7) (v := ?_) rfl (by kernel_rfl) (by kernel_rfl) (by kernel_rfl) (fun _ _ _ h => h) (Or.inl ⟨by rfl, ?_⟩) (by assumption) ?_
        rotate_left 1
        · intro w hSw
          try dsimp only at hSw
          go_simp
          try with_reducible rfl
        simp only [Act.put, List.getElem_toArray, List.getElem_cons_succ, List.getElem_cons_zero, List.setIfInBounds_toArray, List.set_cons_zero, List.set_cons_succ]
        refine wpAnyH_take (i := 8) (v := .string ⟨((S.data.toList.drop (k + 1)).take (S.size - (k + 1))).toArray⟩) rfl (by kernel_rfl) (by kernel_rfl) (by kernel_rfl) (fun _ _ _ h => h) (Or.inl ⟨by rfl, ?_⟩) (by assumption) ?_
        · intro w hSw
          have hcv1 := conv_partI (show BytesAt w w2.heap.size S from hSw) (k + 1) (S.size - (k + 1)) (CP - (k + 1)) CP (by omega) hcp1
          try first | rw [if_neg hCk] at hcv1 | rw [if_pos rfl] at hcv1
          try dsimp only at hSw
          go_simp
          try with_reducible rfl
        simp only [Act.put, List.getElem_toArray, List.getElem_cons_succ, List.getElem_cons_zero, List.setIfInBounds_toArray, List.set_cons_zero, List.set_cons_succ]
        obtain ⟨TB, hTB⟩ : ∃ TB : ByteArray, ⟨((S.data.toList.drop (k + 1)).take (S.size - (k + 1))).toArray⟩ = TB := ⟨_, rfl⟩
        rw [hTB] at hsC ⊢
        clear hTB
        have hsy1 : ¬ (9223372036854775807 < TA.size + TB.size) := by have := hsA.out; have := hsC.out; omega
        refine wpAnyH_take (i := 9) (v := ?_) rfl (by kernel_rfl) (by kernel_rfl) (by kernel_rfl) (fun _ _ _ h => h) (Or.inl ⟨by rfl, ?_⟩) (by assumption) ?_
        rotate_left 1
        · intro w hSw
          try dsimp only at hSw
          go_simp
          try with_reducible rfl
        simp only [Act.put, List.getElem_toArray, List.getElem_cons_succ, List.getElem_cons_zero, List.setIfInBounds_toArray, List.set_cons_zero, List.set_cons_succ]
        refine wpAnyH_ready (rs := [10]) (by kernel_rfl) (by simp) ?_
        refine AllReadyH.cons rfl (fun K hK => ?_) AllReadyH.nil
        go_simp
        refine hK.out _ _ ?hS1 (fun hHeld => ?_)
        case hS1 => (try dsimp only); (exact HB5.out)
        clear hK K
        try simp only [Act.put, List.getElem_toArray, List.getElem_cons_succ, List.getElem_cons_zero, List.setIfInBounds_toArray, List.set_cons_zero, List.set_cons_succ]
        refine wpAnyH_done (by kernel_rfl) ?_ _
        go_wp2_with fail
        go_ret
        exact ⟨⟨_, rfl, by have := hsA.out; have := hsC.out; rw [ByteArray.size_append]; omega⟩, HC5.out.drew, grown_trans HG5.out (grown_drew w5 (some g))⟩
    · have i5 : ¬ ((k : Int) < (S.size : Int)) := by omega
      go_wp2_with fail
      go_ret
      exact ⟨⟨_, rfl, by omega⟩, HC5.out, HG5.out⟩
  · go_wp2_with fail
    refine (l1Pick_any (some ⟨w5.heap.size, 0, none⟩) 6 6 txtsB w5.heap.size (w5.heap.size + 1) (by omega) (by omega) g A n c bs _ (slk_new encStr_len w5 txtsB 6 _ 9 rfl (by simp [maxLen]) rfl) (by simp) (.inl (by omega)) (HC5.out.alloc _)).mono ?_
    rintro e w6 ⟨⟨y, rfl, hy⟩, hc6, hg6⟩
    have hys := txtsB_size y hy
    have HC6 := hide hc6
    have HG6 := hide (grown_trans (grown_trans HG5.out (grown_alloc w5 (some g) _)) hg6)
    clear hy hc6 hg6
    go_wp2_with fail
    go_ret
    exact ⟨⟨_, rfl, by omega⟩, HC6.out, HG6.out⟩
  · have e0 : (d == 0) = false := by rw [beq_eq_false_iff_ne]; omega
    have e1 : (d == 1) = false := by rw [beq_eq_false_iff_ne]; omega
    have e2 : (d == 2) = false := by rw [beq_eq_false_iff_ne]; omega
    have e3 : (d == 3) = false := by rw [beq_eq_false_iff_ne]; omega
    go_wp2_with fail
    go_ret
    exact ⟨⟨_, rfl, by omega⟩, HC5.out, HG5.out⟩
set_option maxRecDepth 20000 in
set_option maxHeartbeats 1000000 in
theorem drawReadOrder_any (A : Option Addr) (n c : Nat) (bs : List Int) (w : World) (hs : SlK 1 encByte w 0 w.heap.size A n c bs) (hb : ∀ b ∈ bs, 0 ≤ b ∧ b ≤ 255) :
    Calls Tryd.prog 34 #[.slice A n c] w fun e w' => (∃ s : ByteArray, e = .returned (.string s) ∧ s.size ≤ 40000) ∧ Below w.heap.size w w' := by
  go_enter Tryd.func34, Tryd.ntmps34
  go_wp2_with fail
  refine (l1New_any A n c bs _ hs hb).mono ?_
  rintro e w1 ⟨rfl, hc1, hb1⟩
  have hgl := hc1.lt
  have z1 := hb1.size
  go_wp2_with fail
  refine (l4Text_any _ A n c bs _ hc1).mono ?_
  rintro e w2 ⟨⟨S, rfl, hS⟩, hc2, hg2⟩
  have z2 := hg2.size
  have HB2 := hide (hb1.grown hg2 (by omega) (fun x hx => by have hx' : w.heap.size = x := Option.some.inj hx; omega))
  have HC2 := hide hc2
  clear hc1 hb1 hc2 hg2
  go_wp2_with fail
  refine (l1Once_any 24 (by omega) (by omega) _ A n c bs _ HC2.out).mono ?_
  rintro e w3 ⟨⟨tb, rfl⟩, hc3, hg3⟩
  have z3 := hg3.size
  have HB3 := hide (HB2.out.grown hg3 (by omega) (fun x hx => by have hx' : w.heap.size = x := Option.some.inj hx; omega))
  have HC3 := hide hc3
  clear HC2 HB2 hc3 hg3
  cases tb
  · go_wp2_with fail
    go_ret
    exact ⟨⟨S, rfl, by omega⟩, HB3.out⟩
  · go_wp2_with fail
    refine (l1PickInt_any (some ⟨w3.heap.size, 0, none⟩) 2 2 [40, 70] w3.heap.size (w3.heap.size + 1) (by omega) (by omega) _ A n c bs _ (slk_new encInt_len _ [40, 70] 2 _ _ rfl (by simp [maxLen]) rfl) (by simp) (.inl (by omega)) (HC3.out.alloc _)).mono ?_
    rintro e w4 ⟨⟨y, rfl, hy⟩, hc4, hg4⟩
    have hy2 : y = 40 ∨ y = 70 := by simpa using hy
    have HB4 := hide ((HB3.out.alloc (by omega) (.cells #[.int .i64 40, .int .i64 70] 3)).grown hg4 (by simp; omega) (fun x hx => by have hx' : w.heap.size = x := Option.some.inj hx; omega))
    obtain ⟨m, rfl⟩ : ∃ m : Nat, y = (m : Int) := Int.eq_ofNat_of_zero_le (by omega)
    have hm70 : m ≤ 70 := by omega
    clear hy hy2 hc4 hg4 HC3
    go_wp2_with fail
    go_loopw [4, 6] (fun o i wr => ∃ (k : Nat) (T : ByteArray), k ≤ m ∧ i = .int .i64 k ∧ o = .string T ∧ T.size ≤ 20000 + 19 * k ∧ w4 = wr) (fun _ i _ => m - (intOf i).toNat)
    case atStart => exact ⟨0, S, Nat.zero_le _, rfl, rfl, by omega, rfl⟩
    case round =>
      obtain ⟨k, X, hk, rfl, rfl, hX, rfl⟩ := hrel
      have hlit : ((ByteArray.mk #[105, 116, 101, 109, 32, 49, 32, 49, 32, 49, 32, 49, 32, 49, 32, 48, 32, 49, 10])).size = 19 := rfl
      by_cases hlt : k < m
      · have i1 : (k : Int) < (m : Int) := by omega
        have hX2 : X.size ≤ 9223372036854775000 := by omega
        go_wp2_with fail
        go_roundw
        case rel => exact ⟨k + 1, X ++ (ByteArray.mk #[105, 116, 101, 109, 32, 49, 32, 49, 32, 49, 32, 49, 32, 49, 32, 48, 32, 49, 10]), by omega, by go_num, rfl, by rw [ByteArray.size_append, hlit]; omega, by trivial⟩
        case measure => first | omega | (simp [intOf]; done) | (simp [intOf]; omega)
      · obtain rfl : k = m := by omega
        go_wp2_with fail
        go_ret
        exact ⟨⟨X, rfl, by omega⟩, HB4.out⟩

end Go.Proofs.YtcjcmdikopipjaaDoor
