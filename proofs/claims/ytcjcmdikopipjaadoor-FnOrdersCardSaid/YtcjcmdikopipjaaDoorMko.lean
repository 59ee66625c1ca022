/- The laws' marks on an order that is the call's own: what stands there afterwards. -/
import Derived.Test.YtcjcmdikopipjaaDoorMk
import Derived.Test.YtcjcmdikopipjaaDoorS1
namespace Go.Proofs.YtcjcmdikopipjaaDoor
open Go.ChangeShapes Go.WideShapes Go.ChangeAt Go.RowKit Go.Deep
set_option linter.unusedVariables false
set_option linter.unusedSimpArgs false

theorem ownK_form {α : Type} {k : Nat} {enc : α → List Value} {w : World} {base : Nat} {e : TypeId} {v : Value} {zs : List α} (h : Own k enc e w base v zs) : (v = .slice none 0 0 ∧ zs = []) ∨ ∃ g cap, v = .slice (some ⟨g, 0, none⟩) zs.length cap ∧ base ≤ g ∧ g < w.heap.size ∧ zs.length ≤ cap ∧ cap ≤ maxLen := by
  obtain ⟨_, h2⟩ := h
  rcases h2 with ⟨h2, h3⟩ | ⟨g, cap, cur, hv, hg, hh, hnc, hcm, _⟩
  · exact .inl ⟨h2, List.eq_nil_of_length_eq_zero h3⟩
  · exact .inr ⟨g, cap, hv, hg, (Array.getElem?_eq_some_iff.1 hh).1, hnc, hcm⟩
theorem row_fill2 {α : Type} {k : Nat} {enc : α → List Value} (hk : ∀ x, (enc x).length = k) {n : Nat} (ys : List α) (Z : List Value) (z : α) {i : Nat} (hl : ys.length = i) (hZ : Z.length = n * k) (hi : i < n) :
    setL (ys.flatMap enc ++ Z.drop (i * k)) (i * k) (enc z) = (ys ++ [z]).flatMap enc ++ Z.drop ((i + 1) * k) := by
  have h1 : (ys.flatMap enc).length = i * k := by rw [flat_length hk, hl]
  have h2 : (i + 1) * k ≤ n * k := Nat.mul_le_mul_right _ (by omega)
  have h3 : (i + 1) * k = i * k + k := Nat.succ_mul i k
  rw [setL_eq _ _ _ (by rw [hk, List.length_append, h1, List.length_drop]; omega), hk]
  rw [List.take_left' h1, List.drop_append, h1, List.drop_of_length_le (by omega), List.drop_drop]
  simp only [List.flatMap_append, List.flatMap_cons, List.flatMap_nil, List.append_nil, List.nil_append]
  rw [show i * k + (i * k + k - i * k) = (i + 1) * k from by omega]
def mkPr (k0 : Int) : Nat → List Pr
  | 0 => []
  | n + 1 => mkPr k0 n ++ [⟨k0 + 2 * (n : Int), k0 + 2 * (n : Int) + 1⟩]
theorem mkPr_len (k0 : Int) : ∀ n, (mkPr k0 n).length = n
  | 0 => rfl
  | n + 1 => by simp [mkPr, mkPr_len k0 n]
theorem mkPr_at (k0 : Int) : ∀ n i, i < n → (mkPr k0 n)[i]? = some ⟨k0 + 2 * (i : Int), k0 + 2 * (i : Int) + 1⟩
  | 0, i, h => absurd h (by omega)
  | n + 1, i, h => by
    unfold mkPr
    by_cases hi : i < n
    · rw [List.getElem?_append_left (by rw [mkPr_len]; exact hi)]
      exact mkPr_at k0 n i hi
    · obtain rfl : i = n := by omega
      rw [List.getElem?_append_right (by rw [mkPr_len]; exact Nat.le_refl _), mkPr_len]
      simp
def mkTy (k0 : Int) : Nat → List Ty
  | 0 => []
  | n + 1 => mkTy k0 n ++ [⟨k0 + 7 * (n : Int), k0 + 7 * (n : Int) + 1, k0 + 7 * (n : Int) + 1 + 1, k0 + 7 * (n : Int) + 1 + 1 + 1, k0 + 7 * (n : Int) + 1 + 1 + 1 + 1, k0 + 7 * (n : Int) + 1 + 1 + 1 + 1 + 1, k0 + 7 * (n : Int) + 1 + 1 + 1 + 1 + 1 + 1⟩]
theorem mkTy_len (k0 : Int) : ∀ n, (mkTy k0 n).length = n
  | 0 => rfl
  | n + 1 => by simp [mkTy, mkTy_len k0 n]
theorem mkTy_at (k0 : Int) : ∀ n i, i < n → (mkTy k0 n)[i]? = some ⟨k0 + 7 * (i : Int), k0 + 7 * (i : Int) + 1, k0 + 7 * (i : Int) + 1 + 1, k0 + 7 * (i : Int) + 1 + 1 + 1, k0 + 7 * (i : Int) + 1 + 1 + 1 + 1, k0 + 7 * (i : Int) + 1 + 1 + 1 + 1 + 1, k0 + 7 * (i : Int) + 1 + 1 + 1 + 1 + 1 + 1⟩
  | 0, i, h => absurd h (by omega)
  | n + 1, i, h => by
    unfold mkTy
    by_cases hi : i < n
    · rw [List.getElem?_append_left (by rw [mkTy_len]; exact hi)]
      exact mkTy_at k0 n i hi
    · obtain rfl : i = n := by omega
      rw [List.getElem?_append_right (by rw [mkTy_len]; exact Nat.le_refl _), mkTy_len]
      simp
def mkIt (k0 : Int) : Nat → List It
  | 0 => []
  | n + 1 => mkIt k0 n ++ [⟨k0 + 7 * (n : Int), k0 + 7 * (n : Int) + 1, k0 + 7 * (n : Int) + 1 + 1, k0 + 7 * (n : Int) + 1 + 1 + 1, k0 + 7 * (n : Int) + 1 + 1 + 1 + 1, k0 + 7 * (n : Int) + 1 + 1 + 1 + 1 + 1, k0 + 7 * (n : Int) + 1 + 1 + 1 + 1 + 1 + 1⟩]
theorem mkIt_len (k0 : Int) : ∀ n, (mkIt k0 n).length = n
  | 0 => rfl
  | n + 1 => by simp [mkIt, mkIt_len k0 n]
theorem mkIt_at (k0 : Int) : ∀ n i, i < n → (mkIt k0 n)[i]? = some ⟨k0 + 7 * (i : Int), k0 + 7 * (i : Int) + 1, k0 + 7 * (i : Int) + 1 + 1, k0 + 7 * (i : Int) + 1 + 1 + 1, k0 + 7 * (i : Int) + 1 + 1 + 1 + 1, k0 + 7 * (i : Int) + 1 + 1 + 1 + 1 + 1, k0 + 7 * (i : Int) + 1 + 1 + 1 + 1 + 1 + 1⟩
  | 0, i, h => absurd h (by omega)
  | n + 1, i, h => by
    unfold mkIt
    by_cases hi : i < n
    · rw [List.getElem?_append_left (by rw [mkIt_len]; exact hi)]
      exact mkIt_at k0 n i hi
    · obtain rfl : i = n := by omega
      rw [List.getElem?_append_right (by rw [mkIt_len]; exact Nat.le_refl _), mkIt_len]
      simp
set_option maxRecDepth 20000 in
set_option maxHeartbeats 2000000 in
theorem markPairS_own (k0 : Int) (base : Nat) (v : Value) (xs : List Pr) (w : World) (h : Own 2 encPr 82 w base v xs) (hn : xs.length ≤ 1048576) (hk : 0 ≤ k0) (hk2 : k0 ≤ 10485760) :
    Calls Tryd.prog 67 #[v, .int .i64 k0] w fun e w' => e = .returned (.int .i64 (k0 + 2 * xs.length)) ∧ Own 2 encPr 82 w' base v (mkPr k0 xs.length) ∧ w.grownBy w' v.ownBlock := by
  rcases ownK_form h with ⟨rfl, rfl⟩ | ⟨g, cap, rfl, hg, hlt, hnc, hcm⟩
  · go_enter Tryd.func67, Tryd.ntmps67
    go_wp2
    go_loopw [1, 5] (fun k i wr => k = .int .i64 k0 ∧ i = .int .i64 0 ∧ w = wr) (fun _ _ _ => 0)
    case atStart => exact ⟨rfl, rfl, rfl⟩
    case round =>
      obtain ⟨rfl, rfl, rfl⟩ := hrel
      go_wp2
      go_ret
      exact ⟨by simp, h, World.grownBy.refl _ _⟩
  · obtain ⟨n, hnn⟩ : ∃ n, xs.length = n := ⟨_, rfl⟩
    have HN := hide (show (xs.flatMap encPr).length = n * 2 by rw [flat_length encPr_len, hnn])
    have HI : Hid (w.ownsRow base 82 2 (.slice (some ⟨g, 0, none⟩) n cap) n (xs.flatMap encPr)) := hide (by rw [hnn] at h; rw [← hnn]; rw [← hnn] at h; exact h)
    rw [hnn] at hn hnc ⊢
    clear h hnn
    generalize xs.flatMap encPr = Z at HN HI
    have hcm' : cap ≤ 9223372036854775807 := by unfold maxLen at hcm; omega
    go_enter Tryd.func67, Tryd.ntmps67
    go_wp2_with fail
    go_loopw [1, 5] (fun k i wr => ∃ j : Nat, j ≤ n ∧ i = .int .i64 j ∧ k = .int .i64 (k0 + 2 * j) ∧ wr.ownsRow base 82 2 (.slice (some ⟨g, 0, none⟩) n cap) n ((mkPr k0 j).flatMap encPr ++ Z.drop (j * 2)) ∧ w.grownBy wr (some g)) (fun _ i _ => n - (intOf i).toNat)
    case atStart => exact ⟨0, Nat.zero_le _, rfl, by simp, by simpa [mkPr] using HI.out, World.grownBy.refl _ _⟩
    case round =>
      obtain ⟨j, hj, rfl, rfl, ho, hgr⟩ := hrel
      have HO := hide ho
      have HG := hide hgr
      clear ho hgr
      by_cases hlt2 : j < n
      · have i0 : (0 : Int) ≤ (j : Int) := by omega
        have i1 : (j : Int) < (n : Int) := by omega
        obtain ⟨u0, c0⟩ := own_cell HO.out (j * 2) (by omega)
        have f0 := HO.out.frozenAt (j * 2)
        obtain ⟨u1, c1⟩ := own_cell HO.out (j * 2 + 1) (by omega)
        have f1 := HO.out.frozenAt (j * 2 + 1)
        have s1 : -9223372036854775808 ≤ k0 + 2 * (j : Int) + 1 := by omega
        have t1 : k0 + 2 * (j : Int) + 1 ≤ 9223372036854775807 := by omega
        have s2 : -9223372036854775808 ≤ k0 + 2 * (j : Int) + 2 := by omega
        have t2 : k0 + 2 * (j : Int) + 2 ≤ 9223372036854775807 := by omega
        have HM := hide (show mkPr k0 (j + 1) = mkPr k0 j ++ [⟨k0 + 2 * (j : Int), k0 + 2 * (j : Int) + 1⟩] from rfl)
        obtain ⟨K, hK⟩ : ∃ K, k0 + 2 * (j : Int) = K := ⟨_, rfl⟩
        have HK := hide hK
        rw [hK] at s1 t1 s2 t2 HM ⊢
        clear hK
        go_wp2_with fail
        go_roundw
        case rel =>
          have hst := stored2 HO.out (j * 2) (.int .i64 K) (.int .i64 (K + 1))
          refine ⟨j + 1, by omega, by go_num, ?_, ?_, HG.out.trans hst.2⟩
          · have := HK.out
            congr 1
            omega
          · rw [HM.out, ← row_fill2 encPr_len (n := n) _ Z _ (mkPr_len k0 j) HN.out hlt2]
            exact hst.1
        case measure => simp [intOf]; omega
      · obtain rfl : j = n := by omega
        clear hlt2
        go_wp2_with fail
        go_ret
        refine ⟨rfl, ?_, HG.out⟩
        show World.ownsRow _ _ _ _ _ (mkPr k0 j).length _
        rw [mkPr_len]
        have := HO.out
        rwa [List.drop_of_length_le (by rw [HN.out]; exact Nat.le_refl _), List.append_nil] at this
set_option maxRecDepth 20000 in
set_option maxHeartbeats 2000000 in
theorem heldPairS_any (k0 : Int) (lo hi : Nat) (A : Option Addr) (n c : Nat) (w : World) (h : SlK 2 encPr w lo hi A n c (mkPr k0 n)) (hn : n ≤ 1048576) (hk : 0 ≤ k0) (hk2 : k0 ≤ 10485760) :
    Calls Tryd.prog 70 #[.slice A n c, .int .i64 k0] w fun e w' => e = .returned (.int .i64 (k0 + 2 * n)) ∧ w = w' := by
  have hc := h.cap
  have hm := h.max
  have HH := hide h
  clear h
  go_enter Tryd.func70, Tryd.ntmps70
  go_wp2_with fail
  go_loop [1, 5] (fun k i => ∃ j : Nat, j ≤ n ∧ i = .int .i64 j ∧ k = .int .i64 (k0 + 2 * j)) (fun _ i => n - (intOf i).toNat)
  case atStart => exact ⟨0, Nat.zero_le _, rfl, by simp⟩
  case round =>
    obtain ⟨j, hj, rfl, rfl⟩ := hrel
    by_cases hlt : j < n
    · obtain ⟨b, off, x, hx, rfl, _, hb, c0, c1, _, _⟩ := HH.out.pr hlt
      rw [mkPr_at k0 n j hlt] at hx
      obtain rfl := (Option.some.inj hx).symm
      have i0 : (0 : Int) ≤ (j : Int) := by omega
      have i1 : (j : Int) < (n : Int) := by omega
      have s1 : -9223372036854775808 ≤ k0 + 2 * (j : Int) + 1 := by omega
      have t1 : k0 + 2 * (j : Int) + 1 ≤ 9223372036854775807 := by omega
      have s2 : -9223372036854775808 ≤ k0 + 2 * (j : Int) + 2 := by omega
      have t2 : k0 + 2 * (j : Int) + 2 ≤ 9223372036854775807 := by omega
      obtain ⟨K, hK⟩ : ∃ K, k0 + 2 * (j : Int) = K := ⟨_, rfl⟩
      have HK := hide hK
      simp only [hK] at s1 t1 s2 t2 c0 c1 ⊢
      clear hx hK
      go_wp2_with fail
      go_round
      case rel =>
        refine ⟨j + 1, by omega, by go_num, ?_⟩
        have := HK.out
        congr 1
        omega
      case measure => simp [intOf]; omega
    · obtain rfl : j = n := by omega
      clear hlt
      go_wp2_with fail
      go_ret
      exact ⟨rfl, rfl⟩
set_option maxRecDepth 20000 in
set_option maxHeartbeats 2000000 in
theorem markTypeS_own (k0 : Int) (base : Nat) (v : Value) (xs : List Ty) (w : World) (h : Own 7 encTy 84 w base v xs) (hn : xs.length ≤ 1048576) (hk : 0 ≤ k0) (hk2 : k0 ≤ 10485760) :
    Calls Tryd.prog 68 #[v, .int .i64 k0] w fun e w' => e = .returned (.int .i64 (k0 + 7 * xs.length)) ∧ Own 7 encTy 84 w' base v (mkTy k0 xs.length) ∧ w.grownBy w' v.ownBlock := by
  rcases ownK_form h with ⟨rfl, rfl⟩ | ⟨g, cap, rfl, hg, hlt, hnc, hcm⟩
  · go_enter Tryd.func68, Tryd.ntmps68
    go_wp2
    go_loopw [1, 5] (fun k i wr => k = .int .i64 k0 ∧ i = .int .i64 0 ∧ w = wr) (fun _ _ _ => 0)
    case atStart => exact ⟨rfl, rfl, rfl⟩
    case round =>
      obtain ⟨rfl, rfl, rfl⟩ := hrel
      go_wp2
      go_ret
      exact ⟨by simp, h, World.grownBy.refl _ _⟩
  · obtain ⟨n, hnn⟩ : ∃ n, xs.length = n := ⟨_, rfl⟩
    have HN := hide (show (xs.flatMap encTy).length = n * 7 by rw [flat_length encTy_len, hnn])
    have HI : Hid (w.ownsRow base 84 7 (.slice (some ⟨g, 0, none⟩) n cap) n (xs.flatMap encTy)) := hide (by rw [hnn] at h; rw [← hnn]; rw [← hnn] at h; exact h)
    rw [hnn] at hn hnc ⊢
    clear h hnn
    generalize xs.flatMap encTy = Z at HN HI
    have hcm' : cap ≤ 9223372036854775807 := by unfold maxLen at hcm; omega
    go_enter Tryd.func68, Tryd.ntmps68
    go_wp2_with fail
    go_loopw [1, 5] (fun k i wr => ∃ j : Nat, j ≤ n ∧ i = .int .i64 j ∧ k = .int .i64 (k0 + 7 * j) ∧ wr.ownsRow base 84 7 (.slice (some ⟨g, 0, none⟩) n cap) n ((mkTy k0 j).flatMap encTy ++ Z.drop (j * 7)) ∧ w.grownBy wr (some g)) (fun _ i _ => n - (intOf i).toNat)
    case atStart => exact ⟨0, Nat.zero_le _, rfl, by simp, by simpa [mkTy] using HI.out, World.grownBy.refl _ _⟩
    case round =>
      obtain ⟨j, hj, rfl, rfl, ho, hgr⟩ := hrel
      have HO := hide ho
      have HG := hide hgr
      clear ho hgr
      by_cases hlt2 : j < n
      · have i0 : (0 : Int) ≤ (j : Int) := by omega
        have i1 : (j : Int) < (n : Int) := by omega
        obtain ⟨u0, c0⟩ := own_cell HO.out (j * 7) (by omega)
        have f0 := HO.out.frozenAt (j * 7)
        obtain ⟨u1, c1⟩ := own_cell HO.out (j * 7 + 1) (by omega)
        have f1 := HO.out.frozenAt (j * 7 + 1)
        obtain ⟨u2, c2⟩ := own_cell HO.out (j * 7 + 2) (by omega)
        have f2 := HO.out.frozenAt (j * 7 + 2)
        obtain ⟨u3, c3⟩ := own_cell HO.out (j * 7 + 3) (by omega)
        have f3 := HO.out.frozenAt (j * 7 + 3)
        obtain ⟨u4, c4⟩ := own_cell HO.out (j * 7 + 4) (by omega)
        have f4 := HO.out.frozenAt (j * 7 + 4)
        obtain ⟨u5, c5⟩ := own_cell HO.out (j * 7 + 5) (by omega)
        have f5 := HO.out.frozenAt (j * 7 + 5)
        obtain ⟨u6, c6⟩ := own_cell HO.out (j * 7 + 6) (by omega)
        have f6 := HO.out.frozenAt (j * 7 + 6)
        have s1 : -9223372036854775808 ≤ k0 + 7 * (j : Int) + 1 := by omega
        have t1 : k0 + 7 * (j : Int) + 1 ≤ 9223372036854775807 := by omega
        have s2 : -9223372036854775808 ≤ k0 + 7 * (j : Int) + 2 := by omega
        have t2 : k0 + 7 * (j : Int) + 2 ≤ 9223372036854775807 := by omega
        have s3 : -9223372036854775808 ≤ k0 + 7 * (j : Int) + 3 := by omega
        have t3 : k0 + 7 * (j : Int) + 3 ≤ 9223372036854775807 := by omega
        have s4 : -9223372036854775808 ≤ k0 + 7 * (j : Int) + 4 := by omega
        have t4 : k0 + 7 * (j : Int) + 4 ≤ 9223372036854775807 := by omega
        have s5 : -9223372036854775808 ≤ k0 + 7 * (j : Int) + 5 := by omega
        have t5 : k0 + 7 * (j : Int) + 5 ≤ 9223372036854775807 := by omega
        have s6 : -9223372036854775808 ≤ k0 + 7 * (j : Int) + 6 := by omega
        have t6 : k0 + 7 * (j : Int) + 6 ≤ 9223372036854775807 := by omega
        have s7 : -9223372036854775808 ≤ k0 + 7 * (j : Int) + 7 := by omega
        have t7 : k0 + 7 * (j : Int) + 7 ≤ 9223372036854775807 := by omega
        have HM := hide (show mkTy k0 (j + 1) = mkTy k0 j ++ [⟨k0 + 7 * (j : Int), k0 + 7 * (j : Int) + 1, k0 + 7 * (j : Int) + 1 + 1, k0 + 7 * (j : Int) + 1 + 1 + 1, k0 + 7 * (j : Int) + 1 + 1 + 1 + 1, k0 + 7 * (j : Int) + 1 + 1 + 1 + 1 + 1, k0 + 7 * (j : Int) + 1 + 1 + 1 + 1 + 1 + 1⟩] from rfl)
        obtain ⟨K, hK⟩ : ∃ K, k0 + 7 * (j : Int) = K := ⟨_, rfl⟩
        have HK := hide hK
        rw [hK] at s1 t1 s2 t2 s3 t3 s4 t4 s5 t5 s6 t6 s7 t7 HM ⊢
        clear hK
        go_wp2_with fail
        go_roundw
        case rel =>
          have hst := stored7 HO.out (j * 7) (.int .i64 K) (.int .i64 (K + 1)) (.int .i64 (K + 1 + 1)) (.int .i64 (K + 1 + 1 + 1)) (.int .i64 (K + 1 + 1 + 1 + 1)) (.int .i64 (K + 1 + 1 + 1 + 1 + 1)) (.int .i64 (K + 1 + 1 + 1 + 1 + 1 + 1))
          refine ⟨j + 1, by omega, by go_num, ?_, ?_, HG.out.trans hst.2⟩
          · have := HK.out
            congr 1
            omega
          · rw [HM.out, ← row_fill2 encTy_len (n := n) _ Z _ (mkTy_len k0 j) HN.out hlt2]
            exact hst.1
        case measure => simp [intOf]; omega
      · obtain rfl : j = n := by omega
        clear hlt2
        go_wp2_with fail
        go_ret
        refine ⟨rfl, ?_, HG.out⟩
        show World.ownsRow _ _ _ _ _ (mkTy k0 j).length _
        rw [mkTy_len]
        have := HO.out
        rwa [List.drop_of_length_le (by rw [HN.out]; exact Nat.le_refl _), List.append_nil] at this
set_option maxRecDepth 20000 in
set_option maxHeartbeats 2000000 in
theorem heldTypeS_any (k0 : Int) (lo hi : Nat) (A : Option Addr) (n c : Nat) (w : World) (h : SlK 7 encTy w lo hi A n c (mkTy k0 n)) (hn : n ≤ 1048576) (hk : 0 ≤ k0) (hk2 : k0 ≤ 10485760) :
    Calls Tryd.prog 71 #[.slice A n c, .int .i64 k0] w fun e w' => e = .returned (.int .i64 (k0 + 7 * n)) ∧ w = w' := by
  have hc := h.cap
  have hm := h.max
  have HH := hide h
  clear h
  go_enter Tryd.func71, Tryd.ntmps71
  go_wp2_with fail
  go_loop [1, 5] (fun k i => ∃ j : Nat, j ≤ n ∧ i = .int .i64 j ∧ k = .int .i64 (k0 + 7 * j)) (fun _ i => n - (intOf i).toNat)
  case atStart => exact ⟨0, Nat.zero_le _, rfl, by simp⟩
  case round =>
    obtain ⟨j, hj, rfl, rfl⟩ := hrel
    by_cases hlt : j < n
    · obtain ⟨b, off, x, hx, rfl, _, hb, c0, c1, c2, c3, c4, c5, c6, _⟩ := HH.out.ty hlt
      rw [mkTy_at k0 n j hlt] at hx
      obtain rfl := (Option.some.inj hx).symm
      have i0 : (0 : Int) ≤ (j : Int) := by omega
      have i1 : (j : Int) < (n : Int) := by omega
      have s1 : -9223372036854775808 ≤ k0 + 7 * (j : Int) + 1 := by omega
      have t1 : k0 + 7 * (j : Int) + 1 ≤ 9223372036854775807 := by omega
      have s2 : -9223372036854775808 ≤ k0 + 7 * (j : Int) + 2 := by omega
      have t2 : k0 + 7 * (j : Int) + 2 ≤ 9223372036854775807 := by omega
      have s3 : -9223372036854775808 ≤ k0 + 7 * (j : Int) + 3 := by omega
      have t3 : k0 + 7 * (j : Int) + 3 ≤ 9223372036854775807 := by omega
      have s4 : -9223372036854775808 ≤ k0 + 7 * (j : Int) + 4 := by omega
      have t4 : k0 + 7 * (j : Int) + 4 ≤ 9223372036854775807 := by omega
      have s5 : -9223372036854775808 ≤ k0 + 7 * (j : Int) + 5 := by omega
      have t5 : k0 + 7 * (j : Int) + 5 ≤ 9223372036854775807 := by omega
      have s6 : -9223372036854775808 ≤ k0 + 7 * (j : Int) + 6 := by omega
      have t6 : k0 + 7 * (j : Int) + 6 ≤ 9223372036854775807 := by omega
      have s7 : -9223372036854775808 ≤ k0 + 7 * (j : Int) + 7 := by omega
      have t7 : k0 + 7 * (j : Int) + 7 ≤ 9223372036854775807 := by omega
      obtain ⟨K, hK⟩ : ∃ K, k0 + 7 * (j : Int) = K := ⟨_, rfl⟩
      have HK := hide hK
      simp only [hK] at s1 t1 s2 t2 s3 t3 s4 t4 s5 t5 s6 t6 s7 t7 c0 c1 c2 c3 c4 c5 c6 ⊢
      clear hx hK
      go_wp2_with fail
      go_round
      case rel =>
        refine ⟨j + 1, by omega, by go_num, ?_⟩
        have := HK.out
        congr 1
        omega
      case measure => simp [intOf]; omega
    · obtain rfl : j = n := by omega
      clear hlt
      go_wp2_with fail
      go_ret
      exact ⟨rfl, rfl⟩
set_option maxRecDepth 20000 in
set_option maxHeartbeats 2000000 in
theorem markItemS_own (k0 : Int) (base : Nat) (v : Value) (xs : List It) (w : World) (h : Own 7 encIt 86 w base v xs) (hn : xs.length ≤ 1048576) (hk : 0 ≤ k0) (hk2 : k0 ≤ 10485760) :
    Calls Tryd.prog 69 #[v, .int .i64 k0] w fun e w' => e = .returned (.int .i64 (k0 + 7 * xs.length)) ∧ Own 7 encIt 86 w' base v (mkIt k0 xs.length) ∧ w.grownBy w' v.ownBlock := by
  rcases ownK_form h with ⟨rfl, rfl⟩ | ⟨g, cap, rfl, hg, hlt, hnc, hcm⟩
  · go_enter Tryd.func69, Tryd.ntmps69
    go_wp2
    go_loopw [1, 5] (fun k i wr => k = .int .i64 k0 ∧ i = .int .i64 0 ∧ w = wr) (fun _ _ _ => 0)
    case atStart => exact ⟨rfl, rfl, rfl⟩
    case round =>
      obtain ⟨rfl, rfl, rfl⟩ := hrel
      go_wp2
      go_ret
      exact ⟨by simp, h, World.grownBy.refl _ _⟩
  · obtain ⟨n, hnn⟩ : ∃ n, xs.length = n := ⟨_, rfl⟩
    have HN := hide (show (xs.flatMap encIt).length = n * 7 by rw [flat_length encIt_len, hnn])
    have HI : Hid (w.ownsRow base 86 7 (.slice (some ⟨g, 0, none⟩) n cap) n (xs.flatMap encIt)) := hide (by rw [hnn] at h; rw [← hnn]; rw [← hnn] at h; exact h)
    rw [hnn] at hn hnc ⊢
    clear h hnn
    generalize xs.flatMap encIt = Z at HN HI
    have hcm' : cap ≤ 9223372036854775807 := by unfold maxLen at hcm; omega
    go_enter Tryd.func69, Tryd.ntmps69
    go_wp2_with fail
    go_loopw [1, 5] (fun k i wr => ∃ j : Nat, j ≤ n ∧ i = .int .i64 j ∧ k = .int .i64 (k0 + 7 * j) ∧ wr.ownsRow base 86 7 (.slice (some ⟨g, 0, none⟩) n cap) n ((mkIt k0 j).flatMap encIt ++ Z.drop (j * 7)) ∧ w.grownBy wr (some g)) (fun _ i _ => n - (intOf i).toNat)
    case atStart => exact ⟨0, Nat.zero_le _, rfl, by simp, by simpa [mkIt] using HI.out, World.grownBy.refl _ _⟩
    case round =>
      obtain ⟨j, hj, rfl, rfl, ho, hgr⟩ := hrel
      have HO := hide ho
      have HG := hide hgr
      clear ho hgr
      by_cases hlt2 : j < n
      · have i0 : (0 : Int) ≤ (j : Int) := by omega
        have i1 : (j : Int) < (n : Int) := by omega
        obtain ⟨u0, c0⟩ := own_cell HO.out (j * 7) (by omega)
        have f0 := HO.out.frozenAt (j * 7)
        obtain ⟨u1, c1⟩ := own_cell HO.out (j * 7 + 1) (by omega)
        have f1 := HO.out.frozenAt (j * 7 + 1)
        obtain ⟨u2, c2⟩ := own_cell HO.out (j * 7 + 2) (by omega)
        have f2 := HO.out.frozenAt (j * 7 + 2)
        obtain ⟨u3, c3⟩ := own_cell HO.out (j * 7 + 3) (by omega)
        have f3 := HO.out.frozenAt (j * 7 + 3)
        obtain ⟨u4, c4⟩ := own_cell HO.out (j * 7 + 4) (by omega)
        have f4 := HO.out.frozenAt (j * 7 + 4)
        obtain ⟨u5, c5⟩ := own_cell HO.out (j * 7 + 5) (by omega)
        have f5 := HO.out.frozenAt (j * 7 + 5)
        obtain ⟨u6, c6⟩ := own_cell HO.out (j * 7 + 6) (by omega)
        have f6 := HO.out.frozenAt (j * 7 + 6)
        have s1 : -9223372036854775808 ≤ k0 + 7 * (j : Int) + 1 := by omega
        have t1 : k0 + 7 * (j : Int) + 1 ≤ 9223372036854775807 := by omega
        have s2 : -9223372036854775808 ≤ k0 + 7 * (j : Int) + 2 := by omega
        have t2 : k0 + 7 * (j : Int) + 2 ≤ 9223372036854775807 := by omega
        have s3 : -9223372036854775808 ≤ k0 + 7 * (j : Int) + 3 := by omega
        have t3 : k0 + 7 * (j : Int) + 3 ≤ 9223372036854775807 := by omega
        have s4 : -9223372036854775808 ≤ k0 + 7 * (j : Int) + 4 := by omega
        have t4 : k0 + 7 * (j : Int) + 4 ≤ 9223372036854775807 := by omega
        have s5 : -9223372036854775808 ≤ k0 + 7 * (j : Int) + 5 := by omega
        have t5 : k0 + 7 * (j : Int) + 5 ≤ 9223372036854775807 := by omega
        have s6 : -9223372036854775808 ≤ k0 + 7 * (j : Int) + 6 := by omega
        have t6 : k0 + 7 * (j : Int) + 6 ≤ 9223372036854775807 := by omega
        have s7 : -9223372036854775808 ≤ k0 + 7 * (j : Int) + 7 := by omega
        have t7 : k0 + 7 * (j : Int) + 7 ≤ 9223372036854775807 := by omega
        have HM := hide (show mkIt k0 (j + 1) = mkIt k0 j ++ [⟨k0 + 7 * (j : Int), k0 + 7 * (j : Int) + 1, k0 + 7 * (j : Int) + 1 + 1, k0 + 7 * (j : Int) + 1 + 1 + 1, k0 + 7 * (j : Int) + 1 + 1 + 1 + 1, k0 + 7 * (j : Int) + 1 + 1 + 1 + 1 + 1, k0 + 7 * (j : Int) + 1 + 1 + 1 + 1 + 1 + 1⟩] from rfl)
        obtain ⟨K, hK⟩ : ∃ K, k0 + 7 * (j : Int) = K := ⟨_, rfl⟩
        have HK := hide hK
        rw [hK] at s1 t1 s2 t2 s3 t3 s4 t4 s5 t5 s6 t6 s7 t7 HM ⊢
        clear hK
        go_wp2_with fail
        go_roundw
        case rel =>
          have hst := stored7 HO.out (j * 7) (.int .i64 K) (.int .i64 (K + 1)) (.int .i64 (K + 1 + 1)) (.int .i64 (K + 1 + 1 + 1)) (.int .i64 (K + 1 + 1 + 1 + 1)) (.int .i64 (K + 1 + 1 + 1 + 1 + 1)) (.int .i64 (K + 1 + 1 + 1 + 1 + 1 + 1))
          refine ⟨j + 1, by omega, by go_num, ?_, ?_, HG.out.trans hst.2⟩
          · have := HK.out
            congr 1
            omega
          · rw [HM.out, ← row_fill2 encIt_len (n := n) _ Z _ (mkIt_len k0 j) HN.out hlt2]
            exact hst.1
        case measure => simp [intOf]; omega
      · obtain rfl : j = n := by omega
        clear hlt2
        go_wp2_with fail
        go_ret
        refine ⟨rfl, ?_, HG.out⟩
        show World.ownsRow _ _ _ _ _ (mkIt k0 j).length _
        rw [mkIt_len]
        have := HO.out
        rwa [List.drop_of_length_le (by rw [HN.out]; exact Nat.le_refl _), List.append_nil] at this
set_option maxRecDepth 20000 in
set_option maxHeartbeats 2000000 in
theorem heldItemS_any (k0 : Int) (lo hi : Nat) (A : Option Addr) (n c : Nat) (w : World) (h : SlK 7 encIt w lo hi A n c (mkIt k0 n)) (hn : n ≤ 1048576) (hk : 0 ≤ k0) (hk2 : k0 ≤ 10485760) :
    Calls Tryd.prog 72 #[.slice A n c, .int .i64 k0] w fun e w' => e = .returned (.int .i64 (k0 + 7 * n)) ∧ w = w' := by
  have hc := h.cap
  have hm := h.max
  have HH := hide h
  clear h
  go_enter Tryd.func72, Tryd.ntmps72
  go_wp2_with fail
  go_loop [1, 5] (fun k i => ∃ j : Nat, j ≤ n ∧ i = .int .i64 j ∧ k = .int .i64 (k0 + 7 * j)) (fun _ i => n - (intOf i).toNat)
  case atStart => exact ⟨0, Nat.zero_le _, rfl, by simp⟩
  case round =>
    obtain ⟨j, hj, rfl, rfl⟩ := hrel
    by_cases hlt : j < n
    · obtain ⟨b, off, x, hx, rfl, _, hb, c0, c1, c2, c3, c4, c5, c6, _⟩ := HH.out.it hlt
      rw [mkIt_at k0 n j hlt] at hx
      obtain rfl := (Option.some.inj hx).symm
      have i0 : (0 : Int) ≤ (j : Int) := by omega
      have i1 : (j : Int) < (n : Int) := by omega
      have s1 : -9223372036854775808 ≤ k0 + 7 * (j : Int) + 1 := by omega
      have t1 : k0 + 7 * (j : Int) + 1 ≤ 9223372036854775807 := by omega
      have s2 : -9223372036854775808 ≤ k0 + 7 * (j : Int) + 2 := by omega
      have t2 : k0 + 7 * (j : Int) + 2 ≤ 9223372036854775807 := by omega
      have s3 : -9223372036854775808 ≤ k0 + 7 * (j : Int) + 3 := by omega
      have t3 : k0 + 7 * (j : Int) + 3 ≤ 9223372036854775807 := by omega
      have s4 : -9223372036854775808 ≤ k0 + 7 * (j : Int) + 4 := by omega
      have t4 : k0 + 7 * (j : Int) + 4 ≤ 9223372036854775807 := by omega
      have s5 : -9223372036854775808 ≤ k0 + 7 * (j : Int) + 5 := by omega
      have t5 : k0 + 7 * (j : Int) + 5 ≤ 9223372036854775807 := by omega
      have s6 : -9223372036854775808 ≤ k0 + 7 * (j : Int) + 6 := by omega
      have t6 : k0 + 7 * (j : Int) + 6 ≤ 9223372036854775807 := by omega
      have s7 : -9223372036854775808 ≤ k0 + 7 * (j : Int) + 7 := by omega
      have t7 : k0 + 7 * (j : Int) + 7 ≤ 9223372036854775807 := by omega
      obtain ⟨K, hK⟩ : ∃ K, k0 + 7 * (j : Int) = K := ⟨_, rfl⟩
      have HK := hide hK
      simp only [hK] at s1 t1 s2 t2 s3 t3 s4 t4 s5 t5 s6 t6 s7 t7 c0 c1 c2 c3 c4 c5 c6 ⊢
      clear hx hK
      go_wp2_with fail
      go_round
      case rel =>
        refine ⟨j + 1, by omega, by go_num, ?_⟩
        have := HK.out
        congr 1
        omega
      case measure => simp [intOf]; omega
    · obtain rfl : j = n := by omega
      clear hlt
      go_wp2_with fail
      go_ret
      exact ⟨rfl, rfl⟩
/-- An order whose slices are the call's own, each in a block of its own. -/
structure RqOwn (w : World) (base : Nat) (r : Rq) (v1 v2 v3 : Value) : Prop where
  pr : Own 2 encPr 82 w base v1 r.pairs
  ty : Own 7 encTy 84 w base v2 r.types
  it : Own 7 encIt 86 w base v3 r.items
  d12 : ∀ z, v1.ownBlock = some z → v2.ownBlock ≠ some z
  d13 : ∀ z, v1.ownBlock = some z → v3.ownBlock ≠ some z
  d23 : ∀ z, v2.ownBlock = some z → v3.ownBlock ≠ some z
section
variable {w w' : World} {base : Nat} {r : Rq} {v1 v2 v3 : Value}
theorem RqOwn.below (h : RqOwn w base r v1 v2 v3) (hb : Below w.heap.size w w') : RqOwn w' base r v1 v2 v3 := ⟨h.pr.below hb, h.ty.below hb, h.it.below hb, h.d12, h.d13, h.d23⟩
theorem RqOwn.alloc (h : RqOwn w base r v1 v2 v3) (o : Obj) : RqOwn (w.alloc o) base r v1 v2 v3 := ⟨h.pr.alloc o, h.ty.alloc o, h.it.alloc o, h.d12, h.d13, h.d23⟩
theorem RqOwn.drew (h : RqOwn w base r v1 v2 v3) : RqOwn w.drew base r v1 v2 v3 := ⟨h.pr, h.ty, h.it, h.d12, h.d13, h.d23⟩
theorem own_away {α : Type} {k : Nat} {enc : α → List Value} {e : TypeId} {v : Value} {xs : List α} {g : Option Nat} (h : Own k enc e w base v xs) (hg : w.grownBy w' g) (hne : ∀ z, v.ownBlock = some z → g ≠ some z) : Own k enc e w' base v xs := by
  refine h.grown hg ?_
  cases hq : v.ownBlock with
  | none => exact .inl rfl
  | some z => exact .inr fun e => hne z hq e.symm
theorem RqOwn.away {g : Nat} (h : RqOwn w base r v1 v2 v3) (hg : w.grownBy w' (some g)) (hb : g < base) : RqOwn w' base r v1 v2 v3 :=
  ⟨own_away h.pr hg fun z hz e => by have := (h.pr.lt z hz).1; have := Option.some.inj e; omega, own_away h.ty hg fun z hz e => by have := (h.ty.lt z hz).1; have := Option.some.inj e; omega, own_away h.it hg fun z hz e => by have := (h.it.lt z hz).1; have := Option.some.inj e; omega, h.d12, h.d13, h.d23⟩
theorem RqOwn.rqAt (h : RqOwn w base r v1 v2 v3) : ∃ A1 c1 A2 c2 A3 c3, v1 = .slice A1 r.pairs.length c1 ∧ v2 = .slice A2 r.types.length c2 ∧ v3 = .slice A3 r.items.length c3 ∧ RqAt w base w.heap.size r A1 r.pairs.length c1 A2 r.types.length c2 A3 r.items.length c3 := by
  obtain ⟨A1, c1, e1, s1⟩ := h.pr.slk encPr_len
  obtain ⟨A2, c2, e2, s2⟩ := h.ty.slk encTy_len
  obtain ⟨A3, c3, e3, s3⟩ := h.it.slk encIt_len
  exact ⟨A1, c1, A2, c2, A3, c3, e1, e2, e3, s1, s2, s3⟩
theorem RqOwn.nil_ (w : World) (base : Nat) (r : Rq) (h1 : r.pairs = []) (h2 : r.types = []) (h3 : r.items = []) : RqOwn w base r (.slice none 0 0) (.slice none 0 0) (.slice none 0 0) :=
  ⟨(by rw [h1]; exact Own.nil_ _ _), (by rw [h2]; exact Own.nil_ _ _), (by rw [h3]; exact Own.nil_ _ _), (fun z h => by cases h), (fun z h => by cases h), (fun z h => by cases h)⟩
end
def mkRq (r : Rq) : Rq := { r with pairs := mkPr 1 r.pairs.length, types := mkTy (1 + 2 * (r.pairs.length : Int)) r.types.length, items := mkIt (1 + 2 * (r.pairs.length : Int) + 7 * (r.types.length : Int)) r.items.length }
set_option maxRecDepth 20000 in
set_option maxHeartbeats 1000000 in
theorem markRequest_own (r : Rq) (v1 v2 v3 : Value) (base : Nat) (w : World) (h : RqOwn w base r v1 v2 v3) (hB : base ≤ w.heap.size) (hn : r.pairs.length + r.types.length + r.items.length ≤ 1048576) :
    Calls Tryd.prog 31 #[.agg #[.int .i64 r.way, .int .i64 r.pal.w, .int .i64 r.pal.d, .int .i64 r.pal.h, .int .i64 r.pal.gram, .int .i64 r.cls, v1, v2, .int .i64 r.master, v3], .int .i64 1] w fun e w' => e = .returned (.int .i64 (1 + 2 * r.pairs.length + 7 * r.types.length + 7 * r.items.length)) ∧ RqOwn w' base (mkRq r) v1 v2 v3 ∧ Below base w w' := by
  have H0 := hide (h.alloc (.cells #[.int .i64 r.way, .int .i64 r.pal.w, .int .i64 r.pal.d, .int .i64 r.pal.h, .int .i64 r.pal.gram, .int .i64 r.cls, v1, v2, .int .i64 r.master, v3] 41))
  have P0 := hide (Blk.new w 41 #[.int .i64 r.way, .int .i64 r.pal.w, .int .i64 r.pal.d, .int .i64 r.pal.h, .int .i64 r.pal.gram, .int .i64 r.cls, v1, v2, .int .i64 r.master, v3] (g := w.heap.size) rfl)
  have L0 := hide ((Below.refl base w).alloc hB (.cells #[.int .i64 r.way, .int .i64 r.pal.w, .int .i64 r.pal.d, .int .i64 r.pal.h, .int .i64 r.pal.gram, .int .i64 r.cls, v1, v2, .int .i64 r.master, v3] 41))
  have q1 := hide (fun z hz => (h.pr.lt z hz))
  have q2 := hide (fun z hz => (h.ty.lt z hz))
  have q3 := hide (fun z hz => (h.it.lt z hz))
  have zz : w.heap.size + 1 = (w.alloc (.cells #[.int .i64 r.way, .int .i64 r.pal.w, .int .i64 r.pal.d, .int .i64 r.pal.h, .int .i64 r.pal.gram, .int .i64 r.cls, v1, v2, .int .i64 r.master, v3] 41)).heap.size := by simp
  have HR := hide (show mkRq r = { r with pairs := mkPr 1 r.pairs.length, types := mkTy (1 + 2 * (r.pairs.length : Int)) r.types.length, items := mkIt (1 + 2 * (r.pairs.length : Int) + 7 * (r.types.length : Int)) r.items.length } from rfl)
  have D12 := hide h.d12
  have D13 := hide h.d13
  have D23 := hide h.d23
  have kR := P0.out.cell
  have yR := P0.out.lt
  clear h
  obtain ⟨w0, hw0⟩ : ∃ w0, w.alloc (.cells #[.int .i64 r.way, .int .i64 r.pal.w, .int .i64 r.pal.d, .int .i64 r.pal.h, .int .i64 r.pal.gram, .int .i64 r.cls, v1, v2, .int .i64 r.master, v3] 41) = w0 := ⟨_, rfl⟩
  have HW0 := hide hw0
  rw [hw0] at H0 P0 L0 zz kR yR
  clear hw0
  go_enter Tryd.func31, Tryd.ntmps31
  go_wp2_with fail
  rw [HW0.out]
  refine (markPairS_own 1 base v1 r.pairs w0 H0.out.pr (by omega) (by omega) (by omega)).mono ?_
  rintro e w1 ⟨rfl, ho1, hg1⟩
  have z1 := hg1.size
  have L1 := hide (L0.out.grown hg1 (by omega) (fun z hz => (q1.out z hz).1))
  have P1 := hide (P0.out.grown hg1 (fun e => by have := q1.out _ e.symm; omega))
  have HO1 := hide ho1
  have HT1 := hide (own_away H0.out.ty hg1 fun z hz e => D12.out z e hz)
  have HI1 := hide (own_away H0.out.it hg1 fun z hz e => D13.out z e hz)
  clear kR yR ho1 hg1
  have kR := P1.out.cell
  have yR := P1.out.lt
  go_wp2_with fail
  refine (markTypeS_own (1 + 2 * r.pairs.length) base v2 r.types w1 HT1.out (by omega) (by omega) (by omega)).mono ?_
  rintro e w2 ⟨rfl, ho2, hg2⟩
  have z2 := hg2.size
  have L2 := hide (L1.out.grown hg2 (by omega) (fun z hz => (q2.out z hz).1))
  have P2 := hide (P1.out.grown hg2 (fun e => by have := q2.out _ e.symm; omega))
  have HO2 := hide (own_away HO1.out hg2 fun z hz e => D12.out z hz e)
  have HT2 := hide ho2
  have HI2 := hide (own_away HI1.out hg2 fun z hz e => D23.out z e hz)
  clear kR yR ho2 hg2
  have kR := P2.out.cell
  have yR := P2.out.lt
  go_wp2_with fail
  refine (markItemS_own (1 + 2 * r.pairs.length + 7 * r.types.length) base v3 r.items w2 HI2.out (by omega) (by omega) (by omega)).mono ?_
  rintro e w3 ⟨rfl, ho3, hg3⟩
  have L3 := hide (L2.out.grown hg3 (by omega) (fun z hz => (q3.out z hz).1))
  have HO3 := hide (own_away HO2.out hg3 fun z hz e => D13.out z hz e)
  have HT3 := hide (own_away HT2.out hg3 fun z hz e => D23.out z hz e)
  have HI3 := hide ho3
  clear kR yR ho3 hg3
  go_wp2_with fail
  go_ret
  refine ⟨rfl, ?_, L3.out⟩
  rw [HR.out]
  exact ⟨HO3.out, HT3.out, HI3.out, D12.out, D13.out, D23.out⟩
set_option maxRecDepth 20000 in
set_option maxHeartbeats 1000000 in
theorem heldRequest_any (r : Rq) (A1 A2 A3 : Option Addr) (n1 n2 n3 c1 c2 c3 : Nat) (lo hi : Nat) (w : World) (hr : RqAt w lo hi (mkRq r) A1 n1 c1 A2 n2 c2 A3 n3 c3) (hB : hi ≤ w.heap.size) (e1 : r.pairs.length = n1) (e2 : r.types.length = n2) (e3 : r.items.length = n3) (hn : n1 + n2 + n3 ≤ 1048576) :
    Calls Tryd.prog 32 #[.agg #[.int .i64 r.way, .int .i64 r.pal.w, .int .i64 r.pal.d, .int .i64 r.pal.h, .int .i64 r.pal.gram, .int .i64 r.cls, .slice A1 n1 c1, .slice A2 n2 c2, .int .i64 r.master, .slice A3 n3 c3], .int .i64 1] w fun e w' => e = .returned (.int .i64 (1 + 2 * n1 + 7 * n2 + 7 * n3)) ∧ Below w.heap.size w w' := by
  have E1 : (mkRq r).pairs = mkPr 1 n1 := by rw [← e1]; rfl
  have E2 : (mkRq r).types = mkTy (1 + 2 * n1) n2 := by rw [← e1, ← e2]; rfl
  have E3 : (mkRq r).items = mkIt (1 + 2 * n1 + 7 * n2) n3 := by rw [← e1, ← e2, ← e3]; rfl
  have HR1 := hr.pr
  have HR2 := hr.ty
  have HR3 := hr.it
  rw [E1] at HR1
  rw [E2] at HR2
  rw [E3] at HR3
  have P0 := hide (Blk.new w 41 #[.int .i64 r.way, .int .i64 r.pal.w, .int .i64 r.pal.d, .int .i64 r.pal.h, .int .i64 r.pal.gram, .int .i64 r.cls, .slice A1 n1 c1, .slice A2 n2 c2, .int .i64 r.master, .slice A3 n3 c3] (g := w.heap.size) rfl)
  have H1 := hide (HR1.alloc hB (.cells #[.int .i64 r.way, .int .i64 r.pal.w, .int .i64 r.pal.d, .int .i64 r.pal.h, .int .i64 r.pal.gram, .int .i64 r.cls, .slice A1 n1 c1, .slice A2 n2 c2, .int .i64 r.master, .slice A3 n3 c3] 41))
  have H2 := hide (HR2.alloc hB (.cells #[.int .i64 r.way, .int .i64 r.pal.w, .int .i64 r.pal.d, .int .i64 r.pal.h, .int .i64 r.pal.gram, .int .i64 r.cls, .slice A1 n1 c1, .slice A2 n2 c2, .int .i64 r.master, .slice A3 n3 c3] 41))
  have H3 := hide (HR3.alloc hB (.cells #[.int .i64 r.way, .int .i64 r.pal.w, .int .i64 r.pal.d, .int .i64 r.pal.h, .int .i64 r.pal.gram, .int .i64 r.cls, .slice A1 n1 c1, .slice A2 n2 c2, .int .i64 r.master, .slice A3 n3 c3] 41))
  have L0 := hide ((Below.refl w.heap.size w).alloc (Nat.le_refl _) (.cells #[.int .i64 r.way, .int .i64 r.pal.w, .int .i64 r.pal.d, .int .i64 r.pal.h, .int .i64 r.pal.gram, .int .i64 r.cls, .slice A1 n1 c1, .slice A2 n2 c2, .int .i64 r.master, .slice A3 n3 c3] 41))
  have g1 : ¬ ((1 : Int) + 2 * (n1 : Int) < 0) := by omega
  have g2 : ¬ ((1 : Int) + 2 * (n1 : Int) + 7 * (n2 : Int) < 0) := by omega
  have g3 : ¬ ((1 : Int) + 2 * (n1 : Int) + 7 * (n2 : Int) + 7 * (n3 : Int) < 0) := by omega
  have kR := P0.out.cell
  have yR := P0.out.lt
  clear hr HR1 HR2 HR3 E1 E2 E3 e1 e2 e3
  obtain ⟨w0, hw0⟩ : ∃ w0, w.alloc (.cells #[.int .i64 r.way, .int .i64 r.pal.w, .int .i64 r.pal.d, .int .i64 r.pal.h, .int .i64 r.pal.gram, .int .i64 r.cls, .slice A1 n1 c1, .slice A2 n2 c2, .int .i64 r.master, .slice A3 n3 c3] 41) = w0 := ⟨_, rfl⟩
  have HW0 := hide hw0
  rw [hw0] at P0 H1 H2 H3 L0 kR yR
  clear hw0
  go_enter Tryd.func32, Tryd.ntmps32
  go_wp2_with fail
  rw [HW0.out]
  refine (heldPairS_any 1 lo hi A1 n1 c1 w0 H1.out (by omega) (by omega) (by omega)).mono ?_
  rintro e w1 ⟨rfl, rfl⟩
  go_wp2_with fail
  refine (heldTypeS_any (1 + 2 * n1) lo hi A2 n2 c2 w0 H2.out (by omega) (by omega) (by omega)).mono ?_
  rintro e w2 ⟨rfl, rfl⟩
  go_wp2_with fail
  refine (heldItemS_any (1 + 2 * n1 + 7 * n2) lo hi A3 n3 c3 w0 H3.out (by omega) (by omega) (by omega)).mono ?_
  rintro e w3 ⟨rfl, rfl⟩
  go_wp2_with fail
  go_ret
  exact ⟨rfl, L0.out⟩
end Go.Proofs.YtcjcmdikopipjaaDoor
