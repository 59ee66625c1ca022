/- Keys as they are drawn, and the laws' small functions. -/
import Derived.Test.YtcjcmdikopipjaaDr
import Derived.Test.YtcjcmdikopipjaaMrg
import Derived.Test.YtcjcmdikopipjaaCur
namespace Go.Proofs.Ytcjcmdikopipjaa
open Go.ChangeShapes Go.WideShapes Go.ChangeAt Go.RowKit Go.Deep
set_option linter.unusedVariables false
set_option linter.unusedSimpArgs false

theorem take_snoc {α : Type} {xs : List α} {k : Nat} {x : α} (hx : xs[k]? = some x) : xs.take (k + 1) = xs.take k ++ [x] := by
  rw [List.take_add_one, hx]; rfl
theorem ownK_lit0 {α : Type} {enc : α → List Value} (w : World) (e : TypeId) (base : Nat) (hb : base ≤ w.heap.size) {g : Nat} (hg : g = w.heap.size) : Own 1 enc e (w.alloc (.cells #[] e)) base (.slice (some ⟨g, 0, none⟩) 0 0) ([] : List α) := by
  subst hg
  have := World.ownsRow_lit (base := base) (size := 1) (e := e) w #[] 0 hb (by simp [maxLen]) rfl
  show World.ownsRow _ base e 1 _ 0 []
  exact this
theorem grownK_far {a b c : World} {r1 r2 : Option Nat} (h1 : a.grownBy b r1) (h2 : b.grownBy c r2) (h : ∀ x, r2 = some x → a.heap.size ≤ x) : a.grownBy c r1 :=
  ⟨h2.os.trans h1.os, h2.tape.trans h1.tape, h2.output.trans h1.output, Nat.le_trans h1.size h2.size, fun i hi hne => (h2.block i (by have := h1.size; omega) (fun e => by have := h i e.symm; omega)).trans (h1.block i hi hne)⟩
theorem ownK_call {α : Type} {k : Nat} {enc : α → List Value} {w w' : World} {e : TypeId} {base : Nat} {v : Value} {xs : List α} {r : Option Nat} (h : Own k enc e w base v xs) (hg : w.grownBy w' r) (hr : ∀ x, r = some x → x < base) : Own k enc e w' base v xs := by
  obtain ⟨h1, h2⟩ := h
  refine ⟨h1, ?_⟩
  rcases h2 with h2 | ⟨g, cap, cur, hv, hgb, hh, rest⟩
  · exact .inl h2
  · exact .inr ⟨g, cap, cur, hv, hgb, (hg.block g (Array.getElem?_eq_some_iff.1 hh).1 (fun e => by have := hr g e.symm; omega)).trans hh, rest⟩
set_option maxRecDepth 20000 in
set_option maxHeartbeats 2000000 in
theorem l1Keys_any (g : Nat) (A : Option Addr) (n c : Nat) (bs : List Int) (w : World) (hc : CurAt 92 w g A n c bs) :
    Calls Try.prog 28 #[.pointer (some ⟨g, 0, none⟩)] w fun e w' => (∃ (xs : List Int) (A1 : Option Addr) (n1 c1 : Nat), e = .returned (.slice A1 n1 c1) ∧ SlK 1 encInt w' w.heap.size w'.heap.size A1 n1 c1 xs ∧ n1 ≤ 9) ∧ CurAt 92 w' g A n c bs ∧ w.grownBy w' (some g) := by
  have hgl := hc.lt
  go_enter Try.func28, Try.ntmps28
  go_wp2_with fail
  refine (l1Below_any 9 (by omega) (by omega) g A n c bs _ (hc.alloc _)).mono ?_
  rintro e w1 ⟨⟨x, rfl, hx0, hx1⟩, hc1, hg1⟩
  obtain ⟨m, rfl⟩ := Int.eq_ofNat_of_zero_le hx0
  have hm8 : m ≤ 8 := by omega
  have HO1 := hide (ownK_call (ownK_lit0 (α := Int) (enc := encInt) w 3 w.heap.size (Nat.le_refl _) rfl) hg1 (fun x hx => by have hx' : g = x := Option.some.inj hx; omega))
  have HC1 := hide hc1
  have HG1 := hide (grown_trans (grown_alloc w (some g) _) hg1)
  have z1 : w.heap.size + 1 ≤ w1.heap.size := by simpa using hg1.size
  clear hc1 hg1 hc
  go_wp2_with fail
  go_loopw [3, 5] (fun o i wr => ∃ (k : Nat) (xs : List Int), k ≤ m ∧ i = .int .i64 k ∧ xs.length = k ∧ Own 1 encInt 3 wr w.heap.size o xs ∧ CurAt 92 wr g A n c bs ∧ w.grownBy wr (some g)) (fun _ i _ => m - (intOf i).toNat)
  case atStart => exact ⟨0, [], Nat.zero_le _, rfl, rfl, HO1.out, HC1.out, HG1.out⟩
  case round =>
    clear HO1 HC1 HG1
    obtain ⟨k, xs, hk, rfl, hl, ho, hc, hg⟩ := hrel
    have HO := hide ho
    have HC := hide hc
    have HG := hide hg
    have HL := hide hl
    have y := hg.size
    clear ho hc hg hl
    by_cases hlt : k < m
    · have i1 : (k : Int) < (m : Int) := by omega
      go_wp2_with fail
      refine (l1PickInt_any (some ⟨wr.heap.size, 0, none⟩) 7 7 [0, 1, 2, 3, 7, -5, 1000000000] wr.heap.size (wr.heap.size + 1) (by omega) (by omega) g A n c bs _ (slk_new encInt_len _ [0, 1, 2, 3, 7, -5, 1000000000] 7 _ _ rfl (by simp [maxLen]) rfl) (by simp) (.inl (by omega)) (HC.out.alloc _)).mono ?_
      rintro e w2 ⟨⟨x, rfl, hx⟩, hc2, hg2⟩
      have HO2 := hide (ownK_call (HO.out.alloc _) hg2 (fun x hx => by have hx' : g = x := Option.some.inj hx; omega))
      have HC2 := hide hc2
      have HG2 := hide (grown_trans HG.out (grown_trans (grown_alloc _ _ _) hg2))
      have z2 : wr.heap.size + 1 ≤ w2.heap.size := by simpa using hg2.size
      have hnl : xs.length ≤ 4194304 := by rw [HL.out]; omega
      clear hx hc2 hg2 HO HC HG
      go_wp2_with (at_builtin; refine wpList_app rfl _ _ rfl rfl rfl (app1 HO2.out (by omega) hnl x) ?_; intro v' w3 ho3 hg3 hat3; have HO3 := hide ho3; have HC3 := hide ((HC2.out.alloc _).grown hg3 (fun x hx => by have := (HO2.out.lt x hx).1; omega)); have HG3 := hide (grownK_far (grown_trans HG2.out (grown_alloc _ _ _)) hg3 (fun x hx => (HO2.out.lt x hx).1)); clear ho3 hg3 hat3)
      go_roundw
      case rel => exact ⟨k + 1, xs ++ [x], by omega, by go_num, by rw [List.length_append, HL.out]; rfl, HO3.out, HC3.out, HG3.out⟩
      case measure => first | omega | (simp [intOf]; done) | (simp [intOf]; omega)
    · obtain rfl : k = m := by omega
      clear hlt
      have hnl : xs.length ≤ 4194304 := by rw [HL.out]; omega
      go_wp2_with fail
      refine (l1Once_any 10 (by omega) (by omega) g A n c bs _ HC.out).mono ?_
      rintro e w2 ⟨⟨tt, rfl⟩, hc2, hg2⟩
      have HO2 := hide (ownK_call HO.out hg2 (fun x hx => by have hx' : g = x := Option.some.inj hx; omega))
      have HC2 := hide hc2
      have HG2 := hide (grown_trans HG.out hg2)
      have z2 := hg2.size
      clear hc2 hg2 HO HC HG
      cases tt
      · obtain ⟨Ao, co, rfl, so⟩ := Own.slk' encInt_len HL.out HO2.out
        have SO := hide so
        clear so
        go_wp2_with fail
        go_ret
        exact ⟨⟨_, _, _, _, rfl, SO.out, by omega⟩, HC2.out, HG2.out⟩
      · go_wp2_with fail
        refine (l1PickInt_any (some ⟨w2.heap.size, 0, none⟩) 3 3 [9223372036854775807, -9223372036854775808, 1000000001] w2.heap.size (w2.heap.size + 1) (by omega) (by omega) g A n c bs _ (slk_new encInt_len _ [9223372036854775807, -9223372036854775808, 1000000001] 3 _ _ rfl (by simp [maxLen]) rfl) (by simp) (.inl (by omega)) (HC2.out.alloc _)).mono ?_
        rintro e w3 ⟨⟨x, rfl, hx⟩, hc3, hg3⟩
        have HO3 := hide (ownK_call (HO2.out.alloc _) hg3 (fun x hx => by have hx' : g = x := Option.some.inj hx; omega))
        have HC3 := hide hc3
        have HG3 := hide (grown_trans HG2.out (grown_trans (grown_alloc _ _ _) hg3))
        have z3 : w2.heap.size + 1 ≤ w3.heap.size := by simpa using hg3.size
        clear hx hc3 hg3 HO2 HC2 HG2
        go_wp2_with (at_builtin; refine wpList_app rfl _ _ rfl rfl rfl (app1 HO3.out (by omega) hnl x) ?_; intro v' w4 ho4 hg4 hat4; obtain ⟨m4, hm4⟩ : ∃ m4, (xs ++ [x]).length = m4 := ⟨_, rfl⟩; obtain ⟨A4, c4, rfl, s4⟩ := Own.slk' encInt_len hm4 ho4; have hm4b : m4 ≤ 9 := (by have := HL.out; rw [← hm4]; simp; omega); have HS4 := hide s4; have HC4 := hide ((HC3.out.alloc _).grown hg4 (fun x hx => by have := (HO3.out.lt x hx).1; omega)); have HG4 := hide (grownK_far (grown_trans HG3.out (grown_alloc _ _ _)) hg4 (fun x hx => (HO3.out.lt x hx).1)); clear ho4 hg4 hat4 s4 hm4)
        go_ret
        exact ⟨⟨_, _, _, _, rfl, HS4.out, hm4b⟩, HC4.out, HG4.out⟩
set_option maxHeartbeats 1000000 in
theorem drawSortUp_any (A : Option Addr) (n c : Nat) (bs : List Int) (w : World) (hs : SlK 1 encByte w 0 w.heap.size A n c bs) (hb : ∀ b ∈ bs, 0 ≤ b ∧ b ≤ 255) :
    Calls Try.prog 12 #[.slice A n c] w fun e w' => (∃ (xs : List Int) (A1 : Option Addr) (n1 c1 : Nat), e = .returned (.slice A1 n1 c1) ∧ SlK 1 encInt w' w.heap.size w'.heap.size A1 n1 c1 xs ∧ n1 ≤ 9) ∧ Below w.heap.size w w' := by
  go_enter Try.func12, Try.ntmps12
  go_wp2_with fail
  refine (l1New_any A n c bs _ hs hb).mono ?_
  rintro e w1 ⟨rfl, hc1, hb1⟩
  have hgl := hc1.lt
  have z1 := hb1.size
  go_wp2_with fail
  refine (l1Keys_any _ A n c bs _ hc1).mono ?_
  rintro e w2 ⟨⟨xs, A1, n1, c1, rfl, hx, hn1⟩, hc2, hg2⟩
  go_wp2_with fail
  go_ret
  exact ⟨⟨xs, A1, n1, c1, rfl, hx.more (by omega) (Nat.le_refl _), hn1⟩, hb1.grown hg2 (by omega) (fun x hx => by have hx' : w.heap.size = x := Option.some.inj hx; omega)⟩
theorem big_no (A : Option Addr) (n c : Nat) (w : World) (hc : n ≤ c) (hm : c ≤ 9223372036854775807) (h : n ≤ 1048576) :
    Calls Try.prog 11 #[.slice A n c] w fun e w' => e = .returned (.bool false) ∧ w = w' := by
  have h2 : ¬ ((1048576 : Int) < (n : Int)) := by omega
  go_enter Try.func11, Try.ntmps11
  go_wp2
  go_ret
  exact ⟨rfl, rfl⟩
theorem big_yes (A : Option Addr) (n c : Nat) (w : World) (hc : n ≤ c) (hm : c ≤ 9223372036854775807) (h : ¬ n ≤ 1048576) :
    Calls Try.prog 11 #[.slice A n c] w fun e w' => e = .returned (.bool true) ∧ w = w' := by
  have h2 : (1048576 : Int) < (n : Int) := by omega
  go_enter Try.func11, Try.ntmps11
  go_wp2
  go_ret
  exact ⟨rfl, rfl⟩
def cntL (xs : List Int) (v : Int) : Nat := xs.countP fun y => y == v
theorem cntL_snoc {xs : List Int} {k : Nat} {x v : Int} (hx : xs[k]? = some x) : cntL (xs.take (k + 1)) v = cntL (xs.take k) v + (if x == v then 1 else 0) := by
  unfold cntL
  rw [take_snoc hx, List.countP_append]
  simp [List.countP_cons]
theorem cntL_le (xs : List Int) (v : Int) (k : Nat) : cntL (xs.take k) v ≤ k := by
  unfold cntL
  have h1 := List.countP_le_length (p := fun y => y == v) (l := xs.take k)
  rw [List.length_take] at h1
  omega
set_option maxHeartbeats 1000000 in
theorem times_any (v : Int) (lo hi : Nat) (A : Option Addr) (n c : Nat) (xs : List Int) (w : World) (hs : SlK 1 encInt w lo hi A n c xs) (hn : n ≤ 1048576) :
    Calls Try.prog 18 #[.slice A n c, .int .i64 v] w fun e w' => e = .returned (.int .i64 (cntL xs v)) ∧ w = w' := by
  have hm := hs.max
  have hc := hs.cap
  have HL := hide hs.len
  go_enter Try.func18, Try.ntmps18
  go_wp2
  go_loop [5, 6] (fun q i => ∃ k : Nat, k ≤ n ∧ i = .int .i64 k ∧ q = .int .i64 (cntL (xs.take k) v)) (fun _ i => n - (intOf i).toNat)
  case atStart => exact ⟨0, Nat.zero_le _, rfl, by simp [cntL]⟩
  case round =>
    obtain ⟨k, hk, rfl, rfl⟩ := hrel
    by_cases hlt : k < n
    · obtain ⟨b0, off, x, hx, rfl, _, hb, c0, _⟩ := hs.int hlt
      have HS := hide (cntL_snoc (v := v) hx)
      have hle := cntL_le xs v k
      obtain ⟨q, hq⟩ : ∃ q, cntL (xs.take k) v = q := ⟨_, rfl⟩
      rw [hq] at hle HS ⊢
      have i0 : (0 : Int) ≤ (k : Int) := by omega
      have i1 : (k : Int) < (n : Int) := by omega
      clear hx hq
      by_cases e : x = v
      · subst e
        go_wp2
        go_round
        case rel => exact ⟨k + 1, by omega, by go_num, by rw [HS.out]; simp⟩
        case measure => first | omega | (simp [intOf]; done) | (simp [intOf]; omega)
      · have HE := hide (show (x == v) = false by simp [e])
        rw [HE.out] at HS
        go_wp2
        go_round
        case rel => exact ⟨k + 1, by omega, by go_num, by rw [HS.out]; simp⟩
        case measure => first | omega | (simp [intOf]; done) | (simp [intOf]; omega)
    · obtain rfl : k = n := by omega
      clear hlt
      have HT := hide (show xs.take k = xs from List.take_of_length_le (by rw [HL.out]; exact Nat.le_refl _))
      rw [HT.out]
      go_wp2
      go_ret
      exact ⟨rfl, rfl⟩
theorem ne_at {α : Type} {xs ys : List α} {k : Nat} {x y : α} (hx : xs[k]? = some x) (hy : ys[k]? = some y) (h : ¬ x = y) : ¬ xs = ys := by
  rintro rfl
  rw [hx] at hy
  exact h (Option.some.inj hy)
set_option maxHeartbeats 800000 in
theorem sameInts_any (lo hi lo' hi' : Nat) (A A' : Option Addr) (n c n' c' : Nat) (xs ys : List Int) (w : World) (hs : SlK 1 encInt w lo hi A n c xs) (hB : hi ≤ w.heap.size) (hs' : SlK 1 encInt w lo' hi' A' n' c' ys) (hB' : hi' ≤ w.heap.size) :
    Calls Try.prog 15 #[.slice A n c, .slice A' n' c'] w fun e w' => e = .returned (.bool (decide (xs = ys))) ∧ Below w.heap.size w w' := by
  have hm := hs.max
  have hc := hs.cap
  have hm' := hs'.max
  have hc' := hs'.cap
  have hl := hs.len
  have hl' := hs'.len
  by_cases hn : n = n'
  case neg =>
    have hnn : ¬ (n : Int) = (n' : Int) := by omega
    have hne : ¬ xs = ys := by
      rintro rfl
      exact hn (hl.symm.trans hl')
    have hd : decide (xs = ys) = false := decide_eq_false hne
    rw [hd]
    clear hl hl' hs hs' hne hd hn
    go_enter Try.func15, Try.ntmps15
    go_wp2
    go_ret
    exact ⟨rfl, Below.refl _ _⟩
  case pos =>
  subst hn
  have HL := hide hl
  have HL' := hide hl'
  clear hl hl'
  go_enter Try.func15, Try.ntmps15
  go_wp2
  go_loopw [5] (fun i wr => ∃ k : Nat, k ≤ n ∧ i = .int .i64 k ∧ Hid (xs.take k = ys.take k) ∧ Below w.heap.size w wr) (fun i _ => n - (intOf i).toNat)
  case atStart => exact ⟨0, Nat.zero_le _, rfl, hide rfl, Below.refl _ _⟩
  case round =>
    obtain ⟨k, hk, rfl, HT, hbel⟩ := hrel
    by_cases hlt : k < n
    · obtain ⟨b0, off, x, hx, rfl, _, hb0, c0, _⟩ := (hs.below hbel hB).int hlt
      obtain ⟨b0', off', x', hx', rfl, _, hb0', d0, _⟩ := (hs'.below hbel hB').int hlt
      have i0 : (0 : Int) ≤ (k : Int) := by omega
      have i1 : (k : Int) < (n : Int) := by omega
      have z0 : b0 < wr.heap.size := by have := hbel.size; omega
      have z1 : b0' < wr.heap.size := by have := hbel.size; omega
      have HX := hide hx
      have HX' := hide hx'
      have HS := hide hs
      have HS' := hide hs'
      clear hs hs' hx hx'
      by_cases hxe : x = x'
      · subst hxe
        have HT2 : Hid (xs.take (k + 1) = ys.take (k + 1)) := hide (by rw [take_snoc HX.out, take_snoc HX'.out, HT.out])
        go_wp2_with fail
        go_quiet (fail)
        go_wp2
        go_roundw
        case rel => exact ⟨k + 1, by omega, by go_num, HT2, below_drewN hbel _⟩
        case measure => simp [intOf]; omega
      · have hd : Hid (decide (xs = ys) = false) := hide (decide_eq_false (ne_at HX.out HX'.out hxe))
        go_wp2_with fail
        go_quiet (fail)
        go_wp2
        go_ret
        exact ⟨by rw [hd.out]; rfl, below_drewN hbel _⟩
    · have hge : n ≤ k := by omega
      have hd : Hid (decide (xs = ys) = true) := hide (decide_eq_true (by
        have := HT.out
        rwa [List.take_of_length_le (by rw [HL.out]; exact hge), List.take_of_length_le (by rw [HL'.out]; exact hge)] at this))
      clear hlt
      go_wp2
      go_ret
      exact ⟨by rw [hd.out]; rfl, hbel⟩
end Go.Proofs.Ytcjcmdikopipjaa
