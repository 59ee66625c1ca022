/- Keys as they are drawn, and the laws' small functions. -/
import Derived.Test.YtcjcmdikopipjaaDoorDr
import Derived.Test.YtcjcmdikopipjaaDoorMrg
import Derived.Test.YtcjcmdikopipjaaDoorCur
namespace Go.Proofs.YtcjcmdikopipjaaDoor
open Go.ChangeShapes Go.WideShapes Go.ChangeAt Go.RowKit Go.Deep
set_option linter.unusedVariables false
set_option linter.unusedSimpArgs false

theorem take_snoc {α : Type} {xs : List α} {k : Nat} {x : α} (hx : xs[k]? = some x) : xs.take (k + 1) = xs.take k ++ [x] := by
  rw [List.take_add_one, hx]; rfl
theorem ownK_lit0 {α : Type} {enc : α → List Value} (w : World) (e : TypeId) (base : Nat) (hb : base ≤ w.heap.size) {g : Nat} (hg : g = w.heap.size) : Own 1 enc e (w.alloc (.cells #[] e)) base (.slice (some ⟨g, 0, none⟩) 0 0) ([] : List α) := by
  subst hg
  have := World.ownsRow_lit (base := base) (size := 1) (e := e) w #[] 0 hb (by simp [maxLen]) rfl
  show World.ownsRow _ base e 1 _ 0 []
  exact this
theorem grownK_far {a b c : World} {r1 r2 : Option Nat} (h1 : a.grownBy b r1) (h2 : b.grownBy c r2) (h : ∀ x, r2 = some x → a.heap.size ≤ x) : a.grownBy c r1 :=
  ⟨h2.os.trans h1.os, h2.tape.trans h1.tape, h2.output.trans h1.output, Nat.le_trans h1.size h2.size, fun i hi hne => (h2.block i (by have := h1.size; omega) (fun e => by have := h i e.symm; omega)).trans (h1.block i hi hne)⟩
theorem ownK_call {α : Type} {k : Nat} {enc : α → List Value} {w w' : World} {e : TypeId} {base : Nat} {v : Value} {xs : List α} {r : Option Nat} (h : Own k enc e w base v xs) (hg : w.grownBy w' r) (hr : ∀ x, r = some x → x < base) : Own k enc e w' base v xs := by
  obtain ⟨h1, h2⟩ := h
  refine ⟨h1, ?_⟩
  rcases h2 with h2 | ⟨g, cap, cur, hv, hgb, hh, rest⟩
  · exact .inl h2
  · exact .inr ⟨g, cap, cur, hv, hgb, (hg.block g (Array.getElem?_eq_some_iff.1 hh).1 (fun e => by have := hr g e.symm; omega)).trans hh, rest⟩
set_option maxRecDepth 20000 in
set_option maxHeartbeats 2000000 in
theorem l1Keys_any (g : Nat) (A : Option Addr) (n c : Nat) (bs : List Int) (w : World) (hc : CurAt 128 w g A n c bs) :
    Calls Tryd.prog 58 #[.pointer (some ⟨g, 0, none⟩)] w fun e w' => (∃ (xs : List Int) (A1 : Option Addr) (n1 c1 : Nat), e = .returned (.slice A1 n1 c1) ∧ SlK 1 encInt w' w.heap.size w'.heap.size A1 n1 c1 xs ∧ n1 ≤ 9) ∧ CurAt 128 w' g A n c bs ∧ w.grownBy w' (some g) := by
  have hgl := hc.lt
  go_enter Tryd.func58, Tryd.ntmps58
  go_wp2_with fail
  refine (l1Below_any 9 (by omega) (by omega) g A n c bs _ (hc.alloc _)).mono ?_
  rintro e w1 ⟨⟨x, rfl, hx0, hx1⟩, hc1, hg1⟩
  obtain ⟨m, rfl⟩ := Int.eq_ofNat_of_zero_le hx0
  have hm8 : m ≤ 8 := by omega
  have HO1 := hide (ownK_call (ownK_lit0 (α := Int) (enc := encInt) w 3 w.heap.size (Nat.le_refl _) rfl) hg1 (fun x hx => by have hx' : g = x := Option.some.inj hx; omega))
  have HC1 := hide hc1
  have HG1 := hide (grown_trans (grown_alloc w (some g) _) hg1)
  have z1 : w.heap.size + 1 ≤ w1.heap.size := by simpa using hg1.size
  clear hc1 hg1 hc
  go_wp2_with fail
  go_loopw [3, 5] (fun o i wr => ∃ (k : Nat) (xs : List Int), k ≤ m ∧ i = .int .i64 k ∧ xs.length = k ∧ Own 1 encInt 3 wr w.heap.size o xs ∧ CurAt 128 wr g A n c bs ∧ w.grownBy wr (some g)) (fun _ i _ => m - (intOf i).toNat)
  case atStart => exact ⟨0, [], Nat.zero_le _, rfl, rfl, HO1.out, HC1.out, HG1.out⟩
  case round =>
    clear HO1 HC1 HG1
    obtain ⟨k, xs, hk, rfl, hl, ho, hc, hg⟩ := hrel
    have HO := hide ho
    have HC := hide hc
    have HG := hide hg
    have HL := hide hl
    have y := hg.size
    clear ho hc hg hl
    by_cases hlt : k < m
    · have i1 : (k : Int) < (m : Int) := by omega
      go_wp2_with fail
      refine (l1PickInt_any (some ⟨wr.heap.size, 0, none⟩) 7 7 [0, 1, 2, 3, 7, -5, 1000000000] wr.heap.size (wr.heap.size + 1) (by omega) (by omega) g A n c bs _ (slk_new encInt_len _ [0, 1, 2, 3, 7, -5, 1000000000] 7 _ _ rfl (by simp [maxLen]) rfl) (by simp) (.inl (by omega)) (HC.out.alloc _)).mono ?_
      rintro e w2 ⟨⟨x, rfl, hx⟩, hc2, hg2⟩
      have HO2 := hide (ownK_call (HO.out.alloc _) hg2 (fun x hx => by have hx' : g = x := Option.some.inj hx; omega))
      have HC2 := hide hc2
      have HG2 := hide (grown_trans HG.out (grown_trans (grown_alloc _ _ _) hg2))
      have z2 : wr.heap.size + 1 ≤ w2.heap.size := by simpa using hg2.size
      have hnl : xs.length ≤ 4194304 := by rw [HL.out]; omega
      clear hx hc2 hg2 HO HC HG
      go_wp2_with (at_builtin; refine wpList_app rfl _ _ rfl rfl rfl (app1 HO2.out (by omega) hnl x) ?_; intro v' w3 ho3 hg3 hat3; have HO3 := hide ho3; have HC3 := hide ((HC2.out.alloc _).grown hg3 (fun x hx => by have := (HO2.out.lt x hx).1; omega)); have HG3 := hide (grownK_far (grown_trans HG2.out (grown_alloc _ _ _)) hg3 (fun x hx => (HO2.out.lt x hx).1)); clear ho3 hg3 hat3)
      go_roundw
      case rel => exact ⟨k + 1, xs ++ [x], by omega, by go_num, by rw [List.length_append, HL.out]; rfl, HO3.out, HC3.out, HG3.out⟩
      case measure => first | omega | (simp [intOf]; done) | (simp [intOf]; omega)
    · obtain rfl : k = m := by omega
      clear hlt
      have hnl : xs.length ≤ 4194304 := by rw [HL.out]; omega
      go_wp2_with fail
      refine (l1Once_any 10 (by omega) (by omega) g A n c bs _ HC.out).mono ?_
      rintro e w2 ⟨⟨tt, rfl⟩, hc2, hg2⟩
      have HO2 := hide (ownK_call HO.out hg2 (fun x hx => by have hx' : g = x := Option.some.inj hx; omega))
      have HC2 := hide hc2
      have HG2 := hide (grown_trans HG.out hg2)
      have z2 := hg2.size
      clear hc2 hg2 HO HC HG
      cases tt
      · obtain ⟨Ao, co, rfl, so⟩ := Own.slk' encInt_len HL.out HO2.out
        have SO := hide so
        clear so
        go_wp2_with fail
        go_ret
        exact ⟨⟨_, _, _, _, rfl, SO.out, by omega⟩, HC2.out, HG2.out⟩
      · go_wp2_with fail
        refine (l1PickInt_any (some ⟨w2.heap.size, 0, none⟩) 3 3 [9223372036854775807, -9223372036854775808, 1000000001] w2.heap.size (w2.heap.size + 1) (by omega) (by omega) g A n c bs _ (slk_new encInt_len _ [9223372036854775807, -9223372036854775808, 1000000001] 3 _ _ rfl (by simp [maxLen]) rfl) (by simp) (.inl (by omega)) (HC2.out.alloc _)).mono ?_
        rintro e w3 ⟨⟨x, rfl, hx⟩, hc3, hg3⟩
        have HO3 := hide (ownK_call (HO2.out.alloc _) hg3 (fun x hx => by have hx' : g = x := Option.some.inj hx; omega))
        have HC3 := hide hc3
        have HG3 := hide (grown_trans HG2.out (grown_trans (grown_alloc _ _ _) hg3))
        have z3 : w2.heap.size + 1 ≤ w3.heap.size := by simpa using hg3.size
        clear hx hc3 hg3 HO2 HC2 HG2
        go_wp2_with (at_builtin; refine wpList_app rfl _ _ rfl rfl rfl (app1 HO3.out (by omega) hnl x) ?_; intro v' w4 ho4 hg4 hat4; obtain ⟨m4, hm4⟩ : ∃ m4, (xs ++ [x]).length = m4 := ⟨_, rfl⟩; obtain ⟨A4, c4, rfl, s4⟩ := Own.slk' encInt_len hm4 ho4; have hm4b : m4 ≤ 9 := (by have := HL.out; rw [← hm4]; simp; omega); have HS4 := hide s4; have HC4 := hide ((HC3.out.alloc _).grown hg4 (fun x hx => by have := (HO3.out.lt x hx).1; omega)); have HG4 := hide (grownK_far (grown_trans HG3.out (grown_alloc _ _ _)) hg4 (fun x hx => (HO3.out.lt x hx).1)); clear ho4 hg4 hat4 s4 hm4)
        go_ret
        exact ⟨⟨_, _, _, _, rfl, HS4.out, hm4b⟩, HC4.out, HG4.out⟩
set_option maxHeartbeats 1000000 in
theorem drawSortUp_any (A : Option Addr) (n c : Nat) (bs : List Int) (w : World) (hs : SlK 1 encByte w 0 w.heap.size A n c bs) (hb : ∀ b ∈ bs, 0 ≤ b ∧ b ≤ 255) :
    Calls Tryd.prog 23 #[.slice A n c] w fun e w' => (∃ (xs : List Int) (A1 : Option Addr) (n1 c1 : Nat), e = .returned (.slice A1 n1 c1) ∧ SlK 1 encInt w' w.heap.size w'.heap.size A1 n1 c1 xs ∧ n1 ≤ 9) ∧ Below w.heap.size w w' := by
  go_enter Tryd.func23, Tryd.ntmps23
  go_wp2_with fail
  refine (l1New_any A n c bs _ hs hb).mono ?_
  rintro e w1 ⟨rfl, hc1, hb1⟩
  have hgl := hc1.lt
  have z1 := hb1.size
  go_wp2_with fail
  refine (l1Keys_any _ A n c bs _ hc1).mono ?_
  rintro e w2 ⟨⟨xs, A1, n1, c1, rfl, hx, hn1⟩, hc2, hg2⟩
  go_wp2_with fail
  go_ret
  exact ⟨⟨xs, A1, n1, c1, rfl, hx.more (by omega) (Nat.le_refl _), hn1⟩, hb1.grown hg2 (by omega) (fun x hx => by have hx' : w.heap.size = x := Option.some.inj hx; omega)⟩
theorem big_no (A : Option Addr) (n c : Nat) (w : World) (hc : n ≤ c) (hm : c ≤ 9223372036854775807) (h : n ≤ 1048576) :
    Calls Tryd.prog 19 #[.slice A n c] w fun e w' => e = .returned (.bool false) ∧ w = w' := by
  have h2 : ¬ ((1048576 : Int) < (n : Int)) := by omega
  go_enter Tryd.func19, Tryd.ntmps19
  go_wp2
  go_ret
  exact ⟨rfl, rfl⟩
theorem big_yes (A : Option Addr) (n c : Nat) (w : World) (hc : n ≤ c) (hm : c ≤ 9223372036854775807) (h : ¬ n ≤ 1048576) :
    Calls Tryd.prog 19 #[.slice A n c] w fun e w' => e = .returned (.bool true) ∧ w = w' := by
  have h2 : (1048576 : Int) < (n : Int) := by omega
  go_enter Tryd.func19, Tryd.ntmps19
  go_wp2
  go_ret
  exact ⟨rfl, rfl⟩
end Go.Proofs.YtcjcmdikopipjaaDoor
