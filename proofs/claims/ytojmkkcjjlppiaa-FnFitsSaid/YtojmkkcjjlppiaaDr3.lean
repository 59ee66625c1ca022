/- The draws of pairs and of lists of kinds. -/
import Derived.Test.YtojmkkcjjlppiaaRt
import Derived.Test.YtojmkkcjjlppiaaMrg
namespace Go.Proofs.Ytojmkkcjjlppiaa
open Go.ChangeShapes Go.WideShapes Go.ChangeAt Go.RowKit Go.Deep
set_option linter.unusedVariables false
set_option linter.unusedSimpArgs false

theorem appPrS {w : World} {base : Nat} {v : Value} {xs : List Pr} (ho : Own 2 encPr 37 w base v xs) (hb : base ≤ w.heap.size) (hn : xs.length ≤ 4194304) {lo hi m c : Nat} {A : Option Addr} {ys : List Pr} (hs : SlK 2 encPr w lo hi A m c ys) (hm : m ≤ 4194304) :
    AppOk Try.prog 2 encPr w base 29 37 v xs A m c ys where
  hk := encPr_len
  h1 := encPr_one
  ht := Try.underlying29
  info := ⟨zPr, 16, pairInfo, rfl, by omega⟩
  pos := by omega
  own := ho
  src := ⟨_, _, hs⟩
  h63 := by unfold maxLen; omega
  hb := hb
theorem own_litK {α : Type} {k : Nat} {enc : α → List Value} (w : World) (e : TypeId) (base : Nat) (hb : base ≤ w.heap.size) {g : Nat} (hg : g = w.heap.size) : Own k enc e (w.alloc (.cells #[] e)) base (.slice (some ⟨g, 0, none⟩) 0 0) ([] : List α) := by
  subst hg
  have := World.ownsRow_lit (base := base) (size := k) (e := e) w #[] 0 hb (by simp [maxLen]) (by simp)
  show World.ownsRow _ base e k _ 0 []
  exact this
theorem slk_of_own {α : Type} {k : Nat} {enc : α → List Value} (hk : ∀ x, (enc x).length = k) {w : World} {base n c : Nat} {e : TypeId} {A : Option Addr} {xs : List α} (h : Own k enc e w base (.slice A n c) xs) (hn : xs.length = n) : SlK k enc w base w.heap.size A n c xs := by
  obtain ⟨A', c', e', s⟩ := Own.slk' hk hn h
  injection e' with e1 _ e3
  subst e1 e3
  exact s
set_option maxRecDepth 20000 in
set_option maxHeartbeats 2000000 in
theorem l3Pairs_any (g : Nat) (A : Option Addr) (n c : Nat) (bs : List Int) (w : World) (hc : CurAt 97 w g A n c bs) :
    Calls Try.prog 58 #[.pointer (some ⟨g, 0, none⟩)] w fun e w' => (∃ (ps : List Pr) (A1 : Option Addr) (n1 c1 : Nat), e = .returned (.slice A1 n1 c1) ∧ SlK 2 encPr w' w.heap.size w'.heap.size A1 n1 c1 ps ∧ n1 ≤ 33) ∧ CurAt 97 w' g A n c bs ∧ w.grownBy w' (some g) := by
  have hgl := hc.lt
  go_enter Try.func58, Try.ntmps58
  go_wp2_with fail
  refine (l2Right_any g A n c bs _ (hc.alloc _)).mono ?_
  rintro e w1 ⟨⟨r, A1, n1, c1, A2, n2, c2, A3, n3, c3, rfl, hr, hn1, _, _, _⟩, hc1, hg1⟩
  have z1 : w.heap.size + 1 ≤ w1.heap.size := by simpa using hg1.size
  have HS1 := hide (slk_of_own encPr_len hr.pr hr.l1)
  have hl1 := hr.l1
  have HL1 := hide hl1
  have HO1 := hide (own_call (own_litK (α := Pr) (k := 2) (enc := encPr) w 37 w.heap.size (Nat.le_refl _) rfl) hg1 (fun x hx => by have hx' : g = x := Option.some.inj hx; omega))
  have HC1 := hide hc1
  have HG1 := hide (grown_trans (grown_alloc w (some g) _) hg1)
  have hfl : ∀ W : World, (Instr.field 43 (.agg #[.int .i64 r.way, .int .i64 r.pal.w, .int .i64 r.pal.d, .int .i64 r.pal.h, .int .i64 r.pal.gram, .int .i64 r.cls, .slice A1 n1 c1, .slice A2 n2 c2, .int .i64 r.master, .slice A3 n3 c3]) 3).run Try.prog W = .ok (.slice A1 n1 c1) W := fun _ => by kernel_rfl
  clear hr hl1 hc1 hg1 hc
  go_wp2_with (at_builtin; refine wpList_app rfl _ _ rfl rfl rfl (appPrS HO1.out (by omega) (by simp) HS1.out (by omega)) ?_; intro v2 w2 ho2 hg2 hat2; obtain ⟨A2', c2', rfl, s2⟩ := Own.slk' encPr_len (n := n1) (by rw [List.nil_append]; exact HL1.out) ho2; have HO2 := hide ho2; have HC2 := hide (HC1.out.grown hg2 (fun x hx => by have hx' : w.heap.size = x := Option.some.inj hx; omega)); have HG2 := hide (grown_far HG1.out hg2 (fun x hx => by have hx' : w.heap.size = x := Option.some.inj hx; omega)); have z2 := hg2.size; clear s2 ho2 hg2 hat2 hfl)
  refine (l1Below_any 8 (by omega) (by omega) g A n c bs _ HC2.out).mono ?_
  rintro e w3 ⟨⟨x, rfl, hx0, hx1⟩, hc3, hg3⟩
  have HO3 := hide (own_call HO2.out hg3 (fun x hx => by have hx' : g = x := Option.some.inj hx; omega))
  have HC3 := hide hc3
  have HG3 := hide (grown_trans HG2.out hg3)
  have z3 := hg3.size
  clear hc3 hg3 HC2 HG2 HC1 HG1 HO1 HO2 HS1
  rw [List.nil_append] at HO3
  have HS3 := hide (slk_of_own encPr_len HO3.out HL1.out)
  have hcc := HS3.out.cap
  have hcm := HS3.out.max
  by_cases h0 : x = 0
  · subst h0
    go_wp2_with fail
    refine (l1Below_any 6 (by omega) (by omega) g A n c bs _ HC3.out).mono ?_
    rintro e w4 ⟨⟨a, rfl, ha0, ha1⟩, hc4, hg4⟩
    have HO4 := hide (own_call HO3.out hg4 (fun x hx => by have hx' : g = x := Option.some.inj hx; omega))
    have HC4 := hide hc4
    have HG4 := hide (grown_trans HG3.out hg4)
    have z4 := hg4.size
    clear hc4 hg4 HO3 HC3 HG3 HS3
    go_wp2_with fail
    refine (l1Below_any 5 (by omega) (by omega) g A n c bs _ HC4.out).mono ?_
    rintro e w5 ⟨⟨b, rfl, hb0, hb1⟩, hc5, hg5⟩
    have HO5 := hide (own_call HO4.out hg5 (fun x hx => by have hx' : g = x := Option.some.inj hx; omega))
    have HC5 := hide hc5
    have HG5 := hide (grown_trans HG4.out hg5)
    have z5 := hg5.size
    clear hc5 hg5 HO4 HC4 HG4
    go_wp2_with (at_builtin; refine wpList_app rfl _ _ rfl rfl rfl (appPr HO5.out (by omega) (by rw [HL1.out]; omega) [⟨a - 1, b⟩] 1 _ rfl (by omega) rfl) ?_; intro v6 w6 ho6 hg6 hat6; obtain ⟨m6, hm6⟩ : ∃ m6, (r.pairs ++ [(⟨a - 1, b⟩ : Pr)]).length = m6 := ⟨_, rfl⟩; obtain ⟨A6, c6, rfl, s6⟩ := Own.slk' encPr_len hm6 ho6; have hm6b : m6 ≤ 33 := (by have := HL1.out; rw [← hm6]; simp; omega); have HS6 := hide s6; have HC6 := hide ((HC5.out.alloc _).grown hg6 (fun x hx => by have := (HO5.out.lt x hx).1; omega)); have HG6 := hide (grown_far (grown_trans HG5.out (grown_alloc _ _ _)) hg6 (fun x hx => (HO5.out.lt x hx).1)); clear hm6 s6 ho6 hg6 hat6)
    go_ret
    exact ⟨⟨_, _, _, _, rfl, HS6.out, hm6b⟩, HC6.out, HG6.out⟩
  · by_cases h1 : x = 1
    · subst h1
      by_cases hn0 : 0 < n1
      · obtain ⟨b0, o0, rfl, hb0, _⟩ := HS3.out.drop_ hn0
        have i1 : (1 : Int) ≤ (n1 : Int) := by omega
        have i2 : (0 : Int) < (n1 : Int) := by omega
        have i3 : (n1 : Int) ≤ (c2' : Int) := by omega
        have HD := hide (show ∃ ps : List Pr, SlK 2 encPr w3 w.heap.size w3.heap.size (some ⟨b0, o0 + 2, none⟩) (n1 - 1) (c2' - 1) ps from by
          rcases Nat.lt_or_ge 1 n1 with h | h
          · obtain ⟨b, o, e, _, hd⟩ := HS3.out.drop_ h
            injection e with e
            injection e with e1 e2
            subst e1 e2
            exact ⟨_, hd⟩
          · rw [show n1 - 1 = 0 by omega]
            exact ⟨[], SlK.nil_ (by unfold maxLen; omega)⟩)
        have HE := hide (fun (A : Option Addr) (h : c2' = 1) => (show SlK 2 encPr w3 w.heap.size w3.heap.size A (n1 - 1) 0 ([] : List Pr) from by
          rw [show n1 - 1 = 0 by omega]
          exact SlK.nil_ (by unfold maxLen; omega)))
        go_wp2_with fail
        all_goals go_ret
        · rename_i h
          exact ⟨⟨_, _, _, _, rfl, HE.out _ h, by omega⟩, HC3.out, HG3.out⟩
        · obtain ⟨ps, hps⟩ := HD.out
          exact ⟨⟨_, _, _, _, rfl, hps, by omega⟩, HC3.out, HG3.out⟩
      · have i2 : ¬ (0 : Int) < (n1 : Int) := by omega
        go_wp2_with fail
        go_ret
        exact ⟨⟨_, _, _, _, rfl, HS3.out, by omega⟩, HC3.out, HG3.out⟩
    · go_wp2_with fail
      go_ret
      exact ⟨⟨_, _, _, _, rfl, HS3.out, by omega⟩, HC3.out, HG3.out⟩
set_option maxRecDepth 20000 in
set_option maxHeartbeats 2000000 in
theorem l3List_any (g : Nat) (A : Option Addr) (n c : Nat) (bs : List Int) (w : World) (hc : CurAt 97 w g A n c bs) :
    Calls Try.prog 87 #[.pointer (some ⟨g, 0, none⟩)] w fun e w' => (∃ (xs : List Int) (A1 : Option Addr) (n1 c1 : Nat), e = .returned (.slice A1 n1 c1) ∧ SlK 1 encInt w' w.heap.size w'.heap.size A1 n1 c1 xs ∧ n1 ≤ 5) ∧ CurAt 97 w' g A n c bs ∧ w.grownBy w' (some g) := by
  have hgl := hc.lt
  go_enter Try.func87, Try.ntmps87
  go_wp2_with fail
  refine (l1Below_any 6 (by omega) (by omega) g A n c bs _ (hc.alloc _)).mono ?_
  rintro e w1 ⟨⟨x, rfl, hx0, hx1⟩, hc1, hg1⟩
  obtain ⟨m, rfl⟩ := Int.eq_ofNat_of_zero_le hx0
  have hm5 : m ≤ 5 := by omega
  have HO1 := hide (own_call (own_litK (α := Int) (k := 1) (enc := encInt) w 3 w.heap.size (Nat.le_refl _) rfl) hg1 (fun x hx => by have hx' : g = x := Option.some.inj hx; omega))
  have HC1 := hide hc1
  have HG1 := hide (grown_trans (grown_alloc w (some g) _) hg1)
  have z1 : w.heap.size + 1 ≤ w1.heap.size := by simpa using hg1.size
  clear hc1 hg1 hc
  go_wp2_with fail
  go_loopw [3, 5] (fun o i wr => ∃ (k : Nat) (xs : List Int), k ≤ m ∧ i = .int .i64 k ∧ xs.length = k ∧ Own 1 encInt 3 wr w.heap.size o xs ∧ CurAt 97 wr g A n c bs ∧ w.grownBy wr (some g)) (fun _ i _ => m - (intOf i).toNat)
  case atStart => exact ⟨0, [], Nat.zero_le _, rfl, rfl, HO1.out, HC1.out, HG1.out⟩
  case round =>
    clear HO1 HC1 HG1
    obtain ⟨k, xs, hk, rfl, hl, ho, hc, hg⟩ := hrel
    have HO := hide ho
    have HC := hide hc
    have HG := hide hg
    have HL := hide hl
    have y := hg.size
    clear ho hc hg hl
    by_cases hlt : k < m
    · have i1 : (k : Int) < (m : Int) := by omega
      go_wp2_with fail
      refine (l1PickInt_any (some ⟨wr.heap.size, 0, none⟩) 10 10 [0, 1, 2, 3, 0, 1, 2, 3, 4, -1] wr.heap.size (wr.heap.size + 1) (by omega) (by omega) g A n c bs _ (slk_new encInt_len _ [0, 1, 2, 3, 0, 1, 2, 3, 4, -1] 10 _ _ rfl (by simp [maxLen]) rfl) (by simp) (.inl (by omega)) (HC.out.alloc _)).mono ?_
      rintro e w2 ⟨⟨x, rfl, hx⟩, hc2, hg2⟩
      have HO2 := hide (own_call (HO.out.alloc _) hg2 (fun x hx => by have hx' : g = x := Option.some.inj hx; omega))
      have HC2 := hide hc2
      have HG2 := hide (grown_trans HG.out (grown_trans (grown_alloc _ _ _) hg2))
      have z2 : wr.heap.size + 1 ≤ w2.heap.size := by simpa using hg2.size
      have hnl : xs.length ≤ 4194304 := by rw [HL.out]; omega
      clear hx hc2 hg2 HO HC HG
      go_wp2_with (at_builtin; refine wpList_app rfl _ _ rfl rfl rfl (app1 HO2.out (by omega) hnl x) ?_; intro v' w3 ho3 hg3 hat3; have HO3 := hide ho3; have HC3 := hide ((HC2.out.alloc _).grown hg3 (fun x hx => by have := (HO2.out.lt x hx).1; omega)); have HG3 := hide (grown_far (grown_trans HG2.out (grown_alloc _ _ _)) hg3 (fun x hx => (HO2.out.lt x hx).1)); clear ho3 hg3 hat3)
      go_roundw
      case rel => exact ⟨k + 1, xs ++ [x], by omega, by go_num, by rw [List.length_append, HL.out]; rfl, HO3.out, HC3.out, HG3.out⟩
      case measure => first | omega | (simp [intOf]; done) | (simp [intOf]; omega)
    · obtain rfl : k = m := by omega
      clear hlt
      obtain ⟨Ao, co, rfl, so⟩ := Own.slk' encInt_len HL.out HO.out
      have SO := hide so
      clear so
      go_wp2_with fail
      go_ret
      exact ⟨⟨_, _, _, _, rfl, SO.out, hm5⟩, HC.out, HG.out⟩
set_option maxHeartbeats 1000000 in
theorem drawTransitive_any (A : Option Addr) (n c : Nat) (bs : List Int) (w : World) (hs : SlK 1 encByte w 0 w.heap.size A n c bs) (hb : ∀ b ∈ bs, 0 ≤ b ∧ b ≤ 255) :
    Calls Try.prog 51 #[.slice A n c] w fun e w' => (∃ (ps : List Pr) (A1 : Option Addr) (n1 c1 : Nat) (xs : List Int) (A2 : Option Addr) (n2 c2 : Nat), e = .returned (.tuple #[.slice A1 n1 c1, .slice A2 n2 c2]) ∧
      SlK 2 encPr w' w.heap.size w'.heap.size A1 n1 c1 ps ∧ n1 ≤ 33 ∧ SlK 1 encInt w' w.heap.size w'.heap.size A2 n2 c2 xs ∧ n2 ≤ 5) ∧ Below w.heap.size w w' := by
  go_enter Try.func51, Try.ntmps51
  go_wp2_with fail
  refine (l1New_any A n c bs _ hs hb).mono ?_
  rintro e w1 ⟨rfl, hc1, hb1⟩
  have hgl := hc1.lt
  go_wp2_with fail
  refine (l3Pairs_any _ A n c bs _ hc1).mono ?_
  rintro e w2 ⟨⟨ps, A1, n1, c1, rfl, hp, hn1⟩, hc2, hg2⟩
  have z2 := hg2.size
  go_wp2_with fail
  refine (l3List_any _ A n c bs _ hc2).mono ?_
  rintro e w3 ⟨⟨xs, A2, n2, c2, rfl, hx, hn2⟩, hc3, hg3⟩
  have z3 := hg3.size
  go_wp2_with fail
  go_ret2
  refine ⟨⟨ps, A1, n1, c1, xs, A2, n2, c2, rfl, ?_, hn1, hx.more (by omega) (Nat.le_refl _), hn2⟩, ?_⟩
  · exact (hp.grown hg3 (Nat.le_refl _) (fun x hx => by have hx' : w.heap.size = x := Option.some.inj hx; omega)).more (by omega) (by omega)
  · exact (hb1.grown hg2 (by omega) (fun x hx => by have hx' : w.heap.size = x := Option.some.inj hx; omega)).grown hg3 (by omega) (fun x hx => by have hx' : w.heap.size = x := Option.some.inj hx; omega)
theorem drawGroups_any (A : Option Addr) (n c : Nat) (bs : List Int) (w : World) (hs : SlK 1 encByte w 0 w.heap.size A n c bs) (hb : ∀ b ∈ bs, 0 ≤ b ∧ b ≤ 255) :
    Calls Try.prog 43 #[.slice A n c] w fun e w' => (∃ (ps : List Pr) (A1 : Option Addr) (n1 c1 : Nat) (xs : List Int) (A2 : Option Addr) (n2 c2 : Nat), e = .returned (.tuple #[.slice A1 n1 c1, .slice A2 n2 c2]) ∧
      SlK 2 encPr w' w.heap.size w'.heap.size A1 n1 c1 ps ∧ n1 ≤ 33 ∧ SlK 1 encInt w' w.heap.size w'.heap.size A2 n2 c2 xs ∧ n2 ≤ 5) ∧ Below w.heap.size w w' := by
  go_enter Try.func43, Try.ntmps43
  go_wp2_with fail
  refine (drawTransitive_any A n c bs _ hs hb).mono ?_
  rintro e w1 ⟨⟨ps, A1, n1, c1, xs, A2, n2, c2, rfl, h1, h2, h3, h4⟩, hb1⟩
  go_wp2_with fail
  go_ret2
  exact ⟨⟨ps, A1, n1, c1, xs, A2, n2, c2, rfl, h1, h2, h3, h4⟩, hb1⟩
set_option maxHeartbeats 1000000 in
theorem drawTableOk_any (A : Option Addr) (n c : Nat) (bs : List Int) (w : World) (hs : SlK 1 encByte w 0 w.heap.size A n c bs) (hb : ∀ b ∈ bs, 0 ≤ b ∧ b ≤ 255) :
    Calls Try.prog 17 #[.slice A n c] w fun e w' => (∃ (ps : List Pr) (A1 : Option Addr) (n1 c1 : Nat) (x : Int), e = .returned (.tuple #[.slice A1 n1 c1, .int .i64 x]) ∧
      SlK 2 encPr w' w.heap.size w'.heap.size A1 n1 c1 ps ∧ n1 ≤ 33 ∧ 0 ≤ x ∧ x ≤ 5) ∧ Below w.heap.size w w' := by
  go_enter Try.func17, Try.ntmps17
  go_wp2_with fail
  refine (l1New_any A n c bs _ hs hb).mono ?_
  rintro e w1 ⟨rfl, hc1, hb1⟩
  have hgl := hc1.lt
  go_wp2_with fail
  refine (l3Pairs_any _ A n c bs _ hc1).mono ?_
  rintro e w2 ⟨⟨ps, A1, n1, c1, rfl, hp, hn1⟩, hc2, hg2⟩
  have z2 := hg2.size
  go_wp2_with fail
  refine (l1Below_any 6 (by omega) (by omega) _ A n c bs _ hc2).mono ?_
  rintro e w3 ⟨⟨x, rfl, hx0, hx1⟩, hc3, hg3⟩
  have z3 := hg3.size
  go_wp2_with fail
  go_ret2
  refine ⟨⟨ps, A1, n1, c1, x, rfl, ?_, hn1, hx0, by omega⟩, ?_⟩
  · exact (hp.grown hg3 (Nat.le_refl _) (fun x hx => by have hx' : w.heap.size = x := Option.some.inj hx; omega)).more (by omega) (by omega)
  · exact (hb1.grown hg2 (by omega) (fun x hx => by have hx' : w.heap.size = x := Option.some.inj hx; omega)).grown hg3 (by omega) (fun x hx => by have hx' : w.heap.size = x := Option.some.inj hx; omega)
set_option maxHeartbeats 1000000 in
theorem drawBeside_any (A : Option Addr) (n c : Nat) (bs : List Int) (w : World) (hs : SlK 1 encByte w 0 w.heap.size A n c bs) (hb : ∀ b ∈ bs, 0 ≤ b ∧ b ≤ 255) :
    Calls Try.prog 20 #[.slice A n c] w fun e w' => (∃ (ps : List Pr) (A1 : Option Addr) (n1 c1 : Nat) (x y : Int), e = .returned (.tuple #[.slice A1 n1 c1, .int .i64 x, .int .i64 y]) ∧
      SlK 2 encPr w' w.heap.size w'.heap.size A1 n1 c1 ps ∧ n1 ≤ 33) ∧ Below w.heap.size w w' := by
  go_enter Try.func20, Try.ntmps20
  go_wp2_with fail
  refine (l1New_any A n c bs _ hs hb).mono ?_
  rintro e w1 ⟨rfl, hc1, hb1⟩
  have hgl := hc1.lt
  go_wp2_with fail
  refine (l3Pairs_any _ A n c bs _ hc1).mono ?_
  rintro e w2 ⟨⟨ps, A1, n1, c1, rfl, hp, hn1⟩, hc2, hg2⟩
  have z2 := hg2.size
  go_wp2_with fail
  refine (l1Below_any 4 (by omega) (by omega) _ A n c bs _ hc2).mono ?_
  rintro e w3 ⟨⟨x, rfl, hx0, hx1⟩, hc3, hg3⟩
  have z3 := hg3.size
  go_wp2_with fail
  refine (l1Below_any 5 (by omega) (by omega) _ A n c bs _ hc3).mono ?_
  rintro e w4 ⟨⟨y, rfl, hy0, hy1⟩, hc4, hg4⟩
  have z4 := hg4.size
  go_wp2_with fail
  go_ret3
  refine ⟨⟨ps, A1, n1, c1, x, y - 1, rfl, ?_, hn1⟩, ?_⟩
  · exact ((hp.grown hg3 (Nat.le_refl _) (fun x hx => by have hx' : w.heap.size = x := Option.some.inj hx; omega)).grown hg4 (by omega) (fun x hx => by have hx' : w.heap.size = x := Option.some.inj hx; omega)).more (by omega) (by omega)
  · exact ((hb1.grown hg2 (by omega) (fun x hx => by have hx' : w.heap.size = x := Option.some.inj hx; omega)).grown hg3 (by omega) (fun x hx => by have hx' : w.heap.size = x := Option.some.inj hx; omega)).grown hg4 (by omega) (fun x hx => by have hx' : w.heap.size = x := Option.some.inj hx; omega)
end Go.Proofs.Ytojmkkcjjlppiaa
