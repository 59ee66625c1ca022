/- The numbers of a line, in the reference; plain facts on reading line by line. -/
import Derived.Test.YtcjcmdikopipjaaDoorRdk
namespace Go.Proofs.YtcjcmdikopipjaaDoor
open Go.ChangeShapes Go.WideShapes Go.ChangeAt Go.RowKit Go.Deep Go.Joins
set_option linter.unusedVariables false
set_option linter.unusedSimpArgs false

def lnR (P : List ByteArray) (k : Nat) (word : ByteArray) (cnt : Nat) : List Int × Bool := if k + 1 < P.length then numsR (P.getD k (ByteArray.mk #[])) word cnt else ([], false)
theorem lnR_at {P : List ByteArray} {k n : Nat} {l word : ByteArray} {cnt : Nat} (hn : P.length = n + 1) (hk : k < n) (hl : P[k]? = some l) : lnR P k word cnt = numsR l word cnt := by
  unfold lnR
  rw [if_pos (by omega), List.getD_eq_getElem?_getD, hl]
  rfl
theorem lnR_end {P : List ByteArray} {k n : Nat} {word : ByteArray} {cnt : Nat} (hn : P.length = n + 1) (hk : ¬ k < n) : lnR P k word cnt = ([], false) := by
  unfold lnR
  rw [if_neg (by omega)]
theorem lnR_t {P : List ByteArray} {k n : Nat} {word : ByteArray} {cnt : Nat} {qs : List Int} (hn : P.length = n + 1) (h : lnR P k word cnt = (qs, true)) : ∃ l, k < n ∧ P[k]? = some l ∧ numsR l word cnt = (qs, true) := by
  by_cases hk : k < n
  · have hl : k < P.length := by omega
    have e := List.getElem?_eq_getElem hl
    exact ⟨_, hk, e, by rw [← lnR_at hn hk e]; exact h⟩
  · rw [lnR_end hn hk] at h
    cases h
theorem lnR_f {P : List ByteArray} {k n : Nat} {word : ByteArray} {cnt : Nat} {qs : List Int} (hn : P.length = n + 1) (h : lnR P k word cnt = (qs, false)) : ∀ l, k < n → P[k]? = some l → (numsR l word cnt).2 = false := fun l hk hl => by
  rw [← lnR_at hn hk hl, h]
theorem kind0 {r : Rq} {l : ByteArray} (h : ¬ l = (ByteArray.mk #[119, 97, 121, 32, 102, 105, 114, 115, 116])) (h2 : ¬ l = (ByteArray.mk #[119, 97, 121, 32, 110, 101, 120, 116])) : (putL r l).2 ≠ 0 := by
  intro e
  rcases putL_cases r l with ⟨hw, _⟩ | ⟨_, hk⟩ | ⟨_, hk⟩ | ⟨_, hk⟩ | ⟨_, hk⟩ | ⟨_, hk⟩ | ⟨_, hk⟩ | hk
  · rcases hw with hw | hw
    · exact h hw
    · exact h2 hw
  all_goals omega
theorem kind1 {r : Rq} {l : ByteArray} (h : (numsR l (ByteArray.mk #[112, 97, 108, 108, 101, 116]) 4).2 = false) : (putL r l).2 ≠ 1 := by
  intro e
  rcases putL_cases r l with ⟨_, hk⟩ | ⟨hw, hk⟩ | ⟨_, hk⟩ | ⟨_, hk⟩ | ⟨_, hk⟩ | ⟨_, hk⟩ | ⟨_, hk⟩ | hk
  all_goals first | omega | (rw [h] at hw; cases hw)
theorem kind2 {r : Rq} {l : ByteArray} (h : (numsR l (ByteArray.mk #[99, 108, 97, 115, 115, 101, 115]) 1).2 = false) : (putL r l).2 ≠ 2 := by
  intro e
  rcases putL_cases r l with ⟨_, hk⟩ | ⟨_, hk⟩ | ⟨hw, hk⟩ | ⟨_, hk⟩ | ⟨_, hk⟩ | ⟨_, hk⟩ | ⟨_, hk⟩ | hk
  all_goals first | omega | (rw [h] at hw; cases hw)
theorem kind3 {r : Rq} {l : ByteArray} (h : (numsR l (ByteArray.mk #[119, 105, 116, 104]) 2).2 = false) : (putL r l).2 ≠ 3 := by
  intro e
  rcases putL_cases r l with ⟨_, hk⟩ | ⟨_, hk⟩ | ⟨_, hk⟩ | ⟨hw, hk⟩ | ⟨_, hk⟩ | ⟨_, hk⟩ | ⟨_, hk⟩ | hk
  all_goals first | omega | (rw [h] at hw; cases hw)
theorem kind4 {r : Rq} {l : ByteArray} (h : (numsR l (ByteArray.mk #[116, 121, 112, 101]) 7).2 = false) : (putL r l).2 ≠ 4 := by
  intro e
  rcases putL_cases r l with ⟨_, hk⟩ | ⟨_, hk⟩ | ⟨_, hk⟩ | ⟨_, hk⟩ | ⟨hw, hk⟩ | ⟨_, hk⟩ | ⟨_, hk⟩ | hk
  all_goals first | omega | (rw [h] at hw; cases hw)
theorem kind5 {r : Rq} {l : ByteArray} (h : (numsR l (ByteArray.mk #[109, 97, 115, 116, 101, 114]) 1).2 = false) : (putL r l).2 ≠ 5 := by
  intro e
  rcases putL_cases r l with ⟨_, hk⟩ | ⟨_, hk⟩ | ⟨_, hk⟩ | ⟨_, hk⟩ | ⟨_, hk⟩ | ⟨hw, hk⟩ | ⟨_, hk⟩ | hk
  all_goals first | omega | (rw [h] at hw; cases hw)
theorem kind6 {r : Rq} {l : ByteArray} (h : (numsR l (ByteArray.mk #[105, 116, 101, 109]) 7).2 = false) : (putL r l).2 ≠ 6 := by
  intro e
  rcases putL_cases r l with ⟨_, hk⟩ | ⟨_, hk⟩ | ⟨_, hk⟩ | ⟨_, hk⟩ | ⟨_, hk⟩ | ⟨_, hk⟩ | ⟨hw, hk⟩ | hk
  all_goals first | omega | (rw [h] at hw; cases hw)
/-- Which kinds may stand behind a kind. -/
theorem mayF_no {last k : Int} (h1 : -1 ≤ k ∧ k ≤ 6) (h2 : -1 ≤ last ∧ last ≤ 6) (h : ¬ ((last = -1 ∧ k = 0) ∨ (last = 0 ∧ k = 1) ∨ (last = 1 ∧ k = 2) ∨ ((last = 2 ∨ last = 3) ∧ k = 3) ∨ (2 ≤ last ∧ last ≤ 4 ∧ (k = 4 ∨ k = 5)) ∨ (5 ≤ last ∧ k = 6))) : mayF last k = false := by
  have hk : k = -1 ∨ k = 0 ∨ k = 1 ∨ k = 2 ∨ k = 3 ∨ k = 4 ∨ k = 5 ∨ k = 6 := by omega
  have hl : last = -1 ∨ last = 0 ∨ last = 1 ∨ last = 2 ∨ last = 3 ∨ last = 4 ∨ last = 5 ∨ last = 6 := by omega
  rcases hk with rfl | rfl | rfl | rfl | rfl | rfl | rfl | rfl <;> rcases hl with rfl | rfl | rfl | rfl | rfl | rfl | rfl | rfl <;> first | rfl | (exfalso; omega)
theorem goA_stop {P : List ByteArray} {T : ByteArray} {n k : Nat} {r : Rq} {last : Int} (hn : P.length = n + 1) (hk : k ≤ n) (hl : last < 5) (h : ∀ l, k < n → P[k]? = some l → mayF last (putL r l).2 = false) : goA T ((lnL P).drop k) k r last = (rq0, (k : Int)) := by
  by_cases hkn : k < n
  · have hl2 : k < P.length := by omega
    have e := List.getElem?_eq_getElem hl2
    exact goA_no hn hkn e (h _ hkn e)
  · obtain rfl : k = n := by omega
    exact goA_bad hn (.inl hl)
theorem goA_step {P : List ByteArray} {T l : ByteArray} {n k : Nat} {r r' : Rq} {last kd : Int} (hn : P.length = n + 1) (hk : k < n) (hl : P[k]? = some l) (hp : putL r l = (r', kd)) (hm : mayF last kd = true) : goA T ((lnL P).drop k) k r last = goA T ((lnL P).drop (k + 1)) (k + 1) r' kd := by
  have := goA_yes (T := T) (r := r) (last := last) hn hk hl (by rw [hp]; exact hm)
  rw [this, hp]
set_option maxRecDepth 20000 in
set_option maxHeartbeats 2000000 in
theorem l4Nums_any (line word : ByteArray) (cnt : Nat) (w : World) (hs : line.size ≤ 1048576) (hc0 : 1 ≤ cnt) (hc : cnt ≤ 16) :
    Calls Tryd.prog 91 #[.string line, .string word, .int .i64 cnt] w fun e w' => (∃ v, e = .returned (.tuple #[v, .bool (numsR line word cnt).2]) ∧ Own 1 encInt 3 w' w.heap.size v (numsR line word cnt).1) ∧ Below w.heap.size w w' := by
  obtain ⟨n, hn⟩ : ∃ n, (partsL line 32).length = n := ⟨_, rfl⟩
  have hn0 : 0 < n := by rw [← hn]; exact partsL_ne _ _
  have hn1 : n ≤ 1048577 := by rw [← hn]; have := partsL_len line 32; omega
  have HN := hide hn
  have HPZ := hide (fun x hx => Nat.le_trans (partsSz line 32 x hx) hs)
  have HPA := hide (sparts_any line 32 w hs)
  clear hn
  go_enter Tryd.func91, Tryd.ntmps91
  go_wp2_with fail
  refine HPA.out.mono ?_
  rintro e w1 ⟨v1, rfl, ho1, hb1⟩
  obtain ⟨Aw, cw, rfl, sw⟩ := Own.slk' encStr_len HN.out ho1
  have HSW := hide sw
  have L1 := hide hb1
  have z1 := hb1.size
  have w1c := sw.cap
  have w1m := sw.max
  obtain ⟨b0, off, x0, hx0, rfl, _, hb0, c0, _⟩ := sw.str hn0
  have HX0 := hide hx0
  have i0 : (0 : Int) < (n : Int) := by omega
  simp only [Nat.add_zero] at c0
  clear ho1 hb1 sw hx0
  by_cases h1 : x0 = word
  case neg =>
    have HF := hide (numsR_f1 (cnt := cnt) HX0.out h1)
    have hne := str_ne h1
    clear h1
    go_wp2_with fail
    go_ret2
    exact ⟨⟨_, by rw [HF.out]; rfl, by rw [HF.out]; exact own_lit z1 [] 0 _ _ rfl (by simp [maxLen]) rfl⟩, (by repeat (first | with_reducible exact Below.refl _ _ | with_reducible assumption | with_reducible refine Below.setCell ?_ (by (try simp) <;> omega) _ | with_reducible refine Below.alloc ?_ (by (try simp) <;> omega) _ | with_reducible refine Below.drew ?_ | with_reducible refine below_drewN ?_ _ | with_reducible exact L1.out | with_reducible refine Below.trans ?_ (Below.mono L1.out (by (try simp) <;> omega))))⟩
  subst h1
  by_cases h2 : n = cnt + 1
  case neg =>
    have HF := hide (numsR_f2 (word := x0) HN.out h2)
    have hne : ((n : Int) != (cnt : Int) + 1) = true := by simp; omega
    clear h2
    go_wp2_with fail
    go_ret2
    exact ⟨⟨_, by rw [HF.out]; rfl, by rw [HF.out]; exact own_lit z1 [] 0 _ _ rfl (by simp [maxLen]) rfl⟩, (by repeat (first | with_reducible exact Below.refl _ _ | with_reducible assumption | with_reducible refine Below.setCell ?_ (by (try simp) <;> omega) _ | with_reducible refine Below.alloc ?_ (by (try simp) <;> omega) _ | with_reducible refine Below.drew ?_ | with_reducible refine below_drewN ?_ _ | with_reducible exact L1.out | with_reducible refine Below.trans ?_ (Below.mono L1.out (by (try simp) <;> omega))))⟩
  have hne : ((n : Int) != (cnt : Int) + 1) = false := by simp; omega
  obtain ⟨b', off', e1, _, sd⟩ := HSW.out.drop_ (m := 1) (by omega)
  injection e1 with e1
  injection e1 with e1 e2
  subst e1 e2
  simp only [Nat.one_mul] at sd
  have hnc : n - 1 = cnt := by omega
  rw [hnc] at sd
  have HSD := hide sd
  have HDL := hide (show ((partsL line 32).drop 1).length = cnt from sd.len)
  clear sd h2
  go_wp2_with fail
  go_loopw [9, 10] (fun o i wr => ∃ k : Nat, k ≤ cnt ∧ i = .int .i64 ((k : Int) + 1) ∧ Own 1 encInt 3 wr w1.heap.size o ((((partsL line 32).drop 1).take k).map fun s => (valS s : Int)) ∧ Hid (∀ x ∈ ((partsL line 32).drop 1).take k, numOk x = true) ∧ Below w1.heap.size w1 wr) (fun _ i _ => cnt + 1 - (intOf i).toNat)
  case atStart => exact ⟨0, Nat.zero_le _, rfl, own_lit (by omega) [] 0 _ _ rfl (by simp [maxLen]) rfl, hide (by simp), (by repeat (first | with_reducible exact Below.refl _ _ | with_reducible assumption | with_reducible refine Below.setCell ?_ (by (try simp) <;> omega) _ | with_reducible refine Below.alloc ?_ (by (try simp) <;> omega) _ | with_reducible refine Below.drew ?_ | with_reducible refine below_drewN ?_ _))⟩
  case round =>
    obtain ⟨k, hk, rfl, ho, HA, hbel⟩ := hrel
    have HO := hide ho
    have HB := hide hbel
    have y1 := hbel.size
    have hol : ((((partsL line 32).drop 1).take k).map fun s => (valS s : Int)).length ≤ 16 := by rw [List.length_map, List.length_take]; omega
    clear ho hbel
    by_cases hlt : k < cnt
    · obtain ⟨b1, off1, x, hx, e1, _, hb1, d0, _⟩ := (HSD.out.below HB.out (Nat.le_refl _)).str hlt
      injection e1 with e1
      injection e1 with e1 e2
      subst e1 e2
      have d1 : wr.cell? ⟨b0, off + (k + 1), none⟩ = some (.string x) := by rw [show off + (k + 1) = off + 1 + k by omega]; exact d0
      have hxs := HPZ.out x (List.mem_of_mem_drop (List.mem_of_getElem? hx))
      have HX := hide hx
      have j0 : (0 : Int) ≤ (k : Int) + 1 := by omega
      have j1 : (k : Int) + 1 < (n : Int) := by omega
      have j2 : (k : Int) < (cnt : Int) := by omega
      have HNU := hide (snumber_any x wr hxs)
      clear hx d0
      cases hok : numOk x
      · have HF := hide (numsR_f3 (word := x0) (cnt := cnt) HX.out hok)
        rw [numR_f hok] at HNU
        clear hok
        go_wp2_with fail
        refine HNU.out.mono ?_
        rintro e w4 ⟨rfl, hb4⟩
        have z4 := hb4.size
        have LB := L1.out.trans (HB.out.mono z1)
        go_wp2_with fail
        go_ret2
        exact ⟨⟨_, by rw [HF.out]; rfl, by rw [HF.out]; exact own_lit (by omega) [] 0 _ _ rfl (by simp [maxLen]) rfl⟩, (by repeat (first | with_reducible exact Below.refl _ _ | with_reducible assumption | with_reducible refine Below.setCell ?_ (by (try simp) <;> omega) _ | with_reducible refine Below.alloc ?_ (by (try simp) <;> omega) _ | with_reducible refine Below.drew ?_ | with_reducible refine below_drewN ?_ _ | with_reducible exact LB | with_reducible exact hb4 | with_reducible refine Below.trans ?_ (Below.mono LB (by (try simp) <;> omega)) | with_reducible refine Below.trans ?_ (Below.mono hb4 (by (try simp) <;> omega))))⟩
      · rw [numR_t hok] at HNU
        have HMS := hide (map_snoc HX.out)
        have HA2 : Hid (∀ z ∈ ((partsL line 32).drop 1).take (k + 1), numOk z = true) := hide (by
          intro z hz
          rw [List.take_add_one, HX.out, List.mem_append] at hz
          rcases hz with hz | hz
          · exact HA.out z hz
          · obtain rfl : z = x := by simpa using hz
            exact hok)
        clear hok
        generalize (valS x : Int) = vx at *
        go_wp2_with fail
        refine HNU.out.mono ?_
        rintro e w4 ⟨rfl, hb4⟩
        have z4 := hb4.size
        have HO4 := hide (HO.out.below hb4)
        have HB4 := hide (HB.out.trans (hb4.mono y1))
        clear hb4
        go_wp2_with (at_builtin; refine wpList_app rfl _ _ rfl rfl rfl (app1 HO4.out (by omega) (by omega) vx) ?_; intro vf wf hof hgf hatf; have HBf := hide (below_app HB4.out HO4.out (by omega) _ hgf); have HOf := hide hof; clear hof hgf hatf)
        go_roundw
        case rel => exact ⟨k + 1, by omega, by go_num, by rw [HMS.out]; exact HOf.out, HA2, HBf.out⟩
        case measure => first | omega | (simp [intOf]; done) | (simp [intOf]; omega)
    · obtain rfl : k = cnt := by omega
      have hall : ((partsL line 32).drop 1).take k = (partsL line 32).drop 1 := List.take_of_length_le (by rw [HDL.out]; exact Nat.le_refl _)
      rw [hall] at HO HA
      have HF := hide (numsR_t (cnt := k) HX0.out HN.out (by omega) HA.out)
      have hge : ¬ ((k : Int) + 1 < (n : Int)) := by omega
      clear hlt hall
      go_wp2_with fail
      go_ret2
      exact ⟨⟨_, by rw [HF.out]; rfl, by rw [HF.out]; exact HO.out.base_le z1⟩, L1.out.trans (HB.out.mono z1)⟩
set_option maxRecDepth 20000 in
set_option maxHeartbeats 1000000 in
theorem l4Line_any (P : List ByteArray) (lo hi : Nat) (A : Option Addr) (n c k : Nat) (word : ByteArray) (cnt : Nat) (w : World) (hs : SlK 1 encStr w lo hi A (n + 1) c P) (hn : n ≤ 1048577) (hk : k ≤ n) (hz : ∀ x ∈ P, x.size ≤ 1048576) (hc0 : 1 ≤ cnt) (hc : cnt ≤ 16) :
    Calls Tryd.prog 66 #[.slice A (n + 1) c, .int .i64 k, .string word, .int .i64 cnt] w fun e w' => (∃ v, e = .returned (.tuple #[v, .bool (lnR P k word cnt).2]) ∧ Own 1 encInt 3 w' w.heap.size v (lnR P k word cnt).1) ∧ Below w.heap.size w w' := by
  have hcc := hs.cap
  have hm := hs.max
  have hl := hs.len
  by_cases hlt : k < n
  · obtain ⟨b0, off, l, hx, rfl, _, hb0, c0, _⟩ := hs.str (i := k) (by omega)
    have HL := hide (lnR_at (word := word) (cnt := cnt) hl hlt hx)
    have HNU := hide (l4Nums_any l word cnt w (hz l (List.mem_of_getElem? hx)) hc0 hc)
    rw [← HL.out] at HNU
    have i0 : (0 : Int) ≤ (k : Int) := by omega
    have i1 : (k : Int) < (n : Int) + 1 := by omega
    have i2 : ¬ ((n : Int) ≤ (k : Int)) := by omega
    obtain ⟨⟨qs, qb⟩, hq⟩ : ∃ q, lnR P k word cnt = q := ⟨_, rfl⟩
    rw [hq] at HNU ⊢
    clear hs hx hq HL hz hlt
    go_enter Tryd.func66, Tryd.ntmps66
    go_wp2_with fail
    refine HNU.out.mono ?_
    rintro e w1 ⟨⟨v, rfl, hv⟩, hb1⟩
    have HV := hide hv
    have HB := hide hb1
    clear hv hb1
    go_wp2_with fail
    go_ret2
    exact ⟨⟨_, rfl, HV.out⟩, HB.out⟩
  · have HL := hide (lnR_end (word := word) (cnt := cnt) hl hlt)
    have i2 : (n : Int) ≤ (k : Int) := by omega
    clear hs hz
    go_enter Tryd.func66, Tryd.ntmps66
    go_wp2_with fail
    go_ret2
    exact ⟨⟨_, by rw [HL.out]; rfl, by rw [HL.out]; exact own_lit (Nat.le_refl _) [] 0 _ _ rfl (by simp [maxLen]) rfl⟩, (by repeat (first | with_reducible exact Below.refl _ _ | with_reducible assumption | with_reducible refine Below.setCell ?_ (by (try simp) <;> omega) _ | with_reducible refine Below.alloc ?_ (by (try simp) <;> omega) _ | with_reducible refine Below.drew ?_ | with_reducible refine below_drewN ?_ _))⟩
end Go.Proofs.YtcjcmdikopipjaaDoor
