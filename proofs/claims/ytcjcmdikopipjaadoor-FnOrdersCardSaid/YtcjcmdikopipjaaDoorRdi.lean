/- The numbers of a line, in the program and in the reference. -/
import Derived.Test.YtcjcmdikopipjaaDoorRdp
namespace Go.Proofs.YtcjcmdikopipjaaDoor
open Go.ChangeShapes Go.WideShapes Go.ChangeAt Go.RowKit Go.Deep Go.Joins
set_option linter.unusedVariables false
set_option linter.unusedSimpArgs false

theorem partsL_ne (s : ByteArray) (b : Int) : 0 < (partsL s b).length := by
  unfold partsL
  simp
theorem extS_size (s : ByteArray) (f k : Nat) : (s.extract f k).size ≤ s.size := by
  rw [ByteArray.size_extract]
  omega
theorem ptSz (s : ByteArray) (b : Int) : ∀ k, ∀ x ∈ (ptS s b k).1, x.size ≤ s.size
  | 0, x, h => by simp [ptS] at h
  | k + 1, x, h => by
    unfold ptS at h
    split at h
    · rw [List.mem_append, List.mem_singleton] at h
      rcases h with h | rfl
      · exact ptSz s b k x h
      · exact extS_size s _ _
    · exact ptSz s b k x h
theorem partsSz (s : ByteArray) (b : Int) : ∀ x ∈ partsL s b, x.size ≤ s.size := by
  intro x h
  unfold partsL at h
  rw [List.mem_append, List.mem_singleton] at h
  rcases h with h | rfl
  · exact ptSz s b _ x h
  · exact extS_size s _ _
theorem numsR_f1 {line word x0 : ByteArray} {cnt : Nat} (h0 : (partsL line 32)[0]? = some x0) (h : ¬ x0 = word) : numsR line word cnt = ([], false) := by
  unfold numsR
  rw [if_neg]
  intro hh
  rw [h0] at hh
  exact h (Option.some.inj hh.1)
theorem numsR_f2 {line word : ByteArray} {cnt n : Nat} (hn : (partsL line 32).length = n) (h : ¬ n = cnt + 1) : numsR line word cnt = ([], false) := by
  unfold numsR
  rw [if_neg]
  intro hh
  omega
theorem numsR_f3 {line word x : ByteArray} {cnt k : Nat} (hx : ((partsL line 32).drop 1)[k]? = some x) (h : numOk x = false) : numsR line word cnt = ([], false) := by
  unfold numsR
  rw [if_neg]
  intro hh
  have := List.all_eq_true.1 hh.2.2 x (List.mem_of_getElem? hx)
  rw [h] at this
  cases this
theorem numsR_t {line word : ByteArray} {cnt n : Nat} (h0 : (partsL line 32)[0]? = some word) (hn : (partsL line 32).length = n) (h : n = cnt + 1) (ha : ∀ x ∈ (partsL line 32).drop 1, numOk x = true) :
    numsR line word cnt = (((partsL line 32).drop 1).map fun s => (valS s : Int), true) := by
  unfold numsR
  rw [if_pos ⟨h0, by omega, List.all_eq_true.2 ha⟩]
theorem numR_t {s : ByteArray} (h : numOk s = true) : numR s = ((valS s : Int), true) := by
  unfold numR
  rw [if_pos h]
theorem numR_f {s : ByteArray} (h : numOk s = false) : numR s = (0, false) := by
  unfold numR
  rw [if_neg (by rw [h]; simp)]
theorem map_snoc {P : List ByteArray} {k : Nat} {x : ByteArray} (hx : P[k]? = some x) : (P.take (k + 1)).map (fun s => (valS s : Int)) = (P.take k).map (fun s => (valS s : Int)) ++ [(valS x : Int)] := by
  rw [List.take_add_one, hx, List.map_append]
  rfl
set_option maxRecDepth 20000 in
set_option maxHeartbeats 2000000 in
theorem wordsOf_any (line word : ByteArray) (cnt : Nat) (w : World) (hs : line.size ≤ 1048576) (hc0 : 1 ≤ cnt) (hc : cnt ≤ 16) (htab : Lib.TabIs Tryd.prog w "internal/strconv.uint64pow10" .u64 Lib.pow10Tab) (hrng : ∃ tp p, w.var? Tryd.prog "strconv.ErrRange" = some #[.iface tp p]) (hsyn : ∃ tp p, w.var? Tryd.prog "strconv.ErrSyntax" = some #[.iface tp p]) :
    Calls Tryd.prog 90 #[.string line, .string word, .int .i64 cnt] w fun e w' => (∃ v, e = .returned (.tuple #[v, .bool (numsR line word cnt).2]) ∧ Own 1 encInt 3 w' w.heap.size v (numsR line word cnt).1) ∧ Below w.heap.size w w' := by
  have HT := hide htab
  obtain ⟨tr, pr, hr⟩ := hrng
  obtain ⟨ts, ps, hsy⟩ := hsyn
  have HRG := hide hr
  have HSY := hide hsy
  clear htab hr hsy
  obtain ⟨n, hn⟩ : ∃ n, (partsL line 32).length = n := ⟨_, rfl⟩
  have hn0 : 0 < n := by rw [← hn]; exact partsL_ne _ _
  have hn1 : n ≤ 1048577 := by rw [← hn]; have := partsL_len line 32; omega
  have HN := hide hn
  have HPZ := hide (fun x hx => Nat.le_trans (partsSz line 32 x hx) hs)
  have HPA := hide (parts_any line 32 w hs)
  clear hn
  go_enter Tryd.func90, Tryd.ntmps90
  go_wp2_with fail
  refine HPA.out.mono ?_
  rintro e w1 ⟨v1, rfl, ho1, hb1⟩
  obtain ⟨Aw, cw, rfl, sw⟩ := Own.slk' encStr_len HN.out ho1
  have HSW := hide sw
  have L1 := hide hb1
  have z1 := hb1.size
  have w1c := sw.cap
  have w1m := sw.max
  obtain ⟨b0, off, x0, hx0, rfl, _, hb0, c0, _⟩ := sw.str hn0
  have HX0 := hide hx0
  have i0 : (0 : Int) < (n : Int) := by omega
  simp only [Nat.add_zero] at c0
  clear ho1 hb1 sw hx0
  by_cases h1 : x0 = word
  case neg =>
    have HF := hide (numsR_f1 (cnt := cnt) HX0.out h1)
    have hne := str_ne h1
    clear h1
    go_wp2_with fail
    go_ret2
    exact ⟨⟨_, by rw [HF.out]; rfl, by rw [HF.out]; exact Own.nil_ _ _⟩, L1.out⟩
  subst h1
  by_cases h2 : n = cnt + 1
  case neg =>
    have HF := hide (numsR_f2 (word := x0) HN.out h2)
    have hne : ((n : Int) != (cnt : Int) + 1) = true := by simp; omega
    clear h2
    go_wp2_with fail
    go_ret2
    exact ⟨⟨_, by rw [HF.out]; rfl, by rw [HF.out]; exact Own.nil_ _ _⟩, L1.out⟩
  have hne : ((n : Int) != (cnt : Int) + 1) = false := by simp; omega
  obtain ⟨b', off', e1, _, sd⟩ := HSW.out.drop_ (m := 1) (by omega)
  injection e1 with e1
  injection e1 with e1 e2
  subst e1 e2
  simp only [Nat.one_mul] at sd
  have hnc : n - 1 = cnt := by omega
  rw [hnc] at sd
  have HSD := hide sd
  have w2c := sd.cap
  have w2m := sd.max
  have hi1 : (1 : Int) ≤ (n : Int) := by omega
  have hsub : (n : Int) - 1 = (cnt : Int) := by omega
  have hdl : ((partsL line 32).drop 1).length = cnt := sd.len
  have HDL := hide hdl
  clear sd hdl
  clear h2
  go_wp2_with fail
  go_loopw [9, 32] (fun o i wr => ∃ k : Nat, k ≤ cnt ∧ i = .int .i64 k ∧ Own 1 encInt 3 wr w1.heap.size o ((((partsL line 32).drop 1).take k).map fun s => (valS s : Int)) ∧ Hid (∀ x ∈ ((partsL line 32).drop 1).take k, numOk x = true) ∧ Below w1.heap.size w1 wr) (fun _ i _ => cnt - (intOf i).toNat)
  case atStart => exact ⟨0, Nat.zero_le _, rfl, own_lit (by omega) [] 0 _ _ rfl (by simp [maxLen]) rfl, hide (by simp), (by repeat (first | with_reducible exact Below.refl _ _ | with_reducible assumption | with_reducible refine Below.setCell ?_ (by (try simp) <;> omega) _ | with_reducible refine Below.alloc ?_ (by (try simp) <;> omega) _ | with_reducible refine Below.drew ?_ | with_reducible refine below_drewN ?_ _))⟩
  case round =>
    obtain ⟨k, hk, rfl, ho, HA, hbel⟩ := hrel
    have HO := hide ho
    have HB := hide hbel
    have y1 := hbel.size
    have hol : ((((partsL line 32).drop 1).take k).map fun s => (valS s : Int)).length ≤ 16 := by rw [List.length_map, List.length_take]; omega
    clear ho hbel
    by_cases hlt : k < cnt
    · obtain ⟨b1, off1, x, hx, e1, _, hb1, d0, _⟩ := (HSD.out.below HB.out (Nat.le_refl _)).str hlt
      injection e1 with e1
      injection e1 with e1 e2
      subst e1 e2
      have hxs := HPZ.out x (List.mem_of_mem_drop (List.mem_of_getElem? hx))
      have HX := hide hx
      have j0 : (0 : Int) ≤ (k : Int) := by omega
      have j1 : (k : Int) < (cnt : Int) := by omega
      have HBB := hide (L1.out.trans (HB.out.mono z1))
      have HNU := hide (number_any x wr hxs (tab_stays gPow HT.out HBB.out (Nat.le_refl _)) ⟨_, _, var_stays gRng HRG.out HBB.out (Nat.le_refl _)⟩ ⟨_, _, var_stays gSyn HSY.out HBB.out (Nat.le_refl _)⟩)
      clear hx
      cases hok : numOk x
      · have HF := hide (numsR_f3 (word := x0) (cnt := cnt) HX.out hok)
        rw [numR_f hok] at HNU
        clear hok
        go_wp2_with fail
        refine HNU.out.mono ?_
        rintro e w4 ⟨rfl, hb4⟩
        go_wp2_with fail
        go_ret2
        exact ⟨⟨_, by rw [HF.out]; rfl, by rw [HF.out]; exact Own.nil_ _ _⟩, HBB.out.trans (hb4.mono (by omega))⟩
      · rw [numR_t hok] at HNU
        have HMS := hide (map_snoc HX.out)
        have HA2 : Hid (∀ z ∈ ((partsL line 32).drop 1).take (k + 1), numOk z = true) := hide (by
          intro z hz
          rw [List.take_add_one, HX.out, List.mem_append] at hz
          rcases hz with hz | hz
          · exact HA.out z hz
          · obtain rfl : z = x := by simpa using hz
            exact hok)
        clear hok
        generalize (valS x : Int) = vx at *
        go_wp2_with fail
        refine HNU.out.mono ?_
        rintro e w4 ⟨rfl, hb4⟩
        have z4 := hb4.size
        have HO4 := hide (HO.out.below hb4)
        have HB4 := hide (HB.out.trans (hb4.mono y1))
        clear hb4
        go_wp2_with (at_builtin; refine wpList_app rfl _ _ rfl rfl rfl (app1 HO4.out (by omega) (by omega) vx) ?_; intro vf wf hof hgf hatf; have HBf := hide (below_app HB4.out HO4.out (by omega) _ hgf); have HOf := hide hof; clear hof hgf hatf)
        go_roundw
        case rel => exact ⟨k + 1, by omega, by go_num, by rw [HMS.out]; exact HOf.out, HA2, HBf.out⟩
        case measure => first | omega | (simp [intOf]; done) | (simp [intOf]; omega)
    · obtain rfl : k = cnt := by omega
      have hall : ((partsL line 32).drop 1).take k = (partsL line 32).drop 1 := List.take_of_length_le (by rw [HDL.out]; exact Nat.le_refl _)
      rw [hall] at HO HA
      have HF := hide (numsR_t (cnt := k) HX0.out HN.out (by omega) HA.out)
      clear hlt hall
      go_wp2_with fail
      go_ret2
      exact ⟨⟨_, by rw [HF.out]; rfl, by rw [HF.out]; exact HO.out.base_le z1⟩, L1.out.trans (HB.out.mono z1)⟩
end Go.Proofs.YtcjcmdikopipjaaDoor
