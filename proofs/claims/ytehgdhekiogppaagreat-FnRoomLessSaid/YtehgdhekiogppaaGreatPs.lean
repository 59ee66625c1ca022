/- Present of both. -/
import Derived.Test.YtehgdhekiogppaaGreatUn1
import Derived.Test.YtehgdhekiogppaaGreatSrt
import Derived.Test.YtehgdhekiogppaaGreatMrg
import Derived.Test.YtehgdhekiogppaaGreatKin
namespace Go.Proofs.YtehgdhekiogppaaGreat
open Go.ChangeShapes Go.WideShapes Go.ChangeAt Go.RowKit Go.Deep
set_option linter.unusedVariables false
set_option linter.unusedSimpArgs false

def clsL (xs : List It) : List Int := xs.map fun x => x.cls
theorem clsL_len (xs : List It) : (clsL xs).length = xs.length := by simp [clsL]
theorem clsL_snoc {xs : List It} {k : Nat} {x : It} (hx : xs[k]? = some x) : clsL (xs.take (k + 1)) = clsL (xs.take k) ++ [x.cls] := by
  unfold clsL
  rw [List.take_add_one, hx]
  simp
/-- Some item is of that kind. -/
def hasCls (xs : List It) (c : Int) : Bool := xs.any fun x => x.cls == c
def presTo (xs : List It) (k : Nat) : List Int := (rng k).filter (hasCls xs)
def presR (r : Rq) : List Int := if classN r = 0 then presTo r.items 4 else []
theorem presTo_succ (xs : List It) (k : Nat) : presTo xs (k + 1) = presTo xs k ++ (if hasCls xs k then [(k : Int)] else []) := by
  unfold presTo
  rw [rng_succ, List.filter_append]
  congr 1
  cases h : hasCls xs k <;> simp [h]
theorem presTo_len (xs : List It) (k : Nat) : (presTo xs k).length ≤ k := by
  unfold presTo
  have := List.length_filter_le (hasCls xs) (rng k)
  rwa [rng_len] at this
theorem presR_len (r : Rq) : (presR r).length ≤ 12 := by
  unfold presR
  split
  · have := presTo_len r.items 4
    omega
  · simp
theorem hasCls_snoc {xs : List It} {k : Nat} {x : It} (c : Int) (hx : xs[k]? = some x) : hasCls (xs.take (k + 1)) c = (hasCls (xs.take k) c || (x.cls == c)) := by
  unfold hasCls
  rw [List.take_add_one, hx]
  simp
theorem kinds_pres {xs : List It} (h : ∀ x ∈ xs, 0 ≤ x.cls ∧ x.cls ≤ 3) : kindsL (xs.map fun x => x.cls) = presTo xs 4 := by
  obtain ⟨h1, h2⟩ := kinds_asc (xs.map fun x => x.cls)
  refine asc_unique h1 ((rng_lt 4).filter _) fun z => ?_
  rw [h2]
  unfold presTo
  rw [List.mem_filter, mem_rng]
  unfold hasCls
  rw [List.any_eq_true, List.mem_map]
  constructor
  · rintro ⟨x, hx, rfl⟩
    have := h x hx
    exact ⟨by omega, x, hx, by simp⟩
  · rintro ⟨_, x, hx, e⟩
    exact ⟨x, hx, by simpa using e⟩
theorem itemOk_cls {x : It} (h : itemOkB x = true) : 0 ≤ x.cls ∧ x.cls ≤ 3 := by
  simp only [itemOkB, Bool.and_eq_true, inB_iff] at h
  exact h.1.2
theorem app1g {w : World} {base g : Nat} {v : Value} {xs : List Int} (hg : g = w.heap.size) (ho : Own 1 encInt 3 w base v xs) (hb : base ≤ w.heap.size) (hn : xs.length ≤ 4194304) (x : Int) :
    AppOk Tryz.prog 1 encInt (w.alloc (.cells #[.int .i64 x] 3)) base 29 3 v xs (some ⟨g, 0, none⟩) 1 1 [x] := by
  subst hg
  exact app1 ho hb hn x
set_option maxRecDepth 20000 in
set_option maxHeartbeats 2000000 in
theorem present_any (r : Rq) (A1 A2 A3 : Option Addr) (n1 n2 n3 c1 c2 c3 : Nat) (lo hi : Nat) (w : World) (hr : RqAt w lo hi r A1 n1 c1 A2 n2 c2 A3 n3 c3) (hB : hi ≤ w.heap.size) :
    Calls Tryz.prog 32 #[.agg #[.int .i64 r.way, .int .i64 r.pal.w, .int .i64 r.pal.d, .int .i64 r.pal.h, .int .i64 r.pal.gram, .int .i64 r.cls, .slice A1 n1 c1, .slice A2 n2 c2, .int .i64 r.master, .slice A3 n3 c3]] w fun e w' => ∃ v, e = .returned v ∧ Own 1 encInt 3 w' w.heap.size v (presR r) ∧ Below w.heap.size w w' := by
  have HC := hide (sound_any r A1 A2 A3 n1 n2 n3 c1 c2 c3 lo hi)
  have HR := hide hr
  have hm3 := hr.it.max
  have hc3 := hr.it.cap
  have HL := hide hr.it.len
  clear hr
  by_cases h0 : classN r = 0
  · have hb := bounds_items (class0_bounds h0)
    have HU := hide (show presR r = kindsL (clsL r.items) by
      unfold clsL
      rw [kinds_pres (fun x hx => itemOk_cls (hb.1 x hx))]
      simp [presR, h0])
    have hn : n3 ≤ 8 := by have := hb.2.1; rw [HL.out] at this; exact this
    have hd : decide (classN r = 0) = true := by simp [h0]
    rw [hd] at HC
    clear hb h0 hd
    go_enter Tryz.func32, Tryz.ntmps32
    go_wp2_with fail
    refine (HC.out _ (HR.out.below (B := w.heap.size) (by repeat (first | with_reducible exact Below.refl _ _ | with_reducible assumption | with_reducible refine Below.setCell ?_ (by (try simp) <;> omega) _ | with_reducible refine Below.alloc ?_ (by (try simp) <;> omega) _ | with_reducible refine Below.drew ?_ | with_reducible refine below_drewN ?_ _)) hB) (by (try simp) <;> omega)).mono ?_
    rintro e w1 ⟨rfl, hb1⟩
    have L1 := hide (show Below w.heap.size w w1 from (by repeat (first | with_reducible exact Below.refl _ _ | with_reducible assumption | with_reducible refine Below.setCell ?_ (by (try simp) <;> omega) _ | with_reducible refine Below.alloc ?_ (by (try simp) <;> omega) _ | with_reducible refine Below.drew ?_ | with_reducible refine below_drewN ?_ _ | with_reducible exact hb1 | with_reducible refine Below.trans ?_ (Below.mono hb1 (by (try simp) <;> omega)))))
    have P1 := hide (Blk.belowH (Blk.new w 37 (#[.int .i64 r.way, .int .i64 r.pal.w, .int .i64 r.pal.d, .int .i64 r.pal.h, .int .i64 r.pal.gram, .int .i64 r.cls, .slice A1 n1 c1, .slice A2 n2 c2, .int .i64 r.master, .slice A3 n3 c3]) (g := w.heap.size) (by simp)) hb1)
    have z1 : w.heap.size + 1 ≤ w1.heap.size := by simpa using hb1.size
    clear hb1
    have kR := P1.out.cell
    have yR := P1.out.lt
    go_wp2
    go_loopw [3, 13] (fun o i wr => ∃ k : Nat, k ≤ n3 ∧ i = .int .i64 k ∧ Own 1 encInt 3 wr w.heap.size o (clsL (r.items.take k)) ∧ Below w.heap.size w wr) (fun _ i _ => n3 - (intOf i).toNat)
    case atStart => exact ⟨0, Nat.zero_le _, rfl, own_lit (by omega) [] 0 _ _ rfl (by simp [maxLen]) rfl, (by repeat (first | with_reducible exact Below.refl _ _ | with_reducible assumption | with_reducible refine Below.setCell ?_ (by (try simp) <;> omega) _ | with_reducible refine Below.alloc ?_ (by (try simp) <;> omega) _ | with_reducible refine Below.drew ?_ | with_reducible refine below_drewN ?_ _ | with_reducible exact L1.out | with_reducible refine Below.trans ?_ (Below.mono L1.out (by (try simp) <;> omega))))⟩
    case round =>
      obtain ⟨k, hk, rfl, ho, hbel⟩ := hrel
      have HO := hide ho
      have HBel := hide hbel
      have hz := hbel.size
      have HLO := hide (show (clsL (r.items.take k)).length ≤ 4194304 by rw [clsL_len, List.length_take]; omega)
      clear ho hbel kR yR
      by_cases hlt : k < n3
      · obtain ⟨b0, off, x, hx, q, _, hb, d0, d1, d2, d3, d4, d5, d6, _⟩ := (HR.out.it.below HBel.out hB).it hlt
        subst q
        have HS := hide (clsL_snoc hx)
        have i0 : (0 : Int) ≤ (k : Int) := by omega
        have i1 : (k : Int) < (n3 : Int) := by omega
        have HO2 := hide (HO.out.alloc (.cells #[.int .i64 x.id, .int .i64 x.w, .int .i64 x.h, .int .i64 x.d, .int .i64 x.gram, .int .i64 x.cls, .int .i64 x.cnt] 63))
        have hz2 : w.heap.size ≤ (wr.alloc (.cells #[.int .i64 x.id, .int .i64 x.w, .int .i64 x.h, .int .i64 x.d, .int .i64 x.gram, .int .i64 x.cls, .int .i64 x.cnt] 63)).heap.size := by simp; omega
        have HZ2 := hide hz2
        have HB2 := hide (HBel.out.alloc hz (.cells #[.int .i64 x.id, .int .i64 x.w, .int .i64 x.h, .int .i64 x.d, .int .i64 x.gram, .int .i64 x.cls, .int .i64 x.cnt] 63))
        clear hx hz2
        go_wp2_with (at_builtin; refine wpList_app rfl _ _ rfl rfl rfl (app1g (g := wr.heap.size + 1) (by simp) HO2.out HZ2.out HLO.out x.cls) ?_; intro v' w3 ho3 hg3 hat3)
        go_roundw
        case rel => exact ⟨k + 1, by omega, by go_num, by rw [HS.out]; exact ho3, below_app HB2.out HO2.out HZ2.out _ hg3⟩
        case measure => simp [intOf]; omega
      · obtain rfl : k = n3 := by omega
        have HT := hide (show r.items.take k = r.items from List.take_of_length_le (by rw [HL.out]; exact Nat.le_refl _))
        clear hlt
        have ho := HO.out
        rw [HT.out] at ho
        obtain ⟨Ao, co, rfl, so⟩ := Own.slk' encInt_len (n := k) (by rw [clsL_len, HL.out]) ho
        have SO := hide so
        clear ho so
        go_wp2_with fail
        refine (kinds_any w.heap.size wr.heap.size Ao k co _ _ SO.out (by omega)).mono ?_
        rintro e w4 ⟨v4, rfl, ho4, hb4⟩
        go_wp2
        go_ret
        exact ⟨_, rfl, by rw [HU.out]; exact ho4.base_le hz, (by repeat (first | with_reducible exact Below.refl _ _ | with_reducible assumption | with_reducible refine Below.setCell ?_ (by (try simp) <;> omega) _ | with_reducible refine Below.alloc ?_ (by (try simp) <;> omega) _ | with_reducible refine Below.drew ?_ | with_reducible refine below_drewN ?_ _ | with_reducible exact HBel.out | with_reducible exact hb4 | with_reducible refine Below.trans ?_ (Below.mono HBel.out (by (try simp) <;> omega)) | with_reducible refine Below.trans ?_ (Below.mono hb4 (by (try simp) <;> omega))))⟩
  · have HU := hide (show presR r = [] by simp [presR, h0])
    have hd : decide (classN r = 0) = false := by simp [h0]
    rw [hd] at HC
    clear hd h0
    go_enter Tryz.func32, Tryz.ntmps32
    go_wp2_with fail
    refine (HC.out _ (HR.out.below (B := w.heap.size) (by repeat (first | with_reducible exact Below.refl _ _ | with_reducible assumption | with_reducible refine Below.setCell ?_ (by (try simp) <;> omega) _ | with_reducible refine Below.alloc ?_ (by (try simp) <;> omega) _ | with_reducible refine Below.drew ?_ | with_reducible refine below_drewN ?_ _)) hB) (by (try simp) <;> omega)).mono ?_
    rintro e w1 ⟨rfl, hb1⟩
    go_wp2
    go_ret
    exact ⟨_, rfl, by rw [HU.out]; exact Own.nil_ _ _, (by repeat (first | with_reducible exact Below.refl _ _ | with_reducible assumption | with_reducible refine Below.setCell ?_ (by (try simp) <;> omega) _ | with_reducible refine Below.alloc ?_ (by (try simp) <;> omega) _ | with_reducible refine Below.drew ?_ | with_reducible refine below_drewN ?_ _ | with_reducible exact hb1 | with_reducible refine Below.trans ?_ (Below.mono hb1 (by (try simp) <;> omega))))⟩
set_option maxRecDepth 20000 in
set_option maxHeartbeats 2000000 in
theorem spresent_any (r : Rq) (A1 A2 A3 : Option Addr) (n1 n2 n3 c1 c2 c3 : Nat) (lo hi : Nat) (w : World) (hr : RqAt w lo hi r A1 n1 c1 A2 n2 c2 A3 n3 c3) (hB : hi ≤ w.heap.size) :
    Calls Tryz.prog 34 #[.agg #[.int .i64 r.way, .int .i64 r.pal.w, .int .i64 r.pal.d, .int .i64 r.pal.h, .int .i64 r.pal.gram, .int .i64 r.cls, .slice A1 n1 c1, .slice A2 n2 c2, .int .i64 r.master, .slice A3 n3 c3]] w fun e w' => ∃ v, e = .returned v ∧ Own 1 encInt 3 w' w.heap.size v (presR r) ∧ Below w.heap.size w w' := by
  have HC := hide (sclass_any r A1 A2 A3 n1 n2 n3 c1 c2 c3 lo hi)
  have HR := hide hr
  have hm3 := hr.it.max
  have hc3 := hr.it.cap
  have HL := hide hr.it.len
  have H0 := hide (own_at (w := w.alloc (.cells #[.int .i64 r.way, .int .i64 r.pal.w, .int .i64 r.pal.d, .int .i64 r.pal.h, .int .i64 r.pal.gram, .int .i64 r.cls, .slice A1 n1 c1, .slice A2 n2 c2, .int .i64 r.master, .slice A3 n3 c3] 37)) (base := w.heap.size + 1) (g := w.heap.size + 1) (by simp) (by simp) [] 0 #[] 3 rfl (by simp [maxLen]) rfl)
  clear hr
  by_cases h0 : classN r = 0
  case neg =>
    have HU := hide (show presR r = [] by simp [presR, h0])
    obtain ⟨q, hq⟩ : ∃ q, classN r = q := ⟨_, rfl⟩
    rw [hq] at HC h0
    clear hq
    have hd : (q == 0) = false := by simpa using h0
    go_enter Tryz.func34, Tryz.ntmps34
    go_wp2_with fail
    refine (HC.out _ (HR.out.below (B := w.heap.size) (by repeat (first | with_reducible exact Below.refl _ _ | with_reducible assumption | with_reducible refine Below.setCell ?_ (by (try simp) <;> omega) _ | with_reducible refine Below.alloc ?_ (by (try simp) <;> omega) _ | with_reducible refine Below.drew ?_ | with_reducible refine below_drewN ?_ _)) hB) (by (try simp) <;> omega)).mono ?_
    rintro e w1 ⟨rfl, hb1⟩
    have HO1 := hide (H0.out.below hb1)
    go_wp2
    go_ret
    exact ⟨_, rfl, by rw [HU.out]; exact HO1.out.base_le (by omega), (by repeat (first | with_reducible exact Below.refl _ _ | with_reducible assumption | with_reducible refine Below.setCell ?_ (by (try simp) <;> omega) _ | with_reducible refine Below.alloc ?_ (by (try simp) <;> omega) _ | with_reducible refine Below.drew ?_ | with_reducible refine below_drewN ?_ _ | with_reducible exact hb1 | with_reducible refine Below.trans ?_ (Below.mono hb1 (by (try simp) <;> omega))))⟩
  have HU := hide (show presR r = presTo r.items 4 by simp [presR, h0])
  rw [h0] at HC
  clear h0
  obtain ⟨RL, hRL⟩ : ∃ RL : Array Value, RL = #[.int .i64 r.way, .int .i64 r.pal.w, .int .i64 r.pal.d, .int .i64 r.pal.h, .int .i64 r.pal.gram, .int .i64 r.cls, .slice A1 n1 c1, .slice A2 n2 c2, .int .i64 r.master, .slice A3 n3 c3] := ⟨_, rfl⟩
  have HRL := hide hRL
  clear hRL
  go_enter Tryz.func34, Tryz.ntmps34
  go_wp2_with fail
  refine (HC.out _ (HR.out.below (B := w.heap.size) (by repeat (first | with_reducible exact Below.refl _ _ | with_reducible assumption | with_reducible refine Below.setCell ?_ (by (try simp) <;> omega) _ | with_reducible refine Below.alloc ?_ (by (try simp) <;> omega) _ | with_reducible refine Below.drew ?_ | with_reducible refine below_drewN ?_ _)) hB) (by (try simp) <;> omega)).mono ?_
  rintro e w1 ⟨rfl, hb1⟩
  have HO1 := hide (H0.out.below hb1)
  have L1 := hide (show Below w.heap.size w w1 from (by repeat (first | with_reducible exact Below.refl _ _ | with_reducible assumption | with_reducible refine Below.setCell ?_ (by (try simp) <;> omega) _ | with_reducible refine Below.alloc ?_ (by (try simp) <;> omega) _ | with_reducible refine Below.drew ?_ | with_reducible refine below_drewN ?_ _ | with_reducible exact hb1 | with_reducible refine Below.trans ?_ (Below.mono hb1 (by (try simp) <;> omega)))))
  have P1 := hide (Blk.belowH ((Blk.new w 37 (#[.int .i64 r.way, .int .i64 r.pal.w, .int .i64 r.pal.d, .int .i64 r.pal.h, .int .i64 r.pal.gram, .int .i64 r.cls, .slice A1 n1 c1, .slice A2 n2 c2, .int .i64 r.master, .slice A3 n3 c3]) (g := w.heap.size) (by simp)).alloc _) hb1)
  have z1 : w.heap.size + 1 + 1 ≤ w1.heap.size := by simpa using hb1.size
  clear hb1
  have kR := P1.out.cell
  have yR := P1.out.lt
  go_wp2
  go_loopw [3, 4] (fun o i wr => ∃ k : Nat, k ≤ 4 ∧ i = .int .i64 k ∧ Blk wr w.heap.size 37 RL ∧ Own 1 encInt 3 wr (w.heap.size + 1) o (presTo r.items k) ∧ Below w.heap.size w wr) (fun _ i _ => 4 - (intOf i).toNat)
  case atStart => exact ⟨0, by omega, rfl, P1.out.as HRL.out.symm, HO1.out, L1.out⟩
  case round =>
    obtain ⟨k, hk, rfl, B0, ho, hbel⟩ := hrel
    have HO := hide ho
    have PR := hide B0
    have HBel := hide hbel
    have hz := hbel.size
    have hz3 : w.heap.size + 1 ≤ wr.heap.size := B0.lt
    have HLO := hide (show (presTo r.items k).length ≤ 4194304 by have := presTo_len r.items k; omega)
    clear ho B0 hbel kR yR
    by_cases hlt : k < 4
    · have i1 : (k : Int) < 4 := by omega
      go_wp2
      obtain ⟨wo, hwo⟩ : ∃ wo : World, wo = wr := ⟨_, rfl⟩
      subst hwo
      go_loopw [5, 6] (fun f i wr' => ∃ j : Nat, j ≤ n3 ∧ i = .int .i64 j ∧ f = .bool (hasCls (r.items.take j) k) ∧ wo = wr') (fun _ i _ => n3 - (intOf i).toNat)
      case atStart => exact ⟨0, Nat.zero_le _, rfl, by simp [hasCls], rfl⟩
      case round =>
        obtain ⟨j, hj, rfl, rfl, rfl⟩ := hrel
        have kR := (PR.out.as HRL.out).cell
        have yR := PR.out.lt
        by_cases hlt2 : j < n3
        · obtain ⟨b0, off, x, hx, q, _, hb, d0, d1, d2, d3, d4, d5, d6, _⟩ := (HR.out.it.below HBel.out hB).it hlt2
          subst q
          have hsn := hide (hasCls_snoc (k : Int) hx)
          have j0 : (0 : Int) ≤ (j : Int) := by omega
          have j1 : (j : Int) < (n3 : Int) := by omega
          clear hx
          obtain ⟨f, hf⟩ : ∃ f, hasCls (r.items.take j) k = f := ⟨_, rfl⟩
          obtain ⟨g, hg⟩ : ∃ g, (x.cls == (k : Int)) = g := ⟨_, rfl⟩
          have HG := hide hg
          rw [hf, hg] at hsn
          rw [hf]
          clear hf
          cases f <;> cases g
          all_goals (
            go_wp2
            go_roundw
            case rel => exact ⟨j + 1, by omega, by go_num, by rw [hsn.out]; rfl, (by first | rfl | trivial)⟩
            case measure => simp [intOf]; omega)
        · have hge : n3 ≤ j := by omega
          have HT := hide (show r.items.take j = r.items from List.take_of_length_le (by rw [HL.out]; exact hge))
          have HS := hide (presTo_succ r.items k)
          clear hlt2
          rw [HT.out]
          obtain ⟨f, hf⟩ : ∃ f, hasCls r.items k = f := ⟨_, rfl⟩
          rw [hf] at HS
          rw [hf]
          clear hf
          cases f
          · go_wp2
            go_roundw
            case rel => exact ⟨k + 1, by omega, by go_num, PR.out, by rw [HS.out]; simpa using HO.out, HBel.out⟩
            case measure => simp [intOf]; omega
          · go_wp2_with (at_builtin; refine wpList_app rfl _ _ rfl rfl rfl (app1 HO.out hz3 HLO.out k) ?_; intro v' w4 ho4 hg4 hat4)
            go_roundw
            case rel => exact ⟨k + 1, by omega, by go_num, (PR.out.alloc _).grown hg4 (fun e => by have := (HO.out.lt _ e.symm).1; omega), by rw [HS.out]; exact ho4, below_app HBel.out (HO.out.base_le (by omega)) hz _ hg4⟩
            case measure => simp [intOf]; omega
    · obtain rfl : k = 4 := by omega
      clear hlt
      go_wp2
      go_ret
      exact ⟨_, rfl, by rw [HU.out]; exact HO.out.base_le (by omega), HBel.out⟩
end Go.Proofs.YtehgdhekiogppaaGreat
