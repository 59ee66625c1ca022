/- Beside and TableOk, the program's and the reference's. -/
import Derived.Test.YtcjcmdikopipjaaF1
import Derived.Laws.StructEq
namespace Go.Proofs.Ytcjcmdikopipjaa
open Go.ChangeShapes Go.WideShapes Go.ChangeAt Go.RowKit Go.Deep
set_option linter.unusedVariables false
set_option linter.unusedSimpArgs false

def besP (a b : Int) (y : Pr) : Bool := a == y.a && b == y.b
/-- One of the pairs is {a, b}. -/
def besB (xs : List Pr) (a b : Int) : Bool := xs.any (besP a b)
theorem eqPr (x y : Pr) (w : World) : (binOp .eql 100 (.agg #[.int .i64 x.a, .int .i64 x.b]) (.agg #[.int .i64 y.a, .int .i64 y.b])).run Try.prog w = .ok (.bool (besP x.a x.b y)) w := by
  have u3 := Try.underlying3
  have a3 := Try.isAgg3
  have z3 := Try.sizeOf3
  have hS : Try.prog.underlying 100 = some (.struct (Try.prog.fieldsOf 100)) := by kernel_rfl
  have hp : Try.prog.stoodInHeld 100 = false := by kernel_rfl
  rw [run_eql_struct, show (10000 : Nat) = 9999 + 1 from rfl, run_equalIn_agg w 9999 100 _ _ hS hp]
  simp only [Program.fieldsOf, Try.underlying100]
  go_simp
  by_cases h1 : x.a = y.a <;> by_cases h2 : x.b = y.b <;> simp [besP, h1, h2]
set_option maxRecDepth 20000 in
set_option maxHeartbeats 1000000 in
theorem indexPair (v : Pr) (lo hi : Nat) (A : Option Addr) (n c : Nat) (xs : List Pr) (w : World) (hs : SlK 2 encPr w lo hi A n c xs) (hB : hi ≤ w.heap.size) :
    Calls Try.prog 116 #[.slice A n c, .agg #[.int .i64 v.a, .int .i64 v.b]] w fun e w' => e = .returned (.int .i64 (idxOf (besP v.a v.b) xs)) ∧ Below w.heap.size w w' := by
  have hm := hs.max
  have hc := hs.cap
  have HL := hide hs.len
  have hg : Try.prog.eqGuardType Try.prog.depth 100 = false := by kernel_rfl
  go_enter Try.func116, Try.ntmps116
  go_wp2
  go_loopw [5, 8] (fun _ i wr => ∃ k : Nat, k ≤ n ∧ i = .int .i64 k ∧ Blk wr w.heap.size 100 #[.int .i64 v.a, .int .i64 v.b] ∧ Below w.heap.size w wr ∧ ∀ y ∈ xs.take k, besP v.a v.b y = false) (fun _ i _ => n - (intOf i).toNat)
  case atStart => exact ⟨0, Nat.zero_le _, rfl, Blk.new w _ _ rfl, (by repeat (first | with_reducible exact Below.refl _ _ | with_reducible assumption | with_reducible refine Below.setCell ?_ (by (try simp) <;> omega) _ | with_reducible refine Below.alloc ?_ (by (try simp) <;> omega) _ | with_reducible refine Below.drew ?_ | with_reducible refine below_drewN ?_ _)), by simp⟩
  case round =>
    obtain ⟨k, hk, rfl, B0, hbel, hA⟩ := hrel
    have HA := hide hA
    have kV := B0.cell
    have yV := B0.lt
    have P0 := hide B0
    clear hA B0
    by_cases hlt : k < n
    · obtain ⟨b0, off, x, hx, rfl, _, hb, c0, c1, _, _⟩ := (hs.below hbel hB).pr hlt
      have HX := hide hx
      have HS := hide hs
      have he := fun W => eqPr v x W
      have hltz : (k : Int) < (n : Int) := by omega
      have i0 : (0 : Int) ≤ (k : Int) := by omega
      clear hx hs
      cases hq : besP v.a v.b x with
      | true =>
        rw [hq] at he
        go_wp2_with fail
        go_quiet (fail)
        go_wp2
        go_ret
        exact ⟨ret_int (idxOf_hit HX.out hq HA.out).symm, below_drewN hbel _⟩
      | false =>
        rw [hq] at he
        go_wp2_with fail
        go_quiet (fail)
        go_wp2
        go_roundw
        case rel =>
          refine ⟨k + 1, by omega, by go_num, P0.out.drewN _, below_drewN hbel _, fun y hy => ?_⟩
          rcases mem_take_succ HX.out hy with h | h
          · exact HA.out y h
          · rw [h]; exact hq
        case measure => simp [intOf]; omega
    · have hge : n ≤ k := by omega
      clear hlt
      have HM := hide (show idxOf (besP v.a v.b) xs = -1 from idxOf_miss (by have := HA.out; rwa [List.take_of_length_le (by rw [HL.out]; omega)] at this))
      go_wp2
      go_ret
      exact ⟨ret_int HM.out.symm, hbel⟩
set_option maxHeartbeats 400000 in
theorem containsPair (v : Pr) (lo hi : Nat) (A : Option Addr) (n c : Nat) (xs : List Pr) (w : World) (hs : SlK 2 encPr w lo hi A n c xs) (hB : hi ≤ w.heap.size) :
    Calls Try.prog 113 #[.slice A n c, .agg #[.int .i64 v.a, .int .i64 v.b]] w fun e w' => e = .returned (.bool (besB xs v.a v.b)) ∧ Below w.heap.size w w' := by
  have HC := hide (fun W h => indexPair v lo hi A n c xs W h)
  have HI := hide (show decide (0 ≤ idxOf (besP v.a v.b) xs) = besB xs v.a v.b from idxOf_nonneg _ xs)
  have HS := hide hs
  clear hs
  generalize idxOf (besP v.a v.b) xs = r at *
  go_enter Try.func113, Try.ntmps113
  go_wp2_with (go_at_call 116; refine (HC.out _ (HS.out.alloc hB _) (by (try simp) <;> omega)).mono ?_; rintro e w1 ⟨rfl, hb1⟩)
  go_ret
  exact ⟨ret_bool HI.out, (by repeat (first | with_reducible exact Below.refl _ _ | with_reducible assumption | with_reducible refine Below.setCell ?_ (by (try simp) <;> omega) _ | with_reducible refine Below.alloc ?_ (by (try simp) <;> omega) _ | with_reducible refine Below.drew ?_ | with_reducible refine below_drewN ?_ _ | with_reducible exact hb1 | with_reducible refine Below.trans ?_ (Below.mono hb1 (by (try simp) <;> omega))))⟩
theorem bes_any (a b : Int) (lo hi : Nat) (A : Option Addr) (n c : Nat) (xs : List Pr) (w : World) (hs : SlK 2 encPr w lo hi A n c xs) (hB : hi ≤ w.heap.size) :
    Calls Try.prog 107 #[.slice A n c, .int .i64 a, .int .i64 b] w fun e w' => e = .returned (.bool (besB xs a b)) ∧ Below w.heap.size w w' := by
  go_enter Try.func107, Try.ntmps107
  go_wp2_with (go_at_call 113; refine (containsPair ⟨a, b⟩ lo hi A n c xs _ hs hB).mono ?_; rintro e w1 ⟨rfl, hb1⟩)
  go_ret
  exact ⟨rfl, hb1⟩
set_option maxHeartbeats 400000 in
theorem sbes_any (a b : Int) (lo hi : Nat) (A : Option Addr) (n c : Nat) (xs : List Pr) (w : World) (hs : SlK 2 encPr w lo hi A n c xs) :
    Calls Try.prog 84 #[.slice A n c, .int .i64 a, .int .i64 b] w fun e w' => e = .returned (.bool (besB xs a b)) ∧ w = w' := by
  have hm := hs.max
  have hc := hs.cap
  have HL := hide hs.len
  go_enter Try.func84, Try.ntmps84
  go_wp2
  go_loop [6, 7] (fun r i => ∃ k : Nat, k ≤ n ∧ i = .int .i64 k ∧ r = .bool false ∧ ∀ y ∈ xs.take k, besP a b y = false) (fun _ i => n - (intOf i).toNat)
  case atStart => exact ⟨0, Nat.zero_le _, rfl, rfl, by simp⟩
  case round =>
    obtain ⟨k, hk, rfl, rfl, hA⟩ := hrel
    have HA := hide hA
    clear hA
    by_cases hlt : k < n
    · obtain ⟨b0, off, x, hx, rfl, _, hb, c0, c1, _, _⟩ := hs.pr hlt
      have HX := hide hx
      have HS := hide hs
      clear hx hs
      cases h1 : (x.a == a)
      · have hq : besP a b x = false := by simp only [besP, Bool.beq_comm]; rw [show (a == x.a) = (x.a == a) from Bool.beq_comm ..]; simp [h1]
        have HQ := hide hq
        clear hq
        go_wp2
        go_round
        case rel =>
          refine ⟨k + 1, by omega, by go_num, rfl, fun y hy => ?_⟩
          rcases mem_take_succ HX.out hy with h | h
          · exact HA.out y h
          · rw [h]; exact HQ.out
        case measure => simp [intOf]; omega
      · cases h2 : (x.b == b)
        · have hq : besP a b x = false := by simp at h1 h2; simp [besP]; omega
          have HQ := hide hq
          clear hq
          go_wp2
          go_round
          case rel =>
            refine ⟨k + 1, by omega, by go_num, rfl, fun y hy => ?_⟩
            rcases mem_take_succ HX.out hy with h | h
            · exact HA.out y h
            · rw [h]; exact HQ.out
          case measure => simp [intOf]; omega
        · have hq : besP a b x = true := by simp at h1 h2; simp [besP]; omega
          have HQ := hide hq
          clear hq
          go_wp2
          go_ret
          have h3 : besB xs a b = true := by unfold besB; rw [List.any_eq_true]; exact ⟨x, List.mem_of_getElem? HX.out, HQ.out⟩
          exact ⟨ret_bool h3.symm, rfl⟩
    · have hge : n ≤ k := by omega
      clear hlt
      go_wp2
      go_ret
      have := HA.out
      rw [List.take_of_length_le (by rw [HL.out]; omega)] at this
      have h3 : besB xs a b = false := by unfold besB; rw [List.any_eq_false]; exact fun y hy => by simp [this y hy]
      exact ⟨ret_bool h3.symm, rfl⟩
def symB (xs : List Pr) (a b : Nat) : Bool := besB xs a b == besB xs b a
def rowB (xs : List Pr) (m a : Nat) : Bool := besB xs a a && (List.range m).all (symB xs a)
/-- The table is right. -/
def tableB (xs : List Pr) (classes : Int) : Bool := inB classes 1 4 && (List.range classes.toNat).all (rowB xs classes.toNat)
theorem all_range_of {p : Nat → Bool} {m : Nat} (h : ∀ i, i < m → p i = true) : (List.range m).all p = true := by
  rw [List.all_eq_true]
  exact fun i hi => h i (List.mem_range.1 hi)
theorem all_range_not {p : Nat → Bool} {m i : Nat} (hi : i < m) (h : p i = false) : (List.range m).all p = false := by
  rw [List.all_eq_false]
  exact ⟨i, List.mem_range.2 hi, by simp [h]⟩
set_option maxRecDepth 20000 in
set_option maxHeartbeats 1000000 in
theorem tableOk_any (cl : Int) (lo hi : Nat) (A : Option Addr) (n c : Nat) (xs : List Pr) (w : World) (hs : SlK 2 encPr w lo hi A n c xs) (hB : hi ≤ w.heap.size) :
    Calls Try.prog 89 #[.slice A n c, .int .i64 cl] w fun e w' => e = .returned (.bool (tableB xs cl)) ∧ Below w.heap.size w w' := by
  cases hin : inB cl 1 4
  · go_enter Try.func89, Try.ntmps89
    go_wp2_with (go_at_call 97; refine (in_any _ _ _ _).mono ?_; rintro e w' ⟨rfl, rfl⟩)
    go_ret
    exact ⟨ret_bool (by simp [tableB, hin]), Below.refl _ _⟩
  have hin' := (inB_iff _ _ _).1 hin
  obtain ⟨m, rfl⟩ := Int.eq_ofNat_of_zero_le (show 0 ≤ cl by omega)
  have HT := hide (show tableB xs (m : Int) = (List.range m).all (rowB xs m) by simp [tableB, hin])
  have hm4 : m ≤ 4 := by omega
  have HIN := hide hin
  have hin2 : inB (↑m) 1 4 = true := hin
  clear hin hin'
  go_enter Try.func89, Try.ntmps89
  go_wp2_with (go_at_call 97; refine (in_any _ _ _ _).mono ?_; rintro e w' ⟨rfl, rfl⟩)
  go_loopw [11] (fun i wr => ∃ k : Nat, k ≤ m ∧ i = .int .i64 k ∧ (∀ a, a < k → rowB xs m a = true) ∧ Below w.heap.size w wr) (fun i _ => m - (intOf i).toNat)
  case atStart => exact ⟨0, Nat.zero_le _, rfl, fun a h => absurd h (by omega), Below.refl _ _⟩
  case round =>
    obtain ⟨k, hk, rfl, hA, hbel⟩ := hrel
    have HA := hide hA
    have hz := hbel.size
    clear hA
    by_cases hlt : k < m
    · have hkz : (k : Int) < (m : Int) := by omega
      cases hq : besB xs k k
      · have HF := hide (show (List.range m).all (rowB xs m) = false from all_range_not hlt (by simp [rowB, hq]))
        have HQ := hide hq
        clear hq
        go_wp2_with fail
        refine (bes_any _ _ lo hi A n c xs _ (hs.below hbel hB) (by omega)).mono ?_
        rw [HQ.out]
        rintro e w1 ⟨rfl, hb1⟩
        go_wp2
        go_ret
        exact ⟨ret_bool (by rw [HT.out, HF.out]), hbel.trans (hb1.mono hz)⟩
      · have HQ := hide hq
        clear hq
        go_wp2_with fail
        refine (bes_any _ _ lo hi A n c xs _ (hs.below hbel hB) (by omega)).mono ?_
        rw [HQ.out]
        rintro e w1 ⟨rfl, hb1⟩
        have L1 := hide (hbel.trans (hb1.mono hz))
        have hz1 := L1.out.size
        clear hb1
        go_wp2
        go_loopw [20] (fun i wr2 => ∃ j : Nat, j ≤ m ∧ i = .int .i64 j ∧ (∀ b, b < j → symB xs k b = true) ∧ Below w.heap.size w wr2) (fun i _ => m - (intOf i).toNat)
        case atStart => exact ⟨0, Nat.zero_le _, rfl, fun a h => absurd h (by omega), L1.out⟩
        case round =>
          obtain ⟨j, hj, rfl, hA2, hbel2⟩ := hrel
          have HA2 := hide hA2
          have hz2 := hbel2.size
          clear hA2
          by_cases hlt2 : j < m
          · have hjz : (j : Int) < (m : Int) := by omega
            cases h1 : besB xs k j
            · cases h2 : besB xs j k
              · have H1 := hide h1
                have H2 := hide h2
                clear h1 h2
                go_wp2_with fail
                refine (bes_any _ _ lo hi A n c xs _ (hs.below hbel2 hB) (by omega)).mono ?_
                rw [H1.out]
                rintro e w3 ⟨rfl, hb3⟩
                have L3 := hide (hbel2.trans (hb3.mono hz2))
                have hz3 := L3.out.size
                clear hb3
                go_wp2_with fail
                refine (bes_any _ _ lo hi A n c xs _ (hs.below L3.out hB) (by omega)).mono ?_
                rw [H2.out]
                rintro e w4 ⟨rfl, hb4⟩
                have L4 := hide (L3.out.trans (hb4.mono hz3))
                clear hb4
                go_wp2
                go_roundw
                case rel =>
                  refine ⟨j + 1, by omega, by go_num, fun b hb => ?_, L4.out⟩
                  by_cases e : b = j
                  · rw [e]; simp [symB, H1.out, H2.out]
                  · exact HA2.out b (by omega)
                case measure => simp [intOf]; omega
              · have H1 := hide h1
                have H2 := hide h2
                clear h1 h2
                go_wp2_with fail
                refine (bes_any _ _ lo hi A n c xs _ (hs.below hbel2 hB) (by omega)).mono ?_
                rw [H1.out]
                rintro e w3 ⟨rfl, hb3⟩
                have L3 := hide (hbel2.trans (hb3.mono hz2))
                have hz3 := L3.out.size
                clear hb3
                go_wp2_with fail
                refine (bes_any _ _ lo hi A n c xs _ (hs.below L3.out hB) (by omega)).mono ?_
                rw [H2.out]
                rintro e w4 ⟨rfl, hb4⟩
                have L4 := hide (L3.out.trans (hb4.mono hz3))
                clear hb4
                go_wp2
                go_ret
                exact ⟨ret_bool (by rw [HT.out, all_range_not hlt (by unfold rowB; rw [all_range_not hlt2 (by simp [symB, H1.out, H2.out])]; simp)]), L4.out⟩
            · cases h2 : besB xs j k
              · have H1 := hide h1
                have H2 := hide h2
                clear h1 h2
                go_wp2_with fail
                refine (bes_any _ _ lo hi A n c xs _ (hs.below hbel2 hB) (by omega)).mono ?_
                rw [H1.out]
                rintro e w3 ⟨rfl, hb3⟩
                have L3 := hide (hbel2.trans (hb3.mono hz2))
                have hz3 := L3.out.size
                clear hb3
                go_wp2_with fail
                refine (bes_any _ _ lo hi A n c xs _ (hs.below L3.out hB) (by omega)).mono ?_
                rw [H2.out]
                rintro e w4 ⟨rfl, hb4⟩
                have L4 := hide (L3.out.trans (hb4.mono hz3))
                clear hb4
                go_wp2
                go_ret
                exact ⟨ret_bool (by rw [HT.out, all_range_not hlt (by unfold rowB; rw [all_range_not hlt2 (by simp [symB, H1.out, H2.out])]; simp)]), L4.out⟩
              · have H1 := hide h1
                have H2 := hide h2
                clear h1 h2
                go_wp2_with fail
                refine (bes_any _ _ lo hi A n c xs _ (hs.below hbel2 hB) (by omega)).mono ?_
                rw [H1.out]
                rintro e w3 ⟨rfl, hb3⟩
                have L3 := hide (hbel2.trans (hb3.mono hz2))
                have hz3 := L3.out.size
                clear hb3
                go_wp2_with fail
                refine (bes_any _ _ lo hi A n c xs _ (hs.below L3.out hB) (by omega)).mono ?_
                rw [H2.out]
                rintro e w4 ⟨rfl, hb4⟩
                have L4 := hide (L3.out.trans (hb4.mono hz3))
                clear hb4
                go_wp2
                go_roundw
                case rel =>
                  refine ⟨j + 1, by omega, by go_num, fun b hb => ?_, L4.out⟩
                  by_cases e : b = j
                  · rw [e]; simp [symB, H1.out, H2.out]
                  · exact HA2.out b (by omega)
                case measure => simp [intOf]; omega
          · have hge2 : m ≤ j := by omega
            clear hlt2
            go_wp2
            go_roundw
            case rel =>
              refine ⟨k + 1, by omega, by go_num, fun a ha => ?_, hbel2⟩
              by_cases e : a = k
              · rw [e]
                have h1 := HQ.out
                have h2 := all_range_of (p := symB xs k) (m := m) (fun i hi => HA2.out i (by omega))
                simp [rowB, h1, h2]
              · exact HA.out a (by omega)
            case measure => simp [intOf]; omega
    · have hge : m ≤ k := by omega
      clear hlt
      go_wp2
      go_ret
      exact ⟨ret_bool (by rw [HT.out, all_range_of fun i hi => HA.out i (by omega)]), hbel⟩
def TabR (xs : List Pr) (k b : Nat) : Prop := symB xs k b = true ∧ (b = k → besB xs k k = true)
set_option maxRecDepth 20000 in
set_option maxHeartbeats 1000000 in
theorem stableOk_any (cl : Int) (lo hi : Nat) (A : Option Addr) (n c : Nat) (xs : List Pr) (w : World) (hs : SlK 2 encPr w lo hi A n c xs) :
    Calls Try.prog 62 #[.slice A n c, .int .i64 cl] w fun e w' => e = .returned (.bool (tableB xs cl)) ∧ w = w' := by
  cases hin : inB cl 1 4
  · go_enter Try.func62, Try.ntmps62
    go_wp2_with (go_at_call 79; refine (sin_any _ _ _ _).mono ?_; rintro e w' ⟨rfl, rfl⟩)
    go_ret
    exact ⟨ret_bool (by simp [tableB, hin]), rfl⟩
  have hin' := (inB_iff _ _ _).1 hin
  obtain ⟨m, rfl⟩ := Int.eq_ofNat_of_zero_le (show 0 ≤ cl by omega)
  have HT := hide (show tableB xs (m : Int) = (List.range m).all (rowB xs m) by simp [tableB, hin])
  have hm4 : m ≤ 4 := by omega
  have hin2 : inB (↑m) 1 4 = true := hin
  clear hin hin'
  go_enter Try.func62, Try.ntmps62
  go_wp2_with (go_at_call 79; refine (sin_any _ _ _ _).mono ?_; rintro e w' ⟨rfl, rfl⟩)
  go_loop [5] (fun i => ∃ k : Nat, k ≤ m ∧ i = .int .i64 k ∧ ∀ a, a < k → rowB xs m a = true) (fun i => m - (intOf i).toNat)
  case atStart => exact ⟨0, Nat.zero_le _, rfl, fun a h => absurd h (by omega)⟩
  case round =>
    obtain ⟨k, hk, rfl, hA⟩ := hrel
    have HA := hide hA
    clear hA
    by_cases hlt : k < m
    · have hkz : (k : Int) < (m : Int) := by omega
      go_wp2
      go_loop [6] (fun i => ∃ j : Nat, j ≤ m ∧ i = .int .i64 j ∧ ∀ b, b < j → TabR xs k b) (fun i => m - (intOf i).toNat)
      case atStart => exact ⟨0, Nat.zero_le _, rfl, fun a h => absurd h (by omega)⟩
      case round =>
        obtain ⟨j, hj, rfl, hA2⟩ := hrel
        have HA2 := hide hA2
        clear hA2
        by_cases hlt2 : j < m
        · have hjz : (j : Int) < (m : Int) := by omega
          by_cases ekj : j = k
          · subst ekj
            cases h0 : besB xs j j
            · have H0 := hide h0
              clear h0
              go_wp2_with (go_at_call 84; refine (sbes_any _ _ lo hi A n c xs _ hs).mono ?_; rw [H0.out]; rintro e w' ⟨rfl, rfl⟩)
              go_ret
              exact ⟨ret_bool (by rw [HT.out, all_range_not hlt (by simp [rowB, H0.out])]), rfl⟩
            · have H0 := hide h0
              clear h0
              go_wp2_with (go_at_call 84; refine (sbes_any _ _ lo hi A n c xs _ hs).mono ?_; rw [H0.out]; rintro e w' ⟨rfl, rfl⟩)
              go_round
              case rel =>
                refine ⟨j + 1, by omega, by go_num, fun b hb => ?_⟩
                by_cases e : b = j
                · rw [e]; exact (show TabR xs j j from ⟨by simp [symB], fun _ => H0.out⟩)
                · exact HA2.out b (by omega)
              case measure => simp [intOf]; omega
          · have hne : ((k : Int) == (j : Int)) = false := by simp; omega
            cases h1 : besB xs k j
            · cases h2 : besB xs j k
              · have H1 := hide h1
                have H2 := hide h2
                clear h1 h2
                go_wp2_with fail
                refine (sbes_any _ _ lo hi A n c xs _ hs).mono ?_
                rw [H1.out]
                rintro e w3 ⟨rfl, rfl⟩
                go_wp2_with fail
                refine (sbes_any _ _ lo hi A n c xs _ hs).mono ?_
                rw [H2.out]
                rintro e w4 ⟨rfl, rfl⟩
                go_wp2
                go_round
                case rel =>
                  refine ⟨j + 1, by omega, by go_num, fun b hb => ?_⟩
                  by_cases e : b = j
                  · rw [e]; exact (show TabR xs k j from ⟨by simp [symB, H1.out, H2.out], fun h => absurd h ekj⟩)
                  · exact HA2.out b (by omega)
                case measure => simp [intOf]; omega
              · have H1 := hide h1
                have H2 := hide h2
                clear h1 h2
                go_wp2_with fail
                refine (sbes_any _ _ lo hi A n c xs _ hs).mono ?_
                rw [H1.out]
                rintro e w3 ⟨rfl, rfl⟩
                go_wp2_with fail
                refine (sbes_any _ _ lo hi A n c xs _ hs).mono ?_
                rw [H2.out]
                rintro e w4 ⟨rfl, rfl⟩
                go_wp2
                go_ret
                exact ⟨ret_bool (by rw [HT.out, all_range_not hlt (by unfold rowB; rw [all_range_not hlt2 (by simp [symB, H1.out, H2.out])]; simp)]), rfl⟩
            · cases h2 : besB xs j k
              · have H1 := hide h1
                have H2 := hide h2
                clear h1 h2
                go_wp2_with fail
                refine (sbes_any _ _ lo hi A n c xs _ hs).mono ?_
                rw [H1.out]
                rintro e w3 ⟨rfl, rfl⟩
                go_wp2_with fail
                refine (sbes_any _ _ lo hi A n c xs _ hs).mono ?_
                rw [H2.out]
                rintro e w4 ⟨rfl, rfl⟩
                go_wp2
                go_ret
                exact ⟨ret_bool (by rw [HT.out, all_range_not hlt (by unfold rowB; rw [all_range_not hlt2 (by simp [symB, H1.out, H2.out])]; simp)]), rfl⟩
              · have H1 := hide h1
                have H2 := hide h2
                clear h1 h2
                go_wp2_with fail
                refine (sbes_any _ _ lo hi A n c xs _ hs).mono ?_
                rw [H1.out]
                rintro e w3 ⟨rfl, rfl⟩
                go_wp2_with fail
                refine (sbes_any _ _ lo hi A n c xs _ hs).mono ?_
                rw [H2.out]
                rintro e w4 ⟨rfl, rfl⟩
                go_wp2
                go_round
                case rel =>
                  refine ⟨j + 1, by omega, by go_num, fun b hb => ?_⟩
                  by_cases e : b = j
                  · rw [e]; exact (show TabR xs k j from ⟨by simp [symB, H1.out, H2.out], fun h => absurd h ekj⟩)
                  · exact HA2.out b (by omega)
                case measure => simp [intOf]; omega
        · have hge2 : m ≤ j := by omega
          clear hlt2
          go_wp2
          go_round
          case rel =>
            refine ⟨k + 1, by omega, by go_num, fun a ha => ?_⟩
            by_cases e : a = k
            · rw [e]
              have h1 := (HA2.out k (by omega)).2 rfl
              have h2 := all_range_of (p := symB xs k) (m := m) (fun i hi => (HA2.out i (by omega)).1)
              simp [rowB, h1, h2]
            · exact HA.out a (by omega)
          case measure => simp [intOf]; omega
    · have hge : m ≤ k := by omega
      clear hlt
      go_wp2
      go_ret
      exact ⟨ret_bool (by rw [HT.out, all_range_of fun i hi => HA.out i (by omega)]), rfl⟩
end Go.Proofs.Ytcjcmdikopipjaa
