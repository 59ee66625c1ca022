/- Transitive and GroupOf, the program's and the reference's. -/
import Derived.Test.YtojmkkcjjlppiaaF2
import Derived.Test.YtojmkkcjjlppiaaC4
import Derived.Test.YtojmkkcjjlppiaaKin
namespace Go.Proofs.Ytojmkkcjjlppiaa
open Go.ChangeShapes Go.WideShapes Go.ChangeAt Go.RowKit Go.Deep
set_option linter.unusedVariables false
set_option linter.unusedSimpArgs false

/-- No triple of the list breaks the table. -/
def trBadAB (ps : List Pr) (xs : List Int) (a b : Int) : Bool := xs.any fun c => besB ps b c && !besB ps a c
def trB (ps : List Pr) (xs : List Int) : Bool := xs.all fun b => xs.all fun a => !(besB ps a b && trBadAB ps xs a b)
theorem trB_iff (ps : List Pr) (xs : List Int) : trB ps xs = true ↔ ∀ a ∈ xs, ∀ b ∈ xs, ∀ c ∈ xs, besB ps a b = true → besB ps b c = true → besB ps a c = true := by
  simp only [trB, trBadAB, List.all_eq_true, Bool.not_eq_true', Bool.and_eq_false_iff, List.any_eq_false, Bool.and_eq_true, not_and, Bool.not_eq_true, Bool.not_eq_false]
  constructor
  · intro h a ha b hb c hc h1 h2
    rcases h b hb a ha with h3 | h3
    · rw [h1] at h3; cases h3
    · exact h3 c hc h2
  · intro h b hb a ha
    cases h1 : besB ps a b
    · exact .inl rfl
    · exact .inr fun c hc h2 => h a ha b hb c hc h1 h2
theorem trB_kinds (ps : List Pr) (xs ys : List Int) (h : ∀ y, y ∈ ys ↔ y ∈ xs) : trB ps ys = trB ps xs := by
  rw [Bool.eq_iff_iff, trB_iff, trB_iff]
  simp only [h]
set_option maxHeartbeats 1000000 in
theorem predTr (a b : Int) (lo hi : Nat) (A : Option Addr) (n c : Nat) (ps : List Pr) (xs : List Int) (g0 g1 g2 : Nat) (w : World) (hs : SlK 2 encPr w lo hi A n c ps) (hB : hi ≤ w.heap.size)
    (h0 : w.cell? ⟨g0, 0, none⟩ = some (.slice A n c)) (h1 : w.cell? ⟨g1, 0, none⟩ = some (.int .i64 b)) (h2 : w.cell? ⟨g2, 0, none⟩ = some (.int .i64 a)) (l0 : g0 < w.heap.size) (l1 : g1 < w.heap.size) (l2 : g2 < w.heap.size) :
    PredM Try.prog 77 #[.pointer (some ⟨g0, 0, none⟩), .pointer (some ⟨g1, 0, none⟩), .pointer (some ⟨g2, 0, none⟩)] valInt (fun c => besB ps b c && !besB ps a c) xs w := fun W x _ hb => by
  show Calls Try.prog 77 #[.int .i64 x, .pointer (some ⟨g0, 0, none⟩), .pointer (some ⟨g1, 0, none⟩), .pointer (some ⟨g2, 0, none⟩)] W _
  have HS := hide (hs.below hb hB)
  have hz := hb.size
  have k0 : W.cell? ⟨g0, 0, none⟩ = some (.slice A n c) := (hb.cell (p := ⟨g0, 0, none⟩) l0).trans h0
  have k1 : W.cell? ⟨g1, 0, none⟩ = some (.int .i64 b) := (hb.cell (p := ⟨g1, 0, none⟩) l1).trans h1
  have k2 : W.cell? ⟨g2, 0, none⟩ = some (.int .i64 a) := (hb.cell (p := ⟨g2, 0, none⟩) l2).trans h2
  have HB1 := hide (bes_any b x lo hi A n c ps)
  have HB2 := hide (bes_any a x lo hi A n c ps)
  clear hs h0 h1 h2 hb
  obtain ⟨t1, ht1⟩ : ∃ t, besB ps b x = t := ⟨_, rfl⟩
  obtain ⟨t2, ht2⟩ : ∃ t, besB ps a x = t := ⟨_, rfl⟩
  have HF := hide (show (besB ps b x && !besB ps a x) = (t1 && !t2) by rw [ht1, ht2])
  rw [ht1] at HB1
  rw [ht2] at HB2
  clear ht1 ht2
  go_enter Try.func77, Try.ntmps77
  go_wp2_with fail
  refine (HB1.out _ HS.out (by omega)).mono ?_
  rintro e w1 ⟨rfl, hb1⟩
  have k0 : w1.cell? ⟨g0, 0, none⟩ = some (.slice A n c) := (hb1.cell (p := ⟨g0, 0, none⟩) (by show g0 < _; omega)).trans k0
  have k2 : w1.cell? ⟨g2, 0, none⟩ = some (.int .i64 a) := (hb1.cell (p := ⟨g2, 0, none⟩) (by show g2 < _; omega)).trans k2
  have HS1 := hide (HS.out.below hb1 (by omega))
  have z1 := hb1.size
  cases t1
  · go_wp2
    go_ret
    exact ⟨ret_bool (by rw [HF.out]; rfl), hb1⟩
  · go_wp2_with fail
    refine (HB2.out _ HS1.out (by omega)).mono ?_
    rintro e w2 ⟨rfl, hb2⟩
    go_wp2
    go_ret
    exact ⟨ret_bool (by rw [HF.out]; rfl), hb1.trans (hb2.mono (by omega))⟩
/-- No third number breaks the table behind a and b. -/
def trOk (ps : List Pr) (a b c : Int) : Bool := !(besB ps a b && besB ps b c && !besB ps a c)
theorem trB_bad {ps : List Pr} {xs : List Int} {a b c : Int} (ha : a ∈ xs) (hb : b ∈ xs) (hc : c ∈ xs) (h : trOk ps a b c = false) : trB ps xs = false := by
  cases h0 : trB ps xs
  · rfl
  · have := (trB_iff ps xs).1 h0 a ha b hb c hc
    simp only [trOk, Bool.not_eq_false', Bool.and_eq_true, Bool.not_eq_true'] at h
    rw [this h.1.1 h.1.2] at h
    cases h.2
theorem trB_good {ps : List Pr} {xs : List Int} (h : ∀ a ∈ xs, ∀ b ∈ xs, ∀ c ∈ xs, trOk ps a b c = true) : trB ps xs = true :=
  (trB_iff ps xs).2 fun a ha b hb c hc h1 h2 => by
    have := h a ha b hb c hc
    rw [trOk, h1, h2] at this
    cases h3 : besB ps a c
    · rw [h3] at this; cases this
    · rfl
def Rows3 (ps : List Pr) (xs : List Int) (k : Nat) : Prop := ∀ a ∈ xs.take k, ∀ b ∈ xs, ∀ c ∈ xs, trOk ps a b c = true
def Rows2 (ps : List Pr) (xs : List Int) (a : Int) (k : Nat) : Prop := ∀ b ∈ xs.take k, ∀ c ∈ xs, trOk ps a b c = true
def Rows1 (ps : List Pr) (xs : List Int) (a b : Int) (k : Nat) : Prop := ∀ c ∈ xs.take k, trOk ps a b c = true
theorem rows1_snoc {ps : List Pr} {xs : List Int} {a b c : Int} {k : Nat} (h : Rows1 ps xs a b k) (hx : xs[k]? = some c) (h1 : trOk ps a b c = true) : Rows1 ps xs a b (k + 1) := fun y hy => by
  rcases mem_take_succ hx hy with h2 | h2
  · exact h y h2
  · rw [h2]; exact h1
theorem rows2_snoc {ps : List Pr} {xs : List Int} {a b : Int} {k m : Nat} (h : Rows2 ps xs a k) (hx : xs[k]? = some b) (h1 : Rows1 ps xs a b m) (hm : xs.length ≤ m) : Rows2 ps xs a (k + 1) := fun y hy => by
  rcases mem_take_succ hx hy with h2 | h2
  · exact h y h2
  · rw [h2]; intro c hc; exact h1 c (by rw [List.take_of_length_le hm]; exact hc)
theorem rows3_snoc {ps : List Pr} {xs : List Int} {a : Int} {k m : Nat} (h : Rows3 ps xs k) (hx : xs[k]? = some a) (h1 : Rows2 ps xs a m) (hm : xs.length ≤ m) : Rows3 ps xs (k + 1) := fun y hy => by
  rcases mem_take_succ hx hy with h2 | h2
  · exact h y h2
  · rw [h2]; intro c hc; exact h1 c (by rw [List.take_of_length_le hm]; exact hc)
theorem rows3_all {ps : List Pr} {xs : List Int} {m : Nat} (h : Rows3 ps xs m) (hm : xs.length ≤ m) : trB ps xs = true :=
  trB_good fun a ha => h a (by rw [List.take_of_length_le hm]; exact ha)
set_option maxRecDepth 20000 in
set_option maxHeartbeats 2000000 in
theorem strans_any (lo hi : Nat) (A : Option Addr) (n c : Nat) (ps : List Pr) (lo2 hi2 : Nat) (A' : Option Addr) (n' c' : Nat) (xs : List Int) (w : World) (hs : SlK 2 encPr w lo hi A n c ps) (hB : hi ≤ w.heap.size) (hx : SlK 1 encInt w lo2 hi2 A' n' c' xs) (hB2 : hi2 ≤ w.heap.size) :
    Calls Try.prog 32 #[.slice A n c, .slice A' n' c'] w fun e w' => e = .returned (.bool (trB ps xs)) ∧ Below w.heap.size w w' := by
  have hm := hx.max
  have hc' := hx.cap
  have HL := hide hx.len
  have HS := hide hs
  have HX := hide hx
  clear hs hx
  go_enter Try.func32, Try.ntmps32
  go_wp2
  go_loopw [5] (fun i wr => ∃ k : Nat, k ≤ n' ∧ i = .int .i64 k ∧ Below w.heap.size w wr ∧ Rows3 ps xs k) (fun i _ => n' - (intOf i).toNat)
  case atStart => exact ⟨0, Nat.zero_le _, rfl, (by repeat (first | with_reducible exact Below.refl _ _ | with_reducible assumption | with_reducible refine Below.setCell ?_ (by (try simp) <;> omega) _ | with_reducible refine Below.alloc ?_ (by (try simp) <;> omega) _ | with_reducible refine Below.drew ?_ | with_reducible refine below_drewN ?_ _)), fun a ha => by simp at ha⟩
  case round =>
    obtain ⟨k, hk, rfl, hbel, hA⟩ := hrel
    have HA := hide hA
    have HBel := hide hbel
    clear hA hbel
    by_cases hlt : k < n'
    · obtain ⟨bu, ou, a, ha, rfl, _, hbu, cu, _⟩ := (HX.out.below HBel.out hB2).int hlt
      have HAK := hide ha
      have i0 : (0 : Int) ≤ (k : Int) := by omega
      have i1 : (k : Int) < (n' : Int) := by omega
      clear ha cu
      go_wp2
      go_loopw [6] (fun i wr => ∃ k : Nat, k ≤ n' ∧ i = .int .i64 k ∧ Below w.heap.size w wr ∧ Rows2 ps xs a k) (fun i _ => n' - (intOf i).toNat)
      case atStart => exact ⟨0, Nat.zero_le _, rfl, (by repeat (first | with_reducible exact Below.refl _ _ | with_reducible assumption | with_reducible refine Below.setCell ?_ (by (try simp) <;> omega) _ | with_reducible refine Below.alloc ?_ (by (try simp) <;> omega) _ | with_reducible refine Below.drew ?_ | with_reducible refine below_drewN ?_ _ | with_reducible exact HBel.out | with_reducible refine Below.trans ?_ (Below.mono HBel.out (by (try simp) <;> omega)))), fun a ha => by simp at ha⟩
      case round =>
        obtain ⟨j, hj, rfl, hbel, hA⟩ := hrel
        have HA2 := hide hA
        have HBel2 := hide hbel
        clear hA hbel
        by_cases hlt2 : j < n'
        · obtain ⟨b1, o1, b, hb, e1, _, hb1, cu, _⟩ := (HX.out.below HBel2.out hB2).int hlt2
          injection e1 with e1
          injection e1 with e1 e2
          subst e1 e2
          have HBK := hide hb
          have j0 : (0 : Int) ≤ (j : Int) := by omega
          have j1 : (j : Int) < (n' : Int) := by omega
          clear hb cu
          go_wp2
          go_loopw [7] (fun i wr => ∃ k : Nat, k ≤ n' ∧ i = .int .i64 k ∧ Below w.heap.size w wr ∧ Rows1 ps xs a b k) (fun i _ => n' - (intOf i).toNat)
          case atStart => exact ⟨0, Nat.zero_le _, rfl, (by repeat (first | with_reducible exact Below.refl _ _ | with_reducible assumption | with_reducible refine Below.setCell ?_ (by (try simp) <;> omega) _ | with_reducible refine Below.alloc ?_ (by (try simp) <;> omega) _ | with_reducible refine Below.drew ?_ | with_reducible refine below_drewN ?_ _ | with_reducible exact HBel2.out | with_reducible refine Below.trans ?_ (Below.mono HBel2.out (by (try simp) <;> omega)))), fun a ha => by simp at ha⟩
          case round =>
            obtain ⟨m, hm', rfl, hbel, hA⟩ := hrel
            have HA1 := hide hA
            have HBel3 := hide hbel
            clear hA hbel
            by_cases hlt3 : m < n'
            · obtain ⟨b2, o2, z, hz, e1, _, hb2, cz, _⟩ := (HX.out.below HBel3.out hB2).int hlt3
              injection e1 with e1
              injection e1 with e1 e2
              subst e1 e2
              obtain ⟨b2, o2, a', ha', e1, _, hb2, ca, _⟩ := (HX.out.below HBel3.out hB2).int hlt
              injection e1 with e1
              injection e1 with e1 e2
              subst e1 e2
              obtain rfl : a' = a := by have := HAK.out; rw [ha'] at this; injection this
              obtain ⟨b2, o2, b', hb', e1, _, hb2, cb, _⟩ := (HX.out.below HBel3.out hB2).int hlt2
              injection e1 with e1
              injection e1 with e1 e2
              subst e1 e2
              obtain rfl : b' = b := by have := HBK.out; rw [hb'] at this; injection this
              have HZK := hide hz
              have m0 : (0 : Int) ≤ (m : Int) := by omega
              have m1 : (m : Int) < (n' : Int) := by omega
              have HC1 := hide (fun W h => sbes_any a' b' lo hi A n c ps W h)
              have HC2 := hide (fun W h => sbes_any b' z lo hi A n c ps W h)
              have HC3 := hide (fun W h => sbes_any a' z lo hi A n c ps W h)
              clear hz ha' hb'
              obtain ⟨t1, ht1⟩ : ∃ t, besB ps a' b' = t := ⟨_, rfl⟩
              obtain ⟨t2, ht2⟩ : ∃ t, besB ps b' z = t := ⟨_, rfl⟩
              obtain ⟨t3, ht3⟩ : ∃ t, besB ps a' z = t := ⟨_, rfl⟩
              have HT := hide (show trOk ps a' b' z = !(t1 && t2 && !t3) by rw [trOk, ht1, ht2, ht3])
              rw [ht1] at HC1
              rw [ht2] at HC2
              rw [ht3] at HC3
              have HSW := hide (HS.out.below HBel3.out hB)
              clear ht1 ht2 ht3
              cases t1 <;> cases t2 <;> cases t3
              all_goals (
                go_wp2_with fail
                go_quiet (first | (go_at_call 22; (with_reducible refine (HC1.out _ (HSW.out.drewN _)).mono ?_); rintro e w' ⟨rfl, rfl⟩; exact ⟨rfl, _, rfl⟩) | (go_at_call 22; (with_reducible refine (HC2.out _ (HSW.out.drewN _)).mono ?_); rintro e w' ⟨rfl, rfl⟩; exact ⟨rfl, _, rfl⟩) | (go_at_call 22; (with_reducible refine (HC3.out _ (HSW.out.drewN _)).mono ?_); rintro e w' ⟨rfl, rfl⟩; exact ⟨rfl, _, rfl⟩))
                go_wp2)
              all_goals first
                | (go_roundw
                   case rel => exact ⟨m + 1, by omega, by go_num, (by repeat (first | with_reducible exact Below.refl _ _ | with_reducible assumption | with_reducible refine Below.setCell ?_ (by (try simp) <;> omega) _ | with_reducible refine Below.alloc ?_ (by (try simp) <;> omega) _ | with_reducible refine Below.drew ?_ | with_reducible refine below_drewN ?_ _ | with_reducible exact HBel3.out | with_reducible refine Below.trans ?_ (Below.mono HBel3.out (by (try simp) <;> omega)))), rows1_snoc HA1.out HZK.out HT.out⟩
                   case measure => simp [intOf]; omega)
                | (go_ret
                   exact ⟨ret_bool (trB_bad (List.mem_of_getElem? HAK.out) (List.mem_of_getElem? HBK.out) (List.mem_of_getElem? HZK.out) HT.out).symm, (by repeat (first | with_reducible exact Below.refl _ _ | with_reducible assumption | with_reducible refine Below.setCell ?_ (by (try simp) <;> omega) _ | with_reducible refine Below.alloc ?_ (by (try simp) <;> omega) _ | with_reducible refine Below.drew ?_ | with_reducible refine below_drewN ?_ _ | with_reducible exact HBel3.out | with_reducible refine Below.trans ?_ (Below.mono HBel3.out (by (try simp) <;> omega))))⟩)
            · have hge : xs.length ≤ m := by rw [HL.out]; omega
              have hge' : n' ≤ m := by omega
              clear hlt3
              go_wp2
              go_roundw
              case rel => exact ⟨j + 1, by omega, by go_num, (by repeat (first | with_reducible exact Below.refl _ _ | with_reducible assumption | with_reducible refine Below.setCell ?_ (by (try simp) <;> omega) _ | with_reducible refine Below.alloc ?_ (by (try simp) <;> omega) _ | with_reducible refine Below.drew ?_ | with_reducible refine below_drewN ?_ _ | with_reducible exact HBel3.out | with_reducible refine Below.trans ?_ (Below.mono HBel3.out (by (try simp) <;> omega)))), rows2_snoc HA2.out HBK.out HA1.out hge⟩
              case measure => simp [intOf]; omega
        · have hge : xs.length ≤ j := by rw [HL.out]; omega
          have hge' : n' ≤ j := by omega
          clear hlt2
          go_wp2
          go_roundw
          case rel => exact ⟨k + 1, by omega, by go_num, (by repeat (first | with_reducible exact Below.refl _ _ | with_reducible assumption | with_reducible refine Below.setCell ?_ (by (try simp) <;> omega) _ | with_reducible refine Below.alloc ?_ (by (try simp) <;> omega) _ | with_reducible refine Below.drew ?_ | with_reducible refine below_drewN ?_ _ | with_reducible exact HBel2.out | with_reducible refine Below.trans ?_ (Below.mono HBel2.out (by (try simp) <;> omega)))), rows3_snoc HA.out HAK.out HA2.out hge⟩
          case measure => simp [intOf]; omega
    · have hge : xs.length ≤ k := by rw [HL.out]; omega
      have hge' : n' ≤ k := by omega
      clear hlt
      go_wp2
      go_ret
      exact ⟨ret_bool (rows3_all HA.out hge).symm, (by repeat (first | with_reducible exact Below.refl _ _ | with_reducible assumption | with_reducible refine Below.setCell ?_ (by (try simp) <;> omega) _ | with_reducible refine Below.alloc ?_ (by (try simp) <;> omega) _ | with_reducible refine Below.drew ?_ | with_reducible refine below_drewN ?_ _ | with_reducible exact HBel.out | with_reducible refine Below.trans ?_ (Below.mono HBel.out (by (try simp) <;> omega))))⟩
/-- No a of the list breaks the table in front of b. -/
def badAB (ps : List Pr) (xs : List Int) (a b : Int) : Bool := besB ps a b && trBadAB ps xs a b
theorem trB_no {ps : List Pr} {xs : List Int} {a b : Int} (hb : b ∈ xs) (ha : a ∈ xs) (h : badAB ps xs a b = true) : trB ps xs = false := by
  unfold trB
  rw [List.all_eq_false]
  refine ⟨b, hb, ?_⟩
  rw [Bool.not_eq_true, List.all_eq_false]
  exact ⟨a, ha, by unfold badAB at h; rw [h]; simp⟩
theorem trB_yes {ps : List Pr} {xs : List Int} {m : Nat} (hm : xs.length ≤ m) (h : ∀ b ∈ xs.take m, ∀ a ∈ xs, badAB ps xs a b = false) : trB ps xs = true := by
  rw [List.take_of_length_le hm] at h
  unfold trB
  rw [List.all_eq_true]
  intro b hb
  rw [List.all_eq_true]
  intro a ha
  have := h b hb a ha
  unfold badAB at this
  rw [this]
  rfl
theorem cols_snoc {ps : List Pr} {xs : List Int} {k m : Nat} {b : Int} (hx : xs[k]? = some b) (hm : xs.length ≤ m) (h : ∀ b ∈ xs.take k, ∀ a ∈ xs, badAB ps xs a b = false) (h2 : ∀ a ∈ xs.take m, badAB ps xs a b = false) : ∀ b ∈ xs.take (k + 1), ∀ a ∈ xs, badAB ps xs a b = false := by
  rw [List.take_of_length_le hm] at h2
  intro y hy
  rcases mem_take_succ hx hy with h3 | h3
  · exact h y h3
  · rw [h3]; exact h2
theorem row_snoc {ps : List Pr} {xs : List Int} {j : Nat} {a b : Int} (hx : xs[j]? = some a) (h : ∀ a ∈ xs.take j, badAB ps xs a b = false) (h2 : badAB ps xs a b = false) : ∀ a ∈ xs.take (j + 1), badAB ps xs a b = false := by
  intro y hy
  rcases mem_take_succ hx hy with h3 | h3
  · exact h y h3
  · rw [h3]; exact h2
set_option maxRecDepth 20000 in
set_option maxHeartbeats 2000000 in
theorem trans_any (lo hi : Nat) (A : Option Addr) (n c : Nat) (ps : List Pr) (lo2 hi2 : Nat) (A' : Option Addr) (n' c' : Nat) (xs : List Int) (w : World) (hs : SlK 2 encPr w lo hi A n c ps) (hB : hi ≤ w.heap.size) (hx : SlK 1 encInt w lo2 hi2 A' n' c' xs) (hB2 : hi2 ≤ w.heap.size) (hn : n' ≤ 4194304) :
    Calls Try.prog 35 #[.slice A n c, .slice A' n' c'] w fun e w' => e = .returned (.bool (trB ps xs)) ∧ Below w.heap.size w w' := by
  have HT := hide (trB_kinds ps xs (kindsL xs) (kinds_asc xs).2)
  have HKA := hide (kinds_any lo2 hi2 A' n' c' xs)
  have hlen : (kindsL xs).length ≤ n' := by have := kindsL_len xs; have := hx.len; omega
  obtain ⟨ks, hks⟩ : ∃ ks, kindsL xs = ks := ⟨_, rfl⟩
  rw [hks] at HT HKA hlen
  clear hks
  obtain ⟨m, hm⟩ : ∃ m, ks.length = m := ⟨_, rfl⟩
  rw [hm] at hlen
  have HM := hide hm
  have e1 : ∀ args w, (callFunc 77 args).run Try.prog w = .ok (.enter 77 args) w := enters_of Try.func77 (by kernel_rfl) rfl
  have HC := hide (fun (p : Int → Bool) lb lo hi A n c xs W hp h h' => containsFuncInt p 77 lb e1 lo hi A n c xs W hp h h')
  clear e1 hm
  go_enter Try.func35, Try.ntmps35
  go_wp2_with fail
  refine (HKA.out _ (hx.below (B := w.heap.size) (by repeat (first | with_reducible exact Below.refl _ _ | with_reducible assumption | with_reducible refine Below.setCell ?_ (by (try simp) <;> omega) _ | with_reducible refine Below.alloc ?_ (by (try simp) <;> omega) _ | with_reducible refine Below.drew ?_ | with_reducible refine below_drewN ?_ _)) hB2) hn).mono ?_
  rintro e w1 ⟨v, rfl, ho, hb1⟩
  obtain ⟨A1, c1, rfl, s1⟩ := Own.slk' encInt_len HM.out ho
  have P1 := hide (Blk.belowH (Blk.new w 29 (#[.slice A n c]) rfl) hb1)
  have HS1 := hide (hs.below (B := w.heap.size) (w' := w1) (by repeat (first | with_reducible exact Below.refl _ _ | with_reducible assumption | with_reducible refine Below.setCell ?_ (by (try simp) <;> omega) _ | with_reducible refine Below.alloc ?_ (by (try simp) <;> omega) _ | with_reducible refine Below.drew ?_ | with_reducible refine below_drewN ?_ _ | with_reducible exact hb1 | with_reducible refine Below.trans ?_ (Below.mono hb1 (by (try simp) <;> omega)))) hB)
  have L1 := hide (show Below w.heap.size w w1 from (by repeat (first | with_reducible exact Below.refl _ _ | with_reducible assumption | with_reducible refine Below.setCell ?_ (by (try simp) <;> omega) _ | with_reducible refine Below.alloc ?_ (by (try simp) <;> omega) _ | with_reducible refine Below.drew ?_ | with_reducible refine below_drewN ?_ _ | with_reducible exact hb1 | with_reducible refine Below.trans ?_ (Below.mono hb1 (by (try simp) <;> omega)))))
  have z1 : w.heap.size + 1 ≤ w1.heap.size := by simpa using hb1.size
  have m1 := s1.max
  have m2 := s1.cap
  have HK := hide s1
  clear s1 ho hb1 hs hx HKA
  go_wp2
  go_loopw [14] (fun i wr => ∃ k : Nat, k ≤ m ∧ i = .int .i64 k ∧ Below w1.heap.size w1 wr ∧ ∀ b ∈ ks.take k, ∀ a ∈ ks, badAB ps ks a b = false) (fun i _ => m - (intOf i).toNat)
  case atStart => exact ⟨0, Nat.zero_le _, rfl, Below.refl _ _, fun b h => by simp at h⟩
  case round =>
    obtain ⟨wo, hwo⟩ : ∃ wo : World, wo = wr := ⟨_, rfl⟩
    subst hwo
    obtain ⟨k, hk, rfl, hbel, hA⟩ := hrel
    have HA := hide hA
    have HBel := hide hbel
    have y1 := hbel.size
    clear hA hbel
    by_cases hlt : k < m
    · obtain ⟨bu, ou, b, hb, rfl, _, hbu, cu, _⟩ := (HK.out.below HBel.out (Nat.le_refl _)).int hlt
      have HBK := hide hb
      have i0 : (0 : Int) ≤ (k : Int) := by omega
      have i1 : (k : Int) < (m : Int) := by omega
      have i2 : bu ≠ wo.heap.size := by omega
      clear hb
      go_wp2
      go_loopw [20] (fun i wr => ∃ j : Nat, j ≤ m ∧ i = .int .i64 j ∧ Below w1.heap.size w1 wr ∧ Blk wr wo.heap.size 3 #[.int .i64 b] ∧ ∀ a ∈ ks.take j, badAB ps ks a b = false) (fun i _ => m - (intOf i).toNat)
      case atStart => exact ⟨0, Nat.zero_le _, rfl, (by repeat (first | with_reducible exact Below.refl _ _ | with_reducible assumption | with_reducible refine Below.setCell ?_ (by (try simp) <;> omega) _ | with_reducible refine Below.alloc ?_ (by (try simp) <;> omega) _ | with_reducible refine Below.drew ?_ | with_reducible refine below_drewN ?_ _ | with_reducible exact HBel.out | with_reducible refine Below.trans ?_ (Below.mono HBel.out (by (try simp) <;> omega)))), Blk.new _ _ _ rfl, fun b h => by simp at h⟩
      case round =>
        obtain ⟨j, hj, rfl, hbel, hB0, hA⟩ := hrel
        have HA2 := hide hA
        have HBel2 := hide hbel
        have B0 := hide hB0
        have y2 := hbel.size
        have y3 := hB0.lt
        have q0 := hB0.cell
        clear hA hbel hB0 cu
        by_cases hlt2 : j < m
        · obtain ⟨b1, o1, a, ha, e1, _, hb1, cu, _⟩ := (HK.out.below HBel2.out (Nat.le_refl _)).int hlt2
          injection e1 with e1
          injection e1 with e1 e2
          subst e1 e2
          have HAK := hide ha
          have j0 : (0 : Int) ≤ (j : Int) := by omega
          have j1 : (j : Int) < (m : Int) := by omega
          have P2 := hide (P1.out.below (B := w1.heap.size) HBel2.out (by omega))
          have q1 := P2.out.cell
          have i3 : bu ≠ wr.heap.size := by omega
          have i4 : w.heap.size ≠ wr.heap.size := by omega
          have i5 : wo.heap.size ≠ wr.heap.size := by omega
          have i6 : w.heap.size < wr.heap.size := by omega
          obtain ⟨t, ht⟩ : ∃ t, besB ps a b = t := ⟨_, rfl⟩
          have HBS := hide (bes_any a b lo hi A n c ps)
          rw [ht] at HBS
          have HBA := hide (show badAB ps ks a b = (t && trBadAB ps ks a b) by rw [badAB, ht])
          clear ht ha
          go_wp2_with fail
          refine (HBS.out _ (HS1.out.below (B := w1.heap.size) (by repeat (first | with_reducible exact Below.refl _ _ | with_reducible assumption | with_reducible refine Below.setCell ?_ (by (try simp) <;> omega) _ | with_reducible refine Below.alloc ?_ (by (try simp) <;> omega) _ | with_reducible refine Below.drew ?_ | with_reducible refine below_drewN ?_ _ | with_reducible exact HBel2.out | with_reducible refine Below.trans ?_ (Below.mono HBel2.out (by (try simp) <;> omega)))) (by omega)) (by (try simp) <;> omega)).mono ?_
          rintro e w4 ⟨rfl, hb4⟩
          have L4 := hide (show Below w1.heap.size w1 w4 from (by repeat (first | with_reducible exact Below.refl _ _ | with_reducible assumption | with_reducible refine Below.setCell ?_ (by (try simp) <;> omega) _ | with_reducible refine Below.alloc ?_ (by (try simp) <;> omega) _ | with_reducible refine Below.drew ?_ | with_reducible refine below_drewN ?_ _ | with_reducible exact HBel2.out | with_reducible exact hb4 | with_reducible refine Below.trans ?_ (Below.mono HBel2.out (by (try simp) <;> omega)) | with_reducible refine Below.trans ?_ (Below.mono hb4 (by (try simp) <;> omega)))))
          have y4 : wr.heap.size + 1 ≤ w4.heap.size := by simpa using hb4.size
          have A4 := hide (Blk.belowH (Blk.new wr 3 #[.int .i64 a] rfl) hb4)
          have B4 := hide (Blk.belowH (B0.out.alloc (.cells #[.int .i64 a] 3)) hb4)
          have P4 := hide (P1.out.below (B := w1.heap.size) L4.out (by omega))
          clear hb4 q0 q1 cu
          cases t
          · go_wp2
            go_roundw
            case rel => exact ⟨j + 1, by omega, by go_num, L4.out, B4.out, row_snoc HAK.out HA2.out (by rw [HBA.out]; rfl)⟩
            case measure => simp [intOf]; omega
          · have HP := hide (predTr a b lo hi A n c ps ks w.heap.size wo.heap.size wr.heap.size w4 (HS1.out.below (B := w1.heap.size) L4.out (by omega)) (by omega) (P4.out.cell 0) (B4.out.cell 0) (A4.out.cell 0) (by omega) (by omega) (by omega))
            have HCC := hide (HC.out _ _ _ _ _ m c1 ks w4 HP.out (HK.out.below (B := w1.heap.size) L4.out (Nat.le_refl _)) (by omega))
            go_wp2_with fail
            refine HCC.out.mono ?_
            rintro e w5 ⟨rfl, hb5⟩
            have L5 := hide (L4.out.trans (hb5.mono (by omega)))
            have B5 := hide (Blk.belowH B4.out hb5)
            obtain ⟨t2, ht2⟩ : ∃ t, (ks.any fun c => besB ps b c && !besB ps a c) = t := ⟨_, rfl⟩
            have HB2 := hide (show badAB ps ks a b = t2 by rw [HBA.out, trBadAB, ht2]; rfl)
            rw [ht2]
            clear ht2 hb5
            cases t2
            · go_wp2
              go_roundw
              case rel => exact ⟨j + 1, by omega, by go_num, L5.out, B5.out, row_snoc HAK.out HA2.out HB2.out⟩
              case measure => simp [intOf]; omega
            · go_wp2
              go_ret
              exact ⟨ret_bool (by rw [← HT.out]; exact (trB_no (List.mem_of_getElem? HBK.out) (List.mem_of_getElem? HAK.out) HB2.out).symm), (by repeat (first | with_reducible exact Below.refl _ _ | with_reducible assumption | with_reducible refine Below.setCell ?_ (by (try simp) <;> omega) _ | with_reducible refine Below.alloc ?_ (by (try simp) <;> omega) _ | with_reducible refine Below.drew ?_ | with_reducible refine below_drewN ?_ _ | with_reducible exact L1.out | with_reducible exact L5.out | with_reducible refine Below.trans ?_ (Below.mono L1.out (by (try simp) <;> omega)) | with_reducible refine Below.trans ?_ (Below.mono L5.out (by (try simp) <;> omega))))⟩
        · have hge : ks.length ≤ j := by rw [HM.out]; omega
          have hge' : m ≤ j := by omega
          clear hlt2
          go_wp2
          go_roundw
          case rel => exact ⟨k + 1, by omega, by go_num, HBel2.out, cols_snoc HBK.out hge HA.out HA2.out⟩
          case measure => simp [intOf]; omega
    · have hge : ks.length ≤ k := by rw [HM.out]; omega
      have hge' : m ≤ k := by omega
      clear hlt
      go_wp2
      go_ret
      exact ⟨ret_bool (by rw [← HT.out]; exact (trB_yes hge HA.out).symm), (by repeat (first | with_reducible exact Below.refl _ _ | with_reducible assumption | with_reducible refine Below.setCell ?_ (by (try simp) <;> omega) _ | with_reducible refine Below.alloc ?_ (by (try simp) <;> omega) _ | with_reducible refine Below.drew ?_ | with_reducible refine below_drewN ?_ _ | with_reducible exact L1.out | with_reducible exact HBel.out | with_reducible refine Below.trans ?_ (Below.mono L1.out (by (try simp) <;> omega)) | with_reducible refine Below.trans ?_ (Below.mono HBel.out (by (try simp) <;> omega))))⟩
end Go.Proofs.Ytojmkkcjjlppiaa
