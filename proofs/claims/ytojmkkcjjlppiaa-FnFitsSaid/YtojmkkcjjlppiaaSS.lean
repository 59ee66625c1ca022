/- The laws' own copying, comparing and counting of slices of slices of numbers. -/
import Derived.Test.YtojmkkcjjlppiaaF2
import Derived.Test.YtojmkkcjjlppiaaS1
namespace Go.Proofs.Ytojmkkcjjlppiaa
open Go.ChangeShapes Go.WideShapes Go.ChangeAt Go.RowKit Go.Deep
set_option linter.unusedVariables false
set_option linter.unusedSimpArgs false

/-- The rows' lists. -/
def rowsL (rows : List IRow) : List (List Int) := rows.map fun r => r.xs
/-- How many numbers the rows hold together. -/
def totN : List IRow → Nat
  | [] => 0
  | r :: rs => r.n + totN rs
theorem totN_snoc : ∀ (rs : List IRow) (r : IRow), totN (rs ++ [r]) = totN rs + r.n
  | [], r => by simp [totN]
  | x :: rs, r => by rw [List.cons_append, totN, totN_snoc rs r, totN]; omega
theorem totN_app : ∀ (rs ss : List IRow), totN (rs ++ ss) = totN rs + totN ss
  | [], ss => by simp [totN]
  | x :: rs, ss => by rw [List.cons_append, totN, totN_app rs ss, totN]; omega
theorem take_snoc {α : Type} {xs : List α} {k : Nat} {x : α} (hx : xs[k]? = some x) : xs.take (k + 1) = xs.take k ++ [x] := by
  rw [List.take_add_one, hx]; rfl
theorem totN_le {rs : List IRow} {k : Nat} {x : IRow} (hx : rs[k]? = some x) : totN (rs.take k) + x.n ≤ totN rs := by
  have h1 : totN rs = totN (rs.take (k + 1)) + totN (rs.drop (k + 1)) := by rw [← totN_app, List.take_append_drop]
  rw [h1, take_snoc hx, totN_snoc]
  omega
theorem totN_take_le (rs : List IRow) (k : Nat) : totN (rs.take k) ≤ totN rs := by
  have h1 : totN rs = totN (rs.take k) + totN (rs.drop k) := by rw [← totN_app, List.take_append_drop]
  omega
theorem row_fill' {α : Type} {k : Nat} {enc : α → List Value} (hk : ∀ x, (enc x).length = k) {n : Nat} (ys : List α) (Z : List Value) (z : α) {i : Nat} (hl : ys.length = i) (hZ : Z.length = n * k) (hi : i < n) :
    setL (ys.flatMap enc ++ Z.drop (i * k)) (i * k) (enc z) = (ys ++ [z]).flatMap enc ++ Z.drop ((i + 1) * k) := by
  have h1 : (ys.flatMap enc).length = i * k := by rw [flat_length hk, hl]
  have h2 : (i + 1) * k ≤ n * k := Nat.mul_le_mul_right _ (by omega)
  have h3 : (i + 1) * k = i * k + k := Nat.succ_mul i k
  rw [setL_eq _ _ _ (by rw [hk, List.length_append, h1, List.length_drop]; omega), hk]
  rw [List.take_left' h1, List.drop_append, h1, List.drop_of_length_le (by omega), List.drop_drop]
  simp only [List.flatMap_append, List.flatMap_cons, List.flatMap_nil, List.append_nil, List.nil_append]
  rw [show i * k + (i * k + k - i * k) = (i + 1) * k from by omega]
def zS : Value := .slice none 0 0
theorem IntS_info : (Try.prog.info? 56).map (fun i => (i.zero, i.size, i.bytes)) = some (some zS, 1, 24) := by kernel_rfl
set_option maxHeartbeats 2000000 in
theorem toIntSS_any (lo hi : Nat) (A : Option Addr) (n c : Nat) (rows : List IRow) (w : World) (hs : RowsAt w lo hi A n c rows) (hB : hi ≤ w.heap.size) (hn : n + totN rows ≤ 1048576) :
    Calls Try.prog 13 #[.slice A n c] w fun e w' => ∃ A' rows', e = .returned (.slice A' n n) ∧ RowsAt w' w.heap.size w'.heap.size A' n n rows' ∧ rowsL rows' = rowsL rows ∧ Below w.heap.size w w' := by
  have hmk := fun W => mk_row Try.underlying22 IntS_info (by omega) n (by omega) W
  have hm := hs.out.max
  have hc := hs.out.cap
  have HZ := hide (zeros_size zS (n * 1))
  have HL := hide hs.out.len
  generalize hZ : (zeros zS (n * 1)) = Z at *
  clear hZ
  have HS := hide hs
  clear hs
  go_enter Try.func13, Try.ntmps13
  go_wp2
  clear hmk
  go_loopw [4] (fun i wr => ∃ (k : Nat) (ys : List IRow), k ≤ n ∧ i = .int .i64 k ∧ ys.length = k ∧ rowsL ys = rowsL (rows.take k) ∧ (∀ y ∈ ys, SlK 1 encInt wr (w.heap.size + 1) wr.heap.size y.A y.n y.c y.xs) ∧ wr.ownsRow w.heap.size 56 1 (.slice (some ⟨w.heap.size, 0, none⟩) n n) n (ys.flatMap encRow ++ Z.toList.drop (k * 1)) ∧ Below w.heap.size w wr) (fun i _ => n - (intOf i).toNat)
  case atStart =>
    refine ⟨0, [], Nat.zero_le _, rfl, rfl, rfl, fun _ h => (by cases h), ?_, (Below.refl _ _).alloc (Nat.le_refl _) _⟩
    simpa using World.ownsRow_lit (base := w.heap.size) (size := 1) (e := 56) w Z n (Nat.le_refl _) (by simp [maxLen]; omega) HZ.out
  case round =>
    obtain ⟨k, ys, hk, rfl, hyl, hyr, hyi, hown, hbel⟩ := hrel
    by_cases hlt : k < n
    · have hsz := hbel.size
      have hgl : w.heap.size < wr.heap.size := (hown.lt _ rfl).2
      obtain ⟨b0, off, x, hx, rfl, _, hb, c0, _⟩ := (HS.out.out.below hbel hB).row hlt
      have hxi := HS.out.inn x (List.mem_of_getElem? hx)
      have hxn : x.n ≤ 1048576 := by have := totN_le hx; omega
      have HXI := hide (hxi.below hbel hB)
      have HX := hide hx
      have HO := hide hown
      have HYI := hide hyi
      have HYR := hide hyr
      clear hx hxi hown hyi hyr
      go_wp2_with (go_at_call 34; refine (toIntS_any lo hi x.A x.n x.c x.xs _ HXI.out (by omega) hxn).mono ?_; rintro e w1 ⟨A1, rfl, hs1, hb1⟩; have HS1 := hide hs1; clear hs1; have ho1 := hide (row_below HO.out hb1); obtain ⟨u0, d0⟩ := own_cell ho1.out (k * 1) (by omega); simp only [Nat.mul_one] at d0; have fz := fun j => ho1.out.frozenAt j)
      have hz1 := hb1.size
      go_roundw
      case rel =>
        refine ⟨k + 1, ys ++ [⟨A1, x.n, x.n, x.xs⟩], by omega, by go_num, by simp [hyl], ?_, ?_, ?_, ?_⟩
        · rw [take_snoc HX.out]
          have := HYR.out
          simp only [rowsL, List.map_append] at this ⊢
          rw [this]
          rfl
        · intro y hy
          rw [List.mem_append, List.mem_singleton] at hy
          rcases hy with hy | rfl
          · have := (((HYI.out y hy).below hb1 (Nat.le_refl _)).more (Nat.le_refl _) hz1).setCell (p := ⟨w.heap.size, k, none⟩) (.inl (Nat.lt_succ_self _)) (.slice A1 x.n x.n)
            simpa using this
          · have := (HS1.out.more (lo' := w.heap.size + 1) (by omega) (Nat.le_refl _)).setCell (p := ⟨w.heap.size, k, none⟩) (.inl (Nat.lt_succ_self _)) (.slice A1 x.n x.n)
            simpa using this
        · rw [← row_fill' encRow_len (n := n) ys _ ⟨A1, x.n, x.n, x.xs⟩ hyl (by simpa using HZ.out) hlt]
          have h1 := (ho1.out.stored (k * 1) (.slice A1 x.n x.n)).1
          simp only [Nat.mul_one] at h1 ⊢
          exact h1
        · exact (hbel.trans (hb1.mono hbel.size)).setCell (p := ⟨w.heap.size, k, none⟩) (Nat.le_refl _) _
      case measure => simp [intOf]; omega
    · have hge : n ≤ k := by omega
      clear hlt
      have HO := hide hown
      have HYI := hide hyi
      have HYR := hide hyr
      clear hown hyi hyr
      go_wp2
      go_ret
      refine ⟨_, ys, rfl, ⟨?_, fun y hy => (HYI.out y hy).more (by omega) (Nat.le_refl _)⟩, ?_, hbel⟩
      · have hown := HO.out
        rw [List.drop_of_length_le (by rw [Array.length_toList, HZ.out]; omega), List.append_nil] at hown
        exact slk_of_row encRow_len (by omega) hown
      · rw [HYR.out, List.take_of_length_le (by rw [HL.out]; omega)]
set_option maxHeartbeats 800000 in
theorem eqIntSS_any (lo hi lo' hi' : Nat) (A A' : Option Addr) (n c c' : Nat) (rows rows' : List IRow) (w : World) (hs : RowsAt w lo hi A n c rows) (hB : hi ≤ w.heap.size) (hs' : RowsAt w lo' hi' A' n c' rows') (hB' : hi' ≤ w.heap.size) (he : rowsL rows = rowsL rows') :
    Calls Try.prog 15 #[.slice A n c, .slice A' n c'] w fun e w' => e = .returned (.bool true) ∧ Below w.heap.size w w' := by
  have hm := hs.out.max
  have hc := hs.out.cap
  have hm' := hs'.out.max
  have hc' := hs'.out.cap
  have HS := hide hs
  have HS' := hide hs'
  have HE := hide he
  clear hs hs' he
  go_enter Try.func15, Try.ntmps15
  go_wp2
  go_loopw [5] (fun i wr => ∃ k : Nat, k ≤ n ∧ i = .int .i64 k ∧ Below w.heap.size w wr) (fun i _ => n - (intOf i).toNat)
  case atStart => exact ⟨0, Nat.zero_le _, rfl, Below.refl _ _⟩
  case round =>
    obtain ⟨k, hk, rfl, hbel⟩ := hrel
    by_cases hlt : k < n
    · have hsz := hbel.size
      obtain ⟨b0, off, x, hx, rfl, _, hb, c0, _⟩ := (HS.out.out.below hbel hB).row hlt
      obtain ⟨b0', off', x', hx', rfl, _, hb', d0, _⟩ := (HS'.out.out.below hbel hB').row hlt
      have hxx : x.xs = x'.xs := by
        have := congrArg (fun l : List (List Int) => l[k]?) HE.out
        simp only [rowsL, List.getElem?_map, hx, hx', Option.map_some, Option.some.injEq] at this
        exact this
      have h1 := HS.out.inn x (List.mem_of_getElem? hx)
      have h2 := HS'.out.inn x' (List.mem_of_getElem? hx')
      have hnn : x'.n = x.n := by rw [← h1.len, ← h2.len, hxx]
      rw [hnn] at d0 h2
      rw [← hxx] at h2
      have H1 := hide (h1.below hbel hB)
      have H2 := hide (h2.below hbel hB')
      clear hx hx' h1 h2 hxx hnn
      have i0 : (0 : Int) ≤ (k : Int) := by omega
      have i1 : (k : Int) < (n : Int) := by omega
      have z0 : b0 < wr.heap.size := by omega
      have z1 : b0' < wr.heap.size := by omega
      go_wp2_with fail
      go_region_held3 (fun w' => w'.cell? ⟨b0, off + k, none⟩ = some (.slice x.A x.n x.c) ∧ w'.cell? ⟨b0', off' + k, none⟩ = some (.slice x'.A x.n x'.c)) (go_keep) ((go_at_call 37; refine (eqIntS_any lo hi lo' hi' x.A x'.A x.n x.c x'.c x.xs _ H1.out.drew (by (try simp) <;> omega) H2.out.drew (by (try simp) <;> omega)).mono ?_; rintro e w1 ⟨rfl, hb1⟩; have hcc := bcellD hb1))
      go_wp2
      go_roundw
      case rel => exact ⟨k + 1, by omega, by go_num, hbel.drew.trans (hb1.mono hbel.size)⟩
      case measure => simp [intOf]; omega
    · have hge : n ≤ k := by omega
      clear hlt
      go_wp2
      go_ret
      exact ⟨rfl, hbel⟩
theorem iv_eq {a b : Int} (h : a = b) : Value.int .i64 a = Value.int .i64 b := by rw [h]
theorem szIntSS_ok (lo hi : Nat) (A : Option Addr) (n c : Nat) (rows : List IRow) (left : Nat) (w : World) (hs : RowsAt w lo hi A n c rows) (hB : hi ≤ w.heap.size) (h1 : n + totN rows ≤ left) (h2 : left ≤ 1048576) :
    Calls Try.prog 11 #[.slice A n c, .int .i64 left] w fun e w' => (∃ x : Int, e = .returned (.int .i64 x) ∧ 0 ≤ x ∧ x ≤ 1048576) ∧ w = w' := by
  have hm := hs.out.max
  have hc := hs.out.cap
  have HL := hide hs.out.len
  have h3 : ¬ ((left : Int) - n < 0) := by omega
  have HS := hide hs
  clear hs
  go_enter Try.func11, Try.ntmps11
  go_wp2
  go_loop [1, 5] (fun l i => ∃ k q : Nat, k ≤ n ∧ i = .int .i64 k ∧ l = .int .i64 q ∧ q + n + totN (rows.take k) ≤ left ∧ left ≤ q + n + totN (rows.take k)) (fun _ i => n - (intOf i).toNat)
  case atStart => exact ⟨0, left - n, Nat.zero_le _, rfl, iv_eq (by omega), by simp [totN]; omega, by simp [totN]; omega⟩
  case round =>
    obtain ⟨k, q, hk, rfl, rfl, hq1, hq2⟩ := hrel
    by_cases hlt : k < n
    · obtain ⟨b0, off, x, hx, rfl, _, hb, c0, _⟩ := HS.out.out.row hlt
      have hxi := HS.out.inn x (List.mem_of_getElem? hx)
      have hle := totN_le hx
      have e1 := hxi.cap
      have e2 := hxi.max
      have HX := hide hx
      clear hx hxi
      have i0 : (0 : Int) ≤ (k : Int) := by omega
      have i1 : (k : Int) < (n : Int) := by omega
      have hng : ¬ ((q : Int) - x.n < 0) := by omega
      go_wp2_with (go_at_call 52; refine (szIntS_ok x.A x.n x.c _ _ (by omega) (by omega) e1 e2).mono ?_; rintro e w1 ⟨rfl, rfl⟩)
      go_round
      case rel => exact ⟨k + 1, q - x.n, by omega, by go_num, iv_eq (by omega), by rw [take_snoc HX.out, totN_snoc]; omega, by rw [take_snoc HX.out, totN_snoc]; omega⟩
      case measure => simp [intOf]; omega
    · have hge : n ≤ k := by omega
      clear hlt
      go_wp2
      go_ret
      exact ⟨⟨_, rfl, by omega, by omega⟩, rfl⟩
theorem szIntSS_no (lo hi : Nat) (A : Option Addr) (n c : Nat) (rows : List IRow) (left : Nat) (w : World) (hs : RowsAt w lo hi A n c rows) (hB : hi ≤ w.heap.size) (h1 : left < n + totN rows) (h2 : left ≤ 1048576) :
    Calls Try.prog 11 #[.slice A n c, .int .i64 left] w fun e w' => e = .returned (.int .i64 (-1)) ∧ w = w' := by
  have hm := hs.out.max
  have hc := hs.out.cap
  have HL := hide hs.out.len
  have HS := hide hs
  clear hs
  by_cases h3 : (left : Int) - n < 0
  · go_enter Try.func11, Try.ntmps11
    go_wp2
    go_ret
    exact ⟨rfl, rfl⟩
  go_enter Try.func11, Try.ntmps11
  go_wp2
  go_loop [1, 5] (fun l i => ∃ k q : Nat, k ≤ n ∧ i = .int .i64 k ∧ l = .int .i64 q ∧ q + n + totN (rows.take k) ≤ left ∧ left ≤ q + n + totN (rows.take k)) (fun _ i => n - (intOf i).toNat)
  case atStart => exact ⟨0, left - n, Nat.zero_le _, rfl, iv_eq (by omega), by simp [totN]; omega, by simp [totN]; omega⟩
  case round =>
    obtain ⟨k, q, hk, rfl, rfl, hq1, hq2⟩ := hrel
    by_cases hlt : k < n
    · obtain ⟨b0, off, x, hx, rfl, _, hb, c0, _⟩ := HS.out.out.row hlt
      have hxi := HS.out.inn x (List.mem_of_getElem? hx)
      have hle := totN_le hx
      have e1 := hxi.cap
      have e2 := hxi.max
      have HX := hide hx
      clear hx hxi
      have i0 : (0 : Int) ≤ (k : Int) := by omega
      have i1 : (k : Int) < (n : Int) := by omega
      by_cases hq3 : x.n ≤ q
      · have hng : ¬ ((q : Int) - x.n < 0) := by omega
        go_wp2_with (go_at_call 52; refine (szIntS_ok x.A x.n x.c _ _ (by omega) (by omega) e1 e2).mono ?_; rintro e w1 ⟨rfl, rfl⟩)
        go_round
        case rel => exact ⟨k + 1, q - x.n, by omega, by go_num, iv_eq (by omega), by rw [take_snoc HX.out, totN_snoc]; omega, by rw [take_snoc HX.out, totN_snoc]; omega⟩
        case measure => simp [intOf]; omega
      · go_wp2_with (go_at_call 52; refine (szIntS_no x.A x.n x.c _ _ (by omega) (by omega) (by omega) e1 e2).mono ?_; rintro e w1 ⟨rfl, rfl⟩)
        go_ret
        exact ⟨rfl, rfl⟩
    · exfalso
      rw [List.take_of_length_le (by rw [HL.out]; omega)] at hq1 hq2
      omega
end Go.Proofs.Ytojmkkcjjlppiaa
