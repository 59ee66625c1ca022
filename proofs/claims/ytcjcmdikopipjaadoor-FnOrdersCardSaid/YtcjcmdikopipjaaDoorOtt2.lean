/- OrderText of the reference. -/
import Derived.Test.YtcjcmdikopipjaaDoorOts
namespace Go.Proofs.YtcjcmdikopipjaaDoor
open Go.ChangeShapes Go.WideShapes Go.ChangeAt Go.RowKit Go.Deep Go.Joins
set_option linter.unusedVariables false
set_option linter.unusedSimpArgs false

theorem rowsT_size2 : ∀ (rows : List ORow) (w0 : ByteArray), (∀ x ∈ rows, x.1.size ≤ 16 ∧ x.2.length ≤ 16) → (rowsT w0 rows).size ≤ w0.size + 129 * rows.length
  | [], w0, _ => by simp [rowsT]
  | x :: xs, w0, h => by
    have h1 := h x (List.mem_cons_self ..)
    have h2 : (rowT x).size ≤ 129 := lineR_size h1.1 h1.2
    have h3 := rowsT_size2 xs (w0 ++ rowT x) (fun y hy => h y (List.mem_cons_of_mem _ hy))
    rw [ByteArray.size_append] at h3
    show (rowsT (w0 ++ rowT x) xs).size ≤ _
    rw [List.length_cons]
    omega
theorem order_len2 (r : Rq) : (orderRows r).length = 3 + r.pairs.length + r.types.length + r.items.length := by
  unfold orderRows headRows
  simp
  omega
set_option maxRecDepth 20000 in
set_option maxHeartbeats 4000000 in
theorem sorderText_any (r : Rq) (A1 A2 A3 : Option Addr) (n1 n2 n3 c1 c2 c3 : Nat) (lo hi : Nat) (w : World) (hr : RqAt w lo hi r A1 n1 c1 A2 n2 c2 A3 n3 c3) (hB : hi ≤ w.heap.size) (hn : n1 + n2 + n3 ≤ 1048576) :
    Calls Tryd.prog 15 #[.agg #[.int .i64 r.way, .int .i64 r.pal.w, .int .i64 r.pal.d, .int .i64 r.pal.h, .int .i64 r.pal.gram, .int .i64 r.cls, .slice A1 n1 c1, .slice A2 n2 c2, .int .i64 r.master, .slice A3 n3 c3]] w fun e w' => e = .returned (.string (otS r)) ∧ Below w.heap.size w w' := by
  have HR := hide hr
  have l1 := hr.pr.len
  have l2 := hr.ty.len
  have l3 := hr.it.len
  have q1 := hr.pr.cap
  have q2 := hr.pr.max
  have q3 := hr.ty.cap
  have q4 := hr.ty.max
  have q5 := hr.it.cap
  have q6 := hr.it.max
  clear hr
  cases hw : inB r.way 0 1
  · have HF := hide (show otS r = ⟨#[]⟩ by unfold otS; rw [if_neg (by rw [hw]; simp)])
    go_enter Tryd.func15, Tryd.ntmps15
    go_wp2_with (go_at_call 41; refine (sin_any _ _ _ _).mono ?_; rw [hw]; rintro e w' ⟨rfl, rfl⟩)
    go_ret
    exact ⟨by rw [HF.out]; rfl, (by repeat (first | with_reducible exact Below.refl _ _ | with_reducible assumption | with_reducible refine Below.setCell ?_ (by (try simp) <;> omega) _ | with_reducible refine Below.alloc ?_ (by (try simp) <;> omega) _ | with_reducible refine Below.drew ?_ | with_reducible refine below_drewN ?_ _))⟩
  · have hway : r.way = 0 ∨ r.way = 1 := by have := (inB_iff _ _ _).1 hw; omega
    rcases hway with hK | hK
    · have hw' : inB 0 0 1 = true := by decide
      have HOT := hide (show otS r = if (orderRows r).all rowOk = true then rowsT (ByteArray.mk #[119, 97, 121, 32, 102, 105, 114, 115, 116, 10]) (orderRows r) else ⟨#[]⟩ by unfold otS; rw [if_pos hw, hK]; rfl)
      have HLR := hide (fun W a b => l4Rows_any r A1 A2 A3 n1 n2 n3 c1 c2 c3 lo hi W a b hn)
      rw [hK] at HLR
      rw [hK]
      have hwy16 : ((ByteArray.mk #[119, 97, 121, 32, 102, 105, 114, 115, 116, 10])).size ≤ 16 := by decide
      have hol := order_len2 r
      clear hw hK
      go_enter Tryd.func15, Tryd.ntmps15
      go_wp2_with (go_at_call 41; refine (sin_any _ _ _ _).mono ?_; rw [hw']; rintro e w' ⟨rfl, rfl⟩)
      refine (HLR.out _ ((HR.out.alloc hB _).alloc (by simp; omega) _) (by simp; omega)).mono ?_
      rintro e w3 ⟨vw, vn, rs, rfl, hnu, hrs, hb3⟩
      have L3 := hide (show Below w.heap.size w w3 from (by repeat (first | with_reducible exact Below.refl _ _ | with_reducible assumption | with_reducible refine Below.setCell ?_ (by (try simp) <;> omega) _ | with_reducible refine Below.alloc ?_ (by (try simp) <;> omega) _ | with_reducible refine Below.drew ?_ | with_reducible refine below_drewN ?_ _ | with_reducible exact hb3 | with_reducible refine Below.trans ?_ (Below.mono hb3 (by (try simp) <;> omega)))))
      have z3 := L3.out.size
      obtain ⟨rows, hrows⟩ : ∃ rows, orderRows r = rows := ⟨_, rfl⟩
      have HWD := hide (fun x (hx : x ∈ rows) => (show x.1.size ≤ 16 ∧ x.2.length ≤ 16 by rw [← hrows] at hx; exact (order_words r x hx).2.2))
      rw [hrows] at HOT hnu hrs hol
      obtain ⟨N, hN⟩ : ∃ N, rows.length = N := ⟨_, rfl⟩
      rw [hN] at hol
      have hrl : rs.length = N := by have := congrArg List.length hrs; simpa [hN] using this
      obtain ⟨Aw, cw, rfl, sw⟩ := Own.slk' encStr_len (show (rows.map (·.1)).length = N by simpa using hN) hnu.words
      obtain ⟨An, cn, rfl, sn⟩ := Own.slk' encN_len hrl hnu.nums
      have HSW := hide sw
      have HSN := hide sn
      have HIN := hide hnu.inn
      have HRS := hide hrs
      have HN := hide hN
      have w1 := sw.cap
      have w2' := sw.max
      have w3' := sn.cap
      have w4' := sn.max
      clear hnu hrs sw sn hb3 hrl hN hrows
      go_wp2_with fail
      go_loopw [3, 6] (fun o i wr => ∃ k : Nat, k ≤ N ∧ i = .int .i64 k ∧ o = .string (rowsT (ByteArray.mk #[119, 97, 121, 32, 102, 105, 114, 115, 116, 10]) (rows.take k)) ∧ Hid (∀ x ∈ rows.take k, rowOk x = true) ∧ Below w3.heap.size w3 wr) (fun _ i _ => N - (intOf i).toNat)
      case atStart => exact ⟨0, Nat.zero_le _, rfl, rfl, hide (by simp), Below.refl _ _⟩
      case round =>
        obtain ⟨k, hk, rfl, rfl, HA, hbel⟩ := hrel
        have HB := hide hbel
        have y1 := hbel.size
        clear hbel
        by_cases hlt : k < N
        · obtain ⟨b0, off, x1, hx1, rfl, _, hb0, c0, _⟩ := (HSW.out.below HB.out (Nat.le_refl _)).str hlt
          obtain ⟨b1, off1, hxl, rfl, _, hb1, hc1⟩ := (HSN.out.below HB.out (Nat.le_refl _)).at hlt
          have d0 := (hc1 0 _ rfl).1
          obtain ⟨y, hy⟩ : ∃ y, rs[k] = y := ⟨_, rfl⟩
          rw [hy] at d0 hc1
          simp only [Nat.mul_one, Nat.add_zero] at d0
          have hry : rs[k]? = some y := by rw [List.getElem?_eq_getElem hxl, hy]
          have hxr : k < rows.length := by have := HN.out; omega
          obtain ⟨x, hx⟩ : ∃ x, rows[k] = x := ⟨_, rfl⟩
          have hrx : rows[k]? = some x := by rw [List.getElem?_eq_getElem hxr, hx]
          obtain rfl : x1 = x.1 := by rw [List.getElem?_map, hrx] at hx1; exact (Option.some.inj hx1).symm
          have hyx : y.xs = x.2 := by
            have := congrArg (fun l => l[k]?) HRS.out
            simp only [List.getElem?_map, hry, hrx] at this
            exact Option.some.inj this
          have hmem := List.mem_of_getElem? hrx
          have hwd := HWD.out x hmem
          have hsl := (slk_of_blk ((HIN.out y (List.mem_of_getElem? hry)).1.belowH HB.out) (by rw [hyx]; unfold maxLen; omega))
          have hyg : y.g < wr.heap.size := by have := ((HIN.out y (List.mem_of_getElem? hry)).1.belowH HB.out).lt; exact this
          rw [hyx] at hsl d0
          have HPUT := hide (fun hW => l4Put_any x.1 x.2 y.g (y.g + 1) (some ⟨y.g, 0, none⟩) x.2.length x.2.length wr.drew hW (by simp; omega) hwd.2 hwd.1)
          have HSL := hide hsl
          have HRX := hide hrx
          have HSZ := hide (rowsT_size2 (rows.take k) ((ByteArray.mk #[119, 97, 121, 32, 102, 105, 114, 115, 116, 10])) (fun z hz => HWD.out z (List.mem_of_mem_take hz)))
          have hszk : (rowsT ((ByteArray.mk #[119, 97, 121, 32, 102, 105, 114, 115, 116, 10])) (rows.take k)).size ≤ 9223372036854775000 := by have := HSZ.out; rw [List.length_take] at this; omega
          have HLS := hide (lineR_size hwd.1 hwd.2)
          have i0 : (0 : Int) ≤ (k : Int) := by omega
          have i1 : (k : Int) < (N : Int) := by omega
          have zb0 : b0 < wr.heap.size := by omega
          have zb1 : b1 < wr.heap.size := by omega
          obtain ⟨J, hJ⟩ : ∃ J, rowsT ((ByteArray.mk #[119, 97, 121, 32, 102, 105, 114, 115, 116, 10])) (rows.take k) = J := ⟨_, rfl⟩
          have HJ := hide hJ
          rw [hJ] at hszk ⊢
          clear hx1 hc1 hy hry hx hrx hyx hmem hwd hsl hxl hxr hJ
          go_wp2_with fail
          refine wp_region_held_drew (S := (fun w' => w'.cell? ⟨b0, off + k, none⟩ = some (.string x.1) ∧ w'.cell? ⟨b1, off1 + k, none⟩ = some (.slice (some ⟨y.g, 0, none⟩) x.2.length x.2.length))) (by kernel_rfl) ?hS0 (fun hHeld => ?_)
          case hS0 => (exact ⟨c0, d0⟩)
          refine wpAnyH_take (i := 0) (v := ?_) rfl (by kernel_rfl) (by kernel_rfl) (by kernel_rfl) (fun _ _ _ h => h) (Or.inl ⟨by rfl, ?_⟩) (by assumption) ?_
          rotate_left 1
          · intro w hSw
            try dsimp only at hSw
            go_simp
            try with_reducible rfl
          simp only [Act.put, List.getElem_toArray, List.getElem_cons_succ, List.getElem_cons_zero, List.setIfInBounds_toArray, List.set_cons_zero, List.set_cons_succ]
          refine wpAnyH_take (i := 1) (v := ?_) rfl (by kernel_rfl) (by kernel_rfl) (by kernel_rfl) (fun _ _ _ h => h) (Or.inl ⟨by rfl, ?_⟩) (by assumption) ?_
          rotate_left 1
          · intro w hSw
            try dsimp only at hSw
            go_simp
            try with_reducible rfl
          simp only [Act.put, List.getElem_toArray, List.getElem_cons_succ, List.getElem_cons_zero, List.setIfInBounds_toArray, List.set_cons_zero, List.set_cons_succ]
          refine wpAnyH_take (i := 2) (v := ?_) rfl (by kernel_rfl) (by kernel_rfl) (by kernel_rfl) (fun _ _ _ h => h) (Or.inl ⟨by rfl, ?_⟩) (by assumption) ?_
          rotate_left 1
          · intro w hSw
            try dsimp only at hSw
            go_simp
            try with_reducible rfl
          simp only [Act.put, List.getElem_toArray, List.getElem_cons_succ, List.getElem_cons_zero, List.setIfInBounds_toArray, List.set_cons_zero, List.set_cons_succ]
          refine wpAnyH_take (i := 3) (v := ?_) rfl (by kernel_rfl) (by kernel_rfl) (by kernel_rfl) (fun _ _ _ h => h) (Or.inl ⟨by rfl, ?_⟩) (by assumption) ?_
          rotate_left 1
          · intro w hSw
            try dsimp only at hSw
            go_simp
            try with_reducible rfl
          simp only [Act.put, List.getElem_toArray, List.getElem_cons_succ, List.getElem_cons_zero, List.setIfInBounds_toArray, List.set_cons_zero, List.set_cons_succ]
          refine wpAnyH_take (i := 4) (v := ?_) rfl (by kernel_rfl) (by kernel_rfl) (by kernel_rfl) (fun _ _ _ h => h) (Or.inl ⟨by rfl, ?_⟩) (by assumption) ?_
          rotate_left 1
          · intro w hSw
            try dsimp only at hSw
            go_simp
            try with_reducible rfl
          simp only [Act.put, List.getElem_toArray, List.getElem_cons_succ, List.getElem_cons_zero, List.setIfInBounds_toArray, List.set_cons_zero, List.set_cons_succ]
          refine wpAnyH_take (i := 5) (v := ?_) rfl (by kernel_rfl) (by kernel_rfl) (by kernel_rfl) (fun _ _ _ h => h) (Or.inl ⟨by rfl, ?_⟩) (by assumption) ?_
          rotate_left 1
          · intro w hSw
            try dsimp only at hSw
            go_simp
            try with_reducible rfl
          simp only [Act.put, List.getElem_toArray, List.getElem_cons_succ, List.getElem_cons_zero, List.setIfInBounds_toArray, List.set_cons_zero, List.set_cons_succ]
          refine wpAnyH_take (i := 6) (v := ?_) rfl (by kernel_rfl) (by kernel_rfl) (by kernel_rfl) (fun _ _ _ h => h) (Or.inl ⟨by rfl, ?_⟩) (by assumption) ?_
          rotate_left 1
          · intro w hSw
            try dsimp only at hSw
            go_simp
            try with_reducible rfl
          simp only [Act.put, List.getElem_toArray, List.getElem_cons_succ, List.getElem_cons_zero, List.setIfInBounds_toArray, List.set_cons_zero, List.set_cons_succ]
          refine wpAnyH_take (i := 7) (v := ?_) rfl (by kernel_rfl) (by kernel_rfl) (by kernel_rfl) (fun _ _ _ h => h) (Or.inl ⟨by rfl, ?_⟩) (by assumption) ?_
          rotate_left 1
          · intro w hSw
            try dsimp only at hSw
            go_simp
            try with_reducible rfl
          simp only [Act.put, List.getElem_toArray, List.getElem_cons_succ, List.getElem_cons_zero, List.setIfInBounds_toArray, List.set_cons_zero, List.set_cons_succ]
          refine wpAnyH_ready (rs := [8]) (by kernel_rfl) (by simp) ?_
          refine AllReadyH.cons rfl (fun K hK => ?_) AllReadyH.nil
          go_simp
          refine (HPUT.out HSL.out.drew).mono ?_
          rintro e w4 ⟨rfl, hb4⟩
          have HB4 := hide (show Below wr.heap.size wr w4 from (by repeat (first | with_reducible exact Below.refl _ _ | with_reducible assumption | with_reducible refine Below.setCell ?_ (by (try simp) <;> omega) _ | with_reducible refine Below.alloc ?_ (by (try simp) <;> omega) _ | with_reducible refine Below.drew ?_ | with_reducible refine below_drewN ?_ _ | with_reducible exact hb4 | with_reducible refine Below.trans ?_ (Below.mono hb4 (by (try simp) <;> omega)))))
          clear hb4
          go_wp2_with fail
          refine hK.out _ _ ?hS1 (fun hHeld => ?_)
          case hS1 => (try dsimp only); (first | exact ⟨c0, d0⟩ | exact ⟨(HB4.out.cell (p := ⟨b0, off + k, none⟩) zb0).trans c0, (HB4.out.cell (p := ⟨b1, off1 + k, none⟩) zb1).trans d0⟩)
          clear hK K
          try simp only [Act.put, List.getElem_toArray, List.getElem_cons_succ, List.getElem_cons_zero, List.setIfInBounds_toArray, List.set_cons_zero, List.set_cons_succ]
          refine wpAnyH_take (i := 9) (v := ?_) rfl (by kernel_rfl) (by kernel_rfl) (by kernel_rfl) (fun _ _ _ h => h) (Or.inl ⟨by rfl, ?_⟩) (by assumption) ?_
          rotate_left 1
          · intro w hSw
            try dsimp only at hSw
            go_simp
            try with_reducible rfl
          simp only [Act.put, List.getElem_toArray, List.getElem_cons_succ, List.getElem_cons_zero, List.setIfInBounds_toArray, List.set_cons_zero, List.set_cons_succ]
          refine wpAnyH_take (i := 10) (v := ?_) rfl (by kernel_rfl) (by kernel_rfl) (by kernel_rfl) (fun _ _ _ h => h) (Or.inl ⟨by rfl, ?_⟩) (by assumption) ?_
          rotate_left 1
          · intro w hSw
            try dsimp only at hSw
            go_simp
            try with_reducible rfl
          simp only [Act.put, List.getElem_toArray, List.getElem_cons_succ, List.getElem_cons_zero, List.setIfInBounds_toArray, List.set_cons_zero, List.set_cons_succ]
          refine wpAnyH_take (i := 11) (v := ?_) rfl (by kernel_rfl) (by kernel_rfl) (by kernel_rfl) (fun _ _ _ h => h) (Or.inl ⟨by rfl, ?_⟩) (by assumption) ?_
          rotate_left 1
          · intro w hSw
            try dsimp only at hSw
            go_simp
            try with_reducible rfl
          simp only [Act.put, List.getElem_toArray, List.getElem_cons_succ, List.getElem_cons_zero, List.setIfInBounds_toArray, List.set_cons_zero, List.set_cons_succ]
          refine wpAnyH_take (i := 12) (v := ?_) rfl (by kernel_rfl) (by kernel_rfl) (by kernel_rfl) (fun _ _ _ h => h) (Or.inl ⟨by rfl, ?_⟩) (by assumption) ?_
          rotate_left 1
          · intro w hSw
            try dsimp only at hSw
            go_simp
            try with_reducible rfl
          simp only [Act.put, List.getElem_toArray, List.getElem_cons_succ, List.getElem_cons_zero, List.setIfInBounds_toArray, List.set_cons_zero, List.set_cons_succ]
          refine wpAnyH_take (i := 13) (v := ?_) rfl (by kernel_rfl) (by kernel_rfl) (by kernel_rfl) (fun _ _ _ h => h) (Or.inl ⟨by rfl, ?_⟩) (by assumption) ?_
          rotate_left 1
          · intro w hSw
            try dsimp only at hSw
            go_simp
            try with_reducible rfl
          simp only [Act.put, List.getElem_toArray, List.getElem_cons_succ, List.getElem_cons_zero, List.setIfInBounds_toArray, List.set_cons_zero, List.set_cons_succ]
          refine wpAnyH_done (by kernel_rfl) ?_ _
          cases hok : numsOk x.2
          · have HNO := hide (show rows.all rowOk = false from List.all_eq_false.2 ⟨x, List.mem_of_getElem? HRX.out, by unfold rowOk; rw [hok]; simp⟩)
            go_wp2_with fail
            go_ret
            exact ⟨by rw [HOT.out, if_neg (by rw [HNO.out]; simp)]; rfl, L3.out.trans ((HB.out.trans (HB4.out.mono y1)).mono z3)⟩
          · have HA2 : Hid (∀ z ∈ rows.take (k + 1), rowOk z = true) := hide (by
              intro z hz
              rw [List.take_add_one, HRX.out] at hz
              rw [List.mem_append] at hz
              rcases hz with hz | hz
              · exact HA.out z hz
              · obtain rfl : z = x := by simpa using hz
                exact hok)
            have HT2 := hide (show rowsT ((ByteArray.mk #[119, 97, 121, 32, 102, 105, 114, 115, 116, 10])) (rows.take (k + 1)) = J ++ lineR x.1 x.2 by rw [List.take_add_one, HRX.out]; show rowsT _ (rows.take k ++ [x]) = _; rw [rowsT_snoc, HJ.out]; rfl)
            have hls := HLS.out
            have hss : J.size + (lineR x.1 x.2).size ≤ 9223372036854775807 := by omega
            generalize lineR x.1 x.2 = LN at *
            go_wp2_with fail
            go_roundw
            case rel => exact ⟨k + 1, by omega, by go_num, by rw [HT2.out], HA2, HB.out.trans (HB4.out.mono y1)⟩
            case measure => simp [intOf]; omega
        · obtain rfl : N = k := by omega
          have hall : rows.take N = rows := List.take_of_length_le (by rw [HN.out]; exact Nat.le_refl _)
          rw [hall] at HA ⊢
          have HOK := hide (show rows.all rowOk = true from List.all_eq_true.2 HA.out)
          clear hlt hall
          go_wp2_with fail
          go_ret
          exact ⟨by rw [HOT.out, if_pos HOK.out]; rfl, L3.out.trans (HB.out.mono z3)⟩
    · have hw' : inB 1 0 1 = true := by decide
      have HOT := hide (show otS r = if (orderRows r).all rowOk = true then rowsT (ByteArray.mk #[119, 97, 121, 32, 110, 101, 120, 116, 10]) (orderRows r) else ⟨#[]⟩ by unfold otS; rw [if_pos hw, hK]; rfl)
      have HLR := hide (fun W a b => l4Rows_any r A1 A2 A3 n1 n2 n3 c1 c2 c3 lo hi W a b hn)
      rw [hK] at HLR
      rw [hK]
      have hwy16 : ((ByteArray.mk #[119, 97, 121, 32, 110, 101, 120, 116, 10])).size ≤ 16 := by decide
      have hol := order_len2 r
      clear hw hK
      go_enter Tryd.func15, Tryd.ntmps15
      go_wp2_with (go_at_call 41; refine (sin_any _ _ _ _).mono ?_; rw [hw']; rintro e w' ⟨rfl, rfl⟩)
      refine (HLR.out _ ((HR.out.alloc hB _).alloc (by simp; omega) _) (by simp; omega)).mono ?_
      rintro e w3 ⟨vw, vn, rs, rfl, hnu, hrs, hb3⟩
      have L3 := hide (show Below w.heap.size w w3 from (by repeat (first | with_reducible exact Below.refl _ _ | with_reducible assumption | with_reducible refine Below.setCell ?_ (by (try simp) <;> omega) _ | with_reducible refine Below.alloc ?_ (by (try simp) <;> omega) _ | with_reducible refine Below.drew ?_ | with_reducible refine below_drewN ?_ _ | with_reducible exact hb3 | with_reducible refine Below.trans ?_ (Below.mono hb3 (by (try simp) <;> omega)))))
      have z3 := L3.out.size
      obtain ⟨rows, hrows⟩ : ∃ rows, orderRows r = rows := ⟨_, rfl⟩
      have HWD := hide (fun x (hx : x ∈ rows) => (show x.1.size ≤ 16 ∧ x.2.length ≤ 16 by rw [← hrows] at hx; exact (order_words r x hx).2.2))
      rw [hrows] at HOT hnu hrs hol
      obtain ⟨N, hN⟩ : ∃ N, rows.length = N := ⟨_, rfl⟩
      rw [hN] at hol
      have hrl : rs.length = N := by have := congrArg List.length hrs; simpa [hN] using this
      obtain ⟨Aw, cw, rfl, sw⟩ := Own.slk' encStr_len (show (rows.map (·.1)).length = N by simpa using hN) hnu.words
      obtain ⟨An, cn, rfl, sn⟩ := Own.slk' encN_len hrl hnu.nums
      have HSW := hide sw
      have HSN := hide sn
      have HIN := hide hnu.inn
      have HRS := hide hrs
      have HN := hide hN
      have w1 := sw.cap
      have w2' := sw.max
      have w3' := sn.cap
      have w4' := sn.max
      clear hnu hrs sw sn hb3 hrl hN hrows
      go_wp2_with fail
      go_loopw [3, 6] (fun o i wr => ∃ k : Nat, k ≤ N ∧ i = .int .i64 k ∧ o = .string (rowsT (ByteArray.mk #[119, 97, 121, 32, 110, 101, 120, 116, 10]) (rows.take k)) ∧ Hid (∀ x ∈ rows.take k, rowOk x = true) ∧ Below w3.heap.size w3 wr) (fun _ i _ => N - (intOf i).toNat)
      case atStart => exact ⟨0, Nat.zero_le _, rfl, rfl, hide (by simp), Below.refl _ _⟩
      case round =>
        obtain ⟨k, hk, rfl, rfl, HA, hbel⟩ := hrel
        have HB := hide hbel
        have y1 := hbel.size
        clear hbel
        by_cases hlt : k < N
        · obtain ⟨b0, off, x1, hx1, rfl, _, hb0, c0, _⟩ := (HSW.out.below HB.out (Nat.le_refl _)).str hlt
          obtain ⟨b1, off1, hxl, rfl, _, hb1, hc1⟩ := (HSN.out.below HB.out (Nat.le_refl _)).at hlt
          have d0 := (hc1 0 _ rfl).1
          obtain ⟨y, hy⟩ : ∃ y, rs[k] = y := ⟨_, rfl⟩
          rw [hy] at d0 hc1
          simp only [Nat.mul_one, Nat.add_zero] at d0
          have hry : rs[k]? = some y := by rw [List.getElem?_eq_getElem hxl, hy]
          have hxr : k < rows.length := by have := HN.out; omega
          obtain ⟨x, hx⟩ : ∃ x, rows[k] = x := ⟨_, rfl⟩
          have hrx : rows[k]? = some x := by rw [List.getElem?_eq_getElem hxr, hx]
          obtain rfl : x1 = x.1 := by rw [List.getElem?_map, hrx] at hx1; exact (Option.some.inj hx1).symm
          have hyx : y.xs = x.2 := by
            have := congrArg (fun l => l[k]?) HRS.out
            simp only [List.getElem?_map, hry, hrx] at this
            exact Option.some.inj this
          have hmem := List.mem_of_getElem? hrx
          have hwd := HWD.out x hmem
          have hsl := (slk_of_blk ((HIN.out y (List.mem_of_getElem? hry)).1.belowH HB.out) (by rw [hyx]; unfold maxLen; omega))
          have hyg : y.g < wr.heap.size := by have := ((HIN.out y (List.mem_of_getElem? hry)).1.belowH HB.out).lt; exact this
          rw [hyx] at hsl d0
          have HPUT := hide (fun hW => l4Put_any x.1 x.2 y.g (y.g + 1) (some ⟨y.g, 0, none⟩) x.2.length x.2.length wr.drew hW (by simp; omega) hwd.2 hwd.1)
          have HSL := hide hsl
          have HRX := hide hrx
          have HSZ := hide (rowsT_size2 (rows.take k) ((ByteArray.mk #[119, 97, 121, 32, 110, 101, 120, 116, 10])) (fun z hz => HWD.out z (List.mem_of_mem_take hz)))
          have hszk : (rowsT ((ByteArray.mk #[119, 97, 121, 32, 110, 101, 120, 116, 10])) (rows.take k)).size ≤ 9223372036854775000 := by have := HSZ.out; rw [List.length_take] at this; omega
          have HLS := hide (lineR_size hwd.1 hwd.2)
          have i0 : (0 : Int) ≤ (k : Int) := by omega
          have i1 : (k : Int) < (N : Int) := by omega
          have zb0 : b0 < wr.heap.size := by omega
          have zb1 : b1 < wr.heap.size := by omega
          obtain ⟨J, hJ⟩ : ∃ J, rowsT ((ByteArray.mk #[119, 97, 121, 32, 110, 101, 120, 116, 10])) (rows.take k) = J := ⟨_, rfl⟩
          have HJ := hide hJ
          rw [hJ] at hszk ⊢
          clear hx1 hc1 hy hry hx hrx hyx hmem hwd hsl hxl hxr hJ
          go_wp2_with fail
          refine wp_region_held_drew (S := (fun w' => w'.cell? ⟨b0, off + k, none⟩ = some (.string x.1) ∧ w'.cell? ⟨b1, off1 + k, none⟩ = some (.slice (some ⟨y.g, 0, none⟩) x.2.length x.2.length))) (by kernel_rfl) ?hS0 (fun hHeld => ?_)
          case hS0 => (exact ⟨c0, d0⟩)
          refine wpAnyH_take (i := 0) (v := ?_) rfl (by kernel_rfl) (by kernel_rfl) (by kernel_rfl) (fun _ _ _ h => h) (Or.inl ⟨by rfl, ?_⟩) (by assumption) ?_
          rotate_left 1
          · intro w hSw
            try dsimp only at hSw
            go_simp
            try with_reducible rfl
          simp only [Act.put, List.getElem_toArray, List.getElem_cons_succ, List.getElem_cons_zero, List.setIfInBounds_toArray, List.set_cons_zero, List.set_cons_succ]
          refine wpAnyH_take (i := 1) (v := ?_) rfl (by kernel_rfl) (by kernel_rfl) (by kernel_rfl) (fun _ _ _ h => h) (Or.inl ⟨by rfl, ?_⟩) (by assumption) ?_
          rotate_left 1
          · intro w hSw
            try dsimp only at hSw
            go_simp
            try with_reducible rfl
          simp only [Act.put, List.getElem_toArray, List.getElem_cons_succ, List.getElem_cons_zero, List.setIfInBounds_toArray, List.set_cons_zero, List.set_cons_succ]
          refine wpAnyH_take (i := 2) (v := ?_) rfl (by kernel_rfl) (by kernel_rfl) (by kernel_rfl) (fun _ _ _ h => h) (Or.inl ⟨by rfl, ?_⟩) (by assumption) ?_
          rotate_left 1
          · intro w hSw
            try dsimp only at hSw
            go_simp
            try with_reducible rfl
          simp only [Act.put, List.getElem_toArray, List.getElem_cons_succ, List.getElem_cons_zero, List.setIfInBounds_toArray, List.set_cons_zero, List.set_cons_succ]
          refine wpAnyH_take (i := 3) (v := ?_) rfl (by kernel_rfl) (by kernel_rfl) (by kernel_rfl) (fun _ _ _ h => h) (Or.inl ⟨by rfl, ?_⟩) (by assumption) ?_
          rotate_left 1
          · intro w hSw
            try dsimp only at hSw
            go_simp
            try with_reducible rfl
          simp only [Act.put, List.getElem_toArray, List.getElem_cons_succ, List.getElem_cons_zero, List.setIfInBounds_toArray, List.set_cons_zero, List.set_cons_succ]
          refine wpAnyH_take (i := 4) (v := ?_) rfl (by kernel_rfl) (by kernel_rfl) (by kernel_rfl) (fun _ _ _ h => h) (Or.inl ⟨by rfl, ?_⟩) (by assumption) ?_
          rotate_left 1
          · intro w hSw
            try dsimp only at hSw
            go_simp
            try with_reducible rfl
          simp only [Act.put, List.getElem_toArray, List.getElem_cons_succ, List.getElem_cons_zero, List.setIfInBounds_toArray, List.set_cons_zero, List.set_cons_succ]
          refine wpAnyH_take (i := 5) (v := ?_) rfl (by kernel_rfl) (by kernel_rfl) (by kernel_rfl) (fun _ _ _ h => h) (Or.inl ⟨by rfl, ?_⟩) (by assumption) ?_
          rotate_left 1
          · intro w hSw
            try dsimp only at hSw
            go_simp
            try with_reducible rfl
          simp only [Act.put, List.getElem_toArray, List.getElem_cons_succ, List.getElem_cons_zero, List.setIfInBounds_toArray, List.set_cons_zero, List.set_cons_succ]
          refine wpAnyH_take (i := 6) (v := ?_) rfl (by kernel_rfl) (by kernel_rfl) (by kernel_rfl) (fun _ _ _ h => h) (Or.inl ⟨by rfl, ?_⟩) (by assumption) ?_
          rotate_left 1
          · intro w hSw
            try dsimp only at hSw
            go_simp
            try with_reducible rfl
          simp only [Act.put, List.getElem_toArray, List.getElem_cons_succ, List.getElem_cons_zero, List.setIfInBounds_toArray, List.set_cons_zero, List.set_cons_succ]
          refine wpAnyH_take (i := 7) (v := ?_) rfl (by kernel_rfl) (by kernel_rfl) (by kernel_rfl) (fun _ _ _ h => h) (Or.inl ⟨by rfl, ?_⟩) (by assumption) ?_
          rotate_left 1
          · intro w hSw
            try dsimp only at hSw
            go_simp
            try with_reducible rfl
          simp only [Act.put, List.getElem_toArray, List.getElem_cons_succ, List.getElem_cons_zero, List.setIfInBounds_toArray, List.set_cons_zero, List.set_cons_succ]
          refine wpAnyH_ready (rs := [8]) (by kernel_rfl) (by simp) ?_
          refine AllReadyH.cons rfl (fun K hK => ?_) AllReadyH.nil
          go_simp
          refine (HPUT.out HSL.out.drew).mono ?_
          rintro e w4 ⟨rfl, hb4⟩
          have HB4 := hide (show Below wr.heap.size wr w4 from (by repeat (first | with_reducible exact Below.refl _ _ | with_reducible assumption | with_reducible refine Below.setCell ?_ (by (try simp) <;> omega) _ | with_reducible refine Below.alloc ?_ (by (try simp) <;> omega) _ | with_reducible refine Below.drew ?_ | with_reducible refine below_drewN ?_ _ | with_reducible exact hb4 | with_reducible refine Below.trans ?_ (Below.mono hb4 (by (try simp) <;> omega)))))
          clear hb4
          go_wp2_with fail
          refine hK.out _ _ ?hS1 (fun hHeld => ?_)
          case hS1 => (try dsimp only); (first | exact ⟨c0, d0⟩ | exact ⟨(HB4.out.cell (p := ⟨b0, off + k, none⟩) zb0).trans c0, (HB4.out.cell (p := ⟨b1, off1 + k, none⟩) zb1).trans d0⟩)
          clear hK K
          try simp only [Act.put, List.getElem_toArray, List.getElem_cons_succ, List.getElem_cons_zero, List.setIfInBounds_toArray, List.set_cons_zero, List.set_cons_succ]
          refine wpAnyH_take (i := 9) (v := ?_) rfl (by kernel_rfl) (by kernel_rfl) (by kernel_rfl) (fun _ _ _ h => h) (Or.inl ⟨by rfl, ?_⟩) (by assumption) ?_
          rotate_left 1
          · intro w hSw
            try dsimp only at hSw
            go_simp
            try with_reducible rfl
          simp only [Act.put, List.getElem_toArray, List.getElem_cons_succ, List.getElem_cons_zero, List.setIfInBounds_toArray, List.set_cons_zero, List.set_cons_succ]
          refine wpAnyH_take (i := 10) (v := ?_) rfl (by kernel_rfl) (by kernel_rfl) (by kernel_rfl) (fun _ _ _ h => h) (Or.inl ⟨by rfl, ?_⟩) (by assumption) ?_
          rotate_left 1
          · intro w hSw
            try dsimp only at hSw
            go_simp
            try with_reducible rfl
          simp only [Act.put, List.getElem_toArray, List.getElem_cons_succ, List.getElem_cons_zero, List.setIfInBounds_toArray, List.set_cons_zero, List.set_cons_succ]
          refine wpAnyH_take (i := 11) (v := ?_) rfl (by kernel_rfl) (by kernel_rfl) (by kernel_rfl) (fun _ _ _ h => h) (Or.inl ⟨by rfl, ?_⟩) (by assumption) ?_
          rotate_left 1
          · intro w hSw
            try dsimp only at hSw
            go_simp
            try with_reducible rfl
          simp only [Act.put, List.getElem_toArray, List.getElem_cons_succ, List.getElem_cons_zero, List.setIfInBounds_toArray, List.set_cons_zero, List.set_cons_succ]
          refine wpAnyH_take (i := 12) (v := ?_) rfl (by kernel_rfl) (by kernel_rfl) (by kernel_rfl) (fun _ _ _ h => h) (Or.inl ⟨by rfl, ?_⟩) (by assumption) ?_
          rotate_left 1
          · intro w hSw
            try dsimp only at hSw
            go_simp
            try with_reducible rfl
          simp only [Act.put, List.getElem_toArray, List.getElem_cons_succ, List.getElem_cons_zero, List.setIfInBounds_toArray, List.set_cons_zero, List.set_cons_succ]
          refine wpAnyH_take (i := 13) (v := ?_) rfl (by kernel_rfl) (by kernel_rfl) (by kernel_rfl) (fun _ _ _ h => h) (Or.inl ⟨by rfl, ?_⟩) (by assumption) ?_
          rotate_left 1
          · intro w hSw
            try dsimp only at hSw
            go_simp
            try with_reducible rfl
          simp only [Act.put, List.getElem_toArray, List.getElem_cons_succ, List.getElem_cons_zero, List.setIfInBounds_toArray, List.set_cons_zero, List.set_cons_succ]
          refine wpAnyH_done (by kernel_rfl) ?_ _
          cases hok : numsOk x.2
          · have HNO := hide (show rows.all rowOk = false from List.all_eq_false.2 ⟨x, List.mem_of_getElem? HRX.out, by unfold rowOk; rw [hok]; simp⟩)
            go_wp2_with fail
            go_ret
            exact ⟨by rw [HOT.out, if_neg (by rw [HNO.out]; simp)]; rfl, L3.out.trans ((HB.out.trans (HB4.out.mono y1)).mono z3)⟩
          · have HA2 : Hid (∀ z ∈ rows.take (k + 1), rowOk z = true) := hide (by
              intro z hz
              rw [List.take_add_one, HRX.out] at hz
              rw [List.mem_append] at hz
              rcases hz with hz | hz
              · exact HA.out z hz
              · obtain rfl : z = x := by simpa using hz
                exact hok)
            have HT2 := hide (show rowsT ((ByteArray.mk #[119, 97, 121, 32, 110, 101, 120, 116, 10])) (rows.take (k + 1)) = J ++ lineR x.1 x.2 by rw [List.take_add_one, HRX.out]; show rowsT _ (rows.take k ++ [x]) = _; rw [rowsT_snoc, HJ.out]; rfl)
            have hls := HLS.out
            have hss : J.size + (lineR x.1 x.2).size ≤ 9223372036854775807 := by omega
            generalize lineR x.1 x.2 = LN at *
            go_wp2_with fail
            go_roundw
            case rel => exact ⟨k + 1, by omega, by go_num, by rw [HT2.out], HA2, HB.out.trans (HB4.out.mono y1)⟩
            case measure => simp [intOf]; omega
        · obtain rfl : N = k := by omega
          have hall : rows.take N = rows := List.take_of_length_le (by rw [HN.out]; exact Nat.le_refl _)
          rw [hall] at HA ⊢
          have HOK := hide (show rows.all rowOk = true from List.all_eq_true.2 HA.out)
          clear hlt hall
          go_wp2_with fail
          go_ret
          exact ⟨by rw [HOT.out, if_pos HOK.out]; rfl, L3.out.trans (HB.out.mono z3)⟩
end Go.Proofs.YtcjcmdikopipjaaDoor
