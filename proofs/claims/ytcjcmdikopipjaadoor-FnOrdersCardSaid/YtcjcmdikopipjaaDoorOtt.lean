/- OrderText of the program. -/
import Derived.Test.YtcjcmdikopipjaaDoorRdq
namespace Go.Proofs.YtcjcmdikopipjaaDoor
open Go.ChangeShapes Go.WideShapes Go.ChangeAt Go.RowKit Go.Deep Go.Joins
set_option linter.unusedVariables false
set_option linter.unusedSimpArgs false

theorem rowsT_tl : ∀ (rows : List ORow) (w0 : ByteArray), tl (rowsT w0 rows) = tl w0 ++ (rows.map (fun x => tl (rowT x))).flatten
  | [], w0 => by simp [rowsT]
  | x :: xs, w0 => by
    show tl (rowsT (w0 ++ rowT x) xs) = _
    rw [rowsT_tl xs, tl_app]
    simp
theorem join_rows (wy : ByteArray) (rows : List ORow) : (⟨(Lib.join ((wy :: rows.map rowT).map (·.data.toList)) []).toArray⟩ : ByteArray) = rowsT wy rows := by
  apply tl_inj
  rw [rowsT_tl, tl_mk, List.map_cons, Lib.join_cons]
  unfold Lib.joinTail
  simp [tl, Function.comp_def]
theorem rowsT_size : ∀ (rows : List ORow) (w0 : ByteArray), (∀ x ∈ rows, x.1.size ≤ 16 ∧ x.2.length ≤ 16) → (rowsT w0 rows).size ≤ w0.size + 129 * rows.length
  | [], w0, _ => by simp [rowsT]
  | x :: xs, w0, h => by
    have h1 := h x (List.mem_cons_self ..)
    have h2 : (rowT x).size ≤ 129 := lineR_size h1.1 h1.2
    have h3 := rowsT_size xs (w0 ++ rowT x) (fun y hy => h y (List.mem_cons_of_mem _ hy))
    rw [ByteArray.size_append] at h3
    show (rowsT (w0 ++ rowT x) xs).size ≤ _
    rw [List.length_cons]
    omega
theorem order_len (r : Rq) : (orderRows r).length = 3 + r.pairs.length + r.types.length + r.items.length := by
  unfold orderRows headRows
  simp
  omega
theorem otS_size (r : Rq) : (otS r).size ≤ 16 + 129 * (3 + r.pairs.length + r.types.length + r.items.length) := by
  unfold otS
  split
  · split
    · have := rowsT_size (orderRows r) (wayS r.way) (fun x hx => (order_words r x hx).2.2)
      rw [order_len] at this
      have h2 : (wayS r.way).size ≤ 16 := by
        unfold wayS
        split <;> decide
      omega
    · exact Nat.zero_le _
  · exact Nat.zero_le _
theorem slk_news {α : Type} {k : Nat} {enc : α → List Value} (hk : ∀ x, (enc x).length = k) (w : World) (xs : List α) (n : Nat) (cs : Array Value) (T : TypeId) {g : Nat} (hg : g = w.heap.size) (hn : xs.length = n) (hm : n ≤ maxLen) (hcs : cs = (xs.flatMap enc).toArray) :
    SlK k enc (w.alloc (.cells cs T)) w.heap.size (w.heap.size + 1) (some ⟨g, 0, none⟩) n n xs := by
  subst hg
  exact slk_new hk w xs n cs T hn hm hcs
theorem wayS_cell {K : Nat} (h : K ≤ 1) : (#[Value.string (ByteArray.mk #[119, 97, 121, 32, 102, 105, 114, 115, 116, 10]), Value.string (ByteArray.mk #[119, 97, 121, 32, 110, 101, 120, 116, 10])] : Array Value)[K]? = some (.string (wayS (K : Int))) := by
  have : K = 0 ∨ K = 1 := by omega
  rcases this with rfl | rfl <;> rfl
theorem joinRows_any (wy : ByteArray) (rows : List ORow) (v : Value) (base : Nat) (T : TypeId) (w : World) (ho : Own 1 encStr T w base v (wy :: rows.map rowT)) (hs : ∀ x ∈ rows, x.1.size ≤ 16 ∧ x.2.length ≤ 16) (hn : rows.length ≤ 1048579) (hwy : wy.size ≤ 16) :
    Calls Tryd.prog 50 #[v, .string ⟨#[]⟩] w fun e w' => e = .returned (.string (rowsT wy rows)) ∧ Below w.heap.size w w' := by
  obtain ⟨A, c, rfl, hl, hnc, hcm, hc⟩ := Own.slk encStr_len ho
  obtain ⟨b, off, rfl, h1, h2, h3⟩ := hc (by simp)
  have hj := join_rows wy rows
  have hsz := rowsT_size rows wy hs
  have hjl : (Lib.join ((wy :: rows.map rowT).map (·.data.toList)) (ByteArray.mk #[]).data.toList).length ≤ 140737488355328 := by
    have e := congrArg ByteArray.size hj
    have e2 : (Lib.join ((wy :: rows.map rowT).map (·.data.toList)) []).length = (rowsT wy rows).size := by
      rw [← e]
      exact List.size_toArray.symm
    show (Lib.join ((wy :: rows.map rowT).map (·.data.toList)) []).length ≤ _
    omega
  have h := Tryd.strings_Join b off c (wy :: rows.map rowT) ⟨#[]⟩ w (fun j x hx => by have := (h3 j x hx 0 _ rfl).1; simpa using this) h2 (by simp; omega) hnc hjl
  refine h.mono ?_
  rintro e w' ⟨rfl, hb⟩
  refine ⟨?_, hb⟩
  have hj' : (⟨(Lib.join ((wy :: rows.map rowT).map (·.data.toList)) (ByteArray.mk #[]).data.toList).toArray⟩ : ByteArray) = rowsT wy rows := hj
  rw [hj']
theorem ownS_lit {w : World} {base : Nat} (hb : base ≤ w.heap.size) (xs : List ByteArray) (n : Nat) (cs : Array Value) (T : TypeId) {g : Nat} (hg : g = w.heap.size) (hn : xs.length = n) (hm : n ≤ maxLen) (hcs : cs = (xs.map Value.string).toArray) :
    Own 1 encStr T (w.alloc (.cells cs T)) base (.slice (some ⟨g, 0, none⟩) n n) xs := by
  subst hn hcs hg
  have := World.ownsRow_lit (base := base) (size := 1) (e := T) w (xs.map Value.string).toArray xs.length hb hm (by simp)
  show World.ownsRow _ base T 1 _ xs.length (xs.flatMap encStr)
  rw [strs_flat]
  simpa using this
set_option maxRecDepth 20000 in
set_option maxHeartbeats 4000000 in
theorem orderText_any (r : Rq) (A1 A2 A3 : Option Addr) (n1 n2 n3 c1 c2 c3 : Nat) (lo hi : Nat) (w : World) (hr : RqAt w lo hi r A1 n1 c1 A2 n2 c2 A3 n3 c3) (hB : hi ≤ w.heap.size) (hn : n1 + n2 + n3 ≤ 1048576) (htab : Lib.TabIs Tryd.prog w "internal/strconv.uint64pow10" .u64 Lib.pow10Tab) :
    Calls Tryd.prog 17 #[.agg #[.int .i64 r.way, .int .i64 r.pal.w, .int .i64 r.pal.d, .int .i64 r.pal.h, .int .i64 r.pal.gram, .int .i64 r.cls, .slice A1 n1 c1, .slice A2 n2 c2, .int .i64 r.master, .slice A3 n3 c3]] w fun e w' => e = .returned (.string (otS r)) ∧ Below w.heap.size w w' := by
  have HT := hide htab
  have HR := hide hr
  have l1 := hr.pr.len
  have l2 := hr.ty.len
  have l3 := hr.it.len
  have q1 := hr.pr.cap
  have q2 := hr.pr.max
  have q3 := hr.ty.cap
  have q4 := hr.ty.max
  have q5 := hr.it.cap
  have q6 := hr.it.max
  have hmf : ∀ (fn : Fn) (first cap : Array Value) (w : World), (Instr.makeFunc fn first cap).run Tryd.prog w = .ok (.func fn first cap) w := fun _ _ _ _ => rfl
  clear htab hr
  cases hw : inB r.way 0 1
  · have HF := hide (show otS r = ⟨#[]⟩ by unfold otS; rw [if_neg (by rw [hw]; simp)])
    go_enter Tryd.func17, Tryd.ntmps17
    go_wp2_with (go_at_call 37; refine (in_any _ _ _ _).mono ?_; rw [hw]; rintro e w' ⟨rfl, rfl⟩)
    go_ret
    exact ⟨by rw [HF.out]; rfl, (by repeat (first | with_reducible exact Below.refl _ _ | with_reducible assumption | with_reducible refine Below.setCell ?_ (by (try simp) <;> omega) _ | with_reducible refine Below.alloc ?_ (by (try simp) <;> omega) _ | with_reducible refine Below.drew ?_ | with_reducible refine below_drewN ?_ _))⟩
  · obtain ⟨K, hK⟩ := Int.eq_ofNat_of_zero_le ((inB_iff _ _ _).1 hw).1
    have hK1 : K ≤ 1 := by have := (inB_iff _ _ _).1 hw; omega
    have HOT := hide (show otS r = if (orderRows r).all rowOk = true then rowsT (wayS (K : Int)) (orderRows r) else ⟨#[]⟩ by unfold otS; rw [if_pos hw, hK])
    rw [hK] at hw ⊢
    have hk0 : (0 : Int) ≤ (K : Int) := by omega
    have hk2 : (K : Int) < 2 := by omega
    have P0 := hide ((Blk.new w 41 #[.int .i64 (K : Int), .int .i64 r.pal.w, .int .i64 r.pal.d, .int .i64 r.pal.h, .int .i64 r.pal.gram, .int .i64 r.cls, .slice A1 n1 c1, .slice A2 n2 c2, .int .i64 r.master, .slice A3 n3 c3] (g := w.heap.size) rfl).alloc (.cells #[.string (ByteArray.mk #[119, 97, 121, 32, 102, 105, 114, 115, 116, 10]), .string (ByteArray.mk #[119, 97, 121, 32, 110, 101, 120, 116, 10])] 9))
    have PW := hide (Blk.new (w.alloc (.cells #[.int .i64 (K : Int), .int .i64 r.pal.w, .int .i64 r.pal.d, .int .i64 r.pal.h, .int .i64 r.pal.gram, .int .i64 r.cls, .slice A1 n1 c1, .slice A2 n2 c2, .int .i64 r.master, .slice A3 n3 c3] 41)) 9 #[.string (ByteArray.mk #[119, 97, 121, 32, 102, 105, 114, 115, 116, 10]), .string (ByteArray.mk #[119, 97, 121, 32, 110, 101, 120, 116, 10])] (g := w.heap.size + 1) (by simp))
    have L2 := hide (show Below w.heap.size w ((w.alloc (.cells #[.int .i64 (K : Int), .int .i64 r.pal.w, .int .i64 r.pal.d, .int .i64 r.pal.h, .int .i64 r.pal.gram, .int .i64 r.cls, .slice A1 n1 c1, .slice A2 n2 c2, .int .i64 r.master, .slice A3 n3 c3] 41)).alloc (.cells #[.string (ByteArray.mk #[119, 97, 121, 32, 102, 105, 114, 115, 116, 10]), .string (ByteArray.mk #[119, 97, 121, 32, 110, 101, 120, 116, 10])] 9)) from (by repeat (first | with_reducible exact Below.refl _ _ | with_reducible assumption | with_reducible refine Below.setCell ?_ (by (try simp) <;> omega) _ | with_reducible refine Below.alloc ?_ (by (try simp) <;> omega) _ | with_reducible refine Below.drew ?_ | with_reducible refine below_drewN ?_ _)))
    have y2 : ((w.alloc (.cells #[.int .i64 (K : Int), .int .i64 r.pal.w, .int .i64 r.pal.d, .int .i64 r.pal.h, .int .i64 r.pal.gram, .int .i64 r.cls, .slice A1 n1 c1, .slice A2 n2 c2, .int .i64 r.master, .slice A3 n3 c3] 41)).alloc (.cells #[.string (ByteArray.mk #[119, 97, 121, 32, 102, 105, 114, 115, 116, 10]), .string (ByteArray.mk #[119, 97, 121, 32, 110, 101, 120, 116, 10])] 9)).heap.size = w.heap.size + 2 := by simp
    obtain ⟨w2, hw2⟩ : ∃ w2, (w.alloc (.cells #[.int .i64 (K : Int), .int .i64 r.pal.w, .int .i64 r.pal.d, .int .i64 r.pal.h, .int .i64 r.pal.gram, .int .i64 r.cls, .slice A1 n1 c1, .slice A2 n2 c2, .int .i64 r.master, .slice A3 n3 c3] 41)).alloc (.cells #[.string (ByteArray.mk #[119, 97, 121, 32, 102, 105, 114, 115, 116, 10]), .string (ByteArray.mk #[119, 97, 121, 32, 110, 101, 120, 116, 10])] 9) = w2 := ⟨_, rfl⟩
    rw [hw2] at P0 PW L2 y2
    have HW2 := hide hw2
    clear hw2
    have c0 : w2.cell? ⟨w.heap.size + 1, K, none⟩ = some (.string (wayS (K : Int))) := (PW.out.cell K).trans (wayS_cell hK1)
    have kR := P0.out.cell
    have yR : w.heap.size < w2.heap.size := by omega
    have yW : w.heap.size + 1 < w2.heap.size := by omega
    obtain ⟨wy, hwy⟩ : ∃ wy, wayS (K : Int) = wy := ⟨_, rfl⟩
    have hwy16 : wy.size ≤ 16 := by rw [← hwy]; unfold wayS; split <;> decide
    rw [hwy] at c0 HOT
    clear hwy
    have HST0 : Hid (OtSt w (((w2.alloc (.cells #[.string wy] 9)).alloc (.cells #[.slice (some ⟨w.heap.size + 2, 0, none⟩) 1 1] 50)).alloc (.cells #[.bool true] 4)) w.heap.size (w.heap.size + 2) (w.heap.size + 2 + 1) (w.heap.size + 2 + 1 + 1) #[.int .i64 (K : Int), .int .i64 r.pal.w, .int .i64 r.pal.d, .int .i64 r.pal.h, .int .i64 r.pal.gram, .int .i64 r.cls, .slice A1 n1 c1, .slice A2 n2 c2, .int .i64 r.master, .slice A3 n3 c3] wy []) := hide
      ⟨((P0.out.alloc _).alloc _).alloc _, Blk.new _ _ _ (by simp [y2]), ⟨.slice (some ⟨w.heap.size + 2, 0, none⟩) 1 1, (Blk.new _ _ _ (by simp [y2])).alloc _, ((ownS_lit (by omega) [wy] 1 _ _ (by omega) rfl (by simp [maxLen]) rfl).alloc _).alloc _, fun z hz => .inl (by have hz' : w.heap.size + 2 = z := Option.some.inj hz; omega)⟩, (by repeat (first | with_reducible exact Below.refl _ _ | with_reducible assumption | with_reducible refine Below.setCell ?_ (by (try simp) <;> omega) _ | with_reducible refine Below.alloc ?_ (by (try simp) <;> omega) _ | with_reducible refine Below.drew ?_ | with_reducible refine below_drewN ?_ _ | with_reducible exact L2.out | with_reducible refine Below.trans ?_ (Below.mono L2.out (by (try simp) <;> omega)))), by omega⟩
    go_enter Tryd.func17, Tryd.ntmps17
    go_wp2_with (go_at_call 37; refine (in_any _ _ _ _).mono ?_; rw [hw]; rintro e w' ⟨rfl, rfl⟩; rw [HW2.out])
    go_wp2_with fail
    refine (put_st (ByteArray.mk #[112, 97, 108, 108, 101, 116]) [r.pal.w, r.pal.d, r.pal.h, r.pal.gram] _ _ _ 4 4 w _ w.heap.size (w.heap.size + 2) (w.heap.size + 2 + 1) (w.heap.size + 2 + 1 + 1) _ wy ([]) (HST0.out.alloc _) (slk_news encInt_len _ [r.pal.w, r.pal.d, r.pal.h, r.pal.gram] 4 _ _ (g := _) (by simp [y2]) rfl (by simp [maxLen]) rfl) (by simp) (by omega) (by decide) HT.out (by simp)).mono ?_
    rintro e w3 ⟨rfl, hst3, zp3⟩
    have HST3 := hide hst3
    have kR := hst3.rq.cell
    have yR := hst3.rq.lt
    clear hst3
    clear c0
    go_wp2_with fail
    refine (put_st (ByteArray.mk #[99, 108, 97, 115, 115, 101, 115]) [r.cls] _ _ _ 1 1 w _ w.heap.size (w.heap.size + 2) (w.heap.size + 2 + 1) (w.heap.size + 2 + 1 + 1) _ wy ([] ++ [((ByteArray.mk #[112, 97, 108, 108, 101, 116]), [r.pal.w, r.pal.d, r.pal.h, r.pal.gram])]) (HST3.out.alloc _) (slk_news encInt_len _ [r.cls] 1 _ _ (g := _) (by simp [y2]) rfl (by simp [maxLen]) rfl) (by simp) (by omega) (by decide) HT.out (by simp)).mono ?_
    rintro e w4 ⟨rfl, hst4, zp4⟩
    have HST4 := hide hst4
    have kR := hst4.rq.cell
    have yR := hst4.rq.lt
    clear hst4
    have HST5 : Hid (OtSt w w4 w.heap.size (w.heap.size + 2) (w.heap.size + 2 + 1) (w.heap.size + 2 + 1 + 1) #[.int .i64 (K : Int), .int .i64 r.pal.w, .int .i64 r.pal.d, .int .i64 r.pal.h, .int .i64 r.pal.gram, .int .i64 r.cls, .slice A1 n1 c1, .slice A2 n2 c2, .int .i64 r.master, .slice A3 n3 c3] wy (headRows r)) := hide HST4.out
    clear HST3 HST4 HST0
    go_wp2_with fail
    go_loopw [48] (fun i wr => ∃ k : Nat, k ≤ n1 ∧ i = .int .i64 k ∧ OtSt w wr w.heap.size (w.heap.size + 2) (w.heap.size + 2 + 1) (w.heap.size + 2 + 1 + 1) #[.int .i64 (K : Int), .int .i64 r.pal.w, .int .i64 r.pal.d, .int .i64 r.pal.h, .int .i64 r.pal.gram, .int .i64 r.cls, .slice A1 n1 c1, .slice A2 n2 c2, .int .i64 r.master, .slice A3 n3 c3] wy ((headRows r) ++ (r.pairs.take k).map prRow)) (fun i _ => n1 - (intOf i).toNat)
    case atStart => exact ⟨0, Nat.zero_le _, rfl, by simpa [mRow] using HST5.out⟩
    case round =>
      obtain ⟨k, hk, rfl, hst⟩ := hrel
      have HS := hide hst
      have kR := hst.rq.cell
      have yR := hst.rq.lt
      have yw := hst.below.size
      have ht : (r.pairs.take k).length = k := by rw [List.length_take]; omega
      clear hst
      by_cases hlt : k < n1
      · obtain ⟨b0, off, x, hx, rfl, _, hb0, d0, d1, _, _⟩ := (HR.out.pr.below HS.out.below hB).pr hlt
        have i0 : (0 : Int) ≤ (k : Int) := by omega
        have i1 : (k : Int) < (n1 : Int) := by omega
        have zb : b0 < wr.heap.size := by omega
        have HX := hide hx
        clear hx kR yR
        go_wp2_with fail
        refine (put_st (ByteArray.mk #[119, 105, 116, 104]) [x.a, x.b] _ _ _ 2 2 w _ w.heap.size (w.heap.size + 2) (w.heap.size + 2 + 1) (w.heap.size + 2 + 1 + 1) _ wy ((headRows r) ++ (r.pairs.take k).map prRow) ((HS.out.alloc _).alloc _) (slk_news encInt_len _ [x.a, x.b] 2 _ _ (g := _) (by simp [y2]) rfl (by simp [maxLen]) rfl) (by simp) (by omega) (by decide) HT.out (by simp [headRows]; omega)).mono ?_
        rintro e w10 ⟨rfl, hst10, zp10⟩
        have HST10 := hide hst10
        have kR := hst10.rq.cell
        have yR := hst10.rq.lt
        clear hst10
        go_wp2_with fail
        go_roundw
        case rel => exact ⟨k + 1, by omega, by go_num, by rw [List.take_add_one, HX.out]; simpa [prRow] using HST10.out⟩
        case measure => simp [intOf]; omega
      · obtain rfl : n1 = k := by omega
        rw [List.take_of_length_le (by omega)] at HS
        clear hlt ht hk
        obtain ⟨wa, hwa⟩ : ∃ wa : World, wa = wr := ⟨_, rfl⟩
        subst hwa
        go_wp2_with fail
        go_loopw [63] (fun i wr => ∃ k : Nat, k ≤ n2 ∧ i = .int .i64 k ∧ OtSt w wr w.heap.size (w.heap.size + 2) (w.heap.size + 2 + 1) (w.heap.size + 2 + 1 + 1) #[.int .i64 (K : Int), .int .i64 r.pal.w, .int .i64 r.pal.d, .int .i64 r.pal.h, .int .i64 r.pal.gram, .int .i64 r.cls, .slice A1 n1 c1, .slice A2 n2 c2, .int .i64 r.master, .slice A3 n3 c3] wy ((headRows r ++ r.pairs.map prRow) ++ (r.types.take k).map tyRow)) (fun i _ => n2 - (intOf i).toNat)
        case atStart => exact ⟨0, Nat.zero_le _, rfl, by simpa [mRow] using HS.out⟩
        case round =>
          obtain ⟨k, hk, rfl, hst⟩ := hrel
          have HS := hide hst
          have kR := hst.rq.cell
          have yR := hst.rq.lt
          have yw := hst.below.size
          have ht : (r.types.take k).length = k := by rw [List.length_take]; omega
          clear hst
          by_cases hlt : k < n2
          · obtain ⟨b0, off, x, hx, rfl, _, hb0, d0, d1, d2, d3, d4, d5, d6, _⟩ := (HR.out.ty.below HS.out.below hB).ty hlt
            have i0 : (0 : Int) ≤ (k : Int) := by omega
            have i1 : (k : Int) < (n2 : Int) := by omega
            have zb : b0 < wr.heap.size := by omega
            have HX := hide hx
            clear hx kR yR
            go_wp2_with fail
            refine (put_st (ByteArray.mk #[116, 121, 112, 101]) [x.id, x.w, x.h, x.d, x.tare, x.gram, x.cost] _ _ _ 7 7 w _ w.heap.size (w.heap.size + 2) (w.heap.size + 2 + 1) (w.heap.size + 2 + 1 + 1) _ wy ((headRows r ++ r.pairs.map prRow) ++ (r.types.take k).map tyRow) ((HS.out.alloc _).alloc _) (slk_news encInt_len _ [x.id, x.w, x.h, x.d, x.tare, x.gram, x.cost] 7 _ _ (g := _) (by simp [y2]) rfl (by simp [maxLen]) rfl) (by simp) (by omega) (by decide) HT.out (by simp [headRows]; omega)).mono ?_
            rintro e w10 ⟨rfl, hst10, zp10⟩
            have HST10 := hide hst10
            have kR := hst10.rq.cell
            have yR := hst10.rq.lt
            clear hst10
            go_wp2_with fail
            go_roundw
            case rel => exact ⟨k + 1, by omega, by go_num, by rw [List.take_add_one, HX.out]; simpa [tyRow] using HST10.out⟩
            case measure => simp [intOf]; omega
          · obtain rfl : n2 = k := by omega
            rw [List.take_of_length_le (by omega)] at HS
            clear hlt ht hk
            obtain ⟨wa, hwa⟩ : ∃ wa : World, wa = wr := ⟨_, rfl⟩
            subst hwa
            go_wp2_with fail
            refine (put_st (ByteArray.mk #[109, 97, 115, 116, 101, 114]) [r.master] _ _ _ 1 1 w _ w.heap.size (w.heap.size + 2) (w.heap.size + 2 + 1) (w.heap.size + 2 + 1 + 1) _ wy ((headRows r ++ r.pairs.map prRow) ++ r.types.map tyRow) (HS.out.alloc _) (slk_news encInt_len _ [r.master] 1 _ _ (g := _) (by simp [y2]) rfl (by simp [maxLen]) rfl) (by simp) (by omega) (by decide) HT.out (by simp [headRows]; omega)).mono ?_
            rintro e w20 ⟨rfl, hst20, zp20⟩
            have HST20 := hide hst20
            have kR := hst20.rq.cell
            have yR := hst20.rq.lt
            clear hst20
            go_wp2_with fail
            go_loopw [93] (fun i wr => ∃ k : Nat, k ≤ n3 ∧ i = .int .i64 k ∧ OtSt w wr w.heap.size (w.heap.size + 2) (w.heap.size + 2 + 1) (w.heap.size + 2 + 1 + 1) #[.int .i64 (K : Int), .int .i64 r.pal.w, .int .i64 r.pal.d, .int .i64 r.pal.h, .int .i64 r.pal.gram, .int .i64 r.cls, .slice A1 n1 c1, .slice A2 n2 c2, .int .i64 r.master, .slice A3 n3 c3] wy ((((headRows r ++ r.pairs.map prRow) ++ r.types.map tyRow) ++ [mRow r.master]) ++ (r.items.take k).map itRow)) (fun i _ => n3 - (intOf i).toNat)
            case atStart => exact ⟨0, Nat.zero_le _, rfl, by simpa [mRow] using HST20.out⟩
            case round =>
              obtain ⟨k, hk, rfl, hst⟩ := hrel
              have HS := hide hst
              have kR := hst.rq.cell
              have yR := hst.rq.lt
              have yw := hst.below.size
              have ht : (r.items.take k).length = k := by rw [List.length_take]; omega
              clear hst
              by_cases hlt : k < n3
              · obtain ⟨b0, off, x, hx, rfl, _, hb0, d0, d1, d2, d3, d4, d5, d6, _⟩ := (HR.out.it.below HS.out.below hB).it hlt
                have i0 : (0 : Int) ≤ (k : Int) := by omega
                have i1 : (k : Int) < (n3 : Int) := by omega
                have zb : b0 < wr.heap.size := by omega
                have HX := hide hx
                clear hx kR yR
                go_wp2_with fail
                refine (put_st (ByteArray.mk #[105, 116, 101, 109]) [x.id, x.w, x.h, x.d, x.gram, x.cls, x.cnt] _ _ _ 7 7 w _ w.heap.size (w.heap.size + 2) (w.heap.size + 2 + 1) (w.heap.size + 2 + 1 + 1) _ wy ((((headRows r ++ r.pairs.map prRow) ++ r.types.map tyRow) ++ [mRow r.master]) ++ (r.items.take k).map itRow) ((HS.out.alloc _).alloc _) (slk_news encInt_len _ [x.id, x.w, x.h, x.d, x.gram, x.cls, x.cnt] 7 _ _ (g := _) (by simp [y2]) rfl (by simp [maxLen]) rfl) (by simp) (by omega) (by decide) HT.out (by simp [headRows]; omega)).mono ?_
                rintro e w10 ⟨rfl, hst10, zp10⟩
                have HST10 := hide hst10
                have kR := hst10.rq.cell
                have yR := hst10.rq.lt
                clear hst10
                go_wp2_with fail
                go_roundw
                case rel => exact ⟨k + 1, by omega, by go_num, by rw [List.take_add_one, HX.out]; simpa [itRow] using HST10.out⟩
                case measure => simp [intOf]; omega
              · obtain rfl : n3 = k := by omega
                rw [List.take_of_length_le (by omega)] at HS
                clear hlt ht hk
                obtain ⟨wa, hwa⟩ : ∃ wa : World, wa = wr := ⟨_, rfl⟩
                subst hwa
                have HE := hide (show OtSt w wa w.heap.size (w.heap.size + 2) (w.heap.size + 2 + 1) (w.heap.size + 2 + 1 + 1) #[.int .i64 (K : Int), .int .i64 r.pal.w, .int .i64 r.pal.d, .int .i64 r.pal.h, .int .i64 r.pal.gram, .int .i64 r.cls, .slice A1 n1 c1, .slice A2 n2 c2, .int .i64 r.master, .slice A3 n3 c3] wy (orderRows r) from HS.out)
                have kG := HE.out.good.cell
                have yG := HE.out.good.lt
                obtain ⟨v, hv, hown, _⟩ := HE.out.lines
                have kO := hv.cell
                have yO := hv.lt
                have hol := order_len r
                have HJ := hide (joinRows_any wy (orderRows r) v _ _ wa hown (fun x hx => (order_words r x hx).2.2) (by omega) hwy16)
                have HL := hide HE.out.below
                clear hv hown HE HS kR yR hol
                cases hok : (orderRows r).all rowOk
                · rw [hok] at kG HOT
                  go_wp2_with fail
                  go_ret
                  exact ⟨by rw [HOT.out]; rfl, HL.out⟩
                · rw [hok] at kG HOT
                  go_wp2_with fail
                  refine HJ.out.mono ?_
                  rintro e w' ⟨rfl, hb⟩
                  go_wp2_with fail
                  go_ret
                  exact ⟨by rw [HOT.out]; rfl, HL.out.trans (hb.mono HL.out.size)⟩
end Go.Proofs.YtcjcmdikopipjaaDoor
