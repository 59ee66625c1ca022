/- The laws' marks on slices of slices of numbers. -/
import Derived.Test.YtojmkkcjjlppiaaMk
import Derived.Test.YtojmkkcjjlppiaaGrp
namespace Go.Proofs.Ytojmkkcjjlppiaa
open Go.ChangeShapes Go.WideShapes Go.ChangeAt Go.RowKit Go.Deep
set_option linter.unusedVariables false
set_option linter.unusedSimpArgs false

set_option maxRecDepth 20000 in
set_option maxHeartbeats 2000000 in
theorem markIntS_wr (k0 : Int) (lo hi : Nat) (A : Option Addr) (n c : Nat) (w : World) (h : WrK 1 w lo hi A n) (hc : n ≤ c) (hm : c ≤ 9223372036854775807) (hn : n ≤ 1048576) (hk : 0 ≤ k0) (hk2 : k0 ≤ 10485760) :
    Calls Try.prog 48 #[.slice A n c, .int .i64 k0] w fun e w' => e = .returned (.int .i64 (k0 + n)) ∧ MkB lo hi w w' := by
  have H := hide h
  clear h
  go_enter Try.func48, Try.ntmps48
  go_wp2
  go_loopw [1, 5] (fun k i wr => ∃ j : Nat, j ≤ n ∧ i = .int .i64 j ∧ k = .int .i64 (k0 + j) ∧ MkB lo hi w wr) (fun _ i _ => n - (intOf i).toNat)
  case atStart => exact ⟨0, Nat.zero_le _, rfl, by simp, MkB.refl _ _ _⟩
  case round =>
    obtain ⟨j, hj, rfl, rfl, hmk⟩ := hrel
    have HM := hide hmk
    clear hmk
    by_cases hlt : j < n
    · obtain ⟨b, off, rfl, hl, hb, hcell⟩ := (H.out.mk HM.out) (by omega)
      have hcc := hcell j hlt
      obtain ⟨c0', f0⟩ := hcc 0 (by omega)
      obtain ⟨u0, g0⟩ := Option.isSome_iff_exists.1 c0'
      clear c0'
      simp only [Nat.add_zero, Nat.mul_one] at g0 f0
      clear hcell hcc
      have i0 : (0 : Int) ≤ (j : Int) := by omega
      have i1 : (j : Int) < (n : Int) := by omega
      have s1 : -9223372036854775808 ≤ k0 + (j : Int) + 1 := by omega
      have t1 : k0 + (j : Int) + 1 ≤ 9223372036854775807 := by omega
      have HL := hide (show lo ≤ b ∧ b < hi from ⟨hl, hb⟩)
      obtain ⟨K, hK⟩ : ∃ K, k0 + (j : Int) = K := ⟨_, rfl⟩
      have HK := hide hK
      rw [hK] at s1 t1 ⊢
      clear hK
      go_wp2
      go_roundw
      case rel =>
        refine ⟨j + 1, by omega, by go_num, ?_, ?_⟩
        · have := HK.out
          congr 1
          omega
        · repeat (first | with_reducible exact HM.out | with_reducible refine MkB.set ?_ HL.out _)
      case measure => simp [intOf]; omega
    · obtain rfl : j = n := by omega
      clear hlt
      go_wp2
      go_ret
      exact ⟨rfl, HM.out⟩
def totX : List IRow → Nat
  | [] => 0
  | r :: rs => r.xs.length + totX rs
theorem totX_snoc : ∀ (rs : List IRow) (r : IRow), totX (rs ++ [r]) = totX rs + r.xs.length
  | [], r => by simp [totX]
  | x :: rs, r => by rw [List.cons_append, totX, totX_snoc rs r, totX]; omega
theorem totX_app : ∀ (rs ss : List IRow), totX (rs ++ ss) = totX rs + totX ss
  | [], ss => by simp [totX]
  | x :: rs, ss => by rw [List.cons_append, totX, totX_app rs ss, totX]; omega
theorem totX_take {rs : List IRow} {k : Nat} {x : IRow} (hx : rs[k]? = some x) : totX (rs.take (k + 1)) = totX (rs.take k) + x.xs.length := by rw [take_snoc hx, totX_snoc]
theorem totX_le {rs : List IRow} {k : Nat} {x : IRow} (hx : rs[k]? = some x) : totX (rs.take k) + x.xs.length ≤ totX rs := by
  have h1 : totX rs = totX (rs.take (k + 1)) + totX (rs.drop (k + 1)) := by rw [← totX_app, List.take_append_drop]
  rw [h1, take_snoc hx, totX_snoc]
  omega
theorem totX_rowsL {rs ss : List IRow} (h : rowsL rs = rowsL ss) : totX rs = totX ss := by
  have key : ∀ xs : List IRow, totX xs = ((rowsL xs).map List.length).sum := by
    intro xs
    induction xs with
    | nil => rfl
    | cons x xs ih => rw [totX, ih]; simp [rowsL]
  rw [key, key, h]
/-- The rows with their marks: k0, k0 + 1, .. through all of them. -/
def markRows (k0 : Int) : List IRow → List IRow
  | [] => []
  | r :: rs => ⟨r.A, r.n, r.c, marks k0 r.xs.length⟩ :: markRows (k0 + r.xs.length) rs
theorem markRows_snoc : ∀ (rs : List IRow) (k0 : Int) (r : IRow), markRows k0 (rs ++ [r]) = markRows k0 rs ++ [⟨r.A, r.n, r.c, marks (k0 + totX rs) r.xs.length⟩]
  | [], k0, r => by simp [markRows, totX]
  | x :: rs, k0, r => by
    rw [List.cons_append, markRows, markRows_snoc rs _ r, markRows, totX, List.cons_append]
    rw [show k0 + (x.xs.length : Int) + (totX rs : Int) = k0 + ((x.xs.length + totX rs : Nat) : Int) by omega]
theorem markRows_len : ∀ (rs : List IRow) (k0 : Int), (markRows k0 rs).length = rs.length
  | [], _ => rfl
  | x :: rs, k0 => by rw [markRows, List.length_cons, markRows_len rs, List.length_cons]
theorem markRows_at : ∀ (rs : List IRow) (k0 : Int) (i : Nat) (r : IRow), rs[i]? = some r → (markRows k0 rs)[i]? = some ⟨r.A, r.n, r.c, marks (k0 + totX (rs.take i)) r.xs.length⟩
  | [], k0, i, r, h => by simp at h
  | x :: rs, k0, 0, r, h => by
    simp only [List.getElem?_cons_zero, Option.some.injEq] at h
    subst h
    simp [markRows, totX]
  | x :: rs, k0, i + 1, r, h => by
    rw [List.getElem?_cons_succ] at h
    rw [markRows, List.getElem?_cons_succ, markRows_at rs _ i r h, List.take_succ_cons, totX]
    rw [show k0 + (x.xs.length : Int) + (totX (rs.take i) : Int) = k0 + ((x.xs.length + totX (rs.take i) : Nat) : Int) by omega]
/-- Those marked so far, and the others. -/
def markTo (k0 : Int) (rows : List IRow) (j : Nat) : List IRow := markRows k0 (rows.take j) ++ rows.drop j
theorem markTo_zero (k0 : Int) (rows : List IRow) : markTo k0 rows 0 = rows := by simp [markTo, markRows]
theorem markTo_all (k0 : Int) (rows : List IRow) (j : Nat) (h : rows.length ≤ j) : markTo k0 rows j = markRows k0 rows := by
  unfold markTo
  rw [List.take_of_length_le h, List.drop_of_length_le h, List.append_nil]
theorem markTo_at {k0 : Int} {rows : List IRow} {j : Nat} {r : IRow} (h : rows[j]? = some r) : (markTo k0 rows j)[j]? = some r := by
  have hj := (List.getElem?_eq_some_iff.1 h).1
  unfold markTo
  rw [List.getElem?_append_right (by rw [markRows_len, List.length_take]; omega), markRows_len, List.length_take, List.getElem?_drop, show j + (j - min j rows.length) = j by omega, h]
theorem markTo_set {k0 : Int} {rows : List IRow} {j : Nat} {r : IRow} (h : rows[j]? = some r) : (markTo k0 rows j).set j ⟨r.A, r.n, r.c, marks (k0 + totX (rows.take j)) r.xs.length⟩ = markTo k0 rows (j + 1) := by
  obtain ⟨hj, hr⟩ := List.getElem?_eq_some_iff.1 h
  unfold markTo
  rw [List.set_append_right _ _ (by rw [markRows_len, List.length_take]; omega), markRows_len, List.length_take, show j - min j rows.length = 0 by omega, List.drop_eq_getElem_cons hj, List.set_cons_zero, take_snoc h, markRows_snoc]
  simp
/-- A row's numbers are others now; the row itself stands in its place. -/
theorem GrpAt.swap {eS eI : TypeId} {w w' : World} {base : Nat} {v : Value} {rows : List IRow} {r r' : IRow} {i : Nat} (h : GrpAt eS eI w base v rows) (hi : rows[i]? = some r) (he : valRow r' = valRow r) (hr : Own 1 encInt eI w' base (valRow r') r'.xs) (hn : 0 < r'.xs.length)
    (hg : w.grownBy w' (valRow r).ownBlock) : GrpAt eS eI w' base v (rows.set i r') := by
  have hil : i < rows.length := (List.getElem?_eq_some_iff.1 hi).1
  have hrm := List.mem_of_getElem? hi
  have hget : ∀ j x, (rows.set i r')[j]? = some x → (j = i ∧ x = r') ∨ (j ≠ i ∧ rows[j]? = some x) := fun j x hj => by
    by_cases e : j = i
    · subst e
      rw [List.getElem?_set_self hil] at hj
      injection hj with hj
      exact .inl ⟨rfl, hj.symm⟩
    · rw [List.getElem?_set_ne (fun h => e h.symm)] at hj
      exact .inr ⟨e, hj⟩
  have hap : ∀ x ∈ rows, (valRow x).ownBlock ≠ v.ownBlock := fun x hx => h.apart x hx
  refine ⟨?_, fun x hx => ?_, fun j k rj rk hj hk hjk => ?_, fun x hx => ?_⟩
  · have ho : Own 1 encRow eS w' base v rows := h.out.grown hg (.inr (fun e => hap r hrm e.symm))
    show World.ownsRow _ base eS 1 _ (rows.set i r').length ((rows.set i r').flatMap encRow)
    have e2 : (rows.set i r').flatMap encRow = rows.flatMap encRow := by
      rw [flat_rows, flat_rows, List.map_set, he]
      apply List.ext_getElem?
      intro j
      by_cases e : i = j
      · subst e
        rw [List.getElem?_set_self (by simpa using hil), List.getElem?_map, hi]
        rfl
      · rw [List.getElem?_set_ne e]
    rw [List.length_set, e2]
    exact ho
  · obtain ⟨j, hj⟩ := List.mem_iff_getElem?.1 hx
    rcases hget j x hj with ⟨_, rfl⟩ | ⟨hne, hj'⟩
    · exact ⟨hr, hn⟩
    · exact ⟨(h.inn x (List.mem_of_getElem? hj')).1.grown hg (.inr (h.dis j i x r hj' hi hne)), (h.inn x (List.mem_of_getElem? hj')).2⟩
  · rcases hget j rj hj with ⟨rfl, rfl⟩ | ⟨hne, hj'⟩
    · rcases hget k rk hk with ⟨rfl, rfl⟩ | ⟨hne2, hk'⟩
      · exact absurd rfl hjk
      · rw [he]; exact h.dis j k r rk hi hk' hjk
    · rcases hget k rk hk with ⟨rfl, rfl⟩ | ⟨hne2, hk'⟩
      · rw [he]; exact h.dis j k rj r hj' hi hjk
      · exact h.dis j k rj rk hj' hk' hjk
  · obtain ⟨j, hj⟩ := List.mem_iff_getElem?.1 hx
    rcases hget j x hj with ⟨_, rfl⟩ | ⟨_, hj'⟩
    · rw [he]; exact hap r hrm
    · exact hap x (List.mem_of_getElem? hj')
theorem GrpAt.rows1 {eS eI : TypeId} {w : World} {base n : Nat} {v : Value} {rows : List IRow} (h : GrpAt eS eI w base v rows) (hn : rows.length = n) : ∃ A c, v = .slice A n c ∧ RowsAt w base w.heap.size A n c rows := by
  subst hn
  exact h.rowsAt
theorem GrpAt.rows2 {eS eI : TypeId} {w : World} {base n c : Nat} {A : Option Addr} {rows : List IRow} (h : GrpAt eS eI w base (.slice A n c) rows) (hn : rows.length = n) : RowsAt w base w.heap.size A n c rows := by
  obtain ⟨A', c', e, hr⟩ := h.rows1 hn
  injection e with e1 _ e3
  subst e1 e3
  exact hr
theorem GrpAt.mkb {eS eI : TypeId} {w w' : World} {base lo hi : Nat} {v : Value} {rows : List IRow} (hm : MkB lo hi w w') (h : GrpAt eS eI w base v rows) (hd : hi ≤ base) : GrpAt eS eI w' base v rows :=
  ⟨hm.own h.out hd, fun r hr => ⟨hm.own (h.inn r hr).1 hd, (h.inn r hr).2⟩, h.dis, h.apart⟩
theorem RowsAt.mkb {w w' : World} {lo hi l h' : Nat} {A : Option Addr} {n c : Nat} {rows : List IRow} (hm : MkB lo hi w w') (h : RowsAt w l h' A n c rows) (hd : h' ≤ lo ∨ hi ≤ l) : RowsAt w' l h' A n c rows :=
  ⟨hm.slk h.out hd, fun x hx => hm.slk (h.inn x hx) hd⟩
set_option maxRecDepth 20000 in
set_option maxHeartbeats 2000000 in
theorem markIntSS_own (k0 : Int) (base : Nat) (v : Value) (rows : List IRow) (w : World) (h : GrpAt 56 3 w base v rows) (hn : totX rows ≤ 1048576) (hk : 0 ≤ k0) (hk2 : k0 + totX rows ≤ 1048576) :
    Calls Try.prog 49 #[v, .int .i64 k0] w fun e w' => e = .returned (.int .i64 (k0 + totX rows)) ∧ GrpAt 56 3 w' base v (markRows k0 rows) ∧ Below base w w' := by
  obtain ⟨n, hnn⟩ : ∃ n, rows.length = n := ⟨_, rfl⟩
  have HN := hide hnn
  obtain ⟨A, c, rfl, hra⟩ := h.rowsAt
  have hcap := hra.out.cap
  have hmax := hra.out.max
  rw [hnn] at h hcap ⊢
  have H0 := hide h
  have hbw : base ≤ w.heap.size ∨ n = 0 := by
    rcases Nat.eq_zero_or_pos n with h0 | h0
    · exact .inr h0
    · obtain ⟨g, cap, _, h1, h2⟩ := own_at0 h.out hnn h0
      exact .inl (by omega)
  clear h hra hnn
  go_enter Try.func49, Try.ntmps49
  go_wp2
  go_loopw [1, 5] (fun k i wr => ∃ j : Nat, j ≤ n ∧ i = .int .i64 j ∧ k = .int .i64 (k0 + totX (rows.take j)) ∧ GrpAt 56 3 wr base (.slice A n c) (markTo k0 rows j) ∧ Below base w wr) (fun _ i _ => n - (intOf i).toNat)
  case atStart => exact ⟨0, Nat.zero_le _, rfl, by simp [totX], by rw [markTo_zero]; exact H0.out, Below.refl _ _⟩
  case round =>
    clear H0
    obtain ⟨j, hj, rfl, rfl, hG, hb⟩ := hrel
    have HG := hide hG
    have HB := hide hb
    have hsz := hb.size
    clear hG hb
    by_cases hlt : j < n
    · obtain ⟨r, hr⟩ : ∃ r, rows[j]? = some r := ⟨_, List.getElem?_eq_getElem (by rw [HN.out]; exact hlt)⟩
      have hrm := markTo_at (k0 := k0) hr
      have hlen : (markTo k0 rows j).length = n := by unfold markTo; rw [List.length_append, markRows_len, List.length_take, List.length_drop, HN.out]; omega
      obtain ⟨A', c', e0, hra⟩ := HG.out.rowsAt
      rw [hlen] at e0 hra
      injection e0 with e0 e1 e2
      subst e0 e2
      obtain ⟨b9, o9, r', hr', rfl, _, _, d0, _⟩ := hra.out.row hlt
      obtain rfl : r' = r := by rw [hrm] at hr'; exact (Option.some.inj hr').symm
      obtain ⟨hri, hrn⟩ := HG.out.inn _ (List.mem_of_getElem? hrm)
      have htl := totX_le hr
      have HR := hide hr
      have HRM := hide hrm
      have HRI := hide hri
      have HRN := hide hrn
      obtain ⟨K, hK⟩ : ∃ K, k0 + (totX (rows.take j) : Int) = K := ⟨_, rfl⟩
      have HK := hide hK
      have hK0 : 0 ≤ K := by omega
      have hK1 : K ≤ 1048576 := by omega
      rw [hK]
      have hlr : r'.xs.length ≤ 1048576 := by omega
      have i0 : (0 : Int) ≤ (j : Int) := by omega
      have i1 : (j : Int) < (n : Int) := by omega
      have HC := hide (markIntS_own K base (valRow r') r'.xs wr hri hlr hK0 hK1)
      clear hr hrm hra hr' hri hrn hK hlen
      go_wp2_with (go_at_call 48; refine HC.out.mono ?_; rintro e w1 ⟨rfl, ho1, hg1⟩)
      have HO1 := hide ho1
      have HG1 := hide hg1
      clear ho1 hg1
      go_roundw
      case rel =>
        refine ⟨j + 1, by omega, by go_num, ?_, ?_, ?_⟩
        · have := HK.out
          rw [totX_take HR.out]
          congr 1
          omega
        · have := GrpAt.swap (r' := ⟨r'.A, r'.n, r'.c, marks K r'.xs.length⟩) HG.out HRM.out rfl HO1.out (by rw [marks_len]; exact HRN.out) HG1.out
          rw [← HK.out, markTo_set HR.out] at this
          exact this
        · have hb0 : base ≤ w.heap.size := by rcases hbw with h | h <;> omega
          exact HB.out.grown HG1.out (by omega) (fun z hz => (HRI.out.lt z hz).1)
      case measure => first | omega | (simp [intOf]; done) | (simp [intOf]; omega)
    · obtain rfl : j = n := by omega
      clear hlt
      have HE := hide (show markTo k0 rows j = markRows k0 rows from markTo_all _ _ _ (by rw [HN.out]; exact Nat.le_refl _))
      have HT := hide (show rows.take j = rows from List.take_of_length_le (by rw [HN.out]; exact Nat.le_refl _))
      rw [HT.out]
      go_wp2
      go_ret
      exact ⟨rfl, by rw [← HE.out]; exact HG.out, HB.out⟩
set_option maxRecDepth 20000 in
set_option maxHeartbeats 2000000 in
theorem heldIntSS_any (k0 : Int) (base : Nat) (v : Value) (rows : List IRow) (w : World) (h : GrpAt 56 3 w base v (markRows k0 rows)) (hk : 0 ≤ k0) (hk2 : k0 + totX rows ≤ 1048576) :
    Calls Try.prog 50 #[v, .int .i64 k0] w fun e w' => e = .returned (.int .i64 (k0 + totX rows)) ∧ w = w' := by
  obtain ⟨n, hnn⟩ : ∃ n, rows.length = n := ⟨_, rfl⟩
  have HN := hide hnn
  obtain ⟨A, c, rfl, hra⟩ := h.rowsAt
  rw [markRows_len, hnn] at hra ⊢
  have hcap := hra.out.cap
  have hmax := hra.out.max
  have HRA := hide hra
  have HIN := hide (fun r hr => (h.inn r hr).1)
  clear h hra hnn
  go_enter Try.func50, Try.ntmps50
  go_wp2
  go_loop [1, 5] (fun k i => ∃ j : Nat, j ≤ n ∧ i = .int .i64 j ∧ k = .int .i64 (k0 + totX (rows.take j))) (fun _ i => n - (intOf i).toNat)
  case atStart => exact ⟨0, Nat.zero_le _, rfl, by simp [totX]⟩
  case round =>
    obtain ⟨j, hj, rfl, rfl⟩ := hrel
    by_cases hlt : j < n
    · obtain ⟨r, hr⟩ : ∃ r, rows[j]? = some r := ⟨_, List.getElem?_eq_getElem (by rw [HN.out]; exact hlt)⟩
      have hrm := markRows_at rows k0 j r hr
      obtain ⟨b9, o9, r', hr', rfl, _, _, d0, _⟩ := HRA.out.out.row hlt
      obtain rfl := Option.some.inj (hrm.symm.trans hr')
      have hs := HRA.out.inn _ (List.mem_of_getElem? hr')
      have hl := hs.len
      simp only at hl hs d0
      rw [marks_len] at hl
      have htl := totX_le hr
      have HR := hide hr
      obtain ⟨K, hK⟩ : ∃ K, k0 + (totX (rows.take j) : Int) = K := ⟨_, rfl⟩
      have HK := hide hK
      have hK0 : 0 ≤ K := by omega
      have hK1 : K ≤ 1048576 := by omega
      rw [hK] at hs ⊢
      rw [hl] at hs htl
      have HC := hide (heldIntS_any K _ _ r.A r.n r.c w hs (by omega) hK0 hK1)
      have HL := hide hl
      have hng : ¬ (K + (r.n : Int) < 0) := by omega
      have i0 : (0 : Int) ≤ (j : Int) := by omega
      have i1 : (j : Int) < (n : Int) := by omega
      clear hr hrm hr' hs hl hK
      go_wp2_with (go_at_call 86; refine HC.out.mono ?_; rintro e w1 ⟨rfl, rfl⟩)
      go_round
      case rel =>
        refine ⟨j + 1, by omega, by go_num, ?_⟩
        have := HK.out
        have h2 := HL.out
        rw [totX_take HR.out]
        congr 1
        omega
      case measure => first | omega | (simp [intOf]; done) | (simp [intOf]; omega)
    · obtain rfl : j = n := by omega
      clear hlt
      have HT := hide (show rows.take j = rows from List.take_of_length_le (by rw [HN.out]; exact Nat.le_refl _))
      rw [HT.out]
      go_wp2
      go_ret
      exact ⟨rfl, rfl⟩
end Go.Proofs.Ytojmkkcjjlppiaa
