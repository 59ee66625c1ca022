/- Fits, the program's and the reference's; the reference's l5Sides. -/
import Derived.Test.YtcjcmdikopipjaaSrt
import Derived.Test.YtcjcmdikopipjaaMrg
import Derived.Test.YtcjcmdikopipjaaC1
import Derived.Deep.RegionHeld3
namespace Go.Proofs.Ytcjcmdikopipjaa
open Go.ChangeShapes Go.WideShapes Go.ChangeAt Go.RowKit Go.Deep
set_option linter.unusedVariables false
set_option linter.unusedSimpArgs false

/-- The item fits the carton, whichever way it is turned. -/
def fitsB (x : It) (t : Ty) : Bool := decide (lo3 x.w x.h x.d ≤ lo3 t.w t.h t.d) && decide (mid3 x.w x.h x.d ≤ mid3 t.w t.h t.d) && decide (hi3 x.w x.h x.d ≤ hi3 t.w t.h t.d) && decide (x.gram ≤ t.gram)
theorem own_at {w : World} {base g : Nat} (hg : g = w.heap.size) (hb : base ≤ w.heap.size) (xs : List Int) (n : Nat) (cs : Array Value) (T : TypeId) (hn : xs.length = n) (hm : n ≤ maxLen) (hcs : cs = (xs.map (Value.int .i64)).toArray) :
    Own 1 encInt T (w.alloc (.cells cs T)) base (.slice (some ⟨g, 0, none⟩) n n) xs := by
  subst hg
  exact own_lit hb xs n cs T hn hm hcs
theorem slk_at {w : World} {g : Nat} (hg : g = w.heap.size) (xs : List Int) (n : Nat) (cs : Array Value) (T : TypeId) (hn : xs.length = n) (hm : n ≤ maxLen) (hcs : cs = (xs.map (Value.int .i64)).toArray) :
    SlK 1 encInt (w.alloc (.cells cs T)) g (g + 1) (some ⟨g, 0, none⟩) n n xs := by
  subst hg
  exact slk_new encInt_len w xs n cs T hn hm (by rw [ints_flat]; exact hcs)
theorem idx3 {a b c : Int} : ∃ i j k : Int, sortBy [a, b, c] false (rng 3) = [i, j, k] ∧ (0 ≤ i ∧ i < 3) ∧ (0 ≤ j ∧ j < 3) ∧ (0 ≤ k ∧ k < 3) ∧ keyAt [a, b, c] i = lo3 a b c ∧ keyAt [a, b, c] j = mid3 a b c ∧ keyAt [a, b, c] k = hi3 a b c := by
  have hk := keys_sorted [a, b, c]
  rw [sort3] at hk
  have hl : (sortBy [a, b, c] false (rng 3)).length = 3 := by rw [sortBy_len, rng_len]
  have hm : ∀ x ∈ sortBy [a, b, c] false (rng 3), 0 ≤ x ∧ x < 3 := fun x hx => mem_rng.1 ((sortBy_perm _ _ _).mem_iff.1 hx)
  change (sortBy [a, b, c] false (rng 3)).map (keyAt [a, b, c]) = _ at hk
  match h : sortBy [a, b, c] false (rng 3), hl with
  | [i, j, k], _ =>
    rw [h] at hk hm
    simp only [List.map_cons, List.map_nil, List.cons.injEq, and_true] at hk
    exact ⟨i, j, k, rfl, hm i (by simp), hm j (by simp), hm k (by simp), hk.1, hk.2.1, hk.2.2⟩
set_option maxRecDepth 20000 in
set_option maxHeartbeats 1000000 in
theorem sides_any (a b c : Int) (w : World) : Calls Try.prog 85 #[.int .i64 a, .int .i64 b, .int .i64 c] w fun e w' => ∃ A, e = .returned (.slice A 3 3) ∧ SlK 1 encInt w' w.heap.size w'.heap.size A 3 3 [lo3 a b c, mid3 a b c, hi3 a b c] ∧ Below w.heap.size w w' := by
  go_enter Try.func85, Try.ntmps85
  go_wp2_with fail
  refine (ssortUp_any [a, b, c] w.heap.size (w.heap.size + 1) (some ⟨w.heap.size, 0, none⟩) 3 3 _ (slk_at rfl [a, b, c] 3 _ _ rfl (by simp [maxLen]) rfl) (by simp) (by omega)).mono ?_
  rintro e w1 ⟨v1, rfl, ho1, hb1⟩
  obtain ⟨i, j, k, hidx, ⟨i0, i1⟩, ⟨j0, j1⟩, ⟨k0, k1⟩, e0, e1, e2⟩ := idx3 (a := a) (b := b) (c := c)
  rw [hidx] at ho1
  obtain ⟨A1, c1, rfl, s1⟩ := Own.slk' encInt_len (n := 3) rfl ho1
  have hL := slk_at (w := w) rfl [a, b, c] 3 #[.int .i64 a, .int .i64 b, .int .i64 c] 3 rfl (by simp [maxLen]) rfl
  have hL1 := hL.below hb1 (by simp)
  obtain ⟨bi, oi, x0, hx0, rfl, lbi, hbi, g0, _⟩ := s1.int (i := 0) (by omega)
  obtain ⟨_, _, x1, hx1, q1, _, _, g1, _⟩ := s1.int (i := 1) (by omega)
  obtain ⟨_, _, x2, hx2, q2, _, _, g2, _⟩ := s1.int (i := 2) (by omega)
  simp only [Option.some.injEq, Addr.mk.injEq, and_true] at q1 q2
  obtain ⟨rfl, rfl⟩ := q1
  obtain ⟨rfl, rfl⟩ := q2
  simp only [List.getElem?_cons_zero, List.getElem?_cons_succ, Option.some.injEq] at hx0 hx1 hx2
  subst hx0 hx1 hx2
  have hkey : ∀ z : Int, 0 ≤ z → z < 3 → w1.cell? ⟨w.heap.size, z.toNat, none⟩ = some (.int .i64 (keyAt [a, b, c] z)) := fun z z0 z1 => by
    obtain ⟨b', o', x, hx, q, _, _, g, _⟩ := hL1.int (i := z.toNat) (by omega)
    simp only [Option.some.injEq, Addr.mk.injEq, and_true] at q
    obtain ⟨rfl, rfl⟩ := q
    rw [Nat.zero_add] at g
    rw [g]
    simp [keyAt, List.getD, hx]
  have y0 := hkey i i0 i1
  have y1 := hkey j j0 j1
  have y2 := hkey k k0 k1
  rw [e0] at y0
  rw [e1] at y1
  rw [e2] at y2
  have hc1 := s1.cap
  have hmx := s1.max
  have L1 := hide (show Below w.heap.size w w1 from (by repeat (first | with_reducible exact Below.refl _ _ | with_reducible assumption | with_reducible refine Below.setCell ?_ (by (try simp) <;> omega) _ | with_reducible refine Below.alloc ?_ (by (try simp) <;> omega) _ | with_reducible refine Below.drew ?_ | with_reducible refine below_drewN ?_ _ | with_reducible exact hb1 | with_reducible refine Below.trans ?_ (Below.mono hb1 (by (try simp) <;> omega)))))
  have z1 : w.heap.size + 1 ≤ w1.heap.size := by simpa using hb1.size
  clear hkey e0 e1 e2 hidx ho1 s1 hL hL1 hb1
  obtain ⟨m0, hm0⟩ : ∃ m, lo3 a b c = m := ⟨_, rfl⟩
  obtain ⟨m1, hm1⟩ : ∃ m, mid3 a b c = m := ⟨_, rfl⟩
  obtain ⟨m2, hm2⟩ : ∃ m, hi3 a b c = m := ⟨_, rfl⟩
  rw [hm0] at y0
  rw [hm1] at y1
  rw [hm2] at y2
  have HM0 := hide hm0
  have HM1 := hide hm1
  have HM2 := hide hm2
  clear hm0 hm1 hm2
  simp only [Nat.add_zero] at g0
  have i2 : i.toNat < 3 := by omega
  have j2 : j.toNat < 3 := by omega
  have k2 : k.toNat < 3 := by omega
  go_wp2_with fail
  go_region_held3 (fun w' => w'.cell? ⟨bi, oi, none⟩ = some (.int .i64 i) ∧ w'.cell? ⟨bi, oi + 1, none⟩ = some (.int .i64 j) ∧ w'.cell? ⟨bi, oi + 2, none⟩ = some (.int .i64 k) ∧ w'.cell? ⟨w.heap.size, i.toNat, none⟩ = some (.int .i64 m0) ∧ w'.cell? ⟨w.heap.size, j.toNat, none⟩ = some (.int .i64 m1) ∧ w'.cell? ⟨w.heap.size, k.toNat, none⟩ = some (.int .i64 m2)) (go_keep) (fail)
  go_wp2
  go_ret
  refine ⟨_, rfl, ?_, (by repeat (first | with_reducible exact Below.refl _ _ | with_reducible assumption | with_reducible refine Below.setCell ?_ (by (try simp) <;> omega) _ | with_reducible refine Below.alloc ?_ (by (try simp) <;> omega) _ | with_reducible refine Below.drew ?_ | with_reducible refine below_drewN ?_ _ | with_reducible exact L1.out | with_reducible refine Below.trans ?_ (Below.mono L1.out (by (try simp) <;> omega))))⟩
  rw [HM0.out, HM1.out, HM2.out]
  exact ((slk_at rfl [m0, m1, m2] 3 _ _ rfl (by simp [maxLen]) rfl).drew).more (by omega) (by simp)
/-- Three numbers of a slice, cell by cell. -/
theorem cells3 {w : World} {lo hi : Nat} {A : Option Addr} {c : Nat} {a b d : Int} (h : SlK 1 encInt w lo hi A 3 c [a, b, d]) :
    ∃ g o, A = some ⟨g, o, none⟩ ∧ lo ≤ g ∧ g < hi ∧ w.cell? ⟨g, o, none⟩ = some (.int .i64 a) ∧ w.cell? ⟨g, o + 1, none⟩ = some (.int .i64 b) ∧ w.cell? ⟨g, o + 2, none⟩ = some (.int .i64 d) := by
  obtain ⟨bi, oi, x0, hx0, rfl, lbi, hbi, g0, _⟩ := h.int (i := 0) (by omega)
  obtain ⟨_, _, x1, hx1, q1, _, _, g1, _⟩ := h.int (i := 1) (by omega)
  obtain ⟨_, _, x2, hx2, q2, _, _, g2, _⟩ := h.int (i := 2) (by omega)
  simp only [Option.some.injEq, Addr.mk.injEq, and_true] at q1 q2
  obtain ⟨rfl, rfl⟩ := q1
  obtain ⟨rfl, rfl⟩ := q2
  simp only [List.getElem?_cons_zero, List.getElem?_cons_succ, Option.some.injEq] at hx0 hx1 hx2
  subst hx0 hx1 hx2
  exact ⟨bi, oi, rfl, lbi, hbi, by simpa using g0, g1, g2⟩
set_option maxRecDepth 20000 in
set_option maxHeartbeats 4000000 in
theorem sfits_any (x : It) (t : Ty) (w : World) : Calls Try.prog 64 #[.agg #[.int .i64 x.id, .int .i64 x.w, .int .i64 x.h, .int .i64 x.d, .int .i64 x.gram, .int .i64 x.cls, .int .i64 x.cnt], .agg #[.int .i64 t.id, .int .i64 t.w, .int .i64 t.h, .int .i64 t.d, .int .i64 t.tare, .int .i64 t.gram, .int .i64 t.cost]] w fun e w' => e = .returned (.bool (fitsB x t)) ∧ Below w.heap.size w w' := by
  have HF := hide (show fitsB x t = (decide (lo3 x.w x.h x.d ≤ lo3 t.w t.h t.d) && decide (mid3 x.w x.h x.d ≤ mid3 t.w t.h t.d) && decide (hi3 x.w x.h x.d ≤ hi3 t.w t.h t.d) && decide (x.gram ≤ t.gram)) from rfl)
  go_enter Try.func64, Try.ntmps64
  go_wp2_with fail
  refine (sides_any x.w x.h x.d _).mono ?_
  rintro e w1 ⟨A1, rfl, s1, hb1⟩
  have PT := hide (Blk.belowH (Blk.new (w.alloc _) 73 (#[.int .i64 t.id, .int .i64 t.w, .int .i64 t.h, .int .i64 t.d, .int .i64 t.tare, .int .i64 t.gram, .int .i64 t.cost]) (g := w.heap.size + 1) (by simp)) hb1)
  have PX := hide (Blk.belowH ((Blk.new w 98 (#[.int .i64 x.id, .int .i64 x.w, .int .i64 x.h, .int .i64 x.d, .int .i64 x.gram, .int .i64 x.cls, .int .i64 x.cnt]) (g := w.heap.size) rfl).alloc _) hb1)
  have L1 := hide (show Below w.heap.size w w1 from (by repeat (first | with_reducible exact Below.refl _ _ | with_reducible assumption | with_reducible refine Below.setCell ?_ (by (try simp) <;> omega) _ | with_reducible refine Below.alloc ?_ (by (try simp) <;> omega) _ | with_reducible refine Below.drew ?_ | with_reducible refine below_drewN ?_ _ | with_reducible exact hb1 | with_reducible refine Below.trans ?_ (Below.mono hb1 (by (try simp) <;> omega)))))
  have z1 : w.heap.size + 1 + 1 ≤ w1.heap.size := by simpa using hb1.size
  have S1 := hide (s1.more (Nat.zero_le _) (Nat.le_refl _))
  clear hb1 s1
  have kT := PT.out.cell
  have yT := PT.out.lt
  go_wp2_with fail
  refine (sides_any t.w t.h t.d _).mono ?_
  rintro e w2 ⟨A2, rfl, s2, hb2⟩
  have PT2 := hide (Blk.belowH PT.out hb2)
  have PX2 := hide (Blk.belowH PX.out hb2)
  have z2 := hb2.size
  have L2 := hide (L1.out.trans (hb2.mono (by omega)))
  obtain ⟨g1, o1, rfl, _, y1, a0, a1, a2⟩ := cells3 (S1.out.below hb2 (Nat.le_refl _))
  obtain ⟨g2, o2, rfl, _, y2, b0, b1, b2⟩ := cells3 s2
  clear hb2 s2 PT PX L1 kT yT
  have kT := PT2.out.cell
  have kX := PX2.out.cell
  have yT := PT2.out.lt
  have yX := PX2.out.lt
  generalize lo3 x.w x.h x.d = m0 at *
  generalize mid3 x.w x.h x.d = m1 at *
  generalize hi3 x.w x.h x.d = m2 at *
  generalize lo3 t.w t.h t.d = n0 at *
  generalize mid3 t.w t.h t.d = n1 at *
  generalize hi3 t.w t.h t.d = n2 at *
  by_cases c0 : m0 ≤ n0
  case neg =>
    have d0 : decide (m0 ≤ n0) = false := by simpa using c0
    go_wp2_with fail
    go_quiet (fail)
    go_wp2
    go_ret
    exact ⟨ret_bool (by rw [HF.out, d0]; simp), below_drewN L2.out _⟩
  have d0 : decide (m0 ≤ n0) = true := by simpa using c0
  by_cases c1 : m1 ≤ n1
  case neg =>
    have d1 : decide (m1 ≤ n1) = false := by simpa using c1
    go_wp2_with fail
    go_quiet (fail)
    go_wp2
    go_ret
    exact ⟨ret_bool (by rw [HF.out, d1]; simp), below_drewN L2.out _⟩
  have d1 : decide (m1 ≤ n1) = true := by simpa using c1
  by_cases c2 : m2 ≤ n2
  case neg =>
    have d2 : decide (m2 ≤ n2) = false := by simpa using c2
    go_wp2_with fail
    go_quiet (fail)
    go_wp2
    go_ret
    exact ⟨ret_bool (by rw [HF.out, d2]; simp), below_drewN L2.out _⟩
  have d2 : decide (m2 ≤ n2) = true := by simpa using c2
  go_wp2_with fail
  go_quiet (fail)
  go_wp2
  go_ret
  exact ⟨ret_bool (by rw [HF.out, d0, d1, d2]; simp), below_drewN L2.out _⟩
set_option maxRecDepth 20000 in
set_option maxHeartbeats 8000000 in
theorem fits_any (x : It) (t : Ty) (w : World) : Calls Try.prog 92 #[.agg #[.int .i64 x.id, .int .i64 x.w, .int .i64 x.h, .int .i64 x.d, .int .i64 x.gram, .int .i64 x.cls, .int .i64 x.cnt], .agg #[.int .i64 t.id, .int .i64 t.w, .int .i64 t.h, .int .i64 t.d, .int .i64 t.tare, .int .i64 t.gram, .int .i64 t.cost]] w fun e w' => e = .returned (.bool (fitsB x t)) ∧ Below w.heap.size w w' := by
  have HF := hide (show fitsB x t = (decide (lo3 x.w x.h x.d ≤ lo3 t.w t.h t.d) && decide (mid3 x.w x.h x.d ≤ mid3 t.w t.h t.d) && decide (hi3 x.w x.h x.d ≤ hi3 t.w t.h t.d) && decide (x.gram ≤ t.gram)) from rfl)
  go_enter Try.func92, Try.ntmps92
  go_wp2_with fail
  go_region_held3 (fun w' => w'.cell? ⟨w.heap.size, 1, none⟩ = some (.int .i64 x.w) ∧ w'.cell? ⟨w.heap.size, 2, none⟩ = some (.int .i64 x.h) ∧ w'.cell? ⟨w.heap.size, 3, none⟩ = some (.int .i64 x.d) ∧ w'.cell? ⟨w.heap.size + 1, 1, none⟩ = some (.int .i64 t.w) ∧ w'.cell? ⟨w.heap.size + 1, 2, none⟩ = some (.int .i64 t.h) ∧ w'.cell? ⟨w.heap.size + 1, 3, none⟩ = some (.int .i64 t.d)) (go_keep) (fail)
  · go_wp2_with fail
    refine (sort_own w.heap.size (.slice (some ⟨w.heap.size + 1 + 1, 0, none⟩) 3 3) [x.w, x.h, x.d] _ ?oa (by simp)).mono ?_
    case oa => exact (own_at (by simp) (by simp; omega) [x.w, x.h, x.d] 3 _ _ rfl (by simp [maxLen]) rfl).alloc _
    rintro e w1 ⟨rfl, oa1, ga1⟩
    have gA : World.grownBy _ w1 (some (w.heap.size + 1 + 1)) := ga1
    clear ga1
    have ob1 : Own 1 encInt 3 w1 w.heap.size (.slice (some ⟨w.heap.size + 1 + 1 + 1, 0, none⟩) 3 3) [t.w, t.h, t.d] := by
      refine Own.grown ?_ gA (.inr (by simp [Value.ownBlock]))
      exact ((own_at (by simp) (by simp; omega) [t.w, t.h, t.d] 3 _ _ rfl (by simp [maxLen]) rfl)).drew
    have OB1 := hide ob1
    clear ob1
    have px1 : Blk w1 w.heap.size 98 #[.int .i64 x.id, .int .i64 x.w, .int .i64 x.h, .int .i64 x.d, .int .i64 x.gram, .int .i64 x.cls, .int .i64 x.cnt] := by
      refine Blk.grown ?_ gA (by simp <;> omega)
      exact ((((Blk.new w _ _ rfl).alloc _).alloc _).alloc _).drew
    have pt1 : Blk w1 (w.heap.size + 1) 73 #[.int .i64 t.id, .int .i64 t.w, .int .i64 t.h, .int .i64 t.d, .int .i64 t.tare, .int .i64 t.gram, .int .i64 t.cost] := by
      refine Blk.grown ?_ gA (by simp <;> omega)
      exact (((Blk.new (w.alloc _) _ _ (by simp)).alloc _).alloc _).drew
    have PX1 := hide px1
    have PT1 := hide pt1
    clear px1 pt1
    have L1 := hide (Below.grown (B := w.heap.size) (a := w) (by repeat (first | with_reducible exact Below.refl _ _ | with_reducible assumption | with_reducible refine Below.setCell ?_ (by (try simp) <;> omega) _ | with_reducible refine Below.alloc ?_ (by (try simp) <;> omega) _ | with_reducible refine Below.drew ?_ | with_reducible refine below_drewN ?_ _)) gA (by simp; omega) (fun k hk => by injection hk with hk; omega))
    have z1 : w.heap.size + 1 + 1 + 1 + 1 ≤ w1.heap.size := by simpa using gA.size
    have OA1 := hide oa1
    clear oa1 gA
    go_wp2_with fail
    refine (sort_own w.heap.size (.slice (some ⟨w.heap.size + 1 + 1 + 1, 0, none⟩) 3 3) [t.w, t.h, t.d] _ OB1.out (by simp)).mono ?_
    rintro e w2 ⟨rfl, ob2, gb2⟩
    have gB : World.grownBy _ w2 (some (w.heap.size + 1 + 1 + 1)) := gb2
    clear gb2
    have oa2 := OA1.out.grown gB (.inr (by simp [Value.ownBlock]))
    have PX2 := hide (PX1.out.grown gB (by simp <;> omega))
    have PT2 := hide (PT1.out.grown gB (by simp <;> omega))
    have L2 := hide (L1.out.grown gB (by omega) (fun k hk => by injection hk with hk; omega))
    rw [sort3] at oa2 ob2
    obtain ⟨_, _, qa, sa⟩ := Own.slk' encInt_len (n := 3) rfl oa2
    obtain ⟨_, _, qb, sb⟩ := Own.slk' encInt_len (n := 3) rfl ob2
    injection qa with qa1 qa2 qa3
    injection qb with qb1 qb2 qb3
    subst qa1 qa3 qb1 qb3
    obtain ⟨g1, o1, q1, _, y1, a0, a1, a2⟩ := cells3 sa
    obtain ⟨g2, o2, q2, _, y2, b0, b1, b2⟩ := cells3 sb
    simp only [Option.some.injEq, Addr.mk.injEq, and_true] at q1 q2
    obtain ⟨rfl, rfl⟩ := q1
    obtain ⟨rfl, rfl⟩ := q2
    simp only [Nat.zero_add] at a1 a2 b1 b2
    have kX := PX2.out.cell
    have kT := PT2.out.cell
    have yX := PX2.out.lt
    have yT := PT2.out.lt
    clear sa sb oa2 ob2 gB OA1 OB1 PX1 PT1 L1
    generalize lo3 x.w x.h x.d = m0 at *
    generalize mid3 x.w x.h x.d = m1 at *
    generalize hi3 x.w x.h x.d = m2 at *
    generalize lo3 t.w t.h t.d = n0 at *
    generalize mid3 t.w t.h t.d = n1 at *
    generalize hi3 t.w t.h t.d = n2 at *
    by_cases c0 : m0 ≤ n0
    case neg =>
      have d0 : decide (m0 ≤ n0) = false := by simpa using c0
      go_wp2_with fail
      go_quiet (fail)
      go_wp2
      go_ret
      exact ⟨ret_bool (by rw [HF.out, d0]; simp), below_drewN L2.out _⟩
    have d0 : decide (m0 ≤ n0) = true := by simpa using c0
    by_cases c1 : m1 ≤ n1
    case neg =>
      have d1 : decide (m1 ≤ n1) = false := by simpa using c1
      go_wp2_with fail
      go_quiet (fail)
      go_wp2
      go_ret
      exact ⟨ret_bool (by rw [HF.out, d1]; simp), below_drewN L2.out _⟩
    have d1 : decide (m1 ≤ n1) = true := by simpa using c1
    by_cases c2 : m2 ≤ n2
    case neg =>
      have d2 : decide (m2 ≤ n2) = false := by simpa using c2
      go_wp2_with fail
      go_quiet (fail)
      go_wp2
      go_ret
      exact ⟨ret_bool (by rw [HF.out, d2]; simp), below_drewN L2.out _⟩
    have d2 : decide (m2 ≤ n2) = true := by simpa using c2
    go_wp2_with fail
    go_quiet (fail)
    go_wp2
    go_ret
    exact ⟨ret_bool (by rw [HF.out, d0, d1, d2]; simp), below_drewN L2.out _⟩
  · go_wp2_with fail
    refine (sort_own w.heap.size (.slice (some ⟨w.heap.size + 1 + 1 + 1, 0, none⟩) 3 3) [x.w, x.h, x.d] _ ?oa (by simp)).mono ?_
    case oa => exact (own_at (by simp) (by simp; omega) [x.w, x.h, x.d] 3 _ _ rfl (by simp [maxLen]) rfl)
    rintro e w1 ⟨rfl, oa1, ga1⟩
    have gA : World.grownBy _ w1 (some (w.heap.size + 1 + 1 + 1)) := ga1
    clear ga1
    have ob1 : Own 1 encInt 3 w1 w.heap.size (.slice (some ⟨w.heap.size + 1 + 1, 0, none⟩) 3 3) [t.w, t.h, t.d] := by
      refine Own.grown ?_ gA (.inr (by simp [Value.ownBlock]))
      exact ((own_at (by simp) (by simp; omega) [t.w, t.h, t.d] 3 _ _ rfl (by simp [maxLen]) rfl).alloc _).drew
    have OB1 := hide ob1
    clear ob1
    have px1 : Blk w1 w.heap.size 98 #[.int .i64 x.id, .int .i64 x.w, .int .i64 x.h, .int .i64 x.d, .int .i64 x.gram, .int .i64 x.cls, .int .i64 x.cnt] := by
      refine Blk.grown ?_ gA (by simp <;> omega)
      exact ((((Blk.new w _ _ rfl).alloc _).alloc _).alloc _).drew
    have pt1 : Blk w1 (w.heap.size + 1) 73 #[.int .i64 t.id, .int .i64 t.w, .int .i64 t.h, .int .i64 t.d, .int .i64 t.tare, .int .i64 t.gram, .int .i64 t.cost] := by
      refine Blk.grown ?_ gA (by simp <;> omega)
      exact (((Blk.new (w.alloc _) _ _ (by simp)).alloc _).alloc _).drew
    have PX1 := hide px1
    have PT1 := hide pt1
    clear px1 pt1
    have L1 := hide (Below.grown (B := w.heap.size) (a := w) (by repeat (first | with_reducible exact Below.refl _ _ | with_reducible assumption | with_reducible refine Below.setCell ?_ (by (try simp) <;> omega) _ | with_reducible refine Below.alloc ?_ (by (try simp) <;> omega) _ | with_reducible refine Below.drew ?_ | with_reducible refine below_drewN ?_ _)) gA (by simp; omega) (fun k hk => by injection hk with hk; omega))
    have z1 : w.heap.size + 1 + 1 + 1 + 1 ≤ w1.heap.size := by simpa using gA.size
    have OA1 := hide oa1
    clear oa1 gA
    go_wp2_with fail
    refine (sort_own w.heap.size (.slice (some ⟨w.heap.size + 1 + 1, 0, none⟩) 3 3) [t.w, t.h, t.d] _ OB1.out (by simp)).mono ?_
    rintro e w2 ⟨rfl, ob2, gb2⟩
    have gB : World.grownBy _ w2 (some (w.heap.size + 1 + 1)) := gb2
    clear gb2
    have oa2 := OA1.out.grown gB (.inr (by simp [Value.ownBlock]))
    have PX2 := hide (PX1.out.grown gB (by simp <;> omega))
    have PT2 := hide (PT1.out.grown gB (by simp <;> omega))
    have L2 := hide (L1.out.grown gB (by omega) (fun k hk => by injection hk with hk; omega))
    rw [sort3] at oa2 ob2
    obtain ⟨_, _, qa, sa⟩ := Own.slk' encInt_len (n := 3) rfl oa2
    obtain ⟨_, _, qb, sb⟩ := Own.slk' encInt_len (n := 3) rfl ob2
    injection qa with qa1 qa2 qa3
    injection qb with qb1 qb2 qb3
    subst qa1 qa3 qb1 qb3
    obtain ⟨g1, o1, q1, _, y1, a0, a1, a2⟩ := cells3 sa
    obtain ⟨g2, o2, q2, _, y2, b0, b1, b2⟩ := cells3 sb
    simp only [Option.some.injEq, Addr.mk.injEq, and_true] at q1 q2
    obtain ⟨rfl, rfl⟩ := q1
    obtain ⟨rfl, rfl⟩ := q2
    simp only [Nat.zero_add] at a1 a2 b1 b2
    have kX := PX2.out.cell
    have kT := PT2.out.cell
    have yX := PX2.out.lt
    have yT := PT2.out.lt
    clear sa sb oa2 ob2 gB OA1 OB1 PX1 PT1 L1
    generalize lo3 x.w x.h x.d = m0 at *
    generalize mid3 x.w x.h x.d = m1 at *
    generalize hi3 x.w x.h x.d = m2 at *
    generalize lo3 t.w t.h t.d = n0 at *
    generalize mid3 t.w t.h t.d = n1 at *
    generalize hi3 t.w t.h t.d = n2 at *
    by_cases c0 : m0 ≤ n0
    case neg =>
      have d0 : decide (m0 ≤ n0) = false := by simpa using c0
      go_wp2_with fail
      go_quiet (fail)
      go_wp2
      go_ret
      exact ⟨ret_bool (by rw [HF.out, d0]; simp), below_drewN L2.out _⟩
    have d0 : decide (m0 ≤ n0) = true := by simpa using c0
    by_cases c1 : m1 ≤ n1
    case neg =>
      have d1 : decide (m1 ≤ n1) = false := by simpa using c1
      go_wp2_with fail
      go_quiet (fail)
      go_wp2
      go_ret
      exact ⟨ret_bool (by rw [HF.out, d1]; simp), below_drewN L2.out _⟩
    have d1 : decide (m1 ≤ n1) = true := by simpa using c1
    by_cases c2 : m2 ≤ n2
    case neg =>
      have d2 : decide (m2 ≤ n2) = false := by simpa using c2
      go_wp2_with fail
      go_quiet (fail)
      go_wp2
      go_ret
      exact ⟨ret_bool (by rw [HF.out, d2]; simp), below_drewN L2.out _⟩
    have d2 : decide (m2 ≤ n2) = true := by simpa using c2
    go_wp2_with fail
    go_quiet (fail)
    go_wp2
    go_ret
    exact ⟨ret_bool (by rw [HF.out, d0, d1, d2]; simp), below_drewN L2.out _⟩
end Go.Proofs.Ytcjcmdikopipjaa
