/- A slice of cartons: how it is opened, copied, compared, counted; CostOf of both. -/
import Derived.Test.YtcjcmdikopipjaaCt
import Derived.Test.YtcjcmdikopipjaaSS
import Derived.Test.YtcjcmdikopipjaaUn1
import Derived.Test.YtcjcmdikopipjaaOpG
namespace Go.Proofs.Ytcjcmdikopipjaa
open Go.ChangeShapes Go.WideShapes Go.ChangeAt Go.RowKit Go.Deep
set_option linter.unusedVariables false
set_option linter.unusedSimpArgs false

/-- A carton in memory, and what its units read as. -/
structure CRow where
  ty : Int
  gr : Int
  A : Option Addr
  n : Nat
  c : Nat
  us : List Int
instance : Inhabited CRow := ⟨⟨0, 0, none, 0, 0, []⟩⟩
def encC (x : CRow) : List Value := [.int .i64 x.ty, .int .i64 x.gr, .slice x.A x.n x.c]
theorem encC_len (x : CRow) : (encC x).length = 3 := rfl
/-- What a carton reads as, without its memory. -/
def ctV (x : CRow) : Int × Int × List Int := (x.ty, x.gr, x.us)
def ctL (rows : List CRow) : List (Int × Int × List Int) := rows.map ctV
def totC : List CRow → Nat
  | [] => 0
  | r :: rs => r.n + totC rs
theorem totC_app : ∀ (rs ss : List CRow), totC (rs ++ ss) = totC rs + totC ss
  | [], ss => by simp [totC]
  | x :: rs, ss => by rw [List.cons_append, totC, totC_app rs ss, totC]; omega
theorem totC_snoc (rs : List CRow) (r : CRow) : totC (rs ++ [r]) = totC rs + r.n := by rw [totC_app]; simp [totC]
theorem totC_le {rs : List CRow} {k : Nat} {x : CRow} (hx : rs[k]? = some x) : totC (rs.take k) + x.n ≤ totC rs := by
  have h1 : totC rs = totC (rs.take (k + 1)) + totC (rs.drop (k + 1)) := by rw [← totC_app, List.take_append_drop]
  rw [h1, take_snoc hx, totC_snoc]
  omega
theorem SlK.ct {w : World} {lo hi : Nat} {A : Option Addr} {n c : Nat} {xs : List CRow} (h : SlK 3 encC w lo hi A n c xs) {i : Nat} (hi' : i < n) :
    ∃ b off x, xs[i]? = some x ∧ A = some ⟨b, off, none⟩ ∧ lo ≤ b ∧ b < hi ∧ w.cell? ⟨b, off + i * 3, none⟩ = some (.int .i64 x.ty) ∧ w.cell? ⟨b, off + i * 3 + 1, none⟩ = some (.int .i64 x.gr) ∧ w.cell? ⟨b, off + i * 3 + 2, none⟩ = some (.slice x.A x.n x.c) ∧
      ∀ j, j < 3 → w.frozen? ⟨b, off + i * 3 + j, none⟩ = false := by
  obtain ⟨b, off, hx, hA, hl, hb, hc⟩ := h.at hi'
  exact ⟨b, off, xs[i], List.getElem?_eq_getElem hx, hA, hl, hb, (hc 0 _ rfl).1, (hc 1 _ rfl).1, (hc 2 _ rfl).1,
    fun j hj => (hc j _ (List.getElem?_eq_getElem (show j < (encC xs[i]).length from hj))).2⟩
structure CtsAt (w : World) (lo hi : Nat) (A : Option Addr) (n c : Nat) (rows : List CRow) : Prop where
  out : SlK 3 encC w lo hi A n c rows
  inn : ∀ x ∈ rows, SlK 1 encInt w lo hi x.A x.n x.c x.us
theorem CtsAt.below {w w' : World} {lo hi : Nat} {A : Option Addr} {n c : Nat} {rows : List CRow} {B : Nat} (h : CtsAt w lo hi A n c rows) (hb : Below B w w') (hB : hi ≤ B) : CtsAt w' lo hi A n c rows :=
  ⟨h.out.below hb hB, fun x hx => (h.inn x hx).below hb hB⟩
theorem CtsAt.drew {w : World} {lo hi : Nat} {A : Option Addr} {n c : Nat} {rows : List CRow} (h : CtsAt w lo hi A n c rows) : CtsAt w.drew lo hi A n c rows := ⟨h.out, h.inn⟩
theorem stored3 {w : World} {base : Nat} {e : TypeId} {size g m cap : Nat} {xs : List Value} (h : w.ownsRow base e size (.slice (some ⟨g, 0, none⟩) m cap) m xs) (o : Nat) (v0 v1 v2 : Value) :
    World.ownsRow (((w.setCell ⟨g, o, none⟩ v0).setCell ⟨g, o + 1, none⟩ v1).setCell ⟨g, o + 2, none⟩ v2) base e size (.slice (some ⟨g, 0, none⟩) m cap) m (setL xs o [v0, v1, v2]) ∧ w.grownBy (((w.setCell ⟨g, o, none⟩ v0).setCell ⟨g, o + 1, none⟩ v1).setCell ⟨g, o + 2, none⟩ v2) (some g) := storedL [v0, v1, v2] o h
theorem below3 {B : Nat} {a w : World} {g : Nat} (h : Below B a w) (hg : B ≤ g) (o : Nat) (v0 v1 v2 : Value) : Below B a (((w.setCell ⟨g, o, none⟩ v0).setCell ⟨g, o + 1, none⟩ v1).setCell ⟨g, o + 2, none⟩ v2) := Below.setCells hg [v0, v1, v2] o h
theorem SlK.set3 {α : Type} {k : Nat} {enc : α → List Value} {w : World} {lo hi : Nat} {A : Option Addr} {n c : Nat} {xs : List α} (h : SlK k enc w lo hi A n c xs) {g : Nat} (hg : g < lo ∨ hi ≤ g) (o : Nat) (v0 v1 v2 : Value) :
    SlK k enc (((w.setCell ⟨g, o, none⟩ v0).setCell ⟨g, o + 1, none⟩ v1).setCell ⟨g, o + 2, none⟩ v2) lo hi A n c xs := ((h.setCell (p := ⟨g, o, none⟩) hg v0).setCell (p := ⟨g, o + 1, none⟩) hg v1).setCell (p := ⟨g, o + 2, none⟩) hg v2
def zC : Value := .agg #[.int .i64 0, .int .i64 0, .slice none 0 0]
theorem CtS_info : (Try.prog.info? 76).map (fun i => (i.zero, i.size, i.bytes)) = some (some zC, 3, 40) := by kernel_rfl
theorem trod_ct {H : Type} {enc : TypeId × Value → H} {P : Program} {W : World} {t ts e : TypeId} {fuel : Nat} {f0 f1 f2 : Field} {cs : List Value} {x : DataW H × List MemPlace} (hs : P.underlying t = some (.struct #[f0, f1, f2])) (hC : P.cellsOf t = 3)
    (ho : f0.offset = 0 ∧ f1.offset = 1 ∧ f2.offset = 2) (hty : f2.type = ts) (hi : ∀ f ∈ [f0, f1], P.underlying f.type = some (.int .i64) ∧ P.cellsOf f.type = 1)
    (h1 : P.underlying ts = some (.slice e) ∧ P.underlying e = some (.int .i64) ∧ P.cellsOf e = 1 ∧ P.cellsOf ts = 1)
    (hf : DataW.trod enc P W 0 (fun _ => true) true fuel t cs = some x) (hfz : W.noneFrozen x.2) :
    ∃ y : CRow, cs = encC y ∧ (encC y).length = 3 ∧ SlK 1 encInt W 0 W.heap.size y.A y.n y.c y.us := by
  obtain ⟨xs, n, _, hx, hl, hlen, hg⟩ := DataW.trod_struct hs hf
  obtain ⟨o0, o1, o2⟩ := ho
  rw [hC] at hl
  match cs, hl, xs, hlen with
  | [c0, c1, c2], _, [x0, x1, x2], _ =>
    have g0 := hg 0 f0 rfl
    have g1 := hg 1 f1 rfl
    have g2 := hg 2 f2 rfl
    obtain ⟨u0, k0⟩ := hi f0 (by simp)
    obtain ⟨u1, k1⟩ := hi f1 (by simp)
    rw [o0, k0] at g0
    rw [o1, k1] at g1
    rw [o2, hty, h1.2.2.2] at g2
    have hsub : ∀ z ∈ [x0, x1, x2], W.noneFrozen z.2 := fun z hz b off hin => hfz b off (by rw [hx]; show _ ∈ List.flatMap _ _; rw [List.mem_flatMap]; exact ⟨z, hz, hin⟩)
    obtain ⟨z0, e0, _, _⟩ := DataW.trod_int u0 g0
    obtain ⟨z1, e1, _, _⟩ := DataW.trod_int u1 g1
    obtain ⟨A1, n1, c1', us, e2, s2⟩ := open_is h1.1 h1.2.1 h1.2.2.1 g2 (hsub x2 (by simp))
    simp at e0 e1
    subst e0 e1 e2
    exact ⟨⟨z0, z1, A1, n1, c1', us⟩, rfl, rfl, s2⟩
set_option maxRecDepth 100000 in
theorem openCts {H : Type} {enc : TypeId × Value → H} {W : World} {rr : Reach} {b0 : Nat} {v : Value} {d : DataW H} {p : List MemPlace}
    (hv : Value.okWide Try.prog W rr b0 41 v) (h : DataW.Trod enc Try.prog W 0 (fun _ => true) true 41 v d p) (hfz : W.noneFrozen p) :
    ∃ A n c rows, v = .slice A n c ∧ CtsAt W 0 W.heap.size A n c rows := by
  obtain ⟨a0, len0, cap0, rfl⟩ := okWide_slice Try.underlying41 hv
  obtain ⟨fu, hf⟩ := h
  obtain ⟨A, n, c, ys, e, hs, hr⟩ := open_gen (encA := encC) (R := fun y => SlK 1 encInt W 0 W.heap.size y.A y.n y.c y.us) Try.underlying41 cCt (by omega)
    (fun m cs y hy hz => trod_ct Try.underlying70 cCt ⟨rfl, rfl, rfl⟩ rfl (by intro f hf; simp only [List.mem_cons, List.not_mem_nil, or_false] at hf; rcases hf with rfl | rfl <;> exact ⟨Try.underlying3, cInt⟩)
      ⟨Try.underlying29, Try.underlying3, cInt, cIntS⟩ hy hz) (by simpa [Value.cells] using hf) hfz
  exact ⟨A, n, c, ys, e, hs, hr⟩
set_option maxRecDepth 20000 in
set_option maxHeartbeats 4000000 in
theorem toCartonS_any (lo hi : Nat) (A : Option Addr) (n c : Nat) (rows : List CRow) (w : World) (hs : CtsAt w lo hi A n c rows) (hB : hi ≤ w.heap.size) (hn : n + totC rows ≤ 1048576) :
    Calls Try.prog 23 #[.slice A n c] w fun e w' => ∃ A' rows', e = .returned (.slice A' n n) ∧ CtsAt w' w.heap.size w'.heap.size A' n n rows' ∧ ctL rows' = ctL rows ∧ Below w.heap.size w w' := by
  have hmk := fun W => mk_row Try.underlying52 CtS_info (by omega) n (by omega) W
  have hm := hs.out.max
  have hc := hs.out.cap
  have HZ := hide (zeros_size zC (n * 3))
  have HL := hide hs.out.len
  generalize hZ : (zeros zC (n * 3)) = Z at *
  clear hZ
  have HS := hide hs
  clear hs
  go_enter Try.func23, Try.ntmps23
  go_wp2
  clear hmk
  go_loopw [4] (fun i wr => ∃ (k : Nat) (ys : List CRow), k ≤ n ∧ i = .int .i64 k ∧ ys.length = k ∧ ctL ys = ctL (rows.take k) ∧ (∀ y ∈ ys, SlK 1 encInt wr (w.heap.size + 1) wr.heap.size y.A y.n y.c y.us) ∧ wr.ownsRow w.heap.size 76 3 (.slice (some ⟨w.heap.size, 0, none⟩) n n) n (ys.flatMap encC ++ Z.toList.drop (k * 3)) ∧ Below w.heap.size w wr) (fun i _ => n - (intOf i).toNat)
  case atStart =>
    refine ⟨0, [], Nat.zero_le _, rfl, rfl, rfl, fun _ h => (by cases h), ?_, (Below.refl _ _).alloc (Nat.le_refl _) _⟩
    simpa using World.ownsRow_lit (base := w.heap.size) (size := 3) (e := 76) w Z n (Nat.le_refl _) (by simp [maxLen]; omega) HZ.out
  case round =>
    obtain ⟨k, ys, hk, rfl, hyl, hyr, hyi, hown, hbel⟩ := hrel
    by_cases hlt : k < n
    · have hsz := hbel.size
      have hgl : w.heap.size < wr.heap.size := (hown.lt _ rfl).2
      obtain ⟨b0, off, x, hx, rfl, _, hb, c0, c1, c2, _⟩ := (HS.out.out.below hbel hB).ct hlt
      have hxi := HS.out.inn x (List.mem_of_getElem? hx)
      have hxn : x.n ≤ 1048576 := by have := totC_le hx; omega
      have HXI := hide (hxi.below hbel hB)
      have HX := hide hx
      have HO := hide hown
      have HYI := hide hyi
      have HYR := hide hyr
      clear hx hxi hown hyi hyr
      go_wp2_with (go_at_call 47; refine (toCarton_any ⟨x.ty, x.gr, x.us⟩ lo hi x.A x.n x.c _ HXI.out (by omega) hxn).mono ?_; rintro e w1 ⟨A1, rfl, hs1, hb1⟩; have HS1 := hide hs1; clear hs1; have ho1 := hide (row_below HO.out hb1); obtain ⟨u0, d0⟩ := own_cell ho1.out (k * 3) (by omega); obtain ⟨u1, d1⟩ := own_cell ho1.out (k * 3 + 1) (by omega); obtain ⟨u2, d2⟩ := own_cell ho1.out (k * 3 + 2) (by omega); have fz := fun j => ho1.out.frozenAt j)
      have hz1 := hb1.size
      go_roundw
      case rel =>
        refine ⟨k + 1, ys ++ [⟨x.ty, x.gr, A1, x.n, x.n, x.us⟩], by omega, by go_num, by simp [hyl], ?_, ?_, ?_, ?_⟩
        · rw [take_snoc HX.out]
          have := HYR.out
          simp only [ctL, List.map_append] at this ⊢
          rw [this]
          rfl
        · intro y hy
          rw [List.mem_append, List.mem_singleton] at hy
          rcases hy with hy | rfl
          · have := (((HYI.out y hy).below hb1 (Nat.le_refl _)).more (Nat.le_refl _) hz1).set3 (g := w.heap.size) (.inl (Nat.lt_succ_self _)) (k * 3) (.int .i64 x.ty) (.int .i64 x.gr) (.slice A1 x.n x.n)
            simpa using this
          · have := (HS1.out.more (lo' := w.heap.size + 1) (by omega) (Nat.le_refl _)).set3 (g := w.heap.size) (.inl (Nat.lt_succ_self _)) (k * 3) (.int .i64 x.ty) (.int .i64 x.gr) (.slice A1 x.n x.n)
            simpa using this
        · rw [← row_fill' encC_len (n := n) ys _ ⟨x.ty, x.gr, A1, x.n, x.n, x.us⟩ hyl (by simpa using HZ.out) hlt]
          exact (stored3 ho1.out (k * 3) (.int .i64 x.ty) (.int .i64 x.gr) (.slice A1 x.n x.n)).1
        · exact below3 (hbel.trans (hb1.mono hbel.size)) (Nat.le_refl _) _ _ _ _
      case measure => simp [intOf]; omega
    · have hge : n ≤ k := by omega
      clear hlt
      have HO := hide hown
      have HYI := hide hyi
      have HYR := hide hyr
      clear hown hyi hyr
      go_wp2
      go_ret
      refine ⟨_, ys, rfl, ⟨?_, fun y hy => (HYI.out y hy).more (by omega) (Nat.le_refl _)⟩, ?_, hbel⟩
      · have hown := HO.out
        rw [List.drop_of_length_le (by rw [Array.length_toList, HZ.out]; omega), List.append_nil] at hown
        exact slk_of_row encC_len (by omega) hown
      · rw [HYR.out, List.take_of_length_le (by rw [HL.out]; omega)]
theorem iv_eq' {a b : Int} (h : a = b) : Value.int .i64 a = Value.int .i64 b := by rw [h]
theorem szCartonS_ok (lo hi : Nat) (A : Option Addr) (n c : Nat) (rows : List CRow) (left : Nat) (w : World) (hs : CtsAt w lo hi A n c rows) (hB : hi ≤ w.heap.size) (h1 : n + totC rows ≤ left) (h2 : left ≤ 1048576) :
    Calls Try.prog 20 #[.slice A n c, .int .i64 left] w fun e w' => (∃ x : Int, e = .returned (.int .i64 x) ∧ 0 ≤ x ∧ x ≤ 1048576) ∧ Below w.heap.size w w' := by
  have hm := hs.out.max
  have hc := hs.out.cap
  have HL := hide hs.out.len
  have h3 : ¬ ((left : Int) - n < 0) := by omega
  have HS := hide hs
  clear hs
  go_enter Try.func20, Try.ntmps20
  go_wp2
  go_loopw [1, 5] (fun l i wr => ∃ k q : Nat, k ≤ n ∧ i = .int .i64 k ∧ l = .int .i64 q ∧ q + n + totC (rows.take k) ≤ left ∧ left ≤ q + n + totC (rows.take k) ∧ Below w.heap.size w wr) (fun _ i _ => n - (intOf i).toNat)
  case atStart => exact ⟨0, left - n, Nat.zero_le _, rfl, iv_eq' (by omega), by simp [totC]; omega, by simp [totC]; omega, Below.refl _ _⟩
  case round =>
    obtain ⟨k, q, hk, rfl, rfl, hq1, hq2, hbel⟩ := hrel
    by_cases hlt : k < n
    · obtain ⟨b0, off, x, hx, rfl, _, hb, c0, c1, c2, _⟩ := (HS.out.out.below hbel hB).ct hlt
      have hsz := hbel.size
      have hxi := HS.out.inn x (List.mem_of_getElem? hx)
      have hle := totC_le hx
      have e1 := hxi.cap
      have e2 := hxi.max
      have HX := hide hx
      clear hx hxi
      have i0 : (0 : Int) ≤ (k : Int) := by omega
      have i1 : (k : Int) < (n : Int) := by omega
      have hng : ¬ ((q : Int) - x.n < 0) := by omega
      go_wp2_with (go_at_call 40; refine (szCarton_ok ⟨x.ty, x.gr, x.us⟩ x.A x.n x.c _ _ (by omega) (by omega) e1 e2).mono ?_; rintro e w1 ⟨rfl, hb1⟩)
      go_roundw
      case rel => exact ⟨k + 1, q - x.n, by omega, by go_num, iv_eq' (by omega), by rw [take_snoc HX.out, totC_snoc]; omega, by rw [take_snoc HX.out, totC_snoc]; omega, hbel.trans (hb1.mono hsz)⟩
      case measure => simp [intOf]; omega
    · have hge : n ≤ k := by omega
      clear hlt
      go_wp2
      go_ret
      exact ⟨⟨_, rfl, by omega, by omega⟩, hbel⟩
theorem szCartonS_no (lo hi : Nat) (A : Option Addr) (n c : Nat) (rows : List CRow) (left : Nat) (w : World) (hs : CtsAt w lo hi A n c rows) (hB : hi ≤ w.heap.size) (h1 : left < n + totC rows) (h2 : left ≤ 1048576) :
    Calls Try.prog 20 #[.slice A n c, .int .i64 left] w fun e w' => e = .returned (.int .i64 (-1)) ∧ Below w.heap.size w w' := by
  have hm := hs.out.max
  have hc := hs.out.cap
  have HL := hide hs.out.len
  have HS := hide hs
  clear hs
  by_cases h3 : (left : Int) - n < 0
  · go_enter Try.func20, Try.ntmps20
    go_wp2
    go_ret
    exact ⟨rfl, Below.refl _ _⟩
  go_enter Try.func20, Try.ntmps20
  go_wp2
  go_loopw [1, 5] (fun l i wr => ∃ k q : Nat, k ≤ n ∧ i = .int .i64 k ∧ l = .int .i64 q ∧ q + n + totC (rows.take k) ≤ left ∧ left ≤ q + n + totC (rows.take k) ∧ Below w.heap.size w wr) (fun _ i _ => n - (intOf i).toNat)
  case atStart => exact ⟨0, left - n, Nat.zero_le _, rfl, iv_eq' (by omega), by simp [totC]; omega, by simp [totC]; omega, Below.refl _ _⟩
  case round =>
    obtain ⟨k, q, hk, rfl, rfl, hq1, hq2, hbel⟩ := hrel
    by_cases hlt : k < n
    · obtain ⟨b0, off, x, hx, rfl, _, hb, c0, c1, c2, _⟩ := (HS.out.out.below hbel hB).ct hlt
      have hsz := hbel.size
      have hxi := HS.out.inn x (List.mem_of_getElem? hx)
      have hle := totC_le hx
      have e1 := hxi.cap
      have e2 := hxi.max
      have HX := hide hx
      clear hx hxi
      have i0 : (0 : Int) ≤ (k : Int) := by omega
      have i1 : (k : Int) < (n : Int) := by omega
      by_cases hxq : x.n ≤ q
      · have hng : ¬ ((q : Int) - x.n < 0) := by omega
        go_wp2_with (go_at_call 40; refine (szCarton_ok ⟨x.ty, x.gr, x.us⟩ x.A x.n x.c _ _ (by omega) (by omega) e1 e2).mono ?_; rintro e w1 ⟨rfl, hb1⟩)
        go_roundw
        case rel => exact ⟨k + 1, q - x.n, by omega, by go_num, iv_eq' (by omega), by rw [take_snoc HX.out, totC_snoc]; omega, by rw [take_snoc HX.out, totC_snoc]; omega, hbel.trans (hb1.mono hsz)⟩
        case measure => simp [intOf]; omega
      · go_wp2_with (go_at_call 40; refine (szCarton_no ⟨x.ty, x.gr, x.us⟩ x.A x.n x.c _ _ (by omega) (by omega) (by omega) e1 e2).mono ?_; rintro e w1 ⟨rfl, hb1⟩)
        go_ret
        exact ⟨rfl, hbel.trans (hb1.mono hsz)⟩
    · exfalso
      rw [List.take_of_length_le (by rw [HL.out]; omega)] at hq1
      omega
set_option maxHeartbeats 1600000 in
theorem eqCartonS_any (lo hi lo' hi' : Nat) (A A' : Option Addr) (n c c' : Nat) (rows rows' : List CRow) (w : World) (hs : CtsAt w lo hi A n c rows) (hB : hi ≤ w.heap.size) (hs' : CtsAt w lo' hi' A' n c' rows') (hB' : hi' ≤ w.heap.size) (he : ctL rows = ctL rows') :
    Calls Try.prog 26 #[.slice A n c, .slice A' n c'] w fun e w' => e = .returned (.bool true) ∧ Below w.heap.size w w' := by
  have hm := hs.out.max
  have hc := hs.out.cap
  have hm' := hs'.out.max
  have hc' := hs'.out.cap
  have HS := hide hs
  have HS' := hide hs'
  have HE := hide he
  clear hs hs' he
  go_enter Try.func26, Try.ntmps26
  go_wp2
  go_loopw [5] (fun i wr => ∃ k : Nat, k ≤ n ∧ i = .int .i64 k ∧ Below w.heap.size w wr) (fun i _ => n - (intOf i).toNat)
  case atStart => exact ⟨0, Nat.zero_le _, rfl, Below.refl _ _⟩
  case round =>
    obtain ⟨k, hk, rfl, hbel⟩ := hrel
    by_cases hlt : k < n
    · have hsz := hbel.size
      obtain ⟨b0, off, x, hx, rfl, _, hb, c0, c1, c2, _⟩ := (HS.out.out.below hbel hB).ct hlt
      obtain ⟨b0', off', x', hx', rfl, _, hb', d0, d1, d2, _⟩ := (HS'.out.out.below hbel hB').ct hlt
      have hxx : ctV x = ctV x' := by
        have := congrArg (fun l : List (Int × Int × List Int) => l[k]?) HE.out
        simp only [ctL, List.getElem?_map, hx, hx', Option.map_some, Option.some.injEq] at this
        exact this
      simp only [ctV, Prod.mk.injEq] at hxx
      obtain ⟨x1, x2, x3⟩ := hxx
      have h1 := HS.out.inn x (List.mem_of_getElem? hx)
      have h2 := HS'.out.inn x' (List.mem_of_getElem? hx')
      have hnn : x'.n = x.n := by rw [← h1.len, ← h2.len, x3]
      rw [hnn] at d2 h2
      rw [← x3] at h2
      rw [← x1] at d0
      rw [← x2] at d1
      have H1 := hide (h1.below hbel hB)
      have H2 := hide (h2.below hbel hB')
      clear hx hx' h1 h2 x1 x2 x3 hnn
      have i0 : (0 : Int) ≤ (k : Int) := by omega
      have i1 : (k : Int) < (n : Int) := by omega
      have z0 : b0 < wr.heap.size := by omega
      have z1 : b0' < wr.heap.size := by omega
      go_wp2_with fail
      go_region_held3 (fun w' => w'.cell? ⟨b0, off + k * 3, none⟩ = some (.int .i64 x.ty) ∧ w'.cell? ⟨b0, off + k * 3 + 1, none⟩ = some (.int .i64 x.gr) ∧ w'.cell? ⟨b0, off + k * 3 + 2, none⟩ = some (.slice x.A x.n x.c) ∧ w'.cell? ⟨b0', off' + k * 3, none⟩ = some (.int .i64 x.ty) ∧ w'.cell? ⟨b0', off' + k * 3 + 1, none⟩ = some (.int .i64 x.gr) ∧ w'.cell? ⟨b0', off' + k * 3 + 2, none⟩ = some (.slice x'.A x.n x'.c)) (go_keep) ((go_at_call 54; refine (eqCarton_any ⟨x.ty, x.gr, x.us⟩ lo hi lo' hi' x.A x'.A x.n x.c x'.c _ H1.out.drew (by (try simp) <;> omega) H2.out.drew (by (try simp) <;> omega)).mono ?_; rintro e w1 ⟨rfl, hb1⟩; have hcc := bcellD hb1))
      go_wp2
      go_roundw
      case rel => exact ⟨k + 1, by omega, by go_num, hbel.drew.trans (hb1.mono hbel.size)⟩
      case measure => simp [intOf]; omega
    · have hge : n ≤ k := by omega
      clear hlt
      go_wp2
      go_ret
      exact ⟨rfl, hbel⟩
/-- What the cartons cost together, where the order is sound. -/
def costA (tys : List Ty) : List (Int × Int × List Int) → Int
  | [] => 0
  | x :: xs => (tyD (findTy tys x.1)).cost + costA tys xs
def costV (r : Rq) (L : List (Int × Int × List Int)) : Int := if classN r = 0 then costA r.types L else 0
theorem costA_snoc (tys : List Ty) (x : Int × Int × List Int) : ∀ L, costA tys (L ++ [x]) = costA tys L + (tyD (findTy tys x.1)).cost
  | [] => by simp [costA]
  | y :: ys => by rw [List.cons_append, costA, costA_snoc tys x ys, costA]; omega
theorem cost_bd {r : Rq} (h : classN r = 0) (id : Int) : 0 ≤ (tyD (findTy r.types id)).cost ∧ (tyD (findTy r.types id)).cost ≤ 100000 := by
  rcases hq : findTy r.types id with _ | t
  · exact ⟨Int.le_refl _, by show (0 : Int) ≤ 100000; omega⟩
  have hm : t ∈ r.types := List.mem_of_find?_eq_some hq
  have hb := class0_bounds h
  simp only [boundsB, Bool.and_eq_true, Bool.not_eq_true'] at hb
  have h1 := hb.1.1.1.1.2
  unfold typesBadB at h1
  rw [List.any_eq_false] at h1
  have h2 := h1 t hm
  simp only [Bool.not_eq_true', Bool.not_eq_false] at h2
  simp only [typeOkB, Bool.and_eq_true, inB_iff] at h2
  show 0 ≤ t.cost ∧ t.cost ≤ 100000
  omega
theorem ctL_take {rows : List CRow} {k : Nat} {x : CRow} (h : rows[k]? = some x) : ctL (rows.take (k + 1)) = ctL (rows.take k) ++ [ctV x] := by
  rw [take_snoc h]; simp [ctL]
set_option maxRecDepth 20000 in
set_option maxHeartbeats 4000000 in
theorem costOf_any (r : Rq) (A1 A2 A3 : Option Addr) (n1 n2 n3 c1 c2 c3 : Nat) (lo hi : Nat) (lo2 hi2 : Nat) (A : Option Addr) (n c : Nat) (rows : List CRow) (w : World) (hr : RqAt w lo hi r A1 n1 c1 A2 n2 c2 A3 n3 c3) (hB : hi ≤ w.heap.size) (hs : CtsAt w lo2 hi2 A n c rows) (hB2 : hi2 ≤ w.heap.size) (hn : n ≤ 1048576) :
    Calls Try.prog 24 #[.agg #[.int .i64 r.way, .int .i64 r.pal.w, .int .i64 r.pal.d, .int .i64 r.pal.h, .int .i64 r.pal.gram, .int .i64 r.cls, .slice A1 n1 c1, .slice A2 n2 c2, .int .i64 r.master, .slice A3 n3 c3], .slice A n c] w fun e w' => e = .returned (.int .i64 (costV r (ctL rows))) ∧ Below w.heap.size w w' := by
  have hm := hs.out.max
  have hc := hs.out.cap
  have HL := hide hs.out.len
  have HS := hide hs
  have HR := hide hr
  have HC := hide (sound_any r A1 A2 A3 n1 n2 n3 c1 c2 c3 lo hi)
  clear hs hr
  by_cases h0 : classN r = 0
  case neg =>
    have HF := hide (show costV r (ctL rows) = 0 by simp [costV, h0])
    have hd : decide (classN r = 0) = false := by simp [h0]
    rw [hd] at HC
    clear hd h0
    go_enter Try.func24, Try.ntmps24
    go_wp2_with fail
    refine (HC.out _ (HR.out.below (B := w.heap.size) (by repeat (first | with_reducible exact Below.refl _ _ | with_reducible assumption | with_reducible refine Below.setCell ?_ (by (try simp) <;> omega) _ | with_reducible refine Below.alloc ?_ (by (try simp) <;> omega) _ | with_reducible refine Below.drew ?_ | with_reducible refine below_drewN ?_ _)) hB) (by (try simp) <;> omega)).mono ?_
    rintro e w1 ⟨rfl, hb1⟩
    go_wp2
    go_ret
    exact ⟨ret_int HF.out.symm, (by repeat (first | with_reducible exact Below.refl _ _ | with_reducible assumption | with_reducible refine Below.setCell ?_ (by (try simp) <;> omega) _ | with_reducible refine Below.alloc ?_ (by (try simp) <;> omega) _ | with_reducible refine Below.drew ?_ | with_reducible refine below_drewN ?_ _ | with_reducible exact hb1 | with_reducible refine Below.trans ?_ (Below.mono hb1 (by (try simp) <;> omega))))⟩
  have HF := hide (show costV r (ctL rows) = costA r.types (ctL rows) by simp [costV, h0])
  have hd : decide (classN r = 0) = true := by simp [h0]
  rw [hd] at HC
  have HBD := hide (cost_bd h0)
  clear hd h0
  go_enter Try.func24, Try.ntmps24
  go_wp2_with fail
  refine (HC.out _ (HR.out.below (B := w.heap.size) (by repeat (first | with_reducible exact Below.refl _ _ | with_reducible assumption | with_reducible refine Below.setCell ?_ (by (try simp) <;> omega) _ | with_reducible refine Below.alloc ?_ (by (try simp) <;> omega) _ | with_reducible refine Below.drew ?_ | with_reducible refine below_drewN ?_ _)) hB) (by (try simp) <;> omega)).mono ?_
  rintro e w1 ⟨rfl, hb1⟩
  have L1 := hide (show Below w.heap.size w w1 from (by repeat (first | with_reducible exact Below.refl _ _ | with_reducible assumption | with_reducible refine Below.setCell ?_ (by (try simp) <;> omega) _ | with_reducible refine Below.alloc ?_ (by (try simp) <;> omega) _ | with_reducible refine Below.drew ?_ | with_reducible refine below_drewN ?_ _ | with_reducible exact hb1 | with_reducible refine Below.trans ?_ (Below.mono hb1 (by (try simp) <;> omega)))))
  have P1 := hide (Blk.belowH (Blk.new w 50 (#[.int .i64 r.way, .int .i64 r.pal.w, .int .i64 r.pal.d, .int .i64 r.pal.h, .int .i64 r.pal.gram, .int .i64 r.cls, .slice A1 n1 c1, .slice A2 n2 c2, .int .i64 r.master, .slice A3 n3 c3]) (g := w.heap.size) (by simp)) hb1)
  have z1 : w.heap.size + 1 ≤ w1.heap.size := by simpa using hb1.size
  clear hb1
  obtain ⟨RL, hRL⟩ : ∃ RL : Array Value, RL = #[.int .i64 r.way, .int .i64 r.pal.w, .int .i64 r.pal.d, .int .i64 r.pal.h, .int .i64 r.pal.gram, .int .i64 r.cls, .slice A1 n1 c1, .slice A2 n2 c2, .int .i64 r.master, .slice A3 n3 c3] := ⟨_, rfl⟩
  have HRL := hide hRL
  clear hRL
  go_wp2
  go_loopw [5, 15] (fun o i wr => ∃ (k : Nat) (q : Int), k ≤ n ∧ i = .int .i64 k ∧ o = .int .i64 q ∧ q = costA r.types (ctL (rows.take k)) ∧ 0 ≤ q ∧ q ≤ 100000 * k ∧ Blk wr w.heap.size 50 RL ∧ Below w1.heap.size w1 wr) (fun _ i _ => n - (intOf i).toNat)
  case atStart => exact ⟨0, 0, Nat.zero_le _, rfl, rfl, rfl, Int.le_refl _, by omega, P1.out.as HRL.out.symm, Below.refl _ _⟩
  case round =>
    obtain ⟨k, q, hk, rfl, rfl, hq, hq1, hq2, B0, hbel⟩ := hrel
    have HBel := hide hbel
    have PR := hide B0
    have HQ := hide hq
    have hz := hbel.size
    have HL0 := hide (show Below w.heap.size w wr from L1.out.trans (hbel.mono (by omega)))
    clear hbel B0 hq
    by_cases hlt : k < n
    · have kR := (PR.out.as HRL.out).cell
      have yR := PR.out.lt
      obtain ⟨b0, off, x, hx, rfl, _, hb, s0, s1, s2, _⟩ := (HS.out.out.below HL0.out hB2).ct hlt
      have HX := hide hx
      clear hx
      have HT := hide (tyById_any r A1 A2 A3 n1 n2 n3 c1 c2 c3 lo hi x.ty)
      obtain ⟨t, ht⟩ : ∃ t, tyD (findTy r.types x.ty) = t := ⟨_, rfl⟩
      obtain ⟨ob, hob⟩ : ∃ ob, (findTy r.types x.ty).isSome = ob := ⟨_, rfl⟩
      rw [ht, hob] at HT
      have hbd := HBD.out x.ty
      rw [ht] at hbd
      have HTT := hide ht
      clear ht hob
      have e0 : w.heap.size ≠ wr.heap.size := by omega
      have e1 : b0 ≠ wr.heap.size := by omega
      have e0' : wr.heap.size ≠ w.heap.size := by omega
      have e1' : wr.heap.size ≠ b0 := by omega
      have b1 : -9223372036854775808 ≤ q + t.cost := by omega
      have b2 : q + t.cost ≤ 9223372036854775807 := by omega
      have kX := (Blk.new wr 76 #[.int .i64 x.ty, .int .i64 x.gr, .slice x.A x.n x.c] rfl).cell
      go_wp2_with fail
      refine (HT.out _ (HR.out.below (B := w.heap.size) (by repeat (first | with_reducible exact Below.refl _ _ | with_reducible assumption | with_reducible refine Below.setCell ?_ (by (try simp) <;> omega) _ | with_reducible refine Below.alloc ?_ (by (try simp) <;> omega) _ | with_reducible refine Below.drew ?_ | with_reducible refine below_drewN ?_ _ | with_reducible exact HL0.out | with_reducible refine Below.trans ?_ (Below.mono HL0.out (by (try simp) <;> omega)))) hB) (by (try simp) <;> omega)).mono ?_
      rintro e w2 ⟨rfl, hb2⟩
      have L2 := hide (show Below w1.heap.size w1 w2 from (by repeat (first | with_reducible exact Below.refl _ _ | with_reducible assumption | with_reducible refine Below.setCell ?_ (by (try simp) <;> omega) _ | with_reducible refine Below.alloc ?_ (by (try simp) <;> omega) _ | with_reducible refine Below.drew ?_ | with_reducible refine below_drewN ?_ _ | with_reducible exact HBel.out | with_reducible exact hb2 | with_reducible refine Below.trans ?_ (Below.mono HBel.out (by (try simp) <;> omega)) | with_reducible refine Below.trans ?_ (Below.mono hb2 (by (try simp) <;> omega)))))
      have PR2 := hide (Blk.belowH (PR.out.alloc _) hb2)
      have z2 : wr.heap.size + 1 ≤ w2.heap.size := by simpa using hb2.size
      clear hb2 kX kR yR
      have kT := (Blk.new w2 73 #[.int .i64 t.id, .int .i64 t.w, .int .i64 t.h, .int .i64 t.d, .int .i64 t.tare, .int .i64 t.gram, .int .i64 t.cost] rfl).cell
      go_wp2
      go_roundw
      case rel =>
        refine ⟨k + 1, q + t.cost, by omega, by go_num, rfl, ?_, by omega, by omega, PR2.out.alloc _, (by repeat (first | with_reducible exact Below.refl _ _ | with_reducible assumption | with_reducible refine Below.setCell ?_ (by (try simp) <;> omega) _ | with_reducible refine Below.alloc ?_ (by (try simp) <;> omega) _ | with_reducible refine Below.drew ?_ | with_reducible refine below_drewN ?_ _ | with_reducible exact L2.out | with_reducible refine Below.trans ?_ (Below.mono L2.out (by (try simp) <;> omega))))⟩
        rw [ctL_take HX.out, costA_snoc, HQ.out]
        show _ + t.cost = _ + (tyD (findTy r.types x.ty)).cost
        rw [HTT.out]
      case measure => simp [intOf]; omega
    · have hge : n ≤ k := by omega
      clear hlt
      go_wp2
      go_ret
      refine ⟨ret_int ?_, HL0.out⟩
      rw [HF.out, HQ.out, List.take_of_length_le (by rw [HL.out]; omega)]
set_option maxRecDepth 20000 in
set_option maxHeartbeats 8000000 in
theorem scostOf_any (r : Rq) (A1 A2 A3 : Option Addr) (n1 n2 n3 c1 c2 c3 : Nat) (lo hi : Nat) (lo2 hi2 : Nat) (A : Option Addr) (n c : Nat) (rows : List CRow) (w : World) (hr : RqAt w lo hi r A1 n1 c1 A2 n2 c2 A3 n3 c3) (hB : hi ≤ w.heap.size) (hs : CtsAt w lo2 hi2 A n c rows) (hB2 : hi2 ≤ w.heap.size) (hn : n ≤ 1048576) :
    Calls Try.prog 21 #[.agg #[.int .i64 r.way, .int .i64 r.pal.w, .int .i64 r.pal.d, .int .i64 r.pal.h, .int .i64 r.pal.gram, .int .i64 r.cls, .slice A1 n1 c1, .slice A2 n2 c2, .int .i64 r.master, .slice A3 n3 c3], .slice A n c] w fun e w' => e = .returned (.int .i64 (costV r (ctL rows))) ∧ Below w.heap.size w w' := by
  have hm := hs.out.max
  have hc := hs.out.cap
  have HL := hide hs.out.len
  have HS := hide hs
  have HR := hide hr
  have HC := hide (sclass_any r A1 A2 A3 n1 n2 n3 c1 c2 c3 lo hi)
  clear hs hr
  by_cases h0 : classN r = 0
  case neg =>
    have HF := hide (show costV r (ctL rows) = 0 by simp [costV, h0])
    obtain ⟨q, hq⟩ : ∃ q, classN r = q := ⟨_, rfl⟩
    rw [hq] at HC h0
    clear hq
    have hd : (q == 0) = false := by simpa using h0
    go_enter Try.func21, Try.ntmps21
    go_wp2_with fail
    refine (HC.out _ (HR.out.below (B := w.heap.size) (by repeat (first | with_reducible exact Below.refl _ _ | with_reducible assumption | with_reducible refine Below.setCell ?_ (by (try simp) <;> omega) _ | with_reducible refine Below.alloc ?_ (by (try simp) <;> omega) _ | with_reducible refine Below.drew ?_ | with_reducible refine below_drewN ?_ _)) hB) (by (try simp) <;> omega)).mono ?_
    rintro e w1 ⟨rfl, hb1⟩
    go_wp2
    go_ret
    exact ⟨ret_int HF.out.symm, (by repeat (first | with_reducible exact Below.refl _ _ | with_reducible assumption | with_reducible refine Below.setCell ?_ (by (try simp) <;> omega) _ | with_reducible refine Below.alloc ?_ (by (try simp) <;> omega) _ | with_reducible refine Below.drew ?_ | with_reducible refine below_drewN ?_ _ | with_reducible exact hb1 | with_reducible refine Below.trans ?_ (Below.mono hb1 (by (try simp) <;> omega))))⟩
  have HF := hide (show costV r (ctL rows) = costA r.types (ctL rows) by simp [costV, h0])
  have HBD := hide (cost_bd h0)
  rw [h0] at HC
  clear h0
  go_enter Try.func21, Try.ntmps21
  go_wp2_with fail
  refine (HC.out _ (HR.out.below (B := w.heap.size) (by repeat (first | with_reducible exact Below.refl _ _ | with_reducible assumption | with_reducible refine Below.setCell ?_ (by (try simp) <;> omega) _ | with_reducible refine Below.alloc ?_ (by (try simp) <;> omega) _ | with_reducible refine Below.drew ?_ | with_reducible refine below_drewN ?_ _)) hB) (by (try simp) <;> omega)).mono ?_
  rintro e w1 ⟨rfl, hb1⟩
  have L1 := hide (show Below w.heap.size w w1 from (by repeat (first | with_reducible exact Below.refl _ _ | with_reducible assumption | with_reducible refine Below.setCell ?_ (by (try simp) <;> omega) _ | with_reducible refine Below.alloc ?_ (by (try simp) <;> omega) _ | with_reducible refine Below.drew ?_ | with_reducible refine below_drewN ?_ _ | with_reducible exact hb1 | with_reducible refine Below.trans ?_ (Below.mono hb1 (by (try simp) <;> omega)))))
  have P1 := hide (Blk.belowH (Blk.new w 50 (#[.int .i64 r.way, .int .i64 r.pal.w, .int .i64 r.pal.d, .int .i64 r.pal.h, .int .i64 r.pal.gram, .int .i64 r.cls, .slice A1 n1 c1, .slice A2 n2 c2, .int .i64 r.master, .slice A3 n3 c3]) (g := w.heap.size) (by simp)) hb1)
  have z1 : w.heap.size + 1 ≤ w1.heap.size := by simpa using hb1.size
  clear hb1
  obtain ⟨RL, hRL⟩ : ∃ RL : Array Value, RL = #[.int .i64 r.way, .int .i64 r.pal.w, .int .i64 r.pal.d, .int .i64 r.pal.h, .int .i64 r.pal.gram, .int .i64 r.cls, .slice A1 n1 c1, .slice A2 n2 c2, .int .i64 r.master, .slice A3 n3 c3] := ⟨_, rfl⟩
  have HRL := hide hRL
  clear hRL
  go_wp2
  go_loopw [5, 6] (fun o i wr => ∃ (k : Nat) (q : Int), k ≤ n ∧ i = .int .i64 k ∧ o = .int .i64 q ∧ q = costA r.types (ctL (rows.take k)) ∧ 0 ≤ q ∧ q ≤ 100000 * k ∧ Blk wr w.heap.size 50 RL ∧ Below w1.heap.size w1 wr) (fun _ i _ => n - (intOf i).toNat)
  case atStart => exact ⟨0, 0, Nat.zero_le _, rfl, rfl, rfl, Int.le_refl _, by omega, P1.out.as HRL.out.symm, Below.refl _ _⟩
  case round =>
    obtain ⟨k, q, hk, rfl, rfl, hq, hq1, hq2, B0, hbel⟩ := hrel
    have HBel := hide hbel
    have PR := hide B0
    have HQ := hide hq
    have hz := hbel.size
    have HL0 := hide (show Below w.heap.size w wr from L1.out.trans (hbel.mono (by omega)))
    clear hbel B0 hq
    by_cases hlt : k < n
    · have kR := (PR.out.as HRL.out).cell
      have yR := PR.out.lt
      obtain ⟨b0, off, x, hx, rfl, _, hb, s0, s1, s2, _⟩ := (HS.out.out.below HL0.out hB2).ct hlt
      have HX := hide hx
      clear hx
      have HT := hide (styById_any r A1 A2 A3 n1 n2 n3 c1 c2 c3 lo hi x.ty)
      obtain ⟨t, ht⟩ : ∃ t, tyD (findTy r.types x.ty) = t := ⟨_, rfl⟩
      obtain ⟨ob, hob⟩ : ∃ ob, (findTy r.types x.ty).isSome = ob := ⟨_, rfl⟩
      rw [ht, hob] at HT
      have hbd := HBD.out x.ty
      rw [ht] at hbd
      have HTT := hide ht
      clear ht hob s1 s2
      have i0 : (0 : Int) ≤ (k : Int) := by omega
      have i1 : (k : Int) < (n : Int) := by omega
      have z0 : b0 < wr.heap.size := by omega
      have e0 : w.heap.size ≠ wr.heap.size := by omega
      have e1 : b0 ≠ wr.heap.size := by omega
      have e0' : wr.heap.size ≠ w.heap.size := by omega
      have e1' : wr.heap.size ≠ b0 := by omega
      go_wp2_with fail
      go_region_held3 (fun w' => w'.cell? ⟨w.heap.size, 0, none⟩ = some (.int .i64 r.way) ∧ w'.cell? ⟨w.heap.size, 1, none⟩ = some (.int .i64 r.pal.w) ∧ w'.cell? ⟨w.heap.size, 2, none⟩ = some (.int .i64 r.pal.d) ∧ w'.cell? ⟨w.heap.size, 3, none⟩ = some (.int .i64 r.pal.h) ∧ w'.cell? ⟨w.heap.size, 4, none⟩ = some (.int .i64 r.pal.gram) ∧ w'.cell? ⟨w.heap.size, 5, none⟩ = some (.int .i64 r.cls) ∧ w'.cell? ⟨w.heap.size, 6, none⟩ = some (.slice A1 n1 c1) ∧ w'.cell? ⟨w.heap.size, 7, none⟩ = some (.slice A2 n2 c2) ∧ w'.cell? ⟨w.heap.size, 8, none⟩ = some (.int .i64 r.master) ∧ w'.cell? ⟨w.heap.size, 9, none⟩ = some (.slice A3 n3 c3) ∧ w'.cell? ⟨b0, off + k * 3, none⟩ = some (.int .i64 x.ty)) (go_keep) (first
        | (go_at_call 42; (with_reducible refine (HT.out _ (HR.out.below HL0.out hB).drew (by simp; omega)).mono ?_); rintro e w4 ⟨rfl, hb2'⟩; have PR2 := hide (PR.out.drew.belowH hb2'); have BB := hide ((Below.refl wr.heap.size wr).drew.trans (hb2'.mono (by simp))); have L4 := hide (HBel.out.trans (BB.out.mono hz)); have hcc : ∀ b o, b < wr.heap.size → w4.cell? ⟨b, o, none⟩ = wr.cell? ⟨b, o, none⟩ := (fun b o h => BB.out.cell (p := ⟨b, o, none⟩) h); have z4 : wr.heap.size ≤ w4.heap.size := (by simpa using hb2'.size); have e2 : w.heap.size ≠ w4.heap.size := (by omega); have e3 : b0 ≠ w4.heap.size := (by omega); have e2' : w4.heap.size ≠ w.heap.size := (by omega); have e3' : w4.heap.size ≠ b0 := (by omega))
        | (go_at_call 42; (with_reducible refine (HT.out _ ((HR.out.below HL0.out hB).alloc (by omega) _).drew (by simp; omega)).mono ?_); rintro e w4 ⟨rfl, hb2'⟩; have PR2 := hide ((PR.out.alloc _).drew.belowH hb2'); have PX2 := hide ((Blk.new wr 73 #[.int .i64 0, .int .i64 0, .int .i64 0, .int .i64 0, .int .i64 0, .int .i64 0, .int .i64 0] (g := wr.heap.size) rfl).drew.belowH hb2'); have BB := hide ((((Below.refl wr.heap.size wr).alloc (Nat.le_refl _) _).drew).trans (hb2'.mono (by simp))); have L4 := hide (HBel.out.trans (BB.out.mono hz)); have hcc : ∀ b o, b < wr.heap.size → w4.cell? ⟨b, o, none⟩ = wr.cell? ⟨b, o, none⟩ := (fun b o h => BB.out.cell (p := ⟨b, o, none⟩) h); have z4 : wr.heap.size < w4.heap.size := PX2.out.lt; have kX := PX2.out.cell; have fX := PX2.out.frozen))
      all_goals first
        | (have PX3 := hide (((((((PX2.out.set_ 0 (.int .i64 t.id)).set_ 1 (.int .i64 t.w)).set_ 2 (.int .i64 t.h)).set_ 3 (.int .i64 t.d)).set_ 4 (.int .i64 t.tare)).set_ 5 (.int .i64 t.gram)).set_ 6 (.int .i64 t.cost))
           simp only [List.setIfInBounds_toArray, List.set_cons_zero, List.set_cons_succ] at PX3
           have PR3 := hide (((((((PR2.out.far (p := ⟨wr.heap.size, 0, none⟩) (by simp <;> omega) (.int .i64 t.id)).far (p := ⟨wr.heap.size, 1, none⟩) (by simp <;> omega) (.int .i64 t.w)).far (p := ⟨wr.heap.size, 2, none⟩) (by simp <;> omega) (.int .i64 t.h)).far (p := ⟨wr.heap.size, 3, none⟩) (by simp <;> omega) (.int .i64 t.d)).far (p := ⟨wr.heap.size, 4, none⟩) (by simp <;> omega) (.int .i64 t.tare)).far (p := ⟨wr.heap.size, 5, none⟩) (by simp <;> omega) (.int .i64 t.gram)).far (p := ⟨wr.heap.size, 6, none⟩) (by simp <;> omega) (.int .i64 t.cost))
           have L3 := hide (show Below w1.heap.size w1 (((((((w4.setCell ⟨wr.heap.size, 0, none⟩ (.int .i64 t.id)).setCell ⟨wr.heap.size, 1, none⟩ (.int .i64 t.w)).setCell ⟨wr.heap.size, 2, none⟩ (.int .i64 t.h)).setCell ⟨wr.heap.size, 3, none⟩ (.int .i64 t.d)).setCell ⟨wr.heap.size, 4, none⟩ (.int .i64 t.tare)).setCell ⟨wr.heap.size, 5, none⟩ (.int .i64 t.gram)).setCell ⟨wr.heap.size, 6, none⟩ (.int .i64 t.cost)) from (by repeat (first | with_reducible exact Below.refl _ _ | with_reducible assumption | with_reducible refine Below.setCell ?_ (by (try simp) <;> omega) _ | with_reducible refine Below.alloc ?_ (by (try simp) <;> omega) _ | with_reducible refine Below.drew ?_ | with_reducible refine below_drewN ?_ _ | with_reducible exact L4.out | with_reducible refine Below.trans ?_ (Below.mono L4.out (by (try simp) <;> omega)))))
           obtain ⟨w3, hw3⟩ : ∃ w3, (((((((w4.setCell ⟨wr.heap.size, 0, none⟩ (.int .i64 t.id)).setCell ⟨wr.heap.size, 1, none⟩ (.int .i64 t.w)).setCell ⟨wr.heap.size, 2, none⟩ (.int .i64 t.h)).setCell ⟨wr.heap.size, 3, none⟩ (.int .i64 t.d)).setCell ⟨wr.heap.size, 4, none⟩ (.int .i64 t.tare)).setCell ⟨wr.heap.size, 5, none⟩ (.int .i64 t.gram)).setCell ⟨wr.heap.size, 6, none⟩ (.int .i64 t.cost)) = w3 := ⟨_, rfl⟩
           obtain ⟨X, hX⟩ : ∃ X, wr.heap.size = X := ⟨_, rfl⟩
           rw [hw3] at PX3 PR3 L3 ⊢
           rw [hX] at PX3 ⊢
           have hX1 : w.heap.size < X := by omega)
        | (have PX3 := hide (Blk.new w4 73 #[.int .i64 t.id, .int .i64 t.w, .int .i64 t.h, .int .i64 t.d, .int .i64 t.tare, .int .i64 t.gram, .int .i64 t.cost] (g := w4.heap.size) rfl)
           have PR3 := hide (PR2.out.alloc (.cells #[.int .i64 t.id, .int .i64 t.w, .int .i64 t.h, .int .i64 t.d, .int .i64 t.tare, .int .i64 t.gram, .int .i64 t.cost] 73))
           have L3 := hide (show Below w1.heap.size w1 (w4.alloc (.cells #[.int .i64 t.id, .int .i64 t.w, .int .i64 t.h, .int .i64 t.d, .int .i64 t.tare, .int .i64 t.gram, .int .i64 t.cost] 73)) from (by repeat (first | with_reducible exact Below.refl _ _ | with_reducible assumption | with_reducible refine Below.setCell ?_ (by (try simp) <;> omega) _ | with_reducible refine Below.alloc ?_ (by (try simp) <;> omega) _ | with_reducible refine Below.drew ?_ | with_reducible refine below_drewN ?_ _ | with_reducible exact L4.out | with_reducible refine Below.trans ?_ (Below.mono L4.out (by (try simp) <;> omega)))))
           obtain ⟨w3, hw3⟩ : ∃ w3, w4.alloc (.cells #[.int .i64 t.id, .int .i64 t.w, .int .i64 t.h, .int .i64 t.d, .int .i64 t.tare, .int .i64 t.gram, .int .i64 t.cost] 73) = w3 := ⟨_, rfl⟩
           obtain ⟨X, hX⟩ : ∃ X, w4.heap.size = X := ⟨_, rfl⟩
           rw [hw3] at PX3 PR3 L3 ⊢
           rw [hX] at PX3 ⊢
           have hX1 : w.heap.size < X := by omega)
      all_goals (
        clear PR2 L4 hw3 BB hcc kR yR s0
        have b1 : -9223372036854775808 ≤ q + t.cost := by omega
        have b2 : q + t.cost ≤ 9223372036854775807 := by omega
        have kX := PX3.out.cell
        have yX := PX3.out.lt
        go_wp2
        go_roundw
        case rel =>
          refine ⟨k + 1, q + t.cost, by omega, by go_num, rfl, ?_, by omega, by omega, PR3.out, L3.out⟩
          rw [ctL_take HX.out, costA_snoc, HQ.out]
          show _ + t.cost = _ + (tyD (findTy r.types x.ty)).cost
          rw [HTT.out]
        case measure => simp [intOf]; omega)
    · have hge : n ≤ k := by omega
      clear hlt
      go_wp2
      go_ret
      refine ⟨ret_int ?_, HL0.out⟩
      rw [HF.out, HQ.out, List.take_of_length_le (by rw [HL.out]; omega)]
end Go.Proofs.Ytcjcmdikopipjaa
