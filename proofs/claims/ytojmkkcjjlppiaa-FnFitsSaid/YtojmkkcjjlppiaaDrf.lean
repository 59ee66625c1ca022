/- DrawFits: an item and a type. -/
import Derived.Test.YtojmkkcjjlppiaaDw
namespace Go.Proofs.Ytojmkkcjjlppiaa
open Go.ChangeShapes Go.WideShapes Go.ChangeAt Go.RowKit Go.Deep
set_option linter.unusedVariables false
set_option linter.unusedSimpArgs false

theorem ret_cellcell {P : Program} {fn : Func} {R : Ending → World → Prop} {a : Act} {w : World} {p p' : Tmp} {ty ty' : TypeId} {g g' : Nat} {T T' : TypeId} {cs cs' : Array Value} {d d' : TypeDesc} (h : fn.results = #[.cell p ty, .cell p' ty'])
    (hp : a.tmps.getD p undef = .pointer (some ⟨g, 0, none⟩)) (hb : Blk w g T cs) (hu : P.underlying ty = some d) (hd : d.isRow = true) (hi : (P.info? ty).map (·.size) = some cs.size)
    (hp' : a.tmps.getD p' undef = .pointer (some ⟨g', 0, none⟩)) (hb' : Blk w g' T' cs') (hu' : P.underlying ty' = some d') (hd' : d'.isRow = true) (hi' : (P.info? ty').map (·.size) = some cs'.size) (hdf : a.defers = [])
    (hR : R (.returned (.tuple #[.agg cs, .agg cs'])) w) : bodyPost P fn R .ret a w := by
  refine bodyPost_ret (v := .tuple #[.agg cs, .agg cs']) ?_ hdf hR
  have hp1 : a.tmps[p]?.getD undef = .pointer (some ⟨g, 0, none⟩) := by simpa using hp
  have hp2 : a.tmps[p']?.getD undef = .pointer (some ⟨g', 0, none⟩) := by simpa using hp'
  have hl := load_blk (P := P) hb hu hd hi
  have ha := asAddr_ptr (P := P) (w := w) ⟨g, 0, none⟩
  have hl' := load_blk (P := P) hb' hu' hd' hi'
  have ha' := asAddr_ptr (P := P) (w := w) ⟨g', 0, none⟩
  simp only [results, h]
  simp [hp1, hp2, ha, hl, ha', hl', Sem.run_bind, Result.andThen]
set_option maxRecDepth 20000 in
set_option maxHeartbeats 2000000 in
theorem drawFits_any (A : Option Addr) (n c : Nat) (bs : List Int) (w : World) (hs : SlK 1 encByte w 0 w.heap.size A n c bs) (hb : ∀ b ∈ bs, 0 ≤ b ∧ b ≤ 255) :
    Calls Try.prog 38 #[.slice A n c] w fun e w' => (∃ (x : It) (t : Ty), e = .returned (.tuple #[.agg #[.int .i64 x.id, .int .i64 x.w, .int .i64 x.h, .int .i64 x.d, .int .i64 x.gram, .int .i64 x.cls, .int .i64 x.cnt], .agg #[.int .i64 t.id, .int .i64 t.w, .int .i64 t.h, .int .i64 t.d, .int .i64 t.tare, .int .i64 t.gram, .int .i64 t.cost]])) ∧ Below w.heap.size w w' := by
  have hs2 := ((hs.alloc (Nat.le_refl _) (.cells #[.int .i64 0, .int .i64 0, .int .i64 0, .int .i64 0, .int .i64 0, .int .i64 0, .int .i64 0] 48)).alloc (by simp) (.cells #[.int .i64 0, .int .i64 0, .int .i64 0, .int .i64 0, .int .i64 0, .int .i64 0, .int .i64 0] 53)).more (Nat.le_refl 0) (show w.heap.size ≤ ((w.alloc (.cells #[.int .i64 0, .int .i64 0, .int .i64 0, .int .i64 0, .int .i64 0, .int .i64 0, .int .i64 0] 48)).alloc (.cells #[.int .i64 0, .int .i64 0, .int .i64 0, .int .i64 0, .int .i64 0, .int .i64 0, .int .i64 0] 53)).heap.size by simp; omega)
  go_enter Try.func38, Try.ntmps38
  go_wp2_with fail
  refine (l1New_any A n c bs _ hs2 hb).mono ?_
  rintro e w0 ⟨rfl, hc0, hb0⟩
  have X0 := hide (Blk.belowH ((Blk.new w 48 #[.int .i64 0, .int .i64 0, .int .i64 0, .int .i64 0, .int .i64 0, .int .i64 0, .int .i64 0] rfl).alloc (.cells #[.int .i64 0, .int .i64 0, .int .i64 0, .int .i64 0, .int .i64 0, .int .i64 0, .int .i64 0] 53)) hb0)
  have Y0 := hide (Blk.belowH (Blk.new (w.alloc (.cells #[.int .i64 0, .int .i64 0, .int .i64 0, .int .i64 0, .int .i64 0, .int .i64 0, .int .i64 0] 48)) 53 #[.int .i64 0, .int .i64 0, .int .i64 0, .int .i64 0, .int .i64 0, .int .i64 0, .int .i64 0] (g := w.heap.size + 1) (by simp)) hb0)
  have L0 := hide (show Below w.heap.size w w0 from (by repeat (first | with_reducible exact Below.refl _ _ | with_reducible assumption | with_reducible refine Below.setCell ?_ (by (try simp) <;> omega) _ | with_reducible refine Below.alloc ?_ (by (try simp) <;> omega) _ | with_reducible refine Below.drew ?_ | with_reducible refine below_drewN ?_ _ | with_reducible exact hb0 | with_reducible refine Below.trans ?_ (Below.mono hb0 (by (try simp) <;> omega)))))
  simp only [World.size_alloc] at hc0
  have hgl := hc0.lt
  clear hb0 hs hs2
  go_wp2_with fail
  refine (l2Draw_any _ A n c bs _ hc0).mono ?_
  rintro e w1 ⟨⟨r, A1, n1, c1, A2, n2, c2, A3, n3, c3, rfl, hr, hn1, hn2, hn3⟩, hc1, hg1⟩
  have z1 := hg1.size
  have X1 := hide (X0.out.grown hg1 (fun e => by have e2 : w.heap.size = w.heap.size + 1 + 1 := Option.some.inj e; omega))
  have Y1 := hide (Y0.out.grown hg1 (fun e => by have e2 : w.heap.size + 1 = w.heap.size + 1 + 1 := Option.some.inj e; omega))
  have L1 := hide (L0.out.grown hg1 (by omega) (fun x hx => by have hx2 : w.heap.size + 1 + 1 = x := Option.some.inj hx; omega))
  have HR := hide ((hr.alloc (Nat.le_refl _) (.cells #[.int .i64 r.way, .int .i64 r.pal.w, .int .i64 r.pal.d, .int .i64 r.pal.h, .int .i64 r.pal.gram, .int .i64 r.cls, .slice A1 n1 c1, .slice A2 n2 c2, .int .i64 r.master, .slice A3 n3 c3] 43)).more (show w.heap.size + 3 ≤ w0.heap.size by omega) (Nat.le_refl _))
  have X2 := hide (X1.out.alloc (.cells #[.int .i64 r.way, .int .i64 r.pal.w, .int .i64 r.pal.d, .int .i64 r.pal.h, .int .i64 r.pal.gram, .int .i64 r.cls, .slice A1 n1 c1, .slice A2 n2 c2, .int .i64 r.master, .slice A3 n3 c3] 43))
  have Y2 := hide (Y1.out.alloc (.cells #[.int .i64 r.way, .int .i64 r.pal.w, .int .i64 r.pal.d, .int .i64 r.pal.h, .int .i64 r.pal.gram, .int .i64 r.cls, .slice A1 n1 c1, .slice A2 n2 c2, .int .i64 r.master, .slice A3 n3 c3] 43))
  have B2 := hide (Blk.new w1 43 (#[.int .i64 r.way, .int .i64 r.pal.w, .int .i64 r.pal.d, .int .i64 r.pal.h, .int .i64 r.pal.gram, .int .i64 r.cls, .slice A1 n1 c1, .slice A2 n2 c2, .int .i64 r.master, .slice A3 n3 c3]) rfl)
  have HC2 := hide (hc1.alloc (.cells #[.int .i64 r.way, .int .i64 r.pal.w, .int .i64 r.pal.d, .int .i64 r.pal.h, .int .i64 r.pal.gram, .int .i64 r.cls, .slice A1 n1 c1, .slice A2 n2 c2, .int .i64 r.master, .slice A3 n3 c3] 43))
  have L2 := hide (L1.out.alloc (by omega) (.cells #[.int .i64 r.way, .int .i64 r.pal.w, .int .i64 r.pal.d, .int .i64 r.pal.h, .int .i64 r.pal.gram, .int .i64 r.cls, .slice A1 n1 c1, .slice A2 n2 c2, .int .i64 r.master, .slice A3 n3 c3] 43))
  have hc3 := hr.it.cap
  have hm3 := hr.it.max
  have hc2 := hr.ty.cap
  have hm2 := hr.ty.max
  have kB := B2.out.cell
  have kX := X2.out.cell
  have kY := Y2.out.cell
  have fX := X2.out.frozen
  have fY := Y2.out.frozen
  have lX := X2.out.lt
  have lY := Y2.out.lt
  have lB := B2.out.lt
  clear hr hc1 hg1 hc0 X0 Y0 L0 X1 Y1 L1
  have hs2x : w1.heap.size + 1 ≤ (w1.alloc (Obj.cells #[.int .i64 r.way, .int .i64 r.pal.w, .int .i64 r.pal.d, .int .i64 r.pal.h, .int .i64 r.pal.gram, .int .i64 r.cls, .slice A1 n1 c1, .slice A2 n2 c2, .int .i64 r.master, .slice A3 n3 c3] 43)).heap.size := by simp
  by_cases hn30 : 0 < n3
  · have i3 : ((n3 : Int) == 0) = false := by rw [beq_eq_false_iff_ne]; omega
    by_cases hn20 : 0 < n2
    · have i2 : ((n2 : Int) == 0) = false := by rw [beq_eq_false_iff_ne]; omega
      obtain ⟨bi, oi, x, hx, rfl, _, hbi, g0, g1, g2, g3, g4, g5, g6, _⟩ := HR.out.it.it hn30
      simp only [Nat.zero_mul, Nat.add_zero] at g0 g1 g2 g3 g4 g5 g6
      have HX := hide hx
      obtain ⟨bt, ot, yy, _, rfl, _, hbt, _⟩ := HR.out.ty.ty hn20
      have i4 : (0 : Int) < (n3 : Int) := by omega
      clear hx
      go_wp2_with fail
      refine wp_region_held_drew (S := (fun w' => w'.cell? ⟨w1.heap.size, 9, none⟩ = some (.slice (some ⟨bi, oi, none⟩) n3 c3) ∧ w'.cell? ⟨w1.heap.size, 7, none⟩ = some (.slice (some ⟨bt, ot, none⟩) n2 c2) ∧ w'.cell? ⟨bi, oi, none⟩ = some (.int .i64 x.id) ∧ w'.cell? ⟨bi, oi + 1, none⟩ = some (.int .i64 x.w) ∧ w'.cell? ⟨bi, oi + 2, none⟩ = some (.int .i64 x.h) ∧ w'.cell? ⟨bi, oi + 3, none⟩ = some (.int .i64 x.d) ∧ w'.cell? ⟨bi, oi + 4, none⟩ = some (.int .i64 x.gram) ∧ w'.cell? ⟨bi, oi + 5, none⟩ = some (.int .i64 x.cls) ∧ w'.cell? ⟨bi, oi + 6, none⟩ = some (.int .i64 x.cnt))) (by kernel_rfl) ?hS0 (fun hHeld => ?_)
      case hS0 => (go_keep)
      refine wpAnyH_take (i := 0) (v := ?_) rfl (by kernel_rfl) (by kernel_rfl) (by kernel_rfl) (fun _ _ _ h => h) (Or.inl ⟨by rfl, ?_⟩) (by assumption) ?_
      rotate_left 1
      · intro w hSw
        try dsimp only at hSw
        go_simp
        try with_reducible rfl
      simp only [Act.put, List.getElem_toArray, List.getElem_cons_succ, List.getElem_cons_zero, List.setIfInBounds_toArray, List.set_cons_zero, List.set_cons_succ]
      refine wpAnyH_take (i := 1) (v := ?_) rfl (by kernel_rfl) (by kernel_rfl) (by kernel_rfl) (fun _ _ _ h => h) (Or.inl ⟨by rfl, ?_⟩) (by assumption) ?_
      rotate_left 1
      · intro w hSw
        try dsimp only at hSw
        go_simp
        try with_reducible rfl
      simp only [Act.put, List.getElem_toArray, List.getElem_cons_succ, List.getElem_cons_zero, List.setIfInBounds_toArray, List.set_cons_zero, List.set_cons_succ]
      refine wpAnyH_take (i := 2) (v := ?_) rfl (by kernel_rfl) (by kernel_rfl) (by kernel_rfl) (fun _ _ _ h => h) (Or.inl ⟨by rfl, ?_⟩) (by assumption) ?_
      rotate_left 1
      · intro w hSw
        try dsimp only at hSw
        go_simp
        try with_reducible rfl
      simp only [Act.put, List.getElem_toArray, List.getElem_cons_succ, List.getElem_cons_zero, List.setIfInBounds_toArray, List.set_cons_zero, List.set_cons_succ]
      refine wpAnyH_take (i := 3) (v := ?_) rfl (by kernel_rfl) (by kernel_rfl) (by kernel_rfl) (fun _ _ _ h => h) (Or.inl ⟨by rfl, ?_⟩) (by assumption) ?_
      rotate_left 1
      · intro w hSw
        try dsimp only at hSw
        go_simp
        try with_reducible rfl
      simp only [Act.put, List.getElem_toArray, List.getElem_cons_succ, List.getElem_cons_zero, List.setIfInBounds_toArray, List.set_cons_zero, List.set_cons_succ]
      refine wpAnyH_take (i := 4) (v := ?_) rfl (by kernel_rfl) (by kernel_rfl) (by kernel_rfl) (fun _ _ _ h => h) (Or.inl ⟨by rfl, ?_⟩) (by assumption) ?_
      rotate_left 1
      · intro w hSw
        try dsimp only at hSw
        go_simp
        try with_reducible rfl
      simp only [Act.put, List.getElem_toArray, List.getElem_cons_succ, List.getElem_cons_zero, List.setIfInBounds_toArray, List.set_cons_zero, List.set_cons_succ]
      refine wpAnyH_take (i := 5) (v := ?_) rfl (by kernel_rfl) (by kernel_rfl) (by kernel_rfl) (fun _ _ _ h => h) (Or.inl ⟨by rfl, ?_⟩) (by assumption) ?_
      rotate_left 1
      · intro w hSw
        try dsimp only at hSw
        go_simp
        try with_reducible rfl
      simp only [Act.put, List.getElem_toArray, List.getElem_cons_succ, List.getElem_cons_zero, List.setIfInBounds_toArray, List.set_cons_zero, List.set_cons_succ]
      refine wpAnyH_take (i := 6) (v := ?_) rfl (by kernel_rfl) (by kernel_rfl) (by kernel_rfl) (fun _ _ _ h => h) (Or.inl ⟨by rfl, ?_⟩) (by assumption) ?_
      rotate_left 1
      · intro w hSw
        try dsimp only at hSw
        go_simp
        try with_reducible rfl
      simp only [Act.put, List.getElem_toArray, List.getElem_cons_succ, List.getElem_cons_zero, List.setIfInBounds_toArray, List.set_cons_zero, List.set_cons_succ]
      refine wpAnyH_take (i := 7) (v := ?_) rfl (by kernel_rfl) (by kernel_rfl) (by kernel_rfl) (fun _ _ _ h => h) (Or.inl ⟨by rfl, ?_⟩) (by assumption) ?_
      rotate_left 1
      · intro w hSw
        try dsimp only at hSw
        go_simp
        try with_reducible rfl
      simp only [Act.put, List.getElem_toArray, List.getElem_cons_succ, List.getElem_cons_zero, List.setIfInBounds_toArray, List.set_cons_zero, List.set_cons_succ]
      refine wpAnyH_take (i := 8) (v := ?_) rfl (by kernel_rfl) (by kernel_rfl) (by kernel_rfl) (fun _ _ _ h => h) (Or.inl ⟨by rfl, ?_⟩) (by assumption) ?_
      rotate_left 1
      · intro w hSw
        try dsimp only at hSw
        go_simp
        try with_reducible rfl
      simp only [Act.put, List.getElem_toArray, List.getElem_cons_succ, List.getElem_cons_zero, List.setIfInBounds_toArray, List.set_cons_zero, List.set_cons_succ]
      refine wpAnyH_take (i := 9) (v := ?_) rfl (by kernel_rfl) (by kernel_rfl) (by kernel_rfl) (fun _ _ _ h => h) (Or.inl ⟨by rfl, ?_⟩) (by assumption) ?_
      rotate_left 1
      · intro w hSw
        try dsimp only at hSw
        go_simp
        try with_reducible rfl
      simp only [Act.put, List.getElem_toArray, List.getElem_cons_succ, List.getElem_cons_zero, List.setIfInBounds_toArray, List.set_cons_zero, List.set_cons_succ]
      refine wpAnyH_ready (rs := [10]) (by kernel_rfl) (by simp) ?_
      refine AllReadyH.cons rfl (fun K hK => ?_) AllReadyH.nil
      go_simp
      refine (l1Below_any (n2 : Int) (by omega) (by omega) _ A n c bs _ HC2.out.drew).mono ?_
      rintro e w5 ⟨⟨q, rfl, hq0, hq1⟩, hc5, hg5⟩
      obtain ⟨k, rfl⟩ := Int.eq_ofNat_of_zero_le hq0
      have hkn : k < n2 := by omega
      have hkz : (k : Int) < (n2 : Int) := by omega
      have z5 := hg5.size
      simp only [World.size_drew, World.size_alloc] at z5
      have RR := hide (HR.out.drew.grown hg5 (by simp) (fun z hz => .inl (by have hz2 : w.heap.size + 2 = z := Option.some.inj hz; omega)))
      have B5 := hide (B2.out.drew.grown hg5 (fun e => by have e2 : w1.heap.size = w.heap.size + 2 := Option.some.inj e; omega))
      have X5 := hide (X2.out.drew.grown hg5 (fun e => by have e2 : w.heap.size = w.heap.size + 2 := Option.some.inj e; omega))
      have Y5 := hide (Y2.out.drew.grown hg5 (fun e => by have e2 : w.heap.size + 1 = w.heap.size + 2 := Option.some.inj e; omega))
      have L5 := hide (L2.out.drew.grown hg5 (by (try simp) <;> omega) (fun z hz => by have hz2 : w.heap.size + 2 = z := Option.some.inj hz; omega))
      obtain ⟨bi2, oi2, x2, hx2, e1, _, hbi2, j0, j1, j2, j3, j4, j5, j6, _⟩ := RR.out.it.it hn30
      injection e1 with e1
      injection e1 with e1 e3
      subst e1 e3
      obtain rfl : x2 = x := by have := HX.out; rw [hx2] at this; exact Option.some.inj this
      simp only [Nat.zero_mul, Nat.add_zero] at j0 j1 j2 j3 j4 j5 j6
      obtain ⟨bt2, ot2, y, hy, e1, _, hbt2, t0, t1, t2, t3, t4, t5, t6, _⟩ := RR.out.ty.ty hkn
      injection e1 with e1
      injection e1 with e1 e3
      subst e1 e3
      have k5 := B5.out.cell
      have x5 := X5.out.cell
      have fx5 := X5.out.frozen
      have y5 := Y5.out.cell
      have fy5 := Y5.out.frozen
      have lx := X5.out.lt
      have ly := Y5.out.lt
      have lb := B5.out.lt
      have hne1 : bt ≠ w.heap.size := by omega
      have hne2 : bi ≠ w.heap.size := by omega
      have hne3 : w1.heap.size ≠ w.heap.size := by omega
      have hne4 : w1.heap.size ≠ w.heap.size + 1 := by omega
      have hne5 : bt ≠ w.heap.size + 1 := by omega
      have hne6 : bi ≠ w.heap.size + 1 := by omega
      have hnf1 : w.heap.size ≠ bt := by omega
      have hnf2 : w.heap.size ≠ bi := by omega
      have hnf3 : w.heap.size ≠ w1.heap.size := by omega
      have hnf4 : w.heap.size + 1 ≠ w1.heap.size := by omega
      have hnf5 : w.heap.size + 1 ≠ bt := by omega
      have hnf6 : w.heap.size + 1 ≠ bi := by omega
      clear hx2 hy hc5 hg5 kB kX kY
      go_wp2_with fail
      refine hK.out _ _ ?hS1 (fun hHeld => ?_)
      case hS1 => (try dsimp only); (first | (with_reducible assumption) | go_keep)
      clear hK K
      try simp only [Act.put, List.getElem_toArray, List.getElem_cons_succ, List.getElem_cons_zero, List.setIfInBounds_toArray, List.set_cons_zero, List.set_cons_succ]
      refine wpAnyH_take (i := 11) (v := ?_) rfl (by kernel_rfl) (by kernel_rfl) (by kernel_rfl) (fun _ _ _ h => h) (Or.inl ⟨by rfl, ?_⟩) (by assumption) ?_
      rotate_left 1
      · intro w hSw
        try dsimp only at hSw
        go_simp
        try with_reducible rfl
      simp only [Act.put, List.getElem_toArray, List.getElem_cons_succ, List.getElem_cons_zero, List.setIfInBounds_toArray, List.set_cons_zero, List.set_cons_succ]
      refine wpAnyH_ready (rs := [12, 13]) (by kernel_rfl) (by simp) ?_
      refine AllReadyH.cons rfl (fun K hK => ?_) ?_
      · skip
        go_simp
        refine hK.out _ _ ?hS1 (fun hHeld => ?_)
        case hS1 => (try dsimp only); (first | (with_reducible assumption) | go_keep)
        clear hK K
        try simp only [Act.put, List.getElem_toArray, List.getElem_cons_succ, List.getElem_cons_zero, List.setIfInBounds_toArray, List.set_cons_zero, List.set_cons_succ]
        refine wpAnyH_ready (rs := [13]) (by kernel_rfl) (by simp) ?_
        refine AllReadyH.cons rfl (fun K hK => ?_) AllReadyH.nil
        go_simp
        refine hK.out _ _ ?hS1 (fun hHeld => ?_)
        case hS1 => (try dsimp only); (first | (with_reducible assumption) | go_keep)
        clear hK K
        try simp only [Act.put, List.getElem_toArray, List.getElem_cons_succ, List.getElem_cons_zero, List.setIfInBounds_toArray, List.set_cons_zero, List.set_cons_succ]
        refine wpAnyH_ready (rs := [14]) (by kernel_rfl) (by simp) ?_
        refine AllReadyH.cons rfl (fun K hK => ?_) AllReadyH.nil
        go_simp
        refine hK.out _ _ ?hS1 (fun hHeld => ?_)
        case hS1 => (try dsimp only); (first | (with_reducible assumption) | go_keep)
        clear hK K
        try simp only [Act.put, List.getElem_toArray, List.getElem_cons_succ, List.getElem_cons_zero, List.setIfInBounds_toArray, List.set_cons_zero, List.set_cons_succ]
        refine wpAnyH_done (by kernel_rfl) ?_ _
        clear k5 x5 fx5 y5 fy5 j0 j1 j2 j3 j4 j5 j6 t0 t1 t2 t3 t4 t5 t6
        go_wp2_with fail
        obtain ⟨hX1, hgx⟩ := st7 X5.out (.int .i64 x2.id) (.int .i64 x2.w) (.int .i64 x2.h) (.int .i64 x2.d) (.int .i64 x2.gram) (.int .i64 x2.cls) (.int .i64 x2.cnt)
        obtain ⟨hY1, hgy⟩ := st7 (Y5.out.grown hgx (fun e => by have e2 : w.heap.size + 1 = w.heap.size := Option.some.inj e; omega)) (.int .i64 y.id) (.int .i64 y.w) (.int .i64 y.h) (.int .i64 y.d) (.int .i64 y.tare) (.int .i64 y.gram) (.int .i64 y.cost)
        have hX2 := hX1.grown hgy (fun e => by have e2 : w.heap.size = w.heap.size + 1 := Option.some.inj e; omega)
        refine ret_cellcell Try.results38 rfl hX2 Try.underlying48 rfl (by kernel_rfl) rfl hY1 Try.underlying53 rfl (by kernel_rfl) rfl ?_
        exact ⟨⟨⟨x2.id, x2.w, x2.h, x2.d, x2.gram, x2.cls, x2.cnt⟩, ⟨y.id, y.w, y.h, y.d, y.tare, y.gram, y.cost⟩, rfl⟩, (L5.out.grown hgx (by (try simp) <;> omega) (fun z hz => by have hz2 : w.heap.size = z := Option.some.inj hz; omega)).grown hgy (by (try simp) <;> omega) (fun z hz => by have hz2 : w.heap.size + 1 = z := Option.some.inj hz; omega)⟩
      refine AllReadyH.cons rfl (fun K hK => ?_) ?_
      · skip
        go_simp
        refine hK.out _ _ ?hS1 (fun hHeld => ?_)
        case hS1 => (try dsimp only); (first | (with_reducible assumption) | go_keep)
        clear hK K
        try simp only [Act.put, List.getElem_toArray, List.getElem_cons_succ, List.getElem_cons_zero, List.setIfInBounds_toArray, List.set_cons_zero, List.set_cons_succ]
        refine wpAnyH_ready (rs := [12]) (by kernel_rfl) (by simp) ?_
        refine AllReadyH.cons rfl (fun K hK => ?_) AllReadyH.nil
        go_simp
        refine hK.out _ _ ?hS1 (fun hHeld => ?_)
        case hS1 => (try dsimp only); (first | (with_reducible assumption) | go_keep)
        clear hK K
        try simp only [Act.put, List.getElem_toArray, List.getElem_cons_succ, List.getElem_cons_zero, List.setIfInBounds_toArray, List.set_cons_zero, List.set_cons_succ]
        refine wpAnyH_ready (rs := [14]) (by kernel_rfl) (by simp) ?_
        refine AllReadyH.cons rfl (fun K hK => ?_) AllReadyH.nil
        go_simp
        refine hK.out _ _ ?hS1 (fun hHeld => ?_)
        case hS1 => (try dsimp only); (first | (with_reducible assumption) | go_keep)
        clear hK K
        try simp only [Act.put, List.getElem_toArray, List.getElem_cons_succ, List.getElem_cons_zero, List.setIfInBounds_toArray, List.set_cons_zero, List.set_cons_succ]
        refine wpAnyH_done (by kernel_rfl) ?_ _
        clear k5 x5 fx5 y5 fy5 j0 j1 j2 j3 j4 j5 j6 t0 t1 t2 t3 t4 t5 t6
        go_wp2_with fail
        obtain ⟨hX1, hgx⟩ := st7 X5.out (.int .i64 x2.id) (.int .i64 x2.w) (.int .i64 x2.h) (.int .i64 x2.d) (.int .i64 x2.gram) (.int .i64 x2.cls) (.int .i64 x2.cnt)
        obtain ⟨hY1, hgy⟩ := st7 (Y5.out.grown hgx (fun e => by have e2 : w.heap.size + 1 = w.heap.size := Option.some.inj e; omega)) (.int .i64 y.id) (.int .i64 y.w) (.int .i64 y.h) (.int .i64 y.d) (.int .i64 y.tare) (.int .i64 y.gram) (.int .i64 y.cost)
        have hX2 := hX1.grown hgy (fun e => by have e2 : w.heap.size = w.heap.size + 1 := Option.some.inj e; omega)
        refine ret_cellcell Try.results38 rfl hX2 Try.underlying48 rfl (by kernel_rfl) rfl hY1 Try.underlying53 rfl (by kernel_rfl) rfl ?_
        exact ⟨⟨⟨x2.id, x2.w, x2.h, x2.d, x2.gram, x2.cls, x2.cnt⟩, ⟨y.id, y.w, y.h, y.d, y.tare, y.gram, y.cost⟩, rfl⟩, (L5.out.grown hgx (by (try simp) <;> omega) (fun z hz => by have hz2 : w.heap.size = z := Option.some.inj hz; omega)).grown hgy (by (try simp) <;> omega) (fun z hz => by have hz2 : w.heap.size + 1 = z := Option.some.inj hz; omega)⟩
      exact AllReadyH.nil
    · obtain rfl : n2 = 0 := by omega
      go_wp2_with fail
      refine (l1Below_any 3 (by omega) (by omega) _ A n c bs _ HC2.out).mono ?_
      rintro e w5 ⟨⟨q, rfl, hq0, hq1⟩, hc5, hg5⟩
      have X5 := hide (X2.out.grown hg5 (fun e => by have e2 : w.heap.size = w.heap.size + 2 := Option.some.inj e; omega))
      have Y5 := hide (Y2.out.grown hg5 (fun e => by have e2 : w.heap.size + 1 = w.heap.size + 2 := Option.some.inj e; omega))
      have z5 := hg5.size
      have L5 := hide (L2.out.grown hg5 (by (try simp) <;> omega) (fun z hz => by have hz2 : w.heap.size + 2 = z := Option.some.inj hz; omega))
      clear kB kX kY fX fY hc5 hg5
      have x5 := X5.out.cell
      have fx5 := X5.out.frozen
      have y5 := Y5.out.cell
      have fy5 := Y5.out.frozen
      have lx := X5.out.lt
      have ly := Y5.out.lt
      go_wp2_with fail
      clear x5 fx5 y5 fy5
      obtain ⟨hX1, hgx⟩ := st7 X5.out (.int .i64 0) (.int .i64 q) (.int .i64 0) (.int .i64 0) (.int .i64 0) (.int .i64 0) (.int .i64 0)
      obtain ⟨hY1, hgy⟩ := st7 (Y5.out.grown hgx (fun e => by have e2 : w.heap.size + 1 = w.heap.size := Option.some.inj e; omega)) (.int .i64 0) (.int .i64 1) (.int .i64 1) (.int .i64 1) (.int .i64 0) (.int .i64 0) (.int .i64 0)
      have hX2 := hX1.grown hgy (fun e => by have e2 : w.heap.size = w.heap.size + 1 := Option.some.inj e; omega)
      refine ret_cellcell Try.results38 rfl hX2 Try.underlying48 rfl (by kernel_rfl) rfl hY1 Try.underlying53 rfl (by kernel_rfl) rfl ?_
      exact ⟨⟨⟨0, q, 0, 0, 0, 0, 0⟩, ⟨0, 1, 1, 1, 0, 0, 0⟩, rfl⟩, (L5.out.grown hgx (by (try simp) <;> omega) (fun z hz => by have hz2 : w.heap.size = z := Option.some.inj hz; omega)).grown hgy (by (try simp) <;> omega) (fun z hz => by have hz2 : w.heap.size + 1 = z := Option.some.inj hz; omega)⟩
  · obtain rfl : n3 = 0 := by omega
    go_wp2_with fail
    refine (l1Below_any 3 (by omega) (by omega) _ A n c bs _ HC2.out).mono ?_
    rintro e w5 ⟨⟨q, rfl, hq0, hq1⟩, hc5, hg5⟩
    have X5 := hide (X2.out.grown hg5 (fun e => by have e2 : w.heap.size = w.heap.size + 2 := Option.some.inj e; omega))
    have Y5 := hide (Y2.out.grown hg5 (fun e => by have e2 : w.heap.size + 1 = w.heap.size + 2 := Option.some.inj e; omega))
    have z5 := hg5.size
    have L5 := hide (L2.out.grown hg5 (by (try simp) <;> omega) (fun z hz => by have hz2 : w.heap.size + 2 = z := Option.some.inj hz; omega))
    clear kB kX kY fX fY hc5 hg5
    have x5 := X5.out.cell
    have fx5 := X5.out.frozen
    have y5 := Y5.out.cell
    have fy5 := Y5.out.frozen
    have lx := X5.out.lt
    have ly := Y5.out.lt
    go_wp2_with fail
    clear x5 fx5 y5 fy5
    obtain ⟨hX1, hgx⟩ := st7 X5.out (.int .i64 0) (.int .i64 q) (.int .i64 0) (.int .i64 0) (.int .i64 0) (.int .i64 0) (.int .i64 0)
    obtain ⟨hY1, hgy⟩ := st7 (Y5.out.grown hgx (fun e => by have e2 : w.heap.size + 1 = w.heap.size := Option.some.inj e; omega)) (.int .i64 0) (.int .i64 1) (.int .i64 1) (.int .i64 1) (.int .i64 0) (.int .i64 0) (.int .i64 0)
    have hX2 := hX1.grown hgy (fun e => by have e2 : w.heap.size = w.heap.size + 1 := Option.some.inj e; omega)
    refine ret_cellcell Try.results38 rfl hX2 Try.underlying48 rfl (by kernel_rfl) rfl hY1 Try.underlying53 rfl (by kernel_rfl) rfl ?_
    exact ⟨⟨⟨0, q, 0, 0, 0, 0, 0⟩, ⟨0, 1, 1, 1, 0, 0, 0⟩, rfl⟩, (L5.out.grown hgx (by (try simp) <;> omega) (fun z hz => by have hz2 : w.heap.size = z := Option.some.inj hz; omega)).grown hgy (by (try simp) <;> omega) (fun z hz => by have hz2 : w.heap.size + 1 = z := Option.some.inj hz; omega)⟩
end Go.Proofs.Ytojmkkcjjlppiaa
