/- An order that is drawn, right or bent. Written by gen/gen_dw.py. -/
import Derived.Test.YtcjcmdikopipjaaDoorDr3
namespace Go.Proofs.YtcjcmdikopipjaaDoor
open Go.ChangeShapes Go.WideShapes Go.ChangeAt Go.RowKit Go.Deep
set_option linter.unusedVariables false
set_option linter.unusedSimpArgs false

theorem own_at1 {α : Type} {k : Nat} {enc : α → List Value} {w : World} {base n : Nat} {e : TypeId} {v : Value} {zs : List α} (h : Own k enc e w base v zs) (hn : zs.length = n) (h0 : 0 < n) : ∃ g cap, v = .slice (some ⟨g, 0, none⟩) n cap ∧ base ≤ g ∧ g < w.heap.size := by
  obtain ⟨_, h2⟩ := h
  rcases h2 with ⟨h2, h3⟩ | ⟨g, cap, cur, hv, hg, hh, hnc, hcm, _⟩
  · omega
  · subst hn
    exact ⟨g, cap, hv, hg, (Array.getElem?_eq_some_iff.1 hh).1⟩
theorem Mk.app2 {T TR : TypeId} {zr : Array Value} {w wr w' : World} {g : Nat} {A : Option Addr} {n c : Nat} {bs : List Int} {b : Nat} {cs : Array Value} {r : Option Nat} (h : Mk T TR zr w wr g A n c bs b cs) (hg : wr.grownBy w' r) (hr : ∀ x, r = some x → w.heap.size < x ∧ x < b) : Mk T TR zr w w' g A n c bs b cs :=
  ⟨h.cur.grown hg (fun x hx => by have := (hr x hx).1; have := h.lo; omega), grown_far h.gr hg (fun x hx => by have := (hr x hx).1; omega), h.box.grown hg (fun e => by have := (hr b e.symm).2; omega), h.res.grown hg (fun e => by have := (hr _ e.symm).1; omega), h.lo, h.hi⟩
theorem slk_of_own2 {α : Type} {k : Nat} {enc : α → List Value} (hk : ∀ x, (enc x).length = k) {w : World} {base n c b : Nat} {e : TypeId} {A : Option Addr} {xs : List α} (h : Own k enc e w base (.slice A n c) xs) (hn : xs.length = n) (hb : ∀ x, (Value.slice A n c).ownBlock = some x → x < b) : SlK k enc w base b A n c xs := by
  obtain ⟨h1, h2, h3, h4⟩ := slk_of_own hk h hn
  refine ⟨h1, h2, h3, fun hp => ?_⟩
  obtain ⟨b', off, rfl, hl, hb', hc⟩ := h4 hp
  exact ⟨b', off, rfl, hl, hb b' rfl, hc⟩
theorem slk_box {α : Type} {k : Nat} {enc : α → List Value} {w : World} {lo b n c : Nat} {A : Option Addr} {xs : List α} (h : SlK k enc w lo b A n c xs) (hb : b ≤ w.heap.size) (i : Nat) (v : Value) : SlK k enc (w.setCell ⟨b, i, none⟩ v) lo (w.setCell ⟨b, i, none⟩ v).heap.size A n c xs :=
  (h.grown (grown_set w b i v) hb (fun z hz => .inr (by have hx2 : b = z := Option.some.inj hz; omega))).more (Nat.le_refl _) (by simp; omega)
theorem ty_at0 {w : World} {lo hi gt n c : Nat} {xs : List Ty} {y : Ty} (h : SlK 7 encTy w lo hi (some ⟨gt, 0, none⟩) n c xs) (hn : 0 < n) (hy : xs[0]? = some y) :
    w.cell? ⟨gt, 0, none⟩ = some (.int .i64 y.id) ∧ w.cell? ⟨gt, 1, none⟩ = some (.int .i64 y.w) ∧ w.cell? ⟨gt, 2, none⟩ = some (.int .i64 y.h) ∧ w.cell? ⟨gt, 3, none⟩ = some (.int .i64 y.d) ∧ w.cell? ⟨gt, 4, none⟩ = some (.int .i64 y.tare) ∧ w.cell? ⟨gt, 5, none⟩ = some (.int .i64 y.gram) ∧ w.cell? ⟨gt, 6, none⟩ = some (.int .i64 y.cost) := by
  obtain ⟨b, off, y', hy', e, _, _, t0, t1, t2, t3, t4, t5, t6, _⟩ := h.ty hn
  injection e with e
  injection e with e1 e2
  subst e1 e2
  rw [hy] at hy'
  injection hy' with hy'
  subst hy'
  simp only [Nat.zero_mul, Nat.zero_add] at t0 t1 t2 t3 t4 t5 t6
  exact ⟨t0, t1, t2, t3, t4, t5, t6⟩
theorem slk_fin {α : Type} {k : Nat} {enc : α → List Value} {W W' : World} {s : Nat} {A : Option Addr} {n c : Nat} {xs : List α} (h : SlK k enc W (s + 1) W.heap.size A n c xs) (hg : W.grownBy W' (some s)) : SlK k enc W' s W'.heap.size A n c xs :=
  (h.grown hg (Nat.le_refl _) (fun x hx => by have hx2 : s = x := Option.some.inj hx; omega)).more (by omega) hg.size
theorem Mk.far2 {T TR : TypeId} {zr : Array Value} {w wr : World} {g : Nat} {A : Option Addr} {n c : Nat} {bs : List Int} {b : Nat} {cs : Array Value} (h : Mk T TR zr w wr g A n c bs b cs) {p : Addr} (hp : w.heap.size < p.block) (hp2 : p.block < b) (v : Value) : Mk T TR zr w (wr.setCell p v) g A n c bs b cs :=
  ⟨h.cur.far (by have := h.lo; omega) v, grown_far h.gr (by obtain ⟨pb, po, ps⟩ := p; exact ⟨rfl, rfl, rfl, by simp, fun k hk hne => Below.heap_setCell wr ⟨pb, po, ps⟩ v k (fun e => hne (by rw [e]))⟩ : wr.grownBy (wr.setCell p v) (some p.block)) (fun x hx => by have hx2 : p.block = x := Option.some.inj hx; omega), h.box.far (by omega) v, h.res.far (by omega) v, h.lo, h.hi⟩
theorem own_ne {α : Type} {k : Nat} {enc : α → List Value} {w w' : World} {e : TypeId} {base : Nat} {v : Value} {xs : List α} {r : Option Nat} (h : Own k enc e w base v xs) (hg : w.grownBy w' r) (hne : ∀ x, r = some x → v.ownBlock ≠ some x) : Own k enc e w' base v xs :=
  h.grown hg (by
    cases hc : v.ownBlock with
    | none => exact .inl rfl
    | some x => exact .inr fun e => hne x e.symm hc)
theorem mul_add_inj {k i i' j j' : Nat} (hj : j < k) (hj' : j' < k) (h : i * k + j = i' * k + j') : i = i' ∧ j = j' := by
  have h1 : (i * k + j) / k = i := by rw [Nat.mul_comm, Nat.mul_add_div (by omega), Nat.div_eq_of_lt hj, Nat.add_zero]
  have h2 : (i' * k + j') / k = i' := by rw [Nat.mul_comm, Nat.mul_add_div (by omega), Nat.div_eq_of_lt hj', Nat.add_zero]
  have e : i = i' := by rw [← h1, h, h2]
  subst e
  exact ⟨rfl, by omega⟩
/-- One cell of an element is written. -/
theorem slk_set {α : Type} {k : Nat} {enc : α → List Value} {w : World} {lo hi b off n c i j : Nat} {xs : List α} {upd : α → α} {v : Value} (hk : ∀ x, (enc x).length = k) (hu : ∀ x, enc (upd x) = (enc x).set j v) (h : SlK k enc w lo hi (some ⟨b, off, none⟩) n c xs) (hi' : i < n) (hj : j < k) :
    SlK k enc (w.setCell ⟨b, off + i * k + j, none⟩ v) lo hi (some ⟨b, off, none⟩) n c (xs.modify i upd) := by
  obtain ⟨h1, h2, h3, h4⟩ := h
  refine ⟨by rw [List.length_modify]; exact h1, h2, h3, fun hn => ?_⟩
  obtain ⟨b', off', hA, hl, hb, hc⟩ := h4 hn
  injection hA with hA
  injection hA with e1 e2
  subst e1 e2
  refine ⟨b, off, rfl, hl, hb, fun i' x hx j' u hu' => ?_⟩
  have hj' : j' < k := by have := (List.getElem?_eq_some_iff.1 hu').1; rwa [hk] at this
  rw [List.getElem?_modify] at hx
  have hfz : ∀ q, (w.setCell ⟨b, off + i * k + j, none⟩ v).frozen? ⟨b, q, none⟩ = w.frozen? ⟨b, q, none⟩ := fun q => World.frozen?_setCell _ _ _ _
  by_cases e : i = i'
  · subst e
    obtain ⟨x0, hx0, rfl⟩ : ∃ x0, xs[i]? = some x0 ∧ upd x0 = x := by simpa using hx
    rw [hu] at hu'
    by_cases ej : j = j'
    · subst ej
      rw [List.getElem?_set_self (by rw [hk]; exact hj)] at hu'
      injection hu' with hu'
      subst hu'
      have hjx : j < (enc x0).length := by rw [hk]; exact hj
      have hold := hc i x0 hx0 j (enc x0)[j] (List.getElem?_eq_getElem hjx)
      exact ⟨World.cell?_setCell_same _ _ _ hold.1, by rw [hfz]; exact hold.2⟩
    · rw [List.getElem?_set_ne ej] at hu'
      have hold := hc i x0 hx0 j' u hu'
      exact ⟨(World.cell?_setCell_other w ⟨b, off + i * k + j, none⟩ ⟨b, off + i * k + j', none⟩ v (by intro e; injection e with _ e _; omega)).trans hold.1, by rw [hfz]; exact hold.2⟩
  · have hold := hc i' x (by simpa [e] using hx) j' u hu'
    exact ⟨(World.cell?_setCell_other w ⟨b, off + i * k + j, none⟩ ⟨b, off + i' * k + j', none⟩ v (by intro e2; injection e2 with _ e2 _; exact e (mul_add_inj hj hj' (by omega)).1)).trans hold.1, by rw [hfz]; exact hold.2⟩
theorem slk_tail {w : World} {lo hi b o n c : Nat} {xs : List Pr} (h : SlK 2 encPr w lo hi (some ⟨b, o, none⟩) n c xs) (hn : 0 < n) : ∃ ps : List Pr, SlK 2 encPr w lo hi (some ⟨b, o + 2, none⟩) (n - 1) (c - 1) ps := by
  rcases Nat.lt_or_ge 1 n with h1 | h1
  · obtain ⟨b', o', e, _, hd⟩ := h.drop_ h1
    injection e with e
    injection e with e1 e2
    subst e1 e2
    exact ⟨_, hd⟩
  · rw [show n - 1 = 0 by omega]
    exact ⟨[], SlK.nil_ (by have := h.max; unfold maxLen; omega)⟩
set_option maxRecDepth 20000 in
set_option maxHeartbeats 4000000 in
theorem l2Draw_any (g : Nat) (A : Option Addr) (n c : Nat) (bs : List Int) (w : World) (hc : CurAt 128 w g A n c bs) :
    Calls Tryd.prog 63 #[.pointer (some ⟨g, 0, none⟩)] w fun e w' => (∃ (r : Rq) (A1 : Option Addr) (n1 c1 : Nat) (A2 : Option Addr) (n2 c2 : Nat) (A3 : Option Addr) (n3 c3 : Nat), e = .returned (.agg #[.int .i64 r.way, .int .i64 r.pal.w, .int .i64 r.pal.d, .int .i64 r.pal.h, .int .i64 r.pal.gram, .int .i64 r.cls, .slice A1 n1 c1, .slice A2 n2 c2, .int .i64 r.master, .slice A3 n3 c3]) ∧ RqAt w' w.heap.size w'.heap.size r A1 n1 c1 A2 n2 c2 A3 n3 c3 ∧ n1 ≤ 33 ∧ n2 ≤ 6 ∧ n3 ≤ 6) ∧ CurAt 128 w' g A n c bs ∧ w.grownBy w' (some g) := by
  have hgl := hc.lt
  go_enter Tryd.func63, Tryd.ntmps63
  go_wp2_with fail
  refine (l2Right_any g A n c bs _ (hc.alloc _)).mono ?_
  rintro e w1 ⟨⟨r, A1, n1, c1, A2, n2, c2, A3, n3, c3, rfl, hr, hn1, hn2, hn2b, hn3⟩, hc1, hg1⟩
  have z1 : w.heap.size + 1 ≤ w1.heap.size := by simpa using hg1.size
  go_wp2_with fail
  have M0 := hide (show Mk 128 41 rqZero w (w1.alloc (Obj.cells (#[.int .i64 r.way, .int .i64 r.pal.w, .int .i64 r.pal.d, .int .i64 r.pal.h, .int .i64 r.pal.gram, .int .i64 r.cls, .slice A1 n1 c1, .slice A2 n2 c2, .int .i64 r.master, .slice A3 n3 c3]) 41)) g A n c bs w1.heap.size (rqCells r.way r.pal.w r.pal.d r.pal.h r.pal.gram r.cls (.slice A1 n1 c1) (.slice A2 n2 c2) r.master (.slice A3 n3 c3)) from
    ⟨hc1.alloc _, grown_trans (grown_trans (grown_alloc _ _ _) hg1) (grown_alloc _ _ _), Blk.new _ _ _ rfl, (Blk.grown (Blk.new w 41 rqZero rfl) hg1 (fun e => by injection e with e; omega)).alloc _, hgl, by omega⟩)
  have hr2 := hr
  simp only [World.size_alloc] at hr2
  have HP0 := hide (hr2.pr.alloc (.cells (#[.int .i64 r.way, .int .i64 r.pal.w, .int .i64 r.pal.d, .int .i64 r.pal.h, .int .i64 r.pal.gram, .int .i64 r.cls, .slice A1 n1 c1, .slice A2 n2 c2, .int .i64 r.master, .slice A3 n3 c3]) 41))
  have HT0 := hide (hr2.ty.alloc (.cells (#[.int .i64 r.way, .int .i64 r.pal.w, .int .i64 r.pal.d, .int .i64 r.pal.h, .int .i64 r.pal.gram, .int .i64 r.cls, .slice A1 n1 c1, .slice A2 n2 c2, .int .i64 r.master, .slice A3 n3 c3]) 41))
  have HI0 := hide (hr2.it.alloc (.cells (#[.int .i64 r.way, .int .i64 r.pal.w, .int .i64 r.pal.d, .int .i64 r.pal.h, .int .i64 r.pal.gram, .int .i64 r.cls, .slice A1 n1 c1, .slice A2 n2 c2, .int .i64 r.master, .slice A3 n3 c3]) 41))
  have hd1 := hr.l1
  have hd2 := hr.l2
  have hd3 := hr.l3
  have D12 := hide hr.d12
  have D13 := hide hr.d13
  have D23 := hide hr.d23
  have HD1 := hide (fun x hx => (hr.pr.lt x hx).2)
  have HD2 := hide (fun x hx => (hr.ty.lt x hx).2)
  have HD3 := hide (fun x hx => (hr.it.lt x hx).2)
  have hd1' := hide hd1
  have hd2' := hide hd2
  have hd3' := hide hd3
  clear hr hr2 hc1 hg1 hc hd1 hd2 hd3
  refine (l1PickInt_any (some ⟨w1.heap.size + 1, 0, none⟩) 6 6 [-1, 0, 2001, 100001, 1000, 9223372036854775807] (w1.heap.size + 1) (w1.heap.size + 2) (by omega) (by omega) g A n c bs _ (slk_newg encInt_len _ [-1, 0, 2001, 100001, 1000, 9223372036854775807] 6 _ _ (by simp) rfl (by simp [maxLen]) rfl) (by simp) (.inl (by omega)) (M0.out.cur.alloc _)).mono ?_
  rintro e' w9 ⟨⟨far, rfl, _⟩, hc9, hg9⟩
  have M1 := hide ((M0.out.alloc _).call hc9 hg9)
  have HP1 := hide (own_call (HP0.out.alloc _) hg9 (fun x hx => by have hx2 : g = x := Option.some.inj hx; omega))
  have HT1 := hide (own_call (HT0.out.alloc _) hg9 (fun x hx => by have hx2 : g = x := Option.some.inj hx; omega))
  have HI1 := hide (own_call (HI0.out.alloc _) hg9 (fun x hx => by have hx2 : g = x := Option.some.inj hx; omega))
  clear hc9 hg9 M0 HP0 HT0 HI0
  generalize w1.heap.size = b at *
  go_wp2_with fail
  refine (l1Below_any 20 (by omega) (by omega) g A n c bs _ M1.out.cur).mono ?_
  rintro e' wr ⟨⟨k, rfl, hk0, hk1⟩, hc9, hg9⟩
  have M2 := hide (M1.out.call hc9 hg9)
  have HP2 := hide (own_call HP1.out hg9 (fun x hx => by have hx2 : g = x := Option.some.inj hx; omega))
  have HT2 := hide (own_call HT1.out hg9 (fun x hx => by have hx2 : g = x := Option.some.inj hx; omega))
  have HI2 := hide (own_call HI1.out hg9 (fun x hx => by have hx2 : g = x := Option.some.inj hx; omega))
  have hd1 := hd1'.out
  have hd2 := hd2'.out
  have hd3 := hd3'.out
  have HL1 := hide hd1
  have HL2 := hide hd2
  have HL3 := hide hd3
  clear hc9 hg9 M1 HP1 HT1 HI1
  by_cases hk_0 : k = 0
  · subst hk_0
    have kB := M2.out.box.cell
    have fB := M2.out.box.frozen
    unfold rqCells at kB
    have yB := M2.out.lt
    have kZ := M2.out.res.cell
    have fZ := M2.out.res.frozen
    unfold rqZero at kZ
    have yZ := M2.out.res.lt
    have yH := M2.out.hi
    have hd1 := HL1.out
    have hd2 := HL2.out
    have hd3 := HL3.out
    go_wp2_with fail
    refine (l1PickInt_any (some ⟨wr.heap.size, 0, none⟩) 2 2 [-1, 2] wr.heap.size (wr.heap.size + 1) (by omega) (by omega) g A n c bs _ (slk_new encInt_len _ [-1, 2] 2 _ _ rfl (by simp [maxLen]) rfl) (by simp) (.inl (by have := M2.out.lt; omega)) (M2.out.cur.alloc _)).mono ?_
    rintro e' w9 ⟨⟨xv, rfl, _⟩, hc9, hg9⟩
    have M3 := hide ((M2.out.alloc _).call hc9 hg9)
    have HP3 := hide (own_call (HP2.out.alloc _) hg9 (fun x hx => by have hx2 : g = x := Option.some.inj hx; omega))
    have HT3 := hide (own_call (HT2.out.alloc _) hg9 (fun x hx => by have hx2 : g = x := Option.some.inj hx; omega))
    have HI3 := hide (own_call (HI2.out.alloc _) hg9 (fun x hx => by have hx2 : g = x := Option.some.inj hx; omega))
    clear kB fB kZ fZ yB yZ yH hc9 hg9 M2 HP2 HT2 HI2
    have kB := M3.out.box.cell
    have fB := M3.out.box.frozen
    unfold rqCells at kB
    have yB := M3.out.lt
    have kZ := M3.out.res.cell
    have fZ := M3.out.res.frozen
    unfold rqZero at kZ
    have yZ := M3.out.res.lt
    have yH := M3.out.hi
    go_wp2_with fail
    have MF := hide (show Mk 128 41 rqZero w (_) g A n c bs b (rqCells xv r.pal.w r.pal.d r.pal.h r.pal.gram r.cls (.slice A1 n1 c1) (.slice A2 n2 c2) r.master (.slice A3 n3 c3)) from M3.out.set 0 (.int .i64 xv))
    have hz10 := MF.out.res
    unfold rqZero at hz10
    obtain ⟨hB10, hg10⟩ := st10 hz10 (.int .i64 xv) (.int .i64 r.pal.w) (.int .i64 r.pal.d) (.int .i64 r.pal.h) (.int .i64 r.pal.gram) (.int .i64 r.cls) (.slice A1 n1 c1) (.slice A2 n2 c2) (.int .i64 r.master) (.slice A3 n3 c3)
    have hlo := MF.out.lo
    have hhi := MF.out.hi
    refine ret_cell Tryd.results63 rfl hB10 Tryd.underlying41 rfl (by kernel_rfl) rfl ?_
    refine ⟨⟨⟨xv, ⟨r.pal.w, r.pal.d, r.pal.h, r.pal.gram⟩, r.cls, r.pairs, r.types, r.master, r.items⟩, _, _, _, _, _, _, _, _, _, rfl, ⟨slk_fin (slk_of_own encPr_len (own_far HP3.out (grown_set _ b 0 (.int .i64 xv)) HD1.out (fun x hx => by have hx2 : b = x := Option.some.inj hx; omega)) hd1) hg10, slk_fin (slk_of_own encTy_len (own_far HT3.out (grown_set _ b 0 (.int .i64 xv)) HD2.out (fun x hx => by have hx2 : b = x := Option.some.inj hx; omega)) hd2) hg10, slk_fin (slk_of_own encIt_len (own_far HI3.out (grown_set _ b 0 (.int .i64 xv)) HD3.out (fun x hx => by have hx2 : b = x := Option.some.inj hx; omega)) hd3) hg10⟩, (by omega), (by omega), (by omega)⟩, MF.out.cur.grown hg10 (fun x hx => by have hx2 : w.heap.size = x := Option.some.inj hx; omega), grown_far MF.out.gr hg10 (fun x hx => by have hx2 : w.heap.size = x := Option.some.inj hx; omega)⟩
  by_cases hk_1 : k = 1
  · subst hk_1
    have kB := M2.out.box.cell
    have fB := M2.out.box.frozen
    unfold rqCells at kB
    have yB := M2.out.lt
    have kZ := M2.out.res.cell
    have fZ := M2.out.res.frozen
    unfold rqZero at kZ
    have yZ := M2.out.res.lt
    have yH := M2.out.hi
    have hd1 := HL1.out
    have hd2 := HL2.out
    have hd3 := HL3.out
    have M3 := M2
    have HP3 := HP2
    have HT3 := HT2
    have HI3 := HI2
    clear M2 HP2 HT2 HI2
    go_wp2_with fail
    have MF := hide (show Mk 128 41 rqZero w (_) g A n c bs b (rqCells r.way far r.pal.d r.pal.h r.pal.gram r.cls (.slice A1 n1 c1) (.slice A2 n2 c2) r.master (.slice A3 n3 c3)) from M3.out.set 1 (.int .i64 far))
    have hz10 := MF.out.res
    unfold rqZero at hz10
    obtain ⟨hB10, hg10⟩ := st10 hz10 (.int .i64 r.way) (.int .i64 far) (.int .i64 r.pal.d) (.int .i64 r.pal.h) (.int .i64 r.pal.gram) (.int .i64 r.cls) (.slice A1 n1 c1) (.slice A2 n2 c2) (.int .i64 r.master) (.slice A3 n3 c3)
    have hlo := MF.out.lo
    have hhi := MF.out.hi
    refine ret_cell Tryd.results63 rfl hB10 Tryd.underlying41 rfl (by kernel_rfl) rfl ?_
    refine ⟨⟨⟨r.way, ⟨far, r.pal.d, r.pal.h, r.pal.gram⟩, r.cls, r.pairs, r.types, r.master, r.items⟩, _, _, _, _, _, _, _, _, _, rfl, ⟨slk_fin (slk_of_own encPr_len (own_far HP3.out (grown_set _ b 1 (.int .i64 far)) HD1.out (fun x hx => by have hx2 : b = x := Option.some.inj hx; omega)) hd1) hg10, slk_fin (slk_of_own encTy_len (own_far HT3.out (grown_set _ b 1 (.int .i64 far)) HD2.out (fun x hx => by have hx2 : b = x := Option.some.inj hx; omega)) hd2) hg10, slk_fin (slk_of_own encIt_len (own_far HI3.out (grown_set _ b 1 (.int .i64 far)) HD3.out (fun x hx => by have hx2 : b = x := Option.some.inj hx; omega)) hd3) hg10⟩, (by omega), (by omega), (by omega)⟩, MF.out.cur.grown hg10 (fun x hx => by have hx2 : w.heap.size = x := Option.some.inj hx; omega), grown_far MF.out.gr hg10 (fun x hx => by have hx2 : w.heap.size = x := Option.some.inj hx; omega)⟩
  by_cases hk_2 : k = 2
  · subst hk_2
    have kB := M2.out.box.cell
    have fB := M2.out.box.frozen
    unfold rqCells at kB
    have yB := M2.out.lt
    have kZ := M2.out.res.cell
    have fZ := M2.out.res.frozen
    unfold rqZero at kZ
    have yZ := M2.out.res.lt
    have yH := M2.out.hi
    have hd1 := HL1.out
    have hd2 := HL2.out
    have hd3 := HL3.out
    have M3 := M2
    have HP3 := HP2
    have HT3 := HT2
    have HI3 := HI2
    clear M2 HP2 HT2 HI2
    go_wp2_with fail
    have MF := hide (show Mk 128 41 rqZero w (_) g A n c bs b (rqCells r.way r.pal.w r.pal.d r.pal.h far r.cls (.slice A1 n1 c1) (.slice A2 n2 c2) r.master (.slice A3 n3 c3)) from M3.out.set 4 (.int .i64 far))
    have hz10 := MF.out.res
    unfold rqZero at hz10
    obtain ⟨hB10, hg10⟩ := st10 hz10 (.int .i64 r.way) (.int .i64 r.pal.w) (.int .i64 r.pal.d) (.int .i64 r.pal.h) (.int .i64 far) (.int .i64 r.cls) (.slice A1 n1 c1) (.slice A2 n2 c2) (.int .i64 r.master) (.slice A3 n3 c3)
    have hlo := MF.out.lo
    have hhi := MF.out.hi
    refine ret_cell Tryd.results63 rfl hB10 Tryd.underlying41 rfl (by kernel_rfl) rfl ?_
    refine ⟨⟨⟨r.way, ⟨r.pal.w, r.pal.d, r.pal.h, far⟩, r.cls, r.pairs, r.types, r.master, r.items⟩, _, _, _, _, _, _, _, _, _, rfl, ⟨slk_fin (slk_of_own encPr_len (own_far HP3.out (grown_set _ b 4 (.int .i64 far)) HD1.out (fun x hx => by have hx2 : b = x := Option.some.inj hx; omega)) hd1) hg10, slk_fin (slk_of_own encTy_len (own_far HT3.out (grown_set _ b 4 (.int .i64 far)) HD2.out (fun x hx => by have hx2 : b = x := Option.some.inj hx; omega)) hd2) hg10, slk_fin (slk_of_own encIt_len (own_far HI3.out (grown_set _ b 4 (.int .i64 far)) HD3.out (fun x hx => by have hx2 : b = x := Option.some.inj hx; omega)) hd3) hg10⟩, (by omega), (by omega), (by omega)⟩, MF.out.cur.grown hg10 (fun x hx => by have hx2 : w.heap.size = x := Option.some.inj hx; omega), grown_far MF.out.gr hg10 (fun x hx => by have hx2 : w.heap.size = x := Option.some.inj hx; omega)⟩
  by_cases hk_3 : k = 3
  · subst hk_3
    have kB := M2.out.box.cell
    have fB := M2.out.box.frozen
    unfold rqCells at kB
    have yB := M2.out.lt
    have kZ := M2.out.res.cell
    have fZ := M2.out.res.frozen
    unfold rqZero at kZ
    have yZ := M2.out.res.lt
    have yH := M2.out.hi
    have hd1 := HL1.out
    have hd2 := HL2.out
    have hd3 := HL3.out
    go_wp2_with fail
    refine (l1PickInt_any (some ⟨wr.heap.size, 0, none⟩) 3 3 [0, 5, 1] wr.heap.size (wr.heap.size + 1) (by omega) (by omega) g A n c bs _ (slk_new encInt_len _ [0, 5, 1] 3 _ _ rfl (by simp [maxLen]) rfl) (by simp) (.inl (by have := M2.out.lt; omega)) (M2.out.cur.alloc _)).mono ?_
    rintro e' w9 ⟨⟨xv, rfl, _⟩, hc9, hg9⟩
    have M3 := hide ((M2.out.alloc _).call hc9 hg9)
    have HP3 := hide (own_call (HP2.out.alloc _) hg9 (fun x hx => by have hx2 : g = x := Option.some.inj hx; omega))
    have HT3 := hide (own_call (HT2.out.alloc _) hg9 (fun x hx => by have hx2 : g = x := Option.some.inj hx; omega))
    have HI3 := hide (own_call (HI2.out.alloc _) hg9 (fun x hx => by have hx2 : g = x := Option.some.inj hx; omega))
    clear kB fB kZ fZ yB yZ yH hc9 hg9 M2 HP2 HT2 HI2
    have kB := M3.out.box.cell
    have fB := M3.out.box.frozen
    unfold rqCells at kB
    have yB := M3.out.lt
    have kZ := M3.out.res.cell
    have fZ := M3.out.res.frozen
    unfold rqZero at kZ
    have yZ := M3.out.res.lt
    have yH := M3.out.hi
    go_wp2_with fail
    have MF := hide (show Mk 128 41 rqZero w (_) g A n c bs b (rqCells r.way r.pal.w r.pal.d r.pal.h r.pal.gram xv (.slice A1 n1 c1) (.slice A2 n2 c2) r.master (.slice A3 n3 c3)) from M3.out.set 5 (.int .i64 xv))
    have hz10 := MF.out.res
    unfold rqZero at hz10
    obtain ⟨hB10, hg10⟩ := st10 hz10 (.int .i64 r.way) (.int .i64 r.pal.w) (.int .i64 r.pal.d) (.int .i64 r.pal.h) (.int .i64 r.pal.gram) (.int .i64 xv) (.slice A1 n1 c1) (.slice A2 n2 c2) (.int .i64 r.master) (.slice A3 n3 c3)
    have hlo := MF.out.lo
    have hhi := MF.out.hi
    refine ret_cell Tryd.results63 rfl hB10 Tryd.underlying41 rfl (by kernel_rfl) rfl ?_
    refine ⟨⟨⟨r.way, ⟨r.pal.w, r.pal.d, r.pal.h, r.pal.gram⟩, xv, r.pairs, r.types, r.master, r.items⟩, _, _, _, _, _, _, _, _, _, rfl, ⟨slk_fin (slk_of_own encPr_len (own_far HP3.out (grown_set _ b 5 (.int .i64 xv)) HD1.out (fun x hx => by have hx2 : b = x := Option.some.inj hx; omega)) hd1) hg10, slk_fin (slk_of_own encTy_len (own_far HT3.out (grown_set _ b 5 (.int .i64 xv)) HD2.out (fun x hx => by have hx2 : b = x := Option.some.inj hx; omega)) hd2) hg10, slk_fin (slk_of_own encIt_len (own_far HI3.out (grown_set _ b 5 (.int .i64 xv)) HD3.out (fun x hx => by have hx2 : b = x := Option.some.inj hx; omega)) hd3) hg10⟩, (by omega), (by omega), (by omega)⟩, MF.out.cur.grown hg10 (fun x hx => by have hx2 : w.heap.size = x := Option.some.inj hx; omega), grown_far MF.out.gr hg10 (fun x hx => by have hx2 : w.heap.size = x := Option.some.inj hx; omega)⟩
  by_cases hk_4 : k = 4
  · subst hk_4
    have kB := M2.out.box.cell
    have fB := M2.out.box.frozen
    unfold rqCells at kB
    have yB := M2.out.lt
    have kZ := M2.out.res.cell
    have fZ := M2.out.res.frozen
    unfold rqZero at kZ
    have yZ := M2.out.res.lt
    have yH := M2.out.hi
    have hd1 := HL1.out
    have hd2 := HL2.out
    have hd3 := HL3.out
    have M3 := M2
    have HP3 := HP2
    have HT3 := HT2
    have HI3 := HI2
    clear M2 HP2 HT2 HI2
    obtain ⟨s, hs⟩ : ∃ s, wr.heap.size = s := ⟨_, rfl⟩
    have hgs : g < s := by omega
    have hbs : b < s := by omega
    go_wp2_with fail
    refine wp_region_cut 9 [false, false, false, false, false, false, false, false, false, false, false, false, false, false, false, false, false, false, false, false, false, false, false, false, false, false, false, false, false, false, false, false, false, false, false, false, true, true, true, true, true, true, true, true, true] (by kernel_rfl) (fun ix v W => match ix with | 0 => v = .pointer (some ⟨b, 6, none⟩) | 1 => v = .slice A1 n1 c1 | 2 => v = .pointer (some ⟨g, 0, none⟩) | 3 => ∃ x : Int, v = .int .i64 x | 4 => ∃ x : Int, v = .int .i64 x | 5 => v = .pointer (some ⟨g, 0, none⟩) | 6 => ∃ x : Int, v = .int .i64 x | 7 => ∃ y : Pr, v = .agg #[.int .i64 y.a, .int .i64 y.b] | 8 => ∃ (a : Nat) (y : Pr), v = .slice (some ⟨a, 0, none⟩) 1 1 ∧ SlK 2 encPr W s W.heap.size (some ⟨a, 0, none⟩) 1 1 [y] | _ => True) (fun W => s ≤ W.heap.size ∧ Mk 128 41 rqZero w W g A n c bs b (rqCells r.way r.pal.w r.pal.d r.pal.h r.pal.gram r.cls (.slice A1 n1 c1) (.slice A2 n2 c2) r.master (.slice A3 n3 c3)) ∧ Own 2 encPr 82 W (w.heap.size + 1) (.slice A1 n1 c1) r.pairs ∧ Own 7 encTy 84 W (w.heap.size + 1) (.slice A2 n2 c2) r.types ∧ Own 7 encIt 86 W (w.heap.size + 1) (.slice A3 n3 c3) r.items) (fun W W' => W.grownBy W' (some g)) (by kernel_rfl) (by kernel_rfl) (by decide) (by kernel_rfl) ?hwi ?hst ?hop 3 (by kernel_rfl) ?hend
    case hwi => exact ⟨by rw [← hs]; exact Nat.le_refl _, M3.out.drew, HP3.out.drew, HT3.out.drew, HI3.out.drew⟩
    case hst =>
      intro i v W W' h hS
      match i, h with
      | 0, h => exact h
      | 1, h => exact h
      | 2, h => exact h
      | 3, h => exact h
      | 4, h => exact h
      | 5, h => exact h
      | 6, h => exact h
      | 7, h => exact h
      | 8, ⟨a, y, h1, h2⟩ => exact ⟨a, y, h1, slk_step h2 hS hgs⟩
      | _ + 9, h => trivial
    case hop =>
      simp only [over_mk, overL_t, overL_f, overL_nil, Nat.reduceAdd]
      refine ⟨fun t W hW hd K' hK => ?_, fun t W hW hd K' hK => ?_, fun t W hW hd K' hK => ?_, fun t W hW hd K' hK => ?_, fun t W hW hd K' hK => ?_, fun t W hW hd K' hK => ?_, fun t W hW hd K' hK => ?_, fun t W hW hd K' hK => ?_, fun t W hW hd K' hK => ?_, trivial⟩
      · go_simp
        refine hK.out _ _ _ ?_ rfl (grown_refl _ _) hW
        simp only [Act.put, List.getElem_toArray, List.getElem_cons_succ, List.getElem_cons_zero, List.setIfInBounds_toArray, List.set_cons_zero, List.set_cons_succ]
      · have kB := hW.2.1.box.cell
        have fB := hW.2.1.box.frozen
        unfold rqCells at kB
        have yB := hW.2.1.lt
        have e0 : t 36 = .pointer (some ⟨b, 6, none⟩) := hd 0 (by kernel_rfl) 36 (by kernel_rfl)
        go_simp
        refine hK.out _ _ _ ?_ rfl (grown_refl _ _) hW
        simp only [Act.put, List.getElem_toArray, List.getElem_cons_succ, List.getElem_cons_zero, List.setIfInBounds_toArray, List.set_cons_zero, List.set_cons_succ, e0]
      · go_simp
        refine hK.out _ _ _ ?_ rfl (grown_refl _ _) hW
        simp only [Act.put, List.getElem_toArray, List.getElem_cons_succ, List.getElem_cons_zero, List.setIfInBounds_toArray, List.set_cons_zero, List.set_cons_succ]
      · have e0 : t 38 = .pointer (some ⟨g, 0, none⟩) := hd 2 (by kernel_rfl) 38 (by kernel_rfl)
        go_simp
        refine (l1Below_any 6 (by omega) (by omega) g A n c bs _ hW.2.1.cur).mono ?_
        rintro e' w2 ⟨⟨x, rfl, hx0, hx1⟩, hc, hg⟩
        go_wp2_with fail
        refine hK.out _ _ _ ?_ ⟨x, rfl⟩ hg ⟨Nat.le_trans hW.1 hg.size, hW.2.1.call hc hg, own_call hW.2.2.1 hg (fun z hz => by have hz2 : g = z := Option.some.inj hz; omega), own_call hW.2.2.2.1 hg (fun z hz => by have hz2 : g = z := Option.some.inj hz; omega), own_call hW.2.2.2.2 hg (fun z hz => by have hz2 : g = z := Option.some.inj hz; omega)⟩
        simp only [Act.put, List.getElem_toArray, List.getElem_cons_succ, List.getElem_cons_zero, List.setIfInBounds_toArray, List.set_cons_zero, List.set_cons_succ, e0]
      · obtain ⟨x0, e0⟩ : ∃ x : Int, t 39 = .int .i64 x := hd 3 (by kernel_rfl) 39 (by kernel_rfl)
        go_simp
        refine hK.out _ _ _ ?_ ⟨IntKind.i64.wrap (x0 - 1), rfl⟩ (grown_refl _ _) hW
        simp only [Act.put, List.getElem_toArray, List.getElem_cons_succ, List.getElem_cons_zero, List.setIfInBounds_toArray, List.set_cons_zero, List.set_cons_succ, e0]
      · go_simp
        refine hK.out _ _ _ ?_ rfl (grown_refl _ _) hW
        simp only [Act.put, List.getElem_toArray, List.getElem_cons_succ, List.getElem_cons_zero, List.setIfInBounds_toArray, List.set_cons_zero, List.set_cons_succ]
      · have e0 : t 41 = .pointer (some ⟨g, 0, none⟩) := hd 5 (by kernel_rfl) 41 (by kernel_rfl)
        go_simp
        refine (l1Below_any 4 (by omega) (by omega) g A n c bs _ hW.2.1.cur).mono ?_
        rintro e' w2 ⟨⟨x, rfl, hx0, hx1⟩, hc, hg⟩
        go_wp2_with fail
        refine hK.out _ _ _ ?_ ⟨x, rfl⟩ hg ⟨Nat.le_trans hW.1 hg.size, hW.2.1.call hc hg, own_call hW.2.2.1 hg (fun z hz => by have hz2 : g = z := Option.some.inj hz; omega), own_call hW.2.2.2.1 hg (fun z hz => by have hz2 : g = z := Option.some.inj hz; omega), own_call hW.2.2.2.2 hg (fun z hz => by have hz2 : g = z := Option.some.inj hz; omega)⟩
        simp only [Act.put, List.getElem_toArray, List.getElem_cons_succ, List.getElem_cons_zero, List.setIfInBounds_toArray, List.set_cons_zero, List.set_cons_succ, e0]
      · obtain ⟨x4, e4⟩ : ∃ x : Int, t 40 = .int .i64 x := hd 4 (by kernel_rfl) 40 (by kernel_rfl)
        obtain ⟨x6, e6⟩ : ∃ x : Int, t 42 = .int .i64 x := hd 6 (by kernel_rfl) 42 (by kernel_rfl)
        go_simp
        refine hK.out _ _ _ ?_ ⟨⟨x4, x6⟩, rfl⟩ (grown_refl _ _) hW
        simp only [Act.put, List.getElem_toArray, List.getElem_cons_succ, List.getElem_cons_zero, List.setIfInBounds_toArray, List.set_cons_zero, List.set_cons_succ, e4, e6]
      · obtain ⟨y, e0⟩ : ∃ y : Pr, t 43 = .agg #[.int .i64 y.a, .int .i64 y.b] := hd 7 (by kernel_rfl) 43 (by kernel_rfl)
        go_simp
        refine hK.out _ _ _ ?_ ⟨_, y, rfl, (slk_new encPr_len W [y] 1 _ _ rfl (by simp [maxLen]) rfl).more hW.1 (by simp)⟩ (grown_alloc _ _ _) ⟨by simp; have := hW.1; omega, hW.2.1.alloc _, hW.2.2.1.alloc _, hW.2.2.2.1.alloc _, hW.2.2.2.2.alloc _⟩
        simp only [Act.put, List.getElem_toArray, List.getElem_cons_succ, List.getElem_cons_zero, List.setIfInBounds_toArray, List.set_cons_zero, List.set_cons_succ, e0]
    case hend =>
      intro t W hW hd
      simp only [over_mk, overL_t, overL_f, overL_nil, Nat.reduceAdd]
      have e0 : t 37 = .slice A1 n1 c1 := hd 1 (by decide) 37 rfl
      obtain ⟨a, y, e1, hS⟩ : ∃ (a : Nat) (y : Pr), t 44 = .slice (some ⟨a, 0, none⟩) 1 1 ∧ SlK 2 encPr W s W.heap.size (some ⟨a, 0, none⟩) 1 1 [y] := hd 8 (by decide) 44 rfl
      clear hd
      rw [e0, e1]
      obtain ⟨hW1, hM3, hP3, hT3, hI3⟩ := hW
      clear e0 e1
      refine wpAnyH_ready (rs := [9]) (by kernel_rfl) (by simp) ?_
      refine AllReadyH.cons rfl (fun K hK => ?_) AllReadyH.nil
      refine step_app rfl (.tmp 37) (.tmp 44) rfl (by simp [Act.eval]) (by simp [Act.eval]) (appPrS hP3 (by omega) (by omega) hS (by omega)) ?_
      intro v' w2 ho2 hg2 hat2
      obtain ⟨m5, hm5⟩ : ∃ m5, (r.pairs ++ [y]).length = m5 := ⟨_, rfl⟩
      obtain ⟨A5, c5, rfl, s5'⟩ := Own.slk' encPr_len hm5 ho2
      have hm5b : m5 ≤ 33 := by rw [← hm5]; simp; omega
      have hbl : ∀ x, (Value.slice A1 n1 c1).ownBlock = some x → w.heap.size < x ∧ x < b := fun x hx => ⟨by have := (hP3.lt x hx).1; omega, HD1.out x hx⟩
      have hbl2 : ∀ x, (Value.slice A5 m5 c5).ownBlock = some x → x ≠ b := fun x hx e => by
        rcases hat2 with h | h
        · rw [h] at hx; have := (hbl x hx).2; omega
        · rw [h] at hx; have hx2 : W.heap.size = x := Option.some.inj hx; omega
      refine hK.out _ _ trivial (fun _ => ?_)
      clear hK K
      try simp only [Act.put, List.getElem_toArray, List.getElem_cons_succ, List.getElem_cons_zero, List.setIfInBounds_toArray, List.set_cons_zero, List.set_cons_succ]
      have M5 := hide (Mk.app2 hM3 hg2 hbl)
      have OP := hide ho2
      have OT := hide (own_ne hT3 hg2 (fun x hx e => D12.out x hx e))
      have OI := hide (own_ne hI3 hg2 (fun x hx e => D13.out x hx e))
      have zs5 := hg2.size
      clear hM3 hP3 hT3 hI3 hg2 hat2 ho2 hS
      have kB := M5.out.box.cell
      have fB := M5.out.box.frozen
      unfold rqCells at kB
      have yB := M5.out.lt
      refine wpAnyH_ready (rs := [10]) (by kernel_rfl) (by simp) ?_
      refine AllReadyH.cons rfl (fun K hK => ?_) AllReadyH.nil
      go_simp
      refine hK.out _ _ trivial (fun _ => ?_)
      clear hK K
      try simp only [Act.put, List.getElem_toArray, List.getElem_cons_succ, List.getElem_cons_zero, List.setIfInBounds_toArray, List.set_cons_zero, List.set_cons_succ]
      refine wpAnyH_ready (rs := [11]) (by kernel_rfl) (by simp) ?_
      refine AllReadyH.cons rfl (fun K hK => ?_) AllReadyH.nil
      go_simp
      refine hK.out _ _ trivial (fun _ => ?_)
      clear hK K
      try simp only [Act.put, List.getElem_toArray, List.getElem_cons_succ, List.getElem_cons_zero, List.setIfInBounds_toArray, List.set_cons_zero, List.set_cons_succ]
      refine wpAnyH_done (by kernel_rfl) ?_ _
      clear kB fB yB
      have MF := hide (show Mk 128 41 rqZero w (_) g A n c bs b (rqCells r.way r.pal.w r.pal.d r.pal.h r.pal.gram r.cls (.slice A5 m5 c5) (.slice A2 n2 c2) r.master (.slice A3 n3 c3)) from M5.out.set 6 (.slice A5 m5 c5))
      have QP := hide (own_ne OP.out (grown_set w2 b 6 (.slice A5 m5 c5)) (fun x hx e => by have hx2 : b = x := Option.some.inj hx; subst hx2; exact hbl2 _ e rfl))
      have QT := hide (own_ne OT.out (grown_set w2 b 6 (.slice A5 m5 c5)) (fun x hx e => by have hx2 : b = x := Option.some.inj hx; subst hx2; exact absurd (HD2.out _ e) (by omega)))
      have QI := hide (own_ne OI.out (grown_set w2 b 6 (.slice A5 m5 c5)) (fun x hx e => by have hx2 : b = x := Option.some.inj hx; subst hx2; exact absurd (HD3.out _ e) (by omega)))
      generalize w2.setCell ⟨b, 6, none⟩ (.slice A5 m5 c5) = wf at *
      have kB := MF.out.box.cell
      have fB := MF.out.box.frozen
      unfold rqCells at kB
      have yB := MF.out.lt
      have kZ := MF.out.res.cell
      have fZ := MF.out.res.frozen
      unfold rqZero at kZ
      have yZ := MF.out.res.lt
      have yH := MF.out.hi
      go_wp2_with fail
      have hz10 := MF.out.res
      unfold rqZero at hz10
      obtain ⟨hB10, hg10⟩ := st10 hz10 (.int .i64 r.way) (.int .i64 r.pal.w) (.int .i64 r.pal.d) (.int .i64 r.pal.h) (.int .i64 r.pal.gram) (.int .i64 r.cls) (.slice A5 m5 c5) (.slice A2 n2 c2) (.int .i64 r.master) (.slice A3 n3 c3)
      have hlo := MF.out.lo
      have hhi := MF.out.hi
      refine ret_cell Tryd.results63 rfl hB10 Tryd.underlying41 rfl (by kernel_rfl) rfl ?_
      refine ⟨⟨⟨r.way, ⟨r.pal.w, r.pal.d, r.pal.h, r.pal.gram⟩, r.cls, r.pairs ++ [y], r.types, r.master, r.items⟩, _, _, _, _, _, _, _, _, _, rfl, ⟨slk_fin (slk_of_own encPr_len QP.out hm5) hg10, slk_fin (slk_of_own encTy_len QT.out hd2) hg10, slk_fin (slk_of_own encIt_len QI.out hd3) hg10⟩, (by omega), (by omega), (by omega)⟩, MF.out.cur.grown hg10 (fun x hx => by have hx2 : w.heap.size = x := Option.some.inj hx; omega), grown_far MF.out.gr hg10 (fun x hx => by have hx2 : w.heap.size = x := Option.some.inj hx; omega)⟩
  by_cases hk_5 : k = 5
  · subst hk_5
    have kB := M2.out.box.cell
    have fB := M2.out.box.frozen
    unfold rqCells at kB
    have yB := M2.out.lt
    have kZ := M2.out.res.cell
    have fZ := M2.out.res.frozen
    unfold rqZero at kZ
    have yZ := M2.out.res.lt
    have yH := M2.out.hi
    have hd1 := HL1.out
    have hd2 := HL2.out
    have hd3 := HL3.out
    have M3 := M2
    have HP3 := HP2
    have HT3 := HT2
    have HI3 := HI2
    clear M2 HP2 HT2 HI2
    obtain ⟨gt, ct, e0, hgt0, hgt1⟩ := own_at1 HT3.out hd2 hn2
    injection e0 with e0 e1 e2
    subst e0 e2
    have hgtb : gt < b := HD2.out gt rfl
    have hgtg : g < gt := by omega
    have hgtw : w.heap.size < gt := by omega
    have sT := slk_of_own encTy_len HT3.out hd2
    obtain ⟨bt, ot, y0, hy0, e3, _, _, t0, t1, t2, t3, t4, t5, t6, tf⟩ := sT.ty hn2
    injection e3 with e3
    injection e3 with e3 e4
    subst e3 e4
    simp only [Nat.zero_mul, Nat.zero_add, Nat.add_zero] at t2
    have tf2 := tf 2 (by omega)
    simp only [Nat.zero_mul, Nat.zero_add] at tf2
    have hgl := HD2.out
    have hcc := sT.cap
    have hcm := sT.max
    have ST := hide sT
    clear sT hy0 t0 t1 t3 t4 t5 t6 tf hgl
    have hn0 : (0 : Int) < (n2 : Int) := by omega
    go_wp2_with fail
    have hgs := grown_set wr gt 2 (.int .i64 far)
    have MF := hide (Mk.far2 (p := ⟨gt, 2, none⟩) M3.out hgtw hgtb (.int .i64 far))
    have SN := hide (show SlK 7 encTy (wr.setCell ⟨gt, 2, none⟩ (.int .i64 far)) (w.heap.size + 1) (wr.setCell ⟨gt, 2, none⟩ (.int .i64 far)).heap.size (some ⟨gt, 0, none⟩) n2 c2 (r.types.modify 0 (fun (y : Ty) => ⟨y.id, y.w, far, y.d, y.tare, y.gram, y.cost⟩)) from by have h := slk_set (i := 0) (j := 2) encTy_len (upd := fun (y : Ty) => ⟨y.id, y.w, far, y.d, y.tare, y.gram, y.cost⟩) (v := .int .i64 far) (fun _ => rfl) ST.out hn2 (by omega); simpa using h)
    have hz10 := MF.out.res
    unfold rqZero at hz10
    obtain ⟨hB10, hg10⟩ := st10 hz10 (.int .i64 r.way) (.int .i64 r.pal.w) (.int .i64 r.pal.d) (.int .i64 r.pal.h) (.int .i64 r.pal.gram) (.int .i64 r.cls) (.slice A1 n1 c1) (.slice (some ⟨gt, 0, none⟩) n2 c2) (.int .i64 r.master) (.slice A3 n3 c3)
    have hlo := MF.out.lo
    have hhi := MF.out.hi
    refine ret_cell Tryd.results63 rfl hB10 Tryd.underlying41 rfl (by kernel_rfl) rfl ?_
    refine ⟨⟨⟨r.way, ⟨r.pal.w, r.pal.d, r.pal.h, r.pal.gram⟩, r.cls, r.pairs, r.types.modify 0 (fun (y : Ty) => ⟨y.id, y.w, far, y.d, y.tare, y.gram, y.cost⟩), r.master, r.items⟩, _, _, _, _, _, _, _, _, _, rfl, ⟨slk_fin (slk_of_own encPr_len (own_ne HP3.out hgs (fun x hx => by have hx2 : gt = x := Option.some.inj hx; rw [← hx2]; exact fun e => D12.out gt e rfl)) hd1) hg10, slk_fin (SN.out) hg10, slk_fin (slk_of_own encIt_len (own_ne HI3.out hgs (fun x hx => by have hx2 : gt = x := Option.some.inj hx; rw [← hx2]; exact fun e => D23.out gt rfl e)) hd3) hg10⟩, (by omega), (by omega), (by omega)⟩, MF.out.cur.grown hg10 (fun x hx => by have hx2 : w.heap.size = x := Option.some.inj hx; omega), grown_far MF.out.gr hg10 (fun x hx => by have hx2 : w.heap.size = x := Option.some.inj hx; omega)⟩
  by_cases hk_6 : k = 6
  · subst hk_6
    have kB := M2.out.box.cell
    have fB := M2.out.box.frozen
    unfold rqCells at kB
    have yB := M2.out.lt
    have kZ := M2.out.res.cell
    have fZ := M2.out.res.frozen
    unfold rqZero at kZ
    have yZ := M2.out.res.lt
    have yH := M2.out.hi
    have hd1 := HL1.out
    have hd2 := HL2.out
    have hd3 := HL3.out
    have M3 := M2
    have HP3 := HP2
    have HT3 := HT2
    have HI3 := HI2
    clear M2 HP2 HT2 HI2
    obtain ⟨gt, ct, e0, hgt0, hgt1⟩ := own_at1 HT3.out hd2 hn2
    injection e0 with e0 e1 e2
    subst e0 e2
    have hgtb : gt < b := HD2.out gt rfl
    have sT := slk_of_own encTy_len HT3.out hd2
    have hcc := sT.cap
    have hcm := sT.max
    clear sT
    obtain ⟨s, hs⟩ : ∃ s, wr.heap.size = s := ⟨_, rfl⟩
    have hgs : g < s := by omega
    have hbs : b < s := by omega
    go_wp2_with fail
    refine wp_region_cut 8 [false, false, false, false, false, false, false, false, false, false, false, false, false, false, false, false, false, false, false, false, false, false, false, false, false, false, false, false, false, false, false, false, false, false, false, false, false, false, false, false, false, false, false, false, false, false, false, false, false, false, false, false, false, false, false, false, true, true, true, true, true, true, true, true] (by kernel_rfl) (fun ix v W => match ix with | 0 => v = .pointer (some ⟨b, 7, none⟩) | 1 => v = .slice (some ⟨gt, 0, none⟩) n2 c2 | 2 => v = .pointer (some ⟨g, 0, none⟩) | 3 => v = .pointer (some ⟨b, 7, none⟩) | 4 => v = .slice (some ⟨gt, 0, none⟩) n2 c2 | 5 => v = .int .i64 (n2 : Int) | 6 => ∃ x : Int, v = .int .i64 x ∧ 0 ≤ x ∧ x < (n2 : Int) | 7 => v = .int .i64 far | _ => True) (fun W => s ≤ W.heap.size ∧ Mk 128 41 rqZero w W g A n c bs b (rqCells r.way r.pal.w r.pal.d r.pal.h r.pal.gram r.cls (.slice A1 n1 c1) (.slice (some ⟨gt, 0, none⟩) n2 c2) r.master (.slice A3 n3 c3)) ∧ Own 2 encPr 82 W (w.heap.size + 1) (.slice A1 n1 c1) r.pairs ∧ Own 7 encTy 84 W (w.heap.size + 1) (.slice (some ⟨gt, 0, none⟩) n2 c2) r.types ∧ Own 7 encIt 86 W (w.heap.size + 1) (.slice A3 n3 c3) r.items) (fun W W' => W.grownBy W' (some g)) (by kernel_rfl) (by kernel_rfl) (by decide) (by kernel_rfl) ?hwi ?hst ?hop 3 (by kernel_rfl) ?hend
    case hwi => exact ⟨by rw [← hs]; exact Nat.le_refl _, M3.out.drew, HP3.out.drew, HT3.out.drew, HI3.out.drew⟩
    case hst =>
      intro i v W W' h hS
      match i, h with
      | 0, h => exact h
      | 1, h => exact h
      | 2, h => exact h
      | 3, h => exact h
      | 4, h => exact h
      | 5, h => exact h
      | 6, h => exact h
      | 7, h => exact h
      | _ + 8, h => trivial
    case hop =>
      simp only [over_mk, overL_t, overL_f, overL_nil, Nat.reduceAdd]
      refine ⟨fun t W hW hd K' hK => ?_, fun t W hW hd K' hK => ?_, fun t W hW hd K' hK => ?_, fun t W hW hd K' hK => ?_, fun t W hW hd K' hK => ?_, fun t W hW hd K' hK => ?_, fun t W hW hd K' hK => ?_, fun t W hW hd K' hK => ?_, trivial⟩
      · go_simp
        refine hK.out _ _ _ ?_ rfl (grown_refl _ _) hW
        simp only [Act.put, List.getElem_toArray, List.getElem_cons_succ, List.getElem_cons_zero, List.setIfInBounds_toArray, List.set_cons_zero, List.set_cons_succ]
      · have kB := hW.2.1.box.cell
        have fB := hW.2.1.box.frozen
        unfold rqCells at kB
        have yB := hW.2.1.lt
        have hcc2 := hcc
        have e0 : t 56 = .pointer (some ⟨b, 7, none⟩) := hd 0 (by kernel_rfl) 56 (by kernel_rfl)
        go_simp
        refine hK.out _ _ _ ?_ rfl (grown_refl _ _) hW
        simp only [Act.put, List.getElem_toArray, List.getElem_cons_succ, List.getElem_cons_zero, List.setIfInBounds_toArray, List.set_cons_zero, List.set_cons_succ, e0]
      · go_simp
        refine hK.out _ _ _ ?_ rfl (grown_refl _ _) hW
        simp only [Act.put, List.getElem_toArray, List.getElem_cons_succ, List.getElem_cons_zero, List.setIfInBounds_toArray, List.set_cons_zero, List.set_cons_succ]
      · go_simp
        refine hK.out _ _ _ ?_ rfl (grown_refl _ _) hW
        simp only [Act.put, List.getElem_toArray, List.getElem_cons_succ, List.getElem_cons_zero, List.setIfInBounds_toArray, List.set_cons_zero, List.set_cons_succ]
      · have kB := hW.2.1.box.cell
        have fB := hW.2.1.box.frozen
        unfold rqCells at kB
        have yB := hW.2.1.lt
        have hcc2 := hcc
        have e0 : t 59 = .pointer (some ⟨b, 7, none⟩) := hd 3 (by kernel_rfl) 59 (by kernel_rfl)
        go_simp
        refine hK.out _ _ _ ?_ rfl (grown_refl _ _) hW
        simp only [Act.put, List.getElem_toArray, List.getElem_cons_succ, List.getElem_cons_zero, List.setIfInBounds_toArray, List.set_cons_zero, List.set_cons_succ, e0]
      · have kB := hW.2.1.box.cell
        have fB := hW.2.1.box.frozen
        unfold rqCells at kB
        have yB := hW.2.1.lt
        have hcc2 := hcc
        have e0 : t 60 = .slice (some ⟨gt, 0, none⟩) n2 c2 := hd 4 (by kernel_rfl) 60 (by kernel_rfl)
        go_simp
        refine hK.out _ _ _ ?_ rfl (grown_refl _ _) hW
        simp only [Act.put, List.getElem_toArray, List.getElem_cons_succ, List.getElem_cons_zero, List.setIfInBounds_toArray, List.set_cons_zero, List.set_cons_succ, e0]
      · have e0 : t 58 = .pointer (some ⟨g, 0, none⟩) := hd 2 (by kernel_rfl) 58 (by kernel_rfl)
        have e1 : t 61 = .int .i64 (n2 : Int) := hd 5 (by kernel_rfl) 61 (by kernel_rfl)
        go_simp
        refine (l1Below_any (n2 : Int) (by omega) (by omega) g A n c bs _ hW.2.1.cur).mono ?_
        rintro e' w2 ⟨⟨x, rfl, hx0, hx1⟩, hc, hg⟩
        go_wp2_with fail
        refine hK.out _ _ _ ?_ ⟨x, rfl, by omega, by omega⟩ hg ⟨Nat.le_trans hW.1 hg.size, hW.2.1.call hc hg, own_call hW.2.2.1 hg (fun z hz => by have hz2 : g = z := Option.some.inj hz; omega), own_call hW.2.2.2.1 hg (fun z hz => by have hz2 : g = z := Option.some.inj hz; omega), own_call hW.2.2.2.2 hg (fun z hz => by have hz2 : g = z := Option.some.inj hz; omega)⟩
        simp only [Act.put, List.getElem_toArray, List.getElem_cons_succ, List.getElem_cons_zero, List.setIfInBounds_toArray, List.set_cons_zero, List.set_cons_succ, e0, e1]
      · go_simp
        refine hK.out _ _ _ ?_ rfl (grown_refl _ _) hW
        simp only [Act.put, List.getElem_toArray, List.getElem_cons_succ, List.getElem_cons_zero, List.setIfInBounds_toArray, List.set_cons_zero, List.set_cons_succ]
    case hend =>
      intro t W hW hd
      simp only [over_mk, overL_t, overL_f, overL_nil, Nat.reduceAdd]
      have e57 : t 57 = .slice (some ⟨gt, 0, none⟩) n2 c2 := hd 1 (by decide) 57 rfl
      obtain ⟨x0, e62, hx0, hx1⟩ : ∃ x : Int, t 62 = .int .i64 x ∧ 0 ≤ x ∧ x < (n2 : Int) := hd 6 (by decide) 62 rfl
      have e63 : t 63 = .int .i64 far := hd 7 (by decide) 63 rfl
      clear hd
      obtain ⟨x, rfl⟩ := Int.eq_ofNat_of_zero_le hx0
      rw [e57, e62, e63]
      obtain ⟨hW1, hM3, hP3, hT3, hI3⟩ := hW
      clear e57 e62 e63
      have hxn : x < n2 := by omega
      have sT := slk_of_own encTy_len hT3 hd2
      obtain ⟨bt, ot, y0, hy0, e3, _, _, t0, t1, t2, t3, t4, t5, t6, tf⟩ := sT.ty hxn
      injection e3 with e3
      injection e3 with e3 e4
      subst e3 e4
      have tf5 := tf 5 (by omega)
      simp only [Nat.zero_add] at t5 tf5
      have ST := hide sT
      clear sT hy0 t0 t1 t2 t3 t4 t6 tf
      refine wpAnyH_ready (rs := [8]) (by kernel_rfl) (by simp) ?_
      refine AllReadyH.cons rfl (fun K hK => ?_) AllReadyH.nil
      go_simp
      refine hK.out _ _ trivial (fun _ => ?_)
      clear hK K
      try simp only [Act.put, List.getElem_toArray, List.getElem_cons_succ, List.getElem_cons_zero, List.setIfInBounds_toArray, List.set_cons_zero, List.set_cons_succ]
      refine wpAnyH_ready (rs := [9]) (by kernel_rfl) (by simp) ?_
      refine AllReadyH.cons rfl (fun K hK => ?_) AllReadyH.nil
      go_simp
      refine hK.out _ _ trivial (fun _ => ?_)
      clear hK K
      try simp only [Act.put, List.getElem_toArray, List.getElem_cons_succ, List.getElem_cons_zero, List.setIfInBounds_toArray, List.set_cons_zero, List.set_cons_succ]
      refine wpAnyH_ready (rs := [10]) (by kernel_rfl) (by simp) ?_
      refine AllReadyH.cons rfl (fun K hK => ?_) AllReadyH.nil
      go_simp
      refine hK.out _ _ trivial (fun _ => ?_)
      clear hK K
      try simp only [Act.put, List.getElem_toArray, List.getElem_cons_succ, List.getElem_cons_zero, List.setIfInBounds_toArray, List.set_cons_zero, List.set_cons_succ]
      refine wpAnyH_done (by kernel_rfl) ?_ _
      clear t5 tf5
      have hgs2 := grown_set W gt (x * 7 + 5) (.int .i64 far)
      have MF := hide (Mk.far2 (p := ⟨gt, x * 7 + 5, none⟩) hM3 (by show w.heap.size < gt; omega) hgtb (.int .i64 far))
      have SN := hide (show SlK 7 encTy (W.setCell ⟨gt, x * 7 + 5, none⟩ (.int .i64 far)) (w.heap.size + 1) (W.setCell ⟨gt, x * 7 + 5, none⟩ (.int .i64 far)).heap.size (some ⟨gt, 0, none⟩) n2 c2 (r.types.modify x (fun (y : Ty) => ⟨y.id, y.w, y.h, y.d, y.tare, far, y.cost⟩)) from by have h := slk_set (i := x) (j := 5) encTy_len (upd := fun (y : Ty) => ⟨y.id, y.w, y.h, y.d, y.tare, far, y.cost⟩) (v := .int .i64 far) (fun _ => rfl) ST.out hxn (by omega); simpa using h)
      have QP := hide (own_ne hP3 hgs2 (fun z hz e => by have hz2 : gt = z := Option.some.inj hz; subst hz2; exact D12.out _ e rfl))
      have QI := hide (own_ne hI3 hgs2 (fun z hz e => by have hz2 : gt = z := Option.some.inj hz; subst hz2; exact D23.out _ rfl e))
      clear hM3 hP3 hT3 hI3 hgs2 ST
      generalize (W.setCell ⟨gt, x * 7 + 5, none⟩ (.int .i64 far)) = wf at *
      have kB := MF.out.box.cell
      have fB := MF.out.box.frozen
      unfold rqCells at kB
      have yB := MF.out.lt
      have kZ := MF.out.res.cell
      have fZ := MF.out.res.frozen
      unfold rqZero at kZ
      have yZ := MF.out.res.lt
      have yH := MF.out.hi
      go_wp2_with fail
      have hz10 := MF.out.res
      unfold rqZero at hz10
      obtain ⟨hB10, hg10⟩ := st10 hz10 (.int .i64 r.way) (.int .i64 r.pal.w) (.int .i64 r.pal.d) (.int .i64 r.pal.h) (.int .i64 r.pal.gram) (.int .i64 r.cls) (.slice A1 n1 c1) (.slice (some ⟨gt, 0, none⟩) n2 c2) (.int .i64 r.master) (.slice A3 n3 c3)
      have hlo := MF.out.lo
      have hhi := MF.out.hi
      refine ret_cell Tryd.results63 rfl hB10 Tryd.underlying41 rfl (by kernel_rfl) rfl ?_
      refine ⟨⟨⟨r.way, ⟨r.pal.w, r.pal.d, r.pal.h, r.pal.gram⟩, r.cls, r.pairs, r.types.modify x (fun (y : Ty) => ⟨y.id, y.w, y.h, y.d, y.tare, far, y.cost⟩), r.master, r.items⟩, _, _, _, _, _, _, _, _, _, rfl, ⟨slk_fin (slk_of_own encPr_len QP.out hd1) hg10, slk_fin (SN.out) hg10, slk_fin (slk_of_own encIt_len QI.out hd3) hg10⟩, (by omega), (by omega), (by omega)⟩, MF.out.cur.grown hg10 (fun x hx => by have hx2 : w.heap.size = x := Option.some.inj hx; omega), grown_far MF.out.gr hg10 (fun x hx => by have hx2 : w.heap.size = x := Option.some.inj hx; omega)⟩
  by_cases hk_7 : k = 7
  · subst hk_7
    have kB := M2.out.box.cell
    have fB := M2.out.box.frozen
    unfold rqCells at kB
    have yB := M2.out.lt
    have kZ := M2.out.res.cell
    have fZ := M2.out.res.frozen
    unfold rqZero at kZ
    have yZ := M2.out.res.lt
    have yH := M2.out.hi
    have hd1 := HL1.out
    have hd2 := HL2.out
    have hd3 := HL3.out
    go_wp2_with fail
    refine (l1PickInt_any (some ⟨wr.heap.size, 0, none⟩) 3 3 [8, -1, 1000] wr.heap.size (wr.heap.size + 1) (by omega) (by omega) g A n c bs _ (slk_new encInt_len _ [8, -1, 1000] 3 _ _ rfl (by simp [maxLen]) rfl) (by simp) (.inl (by have := M2.out.lt; omega)) (M2.out.cur.alloc _)).mono ?_
    rintro e' w9 ⟨⟨xv, rfl, _⟩, hc9, hg9⟩
    have M3 := hide ((M2.out.alloc _).call hc9 hg9)
    have HP3 := hide (own_call (HP2.out.alloc _) hg9 (fun x hx => by have hx2 : g = x := Option.some.inj hx; omega))
    have HT3 := hide (own_call (HT2.out.alloc _) hg9 (fun x hx => by have hx2 : g = x := Option.some.inj hx; omega))
    have HI3 := hide (own_call (HI2.out.alloc _) hg9 (fun x hx => by have hx2 : g = x := Option.some.inj hx; omega))
    clear kB fB kZ fZ yB yZ yH hc9 hg9 M2 HP2 HT2 HI2
    have kB := M3.out.box.cell
    have fB := M3.out.box.frozen
    unfold rqCells at kB
    have yB := M3.out.lt
    have kZ := M3.out.res.cell
    have fZ := M3.out.res.frozen
    unfold rqZero at kZ
    have yZ := M3.out.res.lt
    have yH := M3.out.hi
    go_wp2_with fail
    have MF := hide (show Mk 128 41 rqZero w (_) g A n c bs b (rqCells r.way r.pal.w r.pal.d r.pal.h r.pal.gram r.cls (.slice A1 n1 c1) (.slice A2 n2 c2) xv (.slice A3 n3 c3)) from M3.out.set 8 (.int .i64 xv))
    have hz10 := MF.out.res
    unfold rqZero at hz10
    obtain ⟨hB10, hg10⟩ := st10 hz10 (.int .i64 r.way) (.int .i64 r.pal.w) (.int .i64 r.pal.d) (.int .i64 r.pal.h) (.int .i64 r.pal.gram) (.int .i64 r.cls) (.slice A1 n1 c1) (.slice A2 n2 c2) (.int .i64 xv) (.slice A3 n3 c3)
    have hlo := MF.out.lo
    have hhi := MF.out.hi
    refine ret_cell Tryd.results63 rfl hB10 Tryd.underlying41 rfl (by kernel_rfl) rfl ?_
    refine ⟨⟨⟨r.way, ⟨r.pal.w, r.pal.d, r.pal.h, r.pal.gram⟩, r.cls, r.pairs, r.types, xv, r.items⟩, _, _, _, _, _, _, _, _, _, rfl, ⟨slk_fin (slk_of_own encPr_len (own_far HP3.out (grown_set _ b 8 (.int .i64 xv)) HD1.out (fun x hx => by have hx2 : b = x := Option.some.inj hx; omega)) hd1) hg10, slk_fin (slk_of_own encTy_len (own_far HT3.out (grown_set _ b 8 (.int .i64 xv)) HD2.out (fun x hx => by have hx2 : b = x := Option.some.inj hx; omega)) hd2) hg10, slk_fin (slk_of_own encIt_len (own_far HI3.out (grown_set _ b 8 (.int .i64 xv)) HD3.out (fun x hx => by have hx2 : b = x := Option.some.inj hx; omega)) hd3) hg10⟩, (by omega), (by omega), (by omega)⟩, MF.out.cur.grown hg10 (fun x hx => by have hx2 : w.heap.size = x := Option.some.inj hx; omega), grown_far MF.out.gr hg10 (fun x hx => by have hx2 : w.heap.size = x := Option.some.inj hx; omega)⟩
  by_cases hk_8 : k = 8
  · subst hk_8
    have kB := M2.out.box.cell
    have fB := M2.out.box.frozen
    unfold rqCells at kB
    have yB := M2.out.lt
    have kZ := M2.out.res.cell
    have fZ := M2.out.res.frozen
    unfold rqZero at kZ
    have yZ := M2.out.res.lt
    have yH := M2.out.hi
    have hd1 := HL1.out
    have hd2 := HL2.out
    have hd3 := HL3.out
    have M3 := M2
    have HP3 := HP2
    have HT3 := HT2
    have HI3 := HI2
    clear M2 HP2 HT2 HI2
    obtain ⟨s, hs⟩ : ∃ s, wr.heap.size = s := ⟨_, rfl⟩
    have hgs : g < s := by omega
    have hbs : b < s := by omega
    go_wp2_with fail
    refine wp_region_cut 8 [false, false, false, false, false, false, false, false, false, false, false, false, false, false, false, false, false, false, false, false, false, false, false, false, false, false, false, false, false, false, false, false, false, false, false, false, false, false, false, false, false, false, false, false, false, false, false, false, false, false, false, false, false, false, false, false, false, false, false, false, false, false, false, false, false, false, false, false, false, false, false, false, false, false, true, true, true, true, true, true, true, true] (by kernel_rfl) (fun ix v W => match ix with | 0 => v = .pointer (some ⟨b, 9, none⟩) | 1 => v = .slice A3 n3 c3 | 2 => v = .pointer (some ⟨g, 0, none⟩) | 3 => ∃ x : Int, v = .int .i64 x | 4 => v = .pointer (some ⟨g, 0, none⟩) | 5 => ∃ x : Int, v = .int .i64 x | 6 => ∃ y : It, v = .agg #[.int .i64 y.id, .int .i64 y.w, .int .i64 y.h, .int .i64 y.d, .int .i64 y.gram, .int .i64 y.cls, .int .i64 y.cnt] | 7 => ∃ (a : Nat) (y : It), v = .slice (some ⟨a, 0, none⟩) 1 1 ∧ SlK 7 encIt W s W.heap.size (some ⟨a, 0, none⟩) 1 1 [y] | _ => True) (fun W => s ≤ W.heap.size ∧ Mk 128 41 rqZero w W g A n c bs b (rqCells r.way r.pal.w r.pal.d r.pal.h r.pal.gram r.cls (.slice A1 n1 c1) (.slice A2 n2 c2) r.master (.slice A3 n3 c3)) ∧ Own 2 encPr 82 W (w.heap.size + 1) (.slice A1 n1 c1) r.pairs ∧ Own 7 encTy 84 W (w.heap.size + 1) (.slice A2 n2 c2) r.types ∧ Own 7 encIt 86 W (w.heap.size + 1) (.slice A3 n3 c3) r.items) (fun W W' => W.grownBy W' (some g)) (by kernel_rfl) (by kernel_rfl) (by decide) (by kernel_rfl) ?hwi ?hst ?hop 3 (by kernel_rfl) ?hend
    case hwi => exact ⟨by rw [← hs]; exact Nat.le_refl _, M3.out.drew, HP3.out.drew, HT3.out.drew, HI3.out.drew⟩
    case hst =>
      intro i v W W' h hS
      match i, h with
      | 0, h => exact h
      | 1, h => exact h
      | 2, h => exact h
      | 3, h => exact h
      | 4, h => exact h
      | 5, h => exact h
      | 6, h => exact h
      | 7, ⟨a, y, h1, h2⟩ => exact ⟨a, y, h1, slk_step h2 hS hgs⟩
      | _ + 8, h => trivial
    case hop =>
      simp only [over_mk, overL_t, overL_f, overL_nil, Nat.reduceAdd]
      refine ⟨fun t W hW hd K' hK => ?_, fun t W hW hd K' hK => ?_, fun t W hW hd K' hK => ?_, fun t W hW hd K' hK => ?_, fun t W hW hd K' hK => ?_, fun t W hW hd K' hK => ?_, fun t W hW hd K' hK => ?_, fun t W hW hd K' hK => ?_, trivial⟩
      · go_simp
        refine hK.out _ _ _ ?_ rfl (grown_refl _ _) hW
        simp only [Act.put, List.getElem_toArray, List.getElem_cons_succ, List.getElem_cons_zero, List.setIfInBounds_toArray, List.set_cons_zero, List.set_cons_succ]
      · have kB := hW.2.1.box.cell
        have fB := hW.2.1.box.frozen
        unfold rqCells at kB
        have yB := hW.2.1.lt
        have e0 : t 74 = .pointer (some ⟨b, 9, none⟩) := hd 0 (by kernel_rfl) 74 (by kernel_rfl)
        go_simp
        refine hK.out _ _ _ ?_ rfl (grown_refl _ _) hW
        simp only [Act.put, List.getElem_toArray, List.getElem_cons_succ, List.getElem_cons_zero, List.setIfInBounds_toArray, List.set_cons_zero, List.set_cons_succ, e0]
      · go_simp
        refine hK.out _ _ _ ?_ rfl (grown_refl _ _) hW
        simp only [Act.put, List.getElem_toArray, List.getElem_cons_succ, List.getElem_cons_zero, List.setIfInBounds_toArray, List.set_cons_zero, List.set_cons_succ]
      · have e0 : t 76 = .pointer (some ⟨g, 0, none⟩) := hd 2 (by kernel_rfl) 76 (by kernel_rfl)
        go_simp
        refine (l1Below_any 5 (by omega) (by omega) g A n c bs _ hW.2.1.cur).mono ?_
        rintro e' w2 ⟨⟨x, rfl, hx0, hx1⟩, hc, hg⟩
        go_wp2_with fail
        refine hK.out _ _ _ ?_ ⟨x, rfl⟩ hg ⟨Nat.le_trans hW.1 hg.size, hW.2.1.call hc hg, own_call hW.2.2.1 hg (fun z hz => by have hz2 : g = z := Option.some.inj hz; omega), own_call hW.2.2.2.1 hg (fun z hz => by have hz2 : g = z := Option.some.inj hz; omega), own_call hW.2.2.2.2 hg (fun z hz => by have hz2 : g = z := Option.some.inj hz; omega)⟩
        simp only [Act.put, List.getElem_toArray, List.getElem_cons_succ, List.getElem_cons_zero, List.setIfInBounds_toArray, List.set_cons_zero, List.set_cons_succ, e0]
      · go_simp
        refine hK.out _ _ _ ?_ rfl (grown_refl _ _) hW
        simp only [Act.put, List.getElem_toArray, List.getElem_cons_succ, List.getElem_cons_zero, List.setIfInBounds_toArray, List.set_cons_zero, List.set_cons_succ]
      · have e0 : t 78 = .pointer (some ⟨g, 0, none⟩) := hd 4 (by kernel_rfl) 78 (by kernel_rfl)
        go_simp
        refine (l1Below_any 8 (by omega) (by omega) g A n c bs _ hW.2.1.cur).mono ?_
        rintro e' w2 ⟨⟨x, rfl, hx0, hx1⟩, hc, hg⟩
        go_wp2_with fail
        refine hK.out _ _ _ ?_ ⟨x, rfl⟩ hg ⟨Nat.le_trans hW.1 hg.size, hW.2.1.call hc hg, own_call hW.2.2.1 hg (fun z hz => by have hz2 : g = z := Option.some.inj hz; omega), own_call hW.2.2.2.1 hg (fun z hz => by have hz2 : g = z := Option.some.inj hz; omega), own_call hW.2.2.2.2 hg (fun z hz => by have hz2 : g = z := Option.some.inj hz; omega)⟩
        simp only [Act.put, List.getElem_toArray, List.getElem_cons_succ, List.getElem_cons_zero, List.setIfInBounds_toArray, List.set_cons_zero, List.set_cons_succ, e0]
      · obtain ⟨x3, e3⟩ : ∃ x : Int, t 77 = .int .i64 x := hd 3 (by kernel_rfl) 77 (by kernel_rfl)
        obtain ⟨x5, e5⟩ : ∃ x : Int, t 79 = .int .i64 x := hd 5 (by kernel_rfl) 79 (by kernel_rfl)
        go_simp
        refine hK.out _ _ _ ?_ ⟨⟨3, 1, 2, 3, 4, x3, x5⟩, rfl⟩ (grown_refl _ _) hW
        simp only [Act.put, List.getElem_toArray, List.getElem_cons_succ, List.getElem_cons_zero, List.setIfInBounds_toArray, List.set_cons_zero, List.set_cons_succ, e3, e5]
      · obtain ⟨y, e0⟩ : ∃ y : It, t 80 = .agg #[.int .i64 y.id, .int .i64 y.w, .int .i64 y.h, .int .i64 y.d, .int .i64 y.gram, .int .i64 y.cls, .int .i64 y.cnt] := hd 6 (by kernel_rfl) 80 (by kernel_rfl)
        go_simp
        refine hK.out _ _ _ ?_ ⟨_, y, rfl, (slk_new encIt_len W [y] 1 _ _ rfl (by simp [maxLen]) rfl).more hW.1 (by simp)⟩ (grown_alloc _ _ _) ⟨by simp; have := hW.1; omega, hW.2.1.alloc _, hW.2.2.1.alloc _, hW.2.2.2.1.alloc _, hW.2.2.2.2.alloc _⟩
        simp only [Act.put, List.getElem_toArray, List.getElem_cons_succ, List.getElem_cons_zero, List.setIfInBounds_toArray, List.set_cons_zero, List.set_cons_succ, e0]
    case hend =>
      intro t W hW hd
      simp only [over_mk, overL_t, overL_f, overL_nil, Nat.reduceAdd]
      have e0 : t 75 = .slice A3 n3 c3 := hd 1 (by decide) 75 rfl
      obtain ⟨a, y, e1, hS⟩ : ∃ (a : Nat) (y : It), t 81 = .slice (some ⟨a, 0, none⟩) 1 1 ∧ SlK 7 encIt W s W.heap.size (some ⟨a, 0, none⟩) 1 1 [y] := hd 7 (by decide) 81 rfl
      clear hd
      rw [e0, e1]
      obtain ⟨hW1, hM3, hP3, hT3, hI3⟩ := hW
      clear e0 e1
      refine wpAnyH_ready (rs := [8]) (by kernel_rfl) (by simp) ?_
      refine AllReadyH.cons rfl (fun K hK => ?_) AllReadyH.nil
      refine step_app rfl (.tmp 75) (.tmp 81) rfl (by simp [Act.eval]) (by simp [Act.eval]) (appItS hI3 (by omega) (by omega) hS (by omega)) ?_
      intro v' w2 ho2 hg2 hat2
      obtain ⟨m5, hm5⟩ : ∃ m5, (r.items ++ [y]).length = m5 := ⟨_, rfl⟩
      obtain ⟨A5, c5, rfl, s5'⟩ := Own.slk' encIt_len hm5 ho2
      have hm5b : m5 ≤ 6 := by rw [← hm5]; simp; omega
      have hbl : ∀ x, (Value.slice A3 n3 c3).ownBlock = some x → w.heap.size < x ∧ x < b := fun x hx => ⟨by have := (hI3.lt x hx).1; omega, HD3.out x hx⟩
      have hbl2 : ∀ x, (Value.slice A5 m5 c5).ownBlock = some x → x ≠ b := fun x hx e => by
        rcases hat2 with h | h
        · rw [h] at hx; have := (hbl x hx).2; omega
        · rw [h] at hx; have hx2 : W.heap.size = x := Option.some.inj hx; omega
      refine hK.out _ _ trivial (fun _ => ?_)
      clear hK K
      try simp only [Act.put, List.getElem_toArray, List.getElem_cons_succ, List.getElem_cons_zero, List.setIfInBounds_toArray, List.set_cons_zero, List.set_cons_succ]
      have M5 := hide (Mk.app2 hM3 hg2 hbl)
      have OI := hide ho2
      have OP := hide (own_ne hP3 hg2 (fun x hx e => D13.out x e hx))
      have OT := hide (own_ne hT3 hg2 (fun x hx e => D23.out x e hx))
      have zs5 := hg2.size
      clear hM3 hP3 hT3 hI3 hg2 hat2 ho2 hS
      have kB := M5.out.box.cell
      have fB := M5.out.box.frozen
      unfold rqCells at kB
      have yB := M5.out.lt
      refine wpAnyH_ready (rs := [9]) (by kernel_rfl) (by simp) ?_
      refine AllReadyH.cons rfl (fun K hK => ?_) AllReadyH.nil
      go_simp
      refine hK.out _ _ trivial (fun _ => ?_)
      clear hK K
      try simp only [Act.put, List.getElem_toArray, List.getElem_cons_succ, List.getElem_cons_zero, List.setIfInBounds_toArray, List.set_cons_zero, List.set_cons_succ]
      refine wpAnyH_ready (rs := [10]) (by kernel_rfl) (by simp) ?_
      refine AllReadyH.cons rfl (fun K hK => ?_) AllReadyH.nil
      go_simp
      refine hK.out _ _ trivial (fun _ => ?_)
      clear hK K
      try simp only [Act.put, List.getElem_toArray, List.getElem_cons_succ, List.getElem_cons_zero, List.setIfInBounds_toArray, List.set_cons_zero, List.set_cons_succ]
      refine wpAnyH_done (by kernel_rfl) ?_ _
      clear kB fB yB
      have MF := hide (show Mk 128 41 rqZero w (_) g A n c bs b (rqCells r.way r.pal.w r.pal.d r.pal.h r.pal.gram r.cls (.slice A1 n1 c1) (.slice A2 n2 c2) r.master (.slice A5 m5 c5)) from M5.out.set 9 (.slice A5 m5 c5))
      have QP := hide (own_ne OP.out (grown_set w2 b 9 (.slice A5 m5 c5)) (fun x hx e => by have hx2 : b = x := Option.some.inj hx; subst hx2; exact absurd (HD1.out _ e) (by omega)))
      have QT := hide (own_ne OT.out (grown_set w2 b 9 (.slice A5 m5 c5)) (fun x hx e => by have hx2 : b = x := Option.some.inj hx; subst hx2; exact absurd (HD2.out _ e) (by omega)))
      have QI := hide (own_ne OI.out (grown_set w2 b 9 (.slice A5 m5 c5)) (fun x hx e => by have hx2 : b = x := Option.some.inj hx; subst hx2; exact hbl2 _ e rfl))
      generalize w2.setCell ⟨b, 9, none⟩ (.slice A5 m5 c5) = wf at *
      have kB := MF.out.box.cell
      have fB := MF.out.box.frozen
      unfold rqCells at kB
      have yB := MF.out.lt
      have kZ := MF.out.res.cell
      have fZ := MF.out.res.frozen
      unfold rqZero at kZ
      have yZ := MF.out.res.lt
      have yH := MF.out.hi
      go_wp2_with fail
      have hz10 := MF.out.res
      unfold rqZero at hz10
      obtain ⟨hB10, hg10⟩ := st10 hz10 (.int .i64 r.way) (.int .i64 r.pal.w) (.int .i64 r.pal.d) (.int .i64 r.pal.h) (.int .i64 r.pal.gram) (.int .i64 r.cls) (.slice A1 n1 c1) (.slice A2 n2 c2) (.int .i64 r.master) (.slice A5 m5 c5)
      have hlo := MF.out.lo
      have hhi := MF.out.hi
      refine ret_cell Tryd.results63 rfl hB10 Tryd.underlying41 rfl (by kernel_rfl) rfl ?_
      refine ⟨⟨⟨r.way, ⟨r.pal.w, r.pal.d, r.pal.h, r.pal.gram⟩, r.cls, r.pairs, r.types, r.master, r.items ++ [y]⟩, _, _, _, _, _, _, _, _, _, rfl, ⟨slk_fin (slk_of_own encPr_len QP.out hd1) hg10, slk_fin (slk_of_own encTy_len QT.out hd2) hg10, slk_fin (slk_of_own encIt_len QI.out hm5) hg10⟩, (by omega), (by omega), (by omega)⟩, MF.out.cur.grown hg10 (fun x hx => by have hx2 : w.heap.size = x := Option.some.inj hx; omega), grown_far MF.out.gr hg10 (fun x hx => by have hx2 : w.heap.size = x := Option.some.inj hx; omega)⟩
  by_cases hk_9 : k = 9
  · subst hk_9
    have kB := M2.out.box.cell
    have fB := M2.out.box.frozen
    unfold rqCells at kB
    have yB := M2.out.lt
    have kZ := M2.out.res.cell
    have fZ := M2.out.res.frozen
    unfold rqZero at kZ
    have yZ := M2.out.res.lt
    have yH := M2.out.hi
    have hd1 := HL1.out
    have hd2 := HL2.out
    have hd3 := HL3.out
    have M3 := M2
    have HP3 := HP2
    have HT3 := HT2
    have HI3 := HI2
    clear M2 HP2 HT2 HI2
    by_cases hi0 : 0 < n3
    · skip
      obtain ⟨gt, ct, e0, hgt0, hgt1⟩ := own_at1 HI3.out hd3 hi0
      injection e0 with e0 e1 e2
      subst e0 e2
      have hgtb : gt < b := HD3.out gt rfl
      have hgtg : g < gt := by omega
      have hgtw : w.heap.size < gt := by omega
      have sT := slk_of_own encIt_len HI3.out hd3
      obtain ⟨bt, ot, y0, hy0, e3, _, _, t0, t1, t2, t3, t4, t5, t6, tf⟩ := sT.it hi0
      injection e3 with e3
      injection e3 with e3 e4
      subst e3 e4
      simp only [Nat.zero_mul, Nat.zero_add, Nat.add_zero] at t3
      have tf3 := tf 3 (by omega)
      simp only [Nat.zero_mul, Nat.zero_add] at tf3
      have hgl := HD3.out
      have hcc := sT.cap
      have hcm := sT.max
      have ST := hide sT
      clear sT hy0 t0 t1 t2 t4 t5 t6 tf hgl
      have hn0 : (0 : Int) < (n3 : Int) := by omega
      go_wp2_with fail
      have hgs := grown_set wr gt 3 (.int .i64 far)
      have MF := hide (Mk.far2 (p := ⟨gt, 3, none⟩) M3.out hgtw hgtb (.int .i64 far))
      have SN := hide (show SlK 7 encIt (wr.setCell ⟨gt, 3, none⟩ (.int .i64 far)) (w.heap.size + 1) (wr.setCell ⟨gt, 3, none⟩ (.int .i64 far)).heap.size (some ⟨gt, 0, none⟩) n3 c3 (r.items.modify 0 (fun (y : It) => ⟨y.id, y.w, y.h, far, y.gram, y.cls, y.cnt⟩)) from by have h := slk_set (i := 0) (j := 3) encIt_len (upd := fun (y : It) => ⟨y.id, y.w, y.h, far, y.gram, y.cls, y.cnt⟩) (v := .int .i64 far) (fun _ => rfl) ST.out hi0 (by omega); simpa using h)
      have hz10 := MF.out.res
      unfold rqZero at hz10
      obtain ⟨hB10, hg10⟩ := st10 hz10 (.int .i64 r.way) (.int .i64 r.pal.w) (.int .i64 r.pal.d) (.int .i64 r.pal.h) (.int .i64 r.pal.gram) (.int .i64 r.cls) (.slice A1 n1 c1) (.slice A2 n2 c2) (.int .i64 r.master) (.slice (some ⟨gt, 0, none⟩) n3 c3)
      have hlo := MF.out.lo
      have hhi := MF.out.hi
      refine ret_cell Tryd.results63 rfl hB10 Tryd.underlying41 rfl (by kernel_rfl) rfl ?_
      refine ⟨⟨⟨r.way, ⟨r.pal.w, r.pal.d, r.pal.h, r.pal.gram⟩, r.cls, r.pairs, r.types, r.master, r.items.modify 0 (fun (y : It) => ⟨y.id, y.w, y.h, far, y.gram, y.cls, y.cnt⟩)⟩, _, _, _, _, _, _, _, _, _, rfl, ⟨slk_fin (slk_of_own encPr_len (own_ne HP3.out hgs (fun x hx => by have hx2 : gt = x := Option.some.inj hx; rw [← hx2]; exact fun e => D13.out gt e rfl)) hd1) hg10, slk_fin (slk_of_own encTy_len (own_ne HT3.out hgs (fun x hx => by have hx2 : gt = x := Option.some.inj hx; rw [← hx2]; exact fun e => D23.out gt e rfl)) hd2) hg10, slk_fin (SN.out) hg10⟩, (by omega), (by omega), (by omega)⟩, MF.out.cur.grown hg10 (fun x hx => by have hx2 : w.heap.size = x := Option.some.inj hx; omega), grown_far MF.out.gr hg10 (fun x hx => by have hx2 : w.heap.size = x := Option.some.inj hx; omega)⟩
    · have hn0 : ¬ (0 : Int) < (n3 : Int) := by omega
      have sI := slk_of_own encIt_len HI3.out hd3
      have hcc := sI.cap
      have hcm := sI.max
      clear sI
      go_wp2_with fail
      have hz10 := M3.out.res
      unfold rqZero at hz10
      obtain ⟨hB10, hg10⟩ := st10 hz10 (.int .i64 r.way) (.int .i64 r.pal.w) (.int .i64 r.pal.d) (.int .i64 r.pal.h) (.int .i64 r.pal.gram) (.int .i64 r.cls) (.slice A1 n1 c1) (.slice A2 n2 c2) (.int .i64 r.master) (.slice A3 n3 c3)
      have hlo := M3.out.lo
      have hhi := M3.out.hi
      refine ret_cell Tryd.results63 rfl hB10 Tryd.underlying41 rfl (by kernel_rfl) rfl ?_
      refine ⟨⟨⟨r.way, ⟨r.pal.w, r.pal.d, r.pal.h, r.pal.gram⟩, r.cls, r.pairs, r.types, r.master, r.items⟩, _, _, _, _, _, _, _, _, _, rfl, ⟨slk_fin (slk_of_own encPr_len HP3.out hd1) hg10, slk_fin (slk_of_own encTy_len HT3.out hd2) hg10, slk_fin (slk_of_own encIt_len HI3.out hd3) hg10⟩, (by omega), (by omega), (by omega)⟩, M3.out.cur.grown hg10 (fun x hx => by have hx2 : w.heap.size = x := Option.some.inj hx; omega), grown_far M3.out.gr hg10 (fun x hx => by have hx2 : w.heap.size = x := Option.some.inj hx; omega)⟩
  by_cases hk_10 : k = 10
  · subst hk_10
    have kB := M2.out.box.cell
    have fB := M2.out.box.frozen
    unfold rqCells at kB
    have yB := M2.out.lt
    have kZ := M2.out.res.cell
    have fZ := M2.out.res.frozen
    unfold rqZero at kZ
    have yZ := M2.out.res.lt
    have yH := M2.out.hi
    have hd1 := HL1.out
    have hd2 := HL2.out
    have hd3 := HL3.out
    have M3 := M2
    have HP3 := HP2
    have HT3 := HT2
    have HI3 := HI2
    clear M2 HP2 HT2 HI2
    have sP := slk_of_own2 encPr_len HP3.out hd1 HD1.out
    have hcc := sP.cap
    have hcm := sP.max
    by_cases hp0 : 0 < n1
    · obtain ⟨b0, o0, rfl, hb0, hdx⟩ := sP.drop_ hp0
      clear hdx
      have SPH := hide sP
      clear sP
      have HDD := hide (show ∃ ps : List Pr, SlK 2 encPr wr (w.heap.size + 1) b (some ⟨b0, o0 + 2, none⟩) (n1 - 1) (c1 - 1) ps from slk_tail SPH.out hp0)
      have HEE := hide (fun (h : c1 = 1) => (show SlK 2 encPr wr (w.heap.size + 1) b (some ⟨b0, o0, none⟩) (n1 - 1) 0 ([] : List Pr) from by
        rw [show n1 - 1 = 0 by omega]
        exact SlK.nil_ (by unfold maxLen; omega)))
      have i1 : (1 : Int) ≤ (n1 : Int) := by omega
      have i2 : (0 : Int) < (n1 : Int) := by omega
      have i3 : (n1 : Int) ≤ (c1 : Int) := by omega
      by_cases hc1 : c1 = 1
      · go_wp2_with fail
        have MF := hide (show Mk 128 41 rqZero w (_) g A n c bs b (rqCells r.way r.pal.w r.pal.d r.pal.h r.pal.gram r.cls (.slice (some ⟨b0, o0, none⟩) (n1 - 1) (0)) (.slice A2 n2 c2) r.master (.slice A3 n3 c3)) from M3.out.set 6 (.slice (some ⟨b0, o0, none⟩) (n1 - 1) (0)))
        have hz10 := MF.out.res
        unfold rqZero at hz10
        obtain ⟨hB10, hg10⟩ := st10 hz10 (.int .i64 r.way) (.int .i64 r.pal.w) (.int .i64 r.pal.d) (.int .i64 r.pal.h) (.int .i64 r.pal.gram) (.int .i64 r.cls) (.slice (some ⟨b0, o0, none⟩) (n1 - 1) (0)) (.slice A2 n2 c2) (.int .i64 r.master) (.slice A3 n3 c3)
        have hlo := MF.out.lo
        have hhi := MF.out.hi
        refine ret_cell Tryd.results63 rfl hB10 Tryd.underlying41 rfl (by kernel_rfl) rfl ?_
        refine ⟨⟨⟨r.way, ⟨r.pal.w, r.pal.d, r.pal.h, r.pal.gram⟩, r.cls, [], r.types, r.master, r.items⟩, _, _, _, _, _, _, _, _, _, rfl, ⟨slk_fin (slk_box (HEE.out hc1) (by omega) 6 (.slice (some ⟨b0, o0, none⟩) (n1 - 1) (0))) hg10, slk_fin (slk_of_own encTy_len (own_far HT3.out (grown_set _ b 6 (.slice (some ⟨b0, o0, none⟩) (n1 - 1) (0))) HD2.out (fun x hx => by have hx2 : b = x := Option.some.inj hx; omega)) hd2) hg10, slk_fin (slk_of_own encIt_len (own_far HI3.out (grown_set _ b 6 (.slice (some ⟨b0, o0, none⟩) (n1 - 1) (0))) HD3.out (fun x hx => by have hx2 : b = x := Option.some.inj hx; omega)) hd3) hg10⟩, (by omega), (by omega), (by omega)⟩, MF.out.cur.grown hg10 (fun x hx => by have hx2 : w.heap.size = x := Option.some.inj hx; omega), grown_far MF.out.gr hg10 (fun x hx => by have hx2 : w.heap.size = x := Option.some.inj hx; omega)⟩
      · go_wp2_with fail
        obtain ⟨ps, hps⟩ := HDD.out
        have MF := hide (show Mk 128 41 rqZero w (_) g A n c bs b (rqCells r.way r.pal.w r.pal.d r.pal.h r.pal.gram r.cls (.slice (some ⟨b0, o0 + 2, none⟩) (n1 - 1) (c1 - 1)) (.slice A2 n2 c2) r.master (.slice A3 n3 c3)) from M3.out.set 6 (.slice (some ⟨b0, o0 + 2, none⟩) (n1 - 1) (c1 - 1)))
        have hz10 := MF.out.res
        unfold rqZero at hz10
        obtain ⟨hB10, hg10⟩ := st10 hz10 (.int .i64 r.way) (.int .i64 r.pal.w) (.int .i64 r.pal.d) (.int .i64 r.pal.h) (.int .i64 r.pal.gram) (.int .i64 r.cls) (.slice (some ⟨b0, o0 + 2, none⟩) (n1 - 1) (c1 - 1)) (.slice A2 n2 c2) (.int .i64 r.master) (.slice A3 n3 c3)
        have hlo := MF.out.lo
        have hhi := MF.out.hi
        refine ret_cell Tryd.results63 rfl hB10 Tryd.underlying41 rfl (by kernel_rfl) rfl ?_
        refine ⟨⟨⟨r.way, ⟨r.pal.w, r.pal.d, r.pal.h, r.pal.gram⟩, r.cls, ps, r.types, r.master, r.items⟩, _, _, _, _, _, _, _, _, _, rfl, ⟨slk_fin (slk_box hps (by omega) 6 (.slice (some ⟨b0, o0 + 2, none⟩) (n1 - 1) (c1 - 1))) hg10, slk_fin (slk_of_own encTy_len (own_far HT3.out (grown_set _ b 6 (.slice (some ⟨b0, o0 + 2, none⟩) (n1 - 1) (c1 - 1))) HD2.out (fun x hx => by have hx2 : b = x := Option.some.inj hx; omega)) hd2) hg10, slk_fin (slk_of_own encIt_len (own_far HI3.out (grown_set _ b 6 (.slice (some ⟨b0, o0 + 2, none⟩) (n1 - 1) (c1 - 1))) HD3.out (fun x hx => by have hx2 : b = x := Option.some.inj hx; omega)) hd3) hg10⟩, (by omega), (by omega), (by omega)⟩, MF.out.cur.grown hg10 (fun x hx => by have hx2 : w.heap.size = x := Option.some.inj hx; omega), grown_far MF.out.gr hg10 (fun x hx => by have hx2 : w.heap.size = x := Option.some.inj hx; omega)⟩
    · have hn0 : ¬ (0 : Int) < (n1 : Int) := by omega
      clear sP
      go_wp2_with fail
      have hz10 := M3.out.res
      unfold rqZero at hz10
      obtain ⟨hB10, hg10⟩ := st10 hz10 (.int .i64 r.way) (.int .i64 r.pal.w) (.int .i64 r.pal.d) (.int .i64 r.pal.h) (.int .i64 r.pal.gram) (.int .i64 r.cls) (.slice A1 n1 c1) (.slice A2 n2 c2) (.int .i64 r.master) (.slice A3 n3 c3)
      have hlo := M3.out.lo
      have hhi := M3.out.hi
      refine ret_cell Tryd.results63 rfl hB10 Tryd.underlying41 rfl (by kernel_rfl) rfl ?_
      refine ⟨⟨⟨r.way, ⟨r.pal.w, r.pal.d, r.pal.h, r.pal.gram⟩, r.cls, r.pairs, r.types, r.master, r.items⟩, _, _, _, _, _, _, _, _, _, rfl, ⟨slk_fin (slk_of_own encPr_len HP3.out hd1) hg10, slk_fin (slk_of_own encTy_len HT3.out hd2) hg10, slk_fin (slk_of_own encIt_len HI3.out hd3) hg10⟩, (by omega), (by omega), (by omega)⟩, M3.out.cur.grown hg10 (fun x hx => by have hx2 : w.heap.size = x := Option.some.inj hx; omega), grown_far M3.out.gr hg10 (fun x hx => by have hx2 : w.heap.size = x := Option.some.inj hx; omega)⟩
  by_cases hk_11 : k = 11
  · subst hk_11
    have kB := M2.out.box.cell
    have fB := M2.out.box.frozen
    unfold rqCells at kB
    have yB := M2.out.lt
    have kZ := M2.out.res.cell
    have fZ := M2.out.res.frozen
    unfold rqZero at kZ
    have yZ := M2.out.res.lt
    have yH := M2.out.hi
    have hd1 := HL1.out
    have hd2 := HL2.out
    have hd3 := HL3.out
    have M3 := M2
    have HP3 := HP2
    have HT3 := HT2
    have HI3 := HI2
    clear M2 HP2 HT2 HI2
    obtain ⟨gt, ct, e0, hgt0, hgt1⟩ := own_at1 HT3.out hd2 hn2
    injection e0 with e0 e1 e2
    subst e0 e2
    have hgtb : gt < b := HD2.out gt rfl
    have sT := slk_of_own encTy_len HT3.out hd2
    have hcc := sT.cap
    have hcm := sT.max
    clear sT
    obtain ⟨y0, hy0⟩ : ∃ y, r.types[0]? = some y := ⟨_, List.getElem?_eq_getElem (by omega)⟩
    have HY0 := hide hy0
    clear hy0
    obtain ⟨s, hs⟩ : ∃ s, wr.heap.size = s := ⟨_, rfl⟩
    have hgs : g < s := by omega
    have hbs : b < s := by omega
    go_wp2_with fail
    refine wp_region_cut 7 [false, false, false, false, false, false, false, false, false, false, false, false, false, false, false, false, false, false, false, false, false, false, false, false, false, false, false, false, false, false, false, false, false, false, false, false, false, false, false, false, false, false, false, false, false, false, false, false, false, false, false, false, false, false, false, false, false, false, false, false, false, false, false, false, false, false, false, false, false, false, false, false, false, false, false, false, false, false, false, false, false, false, false, false, false, false, false, false, false, false, false, false, false, false, false, false, false, false, false, false, false, false, false, false, false, false, false, true, true, true, true, true, true, true] (by kernel_rfl) (fun ix v W => match ix with | 0 => v = .pointer (some ⟨b, 7, none⟩) | 1 => v = .slice (some ⟨gt, 0, none⟩) n2 c2 | 2 => v = .pointer (some ⟨b, 7, none⟩) | 3 => v = .slice (some ⟨gt, 0, none⟩) n2 c2 | 4 => v = .pointer (some ⟨gt, 0, none⟩) | 5 => v = .agg #[.int .i64 y0.id, .int .i64 y0.w, .int .i64 y0.h, .int .i64 y0.d, .int .i64 y0.tare, .int .i64 y0.gram, .int .i64 y0.cost] | 6 => ∃ (a : Nat) (y : Ty), v = .slice (some ⟨a, 0, none⟩) 1 1 ∧ SlK 7 encTy W s W.heap.size (some ⟨a, 0, none⟩) 1 1 [y] | _ => True) (fun W => s ≤ W.heap.size ∧ Mk 128 41 rqZero w W g A n c bs b (rqCells r.way r.pal.w r.pal.d r.pal.h r.pal.gram r.cls (.slice A1 n1 c1) (.slice (some ⟨gt, 0, none⟩) n2 c2) r.master (.slice A3 n3 c3)) ∧ Own 2 encPr 82 W (w.heap.size + 1) (.slice A1 n1 c1) r.pairs ∧ Own 7 encTy 84 W (w.heap.size + 1) (.slice (some ⟨gt, 0, none⟩) n2 c2) r.types ∧ Own 7 encIt 86 W (w.heap.size + 1) (.slice A3 n3 c3) r.items) (fun W W' => W.grownBy W' (some g)) (by kernel_rfl) (by kernel_rfl) (by decide) (by kernel_rfl) ?hwi ?hst ?hop 3 (by kernel_rfl) ?hend
    case hwi => exact ⟨by rw [← hs]; exact Nat.le_refl _, M3.out.drew, HP3.out.drew, HT3.out.drew, HI3.out.drew⟩
    case hst =>
      intro i v W W' h hS
      match i, h with
      | 0, h => exact h
      | 1, h => exact h
      | 2, h => exact h
      | 3, h => exact h
      | 4, h => exact h
      | 5, h => exact h
      | 6, ⟨a, y, h1, h2⟩ => exact ⟨a, y, h1, slk_step h2 hS hgs⟩
      | _ + 7, h => trivial
    case hop =>
      simp only [over_mk, overL_t, overL_f, overL_nil, Nat.reduceAdd]
      refine ⟨fun t W hW hd K' hK => ?_, fun t W hW hd K' hK => ?_, fun t W hW hd K' hK => ?_, fun t W hW hd K' hK => ?_, fun t W hW hd K' hK => ?_, fun t W hW hd K' hK => ?_, fun t W hW hd K' hK => ?_, trivial⟩
      · go_simp
        refine hK.out _ _ _ ?_ rfl (grown_refl _ _) hW
        simp only [Act.put, List.getElem_toArray, List.getElem_cons_succ, List.getElem_cons_zero, List.setIfInBounds_toArray, List.set_cons_zero, List.set_cons_succ]
      · have kB := hW.2.1.box.cell
        have fB := hW.2.1.box.frozen
        unfold rqCells at kB
        have yB := hW.2.1.lt
        obtain ⟨t0, t1, t2, t3, t4, t5, t6⟩ := ty_at0 (slk_of_own encTy_len hW.2.2.2.1 hd2) hn2 HY0.out
        have hgt2 : gt < W.heap.size := by have := hW.2.1.lt; omega
        have hni : (0 : Int) < (n2 : Int) := by omega
        have e0 : t 107 = .pointer (some ⟨b, 7, none⟩) := hd 0 (by kernel_rfl) 107 (by kernel_rfl)
        go_simp
        refine hK.out _ _ _ ?_ rfl (grown_refl _ _) hW
        simp only [Act.put, List.getElem_toArray, List.getElem_cons_succ, List.getElem_cons_zero, List.setIfInBounds_toArray, List.set_cons_zero, List.set_cons_succ, e0]
      · go_simp
        refine hK.out _ _ _ ?_ rfl (grown_refl _ _) hW
        simp only [Act.put, List.getElem_toArray, List.getElem_cons_succ, List.getElem_cons_zero, List.setIfInBounds_toArray, List.set_cons_zero, List.set_cons_succ]
      · have kB := hW.2.1.box.cell
        have fB := hW.2.1.box.frozen
        unfold rqCells at kB
        have yB := hW.2.1.lt
        obtain ⟨t0, t1, t2, t3, t4, t5, t6⟩ := ty_at0 (slk_of_own encTy_len hW.2.2.2.1 hd2) hn2 HY0.out
        have hgt2 : gt < W.heap.size := by have := hW.2.1.lt; omega
        have hni : (0 : Int) < (n2 : Int) := by omega
        have e0 : t 109 = .pointer (some ⟨b, 7, none⟩) := hd 2 (by kernel_rfl) 109 (by kernel_rfl)
        go_simp
        refine hK.out _ _ _ ?_ rfl (grown_refl _ _) hW
        simp only [Act.put, List.getElem_toArray, List.getElem_cons_succ, List.getElem_cons_zero, List.setIfInBounds_toArray, List.set_cons_zero, List.set_cons_succ, e0]
      · have kB := hW.2.1.box.cell
        have fB := hW.2.1.box.frozen
        unfold rqCells at kB
        have yB := hW.2.1.lt
        obtain ⟨t0, t1, t2, t3, t4, t5, t6⟩ := ty_at0 (slk_of_own encTy_len hW.2.2.2.1 hd2) hn2 HY0.out
        have hgt2 : gt < W.heap.size := by have := hW.2.1.lt; omega
        have hni : (0 : Int) < (n2 : Int) := by omega
        have e0 : t 110 = .slice (some ⟨gt, 0, none⟩) n2 c2 := hd 3 (by kernel_rfl) 110 (by kernel_rfl)
        go_simp
        refine hK.out _ _ _ ?_ rfl (grown_refl _ _) hW
        simp only [Act.put, List.getElem_toArray, List.getElem_cons_succ, List.getElem_cons_zero, List.setIfInBounds_toArray, List.set_cons_zero, List.set_cons_succ, e0]
      · have kB := hW.2.1.box.cell
        have fB := hW.2.1.box.frozen
        unfold rqCells at kB
        have yB := hW.2.1.lt
        obtain ⟨t0, t1, t2, t3, t4, t5, t6⟩ := ty_at0 (slk_of_own encTy_len hW.2.2.2.1 hd2) hn2 HY0.out
        have hgt2 : gt < W.heap.size := by have := hW.2.1.lt; omega
        have hni : (0 : Int) < (n2 : Int) := by omega
        have e0 : t 111 = .pointer (some ⟨gt, 0, none⟩) := hd 4 (by kernel_rfl) 111 (by kernel_rfl)
        go_simp
        refine hK.out _ _ _ ?_ rfl (grown_refl _ _) hW
        simp only [Act.put, List.getElem_toArray, List.getElem_cons_succ, List.getElem_cons_zero, List.setIfInBounds_toArray, List.set_cons_zero, List.set_cons_succ, e0]
      · have e0 : t 112 = .agg #[.int .i64 y0.id, .int .i64 y0.w, .int .i64 y0.h, .int .i64 y0.d, .int .i64 y0.tare, .int .i64 y0.gram, .int .i64 y0.cost] := hd 5 (by kernel_rfl) 112 (by kernel_rfl)
        go_simp
        refine hK.out _ _ _ ?_ ⟨_, y0, rfl, (slk_new encTy_len W [y0] 1 _ _ rfl (by simp [maxLen]) rfl).more hW.1 (by simp)⟩ (grown_alloc _ _ _) ⟨by simp; have := hW.1; omega, hW.2.1.alloc _, hW.2.2.1.alloc _, hW.2.2.2.1.alloc _, hW.2.2.2.2.alloc _⟩
        simp only [Act.put, List.getElem_toArray, List.getElem_cons_succ, List.getElem_cons_zero, List.setIfInBounds_toArray, List.set_cons_zero, List.set_cons_succ, e0]
    case hend =>
      intro t W hW hd
      simp only [over_mk, overL_t, overL_f, overL_nil, Nat.reduceAdd]
      have e0 : t 108 = .slice (some ⟨gt, 0, none⟩) n2 c2 := hd 1 (by decide) 108 rfl
      obtain ⟨a, y, e1, hS⟩ : ∃ (a : Nat) (y : Ty), t 113 = .slice (some ⟨a, 0, none⟩) 1 1 ∧ SlK 7 encTy W s W.heap.size (some ⟨a, 0, none⟩) 1 1 [y] := hd 6 (by decide) 113 rfl
      clear hd
      rw [e0, e1]
      obtain ⟨hW1, hM3, hP3, hT3, hI3⟩ := hW
      clear e0 e1
      refine wpAnyH_ready (rs := [7]) (by kernel_rfl) (by simp) ?_
      refine AllReadyH.cons rfl (fun K hK => ?_) AllReadyH.nil
      refine step_app rfl (.tmp 108) (.tmp 113) rfl (by simp [Act.eval]) (by simp [Act.eval]) (appTyS hT3 (by omega) (by omega) hS (by omega)) ?_
      intro v' w2 ho2 hg2 hat2
      obtain ⟨m5, hm5⟩ : ∃ m5, (r.types ++ [y]).length = m5 := ⟨_, rfl⟩
      obtain ⟨A5, c5, rfl, s5'⟩ := Own.slk' encTy_len hm5 ho2
      have hm5b : m5 ≤ 6 := by rw [← hm5]; simp; omega
      have hbl : ∀ x, (Value.slice (some ⟨gt, 0, none⟩) n2 c2).ownBlock = some x → w.heap.size < x ∧ x < b := fun x hx => ⟨by have := (hT3.lt x hx).1; omega, HD2.out x hx⟩
      have hbl2 : ∀ x, (Value.slice A5 m5 c5).ownBlock = some x → x ≠ b := fun x hx e => by
        rcases hat2 with h | h
        · rw [h] at hx; have := (hbl x hx).2; omega
        · rw [h] at hx; have hx2 : W.heap.size = x := Option.some.inj hx; omega
      refine hK.out _ _ trivial (fun _ => ?_)
      clear hK K
      try simp only [Act.put, List.getElem_toArray, List.getElem_cons_succ, List.getElem_cons_zero, List.setIfInBounds_toArray, List.set_cons_zero, List.set_cons_succ]
      have M5 := hide (Mk.app2 hM3 hg2 hbl)
      have OT := hide ho2
      have OP := hide (own_ne hP3 hg2 (fun x hx e => D12.out x e hx))
      have OI := hide (own_ne hI3 hg2 (fun x hx e => D23.out x hx e))
      have zs5 := hg2.size
      clear hM3 hP3 hT3 hI3 hg2 hat2 ho2 hS
      have kB := M5.out.box.cell
      have fB := M5.out.box.frozen
      unfold rqCells at kB
      have yB := M5.out.lt
      refine wpAnyH_ready (rs := [8]) (by kernel_rfl) (by simp) ?_
      refine AllReadyH.cons rfl (fun K hK => ?_) AllReadyH.nil
      go_simp
      refine hK.out _ _ trivial (fun _ => ?_)
      clear hK K
      try simp only [Act.put, List.getElem_toArray, List.getElem_cons_succ, List.getElem_cons_zero, List.setIfInBounds_toArray, List.set_cons_zero, List.set_cons_succ]
      refine wpAnyH_ready (rs := [9]) (by kernel_rfl) (by simp) ?_
      refine AllReadyH.cons rfl (fun K hK => ?_) AllReadyH.nil
      go_simp
      refine hK.out _ _ trivial (fun _ => ?_)
      clear hK K
      try simp only [Act.put, List.getElem_toArray, List.getElem_cons_succ, List.getElem_cons_zero, List.setIfInBounds_toArray, List.set_cons_zero, List.set_cons_succ]
      refine wpAnyH_done (by kernel_rfl) ?_ _
      clear kB fB yB
      have MF := hide (show Mk 128 41 rqZero w (_) g A n c bs b (rqCells r.way r.pal.w r.pal.d r.pal.h r.pal.gram r.cls (.slice A1 n1 c1) (.slice A5 m5 c5) r.master (.slice A3 n3 c3)) from M5.out.set 7 (.slice A5 m5 c5))
      have QP := hide (own_ne OP.out (grown_set w2 b 7 (.slice A5 m5 c5)) (fun x hx e => by have hx2 : b = x := Option.some.inj hx; subst hx2; exact absurd (HD1.out _ e) (by omega)))
      have QT := hide (own_ne OT.out (grown_set w2 b 7 (.slice A5 m5 c5)) (fun x hx e => by have hx2 : b = x := Option.some.inj hx; subst hx2; exact hbl2 _ e rfl))
      have QI := hide (own_ne OI.out (grown_set w2 b 7 (.slice A5 m5 c5)) (fun x hx e => by have hx2 : b = x := Option.some.inj hx; subst hx2; exact absurd (HD3.out _ e) (by omega)))
      generalize w2.setCell ⟨b, 7, none⟩ (.slice A5 m5 c5) = wf at *
      have kB := MF.out.box.cell
      have fB := MF.out.box.frozen
      unfold rqCells at kB
      have yB := MF.out.lt
      have kZ := MF.out.res.cell
      have fZ := MF.out.res.frozen
      unfold rqZero at kZ
      have yZ := MF.out.res.lt
      have yH := MF.out.hi
      go_wp2_with fail
      have hz10 := MF.out.res
      unfold rqZero at hz10
      obtain ⟨hB10, hg10⟩ := st10 hz10 (.int .i64 r.way) (.int .i64 r.pal.w) (.int .i64 r.pal.d) (.int .i64 r.pal.h) (.int .i64 r.pal.gram) (.int .i64 r.cls) (.slice A1 n1 c1) (.slice A5 m5 c5) (.int .i64 r.master) (.slice A3 n3 c3)
      have hlo := MF.out.lo
      have hhi := MF.out.hi
      refine ret_cell Tryd.results63 rfl hB10 Tryd.underlying41 rfl (by kernel_rfl) rfl ?_
      refine ⟨⟨⟨r.way, ⟨r.pal.w, r.pal.d, r.pal.h, r.pal.gram⟩, r.cls, r.pairs, r.types ++ [y], r.master, r.items⟩, _, _, _, _, _, _, _, _, _, rfl, ⟨slk_fin (slk_of_own encPr_len QP.out hd1) hg10, slk_fin (slk_of_own encTy_len QT.out hm5) hg10, slk_fin (slk_of_own encIt_len QI.out hd3) hg10⟩, (by omega), (by omega), (by omega)⟩, MF.out.cur.grown hg10 (fun x hx => by have hx2 : w.heap.size = x := Option.some.inj hx; omega), grown_far MF.out.gr hg10 (fun x hx => by have hx2 : w.heap.size = x := Option.some.inj hx; omega)⟩
  by_cases hk_12 : k = 12
  · subst hk_12
    have kB := M2.out.box.cell
    have fB := M2.out.box.frozen
    unfold rqCells at kB
    have yB := M2.out.lt
    have kZ := M2.out.res.cell
    have fZ := M2.out.res.frozen
    unfold rqZero at kZ
    have yZ := M2.out.res.lt
    have yH := M2.out.hi
    have hd1 := HL1.out
    have hd2 := HL2.out
    have hd3 := HL3.out
    have M3 := M2
    have HP3 := HP2
    have HT3 := HT2
    have HI3 := HI2
    clear M2 HP2 HT2 HI2
    go_wp2_with fail
    have MF := hide (show Mk 128 41 rqZero w (_) g A n c bs b (rqCells r.way r.pal.w r.pal.d r.pal.h r.pal.gram r.cls (.slice A1 n1 c1) (.slice none 0 0) r.master (.slice A3 n3 c3)) from M3.out.set 7 (.slice none 0 0))
    have hz10 := MF.out.res
    unfold rqZero at hz10
    obtain ⟨hB10, hg10⟩ := st10 hz10 (.int .i64 r.way) (.int .i64 r.pal.w) (.int .i64 r.pal.d) (.int .i64 r.pal.h) (.int .i64 r.pal.gram) (.int .i64 r.cls) (.slice A1 n1 c1) (.slice none 0 0) (.int .i64 r.master) (.slice A3 n3 c3)
    have hlo := MF.out.lo
    have hhi := MF.out.hi
    refine ret_cell Tryd.results63 rfl hB10 Tryd.underlying41 rfl (by kernel_rfl) rfl ?_
    refine ⟨⟨⟨r.way, ⟨r.pal.w, r.pal.d, r.pal.h, r.pal.gram⟩, r.cls, r.pairs, [], r.master, r.items⟩, _, _, _, _, _, _, _, _, _, rfl, ⟨slk_fin (slk_of_own encPr_len (own_far HP3.out (grown_set _ b 7 (.slice none 0 0)) HD1.out (fun x hx => by have hx2 : b = x := Option.some.inj hx; omega)) hd1) hg10, slk_fin (SlK.nil_ (by simp [maxLen])) hg10, slk_fin (slk_of_own encIt_len (own_far HI3.out (grown_set _ b 7 (.slice none 0 0)) HD3.out (fun x hx => by have hx2 : b = x := Option.some.inj hx; omega)) hd3) hg10⟩, (by omega), (by omega), (by omega)⟩, MF.out.cur.grown hg10 (fun x hx => by have hx2 : w.heap.size = x := Option.some.inj hx; omega), grown_far MF.out.gr hg10 (fun x hx => by have hx2 : w.heap.size = x := Option.some.inj hx; omega)⟩
  skip
  have kB := M2.out.box.cell
  have fB := M2.out.box.frozen
  unfold rqCells at kB
  have yB := M2.out.lt
  have kZ := M2.out.res.cell
  have fZ := M2.out.res.frozen
  unfold rqZero at kZ
  have yZ := M2.out.res.lt
  have yH := M2.out.hi
  have M3 := M2
  have HP3 := HP2
  have HT3 := HT2
  have HI3 := HI2
  clear M2 HP2 HT2 HI2
  go_wp2_with fail
  have hz10 := M3.out.res
  unfold rqZero at hz10
  obtain ⟨hB10, hg10⟩ := st10 hz10 (.int .i64 r.way) (.int .i64 r.pal.w) (.int .i64 r.pal.d) (.int .i64 r.pal.h) (.int .i64 r.pal.gram) (.int .i64 r.cls) (.slice A1 n1 c1) (.slice A2 n2 c2) (.int .i64 r.master) (.slice A3 n3 c3)
  have hlo := M3.out.lo
  have hhi := M3.out.hi
  refine ret_cell Tryd.results63 rfl hB10 Tryd.underlying41 rfl (by kernel_rfl) rfl ?_
  refine ⟨⟨⟨r.way, ⟨r.pal.w, r.pal.d, r.pal.h, r.pal.gram⟩, r.cls, r.pairs, r.types, r.master, r.items⟩, _, _, _, _, _, _, _, _, _, rfl, ⟨slk_fin (slk_of_own encPr_len HP3.out hd1) hg10, slk_fin (slk_of_own encTy_len HT3.out hd2) hg10, slk_fin (slk_of_own encIt_len HI3.out hd3) hg10⟩, (by omega), (by omega), (by omega)⟩, M3.out.cur.grown hg10 (fun x hx => by have hx2 : w.heap.size = x := Option.some.inj hx; omega), grown_far M3.out.gr hg10 (fun x hx => by have hx2 : w.heap.size = x := Option.some.inj hx; omega)⟩
end Go.Proofs.YtcjcmdikopipjaaDoor
