/- An order that is drawn. -/
import Derived.Test.YtcjcmdikopipjaaDoorDr
namespace Go.Proofs.YtcjcmdikopipjaaDoor
open Go.ChangeShapes Go.WideShapes Go.ChangeAt Go.RowKit Go.Deep
set_option linter.unusedVariables false
set_option linter.unusedSimpArgs false

/-- The block of an order that is being made. -/
def rqZero : Array Value := #[.int .i64 0, .int .i64 0, .int .i64 0, .int .i64 0, .int .i64 0, .int .i64 0, .slice none 0 0, .slice none 0 0, .int .i64 0, .slice none 0 0]
def rqCells (way pw pd ph pg cls : Int) (v1 v2 : Value) (ms : Int) (v3 : Value) : Array Value := #[.int .i64 way, .int .i64 pw, .int .i64 pd, .int .i64 ph, .int .i64 pg, .int .i64 cls, v1, v2, .int .i64 ms, v3]
theorem grown_far {a b c : World} {r1 r2 : Option Nat} (h1 : a.grownBy b r1) (h2 : b.grownBy c r2) (h : ∀ x, r2 = some x → a.heap.size ≤ x) : a.grownBy c r1 :=
  ⟨h2.os.trans h1.os, h2.tape.trans h1.tape, h2.output.trans h1.output, Nat.le_trans h1.size h2.size, fun k hk hne => (h2.block k (Nat.lt_of_lt_of_le hk h1.size) (fun e => by have := h k e.symm; omega)).trans (h1.block k hk hne)⟩
/-- While something is made in block b: the cursor, what has grown, the block, and the result's block as it was made. -/
structure Mk (T TR : TypeId) (zr : Array Value) (w wr : World) (g : Nat) (A : Option Addr) (n c : Nat) (bs : List Int) (b : Nat) (cs : Array Value) : Prop where
  cur : CurAt T wr g A n c bs
  gr : w.grownBy wr (some g)
  box : Blk wr b TR cs
  res : Blk wr w.heap.size TR zr
  lo : g < w.heap.size
  hi : w.heap.size < b
section
variable {T TR : TypeId} {zr : Array Value} {w wr w' : World} {g : Nat} {A : Option Addr} {n c : Nat} {bs : List Int} {b : Nat} {cs : Array Value}
theorem Mk.call (h : Mk T TR zr w wr g A n c bs b cs) (hc : CurAt T w' g A n c bs) (hg : wr.grownBy w' (some g)) : Mk T TR zr w w' g A n c bs b cs :=
  ⟨hc, grown_trans h.gr hg, h.box.grown hg (fun e => by injection e with e; have := h.lo; have := h.hi; omega), h.res.grown hg (fun e => by injection e with e; have := h.lo; omega), h.lo, h.hi⟩
theorem Mk.below (h : Mk T TR zr w wr g A n c bs b cs) (hb : Below wr.heap.size wr w') : Mk T TR zr w w' g A n c bs b cs :=
  h.call (h.cur.below hb) (grown_below _ hb)
theorem Mk.alloc (h : Mk T TR zr w wr g A n c bs b cs) (o : Obj) : Mk T TR zr w (wr.alloc o) g A n c bs b cs := h.below ((Below.refl _ _).alloc (Nat.le_refl _) o)
theorem Mk.drew (h : Mk T TR zr w wr g A n c bs b cs) : Mk T TR zr w wr.drew g A n c bs b cs := ⟨h.cur.drew, grown_trans h.gr (grown_drew _ _), h.box.drew, h.res.drew, h.lo, h.hi⟩
theorem Mk.app {r : Option Nat} (h : Mk T TR zr w wr g A n c bs b cs) (hg : wr.grownBy w' r) (hr : ∀ x, r = some x → b < x) : Mk T TR zr w w' g A n c bs b cs :=
  ⟨h.cur.grown hg (fun x hx => by have := hr x hx; have := h.lo; have := h.hi; omega), grown_far h.gr hg (fun x hx => by have := hr x hx; have := h.hi; omega), h.box.grown hg (fun e => by have := hr b e.symm; omega), h.res.grown hg (fun e => by have := hr _ e.symm; have := h.hi; omega), h.lo, h.hi⟩
theorem Mk.set (h : Mk T TR zr w wr g A n c bs b cs) (i : Nat) (v : Value) : Mk T TR zr w (wr.setCell ⟨b, i, none⟩ v) g A n c bs b (cs.setIfInBounds i v) :=
  ⟨h.cur.far (by have := h.lo; have := h.hi; show g < b; omega) v, grown_far h.gr (grown_set wr b i v) (fun x hx => by injection hx with hx; have := h.hi; omega), h.box.set_ i v, h.res.far (by have := h.hi; show w.heap.size ≠ b; omega) v, h.lo, h.hi⟩
/-- A write into a block that is newer. -/
theorem Mk.far (h : Mk T TR zr w wr g A n c bs b cs) {p : Addr} (hp : b < p.block) (v : Value) : Mk T TR zr w (wr.setCell p v) g A n c bs b cs :=
  ⟨h.cur.far (by have := h.lo; have := h.hi; omega) v, grown_far h.gr (by obtain ⟨pb, po, ps⟩ := p; exact ⟨rfl, rfl, rfl, by simp, fun k hk hne => Below.heap_setCell wr ⟨pb, po, ps⟩ v k (fun e => hne (by rw [e]))⟩ : wr.grownBy (wr.setCell p v) (some p.block)) (fun x hx => by injection hx with hx; have := h.hi; omega), h.box.far (by omega) v, h.res.far (by have := h.hi; omega) v, h.lo, h.hi⟩
theorem Mk.lt (h : Mk T TR zr w wr g A n c bs b cs) : g < b ∧ b < wr.heap.size := ⟨by have := h.lo; have := h.hi; omega, h.box.lt⟩
end
theorem own_call {α : Type} {k : Nat} {enc : α → List Value} {w w' : World} {e : TypeId} {base : Nat} {v : Value} {xs : List α} {r : Option Nat} (h : Own k enc e w base v xs) (hg : w.grownBy w' r) (hr : ∀ x, r = some x → x < base) : Own k enc e w' base v xs :=
  h.grown hg (by
    cases hc : v.ownBlock with
    | none => exact .inl rfl
    | some x =>
      refine .inr fun e => ?_
      have h1 := (h.lt x hc).1
      have h2 := hr x e.symm
      omega)
theorem own_set {α : Type} {k : Nat} {enc : α → List Value} {w : World} {e : TypeId} {base : Nat} {v : Value} {xs : List α} (h : Own k enc e w base v xs) {b : Nat} (hb : b < base) (i : Nat) (u : Value) : Own k enc e (w.setCell ⟨b, i, none⟩ u) base v xs :=
  own_call h (grown_set w b i u) (fun x hx => by injection hx with hx; omega)
theorem slk_step {α : Type} {k : Nat} {enc : α → List Value} {W W' : World} {s : Nat} {A : Option Addr} {n c : Nat} {xs : List α} {g : Nat} (h : SlK k enc W s W.heap.size A n c xs) (hS : W.grownBy W' (some g)) (hg : g < s) : SlK k enc W' s W'.heap.size A n c xs :=
  (h.grown hS (Nat.le_refl _) (fun x hx => by injection hx with hx; omega)).more (Nat.le_refl _) hS.size
theorem slk_newg {α : Type} {k : Nat} {enc : α → List Value} (hk : ∀ x, (enc x).length = k) (w : World) (xs : List α) (n : Nat) (cs : Array Value) (T : TypeId) {g : Nat} (hg : g = w.heap.size) (hn : xs.length = n) (hm : n ≤ maxLen) (hcs : cs = (xs.flatMap enc).toArray) :
    SlK k enc (w.alloc (.cells cs T)) g (g + 1) (some ⟨g, 0, none⟩) n n xs := by
  subst hg
  exact slk_new hk w xs n cs T hn hm hcs
/-- What grows is newer than the row. -/
theorem own_far {α : Type} {k : Nat} {enc : α → List Value} {w w' : World} {e : TypeId} {base s : Nat} {v : Value} {xs : List α} {r : Option Nat} (h : Own k enc e w base v xs) (hg : w.grownBy w' r) (h1 : ∀ x, v.ownBlock = some x → x < s) (h2 : ∀ x, r = some x → s ≤ x) : Own k enc e w' base v xs :=
  h.grown hg (by
    cases hc : v.ownBlock with
    | none => exact .inl rfl
    | some x =>
      refine .inr fun e => ?_
      have a1 := h1 x hc
      have a2 := h2 x e.symm
      omega)
/-- Seven cells of a block are written. -/
theorem st7 {W : World} {a : Nat} {T : TypeId} {z0 z1 z2 z3 z4 z5 z6 : Value} (h : Blk W a T #[z0, z1, z2, z3, z4, z5, z6]) (v0 v1 v2 v3 v4 v5 v6 : Value) :
    Blk (((((((W.setCell ⟨a, 0, none⟩ v0).setCell ⟨a, 1, none⟩ v1).setCell ⟨a, 2, none⟩ v2).setCell ⟨a, 3, none⟩ v3).setCell ⟨a, 4, none⟩ v4).setCell ⟨a, 5, none⟩ v5).setCell ⟨a, 6, none⟩ v6) a T #[v0, v1, v2, v3, v4, v5, v6] ∧ W.grownBy (((((((W.setCell ⟨a, 0, none⟩ v0).setCell ⟨a, 1, none⟩ v1).setCell ⟨a, 2, none⟩ v2).setCell ⟨a, 3, none⟩ v3).setCell ⟨a, 4, none⟩ v4).setCell ⟨a, 5, none⟩ v5).setCell ⟨a, 6, none⟩ v6) (some a) := by
  constructor
  · have h1 := ((((((h.set_ 0 v0).set_ 1 v1).set_ 2 v2).set_ 3 v3).set_ 4 v4).set_ 5 v5).set_ 6 v6
    simpa only [List.setIfInBounds_toArray, List.set_cons_zero, List.set_cons_succ] using h1
  · with_reducible refine grown_trans ?_ (grown_set _ a 6 _)
    with_reducible refine grown_trans ?_ (grown_set _ a 5 _)
    with_reducible refine grown_trans ?_ (grown_set _ a 4 _)
    with_reducible refine grown_trans ?_ (grown_set _ a 3 _)
    with_reducible refine grown_trans ?_ (grown_set _ a 2 _)
    with_reducible refine grown_trans ?_ (grown_set _ a 1 _)
    with_reducible exact grown_set _ a 0 _
/-- Ten cells of a block are written. -/
theorem st10 {W : World} {a : Nat} {T : TypeId} {z0 z1 z2 z3 z4 z5 z6 z7 z8 z9 : Value} (h : Blk W a T #[z0, z1, z2, z3, z4, z5, z6, z7, z8, z9]) (v0 v1 v2 v3 v4 v5 v6 v7 v8 v9 : Value) :
    Blk ((((((((((W.setCell ⟨a, 0, none⟩ v0).setCell ⟨a, 1, none⟩ v1).setCell ⟨a, 2, none⟩ v2).setCell ⟨a, 3, none⟩ v3).setCell ⟨a, 4, none⟩ v4).setCell ⟨a, 5, none⟩ v5).setCell ⟨a, 6, none⟩ v6).setCell ⟨a, 7, none⟩ v7).setCell ⟨a, 8, none⟩ v8).setCell ⟨a, 9, none⟩ v9) a T #[v0, v1, v2, v3, v4, v5, v6, v7, v8, v9] ∧ W.grownBy ((((((((((W.setCell ⟨a, 0, none⟩ v0).setCell ⟨a, 1, none⟩ v1).setCell ⟨a, 2, none⟩ v2).setCell ⟨a, 3, none⟩ v3).setCell ⟨a, 4, none⟩ v4).setCell ⟨a, 5, none⟩ v5).setCell ⟨a, 6, none⟩ v6).setCell ⟨a, 7, none⟩ v7).setCell ⟨a, 8, none⟩ v8).setCell ⟨a, 9, none⟩ v9) (some a) := by
  constructor
  · have h1 := (((((((((h.set_ 0 v0).set_ 1 v1).set_ 2 v2).set_ 3 v3).set_ 4 v4).set_ 5 v5).set_ 6 v6).set_ 7 v7).set_ 8 v8).set_ 9 v9
    simpa only [List.setIfInBounds_toArray, List.set_cons_zero, List.set_cons_succ] using h1
  · with_reducible refine grown_trans ?_ (grown_set _ a 9 _)
    with_reducible refine grown_trans ?_ (grown_set _ a 8 _)
    with_reducible refine grown_trans ?_ (grown_set _ a 7 _)
    with_reducible refine grown_trans ?_ (grown_set _ a 6 _)
    with_reducible refine grown_trans ?_ (grown_set _ a 5 _)
    with_reducible refine grown_trans ?_ (grown_set _ a 4 _)
    with_reducible refine grown_trans ?_ (grown_set _ a 3 _)
    with_reducible refine grown_trans ?_ (grown_set _ a 2 _)
    with_reducible refine grown_trans ?_ (grown_set _ a 1 _)
    with_reducible exact grown_set _ a 0 _
/-- An order whose rows are its own, each in a block of its own. -/
structure RqOwnD (eP eT eI : TypeId) (w : World) (base : Nat) (r : Rq) (A1 : Option Addr) (n1 c1 : Nat) (A2 : Option Addr) (n2 c2 : Nat) (A3 : Option Addr) (n3 c3 : Nat) : Prop where
  pr : Own 2 encPr eP w base (.slice A1 n1 c1) r.pairs
  ty : Own 7 encTy eT w base (.slice A2 n2 c2) r.types
  it : Own 7 encIt eI w base (.slice A3 n3 c3) r.items
  l1 : r.pairs.length = n1
  l2 : r.types.length = n2
  l3 : r.items.length = n3
  d12 : ∀ x, (Value.slice A1 n1 c1).ownBlock = some x → (Value.slice A2 n2 c2).ownBlock ≠ some x
  d13 : ∀ x, (Value.slice A1 n1 c1).ownBlock = some x → (Value.slice A3 n3 c3).ownBlock ≠ some x
  d23 : ∀ x, (Value.slice A2 n2 c2).ownBlock = some x → (Value.slice A3 n3 c3).ownBlock ≠ some x
theorem pairInfo : (Tryd.prog.info? 82).map (fun i => (i.zero, i.size, i.bytes)) = some (some zPr, 2, 16) := by kernel_rfl
theorem encPr_oneD (x : Pr) : ∀ u ∈ encPr x, u.oneCell' = true := ints_oneCell .i64 [x.a, x.b]
/-- Pairs more, out of a block of their own. -/
theorem appPr {w : World} {base : Nat} {v : Value} {xs : List Pr} (ho : Own 2 encPr 82 w base v xs) (hb : base ≤ w.heap.size) (hn : xs.length ≤ 4194304) (ys : List Pr) (m : Nat) (cs : Array Value) (hm : ys.length = m) (hm2 : m ≤ 16) (hcs : cs = (ys.flatMap encPr).toArray) :
    AppOk Tryd.prog 2 encPr (w.alloc (.cells cs 82)) base 37 82 v xs (some ⟨w.heap.size, 0, none⟩) m m ys where
  hk := encPr_len
  h1 := encPr_oneD
  ht := Tryd.underlying37
  info := ⟨zPr, 16, pairInfo, rfl, by omega⟩
  pos := by omega
  own := ho.alloc _
  src := ⟨_, _, slk_new encPr_len w ys m _ _ hm (by unfold maxLen; omega) hcs⟩
  h63 := by unfold maxLen; omega
  hb := by simp; omega
theorem typeInfo7 : (Tryd.prog.info? 84).map (fun i => (i.zero, i.size, i.bytes)) = some (some z7, 7, 56) := by kernel_rfl
theorem encTy_oneD (x : Ty) : ∀ u ∈ encTy x, u.oneCell' = true := ints_oneCell .i64 [x.id, x.w, x.h, x.d, x.tare, x.gram, x.cost]
theorem appTyS {w : World} {base : Nat} {v : Value} {xs : List Ty} (ho : Own 7 encTy 84 w base v xs) (hb : base ≤ w.heap.size) (hn : xs.length ≤ 4194304) {lo hi m c : Nat} {A : Option Addr} {ys : List Ty} (hs : SlK 7 encTy w lo hi A m c ys) (hm : m ≤ 16) :
    AppOk Tryd.prog 7 encTy w base 38 84 v xs A m c ys where
  hk := encTy_len
  h1 := encTy_oneD
  ht := Tryd.underlying38
  info := ⟨z7, 56, typeInfo7, rfl, by omega⟩
  pos := by omega
  own := ho
  src := ⟨_, _, hs⟩
  h63 := by unfold maxLen; omega
  hb := hb
theorem itemInfo7 : (Tryd.prog.info? 86).map (fun i => (i.zero, i.size, i.bytes)) = some (some z7, 7, 56) := by kernel_rfl
theorem encIt_one7 (x : It) : ∀ u ∈ encIt x, u.oneCell' = true := ints_oneCell .i64 [x.id, x.w, x.h, x.d, x.gram, x.cls, x.cnt]
theorem appItS {w : World} {base : Nat} {v : Value} {xs : List It} (ho : Own 7 encIt 86 w base v xs) (hb : base ≤ w.heap.size) (hn : xs.length ≤ 4194304) {lo hi m c : Nat} {A : Option Addr} {ys : List It} (hs : SlK 7 encIt w lo hi A m c ys) (hm : m ≤ 16) :
    AppOk Tryd.prog 7 encIt w base 39 86 v xs A m c ys where
  hk := encIt_len
  h1 := encIt_one7
  ht := Tryd.underlying39
  info := ⟨z7, 56, itemInfo7, rfl, by omega⟩
  pos := by omega
  own := ho
  src := ⟨_, _, hs⟩
  h63 := by unfold maxLen; omega
  hb := hb
set_option maxRecDepth 20000 in
set_option maxHeartbeats 2000000 in
theorem l2Right_any (g : Nat) (A : Option Addr) (n c : Nat) (bs : List Int) (w : World) (hc : CurAt 128 w g A n c bs) :
    Calls Tryd.prog 89 #[.pointer (some ⟨g, 0, none⟩)] w fun e w' => (∃ (r : Rq) (A1 : Option Addr) (n1 c1 : Nat) (A2 : Option Addr) (n2 c2 : Nat) (A3 : Option Addr) (n3 c3 : Nat), e = .returned (.agg #[.int .i64 r.way, .int .i64 r.pal.w, .int .i64 r.pal.d, .int .i64 r.pal.h, .int .i64 r.pal.gram, .int .i64 r.cls, .slice A1 n1 c1, .slice A2 n2 c2, .int .i64 r.master, .slice A3 n3 c3]) ∧ RqOwnD 82 84 86 w' w.heap.size r A1 n1 c1 A2 n2 c2 A3 n3 c3 ∧ n1 ≤ 32 ∧ 0 < n2 ∧ n2 ≤ 5 ∧ n3 ≤ 5) ∧ CurAt 128 w' g A n c bs ∧ w.grownBy w' (some g) := by
  have hgl := hc.lt
  go_enter Tryd.func89, Tryd.ntmps89
  go_wp2_with fail
  refine (l1Below_any 2 (by omega) (by omega) g A n c bs _ (hc.alloc _)).mono ?_
  rintro e w1 ⟨⟨way, rfl, hw0, hw1⟩, hc1, hg1⟩
  have L1 := hide hg1
  have z1 : w.heap.size + 1 ≤ w1.heap.size := by simpa using hg1.size
  clear hg1
  go_wp2_with fail
  refine (l1PickInt_any (some ⟨w1.heap.size, 0, none⟩) 3 3 [20, 30, 37] w1.heap.size (w1.heap.size + 1) (by omega) (by omega) g A n c bs _ (slk_new encInt_len _ [20, 30, 37] 3 _ _ rfl (by simp [maxLen]) rfl) (by simp) (.inl (by omega)) (hc1.alloc _)).mono ?_
  rintro e w2 ⟨⟨pw, rfl, hpw⟩, hc2, hg2⟩
  have L2 := hide (grown_trans L1.out (grown_trans (grown_alloc _ _ _) hg2))
  have z2 : w1.heap.size + 1 ≤ w2.heap.size := by simpa using hg2.size
  clear hg2 hc1 L1 hpw
  go_wp2_with fail
  refine (l1PickInt_any (some ⟨w2.heap.size, 0, none⟩) 3 3 [20, 25, 40] w2.heap.size (w2.heap.size + 1) (by omega) (by omega) g A n c bs _ (slk_new encInt_len _ [20, 25, 40] 3 _ _ rfl (by simp [maxLen]) rfl) (by simp) (.inl (by omega)) (hc2.alloc _)).mono ?_
  rintro e w3 ⟨⟨pd, rfl, hpw⟩, hc3, hg3⟩
  have L3 := hide (grown_trans L2.out (grown_trans (grown_alloc _ _ _) hg3))
  have z3 : w2.heap.size + 1 ≤ w3.heap.size := by simpa using hg3.size
  clear hg3 hc2 L2 hpw
  go_wp2_with fail
  refine (l1PickInt_any (some ⟨w3.heap.size, 0, none⟩) 3 3 [15, 24, 50] w3.heap.size (w3.heap.size + 1) (by omega) (by omega) g A n c bs _ (slk_new encInt_len _ [15, 24, 50] 3 _ _ rfl (by simp [maxLen]) rfl) (by simp) (.inl (by omega)) (hc3.alloc _)).mono ?_
  rintro e w4 ⟨⟨ph, rfl, hpw⟩, hc4, hg4⟩
  have L4 := hide (grown_trans L3.out (grown_trans (grown_alloc _ _ _) hg4))
  have z4 : w3.heap.size + 1 ≤ w4.heap.size := by simpa using hg4.size
  clear hg4 hc3 L3 hpw
  go_wp2_with fail
  refine (l1PickInt_any (some ⟨w4.heap.size, 0, none⟩) 3 3 [150, 400, 5000] w4.heap.size (w4.heap.size + 1) (by omega) (by omega) g A n c bs _ (slk_new encInt_len _ [150, 400, 5000] 3 _ _ rfl (by simp [maxLen]) rfl) (by simp) (.inl (by omega)) (hc4.alloc _)).mono ?_
  rintro e w5 ⟨⟨pg, rfl, hpw⟩, hc5, hg5⟩
  have L5 := hide (grown_trans L4.out (grown_trans (grown_alloc _ _ _) hg5))
  have z5 : w4.heap.size + 1 ≤ w5.heap.size := by simpa using hg5.size
  clear hg5 hc4 L4 hpw
  go_wp2_with fail
  refine (l1Below_any 4 (by omega) (by omega) g A n c bs _ hc5).mono ?_
  rintro e w6 ⟨⟨cl, rfl, hl0, hl1⟩, hc6, hg6⟩
  have L6 := hide (grown_trans L5.out hg6)
  have z6 : w5.heap.size ≤ w6.heap.size := by simpa using hg6.size
  clear hg6 hc5 L5
  obtain ⟨k, rfl⟩ := Int.eq_ofNat_of_zero_le hl0
  go_wp2_with fail
  have M0 := hide (show Mk 128 41 rqZero w (w6.alloc (Obj.cells (rqCells way pw pd ph pg (1 + (k : Int)) (.slice none 0 0) (.slice none 0 0) 7 (.slice none 0 0)) 41)) g A n c bs w6.heap.size (rqCells way pw pd ph pg (1 + (k : Int)) (.slice none 0 0) (.slice none 0 0) 7 (.slice none 0 0)) from
    ⟨hc6.alloc _, grown_trans (grown_trans (grown_alloc _ _ _) L6.out) (grown_alloc _ _ _), Blk.new _ _ _ rfl, (Blk.grown (Blk.new w 41 rqZero rfl) L6.out (fun e => by injection e with e; omega)).alloc _, hgl, by omega⟩)
  have P0 := hide (Own.nil_ (α := Pr) (k := 2) (enc := encPr) (w := w6.alloc (Obj.cells (rqCells way pw pd ph pg (1 + (k : Int)) (.slice none 0 0) (.slice none 0 0) 7 (.slice none 0 0)) 41)) 82 (w6.heap.size + 1))
  have zb : w.heap.size < w6.heap.size := by omega
  clear hc6 L6 hl0 z1 z2 z3 z4 z5 z6
  change Code.wp _ _ _ _ (w6.alloc (Obj.cells (rqCells way pw pd ph pg (1 + (k : Int)) (.slice none 0 0) (.slice none 0 0) 7 (.slice none 0 0)) 41))
  generalize hW : w6.alloc (Obj.cells (rqCells way pw pd ph pg (1 + (k : Int)) (.slice none 0 0) (.slice none 0 0) 7 (.slice none 0 0)) 41) = W at *
  generalize w6.heap.size = b at *
  clear hW
  have hk3 : k ≤ 3 := by omega
  go_loopw [4] (fun a wr => ∃ (j : Nat) (v : Value) (ps : List Pr), j ≤ k + 1 ∧ a = .int .i64 j ∧ ps.length ≤ 8 * j ∧ Mk 128 41 rqZero w wr g A n c bs b (rqCells way pw pd ph pg (1 + (k : Int)) v (.slice none 0 0) 7 (.slice none 0 0)) ∧ Own 2 encPr 82 wr (b + 1) v ps) (fun a _ => k + 1 - (intOf a).toNat)
  case atStart => exact ⟨0, _, [], Nat.zero_le _, rfl, Nat.zero_le _, M0.out, P0.out⟩
  case round =>
    obtain ⟨j, v, ps, hj, rfl, hpl, hM, hO⟩ := hrel
    clear M0 P0
    have hM' := hide hM
    have HO := hide hO
    have kB := hM.box.cell
    have fB := hM.box.frozen
    unfold rqCells at kB
    have yB := hM.lt
    clear hM hO
    by_cases hlt : j < k + 1
    · have i1 : (j : Int) < 1 + (k : Int) := by omega
      go_wp2_with fail
      clear kB fB yB
      go_loopw [5] (fun q wr2 => ∃ (i : Nat) (v : Value) (ps : List Pr), i ≤ j + 1 ∧ q = .int .i64 i ∧ ps.length ≤ 8 * j + 2 * i ∧ Mk 128 41 rqZero w wr2 g A n c bs b (rqCells way pw pd ph pg (1 + (k : Int)) v (.slice none 0 0) 7 (.slice none 0 0)) ∧ Own 2 encPr 82 wr2 (b + 1) v ps) (fun q _ => j + 1 - (intOf q).toNat)
      case atStart => exact ⟨0, v, ps, Nat.zero_le _, rfl, by omega, hM'.out, HO.out⟩
      case round =>
        clear hM' HO
        obtain ⟨i, v, ps, hi, rfl, hpl, hM, hO⟩ := hrel
        have hM' := hide hM
        have HO := hide hO
        have kB := hM.box.cell
        have fB := hM.box.frozen
        unfold rqCells at kB
        have yB := hM.lt
        clear hM hO
        by_cases hlt2 : i ≤ j
        · have i2 : (i : Int) ≤ (j : Int) := by omega
          by_cases e : i = j
          · subst e
            go_wp2_with (at_builtin; refine wpList_app rfl _ _ rfl rfl rfl (appPr HO.out (by omega) (by omega) [⟨i, i⟩] 1 _ rfl (by omega) rfl) ?_; intro v' w2 ho2 hg2 hat2; obtain ⟨m2, hm2⟩ : ∃ m2, (ps ++ [(⟨i, i⟩ : Pr)]).length = m2 := ⟨_, rfl⟩; obtain ⟨A2, c2, rfl, s2⟩ := Own.slk' encPr_len hm2 ho2; clear s2; have HM2 := hide hm2; clear hm2; have M2 := hide ((hM'.out.alloc _).app hg2 (fun x hx => by have := (HO.out.lt x hx).1; omega)); clear hg2 hat2 kB fB yB; have HO2 := hide ho2; clear ho2; have kB := M2.out.box.cell; have fB := M2.out.box.frozen; unfold rqCells at kB; have yB := M2.out.lt)
            go_roundw
            case rel => exact ⟨i + 1, _, ps ++ [⟨i, i⟩], by omega, by go_num, by simp; omega, M2.out.set 6 _, own_set HO2.out (Nat.lt_succ_self _) 6 _⟩
            case measure => (simp [intOf] <;> omega)
          · have i3 : ¬ ((j : Int) = (i : Int)) := by omega
            go_wp2_with fail
            refine (l1Once_any 2 (by omega) (by omega) g A n c bs _ hM'.out.cur).mono ?_
            rintro e' w2 ⟨⟨t, rfl⟩, hc2, hg2⟩
            have M2 := hide (hM'.out.call hc2 hg2)
            have HO2 := hide (own_call HO.out hg2 (fun x hx => by injection hx with hx; omega))
            clear kB fB yB hM' HO hc2 hg2
            have kB := M2.out.box.cell
            have fB := M2.out.box.frozen
            unfold rqCells at kB
            have yB := M2.out.lt
            cases t
            · go_wp2_with fail
              go_roundw
              case rel => exact ⟨i + 1, v, ps, by omega, by go_num, by omega, M2.out, HO2.out⟩
              case measure => (simp [intOf] <;> omega)
            · go_wp2_with (at_builtin; refine wpList_app rfl _ _ rfl rfl rfl (appPr HO2.out (by omega) (by omega) [⟨j, i⟩, ⟨i, j⟩] 2 _ rfl (by omega) rfl) ?_; intro v' w3 ho3 hg3 hat3; obtain ⟨m3, hm3⟩ : ∃ m3, (ps ++ [(⟨j, i⟩ : Pr), ⟨i, j⟩]).length = m3 := ⟨_, rfl⟩; obtain ⟨A3, c3, rfl, s3⟩ := Own.slk' encPr_len hm3 ho3; clear s3; have HM3 := hide hm3; clear hm3; have M3 := hide ((M2.out.alloc _).app hg3 (fun x hx => by have := (HO2.out.lt x hx).1; omega)); clear hg3 hat3 kB fB yB; have HO3 := hide ho3; clear ho3; have kB := M3.out.box.cell; have fB := M3.out.box.frozen; unfold rqCells at kB; have yB := M3.out.lt)
              go_roundw
              case rel => exact ⟨i + 1, _, ps ++ [⟨j, i⟩, ⟨i, j⟩], by omega, by go_num, by simp; omega, M3.out.set 6 _, own_set HO3.out (Nat.lt_succ_self _) 6 _⟩
              case measure => (simp [intOf] <;> omega)
        · have i2 : ¬ (i : Int) ≤ (j : Int) := by omega
          clear kB fB yB
          go_wp2_with fail
          go_roundw
          case rel => exact ⟨j + 1, v, ps, by omega, by go_num, by omega, hM'.out, HO.out⟩
          case measure => (simp [intOf] <;> omega)
    · have i1 : ¬ (j : Int) < 1 + (k : Int) := by omega
      go_wp2_with fail
      clear kB fB yB
      obtain ⟨n1, hn1⟩ : ∃ n1, ps.length = n1 := ⟨_, rfl⟩
      obtain ⟨A1, c1, rfl, s1⟩ := Own.slk' encPr_len hn1 HO.out
      clear s1
      have hn1b : n1 ≤ 32 := by omega
      have HN1 := hide hn1
      clear hn1 hpl
      obtain ⟨s, hs⟩ : ∃ s, wr.heap.size = s := ⟨_, rfl⟩
      have hbs : b < s := by rw [← hs]; exact hM'.out.lt.2
      have hgs : g < s := by have := hM'.out.lt; omega
      have HD1 := hide (fun x (hx : (Value.slice A1 n1 c1).ownBlock = some x) => (show x < s from by have := (HO.out.lt x hx).2; omega))
      refine wp_region_cut 12 [false, false, false, false, false, false, false, false, false, false, false, false, false, false, false, false, false, false, false, false, false, false, false, false, false, false, false, false, false, false, false, false, false, false, false, false, false, false, false, false, false, false, false, false, false, false, false, false, false, false, false, false, false, false, false, false, false, false, false, false, false, false, false, false, false, false, true, true, true, true, true, true, true, true, true, true, true, true] (by kernel_rfl) (fun ix v W => match ix with | 0 => v = .pointer (some ⟨b, 7, none⟩) | 1 => v = .slice none 0 0 | 2 => v = .pointer (some ⟨g, 0, none⟩) | 3 => ∃ x : Int, v = .int .i64 x | 4 => v = .pointer (some ⟨g, 0, none⟩) | 5 => ∃ a : Nat, v = .slice (some ⟨a, 0, none⟩) 3 3 ∧ SlK 1 encInt W s W.heap.size (some ⟨a, 0, none⟩) 3 3 [60, 100, 140] | 6 => ∃ x : Int, v = .int .i64 x | 7 => v = .pointer (some ⟨g, 0, none⟩) | 8 => ∃ a : Nat, v = .slice (some ⟨a, 0, none⟩) 2 2 ∧ SlK 1 encInt W s W.heap.size (some ⟨a, 0, none⟩) 2 2 [9, 20] | 9 => ∃ x : Int, v = .int .i64 x | 10 => ∃ y : Ty, v = .agg #[.int .i64 y.id, .int .i64 y.w, .int .i64 y.h, .int .i64 y.d, .int .i64 y.tare, .int .i64 y.gram, .int .i64 y.cost] | 11 => ∃ (a : Nat) (y : Ty), v = .slice (some ⟨a, 0, none⟩) 1 1 ∧ SlK 7 encTy W s W.heap.size (some ⟨a, 0, none⟩) 1 1 [y] | _ => True) (fun W => s ≤ W.heap.size ∧ Mk 128 41 rqZero w W g A n c bs b (rqCells way pw pd ph pg (1 + (k : Int)) (.slice A1 n1 c1) (.slice none 0 0) 7 (.slice none 0 0)) ∧ Own 2 encPr 82 W (b + 1) (.slice A1 n1 c1) ps) (fun W W' => W.grownBy W' (some g)) (by kernel_rfl) (by kernel_rfl) (by decide) (by kernel_rfl) ?hwi ?hst ?hop 3 (by kernel_rfl) ?hend
      case hwi => exact ⟨by rw [← hs]; exact Nat.le_refl _, hM'.out.drew, HO.out.drew⟩
      case hst =>
        intro i v W W' h hS
        match i, h with
        | 0, h => exact h
        | 1, h => exact h
        | 2, h => exact h
        | 3, h => exact h
        | 4, h => exact h
        | 5, ⟨a, h1, h2⟩ => exact ⟨a, h1, slk_step h2 hS hgs⟩
        | 6, h => exact h
        | 7, h => exact h
        | 8, ⟨a, h1, h2⟩ => exact ⟨a, h1, slk_step h2 hS hgs⟩
        | 9, h => exact h
        | 10, h => exact h
        | 11, ⟨a, y, h1, h2⟩ => exact ⟨a, y, h1, slk_step h2 hS hgs⟩
        | _ + 12, h => trivial
      case hop =>
        simp only [over_mk, overL_t, overL_f, overL_nil, Nat.reduceAdd]
        refine ⟨fun t W hW hd K' hK => ?_, fun t W hW hd K' hK => ?_, fun t W hW hd K' hK => ?_, fun t W hW hd K' hK => ?_, fun t W hW hd K' hK => ?_, fun t W hW hd K' hK => ?_, fun t W hW hd K' hK => ?_, fun t W hW hd K' hK => ?_, fun t W hW hd K' hK => ?_, fun t W hW hd K' hK => ?_, fun t W hW hd K' hK => ?_, fun t W hW hd K' hK => ?_, trivial⟩
        · go_simp
          refine hK.out _ _ _ ?_ rfl (grown_refl _ _) hW
          simp only [Act.put, List.getElem_toArray, List.getElem_cons_succ, List.getElem_cons_zero, List.setIfInBounds_toArray, List.set_cons_zero, List.set_cons_succ]
        · have kB := hW.2.1.box.cell
          have fB := hW.2.1.box.frozen
          unfold rqCells at kB
          have yB := hW.2.1.lt
          have e0 : t 66 = .pointer (some ⟨b, 7, none⟩) := hd 0 (by kernel_rfl) 66 (by kernel_rfl)
          go_simp
          refine hK.out _ _ _ ?_ rfl (grown_refl _ _) hW
          simp only [Act.put, List.getElem_toArray, List.getElem_cons_succ, List.getElem_cons_zero, List.setIfInBounds_toArray, List.set_cons_zero, List.set_cons_succ, e0]
        · go_simp
          refine hK.out _ _ _ ?_ rfl (grown_refl _ _) hW
          simp only [Act.put, List.getElem_toArray, List.getElem_cons_succ, List.getElem_cons_zero, List.setIfInBounds_toArray, List.set_cons_zero, List.set_cons_succ]
        · have e0 : t 68 = .pointer (some ⟨g, 0, none⟩) := hd 2 (by kernel_rfl) 68 (by kernel_rfl)
          go_simp
          refine (l1Below_any 8 (by omega) (by omega) g A n c bs _ hW.2.1.cur).mono ?_
          rintro e' w2 ⟨⟨x, rfl, hx0, hx1⟩, hc, hg⟩
          go_wp2_with fail
          refine hK.out _ _ _ ?_ ⟨x, rfl⟩ hg ⟨Nat.le_trans hW.1 hg.size, hW.2.1.call hc hg, own_call hW.2.2 hg (fun z hz => by injection hz with hz; have := hW.2.1.lt; omega)⟩
          simp only [Act.put, List.getElem_toArray, List.getElem_cons_succ, List.getElem_cons_zero, List.setIfInBounds_toArray, List.set_cons_zero, List.set_cons_succ, e0]
        · go_simp
          refine hK.out _ _ _ ?_ rfl (grown_refl _ _) hW
          simp only [Act.put, List.getElem_toArray, List.getElem_cons_succ, List.getElem_cons_zero, List.setIfInBounds_toArray, List.set_cons_zero, List.set_cons_succ]
        · go_simp
          refine hK.out _ _ _ ?_ ⟨_, rfl, (slk_new encInt_len W [60, 100, 140] 3 _ _ rfl (by simp [maxLen]) rfl).more hW.1 (by simp)⟩ (grown_alloc _ _ _) ⟨by simp; have := hW.1; omega, hW.2.1.alloc _, hW.2.2.alloc _⟩
          simp only [Act.put, List.getElem_toArray, List.getElem_cons_succ, List.getElem_cons_zero, List.setIfInBounds_toArray, List.set_cons_zero, List.set_cons_succ]
        · have e0 : t 70 = .pointer (some ⟨g, 0, none⟩) := hd 4 (by kernel_rfl) 70 (by kernel_rfl)
          obtain ⟨a, e1, hs⟩ : ∃ a : Nat, t 71 = .slice (some ⟨a, 0, none⟩) 3 3 ∧ SlK 1 encInt W s W.heap.size (some ⟨a, 0, none⟩) 3 3 [60, 100, 140] := hd 5 (by kernel_rfl) 71 (by kernel_rfl)
          go_simp
          refine (l1PickInt_any _ 3 3 _ _ _ (by omega) (by omega) g A n c bs _ hs (Nat.le_refl _) (.inl hgs) hW.2.1.cur).mono ?_
          rintro e' w2 ⟨⟨x, rfl, hx0⟩, hc, hg⟩
          go_wp2_with fail
          refine hK.out _ _ _ ?_ ⟨x, rfl⟩ hg ⟨Nat.le_trans hW.1 hg.size, hW.2.1.call hc hg, own_call hW.2.2 hg (fun z hz => by injection hz with hz; have := hW.2.1.lt; omega)⟩
          simp only [Act.put, List.getElem_toArray, List.getElem_cons_succ, List.getElem_cons_zero, List.setIfInBounds_toArray, List.set_cons_zero, List.set_cons_succ, e0, e1]
        · go_simp
          refine hK.out _ _ _ ?_ rfl (grown_refl _ _) hW
          simp only [Act.put, List.getElem_toArray, List.getElem_cons_succ, List.getElem_cons_zero, List.setIfInBounds_toArray, List.set_cons_zero, List.set_cons_succ]
        · go_simp
          refine hK.out _ _ _ ?_ ⟨_, rfl, (slk_new encInt_len W [9, 20] 2 _ _ rfl (by simp [maxLen]) rfl).more hW.1 (by simp)⟩ (grown_alloc _ _ _) ⟨by simp; have := hW.1; omega, hW.2.1.alloc _, hW.2.2.alloc _⟩
          simp only [Act.put, List.getElem_toArray, List.getElem_cons_succ, List.getElem_cons_zero, List.setIfInBounds_toArray, List.set_cons_zero, List.set_cons_succ]
        · have e0 : t 73 = .pointer (some ⟨g, 0, none⟩) := hd 7 (by kernel_rfl) 73 (by kernel_rfl)
          obtain ⟨a, e1, hs⟩ : ∃ a : Nat, t 74 = .slice (some ⟨a, 0, none⟩) 2 2 ∧ SlK 1 encInt W s W.heap.size (some ⟨a, 0, none⟩) 2 2 [9, 20] := hd 8 (by kernel_rfl) 74 (by kernel_rfl)
          go_simp
          refine (l1PickInt_any _ 2 2 _ _ _ (by omega) (by omega) g A n c bs _ hs (Nat.le_refl _) (.inl hgs) hW.2.1.cur).mono ?_
          rintro e' w2 ⟨⟨x, rfl, hx0⟩, hc, hg⟩
          go_wp2_with fail
          refine hK.out _ _ _ ?_ ⟨x, rfl⟩ hg ⟨Nat.le_trans hW.1 hg.size, hW.2.1.call hc hg, own_call hW.2.2 hg (fun z hz => by injection hz with hz; have := hW.2.1.lt; omega)⟩
          simp only [Act.put, List.getElem_toArray, List.getElem_cons_succ, List.getElem_cons_zero, List.setIfInBounds_toArray, List.set_cons_zero, List.set_cons_succ, e0, e1]
        · obtain ⟨x3, e3⟩ : ∃ x : Int, t 69 = .int .i64 x := hd 3 (by kernel_rfl) 69 (by kernel_rfl)
          obtain ⟨x6, e6⟩ : ∃ x : Int, t 72 = .int .i64 x := hd 6 (by kernel_rfl) 72 (by kernel_rfl)
          obtain ⟨x9, e9⟩ : ∃ x : Int, t 75 = .int .i64 x := hd 9 (by kernel_rfl) 75 (by kernel_rfl)
          go_simp
          refine hK.out _ _ _ ?_ ⟨⟨7, 12, 10, 11, x3, x6, x9⟩, rfl⟩ (grown_refl _ _) hW
          simp only [Act.put, List.getElem_toArray, List.getElem_cons_succ, List.getElem_cons_zero, List.setIfInBounds_toArray, List.set_cons_zero, List.set_cons_succ, e3, e6, e9]
        · obtain ⟨y, e0⟩ : ∃ y : Ty, t 76 = .agg #[.int .i64 y.id, .int .i64 y.w, .int .i64 y.h, .int .i64 y.d, .int .i64 y.tare, .int .i64 y.gram, .int .i64 y.cost] := hd 10 (by kernel_rfl) 76 (by kernel_rfl)
          go_simp
          refine hK.out _ _ _ ?_ ⟨_, y, rfl, (slk_new encTy_len W [y] 1 _ _ rfl (by simp [maxLen]) rfl).more hW.1 (by simp)⟩ (grown_alloc _ _ _) ⟨by simp; have := hW.1; omega, hW.2.1.alloc _, hW.2.2.alloc _⟩
          simp only [Act.put, List.getElem_toArray, List.getElem_cons_succ, List.getElem_cons_zero, List.setIfInBounds_toArray, List.set_cons_zero, List.set_cons_succ, e0]
      case hend =>
        intro t W hW hd
        simp only [over_mk, overL_t, overL_f, overL_nil, Nat.reduceAdd]
        have e67 : t 67 = .slice none 0 0 := hd 1 (by decide) 67 rfl
        obtain ⟨a, y, e77, hS⟩ : ∃ (a : Nat) (y : Ty), t 77 = .slice (some ⟨a, 0, none⟩) 1 1 ∧ SlK 7 encTy W s W.heap.size (some ⟨a, 0, none⟩) 1 1 [y] := hd 11 (by decide) 77 rfl
        clear hd
        rw [e67, e77]
        obtain ⟨hW1, hM3, hO3⟩ := hW
        have HT0 : Own 7 encTy 84 W s (.slice none 0 0) ([] : List Ty) := Own.nil_ _ _
        refine wpAnyH_ready (rs := [12]) (by kernel_rfl) (by simp) ?_
        refine AllReadyH.cons rfl (fun K hK => ?_) AllReadyH.nil
        refine step_app rfl (.tmp 67) (.tmp 77) rfl (by simp [Act.eval]) (by simp [Act.eval]) (appTyS HT0 hW1 (by simp) hS (by omega)) ?_
        intro v' w2 ho2 hg2 hat2
        obtain ⟨A2, c2, rfl, s2⟩ := Own.slk' encTy_len (n := 1) rfl ho2
        clear s2
        refine hK.out _ _ trivial (fun _ => ?_)
        clear hK K
        try simp only [Act.put, List.getElem_toArray, List.getElem_cons_succ, List.getElem_cons_zero, List.setIfInBounds_toArray, List.set_cons_zero, List.set_cons_succ]
        have M2 := hide (hM3.app hg2 (fun x hx => by cases hx))
        have HP2 := hide (own_call hO3 hg2 (fun x hx => by cases hx))
        have HT2 := hide ho2
        have zs := hg2.size
        clear hM3 hO3 hg2 hat2 ho2 HT0 hS e67 e77
        have kB := M2.out.box.cell
        have fB := M2.out.box.frozen
        unfold rqCells at kB
        have yB := M2.out.lt
        refine wpAnyH_ready (rs := [13]) (by kernel_rfl) (by simp) ?_
        refine AllReadyH.cons rfl (fun K hK => ?_) AllReadyH.nil
        go_simp
        refine hK.out _ _ trivial (fun _ => ?_)
        clear hK K
        try simp only [Act.put, List.getElem_toArray, List.getElem_cons_succ, List.getElem_cons_zero, List.setIfInBounds_toArray, List.set_cons_zero, List.set_cons_succ]
        refine wpAnyH_ready (rs := [14]) (by kernel_rfl) (by simp) ?_
        refine AllReadyH.cons rfl (fun K hK => ?_) AllReadyH.nil
        go_simp
        refine hK.out _ _ trivial (fun _ => ?_)
        clear hK K
        try simp only [Act.put, List.getElem_toArray, List.getElem_cons_succ, List.getElem_cons_zero, List.setIfInBounds_toArray, List.set_cons_zero, List.set_cons_succ]
        refine wpAnyH_done (by kernel_rfl) ?_ _
        clear kB fB yB
        have M3 := hide (M2.out.set 7 (.slice A2 1 c2))
        have HP3 := hide (own_set HP2.out (Nat.lt_succ_self _) 7 (.slice A2 1 c2))
        have HT3 := hide (own_set HT2.out hbs 7 (.slice A2 1 c2))
        clear M2 HP2 HT2
        have zs3 : s ≤ (w2.setCell ⟨b, 7, none⟩ (.slice A2 1 c2)).heap.size := by simp; omega
        generalize hw3 : w2.setCell ⟨b, 7, none⟩ (.slice A2 1 c2) = w3 at *
        clear hw3
        go_wp2_with fail
        refine (l1Below_any 5 (by omega) (by omega) g A n c bs _ M3.out.cur).mono ?_
        rintro e' w4 ⟨⟨nn, rfl, hn0, hn1'⟩, hc4, hg4⟩
        obtain ⟨nt, rfl⟩ := Int.eq_ofNat_of_zero_le hn0
        have hnt : nt ≤ 4 := by omega
        have M4 := hide (M3.out.call hc4 hg4)
        have HP4 := hide (own_call HP3.out hg4 (fun x hx => by injection hx with hx; have := M3.out.lt; omega))
        have HT4 := hide (own_call HT3.out hg4 (fun x hx => by injection hx with hx; omega))
        have zs4 : s ≤ w4.heap.size := by have := hg4.size; omega
        clear hn0 hc4 hg4 M3 HP3 HT3
        go_wp2_with fail
        go_loopw [7] (fun q wr2 => ∃ (i : Nat) (A2 : Option Addr) (n2 c2 : Nat) (ts : List Ty), i ≤ nt ∧ q = .int .i64 i ∧ ts.length = n2 ∧ 0 < n2 ∧ n2 ≤ i + 1 ∧ s ≤ wr2.heap.size ∧ Mk 128 41 rqZero w wr2 g A n c bs b (rqCells way pw pd ph pg (1 + (k : Int)) (.slice A1 n1 c1) (.slice A2 n2 c2) 7 (.slice none 0 0)) ∧ Own 2 encPr 82 wr2 (b + 1) (.slice A1 n1 c1) ps ∧ Own 7 encTy 84 wr2 s (.slice A2 n2 c2) ts) (fun q _ => nt - (intOf q).toNat)
        case atStart => exact ⟨0, A2, 1, c2, [] ++ [y], Nat.zero_le _, rfl, rfl, by omega, by omega, zs4, M4.out, HP4.out, HT4.out⟩
        case round =>
          clear M4 HP4 HT4
          obtain ⟨i, A2, n2, c2, ts, hi, rfl, hl2, hn2, hn2q, zs4, hM4, hP4, hT4⟩ := hrel
          have M4 := hide hM4
          have HP4 := hide hP4
          have HT4 := hide hT4
          have HL2 := hide hl2
          have hn2b : ts.length ≤ 5 := by omega
          clear hM4 hP4 hT4 hl2
          by_cases hlt4 : i < nt
          · have i4 : (i : Int) < (nt : Int) := by omega
            go_wp2_with fail
            obtain ⟨s5, hs5⟩ : ∃ s5, wr.heap.size = s5 := ⟨_, rfl⟩
            have hgs5 : g < s5 := by have := M4.out.lt; omega
            have hss5 : s ≤ s5 := by omega
            refine wp_region_cut 23 [false, false, false, false, false, false, false, false, false, false, false, false, false, false, false, false, false, false, false, false, false, false, false, false, false, false, false, false, false, false, false, false, false, false, false, false, false, false, false, false, false, false, false, false, false, false, false, false, false, false, false, false, false, false, false, false, false, false, false, false, false, false, false, false, false, false, false, false, false, false, false, false, false, false, false, false, false, false, false, false, false, false, false, false, false, false, false, true, true, true, true, true, true, true, true, true, true, true, true, true, true, true, true, true, true, true, true, true, true, true] (by kernel_rfl) (fun ix v W => match ix with | 0 => v = .pointer (some ⟨b, 7, none⟩) | 1 => v = .slice A2 n2 c2 | 2 => v = .int .i64 (i : Int) | 3 => ∃ x : Int, v = .int .i64 x | 4 => v = .pointer (some ⟨g, 0, none⟩) | 5 => ∃ x : Int, v = .int .i64 x | 6 => ∃ x : Int, v = .int .i64 x | 7 => v = .pointer (some ⟨g, 0, none⟩) | 8 => ∃ x : Int, v = .int .i64 x | 9 => ∃ x : Int, v = .int .i64 x | 10 => v = .pointer (some ⟨g, 0, none⟩) | 11 => ∃ x : Int, v = .int .i64 x | 12 => ∃ x : Int, v = .int .i64 x | 13 => v = .pointer (some ⟨g, 0, none⟩) | 14 => ∃ x : Int, v = .int .i64 x | 15 => v = .pointer (some ⟨g, 0, none⟩) | 16 => ∃ x : Int, v = .int .i64 x | 17 => ∃ x : Int, v = .int .i64 x | 18 => v = .pointer (some ⟨g, 0, none⟩) | 19 => ∃ x : Int, v = .int .i64 x | 20 => ∃ x : Int, v = .int .i64 x | 21 => ∃ y : Ty, v = .agg #[.int .i64 y.id, .int .i64 y.w, .int .i64 y.h, .int .i64 y.d, .int .i64 y.tare, .int .i64 y.gram, .int .i64 y.cost] | 22 => ∃ (a : Nat) (y : Ty), v = .slice (some ⟨a, 0, none⟩) 1 1 ∧ SlK 7 encTy W s5 W.heap.size (some ⟨a, 0, none⟩) 1 1 [y] | _ => True) (fun W => s5 ≤ W.heap.size ∧ Mk 128 41 rqZero w W g A n c bs b (rqCells way pw pd ph pg (1 + (k : Int)) (.slice A1 n1 c1) (.slice A2 n2 c2) 7 (.slice none 0 0)) ∧ Own 2 encPr 82 W (b + 1) (.slice A1 n1 c1) ps ∧ Own 7 encTy 84 W s (.slice A2 n2 c2) ts) (fun W W' => W.grownBy W' (some g)) (by kernel_rfl) (by kernel_rfl) (by decide) (by kernel_rfl) ?hwi ?hst ?hop 3 (by kernel_rfl) ?hend
            case hwi => exact ⟨by rw [← hs5]; exact Nat.le_refl _, M4.out.drew, HP4.out.drew, HT4.out.drew⟩
            case hst =>
              intro i v W W' h hS
              match i, h with
              | 0, h => exact h
              | 1, h => exact h
              | 2, h => exact h
              | 3, h => exact h
              | 4, h => exact h
              | 5, h => exact h
              | 6, h => exact h
              | 7, h => exact h
              | 8, h => exact h
              | 9, h => exact h
              | 10, h => exact h
              | 11, h => exact h
              | 12, h => exact h
              | 13, h => exact h
              | 14, h => exact h
              | 15, h => exact h
              | 16, h => exact h
              | 17, h => exact h
              | 18, h => exact h
              | 19, h => exact h
              | 20, h => exact h
              | 21, h => exact h
              | 22, ⟨a, y, h1, h2⟩ => exact ⟨a, y, h1, slk_step h2 hS hgs5⟩
              | _ + 23, h => trivial
            case hop =>
              simp only [over_mk, overL_t, overL_f, overL_nil, Nat.reduceAdd]
              refine ⟨fun t W hW hd K' hK => ?_, fun t W hW hd K' hK => ?_, fun t W hW hd K' hK => ?_, fun t W hW hd K' hK => ?_, fun t W hW hd K' hK => ?_, fun t W hW hd K' hK => ?_, fun t W hW hd K' hK => ?_, fun t W hW hd K' hK => ?_, fun t W hW hd K' hK => ?_, fun t W hW hd K' hK => ?_, fun t W hW hd K' hK => ?_, fun t W hW hd K' hK => ?_, fun t W hW hd K' hK => ?_, fun t W hW hd K' hK => ?_, fun t W hW hd K' hK => ?_, fun t W hW hd K' hK => ?_, fun t W hW hd K' hK => ?_, fun t W hW hd K' hK => ?_, fun t W hW hd K' hK => ?_, fun t W hW hd K' hK => ?_, fun t W hW hd K' hK => ?_, fun t W hW hd K' hK => ?_, fun t W hW hd K' hK => ?_, trivial⟩
              · go_simp
                refine hK.out _ _ _ ?_ rfl (grown_refl _ _) hW
                simp only [Act.put, List.getElem_toArray, List.getElem_cons_succ, List.getElem_cons_zero, List.setIfInBounds_toArray, List.set_cons_zero, List.set_cons_succ]
              · have kB := hW.2.1.box.cell
                have fB := hW.2.1.box.frozen
                unfold rqCells at kB
                have yB := hW.2.1.lt
                have e0 : t 87 = .pointer (some ⟨b, 7, none⟩) := hd 0 (by kernel_rfl) 87 (by kernel_rfl)
                go_simp
                refine hK.out _ _ _ ?_ rfl (grown_refl _ _) hW
                simp only [Act.put, List.getElem_toArray, List.getElem_cons_succ, List.getElem_cons_zero, List.setIfInBounds_toArray, List.set_cons_zero, List.set_cons_succ, e0]
              · go_simp
                refine hK.out _ _ _ ?_ rfl (grown_refl _ _) hW
                simp only [Act.put, List.getElem_toArray, List.getElem_cons_succ, List.getElem_cons_zero, List.setIfInBounds_toArray, List.set_cons_zero, List.set_cons_succ]
              · have e0 : t 89 = .int .i64 (i : Int) := hd 2 (by kernel_rfl) 89 (by kernel_rfl)
                go_simp
                refine hK.out _ _ _ ?_ ⟨IntKind.i64.wrap (10 + (i : Int)), rfl⟩ (grown_refl _ _) hW
                simp only [Act.put, List.getElem_toArray, List.getElem_cons_succ, List.getElem_cons_zero, List.setIfInBounds_toArray, List.set_cons_zero, List.set_cons_succ, e0]
              · go_simp
                refine hK.out _ _ _ ?_ rfl (grown_refl _ _) hW
                simp only [Act.put, List.getElem_toArray, List.getElem_cons_succ, List.getElem_cons_zero, List.setIfInBounds_toArray, List.set_cons_zero, List.set_cons_succ]
              · have e0 : t 91 = .pointer (some ⟨g, 0, none⟩) := hd 4 (by kernel_rfl) 91 (by kernel_rfl)
                go_simp
                refine (l1Below_any 9 (by omega) (by omega) g A n c bs _ hW.2.1.cur).mono ?_
                rintro e' w2 ⟨⟨x, rfl, hx0, hx1⟩, hc, hg⟩
                go_wp2_with fail
                refine hK.out _ _ _ ?_ ⟨x, rfl⟩ hg ⟨Nat.le_trans hW.1 hg.size, hW.2.1.call hc hg, own_call hW.2.2.1 hg (fun z hz => by injection hz with hz; have := hW.2.1.lt; omega), own_call hW.2.2.2 hg (fun z hz => by injection hz with hz; omega)⟩
                simp only [Act.put, List.getElem_toArray, List.getElem_cons_succ, List.getElem_cons_zero, List.setIfInBounds_toArray, List.set_cons_zero, List.set_cons_succ, e0]
              · obtain ⟨x0, e0⟩ : ∃ x : Int, t 92 = .int .i64 x := hd 5 (by kernel_rfl) 92 (by kernel_rfl)
                go_simp
                refine hK.out _ _ _ ?_ ⟨IntKind.i64.wrap (4 + x0), rfl⟩ (grown_refl _ _) hW
                simp only [Act.put, List.getElem_toArray, List.getElem_cons_succ, List.getElem_cons_zero, List.setIfInBounds_toArray, List.set_cons_zero, List.set_cons_succ, e0]
              · go_simp
                refine hK.out _ _ _ ?_ rfl (grown_refl _ _) hW
                simp only [Act.put, List.getElem_toArray, List.getElem_cons_succ, List.getElem_cons_zero, List.setIfInBounds_toArray, List.set_cons_zero, List.set_cons_succ]
              · have e0 : t 94 = .pointer (some ⟨g, 0, none⟩) := hd 7 (by kernel_rfl) 94 (by kernel_rfl)
                go_simp
                refine (l1Below_any 8 (by omega) (by omega) g A n c bs _ hW.2.1.cur).mono ?_
                rintro e' w2 ⟨⟨x, rfl, hx0, hx1⟩, hc, hg⟩
                go_wp2_with fail
                refine hK.out _ _ _ ?_ ⟨x, rfl⟩ hg ⟨Nat.le_trans hW.1 hg.size, hW.2.1.call hc hg, own_call hW.2.2.1 hg (fun z hz => by injection hz with hz; have := hW.2.1.lt; omega), own_call hW.2.2.2 hg (fun z hz => by injection hz with hz; omega)⟩
                simp only [Act.put, List.getElem_toArray, List.getElem_cons_succ, List.getElem_cons_zero, List.setIfInBounds_toArray, List.set_cons_zero, List.set_cons_succ, e0]
              · obtain ⟨x0, e0⟩ : ∃ x : Int, t 95 = .int .i64 x := hd 8 (by kernel_rfl) 95 (by kernel_rfl)
                go_simp
                refine hK.out _ _ _ ?_ ⟨IntKind.i64.wrap (3 + x0), rfl⟩ (grown_refl _ _) hW
                simp only [Act.put, List.getElem_toArray, List.getElem_cons_succ, List.getElem_cons_zero, List.setIfInBounds_toArray, List.set_cons_zero, List.set_cons_succ, e0]
              · go_simp
                refine hK.out _ _ _ ?_ rfl (grown_refl _ _) hW
                simp only [Act.put, List.getElem_toArray, List.getElem_cons_succ, List.getElem_cons_zero, List.setIfInBounds_toArray, List.set_cons_zero, List.set_cons_succ]
              · have e0 : t 97 = .pointer (some ⟨g, 0, none⟩) := hd 10 (by kernel_rfl) 97 (by kernel_rfl)
                go_simp
                refine (l1Below_any 9 (by omega) (by omega) g A n c bs _ hW.2.1.cur).mono ?_
                rintro e' w2 ⟨⟨x, rfl, hx0, hx1⟩, hc, hg⟩
                go_wp2_with fail
                refine hK.out _ _ _ ?_ ⟨x, rfl⟩ hg ⟨Nat.le_trans hW.1 hg.size, hW.2.1.call hc hg, own_call hW.2.2.1 hg (fun z hz => by injection hz with hz; have := hW.2.1.lt; omega), own_call hW.2.2.2 hg (fun z hz => by injection hz with hz; omega)⟩
                simp only [Act.put, List.getElem_toArray, List.getElem_cons_succ, List.getElem_cons_zero, List.setIfInBounds_toArray, List.set_cons_zero, List.set_cons_succ, e0]
              · obtain ⟨x0, e0⟩ : ∃ x : Int, t 98 = .int .i64 x := hd 11 (by kernel_rfl) 98 (by kernel_rfl)
                go_simp
                refine hK.out _ _ _ ?_ ⟨IntKind.i64.wrap (3 + x0), rfl⟩ (grown_refl _ _) hW
                simp only [Act.put, List.getElem_toArray, List.getElem_cons_succ, List.getElem_cons_zero, List.setIfInBounds_toArray, List.set_cons_zero, List.set_cons_succ, e0]
              · go_simp
                refine hK.out _ _ _ ?_ rfl (grown_refl _ _) hW
                simp only [Act.put, List.getElem_toArray, List.getElem_cons_succ, List.getElem_cons_zero, List.setIfInBounds_toArray, List.set_cons_zero, List.set_cons_succ]
              · have e0 : t 100 = .pointer (some ⟨g, 0, none⟩) := hd 13 (by kernel_rfl) 100 (by kernel_rfl)
                go_simp
                refine (l1Below_any 5 (by omega) (by omega) g A n c bs _ hW.2.1.cur).mono ?_
                rintro e' w2 ⟨⟨x, rfl, hx0, hx1⟩, hc, hg⟩
                go_wp2_with fail
                refine hK.out _ _ _ ?_ ⟨x, rfl⟩ hg ⟨Nat.le_trans hW.1 hg.size, hW.2.1.call hc hg, own_call hW.2.2.1 hg (fun z hz => by injection hz with hz; have := hW.2.1.lt; omega), own_call hW.2.2.2 hg (fun z hz => by injection hz with hz; omega)⟩
                simp only [Act.put, List.getElem_toArray, List.getElem_cons_succ, List.getElem_cons_zero, List.setIfInBounds_toArray, List.set_cons_zero, List.set_cons_succ, e0]
              · go_simp
                refine hK.out _ _ _ ?_ rfl (grown_refl _ _) hW
                simp only [Act.put, List.getElem_toArray, List.getElem_cons_succ, List.getElem_cons_zero, List.setIfInBounds_toArray, List.set_cons_zero, List.set_cons_succ]
              · have e0 : t 102 = .pointer (some ⟨g, 0, none⟩) := hd 15 (by kernel_rfl) 102 (by kernel_rfl)
                go_simp
                refine (l1Below_any 90 (by omega) (by omega) g A n c bs _ hW.2.1.cur).mono ?_
                rintro e' w2 ⟨⟨x, rfl, hx0, hx1⟩, hc, hg⟩
                go_wp2_with fail
                refine hK.out _ _ _ ?_ ⟨x, rfl⟩ hg ⟨Nat.le_trans hW.1 hg.size, hW.2.1.call hc hg, own_call hW.2.2.1 hg (fun z hz => by injection hz with hz; have := hW.2.1.lt; omega), own_call hW.2.2.2 hg (fun z hz => by injection hz with hz; omega)⟩
                simp only [Act.put, List.getElem_toArray, List.getElem_cons_succ, List.getElem_cons_zero, List.setIfInBounds_toArray, List.set_cons_zero, List.set_cons_succ, e0]
              · obtain ⟨x0, e0⟩ : ∃ x : Int, t 103 = .int .i64 x := hd 16 (by kernel_rfl) 103 (by kernel_rfl)
                go_simp
                refine hK.out _ _ _ ?_ ⟨IntKind.i64.wrap (20 + x0), rfl⟩ (grown_refl _ _) hW
                simp only [Act.put, List.getElem_toArray, List.getElem_cons_succ, List.getElem_cons_zero, List.setIfInBounds_toArray, List.set_cons_zero, List.set_cons_succ, e0]
              · go_simp
                refine hK.out _ _ _ ?_ rfl (grown_refl _ _) hW
                simp only [Act.put, List.getElem_toArray, List.getElem_cons_succ, List.getElem_cons_zero, List.setIfInBounds_toArray, List.set_cons_zero, List.set_cons_succ]
              · have e0 : t 105 = .pointer (some ⟨g, 0, none⟩) := hd 18 (by kernel_rfl) 105 (by kernel_rfl)
                go_simp
                refine (l1Below_any 20 (by omega) (by omega) g A n c bs _ hW.2.1.cur).mono ?_
                rintro e' w2 ⟨⟨x, rfl, hx0, hx1⟩, hc, hg⟩
                go_wp2_with fail
                refine hK.out _ _ _ ?_ ⟨x, rfl⟩ hg ⟨Nat.le_trans hW.1 hg.size, hW.2.1.call hc hg, own_call hW.2.2.1 hg (fun z hz => by injection hz with hz; have := hW.2.1.lt; omega), own_call hW.2.2.2 hg (fun z hz => by injection hz with hz; omega)⟩
                simp only [Act.put, List.getElem_toArray, List.getElem_cons_succ, List.getElem_cons_zero, List.setIfInBounds_toArray, List.set_cons_zero, List.set_cons_succ, e0]
              · obtain ⟨x0, e0⟩ : ∃ x : Int, t 106 = .int .i64 x := hd 19 (by kernel_rfl) 106 (by kernel_rfl)
                go_simp
                refine hK.out _ _ _ ?_ ⟨IntKind.i64.wrap (1 + x0), rfl⟩ (grown_refl _ _) hW
                simp only [Act.put, List.getElem_toArray, List.getElem_cons_succ, List.getElem_cons_zero, List.setIfInBounds_toArray, List.set_cons_zero, List.set_cons_succ, e0]
              · obtain ⟨x3, e3⟩ : ∃ x : Int, t 90 = .int .i64 x := hd 3 (by kernel_rfl) 90 (by kernel_rfl)
                obtain ⟨x6, e6⟩ : ∃ x : Int, t 93 = .int .i64 x := hd 6 (by kernel_rfl) 93 (by kernel_rfl)
                obtain ⟨x9, e9⟩ : ∃ x : Int, t 96 = .int .i64 x := hd 9 (by kernel_rfl) 96 (by kernel_rfl)
                obtain ⟨x12, e12⟩ : ∃ x : Int, t 99 = .int .i64 x := hd 12 (by kernel_rfl) 99 (by kernel_rfl)
                obtain ⟨x14, e14⟩ : ∃ x : Int, t 101 = .int .i64 x := hd 14 (by kernel_rfl) 101 (by kernel_rfl)
                obtain ⟨x17, e17⟩ : ∃ x : Int, t 104 = .int .i64 x := hd 17 (by kernel_rfl) 104 (by kernel_rfl)
                obtain ⟨x20, e20⟩ : ∃ x : Int, t 107 = .int .i64 x := hd 20 (by kernel_rfl) 107 (by kernel_rfl)
                go_simp
                refine hK.out _ _ _ ?_ ⟨⟨x3, x6, x9, x12, x14, x17, x20⟩, rfl⟩ (grown_refl _ _) hW
                simp only [Act.put, List.getElem_toArray, List.getElem_cons_succ, List.getElem_cons_zero, List.setIfInBounds_toArray, List.set_cons_zero, List.set_cons_succ, e12, e14, e17, e20, e3, e6, e9]
              · obtain ⟨y, e0⟩ : ∃ y : Ty, t 108 = .agg #[.int .i64 y.id, .int .i64 y.w, .int .i64 y.h, .int .i64 y.d, .int .i64 y.tare, .int .i64 y.gram, .int .i64 y.cost] := hd 21 (by kernel_rfl) 108 (by kernel_rfl)
                go_simp
                refine hK.out _ _ _ ?_ ⟨_, y, rfl, (slk_new encTy_len W [y] 1 _ _ rfl (by simp [maxLen]) rfl).more hW.1 (by simp)⟩ (grown_alloc _ _ _) ⟨by simp; have := hW.1; omega, hW.2.1.alloc _, hW.2.2.1.alloc _, hW.2.2.2.alloc _⟩
                simp only [Act.put, List.getElem_toArray, List.getElem_cons_succ, List.getElem_cons_zero, List.setIfInBounds_toArray, List.set_cons_zero, List.set_cons_succ, e0]
            case hend =>
              intro t W hW hd
              simp only [over_mk, overL_t, overL_f, overL_nil, Nat.reduceAdd]
              have e88 : t 88 = .slice A2 n2 c2 := hd 1 (by decide) 88 rfl
              obtain ⟨a, y, e109, hS⟩ : ∃ (a : Nat) (y : Ty), t 109 = .slice (some ⟨a, 0, none⟩) 1 1 ∧ SlK 7 encTy W s5 W.heap.size (some ⟨a, 0, none⟩) 1 1 [y] := hd 22 (by decide) 109 rfl
              clear hd
              rw [e88, e109]
              obtain ⟨hW1, hM3, hO3, hT3⟩ := hW
              refine wpAnyH_ready (rs := [23]) (by kernel_rfl) (by simp) ?_
              refine AllReadyH.cons rfl (fun K hK => ?_) AllReadyH.nil
              refine step_app rfl (.tmp 88) (.tmp 109) rfl (by simp [Act.eval]) (by simp [Act.eval]) (appTyS hT3 (Nat.le_trans hss5 hW1) (Nat.le_trans hn2b (by omega)) hS (by omega)) ?_
              intro v' w2 ho2 hg2 hat2
              obtain ⟨m5, hm5⟩ : ∃ m5, (ts ++ [y]).length = m5 := ⟨_, rfl⟩
              obtain ⟨A5, c5, rfl, s5'⟩ := Own.slk' encTy_len hm5 ho2
              clear s5'
              have HM5 := hide hm5
              have hm5b : m5 ≤ i + 2 := by have := HL2.out; rw [← hm5]; simp; omega
              have hm5a : 0 < m5 := by rw [← hm5]; simp
              clear hm5
              refine hK.out _ _ trivial (fun _ => ?_)
              clear hK K
              try simp only [Act.put, List.getElem_toArray, List.getElem_cons_succ, List.getElem_cons_zero, List.setIfInBounds_toArray, List.set_cons_zero, List.set_cons_succ]
              have M5 := hide (hM3.app hg2 (fun x hx => by have := (hT3.lt x hx).1; omega))
              have HP5 := hide (own_far hO3 hg2 HD1.out (fun x hx => (hT3.lt x hx).1))
              have HT5 := hide ho2
              have zs5 := hg2.size
              clear hM3 hO3 hT3 hg2 hat2 ho2 hS e88 e109
              have kB := M5.out.box.cell
              have fB := M5.out.box.frozen
              unfold rqCells at kB
              have yB := M5.out.lt
              refine wpAnyH_ready (rs := [24]) (by kernel_rfl) (by simp) ?_
              refine AllReadyH.cons rfl (fun K hK => ?_) AllReadyH.nil
              go_simp
              refine hK.out _ _ trivial (fun _ => ?_)
              clear hK K
              try simp only [Act.put, List.getElem_toArray, List.getElem_cons_succ, List.getElem_cons_zero, List.setIfInBounds_toArray, List.set_cons_zero, List.set_cons_succ]
              refine wpAnyH_ready (rs := [25]) (by kernel_rfl) (by simp) ?_
              refine AllReadyH.cons rfl (fun K hK => ?_) AllReadyH.nil
              go_simp
              refine hK.out _ _ trivial (fun _ => ?_)
              clear hK K
              try simp only [Act.put, List.getElem_toArray, List.getElem_cons_succ, List.getElem_cons_zero, List.setIfInBounds_toArray, List.set_cons_zero, List.set_cons_succ]
              refine wpAnyH_done (by kernel_rfl) ?_ _
              clear kB fB yB
              go_wp2_with fail
              go_roundw
              case rel => exact ⟨i + 1, A5, m5, c5, ts ++ [y], by omega, by go_num, HM5.out, hm5a, by omega, by simp; omega, M5.out.set 7 _, own_set HP5.out (Nat.lt_succ_self _) 7 _, own_set HT5.out hbs 7 _⟩
              case measure => (simp [intOf] <;> omega)
          · have i4 : ¬ (i : Int) < (nt : Int) := by omega
            go_wp2_with fail
            refine (l1Below_any 6 (by omega) (by omega) g A n c bs _ M4.out.cur).mono ?_
            rintro e' w6 ⟨⟨mm, rfl, hm0, hm1⟩, hc6, hg6⟩
            obtain ⟨mt, rfl⟩ := Int.eq_ofNat_of_zero_le hm0
            have hmt : mt ≤ 5 := by omega
            have M6 := hide (M4.out.call hc6 hg6)
            have HP6 := hide (own_call HP4.out hg6 (fun x hx => by injection hx with hx; have := M4.out.lt; omega))
            have HT6 := hide (own_call HT4.out hg6 (fun x hx => by injection hx with hx; omega))
            have zs6 : s ≤ w6.heap.size := Nat.le_trans zs4 hg6.size
            obtain ⟨s6, hs6⟩ : ∃ s6, w6.heap.size = s6 := ⟨_, rfl⟩
            have hbs6 : b < s6 := by rw [← hs6]; exact M6.out.lt.2
            have hss6 : s ≤ s6 := by omega
            have HD2 := hide (fun x (hx : (Value.slice A2 n2 c2).ownBlock = some x) => (show x < s6 from by have := (HT6.out.lt x hx).2; omega))
            have HI6 := hide (Own.nil_ (α := It) (k := 7) (enc := encIt) (w := w6) 86 s6)
            have zs66 : s6 ≤ w6.heap.size := by omega
            have hn2c : n2 ≤ 5 := by omega
            have hi1 : (nt : Int) ≤ (i : Int) := by omega
            clear hm0 hc6 hg6 M4 HP4 HT4 hs6 i4 hlt4
            generalize i = itop at *
            go_wp2_with fail
            go_loopw [9, 10] (fun u q wr3 => ∃ (i : Nat) (uu : Int) (A3 : Option Addr) (n3 c3 : Nat) (its : List It), i ≤ mt ∧ q = .int .i64 i ∧ u = .int .i64 uu ∧ 0 ≤ uu ∧ uu ≤ 12 ∧ its.length = n3 ∧ n3 ≤ i ∧ s6 ≤ wr3.heap.size ∧ Mk 128 41 rqZero w wr3 g A n c bs b (rqCells way pw pd ph pg (1 + (k : Int)) (.slice A1 n1 c1) (.slice A2 n2 c2) 7 (.slice A3 n3 c3)) ∧ Own 2 encPr 82 wr3 (b + 1) (.slice A1 n1 c1) ps ∧ Own 7 encTy 84 wr3 s (.slice A2 n2 c2) ts ∧ Own 7 encIt 86 wr3 s6 (.slice A3 n3 c3) its) (fun _ q _ => mt - (intOf q).toNat)
            case atStart => exact ⟨0, 0, none, 0, 0, [], Nat.zero_le _, rfl, rfl, by omega, by omega, rfl, Nat.le_refl _, zs66, M6.out, HP6.out, HT6.out, HI6.out⟩
            case round =>
              clear M6 HP6 HT6 HI6
              obtain ⟨i, uu, A3, n3, c3, its, hi6, rfl, rfl, hu0, hu1, hl3, hn3, zs7, hM, hP, hT, hI⟩ := hrel
              have M6 := hide hM
              have HP6 := hide hP
              have HT6 := hide hT
              have HI6 := hide hI
              have HL3 := hide hl3
              have hn3b : its.length ≤ 5 := by omega
              clear hM hP hT hI hl3
              by_cases hlt6 : i < mt
              · have i6 : (i : Int) < (mt : Int) := by omega
                go_wp2_with fail
                obtain ⟨s7, hs7⟩ : ∃ s7, wr.heap.size = s7 := ⟨_, rfl⟩
                have hgs7 : g < s7 := by have := M6.out.lt; omega
                have hgb := M6.out.lt
                have hss7 : s6 ≤ s7 := by omega
                have HD3 := hide (fun x (hx : (Value.slice A3 n3 c3).ownBlock = some x) => (show x < s7 from by have := (HI6.out.lt x hx).2; omega))
                refine wp_region_cut 23 [false, false, false, false, false, false, false, false, false, false, false, true, false, false, false, false, false, false, false, false, false, false, false, false, false, false, false, false, false, false, false, false, false, false, false, false, false, false, false, false, false, false, false, false, false, false, false, false, false, false, false, false, false, false, false, false, false, false, false, false, false, false, false, false, false, false, false, false, false, false, false, false, false, false, false, false, false, false, false, false, false, false, false, false, false, false, false, false, false, false, false, false, false, false, false, false, false, false, false, false, false, false, false, false, false, false, false, false, false, false, false, false, false, false, false, false, false, false, false, true, true, true, true, true, true, true, true, true, true, true, true, true, true, true, true, true, true, true, true, true, true] (by kernel_rfl) (fun ix v W => match ix with | 0 => v = .int .i64 (i : Int) | 1 => ∃ x : Int, v = .int .i64 x | 2 => v = .pointer (some ⟨g, 0, none⟩) | 3 => ∃ x : Int, v = .int .i64 x | 4 => ∃ x : Int, v = .int .i64 x | 5 => v = .pointer (some ⟨g, 0, none⟩) | 6 => ∃ x : Int, v = .int .i64 x | 7 => ∃ x : Int, v = .int .i64 x | 8 => v = .pointer (some ⟨g, 0, none⟩) | 9 => ∃ x : Int, v = .int .i64 x | 10 => ∃ x : Int, v = .int .i64 x | 11 => v = .pointer (some ⟨g, 0, none⟩) | 12 => ∃ x : Int, v = .int .i64 x | 13 => ∃ x : Int, v = .int .i64 x | 14 => v = .pointer (some ⟨g, 0, none⟩) | 15 => v = .pointer (some ⟨b, 5, none⟩) | 16 => v = .int .i64 (1 + (k : Int)) | 17 => ∃ x : Int, v = .int .i64 x | 18 => v = .pointer (some ⟨g, 0, none⟩) | 19 => ∃ x : Int, v = .int .i64 x ∧ 0 ≤ x ∧ x ≤ 3 | 20 => ∃ x : Int, v = .int .i64 x ∧ 1 ≤ x ∧ x ≤ 4 | 21 => ∃ y : It, v = .agg #[.int .i64 y.id, .int .i64 y.w, .int .i64 y.h, .int .i64 y.d, .int .i64 y.gram, .int .i64 y.cls, .int .i64 y.cnt] ∧ 1 ≤ y.cnt ∧ y.cnt ≤ 4 | 22 => ∃ a : Nat, v = .pointer (some ⟨a, 0, none⟩) ∧ s7 ≤ a ∧ Blk W a 86 #[.int .i64 0, .int .i64 0, .int .i64 0, .int .i64 0, .int .i64 0, .int .i64 0, .int .i64 0] | _ => True) (fun W => s7 ≤ W.heap.size ∧ Mk 128 41 rqZero w W g A n c bs b (rqCells way pw pd ph pg (1 + (k : Int)) (.slice A1 n1 c1) (.slice A2 n2 c2) 7 (.slice A3 n3 c3)) ∧ Own 2 encPr 82 W (b + 1) (.slice A1 n1 c1) ps ∧ Own 7 encTy 84 W s (.slice A2 n2 c2) ts ∧ Own 7 encIt 86 W s6 (.slice A3 n3 c3) its) (fun W W' => W.grownBy W' (some g)) (by kernel_rfl) (by kernel_rfl) (by decide) (by kernel_rfl) ?hwi ?hst ?hop 1 (by kernel_rfl) ?hend
                case hwi => exact ⟨by rw [← hs7]; exact Nat.le_refl _, M6.out.drew, HP6.out.drew, HT6.out.drew, HI6.out.drew⟩
                case hst =>
                  intro i v W W' h hS
                  match i, h with
                  | 0, h => exact h
                  | 1, h => exact h
                  | 2, h => exact h
                  | 3, h => exact h
                  | 4, h => exact h
                  | 5, h => exact h
                  | 6, h => exact h
                  | 7, h => exact h
                  | 8, h => exact h
                  | 9, h => exact h
                  | 10, h => exact h
                  | 11, h => exact h
                  | 12, h => exact h
                  | 13, h => exact h
                  | 14, h => exact h
                  | 15, h => exact h
                  | 16, h => exact h
                  | 17, h => exact h
                  | 18, h => exact h
                  | 19, h => exact h
                  | 20, h => exact h
                  | 21, h => exact h
                  | 22, ⟨a, h1, h2, h3⟩ => exact ⟨a, h1, h2, h3.grown hS (fun e => by injection e with e; have := hgs7; omega)⟩
                  | _ + 23, h => trivial
                case hop =>
                  simp only [over_mk, overL_t, overL_f, overL_nil, Nat.reduceAdd]
                  refine ⟨fun t W hW hd K' hK => ?_, fun t W hW hd K' hK => ?_, fun t W hW hd K' hK => ?_, fun t W hW hd K' hK => ?_, fun t W hW hd K' hK => ?_, fun t W hW hd K' hK => ?_, fun t W hW hd K' hK => ?_, fun t W hW hd K' hK => ?_, fun t W hW hd K' hK => ?_, fun t W hW hd K' hK => ?_, fun t W hW hd K' hK => ?_, fun t W hW hd K' hK => ?_, fun t W hW hd K' hK => ?_, fun t W hW hd K' hK => ?_, fun t W hW hd K' hK => ?_, fun t W hW hd K' hK => ?_, fun t W hW hd K' hK => ?_, fun t W hW hd K' hK => ?_, fun t W hW hd K' hK => ?_, fun t W hW hd K' hK => ?_, fun t W hW hd K' hK => ?_, fun t W hW hd K' hK => ?_, fun t W hW hd K' hK => ?_, trivial⟩
                  · go_simp
                    refine hK.out _ _ _ ?_ rfl (grown_refl _ _) hW
                    simp only [Act.put, List.getElem_toArray, List.getElem_cons_succ, List.getElem_cons_zero, List.setIfInBounds_toArray, List.set_cons_zero, List.set_cons_succ]
                  · have e0 : t 119 = .int .i64 (i : Int) := hd 0 (by kernel_rfl) 119 (by kernel_rfl)
                    go_simp
                    refine hK.out _ _ _ ?_ ⟨IntKind.i64.wrap (3 * (i : Int)), rfl⟩ (grown_refl _ _) hW
                    simp only [Act.put, List.getElem_toArray, List.getElem_cons_succ, List.getElem_cons_zero, List.setIfInBounds_toArray, List.set_cons_zero, List.set_cons_succ, e0]
                  · go_simp
                    refine hK.out _ _ _ ?_ rfl (grown_refl _ _) hW
                    simp only [Act.put, List.getElem_toArray, List.getElem_cons_succ, List.getElem_cons_zero, List.setIfInBounds_toArray, List.set_cons_zero, List.set_cons_succ]
                  · have e0 : t 121 = .pointer (some ⟨g, 0, none⟩) := hd 2 (by kernel_rfl) 121 (by kernel_rfl)
                    go_simp
                    refine (l1Below_any 10 (by omega) (by omega) g A n c bs _ hW.2.1.cur).mono ?_
                    rintro e' w2 ⟨⟨x, rfl, hx0, hx1⟩, hc, hg⟩
                    go_wp2_with fail
                    refine hK.out _ _ _ ?_ ⟨x, rfl⟩ hg ⟨Nat.le_trans hW.1 hg.size, hW.2.1.call hc hg, own_call hW.2.2.1 hg (fun z hz => by injection hz with hz; have := hW.2.1.lt; omega), own_call hW.2.2.2.1 hg (fun z hz => by injection hz with hz; omega), own_call hW.2.2.2.2 hg (fun z hz => by injection hz with hz; omega)⟩
                    simp only [Act.put, List.getElem_toArray, List.getElem_cons_succ, List.getElem_cons_zero, List.setIfInBounds_toArray, List.set_cons_zero, List.set_cons_succ, e0]
                  · obtain ⟨x0, e0⟩ : ∃ x : Int, t 122 = .int .i64 x := hd 3 (by kernel_rfl) 122 (by kernel_rfl)
                    go_simp
                    refine hK.out _ _ _ ?_ ⟨IntKind.i64.wrap (1 + x0), rfl⟩ (grown_refl _ _) hW
                    simp only [Act.put, List.getElem_toArray, List.getElem_cons_succ, List.getElem_cons_zero, List.setIfInBounds_toArray, List.set_cons_zero, List.set_cons_succ, e0]
                  · go_simp
                    refine hK.out _ _ _ ?_ rfl (grown_refl _ _) hW
                    simp only [Act.put, List.getElem_toArray, List.getElem_cons_succ, List.getElem_cons_zero, List.setIfInBounds_toArray, List.set_cons_zero, List.set_cons_succ]
                  · have e0 : t 124 = .pointer (some ⟨g, 0, none⟩) := hd 5 (by kernel_rfl) 124 (by kernel_rfl)
                    go_simp
                    refine (l1Below_any 10 (by omega) (by omega) g A n c bs _ hW.2.1.cur).mono ?_
                    rintro e' w2 ⟨⟨x, rfl, hx0, hx1⟩, hc, hg⟩
                    go_wp2_with fail
                    refine hK.out _ _ _ ?_ ⟨x, rfl⟩ hg ⟨Nat.le_trans hW.1 hg.size, hW.2.1.call hc hg, own_call hW.2.2.1 hg (fun z hz => by injection hz with hz; have := hW.2.1.lt; omega), own_call hW.2.2.2.1 hg (fun z hz => by injection hz with hz; omega), own_call hW.2.2.2.2 hg (fun z hz => by injection hz with hz; omega)⟩
                    simp only [Act.put, List.getElem_toArray, List.getElem_cons_succ, List.getElem_cons_zero, List.setIfInBounds_toArray, List.set_cons_zero, List.set_cons_succ, e0]
                  · obtain ⟨x0, e0⟩ : ∃ x : Int, t 125 = .int .i64 x := hd 6 (by kernel_rfl) 125 (by kernel_rfl)
                    go_simp
                    refine hK.out _ _ _ ?_ ⟨IntKind.i64.wrap (1 + x0), rfl⟩ (grown_refl _ _) hW
                    simp only [Act.put, List.getElem_toArray, List.getElem_cons_succ, List.getElem_cons_zero, List.setIfInBounds_toArray, List.set_cons_zero, List.set_cons_succ, e0]
                  · go_simp
                    refine hK.out _ _ _ ?_ rfl (grown_refl _ _) hW
                    simp only [Act.put, List.getElem_toArray, List.getElem_cons_succ, List.getElem_cons_zero, List.setIfInBounds_toArray, List.set_cons_zero, List.set_cons_succ]
                  · have e0 : t 127 = .pointer (some ⟨g, 0, none⟩) := hd 8 (by kernel_rfl) 127 (by kernel_rfl)
                    go_simp
                    refine (l1Below_any 10 (by omega) (by omega) g A n c bs _ hW.2.1.cur).mono ?_
                    rintro e' w2 ⟨⟨x, rfl, hx0, hx1⟩, hc, hg⟩
                    go_wp2_with fail
                    refine hK.out _ _ _ ?_ ⟨x, rfl⟩ hg ⟨Nat.le_trans hW.1 hg.size, hW.2.1.call hc hg, own_call hW.2.2.1 hg (fun z hz => by injection hz with hz; have := hW.2.1.lt; omega), own_call hW.2.2.2.1 hg (fun z hz => by injection hz with hz; omega), own_call hW.2.2.2.2 hg (fun z hz => by injection hz with hz; omega)⟩
                    simp only [Act.put, List.getElem_toArray, List.getElem_cons_succ, List.getElem_cons_zero, List.setIfInBounds_toArray, List.set_cons_zero, List.set_cons_succ, e0]
                  · obtain ⟨x0, e0⟩ : ∃ x : Int, t 128 = .int .i64 x := hd 9 (by kernel_rfl) 128 (by kernel_rfl)
                    go_simp
                    refine hK.out _ _ _ ?_ ⟨IntKind.i64.wrap (1 + x0), rfl⟩ (grown_refl _ _) hW
                    simp only [Act.put, List.getElem_toArray, List.getElem_cons_succ, List.getElem_cons_zero, List.setIfInBounds_toArray, List.set_cons_zero, List.set_cons_succ, e0]
                  · go_simp
                    refine hK.out _ _ _ ?_ rfl (grown_refl _ _) hW
                    simp only [Act.put, List.getElem_toArray, List.getElem_cons_succ, List.getElem_cons_zero, List.setIfInBounds_toArray, List.set_cons_zero, List.set_cons_succ]
                  · have e0 : t 130 = .pointer (some ⟨g, 0, none⟩) := hd 11 (by kernel_rfl) 130 (by kernel_rfl)
                    go_simp
                    refine (l1Below_any 60 (by omega) (by omega) g A n c bs _ hW.2.1.cur).mono ?_
                    rintro e' w2 ⟨⟨x, rfl, hx0, hx1⟩, hc, hg⟩
                    go_wp2_with fail
                    refine hK.out _ _ _ ?_ ⟨x, rfl⟩ hg ⟨Nat.le_trans hW.1 hg.size, hW.2.1.call hc hg, own_call hW.2.2.1 hg (fun z hz => by injection hz with hz; have := hW.2.1.lt; omega), own_call hW.2.2.2.1 hg (fun z hz => by injection hz with hz; omega), own_call hW.2.2.2.2 hg (fun z hz => by injection hz with hz; omega)⟩
                    simp only [Act.put, List.getElem_toArray, List.getElem_cons_succ, List.getElem_cons_zero, List.setIfInBounds_toArray, List.set_cons_zero, List.set_cons_succ, e0]
                  · obtain ⟨x0, e0⟩ : ∃ x : Int, t 131 = .int .i64 x := hd 12 (by kernel_rfl) 131 (by kernel_rfl)
                    go_simp
                    refine hK.out _ _ _ ?_ ⟨IntKind.i64.wrap (1 + x0), rfl⟩ (grown_refl _ _) hW
                    simp only [Act.put, List.getElem_toArray, List.getElem_cons_succ, List.getElem_cons_zero, List.setIfInBounds_toArray, List.set_cons_zero, List.set_cons_succ, e0]
                  · go_simp
                    refine hK.out _ _ _ ?_ rfl (grown_refl _ _) hW
                    simp only [Act.put, List.getElem_toArray, List.getElem_cons_succ, List.getElem_cons_zero, List.setIfInBounds_toArray, List.set_cons_zero, List.set_cons_succ]
                  · go_simp
                    refine hK.out _ _ _ ?_ rfl (grown_refl _ _) hW
                    simp only [Act.put, List.getElem_toArray, List.getElem_cons_succ, List.getElem_cons_zero, List.setIfInBounds_toArray, List.set_cons_zero, List.set_cons_succ]
                  · have kB := hW.2.1.box.cell
                    have fB := hW.2.1.box.frozen
                    unfold rqCells at kB
                    have yB := hW.2.1.lt
                    have e0 : t 134 = .pointer (some ⟨b, 5, none⟩) := hd 15 (by kernel_rfl) 134 (by kernel_rfl)
                    go_simp
                    refine hK.out _ _ _ ?_ rfl (grown_refl _ _) hW
                    simp only [Act.put, List.getElem_toArray, List.getElem_cons_succ, List.getElem_cons_zero, List.setIfInBounds_toArray, List.set_cons_zero, List.set_cons_succ, e0]
                  · have kB := hW.2.1.box.cell
                    have fB := hW.2.1.box.frozen
                    unfold rqCells at kB
                    have yB := hW.2.1.lt
                    have e0 : t 133 = .pointer (some ⟨g, 0, none⟩) := hd 14 (by kernel_rfl) 133 (by kernel_rfl)
                    have e1 : t 135 = .int .i64 (1 + (k : Int)) := hd 16 (by kernel_rfl) 135 (by kernel_rfl)
                    go_simp
                    refine (l1Below_any (1 + (k : Int)) (by omega) (by omega) g A n c bs _ hW.2.1.cur).mono ?_
                    rintro e' w2 ⟨⟨x, rfl, hx0, hx1⟩, hc, hg⟩
                    go_wp2_with fail
                    refine hK.out _ _ _ ?_ ⟨x, rfl⟩ hg ⟨Nat.le_trans hW.1 hg.size, hW.2.1.call hc hg, own_call hW.2.2.1 hg (fun z hz => by injection hz with hz; have := hW.2.1.lt; omega), own_call hW.2.2.2.1 hg (fun z hz => by injection hz with hz; omega), own_call hW.2.2.2.2 hg (fun z hz => by injection hz with hz; omega)⟩
                    simp only [Act.put, List.getElem_toArray, List.getElem_cons_succ, List.getElem_cons_zero, List.setIfInBounds_toArray, List.set_cons_zero, List.set_cons_succ, e0, e1]
                  · go_simp
                    refine hK.out _ _ _ ?_ rfl (grown_refl _ _) hW
                    simp only [Act.put, List.getElem_toArray, List.getElem_cons_succ, List.getElem_cons_zero, List.setIfInBounds_toArray, List.set_cons_zero, List.set_cons_succ]
                  · have e0 : t 137 = .pointer (some ⟨g, 0, none⟩) := hd 18 (by kernel_rfl) 137 (by kernel_rfl)
                    go_simp
                    refine (l1Below_any 4 (by omega) (by omega) g A n c bs _ hW.2.1.cur).mono ?_
                    rintro e' w2 ⟨⟨x, rfl, hx0, hx1⟩, hc, hg⟩
                    go_wp2_with fail
                    refine hK.out _ _ _ ?_ ⟨x, rfl, by omega, by omega⟩ hg ⟨Nat.le_trans hW.1 hg.size, hW.2.1.call hc hg, own_call hW.2.2.1 hg (fun z hz => by injection hz with hz; have := hW.2.1.lt; omega), own_call hW.2.2.2.1 hg (fun z hz => by injection hz with hz; omega), own_call hW.2.2.2.2 hg (fun z hz => by injection hz with hz; omega)⟩
                    simp only [Act.put, List.getElem_toArray, List.getElem_cons_succ, List.getElem_cons_zero, List.setIfInBounds_toArray, List.set_cons_zero, List.set_cons_succ, e0]
                  · obtain ⟨x0, e0, hx0, hx1⟩ : ∃ x : Int, t 138 = .int .i64 x ∧ 0 ≤ x ∧ x ≤ 3 := hd 19 (by kernel_rfl) 138 (by kernel_rfl)
                    go_simp
                    refine hK.out _ _ _ ?_ ⟨IntKind.i64.wrap (1 + x0), rfl, (by rw [IntKind.wrap_i64]; omega), (by rw [IntKind.wrap_i64]; omega)⟩ (grown_refl _ _) hW
                    simp only [Act.put, List.getElem_toArray, List.getElem_cons_succ, List.getElem_cons_zero, List.setIfInBounds_toArray, List.set_cons_zero, List.set_cons_succ, e0]
                  · obtain ⟨x1, e1⟩ : ∃ x : Int, t 120 = .int .i64 x := hd 1 (by kernel_rfl) 120 (by kernel_rfl)
                    obtain ⟨x4, e4⟩ : ∃ x : Int, t 123 = .int .i64 x := hd 4 (by kernel_rfl) 123 (by kernel_rfl)
                    obtain ⟨x7, e7⟩ : ∃ x : Int, t 126 = .int .i64 x := hd 7 (by kernel_rfl) 126 (by kernel_rfl)
                    obtain ⟨x10, e10⟩ : ∃ x : Int, t 129 = .int .i64 x := hd 10 (by kernel_rfl) 129 (by kernel_rfl)
                    obtain ⟨x13, e13⟩ : ∃ x : Int, t 132 = .int .i64 x := hd 13 (by kernel_rfl) 132 (by kernel_rfl)
                    obtain ⟨x17, e17⟩ : ∃ x : Int, t 136 = .int .i64 x := hd 17 (by kernel_rfl) 136 (by kernel_rfl)
                    obtain ⟨x20, e20, hx0, hx1⟩ : ∃ x : Int, t 139 = .int .i64 x ∧ 1 ≤ x ∧ x ≤ 4 := hd 20 (by kernel_rfl) 139 (by kernel_rfl)
                    go_simp
                    refine hK.out _ _ _ ?_ ⟨⟨x1, x4, x7, x10, x13, x17, x20⟩, rfl, by assumption, by assumption⟩ (grown_refl _ _) hW
                    simp only [Act.put, List.getElem_toArray, List.getElem_cons_succ, List.getElem_cons_zero, List.setIfInBounds_toArray, List.set_cons_zero, List.set_cons_succ, e1, e10, e13, e17, e20, e4, e7]
                  · go_simp
                    refine hK.out _ _ _ ?_ ⟨_, rfl, hW.1, Blk.new _ _ _ rfl⟩ (grown_alloc _ _ _) ⟨by simp; have := hW.1; omega, hW.2.1.alloc _, hW.2.2.1.alloc _, hW.2.2.2.1.alloc _, hW.2.2.2.2.alloc _⟩
                    simp only [Act.put, List.getElem_toArray, List.getElem_cons_succ, List.getElem_cons_zero, List.setIfInBounds_toArray, List.set_cons_zero, List.set_cons_succ]
                case hend =>
                  intro t W hW hd
                  simp only [over_mk, overL_t, overL_f, overL_nil, Nat.reduceAdd]
                  obtain ⟨a, e11, ha7, hBA⟩ : ∃ a : Nat, t 11 = .pointer (some ⟨a, 0, none⟩) ∧ s7 ≤ a ∧ Blk W a 86 #[.int .i64 0, .int .i64 0, .int .i64 0, .int .i64 0, .int .i64 0, .int .i64 0, .int .i64 0] := hd 22 (by decide) 11 rfl
                  obtain ⟨y, e140, hy1, hy4⟩ : ∃ y : It, t 140 = .agg #[.int .i64 y.id, .int .i64 y.w, .int .i64 y.h, .int .i64 y.d, .int .i64 y.gram, .int .i64 y.cls, .int .i64 y.cnt] ∧ 1 ≤ y.cnt ∧ y.cnt ≤ 4 := hd 21 (by decide) 140 rfl
                  clear hd
                  rw [e11, e140]
                  obtain ⟨hW1, hM3, hO3, hT3, hI3⟩ := hW
                  have kA := hBA.cell
                  have fA := hBA.frozen
                  have yA := hBA.lt
                  obtain ⟨hB7, hg7⟩ := st7 hBA (.int .i64 y.id) (.int .i64 y.w) (.int .i64 y.h) (.int .i64 y.d) (.int .i64 y.gram) (.int .i64 y.cls) (.int .i64 y.cnt)
                  have hab : b < a := by omega
                  have M7 := hide (hM3.app hg7 (fun x hx => by injection hx with hx; omega))
                  have HP7 := hide (own_far hO3 hg7 HD1.out (fun x hx => by injection hx with hx; omega))
                  have HT7 := hide (own_far hT3 hg7 HD2.out (fun x hx => by injection hx with hx; omega))
                  have HI7 := hide (own_far hI3 hg7 HD3.out (fun x hx => by injection hx with hx; omega))
                  have BA7 := hide hB7
                  have zs7 : s7 ≤ ((((((((W.setCell ⟨a, 0, none⟩ (.int .i64 y.id)).setCell ⟨a, 1, none⟩ (.int .i64 y.w)).setCell ⟨a, 2, none⟩ (.int .i64 y.h)).setCell ⟨a, 3, none⟩ (.int .i64 y.d)).setCell ⟨a, 4, none⟩ (.int .i64 y.gram)).setCell ⟨a, 5, none⟩ (.int .i64 y.cls)).setCell ⟨a, 6, none⟩ (.int .i64 y.cnt))).heap.size := Nat.le_trans hW1 hg7.size
                  refine wpAnyH_ready (rs := [23]) (by kernel_rfl) (by simp) ?_
                  refine AllReadyH.cons rfl (fun K hK => ?_) AllReadyH.nil
                  go_simp
                  refine hK.out _ _ trivial (fun _ => ?_)
                  clear hK K
                  try simp only [Act.put, List.getElem_toArray, List.getElem_cons_succ, List.getElem_cons_zero, List.setIfInBounds_toArray, List.set_cons_zero, List.set_cons_succ]
                  refine wpAnyH_done (by kernel_rfl) ?_ _
                  clear kA fA yA hB7 hg7 hM3 hO3 hT3 hI3 hBA e11 e140
                  generalize hW8 : (((((((W.setCell ⟨a, 0, none⟩ (.int .i64 y.id)).setCell ⟨a, 1, none⟩ (.int .i64 y.w)).setCell ⟨a, 2, none⟩ (.int .i64 y.h)).setCell ⟨a, 3, none⟩ (.int .i64 y.d)).setCell ⟨a, 4, none⟩ (.int .i64 y.gram)).setCell ⟨a, 5, none⟩ (.int .i64 y.cls)).setCell ⟨a, 6, none⟩ (.int .i64 y.cnt)) = W8 at *
                  clear hW8
                  go_wp2_with fail
                  refine (l1Once_any 3 (by omega) (by omega) g A n c bs _ M7.out.cur).mono ?_
                  rintro e' w9 ⟨⟨tb, rfl⟩, hc9, hg9⟩
                  have hgb := M7.out.lt
                  have MX := hide (M7.out.call hc9 hg9)
                  have HP := hide (own_call HP7.out hg9 (fun x hx => by injection hx with hx; omega))
                  have HT := hide (own_call HT7.out hg9 (fun x hx => by injection hx with hx; omega))
                  have HI := hide (own_call HI7.out hg9 (fun x hx => by injection hx with hx; omega))
                  have BA := hide (BA7.out.grown hg9 (fun e => by injection e with e; omega))
                  have zs9 : s7 ≤ w9.heap.size := Nat.le_trans zs7 hg9.size
                  clear M7 HP7 HT7 HI7 BA7 hc9 hg9
                  have kB := MX.out.box.cell
                  have fB := MX.out.box.frozen
                  unfold rqCells at kB
                  have yB := MX.out.lt
                  have kA := BA.out.cell
                  have fA := BA.out.frozen
                  have yA := BA.out.lt
                  cases tb
                  · skip
                    by_cases hle : uu + y.cnt ≤ 12
                    · go_wp2_with (at_builtin; refine wpList_app rfl _ _ rfl rfl rfl (appItS (HI.out.alloc _) (by simp; omega) (Nat.le_trans hn3b (by omega)) (slk_newg encIt_len _ [(⟨y.id, y.w, y.h, y.d, y.gram, y.cls, y.cnt⟩ : It)] 1 _ _ (by simp) rfl (by simp [maxLen]) rfl) (by omega)) ?_; intro v' wa hoa hga hata; obtain ⟨m8, hm8⟩ : ∃ m8, (its ++ [(⟨y.id, y.w, y.h, y.d, y.gram, y.cls, y.cnt⟩ : It)]).length = m8 := ⟨_, rfl⟩; obtain ⟨A8, c8, rfl, s8'⟩ := Own.slk' encIt_len hm8 hoa; clear s8'; have hm8b : m8 ≤ i + 1 := (by have := HL3.out; rw [← hm8]; simp; omega); have HM8 := hide hm8; clear hm8; have MA := hide ((MX.out.alloc _).app hga (fun x hx => by have := (HI.out.lt x hx).1; omega)); have HPA := hide (own_far (HP.out.alloc _) hga HD1.out (fun x hx => by have := (HI.out.lt x hx).1; omega)); have HTA := hide (own_far (HT.out.alloc _) hga HD2.out (fun x hx => (HI.out.lt x hx).1)); have HIA := hide hoa; have zsa := hga.size; simp only [World.size_alloc] at zsa; have BB := hide ((BA.out.alloc _).grown hga (fun e => by have := HD3.out a e.symm; omega)); clear hoa hga hata kB fB yB kA fA yA; have kB := MA.out.box.cell; have fB := MA.out.box.frozen; unfold rqCells at kB; have yB := MA.out.lt; have kA := BB.out.cell; have yA := BB.out.lt)
                      go_roundw
                      case rel => exact ⟨i + 1, uu + y.cnt, A8, m8, c8, its ++ [⟨y.id, y.w, y.h, y.d, y.gram, y.cls, y.cnt⟩], by omega, by go_num, rfl, by omega, hle, HM8.out, hm8b, by simp; omega, MA.out.set 9 _, own_set HPA.out (Nat.lt_succ_self _) 9 _, own_set HTA.out hbs 9 _, own_set HIA.out hbs6 9 _⟩
                      case measure => (simp [intOf] <;> omega)
                    · go_wp2_with fail
                      go_roundw
                      case rel => exact ⟨i + 1, uu, A3, n3, c3, its, by omega, by go_num, rfl, hu0, hu1, HL3.out, by omega, by omega, MX.out, HP.out, HT.out, HI.out⟩
                      case measure => (simp [intOf] <;> omega)
                  · go_wp2_with fail
                    have M1 := hide ((MX.out.far (p := ⟨a, 1, none⟩) hab (.int .i64 5)).far (p := ⟨a, 2, none⟩) hab (.int .i64 5))
                    have hgs2 := grown_trans (grown_set w9 a 1 (.int .i64 5)) (grown_set _ a 2 (.int .i64 5))
                    have HP1 := hide (own_far HP.out hgs2 HD1.out (fun x hx => by injection hx with hx; omega))
                    have HT1 := hide (own_far HT.out hgs2 HD2.out (fun x hx => by injection hx with hx; omega))
                    have HI1 := hide (own_far HI.out hgs2 HD3.out (fun x hx => by injection hx with hx; omega))
                    have BA1 := hide ((BA.out.set_ 1 (.int .i64 5)).set_ 2 (.int .i64 5))
                    have zs1 : s7 ≤ ((w9.setCell ⟨a, 1, none⟩ (.int .i64 5)).setCell ⟨a, 2, none⟩ (.int .i64 5)).heap.size := Nat.le_trans zs9 hgs2.size
                    clear hgs2 MX HP HT HI BA kB fB yB kA fA yA
                    generalize hWa : (w9.setCell ⟨a, 1, none⟩ (.int .i64 5)).setCell ⟨a, 2, none⟩ (.int .i64 5) = wa at *
                    clear hWa
                    refine (l1Below_any 8 (by omega) (by omega) g A n c bs _ M1.out.cur).mono ?_
                    rintro e' wb ⟨⟨xd, rfl, hxd0, hxd1⟩, hc9, hg9⟩
                    have M2 := hide (M1.out.call hc9 hg9)
                    have HP2 := hide (own_call HP1.out hg9 (fun x hx => by injection hx with hx; omega))
                    have HT2 := hide (own_call HT1.out hg9 (fun x hx => by injection hx with hx; omega))
                    have HI2 := hide (own_call HI1.out hg9 (fun x hx => by injection hx with hx; omega))
                    have BA2 := hide (BA1.out.grown hg9 (fun e => by injection e with e; omega))
                    have zs9 : s7 ≤ wb.heap.size := Nat.le_trans zs1 hg9.size
                    clear M1 HP1 HT1 HI1 BA1 hc9 hg9
                    have kA := BA2.out.cell
                    have fA := BA2.out.frozen
                    have yA := BA2.out.lt
                    simp only [List.setIfInBounds_toArray, List.set_cons_zero, List.set_cons_succ] at kA
                    skip
                    have MX := hide (M2.out.far (p := ⟨a, 3, none⟩) hab (.int .i64 (4 + xd)))
                    have hgs2 := grown_set wb a 3 (.int .i64 (4 + xd))
                    have HP := hide (own_far HP2.out hgs2 HD1.out (fun x hx => by injection hx with hx; omega))
                    have HT := hide (own_far HT2.out hgs2 HD2.out (fun x hx => by injection hx with hx; omega))
                    have HI := hide (own_far HI2.out hgs2 HD3.out (fun x hx => by injection hx with hx; omega))
                    have BA := hide (show Blk _ a 86 #[.int .i64 y.id, .int .i64 5, .int .i64 5, .int .i64 (4 + xd), .int .i64 y.gram, .int .i64 y.cls, .int .i64 y.cnt] from BA2.out.set_ 3 (.int .i64 (4 + xd)))
                    have zs9b : s7 ≤ (wb.setCell ⟨a, 3, none⟩ (.int .i64 (4 + xd))).heap.size := Nat.le_trans zs9 hgs2.size
                    have kB := M2.out.box.cell
                    unfold rqCells at kB
                    have fB := M2.out.box.frozen
                    have yB := M2.out.lt
                    by_cases hle : uu + y.cnt ≤ 12
                    · go_wp2_with (at_builtin; refine wpList_app rfl _ _ rfl rfl rfl (appItS (HI.out.alloc _) (by simp; omega) (Nat.le_trans hn3b (by omega)) (slk_newg encIt_len _ [(⟨y.id, 5, 5, 4 + xd, y.gram, y.cls, y.cnt⟩ : It)] 1 _ _ (by simp) rfl (by simp [maxLen]) rfl) (by omega)) ?_; intro v' wa hoa hga hata; obtain ⟨m8, hm8⟩ : ∃ m8, (its ++ [(⟨y.id, 5, 5, 4 + xd, y.gram, y.cls, y.cnt⟩ : It)]).length = m8 := ⟨_, rfl⟩; obtain ⟨A8, c8, rfl, s8'⟩ := Own.slk' encIt_len hm8 hoa; clear s8'; have hm8b : m8 ≤ i + 1 := (by have := HL3.out; rw [← hm8]; simp; omega); have HM8 := hide hm8; clear hm8; have MA := hide ((MX.out.alloc _).app hga (fun x hx => by have := (HI.out.lt x hx).1; omega)); have HPA := hide (own_far (HP.out.alloc _) hga HD1.out (fun x hx => by have := (HI.out.lt x hx).1; omega)); have HTA := hide (own_far (HT.out.alloc _) hga HD2.out (fun x hx => (HI.out.lt x hx).1)); have HIA := hide hoa; have zsa := hga.size; simp only [World.size_alloc] at zsa; have BB := hide ((BA.out.alloc _).grown hga (fun e => by have := HD3.out a e.symm; omega)); clear hoa hga hata kB fB yB kA fA yA; have kB := MA.out.box.cell; have fB := MA.out.box.frozen; unfold rqCells at kB; have yB := MA.out.lt; have kA := BB.out.cell; have yA := BB.out.lt)
                      go_roundw
                      case rel => exact ⟨i + 1, uu + y.cnt, A8, m8, c8, its ++ [⟨y.id, 5, 5, 4 + xd, y.gram, y.cls, y.cnt⟩], by omega, by go_num, rfl, by omega, hle, HM8.out, hm8b, by simp; omega, MA.out.set 9 _, own_set HPA.out (Nat.lt_succ_self _) 9 _, own_set HTA.out hbs 9 _, own_set HIA.out hbs6 9 _⟩
                      case measure => (simp [intOf] <;> omega)
                    · go_wp2_with fail
                      go_roundw
                      case rel => exact ⟨i + 1, uu, A3, n3, c3, its, by omega, by go_num, rfl, hu0, hu1, HL3.out, by omega, by omega, MX.out, HP.out, HT.out, HI.out⟩
                      case measure => (simp [intOf] <;> omega)
              · have i6 : ¬ (i : Int) < (mt : Int) := by omega
                have kB := M6.out.box.cell
                have fB := M6.out.box.frozen
                unfold rqCells at kB
                have yB := M6.out.lt
                have kZ := M6.out.res.cell
                have fZ := M6.out.res.frozen
                unfold rqZero at kZ
                have yZ := M6.out.res.lt
                go_wp2_with fail
                have hz10 := M6.out.res
                unfold rqZero at hz10
                obtain ⟨hB10, hg10⟩ := st10 hz10 (.int .i64 way) (.int .i64 pw) (.int .i64 pd) (.int .i64 ph) (.int .i64 pg) (.int .i64 (1 + (k : Int))) (.slice A1 n1 c1) (.slice A2 n2 c2) (.int .i64 7) (.slice A3 n3 c3)
                have hlo := M6.out.lo
                have hhi := M6.out.hi
                clear kB fB yB kZ fZ yZ hz10
                refine ret_cell Tryd.results89 rfl hB10 Tryd.underlying41 rfl (by kernel_rfl) rfl ?_
                have P1 := (own_call HP6.out hg10 (fun x hx => by injection hx with hx; omega)).base_le (base' := w.heap.size) (by omega)
                have P2 := (own_call HT6.out hg10 (fun x hx => by injection hx with hx; omega)).base_le (base' := w.heap.size) (by omega)
                have P3 := (own_call HI6.out hg10 (fun x hx => by injection hx with hx; omega)).base_le (base' := w.heap.size) (by omega)
                refine ⟨⟨⟨way, ⟨pw, pd, ph, pg⟩, 1 + (k : Int), ps, ts, 7, its⟩, A1, n1, c1, A2, n2, c2, A3, n3, c3, rfl, ⟨P1, P2, P3, HN1.out, HL2.out, HL3.out, fun x hx e => ?_, fun x hx e => ?_, fun x hx e => ?_⟩, hn1b, hn2, hn2c, by omega⟩, M6.out.cur.grown hg10 (fun x hx => by injection hx with hx; omega), grown_far M6.out.gr hg10 (fun x hx => by injection hx with hx; omega)⟩
                · have h1 := HD1.out x hx
                  have h2 := (HT6.out.lt x e).1
                  omega
                · have h1 := HD1.out x hx
                  have h2 := (HI6.out.lt x e).1
                  omega
                · have h1 := HD2.out x hx
                  have h2 := (HI6.out.lt x e).1
                  omega
end Go.Proofs.YtcjcmdikopipjaaDoor
