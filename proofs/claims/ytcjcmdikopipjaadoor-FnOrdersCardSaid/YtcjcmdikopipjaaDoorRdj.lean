/- A line put into an order. -/
import Derived.Test.YtcjcmdikopipjaaDoorRdi
import Derived.Test.YtcjcmdikopipjaaDoorMko
namespace Go.Proofs.YtcjcmdikopipjaaDoor
open Go.ChangeShapes Go.WideShapes Go.ChangeAt Go.RowKit Go.Deep Go.Joins
set_option linter.unusedVariables false
set_option linter.unusedSimpArgs false

theorem app1K {α : Type} {k bytes : Nat} {enc : α → List Value} {T TS : TypeId} {z : Value} (hk : ∀ x, (enc x).length = k) (h1 : ∀ x, ∀ u ∈ enc x, u.oneCell' = true) (ht : Tryd.prog.underlying TS = some (.slice T))
    (hinfo : (Tryd.prog.info? T).map (fun i => (i.zero, i.size, i.bytes)) = some (some z, k, bytes)) (hz : z.cells.size = k) (hby : bytes ≤ 64) (hpos : 0 < k)
    {w : World} {base : Nat} {v : Value} {xs : List α} (ho : Own k enc T w base v xs) (hb : base ≤ w.heap.size) (hn : xs.length ≤ 1000) (x : α) (g : Nat) (hg : g = w.heap.size) (cs : Array Value) (hcs : cs = (enc x).toArray) :
    AppOk Tryd.prog k enc (w.alloc (.cells cs T)) base TS T v xs (some ⟨g, 0, none⟩) 1 1 [x] := by
  subst hg hcs
  have hm : (xs.length + 1) * bytes ≤ 1001 * 64 := Nat.mul_le_mul (by omega) hby
  exact { hk := hk
          h1 := h1
          ht := ht
          info := ⟨z, bytes, hinfo, hz, by omega⟩
          pos := hpos
          own := ho.alloc _
          src := ⟨_, _, slk_new hk w [x] 1 _ _ rfl (by simp [maxLen]) (by simp)⟩
          h63 := by unfold maxLen; omega
          hb := by simp; omega }
theorem prInfo : (Tryd.prog.info? 82).map (fun i => (i.zero, i.size, i.bytes)) = some (some zPr, 2, 16) := by kernel_rfl
theorem tyInfo : (Tryd.prog.info? 84).map (fun i => (i.zero, i.size, i.bytes)) = some (some z7, 7, 56) := by kernel_rfl
theorem itInfo : (Tryd.prog.info? 86).map (fun i => (i.zero, i.size, i.bytes)) = some (some z7, 7, 56) := by kernel_rfl
theorem encPr_one (x : Pr) : ∀ u ∈ encPr x, u.oneCell' = true := ints_oneCell .i64 [x.a, x.b]
theorem encTy_one (x : Ty) : ∀ u ∈ encTy x, u.oneCell' = true := ints_oneCell .i64 [x.id, x.w, x.h, x.d, x.tare, x.gram, x.cost]
theorem encIt_one (x : It) : ∀ u ∈ encIt x, u.oneCell' = true := ints_oneCell .i64 [x.id, x.w, x.h, x.d, x.gram, x.cls, x.cnt]
theorem SlK.ints {w : World} {lo hi : Nat} {A : Option Addr} {n c : Nat} {xs : List Int} (h : SlK 1 encInt w lo hi A n c xs) (hn : 0 < n) : ∃ b off, A = some ⟨b, off, none⟩ ∧ lo ≤ b ∧ b < hi ∧ ∀ i, i < n → w.cell? ⟨b, off + i, none⟩ = some (.int .i64 (xs.getD i 0)) := by
  obtain ⟨h1, h2, h3, h4⟩ := h
  obtain ⟨b, off, hA, hl, hb, hc⟩ := h4 hn
  refine ⟨b, off, hA, hl, hb, fun i hi => ?_⟩
  have hx : xs[i]? = some (xs.getD i 0) := by rw [List.getD_eq_getElem?_getD, List.getElem?_eq_getElem (by omega)]; rfl
  have := (hc i _ hx 0 _ rfl).1
  simpa using this
section
variable {w w' : World} {base : Nat} {r : Rq} {v1 v2 v3 v' : Value}
theorem RqOwn.pushPr (h : RqOwn w base r v1 v2 v3) (o : Obj) {p : Pr} (ho : Own 2 encPr 82 w' base v' (r.pairs ++ [p])) (hg : (w.alloc o).grownBy w' v1.ownBlock) (hv : v'.ownBlock = v1.ownBlock ∨ v'.ownBlock = some (w.alloc o).heap.size) : RqOwn w' base { r with pairs := r.pairs ++ [p] } v' v2 v3 := by
  have h2 := h.alloc o
  refine ⟨ho, own_away h2.ty hg (fun z hz e => h.d12 z e hz), own_away h2.it hg (fun z hz e => h.d13 z e hz), fun z hz e => ?_, fun z hz e => ?_, h.d23⟩
  · rcases hv with hv | hv
    · exact h.d12 z (hv ▸ hz) e
    · rw [hv] at hz; have := Option.some.inj hz; have := (h2.ty.lt z e).2; omega
  · rcases hv with hv | hv
    · exact h.d13 z (hv ▸ hz) e
    · rw [hv] at hz; have := Option.some.inj hz; have := (h2.it.lt z e).2; omega
theorem RqOwn.pushTy (h : RqOwn w base r v1 v2 v3) (o : Obj) {p : Ty} (ho : Own 7 encTy 84 w' base v' (r.types ++ [p])) (hg : (w.alloc o).grownBy w' v2.ownBlock) (hv : v'.ownBlock = v2.ownBlock ∨ v'.ownBlock = some (w.alloc o).heap.size) : RqOwn w' base { r with types := r.types ++ [p] } v1 v' v3 := by
  have h2 := h.alloc o
  refine ⟨own_away h2.pr hg (fun z hz e => h.d12 z hz e), ho, own_away h2.it hg (fun z hz e => h.d23 z e hz), fun z hz e => ?_, h.d13, fun z hz e => ?_⟩
  · rcases hv with hv | hv
    · exact h.d12 z hz (hv ▸ e)
    · rw [hv] at e; have := Option.some.inj e; have := (h2.pr.lt z hz).2; omega
  · rcases hv with hv | hv
    · exact h.d23 z (hv ▸ hz) e
    · rw [hv] at hz; have := Option.some.inj hz; have := (h2.it.lt z e).2; omega
theorem RqOwn.pushIt (h : RqOwn w base r v1 v2 v3) (o : Obj) {p : It} (ho : Own 7 encIt 86 w' base v' (r.items ++ [p])) (hg : (w.alloc o).grownBy w' v3.ownBlock) (hv : v'.ownBlock = v3.ownBlock ∨ v'.ownBlock = some (w.alloc o).heap.size) : RqOwn w' base { r with items := r.items ++ [p] } v1 v2 v' := by
  have h2 := h.alloc o
  refine ⟨own_away h2.pr hg (fun z hz e => h.d13 z hz e), own_away h2.ty hg (fun z hz e => h.d23 z hz e), ho, h.d12, fun z hz e => ?_, fun z hz e => ?_⟩
  · rcases hv with hv | hv
    · exact h.d13 z hz (hv ▸ e)
    · rw [hv] at e; have := Option.some.inj e; have := (h2.pr.lt z hz).2; omega
  · rcases hv with hv | hv
    · exact h.d23 z hz (hv ▸ e)
    · rw [hv] at e; have := Option.some.inj e; have := (h2.ty.lt z hz).2; omega
end
theorem litne {a b : ByteArray} (h : ¬ a = b) : (a.toList == b.data.toList) = false := by
  have := str_ne h
  rwa [ByteArray.toList_eq b] at this
def rdCells (r : Rq) (v1 v2 v3 : Value) : Array Value := #[.int .i64 r.way, .int .i64 r.pal.w, .int .i64 r.pal.d, .int .i64 r.pal.h, .int .i64 r.pal.gram, .int .i64 r.cls, v1, v2, .int .i64 r.master, v3]
/-- An order that is being read: its box is the first block behind the world w0. -/
structure RdSt (w0 w : World) (r : Rq) (v1 v2 v3 : Value) : Prop where
  rq : Blk w w0.heap.size 41 (rdCells r v1 v2 v3)
  own : RqOwn w (w0.heap.size + 1) r v1 v2 v3
  below : Below w0.heap.size w0 w
section
variable {w0 w w' : World} {r r' : Rq} {v1 v2 v3 v' : Value}
theorem RdSt.lt (h : RdSt w0 w r v1 v2 v3) : w0.heap.size + 1 ≤ w.heap.size := h.rq.lt
theorem RdSt.call (h : RdSt w0 w r v1 v2 v3) (hb : Below w.heap.size w w') : RdSt w0 w' r v1 v2 v3 := ⟨h.rq.belowH hb, h.own.below hb, h.below.trans (hb.mono (by have := h.lt; omega))⟩
theorem RdSt.drew (h : RdSt w0 w r v1 v2 v3) : RdSt w0 w.drew r v1 v2 v3 := ⟨h.rq.drew, h.own.drew, h.below.drew⟩
theorem RdSt.alloc (h : RdSt w0 w r v1 v2 v3) (o : Obj) : RdSt w0 (w.alloc o) r v1 v2 v3 := h.call ((Below.refl _ _).alloc (Nat.le_refl _) o)
/-- A number of the order is written over. -/
theorem RdSt.set (h : RdSt w0 w r v1 v2 v3) (i : Nat) (u : Value) (hc : (rdCells r v1 v2 v3).setIfInBounds i u = rdCells r' v1 v2 v3) (h1 : r'.pairs = r.pairs) (h2 : r'.types = r.types) (h3 : r'.items = r.items) : RdSt w0 (w.setCell ⟨w0.heap.size, i, none⟩ u) r' v1 v2 v3 := by
  have ho := h.own.away (grown_set w w0.heap.size i u) (Nat.lt_succ_self _)
  refine ⟨?_, ⟨by rw [h1]; exact ho.pr, by rw [h2]; exact ho.ty, by rw [h3]; exact ho.it, ho.d12, ho.d13, ho.d23⟩, h.below.setCell (p := ⟨w0.heap.size, i, none⟩) (Nat.le_refl _) u⟩
  rw [← hc]
  exact h.rq.set_ i u
theorem RqOwn.rest {base : Nat} (h : RqOwn w base r v1 v2 v3) (h1 : r'.pairs = r.pairs) (h2 : r'.types = r.types) (h3 : r'.items = r.items) : RqOwn w base r' v1 v2 v3 := ⟨by rw [h1]; exact h.pr, by rw [h2]; exact h.ty, by rw [h3]; exact h.it, h.d12, h.d13, h.d23⟩
/-- A slice has grown; the box is written over behind it. -/
theorem RdSt.put {w2 : World} {row : Option Nat} {va vb vc : Value} (h : RdSt w0 w r v1 v2 v3) (o : Obj) (hg : (w.alloc o).grownBy w2 row) (hr : ∀ z, row = some z → w0.heap.size < z) (ho : RqOwn w2 (w0.heap.size + 1) r' va vb vc) (i : Nat) (u : Value) (hc : (rdCells r v1 v2 v3).setIfInBounds i u = rdCells r' va vb vc) : RdSt w0 (w2.setCell ⟨w0.heap.size, i, none⟩ u) r' va vb vc := by
  have h2 := h.alloc o
  refine ⟨?_, ho.away (grown_set w2 w0.heap.size i u) (Nat.lt_succ_self _), (h2.below.grown hg (by have := h2.lt; omega) (fun z hz => Nat.le_of_lt (hr z hz))).setCell (p := ⟨w0.heap.size, i, none⟩) (Nat.le_refl _) u⟩
  rw [← hc]
  exact (h2.rq.grown hg (fun e => by have := hr _ e.symm; omega)).set_ i u
end
theorem putL_none {r : Rq} {line : ByteArray} (h1 : ¬ line = (ByteArray.mk #[119, 97, 121, 32, 102, 105, 114, 115, 116])) (h2 : ¬ line = (ByteArray.mk #[119, 97, 121, 32, 110, 101, 120, 116])) (h3 : (numsR line (ByteArray.mk #[112, 97, 108, 108, 101, 116]) 4).2 = false) (h4 : (numsR line (ByteArray.mk #[99, 108, 97, 115, 115, 101, 115]) 1).2 = false) (h5 : (numsR line (ByteArray.mk #[119, 105, 116, 104]) 2).2 = false) (h6 : (numsR line (ByteArray.mk #[116, 121, 112, 101]) 7).2 = false) (h7 : (numsR line (ByteArray.mk #[109, 97, 115, 116, 101, 114]) 1).2 = false) (h8 : (numsR line (ByteArray.mk #[105, 116, 101, 109]) 7).2 = false) : putL r line = (r, -1) := by
  unfold putL
  rw [if_neg h1, if_neg h2, h3, h4, h5, h6, h7, h8]
  simp
theorem SlK.intsAt {w : World} {lo hi : Nat} {b off : Nat} {n c : Nat} {xs : List Int} (h : SlK 1 encInt w lo hi (some ⟨b, off, none⟩) n c xs) : ∀ i, i < n → w.cell? ⟨b, off + i, none⟩ = some (.int .i64 (xs.getD i 0)) := fun i hi' => by
  obtain ⟨b', off', e, _, _, hc⟩ := h.ints (by omega)
  injection e with e
  injection e with e1 e2
  subst e1 e2
  exact hc i hi'
set_option maxRecDepth 20000 in
set_option maxHeartbeats 8000000 in
theorem putLine_any (line : ByteArray) (r : Rq) (v1 v2 v3 : Value) (w0 w : World) (hst : RdSt w0 w r v1 v2 v3) (hs : line.size ≤ 1048576) (hl : r.pairs.length + r.types.length + r.items.length ≤ 1000) (htab : Lib.TabIs Tryd.prog w0 "internal/strconv.uint64pow10" .u64 Lib.pow10Tab) (hrng : ∃ tp p, w0.var? Tryd.prog "strconv.ErrRange" = some #[.iface tp p]) (hsyn : ∃ tp p, w0.var? Tryd.prog "strconv.ErrSyntax" = some #[.iface tp p]) :
    Calls Tryd.prog 64 #[.pointer (some ⟨w0.heap.size, 0, none⟩), .string line] w fun e w' => ∃ v1' v2' v3', e = .returned (.int .i64 (putL r line).2) ∧ RdSt w0 w' (putL r line).1 v1' v2' v3' ∧ w.heap.size ≤ w'.heap.size := by
  have HS0 := hide hst
  have kR := hst.rq.cell
  have yR := hst.rq.lt
  have fR := hst.rq.frozen
  unfold rdCells at kR
  obtain ⟨tr, pr, hr⟩ := hrng
  obtain ⟨ts, ps, hsy⟩ := hsyn
  have HW := hide (fun (word : ByteArray) (cnt : Nat) (W : World) (h0 : 1 ≤ cnt) (h1 : cnt ≤ 16) (hb : Below w0.heap.size w0 W) => wordsOf_any line word cnt W hs h0 h1 (tab_stays gPow htab hb (Nat.le_refl _)) ⟨_, _, var_stays gRng hr hb (Nat.le_refl _)⟩ ⟨_, _, var_stays gSyn hsy hb (Nat.le_refl _)⟩)
  clear hst htab hr hsy
  by_cases hF : line = (ByteArray.mk #[119, 97, 121, 32, 102, 105, 114, 115, 116])
  · subst hF
    have HP := hide (putL_wayF r)
    go_enter Tryd.func64, Tryd.ntmps64
    go_wp2_with fail
    go_ret
    rw [HP.out]
    exact ⟨v1, v2, v3, rfl, HS0.out.set 0 (.int .i64 0) rfl rfl rfl rfl, by simp⟩
  by_cases hN : line = (ByteArray.mk #[119, 97, 121, 32, 110, 101, 120, 116])
  · subst hN
    have HP := hide (putL_wayN r)
    have hne : (ByteArray.toList (ByteArray.mk #[119, 97, 121, 32, 110, 101, 120, 116]) == [119, 97, 121, 32, 102, 105, 114, 115, 116]) = false := litne hF
    go_enter Tryd.func64, Tryd.ntmps64
    go_wp2_with fail
    go_ret
    rw [HP.out]
    exact ⟨v1, v2, v3, rfl, HS0.out.set 0 (.int .i64 1) rfl rfl rfl rfl, by simp⟩
  have hne1 : (line.toList == [119, 97, 121, 32, 102, 105, 114, 115, 116]) = false := litne hF
  have hne2 : (line.toList == [119, 97, 121, 32, 110, 101, 120, 116]) = false := litne hN
  have HNE := hide (And.intro hF hN)
  clear hF hN
  go_enter Tryd.func64, Tryd.ntmps64
  go_wp2_with fail
  refine (HW.out (ByteArray.mk #[112, 97, 108, 108, 101, 116]) 4 w (by omega) (by omega) HS0.out.below).mono ?_
  rintro e w1 ⟨⟨nv, rfl, hon⟩, hb1⟩
  have HS1 := hide (HS0.out.call hb1)
  have z1 := hb1.size
  clear hb1 kR yR fR
  have kR := HS1.out.rq.cell
  have yR := HS1.out.rq.lt
  have fR := HS1.out.rq.frozen
  unfold rdCells at kR
  obtain ⟨⟨qs, qb⟩, hq⟩ : ∃ q, numsR line (ByteArray.mk #[112, 97, 108, 108, 101, 116]) 4 = q := ⟨_, rfl⟩
  rw [hq] at hon ⊢
  cases qb
  case true =>
    have HP := hide (putL_1 (r := r) (line := line) (by rw [hq]))
    rw [hq] at HP
    have hql : qs.length = 4 := by have := numsR_len (line := line) (by rw [hq]); rw [hq] at this; exact this
    have HON := hide hon
    obtain ⟨An, cn, rfl, sn⟩ := Own.slk' encInt_len hql hon
    obtain ⟨bn, on, rfl, hbl, hbn, hc⟩ := sn.ints (by omega)
    have HSN := hide sn
    have ncc := sn.cap
    have ncm := sn.max
    have c0 := hc 0 (by omega)
    have c1 := hc 1 (by omega)
    have c2 := hc 2 (by omega)
    have c3 := hc 3 (by omega)
    simp only [Nat.add_zero] at c0
    have hne : w0.heap.size ≠ bn := by have := HS0.out.lt; omega
    have zbn : bn < w1.heap.size := hbn
    obtain ⟨x0, hx0⟩ : ∃ x, qs.getD 0 0 = x := ⟨_, rfl⟩
    rw [hx0] at c0
    obtain ⟨x1, hx1⟩ : ∃ x, qs.getD 1 0 = x := ⟨_, rfl⟩
    rw [hx1] at c1
    obtain ⟨x2, hx2⟩ : ∃ x, qs.getD 2 0 = x := ⟨_, rfl⟩
    rw [hx2] at c2
    obtain ⟨x3, hx3⟩ : ∃ x, qs.getD 3 0 = x := ⟨_, rfl⟩
    rw [hx3] at c3
    have HX := hide (show qs.getD 0 0 = x0 ∧ qs.getD 1 0 = x1 ∧ qs.getD 2 0 = x2 ∧ qs.getD 3 0 = x3 from ⟨hx0, hx1, hx2, hx3⟩)
    clear hc hon sn hx0 hx1 hx2 hx3
    clear hq HW
    go_wp2_with fail
    refine wp_region_held_drew (S := (fun w' => w'.cell? ⟨bn, on, none⟩ = some (.int .i64 x0) ∧ w'.cell? ⟨bn, on + 1, none⟩ = some (.int .i64 x1) ∧ w'.cell? ⟨bn, on + 2, none⟩ = some (.int .i64 x2) ∧ w'.cell? ⟨bn, on + 3, none⟩ = some (.int .i64 x3))) (by kernel_rfl) ?hS0 (fun hHeld => ?_)
    case hS0 => (exact ⟨c0, c1, c2, c3⟩)
    refine wpAnyH_take (i := 0) (v := ?_) rfl (by kernel_rfl) (by kernel_rfl) (by kernel_rfl) (fun _ _ _ h => h) (Or.inl ⟨by rfl, ?_⟩) (by assumption) ?_
    rotate_left 1
    · intro w hSw
      try dsimp only at hSw
      go_simp
      try with_reducible rfl
    simp only [Act.put, List.getElem_toArray, List.getElem_cons_succ, List.getElem_cons_zero, List.setIfInBounds_toArray, List.set_cons_zero, List.set_cons_succ]
    refine wpAnyH_take (i := 1) (v := ?_) rfl (by kernel_rfl) (by kernel_rfl) (by kernel_rfl) (fun _ _ _ h => h) (Or.inl ⟨by rfl, ?_⟩) (by assumption) ?_
    rotate_left 1
    · intro w hSw
      try dsimp only at hSw
      go_simp
      try with_reducible rfl
    simp only [Act.put, List.getElem_toArray, List.getElem_cons_succ, List.getElem_cons_zero, List.setIfInBounds_toArray, List.set_cons_zero, List.set_cons_succ]
    refine wpAnyH_take (i := 2) (v := ?_) rfl (by kernel_rfl) (by kernel_rfl) (by kernel_rfl) (fun _ _ _ h => h) (Or.inl ⟨by rfl, ?_⟩) (by assumption) ?_
    rotate_left 1
    · intro w hSw
      try dsimp only at hSw
      go_simp
      try with_reducible rfl
    simp only [Act.put, List.getElem_toArray, List.getElem_cons_succ, List.getElem_cons_zero, List.setIfInBounds_toArray, List.set_cons_zero, List.set_cons_succ]
    refine wpAnyH_take (i := 3) (v := ?_) rfl (by kernel_rfl) (by kernel_rfl) (by kernel_rfl) (fun _ _ _ h => h) (Or.inl ⟨by rfl, ?_⟩) (by assumption) ?_
    rotate_left 1
    · intro w hSw
      try dsimp only at hSw
      go_simp
      try with_reducible rfl
    simp only [Act.put, List.getElem_toArray, List.getElem_cons_succ, List.getElem_cons_zero, List.setIfInBounds_toArray, List.set_cons_zero, List.set_cons_succ]
    refine wpAnyH_take (i := 4) (v := ?_) rfl (by kernel_rfl) (by kernel_rfl) (by kernel_rfl) (fun _ _ _ h => h) (Or.inl ⟨by rfl, ?_⟩) (by assumption) ?_
    rotate_left 1
    · intro w hSw
      try dsimp only at hSw
      go_simp
      try with_reducible rfl
    simp only [Act.put, List.getElem_toArray, List.getElem_cons_succ, List.getElem_cons_zero, List.setIfInBounds_toArray, List.set_cons_zero, List.set_cons_succ]
    refine wpAnyH_take (i := 5) (v := ?_) rfl (by kernel_rfl) (by kernel_rfl) (by kernel_rfl) (fun _ _ _ h => h) (Or.inl ⟨by rfl, ?_⟩) (by assumption) ?_
    rotate_left 1
    · intro w hSw
      try dsimp only at hSw
      go_simp
      try with_reducible rfl
    simp only [Act.put, List.getElem_toArray, List.getElem_cons_succ, List.getElem_cons_zero, List.setIfInBounds_toArray, List.set_cons_zero, List.set_cons_succ]
    refine wpAnyH_take (i := 6) (v := ?_) rfl (by kernel_rfl) (by kernel_rfl) (by kernel_rfl) (fun _ _ _ h => h) (Or.inl ⟨by rfl, ?_⟩) (by assumption) ?_
    rotate_left 1
    · intro w hSw
      try dsimp only at hSw
      go_simp
      try with_reducible rfl
    simp only [Act.put, List.getElem_toArray, List.getElem_cons_succ, List.getElem_cons_zero, List.setIfInBounds_toArray, List.set_cons_zero, List.set_cons_succ]
    refine wpAnyH_take (i := 7) (v := ?_) rfl (by kernel_rfl) (by kernel_rfl) (by kernel_rfl) (fun _ _ _ h => h) (Or.inl ⟨by rfl, ?_⟩) (by assumption) ?_
    rotate_left 1
    · intro w hSw
      try dsimp only at hSw
      go_simp
      try with_reducible rfl
    simp only [Act.put, List.getElem_toArray, List.getElem_cons_succ, List.getElem_cons_zero, List.setIfInBounds_toArray, List.set_cons_zero, List.set_cons_succ]
    refine wpAnyH_take (i := 8) (v := ?_) rfl (by kernel_rfl) (by kernel_rfl) (by kernel_rfl) (fun _ _ _ h => h) (Or.inl ⟨by rfl, ?_⟩) (by assumption) ?_
    rotate_left 1
    · intro w hSw
      try dsimp only at hSw
      go_simp
      try with_reducible rfl
    simp only [Act.put, List.getElem_toArray, List.getElem_cons_succ, List.getElem_cons_zero, List.setIfInBounds_toArray, List.set_cons_zero, List.set_cons_succ]
    refine wpAnyH_take (i := 9) (v := ?_) rfl (by kernel_rfl) (by kernel_rfl) (by kernel_rfl) (fun _ _ _ h => h) (Or.inl ⟨by rfl, ?_⟩) (by assumption) ?_
    rotate_left 1
    · intro w hSw
      try dsimp only at hSw
      go_simp
      try with_reducible rfl
    simp only [Act.put, List.getElem_toArray, List.getElem_cons_succ, List.getElem_cons_zero, List.setIfInBounds_toArray, List.set_cons_zero, List.set_cons_succ]
    refine wpAnyH_take (i := 10) (v := ?_) rfl (by kernel_rfl) (by kernel_rfl) (by kernel_rfl) (fun _ _ _ h => h) (Or.inl ⟨by rfl, ?_⟩) (by assumption) ?_
    rotate_left 1
    · intro w hSw
      try dsimp only at hSw
      go_simp
      try with_reducible rfl
    simp only [Act.put, List.getElem_toArray, List.getElem_cons_succ, List.getElem_cons_zero, List.setIfInBounds_toArray, List.set_cons_zero, List.set_cons_succ]
    refine wpAnyH_take (i := 11) (v := ?_) rfl (by kernel_rfl) (by kernel_rfl) (by kernel_rfl) (fun _ _ _ h => h) (Or.inl ⟨by rfl, ?_⟩) (by assumption) ?_
    rotate_left 1
    · intro w hSw
      try dsimp only at hSw
      go_simp
      try with_reducible rfl
    simp only [Act.put, List.getElem_toArray, List.getElem_cons_succ, List.getElem_cons_zero, List.setIfInBounds_toArray, List.set_cons_zero, List.set_cons_succ]
    refine wpAnyH_take (i := 12) (v := ?_) rfl (by kernel_rfl) (by kernel_rfl) (by kernel_rfl) (fun _ _ _ h => h) (Or.inl ⟨by rfl, ?_⟩) (by assumption) ?_
    rotate_left 1
    · intro w hSw
      try dsimp only at hSw
      go_simp
      try with_reducible rfl
    simp only [Act.put, List.getElem_toArray, List.getElem_cons_succ, List.getElem_cons_zero, List.setIfInBounds_toArray, List.set_cons_zero, List.set_cons_succ]
    refine wpAnyH_take (i := 13) (v := ?_) rfl (by kernel_rfl) (by kernel_rfl) (by kernel_rfl) (fun _ _ _ h => h) (Or.inl ⟨by rfl, ?_⟩) (by assumption) ?_
    rotate_left 1
    · intro w hSw
      try dsimp only at hSw
      go_simp
      try with_reducible rfl
    simp only [Act.put, List.getElem_toArray, List.getElem_cons_succ, List.getElem_cons_zero, List.setIfInBounds_toArray, List.set_cons_zero, List.set_cons_succ]
    refine wpAnyH_take (i := 14) (v := ?_) rfl (by kernel_rfl) (by kernel_rfl) (by kernel_rfl) (fun _ _ _ h => h) (Or.inl ⟨by rfl, ?_⟩) (by assumption) ?_
    rotate_left 1
    · intro w hSw
      try dsimp only at hSw
      go_simp
      try with_reducible rfl
    simp only [Act.put, List.getElem_toArray, List.getElem_cons_succ, List.getElem_cons_zero, List.setIfInBounds_toArray, List.set_cons_zero, List.set_cons_succ]
    refine wpAnyH_take (i := 15) (v := ?_) rfl (by kernel_rfl) (by kernel_rfl) (by kernel_rfl) (fun _ _ _ h => h) (Or.inl ⟨by rfl, ?_⟩) (by assumption) ?_
    rotate_left 1
    · intro w hSw
      try dsimp only at hSw
      go_simp
      try with_reducible rfl
    simp only [Act.put, List.getElem_toArray, List.getElem_cons_succ, List.getElem_cons_zero, List.setIfInBounds_toArray, List.set_cons_zero, List.set_cons_succ]
    refine wpAnyH_ready (rs := [16]) (by kernel_rfl) (by simp) ?_
    refine AllReadyH.cons rfl (fun K hK => ?_) AllReadyH.nil
    go_simp
    refine hK.out _ _ ?hS1 (fun hHeld => ?_)
    case hS1 => (try dsimp only); (go_keep)
    clear hK K
    try simp only [Act.put, List.getElem_toArray, List.getElem_cons_succ, List.getElem_cons_zero, List.setIfInBounds_toArray, List.set_cons_zero, List.set_cons_succ]
    refine wpAnyH_done (by kernel_rfl) ?_ _
    go_wp2_with fail
    go_ret
    rw [HP.out]
    exact ⟨v1, v2, v3, rfl, by unfold rPal nAt; simp only [HX.out.1, HX.out.2.1, HX.out.2.2.1, HX.out.2.2.2]; exact ((((HS1.out.drew.set 1 (.int .i64 x0) (r' := { r with pal := ⟨x0, r.pal.d, r.pal.h, r.pal.gram⟩ }) rfl rfl rfl rfl).set 2 (.int .i64 x1) (r' := { r with pal := ⟨x0, x1, r.pal.h, r.pal.gram⟩ }) rfl rfl rfl rfl).set 3 (.int .i64 x2) (r' := { r with pal := ⟨x0, x1, x2, r.pal.gram⟩ }) rfl rfl rfl rfl).set 4 (.int .i64 x3) (r' := { r with pal := ⟨x0, x1, x2, x3⟩ }) rfl rfl rfl rfl), by simp; omega⟩
  have HF1 := hide (show (numsR line (ByteArray.mk #[112, 97, 108, 108, 101, 116]) 4).2 = false by rw [hq])
  clear hq hon
  go_wp2_with fail
  refine (HW.out (ByteArray.mk #[99, 108, 97, 115, 115, 101, 115]) 1 w1 (by omega) (by omega) HS1.out.below).mono ?_
  rintro e w2 ⟨⟨nv, rfl, hon⟩, hb2⟩
  have HS2 := hide (HS1.out.call hb2)
  have z2 := hb2.size
  clear hb2 kR yR fR
  have kR := HS2.out.rq.cell
  have yR := HS2.out.rq.lt
  have fR := HS2.out.rq.frozen
  unfold rdCells at kR
  obtain ⟨⟨qs, qb⟩, hq⟩ : ∃ q, numsR line (ByteArray.mk #[99, 108, 97, 115, 115, 101, 115]) 1 = q := ⟨_, rfl⟩
  rw [hq] at hon ⊢
  cases qb
  case true =>
    have HP := hide (putL_2 (r := r) (line := line) (by rw [hq]))
    rw [hq] at HP
    have hql : qs.length = 1 := by have := numsR_len (line := line) (by rw [hq]); rw [hq] at this; exact this
    have HON := hide hon
    obtain ⟨An, cn, rfl, sn⟩ := Own.slk' encInt_len hql hon
    obtain ⟨bn, on, rfl, hbl, hbn, hc⟩ := sn.ints (by omega)
    have HSN := hide sn
    have ncc := sn.cap
    have ncm := sn.max
    have c0 := hc 0 (by omega)
    simp only [Nat.add_zero] at c0
    have hne : w0.heap.size ≠ bn := by have := HS1.out.lt; omega
    have zbn : bn < w2.heap.size := hbn
    obtain ⟨x0, hx0⟩ : ∃ x, qs.getD 0 0 = x := ⟨_, rfl⟩
    rw [hx0] at c0
    have HX := hide hx0
    clear hc hon sn hx0
    clear hq HW
    go_wp2_with fail
    go_ret
    rw [HP.out]
    exact ⟨v1, v2, v3, rfl, by unfold rCls nAt; simp only [HX.out]; exact HS2.out.set 5 (.int .i64 x0) rfl rfl rfl rfl, by simp; omega⟩
  have HF2 := hide (show (numsR line (ByteArray.mk #[99, 108, 97, 115, 115, 101, 115]) 1).2 = false by rw [hq])
  clear hq hon
  go_wp2_with fail
  refine (HW.out (ByteArray.mk #[119, 105, 116, 104]) 2 w2 (by omega) (by omega) HS2.out.below).mono ?_
  rintro e w3 ⟨⟨nv, rfl, hon⟩, hb3⟩
  have HS3 := hide (HS2.out.call hb3)
  have z3 := hb3.size
  clear hb3 kR yR fR
  have kR := HS3.out.rq.cell
  have yR := HS3.out.rq.lt
  have fR := HS3.out.rq.frozen
  unfold rdCells at kR
  obtain ⟨⟨qs, qb⟩, hq⟩ : ∃ q, numsR line (ByteArray.mk #[119, 105, 116, 104]) 2 = q := ⟨_, rfl⟩
  rw [hq] at hon ⊢
  cases qb
  case true =>
    have HP := hide (putL_3 (r := r) (line := line) (by rw [hq]))
    rw [hq] at HP
    have hql : qs.length = 2 := by have := numsR_len (line := line) (by rw [hq]); rw [hq] at this; exact this
    have HON := hide hon
    obtain ⟨An, cn, rfl, sn⟩ := Own.slk' encInt_len hql hon
    obtain ⟨bn, on, rfl, hbl, hbn, hc⟩ := sn.ints (by omega)
    have HSN := hide sn
    have ncc := sn.cap
    have ncm := sn.max
    have c0 := hc 0 (by omega)
    have c1 := hc 1 (by omega)
    simp only [Nat.add_zero] at c0
    have hne : w0.heap.size ≠ bn := by have := HS2.out.lt; omega
    have zbn : bn < w3.heap.size := hbn
    obtain ⟨x0, hx0⟩ : ∃ x, qs.getD 0 0 = x := ⟨_, rfl⟩
    rw [hx0] at c0
    obtain ⟨x1, hx1⟩ : ∃ x, qs.getD 1 0 = x := ⟨_, rfl⟩
    rw [hx1] at c1
    have HX := hide (show qs.getD 0 0 = x0 ∧ qs.getD 1 0 = x1 from ⟨hx0, hx1⟩)
    clear hc hon sn hx0 hx1
    clear hq HW
    go_wp2_with fail
    refine wp_region_held_drew (S := (fun w' => w'.cell? ⟨bn, on, none⟩ = some (.int .i64 x0) ∧ w'.cell? ⟨bn, on + 1, none⟩ = some (.int .i64 x1))) (by kernel_rfl) ?hS0 (fun hHeld => ?_)
    case hS0 => (exact ⟨c0, c1⟩)
    refine wpAnyH_take (i := 0) (v := ?_) rfl (by kernel_rfl) (by kernel_rfl) (by kernel_rfl) (fun _ _ _ h => h) (Or.inl ⟨by rfl, ?_⟩) (by assumption) ?_
    rotate_left 1
    · intro w hSw
      try dsimp only at hSw
      go_simp
      try with_reducible rfl
    simp only [Act.put, List.getElem_toArray, List.getElem_cons_succ, List.getElem_cons_zero, List.setIfInBounds_toArray, List.set_cons_zero, List.set_cons_succ]
    refine wpAnyH_take (i := 1) (v := ?_) rfl (by kernel_rfl) (by kernel_rfl) (by kernel_rfl) (fun _ _ _ h => h) (Or.inl ⟨by rfl, ?_⟩) (by assumption) ?_
    rotate_left 1
    · intro w hSw
      try dsimp only at hSw
      go_simp
      try with_reducible rfl
    simp only [Act.put, List.getElem_toArray, List.getElem_cons_succ, List.getElem_cons_zero, List.setIfInBounds_toArray, List.set_cons_zero, List.set_cons_succ]
    refine wpAnyH_take (i := 2) (v := ?_) rfl (by kernel_rfl) (by kernel_rfl) (by kernel_rfl) (fun _ _ _ h => h) (Or.inl ⟨by rfl, ?_⟩) (by assumption) ?_
    rotate_left 1
    · intro w hSw
      try dsimp only at hSw
      go_simp
      try with_reducible rfl
    simp only [Act.put, List.getElem_toArray, List.getElem_cons_succ, List.getElem_cons_zero, List.setIfInBounds_toArray, List.set_cons_zero, List.set_cons_succ]
    refine wpAnyH_take (i := 3) (v := ?_) rfl (by kernel_rfl) (by kernel_rfl) (by kernel_rfl) (fun _ _ _ h => h) (Or.inl ⟨by rfl, ?_⟩) (by assumption) ?_
    rotate_left 1
    · intro w hSw
      try dsimp only at hSw
      go_simp
      try with_reducible rfl
    simp only [Act.put, List.getElem_toArray, List.getElem_cons_succ, List.getElem_cons_zero, List.setIfInBounds_toArray, List.set_cons_zero, List.set_cons_succ]
    refine wpAnyH_take (i := 5) (v := ?_) rfl (by kernel_rfl) (by kernel_rfl) (by kernel_rfl) (fun _ _ _ h => h) (Or.inl ⟨by rfl, ?_⟩) (by assumption) ?_
    rotate_left 1
    · intro w hSw
      try dsimp only at hSw
      go_simp
      try with_reducible rfl
    simp only [Act.put, List.getElem_toArray, List.getElem_cons_succ, List.getElem_cons_zero, List.setIfInBounds_toArray, List.set_cons_zero, List.set_cons_succ]
    refine wpAnyH_take (i := 6) (v := ?_) rfl (by kernel_rfl) (by kernel_rfl) (by kernel_rfl) (fun _ _ _ h => h) (Or.inl ⟨by rfl, ?_⟩) (by assumption) ?_
    rotate_left 1
    · intro w hSw
      try dsimp only at hSw
      go_simp
      try with_reducible rfl
    simp only [Act.put, List.getElem_toArray, List.getElem_cons_succ, List.getElem_cons_zero, List.setIfInBounds_toArray, List.set_cons_zero, List.set_cons_succ]
    refine wpAnyH_take (i := 7) (v := ?_) rfl (by kernel_rfl) (by kernel_rfl) (by kernel_rfl) (fun _ _ _ h => h) (Or.inl ⟨by rfl, ?_⟩) (by assumption) ?_
    rotate_left 1
    · intro w hSw
      try dsimp only at hSw
      go_simp
      try with_reducible rfl
    simp only [Act.put, List.getElem_toArray, List.getElem_cons_succ, List.getElem_cons_zero, List.setIfInBounds_toArray, List.set_cons_zero, List.set_cons_succ]
    refine wpAnyH_take (i := 8) (v := ?_) rfl (by kernel_rfl) (by kernel_rfl) (by kernel_rfl) (fun _ _ _ h => h) (Or.inl ⟨by rfl, ?_⟩) (by assumption) ?_
    rotate_left 1
    · intro w hSw
      try dsimp only at hSw
      go_simp
      try with_reducible rfl
    simp only [Act.put, List.getElem_toArray, List.getElem_cons_succ, List.getElem_cons_zero, List.setIfInBounds_toArray, List.set_cons_zero, List.set_cons_succ]
    refine wpAnyH_take (i := 9) (v := ?_) rfl (by kernel_rfl) (by kernel_rfl) (by kernel_rfl) (fun _ _ _ h => h) (Or.inl ⟨by rfl, ?_⟩) (by assumption) ?_
    rotate_left 1
    · intro w hSw
      try dsimp only at hSw
      go_simp
      try with_reducible rfl
    simp only [Act.put, List.getElem_toArray, List.getElem_cons_succ, List.getElem_cons_zero, List.setIfInBounds_toArray, List.set_cons_zero, List.set_cons_succ]
    refine wpAnyH_take (i := 10) (v := ?_) rfl (by kernel_rfl) (by kernel_rfl) (by kernel_rfl) (fun _ _ _ h => h) (Or.inl ⟨by rfl, ?_⟩) (by assumption) ?_
    rotate_left 1
    · intro w hSw
      try dsimp only at hSw
      go_simp
      try with_reducible rfl
    simp only [Act.put, List.getElem_toArray, List.getElem_cons_succ, List.getElem_cons_zero, List.setIfInBounds_toArray, List.set_cons_zero, List.set_cons_succ]
    refine wpAnyH_take (i := 11) (v := ?_) rfl (by kernel_rfl) (by kernel_rfl) (by kernel_rfl) (fun _ _ _ h => h) (Or.inl ⟨by rfl, ?_⟩) (by assumption) ?_
    rotate_left 1
    · intro w hSw
      try dsimp only at hSw
      go_simp
      try with_reducible rfl
    simp only [Act.put, List.getElem_toArray, List.getElem_cons_succ, List.getElem_cons_zero, List.setIfInBounds_toArray, List.set_cons_zero, List.set_cons_succ]
    refine wpAnyH_ready (rs := [4, 12]) (by kernel_rfl) (by simp) ?_
    refine AllReadyH.cons rfl (fun K hK => ?_) ?_
    · skip
      go_simp
      refine hK.out _ _ ?hS1 (fun hHeld => ?_)
      case hS1 => (try dsimp only); (go_keep)
      clear hK K
      try simp only [Act.put, List.getElem_toArray, List.getElem_cons_succ, List.getElem_cons_zero, List.setIfInBounds_toArray, List.set_cons_zero, List.set_cons_succ]
      refine wpAnyH_ready (rs := [12]) (by kernel_rfl) (by simp) ?_
      refine AllReadyH.cons rfl (fun K hK => ?_) AllReadyH.nil
      go_simp
      refine hK.out _ _ ?hS1 (fun hHeld => ?_)
      case hS1 => (try dsimp only); (go_keep)
      clear hK K
      try simp only [Act.put, List.getElem_toArray, List.getElem_cons_succ, List.getElem_cons_zero, List.setIfInBounds_toArray, List.set_cons_zero, List.set_cons_succ]
      refine wpAnyH_ready (rs := [13]) (by kernel_rfl) (by simp) ?_
      refine AllReadyH.cons rfl (fun K hK => ?_) AllReadyH.nil
      refine step_app rfl (.tmp 72) (.tmp 80) rfl (by simp [Act.eval]) (by simp [Act.eval]) (app1K encPr_len encPr_one Tryd.underlying37 prInfo rfl (by omega) (by omega) (HS3.out.drew.own.pr) (HS3.out.drew.lt) (by omega) ⟨x0, x1⟩ w3.heap.size rfl _ rfl) ?_
      intro v' wz ho2 hg2 hat2
      obtain ⟨m5, hm5⟩ : ∃ m5, (r.pairs ++ [(⟨x0, x1⟩ : Pr)]).length = m5 := ⟨_, rfl⟩
      obtain ⟨A5, c5, rfl, s5'⟩ := Own.slk' encPr_len hm5 ho2
      clear s5'
      have PZ := (HS3.out.drew.rq.alloc (.cells #[.int .i64 x0, .int .i64 x1] 82)).grown hg2 (fun e => by have := (HS2.out.own.pr.lt _ e.symm).1; omega)
      have kZ := PZ.cell
      have fZ := PZ.frozen
      have yZ := PZ.lt
      unfold rdCells at kZ
      have HN2 := ((HSN.out.drew.alloc (by simp) (.cells #[.int .i64 x0, .int .i64 x1] 82)).grown hg2 (by first | (simp; done) | (simp; omega)) (fun z hz => .inl (HS2.out.own.pr.lt z hz).2)).intsAt
      have d0 := HN2 0 (by omega)
      have d1 := HN2 1 (by omega)
      simp only [Nat.add_zero] at d0
      simp only [HX.out.1, HX.out.2] at d0 d1
      clear HN2
      refine hK.out _ _ ⟨d0, d1⟩ (fun hHeld => ?_)
      clear hK K
      try simp only [Act.put, List.getElem_toArray, List.getElem_cons_succ, List.getElem_cons_zero, List.setIfInBounds_toArray, List.set_cons_zero, List.set_cons_succ]
      refine wpAnyH_take (i := 14) (v := ?_) rfl (by kernel_rfl) (by kernel_rfl) (by kernel_rfl) (fun _ _ _ h => h) (Or.inl ⟨by rfl, ?_⟩) (by assumption) ?_
      rotate_left 1
      · intro w hSw
        try dsimp only at hSw
        go_simp
        try with_reducible rfl
      simp only [Act.put, List.getElem_toArray, List.getElem_cons_succ, List.getElem_cons_zero, List.setIfInBounds_toArray, List.set_cons_zero, List.set_cons_succ]
      refine wpAnyH_take (i := 15) (v := ?_) rfl (by kernel_rfl) (by kernel_rfl) (by kernel_rfl) (fun _ _ _ h => h) (Or.inl ⟨by rfl, ?_⟩) (by assumption) ?_
      rotate_left 1
      · intro w hSw
        try dsimp only at hSw
        go_simp
        try with_reducible rfl
      simp only [Act.put, List.getElem_toArray, List.getElem_cons_succ, List.getElem_cons_zero, List.setIfInBounds_toArray, List.set_cons_zero, List.set_cons_succ]
      refine wpAnyH_ready (rs := [16]) (by kernel_rfl) (by simp) ?_
      refine AllReadyH.cons rfl (fun K hK => ?_) AllReadyH.nil
      go_simp
      refine hK.out _ _ ?hS1 (fun hHeld => ?_)
      case hS1 => (try dsimp only); (go_keep)
      clear hK K
      try simp only [Act.put, List.getElem_toArray, List.getElem_cons_succ, List.getElem_cons_zero, List.setIfInBounds_toArray, List.set_cons_zero, List.set_cons_succ]
      refine wpAnyH_done (by kernel_rfl) ?_ _
      go_wp2_with fail
      go_ret
      rw [HP.out]
      exact ⟨_, v2, v3, rfl, by unfold rPr nAt; simp only [HX.out.1, HX.out.2]; exact HS3.out.drew.put (.cells #[.int .i64 x0, .int .i64 x1] 82) hg2 (fun z hz => (HS2.out.own.pr.lt z hz).1) (HS3.out.drew.own.pushPr (.cells #[.int .i64 x0, .int .i64 x1] 82) ho2 hg2 hat2) 6 _ rfl, by have hz2 := hg2.size; simp only [World.size_alloc, World.size_drew] at hz2; simp; omega⟩
    refine AllReadyH.cons rfl (fun K hK => ?_) ?_
    · skip
      go_simp
      refine hK.out _ _ ?hS1 (fun hHeld => ?_)
      case hS1 => (try dsimp only); (go_keep)
      clear hK K
      try simp only [Act.put, List.getElem_toArray, List.getElem_cons_succ, List.getElem_cons_zero, List.setIfInBounds_toArray, List.set_cons_zero, List.set_cons_succ]
      refine wpAnyH_ready (rs := [4]) (by kernel_rfl) (by simp) ?_
      refine AllReadyH.cons rfl (fun K hK => ?_) AllReadyH.nil
      go_simp
      refine hK.out _ _ ?hS1 (fun hHeld => ?_)
      case hS1 => (try dsimp only); (go_keep)
      clear hK K
      try simp only [Act.put, List.getElem_toArray, List.getElem_cons_succ, List.getElem_cons_zero, List.setIfInBounds_toArray, List.set_cons_zero, List.set_cons_succ]
      refine wpAnyH_ready (rs := [13]) (by kernel_rfl) (by simp) ?_
      refine AllReadyH.cons rfl (fun K hK => ?_) AllReadyH.nil
      refine step_app rfl (.tmp 72) (.tmp 80) rfl (by simp [Act.eval]) (by simp [Act.eval]) (app1K encPr_len encPr_one Tryd.underlying37 prInfo rfl (by omega) (by omega) (HS3.out.drew.own.pr) (HS3.out.drew.lt) (by omega) ⟨x0, x1⟩ w3.heap.size rfl _ rfl) ?_
      intro v' wz ho2 hg2 hat2
      obtain ⟨m5, hm5⟩ : ∃ m5, (r.pairs ++ [(⟨x0, x1⟩ : Pr)]).length = m5 := ⟨_, rfl⟩
      obtain ⟨A5, c5, rfl, s5'⟩ := Own.slk' encPr_len hm5 ho2
      clear s5'
      have PZ := (HS3.out.drew.rq.alloc (.cells #[.int .i64 x0, .int .i64 x1] 82)).grown hg2 (fun e => by have := (HS2.out.own.pr.lt _ e.symm).1; omega)
      have kZ := PZ.cell
      have fZ := PZ.frozen
      have yZ := PZ.lt
      unfold rdCells at kZ
      have HN2 := ((HSN.out.drew.alloc (by simp) (.cells #[.int .i64 x0, .int .i64 x1] 82)).grown hg2 (by first | (simp; done) | (simp; omega)) (fun z hz => .inl (HS2.out.own.pr.lt z hz).2)).intsAt
      have d0 := HN2 0 (by omega)
      have d1 := HN2 1 (by omega)
      simp only [Nat.add_zero] at d0
      simp only [HX.out.1, HX.out.2] at d0 d1
      clear HN2
      refine hK.out _ _ ⟨d0, d1⟩ (fun hHeld => ?_)
      clear hK K
      try simp only [Act.put, List.getElem_toArray, List.getElem_cons_succ, List.getElem_cons_zero, List.setIfInBounds_toArray, List.set_cons_zero, List.set_cons_succ]
      refine wpAnyH_take (i := 14) (v := ?_) rfl (by kernel_rfl) (by kernel_rfl) (by kernel_rfl) (fun _ _ _ h => h) (Or.inl ⟨by rfl, ?_⟩) (by assumption) ?_
      rotate_left 1
      · intro w hSw
        try dsimp only at hSw
        go_simp
        try with_reducible rfl
      simp only [Act.put, List.getElem_toArray, List.getElem_cons_succ, List.getElem_cons_zero, List.setIfInBounds_toArray, List.set_cons_zero, List.set_cons_succ]
      refine wpAnyH_take (i := 15) (v := ?_) rfl (by kernel_rfl) (by kernel_rfl) (by kernel_rfl) (fun _ _ _ h => h) (Or.inl ⟨by rfl, ?_⟩) (by assumption) ?_
      rotate_left 1
      · intro w hSw
        try dsimp only at hSw
        go_simp
        try with_reducible rfl
      simp only [Act.put, List.getElem_toArray, List.getElem_cons_succ, List.getElem_cons_zero, List.setIfInBounds_toArray, List.set_cons_zero, List.set_cons_succ]
      refine wpAnyH_ready (rs := [16]) (by kernel_rfl) (by simp) ?_
      refine AllReadyH.cons rfl (fun K hK => ?_) AllReadyH.nil
      go_simp
      refine hK.out _ _ ?hS1 (fun hHeld => ?_)
      case hS1 => (try dsimp only); (go_keep)
      clear hK K
      try simp only [Act.put, List.getElem_toArray, List.getElem_cons_succ, List.getElem_cons_zero, List.setIfInBounds_toArray, List.set_cons_zero, List.set_cons_succ]
      refine wpAnyH_done (by kernel_rfl) ?_ _
      go_wp2_with fail
      go_ret
      rw [HP.out]
      exact ⟨_, v2, v3, rfl, by unfold rPr nAt; simp only [HX.out.1, HX.out.2]; exact HS3.out.drew.put (.cells #[.int .i64 x0, .int .i64 x1] 82) hg2 (fun z hz => (HS2.out.own.pr.lt z hz).1) (HS3.out.drew.own.pushPr (.cells #[.int .i64 x0, .int .i64 x1] 82) ho2 hg2 hat2) 6 _ rfl, by have hz2 := hg2.size; simp only [World.size_alloc, World.size_drew] at hz2; simp; omega⟩
    exact AllReadyH.nil
  have HF3 := hide (show (numsR line (ByteArray.mk #[119, 105, 116, 104]) 2).2 = false by rw [hq])
  clear hq hon
  go_wp2_with fail
  refine (HW.out (ByteArray.mk #[116, 121, 112, 101]) 7 w3 (by omega) (by omega) HS3.out.below).mono ?_
  rintro e w4 ⟨⟨nv, rfl, hon⟩, hb4⟩
  have HS4 := hide (HS3.out.call hb4)
  have z4 := hb4.size
  clear hb4 kR yR fR
  have kR := HS4.out.rq.cell
  have yR := HS4.out.rq.lt
  have fR := HS4.out.rq.frozen
  unfold rdCells at kR
  obtain ⟨⟨qs, qb⟩, hq⟩ : ∃ q, numsR line (ByteArray.mk #[116, 121, 112, 101]) 7 = q := ⟨_, rfl⟩
  rw [hq] at hon ⊢
  cases qb
  case true =>
    have HP := hide (putL_4 (r := r) (line := line) (by rw [hq]))
    rw [hq] at HP
    have hql : qs.length = 7 := by have := numsR_len (line := line) (by rw [hq]); rw [hq] at this; exact this
    have HON := hide hon
    obtain ⟨An, cn, rfl, sn⟩ := Own.slk' encInt_len hql hon
    obtain ⟨bn, on, rfl, hbl, hbn, hc⟩ := sn.ints (by omega)
    have HSN := hide sn
    have ncc := sn.cap
    have ncm := sn.max
    have c0 := hc 0 (by omega)
    have c1 := hc 1 (by omega)
    have c2 := hc 2 (by omega)
    have c3 := hc 3 (by omega)
    have c4 := hc 4 (by omega)
    have c5 := hc 5 (by omega)
    have c6 := hc 6 (by omega)
    simp only [Nat.add_zero] at c0
    have hne : w0.heap.size ≠ bn := by have := HS3.out.lt; omega
    have zbn : bn < w4.heap.size := hbn
    obtain ⟨x0, hx0⟩ : ∃ x, qs.getD 0 0 = x := ⟨_, rfl⟩
    rw [hx0] at c0
    obtain ⟨x1, hx1⟩ : ∃ x, qs.getD 1 0 = x := ⟨_, rfl⟩
    rw [hx1] at c1
    obtain ⟨x2, hx2⟩ : ∃ x, qs.getD 2 0 = x := ⟨_, rfl⟩
    rw [hx2] at c2
    obtain ⟨x3, hx3⟩ : ∃ x, qs.getD 3 0 = x := ⟨_, rfl⟩
    rw [hx3] at c3
    obtain ⟨x4, hx4⟩ : ∃ x, qs.getD 4 0 = x := ⟨_, rfl⟩
    rw [hx4] at c4
    obtain ⟨x5, hx5⟩ : ∃ x, qs.getD 5 0 = x := ⟨_, rfl⟩
    rw [hx5] at c5
    obtain ⟨x6, hx6⟩ : ∃ x, qs.getD 6 0 = x := ⟨_, rfl⟩
    rw [hx6] at c6
    have HX := hide (show qs.getD 0 0 = x0 ∧ qs.getD 1 0 = x1 ∧ qs.getD 2 0 = x2 ∧ qs.getD 3 0 = x3 ∧ qs.getD 4 0 = x4 ∧ qs.getD 5 0 = x5 ∧ qs.getD 6 0 = x6 from ⟨hx0, hx1, hx2, hx3, hx4, hx5, hx6⟩)
    clear hc hon sn hx0 hx1 hx2 hx3 hx4 hx5 hx6
    clear hq HW
    go_wp2_with fail
    refine wp_region_held_drew (S := (fun w' => w'.cell? ⟨bn, on, none⟩ = some (.int .i64 x0) ∧ w'.cell? ⟨bn, on + 1, none⟩ = some (.int .i64 x1) ∧ w'.cell? ⟨bn, on + 2, none⟩ = some (.int .i64 x2) ∧ w'.cell? ⟨bn, on + 3, none⟩ = some (.int .i64 x3) ∧ w'.cell? ⟨bn, on + 4, none⟩ = some (.int .i64 x4) ∧ w'.cell? ⟨bn, on + 5, none⟩ = some (.int .i64 x5) ∧ w'.cell? ⟨bn, on + 6, none⟩ = some (.int .i64 x6))) (by kernel_rfl) ?hS0 (fun hHeld => ?_)
    case hS0 => (exact ⟨c0, c1, c2, c3, c4, c5, c6⟩)
    refine wpAnyH_take (i := 0) (v := ?_) rfl (by kernel_rfl) (by kernel_rfl) (by kernel_rfl) (fun _ _ _ h => h) (Or.inl ⟨by rfl, ?_⟩) (by assumption) ?_
    rotate_left 1
    · intro w hSw
      try dsimp only at hSw
      go_simp
      try with_reducible rfl
    simp only [Act.put, List.getElem_toArray, List.getElem_cons_succ, List.getElem_cons_zero, List.setIfInBounds_toArray, List.set_cons_zero, List.set_cons_succ]
    refine wpAnyH_take (i := 1) (v := ?_) rfl (by kernel_rfl) (by kernel_rfl) (by kernel_rfl) (fun _ _ _ h => h) (Or.inl ⟨by rfl, ?_⟩) (by assumption) ?_
    rotate_left 1
    · intro w hSw
      try dsimp only at hSw
      go_simp
      try with_reducible rfl
    simp only [Act.put, List.getElem_toArray, List.getElem_cons_succ, List.getElem_cons_zero, List.setIfInBounds_toArray, List.set_cons_zero, List.set_cons_succ]
    refine wpAnyH_take (i := 2) (v := ?_) rfl (by kernel_rfl) (by kernel_rfl) (by kernel_rfl) (fun _ _ _ h => h) (Or.inl ⟨by rfl, ?_⟩) (by assumption) ?_
    rotate_left 1
    · intro w hSw
      try dsimp only at hSw
      go_simp
      try with_reducible rfl
    simp only [Act.put, List.getElem_toArray, List.getElem_cons_succ, List.getElem_cons_zero, List.setIfInBounds_toArray, List.set_cons_zero, List.set_cons_succ]
    refine wpAnyH_take (i := 3) (v := ?_) rfl (by kernel_rfl) (by kernel_rfl) (by kernel_rfl) (fun _ _ _ h => h) (Or.inl ⟨by rfl, ?_⟩) (by assumption) ?_
    rotate_left 1
    · intro w hSw
      try dsimp only at hSw
      go_simp
      try with_reducible rfl
    simp only [Act.put, List.getElem_toArray, List.getElem_cons_succ, List.getElem_cons_zero, List.setIfInBounds_toArray, List.set_cons_zero, List.set_cons_succ]
    refine wpAnyH_take (i := 5) (v := ?_) rfl (by kernel_rfl) (by kernel_rfl) (by kernel_rfl) (fun _ _ _ h => h) (Or.inl ⟨by rfl, ?_⟩) (by assumption) ?_
    rotate_left 1
    · intro w hSw
      try dsimp only at hSw
      go_simp
      try with_reducible rfl
    simp only [Act.put, List.getElem_toArray, List.getElem_cons_succ, List.getElem_cons_zero, List.setIfInBounds_toArray, List.set_cons_zero, List.set_cons_succ]
    refine wpAnyH_take (i := 6) (v := ?_) rfl (by kernel_rfl) (by kernel_rfl) (by kernel_rfl) (fun _ _ _ h => h) (Or.inl ⟨by rfl, ?_⟩) (by assumption) ?_
    rotate_left 1
    · intro w hSw
      try dsimp only at hSw
      go_simp
      try with_reducible rfl
    simp only [Act.put, List.getElem_toArray, List.getElem_cons_succ, List.getElem_cons_zero, List.setIfInBounds_toArray, List.set_cons_zero, List.set_cons_succ]
    refine wpAnyH_take (i := 7) (v := ?_) rfl (by kernel_rfl) (by kernel_rfl) (by kernel_rfl) (fun _ _ _ h => h) (Or.inl ⟨by rfl, ?_⟩) (by assumption) ?_
    rotate_left 1
    · intro w hSw
      try dsimp only at hSw
      go_simp
      try with_reducible rfl
    simp only [Act.put, List.getElem_toArray, List.getElem_cons_succ, List.getElem_cons_zero, List.setIfInBounds_toArray, List.set_cons_zero, List.set_cons_succ]
    refine wpAnyH_take (i := 8) (v := ?_) rfl (by kernel_rfl) (by kernel_rfl) (by kernel_rfl) (fun _ _ _ h => h) (Or.inl ⟨by rfl, ?_⟩) (by assumption) ?_
    rotate_left 1
    · intro w hSw
      try dsimp only at hSw
      go_simp
      try with_reducible rfl
    simp only [Act.put, List.getElem_toArray, List.getElem_cons_succ, List.getElem_cons_zero, List.setIfInBounds_toArray, List.set_cons_zero, List.set_cons_succ]
    refine wpAnyH_take (i := 9) (v := ?_) rfl (by kernel_rfl) (by kernel_rfl) (by kernel_rfl) (fun _ _ _ h => h) (Or.inl ⟨by rfl, ?_⟩) (by assumption) ?_
    rotate_left 1
    · intro w hSw
      try dsimp only at hSw
      go_simp
      try with_reducible rfl
    simp only [Act.put, List.getElem_toArray, List.getElem_cons_succ, List.getElem_cons_zero, List.setIfInBounds_toArray, List.set_cons_zero, List.set_cons_succ]
    refine wpAnyH_take (i := 10) (v := ?_) rfl (by kernel_rfl) (by kernel_rfl) (by kernel_rfl) (fun _ _ _ h => h) (Or.inl ⟨by rfl, ?_⟩) (by assumption) ?_
    rotate_left 1
    · intro w hSw
      try dsimp only at hSw
      go_simp
      try with_reducible rfl
    simp only [Act.put, List.getElem_toArray, List.getElem_cons_succ, List.getElem_cons_zero, List.setIfInBounds_toArray, List.set_cons_zero, List.set_cons_succ]
    refine wpAnyH_take (i := 11) (v := ?_) rfl (by kernel_rfl) (by kernel_rfl) (by kernel_rfl) (fun _ _ _ h => h) (Or.inl ⟨by rfl, ?_⟩) (by assumption) ?_
    rotate_left 1
    · intro w hSw
      try dsimp only at hSw
      go_simp
      try with_reducible rfl
    simp only [Act.put, List.getElem_toArray, List.getElem_cons_succ, List.getElem_cons_zero, List.setIfInBounds_toArray, List.set_cons_zero, List.set_cons_succ]
    refine wpAnyH_take (i := 12) (v := ?_) rfl (by kernel_rfl) (by kernel_rfl) (by kernel_rfl) (fun _ _ _ h => h) (Or.inl ⟨by rfl, ?_⟩) (by assumption) ?_
    rotate_left 1
    · intro w hSw
      try dsimp only at hSw
      go_simp
      try with_reducible rfl
    simp only [Act.put, List.getElem_toArray, List.getElem_cons_succ, List.getElem_cons_zero, List.setIfInBounds_toArray, List.set_cons_zero, List.set_cons_succ]
    refine wpAnyH_take (i := 13) (v := ?_) rfl (by kernel_rfl) (by kernel_rfl) (by kernel_rfl) (fun _ _ _ h => h) (Or.inl ⟨by rfl, ?_⟩) (by assumption) ?_
    rotate_left 1
    · intro w hSw
      try dsimp only at hSw
      go_simp
      try with_reducible rfl
    simp only [Act.put, List.getElem_toArray, List.getElem_cons_succ, List.getElem_cons_zero, List.setIfInBounds_toArray, List.set_cons_zero, List.set_cons_succ]
    refine wpAnyH_take (i := 14) (v := ?_) rfl (by kernel_rfl) (by kernel_rfl) (by kernel_rfl) (fun _ _ _ h => h) (Or.inl ⟨by rfl, ?_⟩) (by assumption) ?_
    rotate_left 1
    · intro w hSw
      try dsimp only at hSw
      go_simp
      try with_reducible rfl
    simp only [Act.put, List.getElem_toArray, List.getElem_cons_succ, List.getElem_cons_zero, List.setIfInBounds_toArray, List.set_cons_zero, List.set_cons_succ]
    refine wpAnyH_take (i := 15) (v := ?_) rfl (by kernel_rfl) (by kernel_rfl) (by kernel_rfl) (fun _ _ _ h => h) (Or.inl ⟨by rfl, ?_⟩) (by assumption) ?_
    rotate_left 1
    · intro w hSw
      try dsimp only at hSw
      go_simp
      try with_reducible rfl
    simp only [Act.put, List.getElem_toArray, List.getElem_cons_succ, List.getElem_cons_zero, List.setIfInBounds_toArray, List.set_cons_zero, List.set_cons_succ]
    refine wpAnyH_take (i := 16) (v := ?_) rfl (by kernel_rfl) (by kernel_rfl) (by kernel_rfl) (fun _ _ _ h => h) (Or.inl ⟨by rfl, ?_⟩) (by assumption) ?_
    rotate_left 1
    · intro w hSw
      try dsimp only at hSw
      go_simp
      try with_reducible rfl
    simp only [Act.put, List.getElem_toArray, List.getElem_cons_succ, List.getElem_cons_zero, List.setIfInBounds_toArray, List.set_cons_zero, List.set_cons_succ]
    refine wpAnyH_take (i := 17) (v := ?_) rfl (by kernel_rfl) (by kernel_rfl) (by kernel_rfl) (fun _ _ _ h => h) (Or.inl ⟨by rfl, ?_⟩) (by assumption) ?_
    rotate_left 1
    · intro w hSw
      try dsimp only at hSw
      go_simp
      try with_reducible rfl
    simp only [Act.put, List.getElem_toArray, List.getElem_cons_succ, List.getElem_cons_zero, List.setIfInBounds_toArray, List.set_cons_zero, List.set_cons_succ]
    refine wpAnyH_take (i := 18) (v := ?_) rfl (by kernel_rfl) (by kernel_rfl) (by kernel_rfl) (fun _ _ _ h => h) (Or.inl ⟨by rfl, ?_⟩) (by assumption) ?_
    rotate_left 1
    · intro w hSw
      try dsimp only at hSw
      go_simp
      try with_reducible rfl
    simp only [Act.put, List.getElem_toArray, List.getElem_cons_succ, List.getElem_cons_zero, List.setIfInBounds_toArray, List.set_cons_zero, List.set_cons_succ]
    refine wpAnyH_take (i := 19) (v := ?_) rfl (by kernel_rfl) (by kernel_rfl) (by kernel_rfl) (fun _ _ _ h => h) (Or.inl ⟨by rfl, ?_⟩) (by assumption) ?_
    rotate_left 1
    · intro w hSw
      try dsimp only at hSw
      go_simp
      try with_reducible rfl
    simp only [Act.put, List.getElem_toArray, List.getElem_cons_succ, List.getElem_cons_zero, List.setIfInBounds_toArray, List.set_cons_zero, List.set_cons_succ]
    refine wpAnyH_take (i := 20) (v := ?_) rfl (by kernel_rfl) (by kernel_rfl) (by kernel_rfl) (fun _ _ _ h => h) (Or.inl ⟨by rfl, ?_⟩) (by assumption) ?_
    rotate_left 1
    · intro w hSw
      try dsimp only at hSw
      go_simp
      try with_reducible rfl
    simp only [Act.put, List.getElem_toArray, List.getElem_cons_succ, List.getElem_cons_zero, List.setIfInBounds_toArray, List.set_cons_zero, List.set_cons_succ]
    refine wpAnyH_take (i := 21) (v := ?_) rfl (by kernel_rfl) (by kernel_rfl) (by kernel_rfl) (fun _ _ _ h => h) (Or.inl ⟨by rfl, ?_⟩) (by assumption) ?_
    rotate_left 1
    · intro w hSw
      try dsimp only at hSw
      go_simp
      try with_reducible rfl
    simp only [Act.put, List.getElem_toArray, List.getElem_cons_succ, List.getElem_cons_zero, List.setIfInBounds_toArray, List.set_cons_zero, List.set_cons_succ]
    refine wpAnyH_take (i := 22) (v := ?_) rfl (by kernel_rfl) (by kernel_rfl) (by kernel_rfl) (fun _ _ _ h => h) (Or.inl ⟨by rfl, ?_⟩) (by assumption) ?_
    rotate_left 1
    · intro w hSw
      try dsimp only at hSw
      go_simp
      try with_reducible rfl
    simp only [Act.put, List.getElem_toArray, List.getElem_cons_succ, List.getElem_cons_zero, List.setIfInBounds_toArray, List.set_cons_zero, List.set_cons_succ]
    refine wpAnyH_take (i := 23) (v := ?_) rfl (by kernel_rfl) (by kernel_rfl) (by kernel_rfl) (fun _ _ _ h => h) (Or.inl ⟨by rfl, ?_⟩) (by assumption) ?_
    rotate_left 1
    · intro w hSw
      try dsimp only at hSw
      go_simp
      try with_reducible rfl
    simp only [Act.put, List.getElem_toArray, List.getElem_cons_succ, List.getElem_cons_zero, List.setIfInBounds_toArray, List.set_cons_zero, List.set_cons_succ]
    refine wpAnyH_take (i := 24) (v := ?_) rfl (by kernel_rfl) (by kernel_rfl) (by kernel_rfl) (fun _ _ _ h => h) (Or.inl ⟨by rfl, ?_⟩) (by assumption) ?_
    rotate_left 1
    · intro w hSw
      try dsimp only at hSw
      go_simp
      try with_reducible rfl
    simp only [Act.put, List.getElem_toArray, List.getElem_cons_succ, List.getElem_cons_zero, List.setIfInBounds_toArray, List.set_cons_zero, List.set_cons_succ]
    refine wpAnyH_take (i := 25) (v := ?_) rfl (by kernel_rfl) (by kernel_rfl) (by kernel_rfl) (fun _ _ _ h => h) (Or.inl ⟨by rfl, ?_⟩) (by assumption) ?_
    rotate_left 1
    · intro w hSw
      try dsimp only at hSw
      go_simp
      try with_reducible rfl
    simp only [Act.put, List.getElem_toArray, List.getElem_cons_succ, List.getElem_cons_zero, List.setIfInBounds_toArray, List.set_cons_zero, List.set_cons_succ]
    refine wpAnyH_take (i := 26) (v := ?_) rfl (by kernel_rfl) (by kernel_rfl) (by kernel_rfl) (fun _ _ _ h => h) (Or.inl ⟨by rfl, ?_⟩) (by assumption) ?_
    rotate_left 1
    · intro w hSw
      try dsimp only at hSw
      go_simp
      try with_reducible rfl
    simp only [Act.put, List.getElem_toArray, List.getElem_cons_succ, List.getElem_cons_zero, List.setIfInBounds_toArray, List.set_cons_zero, List.set_cons_succ]
    refine wpAnyH_ready (rs := [4, 27]) (by kernel_rfl) (by simp) ?_
    refine AllReadyH.cons rfl (fun K hK => ?_) ?_
    · skip
      go_simp
      refine hK.out _ _ ?hS1 (fun hHeld => ?_)
      case hS1 => (try dsimp only); (go_keep)
      clear hK K
      try simp only [Act.put, List.getElem_toArray, List.getElem_cons_succ, List.getElem_cons_zero, List.setIfInBounds_toArray, List.set_cons_zero, List.set_cons_succ]
      refine wpAnyH_ready (rs := [27]) (by kernel_rfl) (by simp) ?_
      refine AllReadyH.cons rfl (fun K hK => ?_) AllReadyH.nil
      go_simp
      refine hK.out _ _ ?hS1 (fun hHeld => ?_)
      case hS1 => (try dsimp only); (go_keep)
      clear hK K
      try simp only [Act.put, List.getElem_toArray, List.getElem_cons_succ, List.getElem_cons_zero, List.setIfInBounds_toArray, List.set_cons_zero, List.set_cons_succ]
      refine wpAnyH_ready (rs := [28]) (by kernel_rfl) (by simp) ?_
      refine AllReadyH.cons rfl (fun K hK => ?_) AllReadyH.nil
      refine step_app rfl (.tmp 94) (.tmp 117) rfl (by simp [Act.eval]) (by simp [Act.eval]) (app1K encTy_len encTy_one Tryd.underlying38 tyInfo rfl (by omega) (by omega) (HS4.out.drew.own.ty) (HS4.out.drew.lt) (by omega) ⟨x0, x1, x2, x3, x4, x5, x6⟩ w4.heap.size rfl _ rfl) ?_
      intro v' wz ho2 hg2 hat2
      obtain ⟨m5, hm5⟩ : ∃ m5, (r.types ++ [(⟨x0, x1, x2, x3, x4, x5, x6⟩ : Ty)]).length = m5 := ⟨_, rfl⟩
      obtain ⟨A5, c5, rfl, s5'⟩ := Own.slk' encTy_len hm5 ho2
      clear s5'
      have PZ := (HS4.out.drew.rq.alloc (.cells #[.int .i64 x0, .int .i64 x1, .int .i64 x2, .int .i64 x3, .int .i64 x4, .int .i64 x5, .int .i64 x6] 84)).grown hg2 (fun e => by have := (HS3.out.own.ty.lt _ e.symm).1; omega)
      have kZ := PZ.cell
      have fZ := PZ.frozen
      have yZ := PZ.lt
      unfold rdCells at kZ
      have HN2 := ((HSN.out.drew.alloc (by simp) (.cells #[.int .i64 x0, .int .i64 x1, .int .i64 x2, .int .i64 x3, .int .i64 x4, .int .i64 x5, .int .i64 x6] 84)).grown hg2 (by first | (simp; done) | (simp; omega)) (fun z hz => .inl (HS3.out.own.ty.lt z hz).2)).intsAt
      have d0 := HN2 0 (by omega)
      have d1 := HN2 1 (by omega)
      have d2 := HN2 2 (by omega)
      have d3 := HN2 3 (by omega)
      have d4 := HN2 4 (by omega)
      have d5 := HN2 5 (by omega)
      have d6 := HN2 6 (by omega)
      simp only [Nat.add_zero] at d0
      simp only [HX.out.1, HX.out.2.1, HX.out.2.2.1, HX.out.2.2.2.1, HX.out.2.2.2.2.1, HX.out.2.2.2.2.2.1, HX.out.2.2.2.2.2.2] at d0 d1 d2 d3 d4 d5 d6
      clear HN2
      refine hK.out _ _ ⟨d0, d1, d2, d3, d4, d5, d6⟩ (fun hHeld => ?_)
      clear hK K
      try simp only [Act.put, List.getElem_toArray, List.getElem_cons_succ, List.getElem_cons_zero, List.setIfInBounds_toArray, List.set_cons_zero, List.set_cons_succ]
      refine wpAnyH_take (i := 29) (v := ?_) rfl (by kernel_rfl) (by kernel_rfl) (by kernel_rfl) (fun _ _ _ h => h) (Or.inl ⟨by rfl, ?_⟩) (by assumption) ?_
      rotate_left 1
      · intro w hSw
        try dsimp only at hSw
        go_simp
        try with_reducible rfl
      simp only [Act.put, List.getElem_toArray, List.getElem_cons_succ, List.getElem_cons_zero, List.setIfInBounds_toArray, List.set_cons_zero, List.set_cons_succ]
      refine wpAnyH_take (i := 30) (v := ?_) rfl (by kernel_rfl) (by kernel_rfl) (by kernel_rfl) (fun _ _ _ h => h) (Or.inl ⟨by rfl, ?_⟩) (by assumption) ?_
      rotate_left 1
      · intro w hSw
        try dsimp only at hSw
        go_simp
        try with_reducible rfl
      simp only [Act.put, List.getElem_toArray, List.getElem_cons_succ, List.getElem_cons_zero, List.setIfInBounds_toArray, List.set_cons_zero, List.set_cons_succ]
      refine wpAnyH_ready (rs := [31]) (by kernel_rfl) (by simp) ?_
      refine AllReadyH.cons rfl (fun K hK => ?_) AllReadyH.nil
      go_simp
      refine hK.out _ _ ?hS1 (fun hHeld => ?_)
      case hS1 => (try dsimp only); (go_keep)
      clear hK K
      try simp only [Act.put, List.getElem_toArray, List.getElem_cons_succ, List.getElem_cons_zero, List.setIfInBounds_toArray, List.set_cons_zero, List.set_cons_succ]
      refine wpAnyH_done (by kernel_rfl) ?_ _
      go_wp2_with fail
      go_ret
      rw [HP.out]
      exact ⟨v1, _, v3, rfl, by unfold rTy nAt; simp only [HX.out.1, HX.out.2.1, HX.out.2.2.1, HX.out.2.2.2.1, HX.out.2.2.2.2.1, HX.out.2.2.2.2.2.1, HX.out.2.2.2.2.2.2]; exact HS4.out.drew.put (.cells #[.int .i64 x0, .int .i64 x1, .int .i64 x2, .int .i64 x3, .int .i64 x4, .int .i64 x5, .int .i64 x6] 84) hg2 (fun z hz => (HS3.out.own.ty.lt z hz).1) (HS4.out.drew.own.pushTy (.cells #[.int .i64 x0, .int .i64 x1, .int .i64 x2, .int .i64 x3, .int .i64 x4, .int .i64 x5, .int .i64 x6] 84) ho2 hg2 hat2) 7 _ rfl, by have hz2 := hg2.size; simp only [World.size_alloc, World.size_drew] at hz2; simp; omega⟩
    refine AllReadyH.cons rfl (fun K hK => ?_) ?_
    · skip
      go_simp
      refine hK.out _ _ ?hS1 (fun hHeld => ?_)
      case hS1 => (try dsimp only); (go_keep)
      clear hK K
      try simp only [Act.put, List.getElem_toArray, List.getElem_cons_succ, List.getElem_cons_zero, List.setIfInBounds_toArray, List.set_cons_zero, List.set_cons_succ]
      refine wpAnyH_ready (rs := [4]) (by kernel_rfl) (by simp) ?_
      refine AllReadyH.cons rfl (fun K hK => ?_) AllReadyH.nil
      go_simp
      refine hK.out _ _ ?hS1 (fun hHeld => ?_)
      case hS1 => (try dsimp only); (go_keep)
      clear hK K
      try simp only [Act.put, List.getElem_toArray, List.getElem_cons_succ, List.getElem_cons_zero, List.setIfInBounds_toArray, List.set_cons_zero, List.set_cons_succ]
      refine wpAnyH_ready (rs := [28]) (by kernel_rfl) (by simp) ?_
      refine AllReadyH.cons rfl (fun K hK => ?_) AllReadyH.nil
      refine step_app rfl (.tmp 94) (.tmp 117) rfl (by simp [Act.eval]) (by simp [Act.eval]) (app1K encTy_len encTy_one Tryd.underlying38 tyInfo rfl (by omega) (by omega) (HS4.out.drew.own.ty) (HS4.out.drew.lt) (by omega) ⟨x0, x1, x2, x3, x4, x5, x6⟩ w4.heap.size rfl _ rfl) ?_
      intro v' wz ho2 hg2 hat2
      obtain ⟨m5, hm5⟩ : ∃ m5, (r.types ++ [(⟨x0, x1, x2, x3, x4, x5, x6⟩ : Ty)]).length = m5 := ⟨_, rfl⟩
      obtain ⟨A5, c5, rfl, s5'⟩ := Own.slk' encTy_len hm5 ho2
      clear s5'
      have PZ := (HS4.out.drew.rq.alloc (.cells #[.int .i64 x0, .int .i64 x1, .int .i64 x2, .int .i64 x3, .int .i64 x4, .int .i64 x5, .int .i64 x6] 84)).grown hg2 (fun e => by have := (HS3.out.own.ty.lt _ e.symm).1; omega)
      have kZ := PZ.cell
      have fZ := PZ.frozen
      have yZ := PZ.lt
      unfold rdCells at kZ
      have HN2 := ((HSN.out.drew.alloc (by simp) (.cells #[.int .i64 x0, .int .i64 x1, .int .i64 x2, .int .i64 x3, .int .i64 x4, .int .i64 x5, .int .i64 x6] 84)).grown hg2 (by first | (simp; done) | (simp; omega)) (fun z hz => .inl (HS3.out.own.ty.lt z hz).2)).intsAt
      have d0 := HN2 0 (by omega)
      have d1 := HN2 1 (by omega)
      have d2 := HN2 2 (by omega)
      have d3 := HN2 3 (by omega)
      have d4 := HN2 4 (by omega)
      have d5 := HN2 5 (by omega)
      have d6 := HN2 6 (by omega)
      simp only [Nat.add_zero] at d0
      simp only [HX.out.1, HX.out.2.1, HX.out.2.2.1, HX.out.2.2.2.1, HX.out.2.2.2.2.1, HX.out.2.2.2.2.2.1, HX.out.2.2.2.2.2.2] at d0 d1 d2 d3 d4 d5 d6
      clear HN2
      refine hK.out _ _ ⟨d0, d1, d2, d3, d4, d5, d6⟩ (fun hHeld => ?_)
      clear hK K
      try simp only [Act.put, List.getElem_toArray, List.getElem_cons_succ, List.getElem_cons_zero, List.setIfInBounds_toArray, List.set_cons_zero, List.set_cons_succ]
      refine wpAnyH_take (i := 29) (v := ?_) rfl (by kernel_rfl) (by kernel_rfl) (by kernel_rfl) (fun _ _ _ h => h) (Or.inl ⟨by rfl, ?_⟩) (by assumption) ?_
      rotate_left 1
      · intro w hSw
        try dsimp only at hSw
        go_simp
        try with_reducible rfl
      simp only [Act.put, List.getElem_toArray, List.getElem_cons_succ, List.getElem_cons_zero, List.setIfInBounds_toArray, List.set_cons_zero, List.set_cons_succ]
      refine wpAnyH_take (i := 30) (v := ?_) rfl (by kernel_rfl) (by kernel_rfl) (by kernel_rfl) (fun _ _ _ h => h) (Or.inl ⟨by rfl, ?_⟩) (by assumption) ?_
      rotate_left 1
      · intro w hSw
        try dsimp only at hSw
        go_simp
        try with_reducible rfl
      simp only [Act.put, List.getElem_toArray, List.getElem_cons_succ, List.getElem_cons_zero, List.setIfInBounds_toArray, List.set_cons_zero, List.set_cons_succ]
      refine wpAnyH_ready (rs := [31]) (by kernel_rfl) (by simp) ?_
      refine AllReadyH.cons rfl (fun K hK => ?_) AllReadyH.nil
      go_simp
      refine hK.out _ _ ?hS1 (fun hHeld => ?_)
      case hS1 => (try dsimp only); (go_keep)
      clear hK K
      try simp only [Act.put, List.getElem_toArray, List.getElem_cons_succ, List.getElem_cons_zero, List.setIfInBounds_toArray, List.set_cons_zero, List.set_cons_succ]
      refine wpAnyH_done (by kernel_rfl) ?_ _
      go_wp2_with fail
      go_ret
      rw [HP.out]
      exact ⟨v1, _, v3, rfl, by unfold rTy nAt; simp only [HX.out.1, HX.out.2.1, HX.out.2.2.1, HX.out.2.2.2.1, HX.out.2.2.2.2.1, HX.out.2.2.2.2.2.1, HX.out.2.2.2.2.2.2]; exact HS4.out.drew.put (.cells #[.int .i64 x0, .int .i64 x1, .int .i64 x2, .int .i64 x3, .int .i64 x4, .int .i64 x5, .int .i64 x6] 84) hg2 (fun z hz => (HS3.out.own.ty.lt z hz).1) (HS4.out.drew.own.pushTy (.cells #[.int .i64 x0, .int .i64 x1, .int .i64 x2, .int .i64 x3, .int .i64 x4, .int .i64 x5, .int .i64 x6] 84) ho2 hg2 hat2) 7 _ rfl, by have hz2 := hg2.size; simp only [World.size_alloc, World.size_drew] at hz2; simp; omega⟩
    exact AllReadyH.nil
  have HF4 := hide (show (numsR line (ByteArray.mk #[116, 121, 112, 101]) 7).2 = false by rw [hq])
  clear hq hon
  go_wp2_with fail
  refine (HW.out (ByteArray.mk #[109, 97, 115, 116, 101, 114]) 1 w4 (by omega) (by omega) HS4.out.below).mono ?_
  rintro e w5 ⟨⟨nv, rfl, hon⟩, hb5⟩
  have HS5 := hide (HS4.out.call hb5)
  have z5 := hb5.size
  clear hb5 kR yR fR
  have kR := HS5.out.rq.cell
  have yR := HS5.out.rq.lt
  have fR := HS5.out.rq.frozen
  unfold rdCells at kR
  obtain ⟨⟨qs, qb⟩, hq⟩ : ∃ q, numsR line (ByteArray.mk #[109, 97, 115, 116, 101, 114]) 1 = q := ⟨_, rfl⟩
  rw [hq] at hon ⊢
  cases qb
  case true =>
    have HP := hide (putL_5 (r := r) (line := line) (by rw [hq]))
    rw [hq] at HP
    have hql : qs.length = 1 := by have := numsR_len (line := line) (by rw [hq]); rw [hq] at this; exact this
    have HON := hide hon
    obtain ⟨An, cn, rfl, sn⟩ := Own.slk' encInt_len hql hon
    obtain ⟨bn, on, rfl, hbl, hbn, hc⟩ := sn.ints (by omega)
    have HSN := hide sn
    have ncc := sn.cap
    have ncm := sn.max
    have c0 := hc 0 (by omega)
    simp only [Nat.add_zero] at c0
    have hne : w0.heap.size ≠ bn := by have := HS4.out.lt; omega
    have zbn : bn < w5.heap.size := hbn
    obtain ⟨x0, hx0⟩ : ∃ x, qs.getD 0 0 = x := ⟨_, rfl⟩
    rw [hx0] at c0
    have HX := hide hx0
    clear hc hon sn hx0
    clear hq HW
    go_wp2_with fail
    go_ret
    rw [HP.out]
    exact ⟨v1, v2, v3, rfl, by unfold rMas nAt; simp only [HX.out]; exact HS5.out.set 8 (.int .i64 x0) rfl rfl rfl rfl, by simp; omega⟩
  have HF5 := hide (show (numsR line (ByteArray.mk #[109, 97, 115, 116, 101, 114]) 1).2 = false by rw [hq])
  clear hq hon
  go_wp2_with fail
  refine (HW.out (ByteArray.mk #[105, 116, 101, 109]) 7 w5 (by omega) (by omega) HS5.out.below).mono ?_
  rintro e w6 ⟨⟨nv, rfl, hon⟩, hb6⟩
  have HS6 := hide (HS5.out.call hb6)
  have z6 := hb6.size
  clear hb6 kR yR fR
  have kR := HS6.out.rq.cell
  have yR := HS6.out.rq.lt
  have fR := HS6.out.rq.frozen
  unfold rdCells at kR
  obtain ⟨⟨qs, qb⟩, hq⟩ : ∃ q, numsR line (ByteArray.mk #[105, 116, 101, 109]) 7 = q := ⟨_, rfl⟩
  rw [hq] at hon ⊢
  cases qb
  case true =>
    have HP := hide (putL_6 (r := r) (line := line) (by rw [hq]))
    rw [hq] at HP
    have hql : qs.length = 7 := by have := numsR_len (line := line) (by rw [hq]); rw [hq] at this; exact this
    have HON := hide hon
    obtain ⟨An, cn, rfl, sn⟩ := Own.slk' encInt_len hql hon
    obtain ⟨bn, on, rfl, hbl, hbn, hc⟩ := sn.ints (by omega)
    have HSN := hide sn
    have ncc := sn.cap
    have ncm := sn.max
    have c0 := hc 0 (by omega)
    have c1 := hc 1 (by omega)
    have c2 := hc 2 (by omega)
    have c3 := hc 3 (by omega)
    have c4 := hc 4 (by omega)
    have c5 := hc 5 (by omega)
    have c6 := hc 6 (by omega)
    simp only [Nat.add_zero] at c0
    have hne : w0.heap.size ≠ bn := by have := HS5.out.lt; omega
    have zbn : bn < w6.heap.size := hbn
    obtain ⟨x0, hx0⟩ : ∃ x, qs.getD 0 0 = x := ⟨_, rfl⟩
    rw [hx0] at c0
    obtain ⟨x1, hx1⟩ : ∃ x, qs.getD 1 0 = x := ⟨_, rfl⟩
    rw [hx1] at c1
    obtain ⟨x2, hx2⟩ : ∃ x, qs.getD 2 0 = x := ⟨_, rfl⟩
    rw [hx2] at c2
    obtain ⟨x3, hx3⟩ : ∃ x, qs.getD 3 0 = x := ⟨_, rfl⟩
    rw [hx3] at c3
    obtain ⟨x4, hx4⟩ : ∃ x, qs.getD 4 0 = x := ⟨_, rfl⟩
    rw [hx4] at c4
    obtain ⟨x5, hx5⟩ : ∃ x, qs.getD 5 0 = x := ⟨_, rfl⟩
    rw [hx5] at c5
    obtain ⟨x6, hx6⟩ : ∃ x, qs.getD 6 0 = x := ⟨_, rfl⟩
    rw [hx6] at c6
    have HX := hide (show qs.getD 0 0 = x0 ∧ qs.getD 1 0 = x1 ∧ qs.getD 2 0 = x2 ∧ qs.getD 3 0 = x3 ∧ qs.getD 4 0 = x4 ∧ qs.getD 5 0 = x5 ∧ qs.getD 6 0 = x6 from ⟨hx0, hx1, hx2, hx3, hx4, hx5, hx6⟩)
    clear hc hon sn hx0 hx1 hx2 hx3 hx4 hx5 hx6
    clear hq HW
    go_wp2_with fail
    refine wp_region_held_drew (S := (fun w' => w'.cell? ⟨bn, on, none⟩ = some (.int .i64 x0) ∧ w'.cell? ⟨bn, on + 1, none⟩ = some (.int .i64 x1) ∧ w'.cell? ⟨bn, on + 2, none⟩ = some (.int .i64 x2) ∧ w'.cell? ⟨bn, on + 3, none⟩ = some (.int .i64 x3) ∧ w'.cell? ⟨bn, on + 4, none⟩ = some (.int .i64 x4) ∧ w'.cell? ⟨bn, on + 5, none⟩ = some (.int .i64 x5) ∧ w'.cell? ⟨bn, on + 6, none⟩ = some (.int .i64 x6))) (by kernel_rfl) ?hS0 (fun hHeld => ?_)
    case hS0 => (exact ⟨c0, c1, c2, c3, c4, c5, c6⟩)
    refine wpAnyH_take (i := 0) (v := ?_) rfl (by kernel_rfl) (by kernel_rfl) (by kernel_rfl) (fun _ _ _ h => h) (Or.inl ⟨by rfl, ?_⟩) (by assumption) ?_
    rotate_left 1
    · intro w hSw
      try dsimp only at hSw
      go_simp
      try with_reducible rfl
    simp only [Act.put, List.getElem_toArray, List.getElem_cons_succ, List.getElem_cons_zero, List.setIfInBounds_toArray, List.set_cons_zero, List.set_cons_succ]
    refine wpAnyH_take (i := 1) (v := ?_) rfl (by kernel_rfl) (by kernel_rfl) (by kernel_rfl) (fun _ _ _ h => h) (Or.inl ⟨by rfl, ?_⟩) (by assumption) ?_
    rotate_left 1
    · intro w hSw
      try dsimp only at hSw
      go_simp
      try with_reducible rfl
    simp only [Act.put, List.getElem_toArray, List.getElem_cons_succ, List.getElem_cons_zero, List.setIfInBounds_toArray, List.set_cons_zero, List.set_cons_succ]
    refine wpAnyH_take (i := 2) (v := ?_) rfl (by kernel_rfl) (by kernel_rfl) (by kernel_rfl) (fun _ _ _ h => h) (Or.inl ⟨by rfl, ?_⟩) (by assumption) ?_
    rotate_left 1
    · intro w hSw
      try dsimp only at hSw
      go_simp
      try with_reducible rfl
    simp only [Act.put, List.getElem_toArray, List.getElem_cons_succ, List.getElem_cons_zero, List.setIfInBounds_toArray, List.set_cons_zero, List.set_cons_succ]
    refine wpAnyH_take (i := 3) (v := ?_) rfl (by kernel_rfl) (by kernel_rfl) (by kernel_rfl) (fun _ _ _ h => h) (Or.inl ⟨by rfl, ?_⟩) (by assumption) ?_
    rotate_left 1
    · intro w hSw
      try dsimp only at hSw
      go_simp
      try with_reducible rfl
    simp only [Act.put, List.getElem_toArray, List.getElem_cons_succ, List.getElem_cons_zero, List.setIfInBounds_toArray, List.set_cons_zero, List.set_cons_succ]
    refine wpAnyH_take (i := 5) (v := ?_) rfl (by kernel_rfl) (by kernel_rfl) (by kernel_rfl) (fun _ _ _ h => h) (Or.inl ⟨by rfl, ?_⟩) (by assumption) ?_
    rotate_left 1
    · intro w hSw
      try dsimp only at hSw
      go_simp
      try with_reducible rfl
    simp only [Act.put, List.getElem_toArray, List.getElem_cons_succ, List.getElem_cons_zero, List.setIfInBounds_toArray, List.set_cons_zero, List.set_cons_succ]
    refine wpAnyH_take (i := 6) (v := ?_) rfl (by kernel_rfl) (by kernel_rfl) (by kernel_rfl) (fun _ _ _ h => h) (Or.inl ⟨by rfl, ?_⟩) (by assumption) ?_
    rotate_left 1
    · intro w hSw
      try dsimp only at hSw
      go_simp
      try with_reducible rfl
    simp only [Act.put, List.getElem_toArray, List.getElem_cons_succ, List.getElem_cons_zero, List.setIfInBounds_toArray, List.set_cons_zero, List.set_cons_succ]
    refine wpAnyH_take (i := 7) (v := ?_) rfl (by kernel_rfl) (by kernel_rfl) (by kernel_rfl) (fun _ _ _ h => h) (Or.inl ⟨by rfl, ?_⟩) (by assumption) ?_
    rotate_left 1
    · intro w hSw
      try dsimp only at hSw
      go_simp
      try with_reducible rfl
    simp only [Act.put, List.getElem_toArray, List.getElem_cons_succ, List.getElem_cons_zero, List.setIfInBounds_toArray, List.set_cons_zero, List.set_cons_succ]
    refine wpAnyH_take (i := 8) (v := ?_) rfl (by kernel_rfl) (by kernel_rfl) (by kernel_rfl) (fun _ _ _ h => h) (Or.inl ⟨by rfl, ?_⟩) (by assumption) ?_
    rotate_left 1
    · intro w hSw
      try dsimp only at hSw
      go_simp
      try with_reducible rfl
    simp only [Act.put, List.getElem_toArray, List.getElem_cons_succ, List.getElem_cons_zero, List.setIfInBounds_toArray, List.set_cons_zero, List.set_cons_succ]
    refine wpAnyH_take (i := 9) (v := ?_) rfl (by kernel_rfl) (by kernel_rfl) (by kernel_rfl) (fun _ _ _ h => h) (Or.inl ⟨by rfl, ?_⟩) (by assumption) ?_
    rotate_left 1
    · intro w hSw
      try dsimp only at hSw
      go_simp
      try with_reducible rfl
    simp only [Act.put, List.getElem_toArray, List.getElem_cons_succ, List.getElem_cons_zero, List.setIfInBounds_toArray, List.set_cons_zero, List.set_cons_succ]
    refine wpAnyH_take (i := 10) (v := ?_) rfl (by kernel_rfl) (by kernel_rfl) (by kernel_rfl) (fun _ _ _ h => h) (Or.inl ⟨by rfl, ?_⟩) (by assumption) ?_
    rotate_left 1
    · intro w hSw
      try dsimp only at hSw
      go_simp
      try with_reducible rfl
    simp only [Act.put, List.getElem_toArray, List.getElem_cons_succ, List.getElem_cons_zero, List.setIfInBounds_toArray, List.set_cons_zero, List.set_cons_succ]
    refine wpAnyH_take (i := 11) (v := ?_) rfl (by kernel_rfl) (by kernel_rfl) (by kernel_rfl) (fun _ _ _ h => h) (Or.inl ⟨by rfl, ?_⟩) (by assumption) ?_
    rotate_left 1
    · intro w hSw
      try dsimp only at hSw
      go_simp
      try with_reducible rfl
    simp only [Act.put, List.getElem_toArray, List.getElem_cons_succ, List.getElem_cons_zero, List.setIfInBounds_toArray, List.set_cons_zero, List.set_cons_succ]
    refine wpAnyH_take (i := 12) (v := ?_) rfl (by kernel_rfl) (by kernel_rfl) (by kernel_rfl) (fun _ _ _ h => h) (Or.inl ⟨by rfl, ?_⟩) (by assumption) ?_
    rotate_left 1
    · intro w hSw
      try dsimp only at hSw
      go_simp
      try with_reducible rfl
    simp only [Act.put, List.getElem_toArray, List.getElem_cons_succ, List.getElem_cons_zero, List.setIfInBounds_toArray, List.set_cons_zero, List.set_cons_succ]
    refine wpAnyH_take (i := 13) (v := ?_) rfl (by kernel_rfl) (by kernel_rfl) (by kernel_rfl) (fun _ _ _ h => h) (Or.inl ⟨by rfl, ?_⟩) (by assumption) ?_
    rotate_left 1
    · intro w hSw
      try dsimp only at hSw
      go_simp
      try with_reducible rfl
    simp only [Act.put, List.getElem_toArray, List.getElem_cons_succ, List.getElem_cons_zero, List.setIfInBounds_toArray, List.set_cons_zero, List.set_cons_succ]
    refine wpAnyH_take (i := 14) (v := ?_) rfl (by kernel_rfl) (by kernel_rfl) (by kernel_rfl) (fun _ _ _ h => h) (Or.inl ⟨by rfl, ?_⟩) (by assumption) ?_
    rotate_left 1
    · intro w hSw
      try dsimp only at hSw
      go_simp
      try with_reducible rfl
    simp only [Act.put, List.getElem_toArray, List.getElem_cons_succ, List.getElem_cons_zero, List.setIfInBounds_toArray, List.set_cons_zero, List.set_cons_succ]
    refine wpAnyH_take (i := 15) (v := ?_) rfl (by kernel_rfl) (by kernel_rfl) (by kernel_rfl) (fun _ _ _ h => h) (Or.inl ⟨by rfl, ?_⟩) (by assumption) ?_
    rotate_left 1
    · intro w hSw
      try dsimp only at hSw
      go_simp
      try with_reducible rfl
    simp only [Act.put, List.getElem_toArray, List.getElem_cons_succ, List.getElem_cons_zero, List.setIfInBounds_toArray, List.set_cons_zero, List.set_cons_succ]
    refine wpAnyH_take (i := 16) (v := ?_) rfl (by kernel_rfl) (by kernel_rfl) (by kernel_rfl) (fun _ _ _ h => h) (Or.inl ⟨by rfl, ?_⟩) (by assumption) ?_
    rotate_left 1
    · intro w hSw
      try dsimp only at hSw
      go_simp
      try with_reducible rfl
    simp only [Act.put, List.getElem_toArray, List.getElem_cons_succ, List.getElem_cons_zero, List.setIfInBounds_toArray, List.set_cons_zero, List.set_cons_succ]
    refine wpAnyH_take (i := 17) (v := ?_) rfl (by kernel_rfl) (by kernel_rfl) (by kernel_rfl) (fun _ _ _ h => h) (Or.inl ⟨by rfl, ?_⟩) (by assumption) ?_
    rotate_left 1
    · intro w hSw
      try dsimp only at hSw
      go_simp
      try with_reducible rfl
    simp only [Act.put, List.getElem_toArray, List.getElem_cons_succ, List.getElem_cons_zero, List.setIfInBounds_toArray, List.set_cons_zero, List.set_cons_succ]
    refine wpAnyH_take (i := 18) (v := ?_) rfl (by kernel_rfl) (by kernel_rfl) (by kernel_rfl) (fun _ _ _ h => h) (Or.inl ⟨by rfl, ?_⟩) (by assumption) ?_
    rotate_left 1
    · intro w hSw
      try dsimp only at hSw
      go_simp
      try with_reducible rfl
    simp only [Act.put, List.getElem_toArray, List.getElem_cons_succ, List.getElem_cons_zero, List.setIfInBounds_toArray, List.set_cons_zero, List.set_cons_succ]
    refine wpAnyH_take (i := 19) (v := ?_) rfl (by kernel_rfl) (by kernel_rfl) (by kernel_rfl) (fun _ _ _ h => h) (Or.inl ⟨by rfl, ?_⟩) (by assumption) ?_
    rotate_left 1
    · intro w hSw
      try dsimp only at hSw
      go_simp
      try with_reducible rfl
    simp only [Act.put, List.getElem_toArray, List.getElem_cons_succ, List.getElem_cons_zero, List.setIfInBounds_toArray, List.set_cons_zero, List.set_cons_succ]
    refine wpAnyH_take (i := 20) (v := ?_) rfl (by kernel_rfl) (by kernel_rfl) (by kernel_rfl) (fun _ _ _ h => h) (Or.inl ⟨by rfl, ?_⟩) (by assumption) ?_
    rotate_left 1
    · intro w hSw
      try dsimp only at hSw
      go_simp
      try with_reducible rfl
    simp only [Act.put, List.getElem_toArray, List.getElem_cons_succ, List.getElem_cons_zero, List.setIfInBounds_toArray, List.set_cons_zero, List.set_cons_succ]
    refine wpAnyH_take (i := 21) (v := ?_) rfl (by kernel_rfl) (by kernel_rfl) (by kernel_rfl) (fun _ _ _ h => h) (Or.inl ⟨by rfl, ?_⟩) (by assumption) ?_
    rotate_left 1
    · intro w hSw
      try dsimp only at hSw
      go_simp
      try with_reducible rfl
    simp only [Act.put, List.getElem_toArray, List.getElem_cons_succ, List.getElem_cons_zero, List.setIfInBounds_toArray, List.set_cons_zero, List.set_cons_succ]
    refine wpAnyH_take (i := 22) (v := ?_) rfl (by kernel_rfl) (by kernel_rfl) (by kernel_rfl) (fun _ _ _ h => h) (Or.inl ⟨by rfl, ?_⟩) (by assumption) ?_
    rotate_left 1
    · intro w hSw
      try dsimp only at hSw
      go_simp
      try with_reducible rfl
    simp only [Act.put, List.getElem_toArray, List.getElem_cons_succ, List.getElem_cons_zero, List.setIfInBounds_toArray, List.set_cons_zero, List.set_cons_succ]
    refine wpAnyH_take (i := 23) (v := ?_) rfl (by kernel_rfl) (by kernel_rfl) (by kernel_rfl) (fun _ _ _ h => h) (Or.inl ⟨by rfl, ?_⟩) (by assumption) ?_
    rotate_left 1
    · intro w hSw
      try dsimp only at hSw
      go_simp
      try with_reducible rfl
    simp only [Act.put, List.getElem_toArray, List.getElem_cons_succ, List.getElem_cons_zero, List.setIfInBounds_toArray, List.set_cons_zero, List.set_cons_succ]
    refine wpAnyH_take (i := 24) (v := ?_) rfl (by kernel_rfl) (by kernel_rfl) (by kernel_rfl) (fun _ _ _ h => h) (Or.inl ⟨by rfl, ?_⟩) (by assumption) ?_
    rotate_left 1
    · intro w hSw
      try dsimp only at hSw
      go_simp
      try with_reducible rfl
    simp only [Act.put, List.getElem_toArray, List.getElem_cons_succ, List.getElem_cons_zero, List.setIfInBounds_toArray, List.set_cons_zero, List.set_cons_succ]
    refine wpAnyH_take (i := 25) (v := ?_) rfl (by kernel_rfl) (by kernel_rfl) (by kernel_rfl) (fun _ _ _ h => h) (Or.inl ⟨by rfl, ?_⟩) (by assumption) ?_
    rotate_left 1
    · intro w hSw
      try dsimp only at hSw
      go_simp
      try with_reducible rfl
    simp only [Act.put, List.getElem_toArray, List.getElem_cons_succ, List.getElem_cons_zero, List.setIfInBounds_toArray, List.set_cons_zero, List.set_cons_succ]
    refine wpAnyH_take (i := 26) (v := ?_) rfl (by kernel_rfl) (by kernel_rfl) (by kernel_rfl) (fun _ _ _ h => h) (Or.inl ⟨by rfl, ?_⟩) (by assumption) ?_
    rotate_left 1
    · intro w hSw
      try dsimp only at hSw
      go_simp
      try with_reducible rfl
    simp only [Act.put, List.getElem_toArray, List.getElem_cons_succ, List.getElem_cons_zero, List.setIfInBounds_toArray, List.set_cons_zero, List.set_cons_succ]
    refine wpAnyH_ready (rs := [4, 27]) (by kernel_rfl) (by simp) ?_
    refine AllReadyH.cons rfl (fun K hK => ?_) ?_
    · skip
      go_simp
      refine hK.out _ _ ?hS1 (fun hHeld => ?_)
      case hS1 => (try dsimp only); (go_keep)
      clear hK K
      try simp only [Act.put, List.getElem_toArray, List.getElem_cons_succ, List.getElem_cons_zero, List.setIfInBounds_toArray, List.set_cons_zero, List.set_cons_succ]
      refine wpAnyH_ready (rs := [27]) (by kernel_rfl) (by simp) ?_
      refine AllReadyH.cons rfl (fun K hK => ?_) AllReadyH.nil
      go_simp
      refine hK.out _ _ ?hS1 (fun hHeld => ?_)
      case hS1 => (try dsimp only); (go_keep)
      clear hK K
      try simp only [Act.put, List.getElem_toArray, List.getElem_cons_succ, List.getElem_cons_zero, List.setIfInBounds_toArray, List.set_cons_zero, List.set_cons_succ]
      refine wpAnyH_ready (rs := [28]) (by kernel_rfl) (by simp) ?_
      refine AllReadyH.cons rfl (fun K hK => ?_) AllReadyH.nil
      refine step_app rfl (.tmp 143) (.tmp 166) rfl (by simp [Act.eval]) (by simp [Act.eval]) (app1K encIt_len encIt_one Tryd.underlying39 itInfo rfl (by omega) (by omega) (HS6.out.drew.own.it) (HS6.out.drew.lt) (by omega) ⟨x0, x1, x2, x3, x4, x5, x6⟩ w6.heap.size rfl _ rfl) ?_
      intro v' wz ho2 hg2 hat2
      obtain ⟨m5, hm5⟩ : ∃ m5, (r.items ++ [(⟨x0, x1, x2, x3, x4, x5, x6⟩ : It)]).length = m5 := ⟨_, rfl⟩
      obtain ⟨A5, c5, rfl, s5'⟩ := Own.slk' encIt_len hm5 ho2
      clear s5'
      have PZ := (HS6.out.drew.rq.alloc (.cells #[.int .i64 x0, .int .i64 x1, .int .i64 x2, .int .i64 x3, .int .i64 x4, .int .i64 x5, .int .i64 x6] 86)).grown hg2 (fun e => by have := (HS5.out.own.it.lt _ e.symm).1; omega)
      have kZ := PZ.cell
      have fZ := PZ.frozen
      have yZ := PZ.lt
      unfold rdCells at kZ
      have HN2 := ((HSN.out.drew.alloc (by simp) (.cells #[.int .i64 x0, .int .i64 x1, .int .i64 x2, .int .i64 x3, .int .i64 x4, .int .i64 x5, .int .i64 x6] 86)).grown hg2 (by first | (simp; done) | (simp; omega)) (fun z hz => .inl (HS5.out.own.it.lt z hz).2)).intsAt
      have d0 := HN2 0 (by omega)
      have d1 := HN2 1 (by omega)
      have d2 := HN2 2 (by omega)
      have d3 := HN2 3 (by omega)
      have d4 := HN2 4 (by omega)
      have d5 := HN2 5 (by omega)
      have d6 := HN2 6 (by omega)
      simp only [Nat.add_zero] at d0
      simp only [HX.out.1, HX.out.2.1, HX.out.2.2.1, HX.out.2.2.2.1, HX.out.2.2.2.2.1, HX.out.2.2.2.2.2.1, HX.out.2.2.2.2.2.2] at d0 d1 d2 d3 d4 d5 d6
      clear HN2
      refine hK.out _ _ ⟨d0, d1, d2, d3, d4, d5, d6⟩ (fun hHeld => ?_)
      clear hK K
      try simp only [Act.put, List.getElem_toArray, List.getElem_cons_succ, List.getElem_cons_zero, List.setIfInBounds_toArray, List.set_cons_zero, List.set_cons_succ]
      refine wpAnyH_take (i := 29) (v := ?_) rfl (by kernel_rfl) (by kernel_rfl) (by kernel_rfl) (fun _ _ _ h => h) (Or.inl ⟨by rfl, ?_⟩) (by assumption) ?_
      rotate_left 1
      · intro w hSw
        try dsimp only at hSw
        go_simp
        try with_reducible rfl
      simp only [Act.put, List.getElem_toArray, List.getElem_cons_succ, List.getElem_cons_zero, List.setIfInBounds_toArray, List.set_cons_zero, List.set_cons_succ]
      refine wpAnyH_take (i := 30) (v := ?_) rfl (by kernel_rfl) (by kernel_rfl) (by kernel_rfl) (fun _ _ _ h => h) (Or.inl ⟨by rfl, ?_⟩) (by assumption) ?_
      rotate_left 1
      · intro w hSw
        try dsimp only at hSw
        go_simp
        try with_reducible rfl
      simp only [Act.put, List.getElem_toArray, List.getElem_cons_succ, List.getElem_cons_zero, List.setIfInBounds_toArray, List.set_cons_zero, List.set_cons_succ]
      refine wpAnyH_ready (rs := [31]) (by kernel_rfl) (by simp) ?_
      refine AllReadyH.cons rfl (fun K hK => ?_) AllReadyH.nil
      go_simp
      refine hK.out _ _ ?hS1 (fun hHeld => ?_)
      case hS1 => (try dsimp only); (go_keep)
      clear hK K
      try simp only [Act.put, List.getElem_toArray, List.getElem_cons_succ, List.getElem_cons_zero, List.setIfInBounds_toArray, List.set_cons_zero, List.set_cons_succ]
      refine wpAnyH_done (by kernel_rfl) ?_ _
      go_wp2_with fail
      go_ret
      rw [HP.out]
      exact ⟨v1, v2, _, rfl, by unfold rIt nAt; simp only [HX.out.1, HX.out.2.1, HX.out.2.2.1, HX.out.2.2.2.1, HX.out.2.2.2.2.1, HX.out.2.2.2.2.2.1, HX.out.2.2.2.2.2.2]; exact HS6.out.drew.put (.cells #[.int .i64 x0, .int .i64 x1, .int .i64 x2, .int .i64 x3, .int .i64 x4, .int .i64 x5, .int .i64 x6] 86) hg2 (fun z hz => (HS5.out.own.it.lt z hz).1) (HS6.out.drew.own.pushIt (.cells #[.int .i64 x0, .int .i64 x1, .int .i64 x2, .int .i64 x3, .int .i64 x4, .int .i64 x5, .int .i64 x6] 86) ho2 hg2 hat2) 9 _ rfl, by have hz2 := hg2.size; simp only [World.size_alloc, World.size_drew] at hz2; simp; omega⟩
    refine AllReadyH.cons rfl (fun K hK => ?_) ?_
    · skip
      go_simp
      refine hK.out _ _ ?hS1 (fun hHeld => ?_)
      case hS1 => (try dsimp only); (go_keep)
      clear hK K
      try simp only [Act.put, List.getElem_toArray, List.getElem_cons_succ, List.getElem_cons_zero, List.setIfInBounds_toArray, List.set_cons_zero, List.set_cons_succ]
      refine wpAnyH_ready (rs := [4]) (by kernel_rfl) (by simp) ?_
      refine AllReadyH.cons rfl (fun K hK => ?_) AllReadyH.nil
      go_simp
      refine hK.out _ _ ?hS1 (fun hHeld => ?_)
      case hS1 => (try dsimp only); (go_keep)
      clear hK K
      try simp only [Act.put, List.getElem_toArray, List.getElem_cons_succ, List.getElem_cons_zero, List.setIfInBounds_toArray, List.set_cons_zero, List.set_cons_succ]
      refine wpAnyH_ready (rs := [28]) (by kernel_rfl) (by simp) ?_
      refine AllReadyH.cons rfl (fun K hK => ?_) AllReadyH.nil
      refine step_app rfl (.tmp 143) (.tmp 166) rfl (by simp [Act.eval]) (by simp [Act.eval]) (app1K encIt_len encIt_one Tryd.underlying39 itInfo rfl (by omega) (by omega) (HS6.out.drew.own.it) (HS6.out.drew.lt) (by omega) ⟨x0, x1, x2, x3, x4, x5, x6⟩ w6.heap.size rfl _ rfl) ?_
      intro v' wz ho2 hg2 hat2
      obtain ⟨m5, hm5⟩ : ∃ m5, (r.items ++ [(⟨x0, x1, x2, x3, x4, x5, x6⟩ : It)]).length = m5 := ⟨_, rfl⟩
      obtain ⟨A5, c5, rfl, s5'⟩ := Own.slk' encIt_len hm5 ho2
      clear s5'
      have PZ := (HS6.out.drew.rq.alloc (.cells #[.int .i64 x0, .int .i64 x1, .int .i64 x2, .int .i64 x3, .int .i64 x4, .int .i64 x5, .int .i64 x6] 86)).grown hg2 (fun e => by have := (HS5.out.own.it.lt _ e.symm).1; omega)
      have kZ := PZ.cell
      have fZ := PZ.frozen
      have yZ := PZ.lt
      unfold rdCells at kZ
      have HN2 := ((HSN.out.drew.alloc (by simp) (.cells #[.int .i64 x0, .int .i64 x1, .int .i64 x2, .int .i64 x3, .int .i64 x4, .int .i64 x5, .int .i64 x6] 86)).grown hg2 (by first | (simp; done) | (simp; omega)) (fun z hz => .inl (HS5.out.own.it.lt z hz).2)).intsAt
      have d0 := HN2 0 (by omega)
      have d1 := HN2 1 (by omega)
      have d2 := HN2 2 (by omega)
      have d3 := HN2 3 (by omega)
      have d4 := HN2 4 (by omega)
      have d5 := HN2 5 (by omega)
      have d6 := HN2 6 (by omega)
      simp only [Nat.add_zero] at d0
      simp only [HX.out.1, HX.out.2.1, HX.out.2.2.1, HX.out.2.2.2.1, HX.out.2.2.2.2.1, HX.out.2.2.2.2.2.1, HX.out.2.2.2.2.2.2] at d0 d1 d2 d3 d4 d5 d6
      clear HN2
      refine hK.out _ _ ⟨d0, d1, d2, d3, d4, d5, d6⟩ (fun hHeld => ?_)
      clear hK K
      try simp only [Act.put, List.getElem_toArray, List.getElem_cons_succ, List.getElem_cons_zero, List.setIfInBounds_toArray, List.set_cons_zero, List.set_cons_succ]
      refine wpAnyH_take (i := 29) (v := ?_) rfl (by kernel_rfl) (by kernel_rfl) (by kernel_rfl) (fun _ _ _ h => h) (Or.inl ⟨by rfl, ?_⟩) (by assumption) ?_
      rotate_left 1
      · intro w hSw
        try dsimp only at hSw
        go_simp
        try with_reducible rfl
      simp only [Act.put, List.getElem_toArray, List.getElem_cons_succ, List.getElem_cons_zero, List.setIfInBounds_toArray, List.set_cons_zero, List.set_cons_succ]
      refine wpAnyH_take (i := 30) (v := ?_) rfl (by kernel_rfl) (by kernel_rfl) (by kernel_rfl) (fun _ _ _ h => h) (Or.inl ⟨by rfl, ?_⟩) (by assumption) ?_
      rotate_left 1
      · intro w hSw
        try dsimp only at hSw
        go_simp
        try with_reducible rfl
      simp only [Act.put, List.getElem_toArray, List.getElem_cons_succ, List.getElem_cons_zero, List.setIfInBounds_toArray, List.set_cons_zero, List.set_cons_succ]
      refine wpAnyH_ready (rs := [31]) (by kernel_rfl) (by simp) ?_
      refine AllReadyH.cons rfl (fun K hK => ?_) AllReadyH.nil
      go_simp
      refine hK.out _ _ ?hS1 (fun hHeld => ?_)
      case hS1 => (try dsimp only); (go_keep)
      clear hK K
      try simp only [Act.put, List.getElem_toArray, List.getElem_cons_succ, List.getElem_cons_zero, List.setIfInBounds_toArray, List.set_cons_zero, List.set_cons_succ]
      refine wpAnyH_done (by kernel_rfl) ?_ _
      go_wp2_with fail
      go_ret
      rw [HP.out]
      exact ⟨v1, v2, _, rfl, by unfold rIt nAt; simp only [HX.out.1, HX.out.2.1, HX.out.2.2.1, HX.out.2.2.2.1, HX.out.2.2.2.2.1, HX.out.2.2.2.2.2.1, HX.out.2.2.2.2.2.2]; exact HS6.out.drew.put (.cells #[.int .i64 x0, .int .i64 x1, .int .i64 x2, .int .i64 x3, .int .i64 x4, .int .i64 x5, .int .i64 x6] 86) hg2 (fun z hz => (HS5.out.own.it.lt z hz).1) (HS6.out.drew.own.pushIt (.cells #[.int .i64 x0, .int .i64 x1, .int .i64 x2, .int .i64 x3, .int .i64 x4, .int .i64 x5, .int .i64 x6] 86) ho2 hg2 hat2) 9 _ rfl, by have hz2 := hg2.size; simp only [World.size_alloc, World.size_drew] at hz2; simp; omega⟩
    exact AllReadyH.nil
  have HF6 := hide (show (numsR line (ByteArray.mk #[105, 116, 101, 109]) 7).2 = false by rw [hq])
  clear hq hon
  have HP := hide (putL_none (r := r) HNE.out.1 HNE.out.2 HF1.out HF2.out HF3.out HF4.out HF5.out HF6.out)
  go_wp2_with fail
  go_ret
  rw [HP.out]
  exact ⟨v1, v2, v3, rfl, HS6.out, by omega⟩
end Go.Proofs.YtcjcmdikopipjaaDoor
