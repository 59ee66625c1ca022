/- From a law's arguments, as the claim hands them over, to this text's words: numbers, structs of numbers, slices of these, an order. And the law's last step. -/
import Derived.Test.YtkpakpjbpmnbgaaMem
import Derived.ChangeOld
namespace Go.Proofs.Ytkpakpjbpmnbgaa
open Go.ChangeShapes Go.WideShapes Go.ChangeAt Go.RowKit Go.Deep
set_option linter.unusedVariables false

theorem trodAll_below {H : Type} {enc : TypeId × Value → H} {P : Program} (hl : laidOutB P = true) {W W' : World} (hb : Below W.heap.size W W') :
    ∀ {ts : List TypeId} {vs : List Value} {ds : List (DataW H)} {ps : List MemPlace}, (∀ t ∈ ts, P.readableRec t = true ∧ t < P.types.size) → (∀ x ∈ ps, x.block < W.heap.size) →
      DataW.TrodAll enc P W 0 (fun _ => true) true ts vs ds ps → DataW.TrodAll enc P W' 0 (fun b => decide (b < W.heap.size)) true ts vs ds ps
  | [], [], [], _, _, _, h => h
  | t :: ts, v :: vs, d :: ds, _, ht, hlt, ⟨p, p', h, hs, e⟩ => by
    subst e
    exact ⟨p, p', Below.trod hl (ht t (by simp)).1 (ht t (by simp)).2 h hb (fun x hx => hlt x (by simp [hx])),
      trodAll_below hl hb (fun t' h' => ht t' (by simp [h'])) (fun x hx => hlt x (by simp [hx])) hs, rfl⟩
  | [], _ :: _, _, _, _, _, h => by cases h
  | [], [], _ :: _, _, _, _, h => by cases h
  | _ :: _, [], _, _, _, _, h => by cases h
  | _ :: _, _ :: _, [], _, _, _, h => by cases h
/-- The law answered true and left all that was there: that is what the row asks. -/
theorem law_post {H : Type} {enc : TypeId × Value → H} {P : Program} {f : Func} {s : ChangeSpec} {T : TypeId} (hl : laidOutB P = true) (hparams : ∀ t ∈ f.params.toList, P.readableRec t = true ∧ t < P.types.size)
    (hvars : s.vars = []) (hres : f.resultTypes = #[T]) (hT : P.underlying T = some .bool) {W W' : World} {args : Array Value} {ds gs : List (DataW H)} {before : List MemPlace}
    (hW : DataW.Whole enc P f.params.toList s.vars false W args.toList ds gs before) (hsp : s.fn H (ds ++ gs) = { results := [.lit (.bool true)], args := ds }) (hb : Below W.heap.size W W') :
    s.post enc P f false true false false W args (.bool true) W' := by
  have hW' := hW
  obtain ⟨p, q, hA, hV, rfl, hfz, hnd⟩ := hW
  rw [hvars] at hV
  obtain ⟨rfl, rfl⟩ := trodVars_none hV
  refine ⟨ds, [], p ++ [], [], p, [], hW', ?_, ?_, ?_, World.keptBut_mono (fun x hx => ⟨hx, ?_⟩) (hb.frame (· ∈ p ++ [])), fun h => by cases h⟩
  · rw [hsp, hres]
    exact trodAll_cons_mk (shut_bool hT true) trodAll_mk0
  · rw [hsp]
    exact trodAll_below hl hb hparams (fun x hx => hW'.lt x (by simp [hx])) hA
  · rw [hsp, hvars]
    rfl
  · exact .inr (.inl (by simpa using hx))

/-- Type t is k numbers in a row. -/
def IntRow (P : Program) (t : TypeId) (k : Nat) : Prop := ∀ (H : Type) (enc : TypeId × Value → H) (w : World) (base : Nat) (spare : Nat → Bool) (held : Bool) (fuel : Nat) (cs : List Value) (x : DataW H × List MemPlace),
  DataW.trod enc P w base spare held fuel t cs = some x → ∃ zs : List Int, zs.length = k ∧ cs = zs.map (Value.int .i64) ∧ x.2 = []
theorem intRow_int {P : Program} {t : TypeId} (ht : P.underlying t = some (.int .i64)) : IntRow P t 1 := fun H enc w base spare held fuel cs x h => by
  obtain ⟨n, rfl, rfl, _⟩ := DataW.trod_int ht h
  exact ⟨[n], rfl, rfl, rfl⟩
theorem intRow_2 {P : Program} {t : TypeId} {f0 f1 : Field} (ht : P.underlying t = some (.struct #[f0, f1])) (hC : P.cellsOf t = 2) (hi : ∀ f ∈ [f0, f1], P.underlying f.type = some (.int .i64) ∧ P.cellsOf f.type = 1) (ho : f0.offset = 0 ∧ f1.offset = 1) : IntRow P t 2 :=
  fun H enc w base spare held fuel cs x h => by
  obtain ⟨xs, n, _, rfl, hl, hlen, hg⟩ := DataW.trod_struct ht h
  rw [hC] at hl
  obtain ⟨o0, o1⟩ := ho
  match cs, hl, xs, hlen with
  | [c0, c1], _, [y0, y1], _ =>
    have g0 := hg 0 f0 rfl
    have g1 := hg 1 f1 rfl
    obtain ⟨u0, k0⟩ := hi f0 (by simp)
    obtain ⟨u1, k1⟩ := hi f1 (by simp)
    rw [o0, k0] at g0
    rw [o1, k1] at g1
    obtain ⟨z0, e0, r0, _⟩ := DataW.trod_int u0 g0
    obtain ⟨z1, e1, r1, _⟩ := DataW.trod_int u1 g1
    simp at e0 e1
    subst e0 e1
    subst r0 r1
    exact ⟨[z0, z1], rfl, rfl, rfl⟩
theorem intRow_4 {P : Program} {t : TypeId} {f0 f1 f2 f3 : Field} (ht : P.underlying t = some (.struct #[f0, f1, f2, f3])) (hC : P.cellsOf t = 4) (hi : ∀ f ∈ [f0, f1, f2, f3], P.underlying f.type = some (.int .i64) ∧ P.cellsOf f.type = 1)
    (ho : f0.offset = 0 ∧ f1.offset = 1 ∧ f2.offset = 2 ∧ f3.offset = 3) : IntRow P t 4 :=
  fun H enc w base spare held fuel cs x h => by
  obtain ⟨xs, n, _, rfl, hl, hlen, hg⟩ := DataW.trod_struct ht h
  rw [hC] at hl
  obtain ⟨o0, o1, o2, o3⟩ := ho
  match cs, hl, xs, hlen with
  | [c0, c1, c2, c3], _, [y0, y1, y2, y3], _ =>
    have g0 := hg 0 f0 rfl
    have g1 := hg 1 f1 rfl
    have g2 := hg 2 f2 rfl
    have g3 := hg 3 f3 rfl
    obtain ⟨u0, k0⟩ := hi f0 (by simp)
    obtain ⟨u1, k1⟩ := hi f1 (by simp)
    obtain ⟨u2, k2⟩ := hi f2 (by simp)
    obtain ⟨u3, k3⟩ := hi f3 (by simp)
    rw [o0, k0] at g0
    rw [o1, k1] at g1
    rw [o2, k2] at g2
    rw [o3, k3] at g3
    obtain ⟨z0, e0, r0, _⟩ := DataW.trod_int u0 g0
    obtain ⟨z1, e1, r1, _⟩ := DataW.trod_int u1 g1
    obtain ⟨z2, e2, r2, _⟩ := DataW.trod_int u2 g2
    obtain ⟨z3, e3, r3, _⟩ := DataW.trod_int u3 g3
    simp at e0 e1 e2 e3
    subst e0 e1 e2 e3
    subst r0 r1 r2 r3
    exact ⟨[z0, z1, z2, z3], rfl, rfl, rfl⟩
theorem intRow_7 {P : Program} {t : TypeId} {f0 f1 f2 f3 f4 f5 f6 : Field} (ht : P.underlying t = some (.struct #[f0, f1, f2, f3, f4, f5, f6])) (hC : P.cellsOf t = 7)
    (hi : ∀ f ∈ [f0, f1, f2, f3, f4, f5, f6], P.underlying f.type = some (.int .i64) ∧ P.cellsOf f.type = 1)
    (ho : f0.offset = 0 ∧ f1.offset = 1 ∧ f2.offset = 2 ∧ f3.offset = 3 ∧ f4.offset = 4 ∧ f5.offset = 5 ∧ f6.offset = 6) : IntRow P t 7 :=
  fun H enc w base spare held fuel cs x h => by
  obtain ⟨xs, n, _, rfl, hl, hlen, hg⟩ := DataW.trod_struct ht h
  rw [hC] at hl
  obtain ⟨o0, o1, o2, o3, o4, o5, o6⟩ := ho
  match cs, hl, xs, hlen with
  | [c0, c1, c2, c3, c4, c5, c6], _, [y0, y1, y2, y3, y4, y5, y6], _ =>
    have g0 := hg 0 f0 rfl
    have g1 := hg 1 f1 rfl
    have g2 := hg 2 f2 rfl
    have g3 := hg 3 f3 rfl
    have g4 := hg 4 f4 rfl
    have g5 := hg 5 f5 rfl
    have g6 := hg 6 f6 rfl
    obtain ⟨u0, k0⟩ := hi f0 (by simp)
    obtain ⟨u1, k1⟩ := hi f1 (by simp)
    obtain ⟨u2, k2⟩ := hi f2 (by simp)
    obtain ⟨u3, k3⟩ := hi f3 (by simp)
    obtain ⟨u4, k4⟩ := hi f4 (by simp)
    obtain ⟨u5, k5⟩ := hi f5 (by simp)
    obtain ⟨u6, k6⟩ := hi f6 (by simp)
    rw [o0, k0] at g0
    rw [o1, k1] at g1
    rw [o2, k2] at g2
    rw [o3, k3] at g3
    rw [o4, k4] at g4
    rw [o5, k5] at g5
    rw [o6, k6] at g6
    obtain ⟨z0, e0, r0, _⟩ := DataW.trod_int u0 g0
    obtain ⟨z1, e1, r1, _⟩ := DataW.trod_int u1 g1
    obtain ⟨z2, e2, r2, _⟩ := DataW.trod_int u2 g2
    obtain ⟨z3, e3, r3, _⟩ := DataW.trod_int u3 g3
    obtain ⟨z4, e4, r4, _⟩ := DataW.trod_int u4 g4
    obtain ⟨z5, e5, r5, _⟩ := DataW.trod_int u5 g5
    obtain ⟨z6, e6, r6, _⟩ := DataW.trod_int u6 g6
    simp at e0 e1 e2 e3 e4 e5 e6
    subst e0 e1 e2 e3 e4 e5 e6
    subst r0 r1 r2 r3 r4 r5 r6
    exact ⟨[z0, z1, z2, z3, z4, z5, z6], rfl, rfl, rfl⟩

section
variable {H : Type} {enc : TypeId × Value → H} {P : Program} {W : World}
/-- A slice of such rows. -/
theorem open_rows {t e : TypeId} {k fuel : Nat} {v : Value} {x : DataW H × List MemPlace} (ht : P.underlying t = some (.slice e)) (hrow : IntRow P e k) (hC : P.cellsOf e = k) (hk : 0 < k)
    (h : DataW.trod enc P W 0 (fun _ => true) true fuel t [v] = some x) (hfz : W.noneFrozen x.2) :
    ∃ A n c, ∃ zss : List (List Int), v = .slice A n c ∧ SlK k (fun zs => zs.map (Value.int .i64)) W 0 W.heap.size A n c zss ∧ ∀ zs ∈ zss, zs.length = k := by
  rcases open_slice ht h with ⟨hv, _⟩ | ⟨a, len, cap, m, n, D, Pl, hv, _, hl, hm, hmm, hx, hi⟩
  · simp at hv
    exact ⟨none, 0, 0, [], hv, SlK.nil_ (by simp [maxLen]), fun _ h => by simp at h⟩
  · simp at hv
    simp only [if_true] at hmm
    subst hmm
    have hcell : ∀ i, i < m → ∃ zs : List Int, zs.length = k ∧ ∀ j, j < k → W.cell? (a.add (i * k + j)) = (zs.map (Value.int .i64))[j]? := by
      intro i him
      obtain ⟨cs', hc, ht'⟩ := hi i him
      rw [hC] at hc
      obtain ⟨zs, hzl, rfl, _⟩ := hrow H enc W 0 _ true n cs' _ ht'
      obtain ⟨_, hcl, hat⟩ := World.cells?_some hc
      refine ⟨zs, hzl, fun j hj => ?_⟩
      rw [← Go.Deep.add_add]
      exact hat j hj
    refine ⟨some a, len, m, (List.range len).map fun i => if h : i < m then (hcell i h).choose else [], hv, ⟨by simp, hl, hm, fun hn => ?_⟩, fun zs hzs => ?_⟩
    · obtain ⟨b, off, spot⟩ := a
      have hspot : spot = none := by
        obtain ⟨zs, hz, hz'⟩ := hcell 0 (by omega)
        have h0 := hz' 0 hk
        simp only [Nat.zero_mul, Nat.add_zero] at h0
        rw [List.getElem?_eq_getElem (by simp; omega)] at h0
        simpa [Addr.add] using World.cell?_spot h0
      subst hspot
      have hb : b < W.heap.size := by
        obtain ⟨zs, hz, hz'⟩ := hcell 0 (by omega)
        have h0 := hz' 0 hk
        simp only [Nat.zero_mul, Nat.add_zero] at h0
        rw [List.getElem?_eq_getElem (by simp; omega)] at h0
        have := World.block_lt_of_cell? W _ h0
        rwa [show ((⟨b, off, none⟩ : Addr).add 0).block = b from rfl] at this
      refine ⟨b, off, rfl, Nat.zero_le _, hb, fun i y hy j u hu => ?_⟩
      rw [List.getElem?_map] at hy
      obtain ⟨i', hi', rfl⟩ := Option.map_eq_some_iff.1 hy
      rw [List.getElem?_range (by
        rcases Nat.lt_or_ge i len with h' | h'
        · exact h'
        · rw [List.getElem?_eq_none (by simpa using h')] at hi'
          cases hi')] at hi'
      injection hi' with hi'
      subst hi'
      have hil : i < len := by
        rcases Nat.lt_or_ge i len with h' | h'
        · exact h'
        · rw [List.getElem?_eq_none (by simpa using h')] at hy
          cases hy
      have him : i < m := by omega
      rw [dif_pos him] at hu
      obtain ⟨hcl, hca⟩ := (hcell i him).choose_spec
      have hj : j < k := by
        have := (List.getElem?_eq_some_iff.1 hu).1
        simp only [List.length_map] at this
        omega
      have e1 := hca j hj
      rw [Addr.add_mid] at e1
      refine ⟨by rw [show off + i * k + j = off + (i * k + j) from by omega]; rw [e1]; exact hu, ?_⟩
      have hin : MemPlace.cell b (off + i * k + j) ∈ x.2 := by
        rw [hx]
        refine List.mem_append_left _ ?_
        rw [hC]
        have hlt : i * k + j < m * k := by
          have : (i + 1) * k ≤ m * k := Nat.mul_le_mul_right _ him
          rw [Nat.succ_mul] at this
          omega
        exact MemPlace.mem_row.2 ⟨i * k + j, hlt, by simp [Nat.add_assoc]⟩
      exact hfz _ _ hin
    · rw [List.mem_map] at hzs
      obtain ⟨i, hi', rfl⟩ := hzs
      have : i < m := by have := List.mem_range.1 hi'; omega
      rw [dif_pos this]
      exact (hcell i this).choose_spec.1

def toIt : List Int → It
  | [a, b, c, d, e, f, g] => ⟨a, b, c, d, e, f, g⟩
  | _ => ⟨0, 0, 0, 0, 0, 0, 0⟩
def toTy : List Int → Ty
  | [a, b, c, d, e, f, g] => ⟨a, b, c, d, e, f, g⟩
  | _ => ⟨0, 0, 0, 0, 0, 0, 0⟩
def toPr : List Int → Pr
  | [a, b] => ⟨a, b⟩
  | _ => ⟨0, 0⟩
theorem encIt_to {zs : List Int} (h : zs.length = 7) : encIt (toIt zs) = zs.map (Value.int .i64) := by
  match zs, h with
  | [_, _, _, _, _, _, _], _ => rfl
theorem encTy_to {zs : List Int} (h : zs.length = 7) : encTy (toTy zs) = zs.map (Value.int .i64) := by
  match zs, h with
  | [_, _, _, _, _, _, _], _ => rfl
theorem encPr_to {zs : List Int} (h : zs.length = 2) : encPr (toPr zs) = zs.map (Value.int .i64) := by
  match zs, h with
  | [_, _], _ => rfl
theorem open_its {t e : TypeId} {fuel : Nat} {v : Value} {x : DataW H × List MemPlace} (ht : P.underlying t = some (.slice e)) (hrow : IntRow P e 7) (hC : P.cellsOf e = 7)
    (h : DataW.trod enc P W 0 (fun _ => true) true fuel t [v] = some x) (hfz : W.noneFrozen x.2) : ∃ A n c xs, v = .slice A n c ∧ SlK 7 encIt W 0 W.heap.size A n c xs := by
  obtain ⟨A, n, c, zss, hv, hs, hl⟩ := open_rows ht hrow hC (by omega) h hfz
  exact ⟨A, n, c, _, hv, hs.map toIt fun zs hz => encIt_to (hl zs hz)⟩
theorem open_tys {t e : TypeId} {fuel : Nat} {v : Value} {x : DataW H × List MemPlace} (ht : P.underlying t = some (.slice e)) (hrow : IntRow P e 7) (hC : P.cellsOf e = 7)
    (h : DataW.trod enc P W 0 (fun _ => true) true fuel t [v] = some x) (hfz : W.noneFrozen x.2) : ∃ A n c xs, v = .slice A n c ∧ SlK 7 encTy W 0 W.heap.size A n c xs := by
  obtain ⟨A, n, c, zss, hv, hs, hl⟩ := open_rows ht hrow hC (by omega) h hfz
  exact ⟨A, n, c, _, hv, hs.map toTy fun zs hz => encTy_to (hl zs hz)⟩
theorem open_prs {t e : TypeId} {fuel : Nat} {v : Value} {x : DataW H × List MemPlace} (ht : P.underlying t = some (.slice e)) (hrow : IntRow P e 2) (hC : P.cellsOf e = 2)
    (h : DataW.trod enc P W 0 (fun _ => true) true fuel t [v] = some x) (hfz : W.noneFrozen x.2) : ∃ A n c xs, v = .slice A n c ∧ SlK 2 encPr W 0 W.heap.size A n c xs := by
  obtain ⟨A, n, c, zss, hv, hs, hl⟩ := open_rows ht hrow hC (by omega) h hfz
  exact ⟨A, n, c, _, hv, hs.map toPr fun zs hz => encPr_to (hl zs hz)⟩
theorem open_is {t e : TypeId} {fuel : Nat} {v : Value} {x : DataW H × List MemPlace} (ht : P.underlying t = some (.slice e)) (he : P.underlying e = some (.int .i64)) (hC : P.cellsOf e = 1)
    (h : DataW.trod enc P W 0 (fun _ => true) true fuel t [v] = some x) (hfz : W.noneFrozen x.2) : ∃ A n c xs, v = .slice A n c ∧ SlK 1 encInt W 0 W.heap.size A n c xs := by
  obtain ⟨A, n, c, zss, hv, hs, hl⟩ := open_rows ht (intRow_int he) hC (by omega) h hfz
  exact ⟨A, n, c, _, hv, hs.map (fun zs => zs.headD 0) fun zs hz => by
    have := hl zs hz
    match zs, this with
    | [_], _ => rfl⟩
/-- A struct of 2, 4, 7 numbers, by value. -/
theorem open_agg {t : TypeId} {k : Nat} {r : Reach} {b0 : Nat} {fs : Array Field} {v : Value} {d : DataW H} {p : List MemPlace} (hs : P.underlying t = some (.struct fs)) (hrow : IntRow P t k) (hv : Value.okWide P W r b0 t v)
    (h : DataW.Trod enc P W 0 (fun _ => true) true t v d p) : ∃ zs : List Int, zs.length = k ∧ v = .agg (zs.map (Value.int .i64)).toArray := by
  obtain ⟨cs, rfl, _⟩ := okWide_struct hs hv
  obtain ⟨n, hn⟩ := h
  obtain ⟨zs, hl, he, _⟩ := hrow H enc W 0 _ true n _ _ hn
  exact ⟨zs, hl, by rw [← he]; simp [Value.cells]⟩
theorem open_pl {t : TypeId} {r : Reach} {b0 : Nat} {fs : Array Field} {v : Value} {d : DataW H} {p : List MemPlace} (hs : P.underlying t = some (.struct fs)) (hrow : IntRow P t 4) (hv : Value.okWide P W r b0 t v)
    (h : DataW.Trod enc P W 0 (fun _ => true) true t v d p) : ∃ y : Pl, v = .agg #[.int .i64 y.w, .int .i64 y.d, .int .i64 y.h, .int .i64 y.gram] := by
  obtain ⟨zs, hl, rfl⟩ := open_agg hs hrow hv h
  match zs, hl with
  | [z0, z1, z2, z3], _ => exact ⟨⟨z0, z1, z2, z3⟩, rfl⟩
theorem open_it {t : TypeId} {r : Reach} {b0 : Nat} {fs : Array Field} {v : Value} {d : DataW H} {p : List MemPlace} (hs : P.underlying t = some (.struct fs)) (hrow : IntRow P t 7) (hv : Value.okWide P W r b0 t v)
    (h : DataW.Trod enc P W 0 (fun _ => true) true t v d p) : ∃ y : It, v = .agg #[.int .i64 y.id, .int .i64 y.w, .int .i64 y.h, .int .i64 y.d, .int .i64 y.gram, .int .i64 y.cls, .int .i64 y.cnt] := by
  obtain ⟨zs, hl, rfl⟩ := open_agg hs hrow hv h
  match zs, hl with
  | [z0, z1, z2, z3, z4, z5, z6], _ => exact ⟨⟨z0, z1, z2, z3, z4, z5, z6⟩, rfl⟩
theorem open_ty {t : TypeId} {r : Reach} {b0 : Nat} {fs : Array Field} {v : Value} {d : DataW H} {p : List MemPlace} (hs : P.underlying t = some (.struct fs)) (hrow : IntRow P t 7) (hv : Value.okWide P W r b0 t v)
    (h : DataW.Trod enc P W 0 (fun _ => true) true t v d p) : ∃ y : Ty, v = .agg #[.int .i64 y.id, .int .i64 y.w, .int .i64 y.h, .int .i64 y.d, .int .i64 y.tare, .int .i64 y.gram, .int .i64 y.cost] := by
  obtain ⟨zs, hl, rfl⟩ := open_agg hs hrow hv h
  match zs, hl with
  | [z0, z1, z2, z3, z4, z5, z6], _ => exact ⟨⟨z0, z1, z2, z3, z4, z5, z6⟩, rfl⟩
/-- An order, by value. -/
theorem open_rq {t tp t1 t2 t3 e1 e2 e3 : TypeId} {r : Reach} {b0 : Nat} {f0 f1 f2 f3 f4 f5 f6 : Field} {v : Value} {d : DataW H} {p : List MemPlace} (hs : P.underlying t = some (.struct #[f0, f1, f2, f3, f4, f5, f6])) (hC : P.cellsOf t = 10)
    (ho : f0.offset = 0 ∧ f1.offset = 1 ∧ f2.offset = 5 ∧ f3.offset = 6 ∧ f4.offset = 7 ∧ f5.offset = 8 ∧ f6.offset = 9) (hty : f1.type = tp ∧ f3.type = t1 ∧ f4.type = t2 ∧ f6.type = t3)
    (hi : ∀ f ∈ [f0, f2, f5], P.underlying f.type = some (.int .i64) ∧ P.cellsOf f.type = 1) (hp : IntRow P tp 4) (hpC : P.cellsOf tp = 4)
    (h1 : P.underlying t1 = some (.slice e1) ∧ IntRow P e1 2 ∧ P.cellsOf e1 = 2 ∧ P.cellsOf t1 = 1) (h2 : P.underlying t2 = some (.slice e2) ∧ IntRow P e2 7 ∧ P.cellsOf e2 = 7 ∧ P.cellsOf t2 = 1)
    (h3 : P.underlying t3 = some (.slice e3) ∧ IntRow P e3 7 ∧ P.cellsOf e3 = 7 ∧ P.cellsOf t3 = 1)
    (hv : Value.okWide P W r b0 t v) (h : DataW.Trod enc P W 0 (fun _ => true) true t v d p) (hfz : W.noneFrozen p) :
    ∃ r : Rq, ∃ A1 n1 c1 A2 n2 c2 A3 n3 c3, v = .agg #[.int .i64 r.way, .int .i64 r.pal.w, .int .i64 r.pal.d, .int .i64 r.pal.h, .int .i64 r.pal.gram, .int .i64 r.cls, .slice A1 n1 c1, .slice A2 n2 c2, .int .i64 r.master, .slice A3 n3 c3] ∧ RqAt W 0 W.heap.size r A1 n1 c1 A2 n2 c2 A3 n3 c3 := by
  obtain ⟨cs, rfl, hsz⟩ := okWide_struct hs hv
  obtain ⟨l⟩ := cs
  obtain ⟨fuel, hf⟩ := h
  obtain ⟨xs, n, _, hx, hl, hlen, hg⟩ := DataW.trod_struct hs hf
  obtain ⟨o0, o1, o2, o3, o4, o5, o6⟩ := ho
  obtain ⟨y1, y3, y4, y6⟩ := hty
  simp only [Value.cells] at hl hg
  rw [hC] at hl
  simp only [Prod.mk.injEq] at hx
  match l, hl, xs, hlen with
  | [c0, c1, c2, c3, c4, c5, c6, c7, c8, c9], _, [x0, x1, x2, x3, x4, x5, x6], _ =>
    have g0 := hg 0 f0 rfl
    have g1 := hg 1 f1 rfl
    have g2 := hg 2 f2 rfl
    have g3 := hg 3 f3 rfl
    have g4 := hg 4 f4 rfl
    have g5 := hg 5 f5 rfl
    have g6 := hg 6 f6 rfl
    obtain ⟨u0, k0⟩ := hi f0 (by simp)
    obtain ⟨u2, k2⟩ := hi f2 (by simp)
    obtain ⟨u5, k5⟩ := hi f5 (by simp)
    rw [o0, k0] at g0
    rw [o1, y1, hpC] at g1
    rw [o2, k2] at g2
    rw [o3, y3, h1.2.2.2] at g3
    rw [o4, y4, h2.2.2.2] at g4
    rw [o5, k5] at g5
    rw [o6, y6, h3.2.2.2] at g6
    have hsub : ∀ z ∈ [x0, x1, x2, x3, x4, x5, x6], W.noneFrozen z.2 := fun z hz b off hin => hfz b off (by rw [hx.2, List.mem_flatMap]; exact ⟨z, hz, hin⟩)
    obtain ⟨z0, e0, _, _⟩ := DataW.trod_int u0 g0
    obtain ⟨zp, lp, e1, _⟩ := hp H enc W 0 _ true n _ _ g1
    obtain ⟨z2, e2, _, _⟩ := DataW.trod_int u2 g2
    obtain ⟨z5, e5, _, _⟩ := DataW.trod_int u5 g5
    obtain ⟨A1, n1, c1', pr, e3, s3⟩ := open_prs h1.1 h1.2.1 h1.2.2.1 g3 (hsub x3 (by simp))
    obtain ⟨A2, n2, c2', ty, e4, s4⟩ := open_tys h2.1 h2.2.1 h2.2.2.1 g4 (hsub x4 (by simp))
    obtain ⟨A3, n3, c3', it, e6, s6⟩ := open_its h3.1 h3.2.1 h3.2.2.1 g6 (hsub x6 (by simp))
    match zp, lp with
    | [p0, p1, p2, p3], _ =>
      simp at e0 e1 e2 e5
      obtain ⟨rfl, rfl, rfl, rfl⟩ := e1
      subst e0 e2 e3 e4 e5 e6
      exact ⟨⟨z0, ⟨p0, p1, p2, p3⟩, z2, pr, ty, z5, it⟩, A1, n1, c1', A2, n2, c2', A3, n3, c3', rfl, s3, s4, s6⟩
end
end Go.Proofs.Ytkpakpjbpmnbgaa
