/- Words for memory: a slice that reads as a list of elements of k cells each, and how that stands in later worlds. -/
import Derived.Test.YtkpakpjbpmnbgaaBase
import Derived.Laws.OwnMore
import Derived.Deep.AppendLies
import Derived.Deep.Draws
import Derived.Maps.AppendAt
import Derived.RegionTactic
import Derived.OwnWalk
import Derived.Deep.Slices
import Derived.Deep.Fields
import Derived.Deep.MidRow
import Derived.Lib.SmallJoins
namespace Go.Proofs.Ytkpakpjbpmnbgaa
open Go.ChangeShapes Go.WideShapes Go.ChangeAt Go.RowKit Go.Deep
set_option linter.unusedVariables false

theorem hide {p : Prop} (h : p) : Hid p := h
theorem ret_bool {a b : Bool} (h : a = b) : Ending.returned (.bool a) = .returned (.bool b) := by rw [h]
theorem ret_int {k : IntKind} {a b : Int} (h : a = b) : Ending.returned (.int k a) = .returned (.int k b) := by rw [h]

/-- The slice '.slice A n c' reads as xs, k cells an element; its block lies in lo .. hi - 1; none of the cells is frozen. -/
def SlK {α : Type} (k : Nat) (enc : α → List Value) (w : World) (lo hi : Nat) (A : Option Addr) (n c : Nat) (xs : List α) : Prop :=
  xs.length = n ∧ n ≤ c ∧ c ≤ maxLen ∧ (0 < n → ∃ b off, A = some ⟨b, off, none⟩ ∧ lo ≤ b ∧ b < hi ∧
    ∀ i x, xs[i]? = some x → ∀ j u, (enc x)[j]? = some u → w.cell? ⟨b, off + i * k + j, none⟩ = some u ∧ w.frozen? ⟨b, off + i * k + j, none⟩ = false)

section
variable {α : Type} {k : Nat} {enc : α → List Value} {w w' : World} {lo hi lo' hi' : Nat} {A : Option Addr} {n c : Nat} {xs : List α}
theorem SlK.len (h : SlK k enc w lo hi A n c xs) : xs.length = n := h.1
theorem SlK.cap (h : SlK k enc w lo hi A n c xs) : n ≤ c := h.2.1
theorem SlK.max (h : SlK k enc w lo hi A n c xs) : c ≤ 9223372036854775807 := by have := h.2.2.1; unfold maxLen at this; omega
theorem SlK.nil_ (hc : c ≤ maxLen) : SlK k enc w lo hi A 0 c ([] : List α) := ⟨rfl, Nat.zero_le _, hc, fun h => absurd h (by omega)⟩
theorem SlK.at (h : SlK k enc w lo hi A n c xs) {i : Nat} (hi' : i < n) :
    ∃ b off, ∃ hx : i < xs.length, A = some ⟨b, off, none⟩ ∧ lo ≤ b ∧ b < hi ∧
      ∀ j u, (enc xs[i])[j]? = some u → w.cell? ⟨b, off + i * k + j, none⟩ = some u ∧ w.frozen? ⟨b, off + i * k + j, none⟩ = false := by
  obtain ⟨h1, h2, h3, h4⟩ := h
  obtain ⟨b, off, hA, hl, hb, hc⟩ := h4 (by omega)
  exact ⟨b, off, by omega, hA, hl, hb, fun j u hu => hc i xs[i] (List.getElem?_eq_getElem (by omega)) j u hu⟩
theorem SlK.keep (h : SlK k enc w lo hi A n c xs) (hk : ∀ b o, lo ≤ b → b < hi → w'.cell? ⟨b, o, none⟩ = w.cell? ⟨b, o, none⟩ ∧ w'.frozen? ⟨b, o, none⟩ = w.frozen? ⟨b, o, none⟩) :
    SlK k enc w' lo hi A n c xs := by
  obtain ⟨h1, h2, h3, h4⟩ := h
  refine ⟨h1, h2, h3, fun hn => ?_⟩
  obtain ⟨b, off, hA, hl, hb, hc⟩ := h4 hn
  refine ⟨b, off, hA, hl, hb, fun i x hx j u hu => ?_⟩
  obtain ⟨e1, e2⟩ := hk b (off + i * k + j) hl hb
  rw [e1, e2]
  exact hc i x hx j u hu
theorem SlK.more (h : SlK k enc w lo hi A n c xs) (h1 : lo' ≤ lo) (h2 : hi ≤ hi') : SlK k enc w lo' hi' A n c xs := by
  obtain ⟨a1, a2, a3, a4⟩ := h
  refine ⟨a1, a2, a3, fun hn => ?_⟩
  obtain ⟨b, off, hA, hl, hb, hc⟩ := a4 hn
  exact ⟨b, off, hA, by omega, by omega, hc⟩
theorem SlK.below {B : Nat} (h : SlK k enc w lo hi A n c xs) (hb : Below B w w') (hB : hi ≤ B) : SlK k enc w' lo hi A n c xs :=
  h.keep fun b o _ h2 => ⟨hb.cell (p := ⟨b, o, none⟩) (by show b < B; omega), hb.frozen (p := ⟨b, o, none⟩) (by show b < B; omega)⟩
theorem SlK.grown {g : Option Nat} (h : SlK k enc w lo hi A n c xs) (hg : w.grownBy w' g) (hB : hi ≤ w.heap.size) (hne : ∀ r, g = some r → r < lo ∨ hi ≤ r) : SlK k enc w' lo hi A n c xs :=
  h.keep fun b o h1 h2 => by
    have e := hg.block b (by omega) (fun e => by have := hne b e.symm; omega)
    exact ⟨World.cell?_of_block (a := ⟨b, o, none⟩) e, World.frozen?_of_block (a := ⟨b, o, none⟩) e⟩
theorem SlK.setCell (h : SlK k enc w lo hi A n c xs) {p : Addr} (hp : p.block < lo ∨ hi ≤ p.block) (u : Value) : SlK k enc (w.setCell p u) lo hi A n c xs :=
  h.keep fun b o h1 h2 => ⟨World.cell?_setCell_other _ _ _ _ (fun e => by subst e; simp at hp; omega), by simp⟩
theorem SlK.drew (h : SlK k enc w lo hi A n c xs) : SlK k enc w.drew lo hi A n c xs := h
theorem SlK.drewN (h : SlK k enc w lo hi A n c xs) (m : Nat) : SlK k enc (w.drewN m) lo hi A n c xs := h
theorem SlK.alloc (h : SlK k enc w lo hi A n c xs) (hB : hi ≤ w.heap.size) (o : Obj) : SlK k enc (w.alloc o) lo hi A n c xs :=
  h.below (B := w.heap.size) ((Below.refl _ _).alloc (Nat.le_refl _) o) hB
/-- Elements of another make, cell by cell the same. -/
theorem SlK.map {β : Type} {enc' : β → List Value} (f : α → β) (hf : ∀ x ∈ xs, enc' (f x) = enc x) (h : SlK k enc w lo hi A n c xs) : SlK k enc' w lo hi A n c (xs.map f) := by
  obtain ⟨a1, a2, a3, a4⟩ := h
  refine ⟨by simpa using a1, a2, a3, fun hn => ?_⟩
  obtain ⟨b, off, hA, hl, hb, hc⟩ := a4 hn
  refine ⟨b, off, hA, hl, hb, fun i y hy j u hu => ?_⟩
  rw [List.getElem?_map] at hy
  obtain ⟨x, hx, rfl⟩ := Option.map_eq_some_iff.1 hy
  rw [hf x (List.mem_of_getElem? hx)] at hu
  exact hc i x hx j u hu

theorem flat_length (hk : ∀ x, (enc x).length = k) : ∀ xs : List α, (xs.flatMap enc).length = xs.length * k
  | [] => by simp
  | x :: xs => by rw [List.flatMap_cons, List.length_append, flat_length hk xs, hk x, List.length_cons, Nat.succ_mul]; omega
theorem flat_get (hk : ∀ x, (enc x).length = k) : ∀ (xs : List α) (i : Nat) (x : α) (j : Nat) (u : Value), xs[i]? = some x → (enc x)[j]? = some u → (xs.flatMap enc)[i * k + j]? = some u
  | [], i, x, j, u, hx, _ => by simp at hx
  | y :: ys, 0, x, j, u, hx, hu => by
    simp only [List.getElem?_cons_zero, Option.some.injEq] at hx
    subst hx
    have hj : j < (enc y).length := (List.getElem?_eq_some_iff.1 hu).1
    rw [List.flatMap_cons, Nat.zero_mul, Nat.zero_add, List.getElem?_append_left hj]
    exact hu
  | y :: ys, i + 1, x, j, u, hx, hu => by
    simp only [List.getElem?_cons_succ] at hx
    have ih := flat_get hk ys i x j u hx hu
    rw [List.flatMap_cons, List.getElem?_append_right (by rw [hk, Nat.succ_mul]; omega), hk]
    rw [show (i + 1) * k + j - k = i * k + j from by rw [Nat.succ_mul]; omega]
    exact ih

/-- A row of the call's own, element by element. -/
def Own (k : Nat) (enc : α → List Value) (e : TypeId) (w : World) (base : Nat) (v : Value) (xs : List α) : Prop := w.ownsRow base e k v xs.length (xs.flatMap enc)

theorem Own.slk {e : TypeId} {base : Nat} {v : Value} (hk : ∀ x, (enc x).length = k) (h : Own k enc e w base v xs) :
    ∃ A c, v = .slice A xs.length c ∧ SlK k enc w base w.heap.size A xs.length c xs := by
  have h0 := h
  obtain ⟨h1, h2⟩ := h
  rcases h2 with ⟨rfl, hn⟩ | ⟨g, cap, cur, rfl, hg, hh, hnc, hcm, hcs, htake⟩
  · refine ⟨none, 0, by rw [hn], rfl, by omega, by simp [maxLen], fun hp => ?_⟩
    omega
  · refine ⟨some ⟨g, 0, none⟩, cap, rfl, rfl, hnc, hcm, fun _ => ⟨g, 0, rfl, hg, (Array.getElem?_eq_some_iff.1 hh).1, fun i x hx j u hu => ?_⟩⟩
    have hfl := flat_get hk xs i x j u hx hu
    have hlt : i * k + j < xs.length * k := by
      have := (List.getElem?_eq_some_iff.1 hfl).1
      rwa [flat_length hk] at this
    refine ⟨?_, World.ownsRow.frozenAt h0 _⟩
    rw [Nat.zero_add, World.ownsRow.cellAt h0 _ hlt]
    exact hfl
theorem Own.nil_ (e : TypeId) (base : Nat) : Own k enc e w base (.slice none 0 0) ([] : List α) := World.ownsRow_nil w base e k
theorem Own.drew {e : TypeId} {base : Nat} {v : Value} (h : Own k enc e w base v xs) : Own k enc e w.drew base v xs := h
theorem Own.grown {e : TypeId} {base : Nat} {v : Value} {g : Option Nat} (h : Own k enc e w base v xs) (hg : w.grownBy w' g) (hne : v.ownBlock = none ∨ v.ownBlock ≠ g) : Own k enc e w' base v xs := h.kept hg hne
theorem Own.below {e : TypeId} {base : Nat} {v : Value} (h : Own k enc e w base v xs) (hb : Below w.heap.size w w') : Own k enc e w' base v xs :=
  h.kept (row := none) ⟨hb.os, hb.tape, hb.output, hb.size, fun i hi _ => hb.block i hi⟩ (by cases v.ownBlock <;> simp)
theorem Own.alloc {e : TypeId} {base : Nat} {v : Value} (h : Own k enc e w base v xs) (o : Obj) : Own k enc e (w.alloc o) base v xs := World.ownsRow.alloc h o
theorem Own.lt {e : TypeId} {base : Nat} {v : Value} (h : Own k enc e w base v xs) : ∀ r, v.ownBlock = some r → base ≤ r ∧ r < w.heap.size := World.ownsRow.lt h
end


/-! ### a row that is filled, element by element -/
def setL : List Value → Nat → List Value → List Value
  | l, _, [] => l
  | l, o, v :: r => setL (l.set o v) (o + 1) r
theorem setL_eq : ∀ (vs l : List Value) (o : Nat), o + vs.length ≤ l.length → setL l o vs = l.take o ++ vs ++ l.drop (o + vs.length)
  | [], l, o, h => by simp [setL]
  | v :: r, l, o, h => by
    simp only [List.length_cons] at h
    rw [setL, setL_eq r _ _ (by simp; omega), List.length_cons]
    rw [List.take_set, List.drop_set_of_lt (by omega), List.take_add_one, List.getElem?_eq_getElem (by omega)]
    rw [show o + 1 + r.length = o + (r.length + 1) from by omega]
    have : (List.take o l ++ (some l[o]).toList).set o v = List.take o l ++ [v] := by
      rw [List.set_append_right _ _ (by rw [List.length_take]; omega)]
      simp [List.length_take, Nat.min_eq_left (show o ≤ l.length by omega)]
    rw [this]
    simp
theorem storedL {base : Nat} {e : TypeId} {size g n cap : Nat} : ∀ (vs : List Value) {xs : List Value} (o : Nat) {w : World}, w.ownsRow base e size (.slice (some ⟨g, 0, none⟩) n cap) n xs →
    (w.setCells g o vs).ownsRow base e size (.slice (some ⟨g, 0, none⟩) n cap) n (setL xs o vs) ∧ w.grownBy (w.setCells g o vs) (some g)
  | [], xs, o, w, h => ⟨h, World.grownBy.refl w _⟩
  | v :: r, xs, o, w, h => by
    obtain ⟨h1, h2⟩ := h.stored o v
    obtain ⟨h3, h4⟩ := storedL r (o + 1) h1
    rw [World.setCells]
    exact ⟨h3, ⟨h4.os.trans h2.os, h4.tape.trans h2.tape, h4.output.trans h2.output, Nat.le_trans h2.size h4.size, fun k hk hne => (h4.block k (Nat.lt_of_lt_of_le hk h2.size) hne).trans (h2.block k hk hne)⟩⟩
theorem row_fill {α : Type} {k : Nat} {enc : α → List Value} (hk : ∀ x, (enc x).length = k) {n i : Nat} (xs : List α) (Z : List Value) (z : α) (hl : xs.length = n) (hZ : Z.length = n * k) (hi : i < n) (hx : xs[i]? = some z) :
    setL ((xs.take i).flatMap enc ++ Z.drop (i * k)) (i * k) (enc z) = (xs.take (i + 1)).flatMap enc ++ Z.drop ((i + 1) * k) := by
  have h1 : ((xs.take i).flatMap enc).length = i * k := by rw [flat_length hk, List.length_take, hl, Nat.min_eq_left (by omega)]
  have h2 : (i + 1) * k ≤ n * k := Nat.mul_le_mul_right _ (by omega)
  have h3 : (i + 1) * k = i * k + k := Nat.succ_mul i k
  rw [setL_eq _ _ _ (by rw [hk, List.length_append, h1, List.length_drop]; omega), hk]
  rw [List.take_left' h1, List.drop_append, h1, List.drop_of_length_le (by omega), List.drop_drop, List.take_add_one, hx]
  simp only [Option.toList_some, List.flatMap_append, List.flatMap_cons, List.flatMap_nil, List.append_nil, List.nil_append]
  rw [show i * k + (i * k + k - i * k) = (i + 1) * k from by omega]
theorem own_there {w : World} {base : Nat} {e : TypeId} {size g n cap : Nat} {xs : List Value} (h : w.ownsRow base e size (.slice (some ⟨g, 0, none⟩) n cap) n xs) (o m : Nat) (hm : o + m ≤ n * size) : w.there g o m := fun j hj => by
  refine ⟨?_, h.frozenAt _⟩
  rw [h.cellAt _ (by omega)]
  have := h.1
  rw [List.getElem?_eq_getElem (by omega)]
  rfl
theorem own_thereA {w : World} {base : Nat} {e : TypeId} {size g n cap : Nat} {xs : List Value} (h : w.ownsRow base e size (.slice (some ⟨g, 0, none⟩) n cap) n xs) (o : Nat) (cells : Array Value) (m : Nat) (hs : cells.size = m) (hm : o + m ≤ n * size) : w.there g o cells.size := by
  rw [hs]
  exact own_there h o m hm
theorem own_cell {w : World} {base : Nat} {e : TypeId} {size g n cap : Nat} {xs : List Value} (h : w.ownsRow base e size (.slice (some ⟨g, 0, none⟩) n cap) n xs) (o : Nat) (hm : o < n * size) : ∃ u, w.cell? ⟨g, o, none⟩ = some u := by
  rw [h.cellAt _ hm]
  have := h.1
  exact ⟨_, List.getElem?_eq_getElem (by omega)⟩
theorem row_below {w w' : World} {base : Nat} {e : TypeId} {size n : Nat} {v : Value} {xs : List Value} (h : w.ownsRow base e size v n xs) (hb : Below w.heap.size w w') : w'.ownsRow base e size v n xs :=
  h.kept (row := none) ⟨hb.os, hb.tape, hb.output, hb.size, fun i hi _ => hb.block i hi⟩ (by cases v.ownBlock <;> simp)
theorem Below.setCells {B : Nat} {a : World} {g : Nat} (hg : B ≤ g) : ∀ (vs : List Value) (o : Nat) {w : World}, Below B a w → Below B a (w.setCells g o vs)
  | [], _, _, h => h
  | v :: r, o, w, h => by
    rw [World.setCells]
    exact Below.setCells hg r (o + 1) (h.setCell (p := ⟨g, o, none⟩) hg v)
theorem stored2 {w : World} {base : Nat} {e : TypeId} {size g m cap : Nat} {xs : List Value} (h : w.ownsRow base e size (.slice (some ⟨g, 0, none⟩) m cap) m xs) (o : Nat) (v0 v1 : Value) :
    World.ownsRow ((w.setCell ⟨g, o, none⟩ v0).setCell ⟨g, o + 1, none⟩ v1) base e size (.slice (some ⟨g, 0, none⟩) m cap) m (setL xs o [v0, v1]) ∧ w.grownBy ((w.setCell ⟨g, o, none⟩ v0).setCell ⟨g, o + 1, none⟩ v1) (some g) := storedL [v0, v1] o h
theorem below2 {B : Nat} {a w : World} {g : Nat} (h : Below B a w) (hg : B ≤ g) (o : Nat) (v0 v1 : Value) : Below B a ((w.setCell ⟨g, o, none⟩ v0).setCell ⟨g, o + 1, none⟩ v1) := Below.setCells hg [v0, v1] o h
theorem stored7 {w : World} {base : Nat} {e : TypeId} {size g m cap : Nat} {xs : List Value} (h : w.ownsRow base e size (.slice (some ⟨g, 0, none⟩) m cap) m xs) (o : Nat) (v0 v1 v2 v3 v4 v5 v6 : Value) :
    World.ownsRow (((((((w.setCell ⟨g, o, none⟩ v0).setCell ⟨g, o + 1, none⟩ v1).setCell ⟨g, o + 2, none⟩ v2).setCell ⟨g, o + 3, none⟩ v3).setCell ⟨g, o + 4, none⟩ v4).setCell ⟨g, o + 5, none⟩ v5).setCell ⟨g, o + 6, none⟩ v6) base e size (.slice (some ⟨g, 0, none⟩) m cap) m (setL xs o [v0, v1, v2, v3, v4, v5, v6]) ∧ w.grownBy (((((((w.setCell ⟨g, o, none⟩ v0).setCell ⟨g, o + 1, none⟩ v1).setCell ⟨g, o + 2, none⟩ v2).setCell ⟨g, o + 3, none⟩ v3).setCell ⟨g, o + 4, none⟩ v4).setCell ⟨g, o + 5, none⟩ v5).setCell ⟨g, o + 6, none⟩ v6) (some g) := storedL [v0, v1, v2, v3, v4, v5, v6] o h
theorem below7 {B : Nat} {a w : World} {g : Nat} (h : Below B a w) (hg : B ≤ g) (o : Nat) (v0 v1 v2 v3 v4 v5 v6 : Value) : Below B a (((((((w.setCell ⟨g, o, none⟩ v0).setCell ⟨g, o + 1, none⟩ v1).setCell ⟨g, o + 2, none⟩ v2).setCell ⟨g, o + 3, none⟩ v3).setCell ⟨g, o + 4, none⟩ v4).setCell ⟨g, o + 5, none⟩ v5).setCell ⟨g, o + 6, none⟩ v6) := Below.setCells hg [v0, v1, v2, v3, v4, v5, v6] o h
theorem slk_of_row {α : Type} {k : Nat} {enc : α → List Value} (hk : ∀ x, (enc x).length = k) {w : World} {base : Nat} {e : TypeId} {g n : Nat} {xs : List α} (hl : xs.length = n)
    (h : w.ownsRow base e k (.slice (some ⟨g, 0, none⟩) n n) n (xs.flatMap enc)) : SlK k enc w base w.heap.size (some ⟨g, 0, none⟩) n n xs := by
  subst hl
  obtain ⟨A, c, hv, hs⟩ := Own.slk hk (show Own k enc e w base _ xs from h)
  injection hv with e1 _ e3
  subst e1 e3
  exact hs

/-! ### make -/
theorem run_make_rowN {P : Program} (t e : TypeId) (i : TypeInfo) (z : Value) (ht : P.underlying t = some (.slice e)) (hi : P.info? e = some i) (hz : i.zero = some z)
    (kl kc : IntKind) (n c : Nat) (hnc : n ≤ c) (hbytes : i.bytes * c ≤ 281474976710656) (h63 : c ≤ 9223372036854775807) (w : World) :
    (Instr.makeSlice t (.int kl (n : Int)) (.int kc (c : Int))).run P w = .ok (.slice (some ⟨w.heap.size, 0, none⟩) n c) (w.alloc (.cells (madeCells z.cells (c * i.size)) e)) := by
  have hb : (i.bytes : Int) * (c : Int) ≤ 281474976710656 := by
    have h : ((i.bytes * c : Nat) : Int) ≤ 281474976710656 := by omega
    rwa [Int.natCast_mul] at h
  have hr := run_make (P := P) w t e i z ht hi hz kl kc n c (by omega) (by omega) hb (by omega)
  simp only [Int.toNat_natCast] at hr
  exact hr
def zeros (z : Value) (n : Nat) : Array Value := madeCells z.cells n
theorem zeros_size (z : Value) (n : Nat) : (zeros z n).size = n := by simp [zeros, madeCells]
theorem mk_row {P : Program} {t e : TypeId} {z : Value} {size bytes : Nat} (ht : P.underlying t = some (.slice e)) (hinfo : (P.info? e).map (fun i => (i.zero, i.size, i.bytes)) = some (some z, size, bytes)) (hb : bytes ≤ 256) (n : Nat) (hn : n ≤ 1048576) (W : World) :
    (Instr.makeSlice t (.int .i64 (n : Int)) (.int .i64 (n : Int))).run P W = .ok (.slice (some ⟨W.heap.size, 0, none⟩) n n) (W.alloc (.cells (zeros z (n * size)) e)) := by
  obtain ⟨i0, hi0, hz0, hz1, hz2⟩ := info_parts hinfo
  have hm : bytes * n ≤ 256 * 1048576 := Nat.mul_le_mul hb hn
  have := run_make_rowN (P := P) t e i0 _ ht hi0 hz0 .i64 .i64 n n (Nat.le_refl _) (by rw [hz2]; omega) (by omega) W
  rw [hz1] at this
  exact this

def encInt (z : Int) : List Value := [.int .i64 z]
def encPr (x : Pr) : List Value := [.int .i64 x.a, .int .i64 x.b]
def encIt (x : It) : List Value := [.int .i64 x.id, .int .i64 x.w, .int .i64 x.h, .int .i64 x.d, .int .i64 x.gram, .int .i64 x.cls, .int .i64 x.cnt]
def encTy (x : Ty) : List Value := [.int .i64 x.id, .int .i64 x.w, .int .i64 x.h, .int .i64 x.d, .int .i64 x.tare, .int .i64 x.gram, .int .i64 x.cost]

theorem encInt_len (x : Int) : (encInt x).length = 1 := rfl
theorem encPr_len (x : Pr) : (encPr x).length = 2 := rfl
theorem encIt_len (x : It) : (encIt x).length = 7 := rfl
theorem encTy_len (x : Ty) : (encTy x).length = 7 := rfl
theorem one2 (a b : Int) : (#[.int .i64 a, .int .i64 b] : Array Value).all (·.oneCell') = true := all_oneCell_toArray (cs := [.int .i64 a, .int .i64 b]) (ints_oneCell .i64 [a, b])
theorem one7 (a b c d e f g : Int) : (#[.int .i64 a, .int .i64 b, .int .i64 c, .int .i64 d, .int .i64 e, .int .i64 f, .int .i64 g] : Array Value).all (·.oneCell') = true :=
  all_oneCell_toArray (cs := [.int .i64 a, .int .i64 b, .int .i64 c, .int .i64 d, .int .i64 e, .int .i64 f, .int .i64 g]) (ints_oneCell .i64 [a, b, c, d, e, f, g])
def zI : Value := .int .i64 0
def zPr : Value := .agg #[.int .i64 0, .int .i64 0]
def z7 : Value := .agg #[.int .i64 0, .int .i64 0, .int .i64 0, .int .i64 0, .int .i64 0, .int .i64 0, .int .i64 0]
section
variable {w : World} {lo hi : Nat} {A : Option Addr} {n c : Nat}
theorem SlK.int {xs : List Int} (h : SlK 1 encInt w lo hi A n c xs) {i : Nat} (hi' : i < n) :
    ∃ b off x, xs[i]? = some x ∧ A = some ⟨b, off, none⟩ ∧ lo ≤ b ∧ b < hi ∧ w.cell? ⟨b, off + i, none⟩ = some (.int .i64 x) ∧ w.frozen? ⟨b, off + i, none⟩ = false := by
  obtain ⟨b, off, hx, hA, hl, hb, hc⟩ := h.at hi'
  have := hc 0 _ rfl
  simp only [Nat.mul_one, Nat.add_zero] at this
  exact ⟨b, off, xs[i], List.getElem?_eq_getElem hx, hA, hl, hb, this.1, this.2⟩
theorem SlK.pr {xs : List Pr} (h : SlK 2 encPr w lo hi A n c xs) {i : Nat} (hi' : i < n) :
    ∃ b off x, xs[i]? = some x ∧ A = some ⟨b, off, none⟩ ∧ lo ≤ b ∧ b < hi ∧ w.cell? ⟨b, off + i * 2, none⟩ = some (.int .i64 x.a) ∧ w.cell? ⟨b, off + i * 2 + 1, none⟩ = some (.int .i64 x.b) ∧
      w.frozen? ⟨b, off + i * 2, none⟩ = false ∧ w.frozen? ⟨b, off + i * 2 + 1, none⟩ = false := by
  obtain ⟨b, off, hx, hA, hl, hb, hc⟩ := h.at hi'
  exact ⟨b, off, xs[i], List.getElem?_eq_getElem hx, hA, hl, hb, (hc 0 _ rfl).1, (hc 1 _ rfl).1, (hc 0 _ rfl).2, (hc 1 _ rfl).2⟩
theorem SlK.it {xs : List It} (h : SlK 7 encIt w lo hi A n c xs) {i : Nat} (hi' : i < n) :
    ∃ b off x, xs[i]? = some x ∧ A = some ⟨b, off, none⟩ ∧ lo ≤ b ∧ b < hi ∧ w.cell? ⟨b, off + i * 7, none⟩ = some (.int .i64 x.id) ∧ w.cell? ⟨b, off + i * 7 + 1, none⟩ = some (.int .i64 x.w) ∧
      w.cell? ⟨b, off + i * 7 + 2, none⟩ = some (.int .i64 x.h) ∧ w.cell? ⟨b, off + i * 7 + 3, none⟩ = some (.int .i64 x.d) ∧ w.cell? ⟨b, off + i * 7 + 4, none⟩ = some (.int .i64 x.gram) ∧
      w.cell? ⟨b, off + i * 7 + 5, none⟩ = some (.int .i64 x.cls) ∧ w.cell? ⟨b, off + i * 7 + 6, none⟩ = some (.int .i64 x.cnt) ∧ ∀ j, j < 7 → w.frozen? ⟨b, off + i * 7 + j, none⟩ = false := by
  obtain ⟨b, off, hx, hA, hl, hb, hc⟩ := h.at hi'
  exact ⟨b, off, xs[i], List.getElem?_eq_getElem hx, hA, hl, hb, (hc 0 _ rfl).1, (hc 1 _ rfl).1, (hc 2 _ rfl).1, (hc 3 _ rfl).1, (hc 4 _ rfl).1, (hc 5 _ rfl).1, (hc 6 _ rfl).1,
    fun j hj => (hc j _ (List.getElem?_eq_getElem (show j < (encIt xs[i]).length from hj))).2⟩
theorem SlK.ty {xs : List Ty} (h : SlK 7 encTy w lo hi A n c xs) {i : Nat} (hi' : i < n) :
    ∃ b off x, xs[i]? = some x ∧ A = some ⟨b, off, none⟩ ∧ lo ≤ b ∧ b < hi ∧ w.cell? ⟨b, off + i * 7, none⟩ = some (.int .i64 x.id) ∧ w.cell? ⟨b, off + i * 7 + 1, none⟩ = some (.int .i64 x.w) ∧
      w.cell? ⟨b, off + i * 7 + 2, none⟩ = some (.int .i64 x.h) ∧ w.cell? ⟨b, off + i * 7 + 3, none⟩ = some (.int .i64 x.d) ∧ w.cell? ⟨b, off + i * 7 + 4, none⟩ = some (.int .i64 x.tare) ∧
      w.cell? ⟨b, off + i * 7 + 5, none⟩ = some (.int .i64 x.gram) ∧ w.cell? ⟨b, off + i * 7 + 6, none⟩ = some (.int .i64 x.cost) ∧ ∀ j, j < 7 → w.frozen? ⟨b, off + i * 7 + j, none⟩ = false := by
  obtain ⟨b, off, hx, hA, hl, hb, hc⟩ := h.at hi'
  exact ⟨b, off, xs[i], List.getElem?_eq_getElem hx, hA, hl, hb, (hc 0 _ rfl).1, (hc 1 _ rfl).1, (hc 2 _ rfl).1, (hc 3 _ rfl).1, (hc 4 _ rfl).1, (hc 5 _ rfl).1, (hc 6 _ rfl).1,
    fun j hj => (hc j _ (List.getElem?_eq_getElem (show j < (encTy xs[i]).length from hj))).2⟩
end

/-! ### a block that is known whole -/
def Blk (w : World) (g : Nat) (t : TypeId) (cs : Array Value) : Prop := w.heap[g]? = some (.cells cs t (0, 0))
section
variable {w w' : World} {g : Nat} {t : TypeId} {cs : Array Value}
theorem Blk.lt (h : Blk w g t cs) : g < w.heap.size := by
  rcases Nat.lt_or_ge g w.heap.size with hlt | hge
  · exact hlt
  · unfold Blk at h; rw [Array.getElem?_eq_none hge] at h; cases h
theorem Blk.cell (h : Blk w g t cs) : ∀ i, w.cell? ⟨g, i, none⟩ = cs[i]? := fun i => cell_of_row w g i cs t (0, 0) h
theorem Blk.frozen (h : Blk w g t cs) : ∀ i, w.frozen? ⟨g, i, none⟩ = false := fun i => by
  unfold Blk at h
  simp [World.frozen?, h]
theorem Blk.new (w : World) (t : TypeId) (cs : Array Value) {g : Nat} (hg : g = w.heap.size) : Blk (w.alloc (.cells cs t)) g t cs := by subst hg; exact heap_alloc_new w _
theorem Blk.drew (h : Blk w g t cs) : Blk w.drew g t cs := h
theorem Blk.drewN (h : Blk w g t cs) (n : Nat) : Blk (w.drewN n) g t cs := h
theorem Blk.alloc (h : Blk w g t cs) (o : Obj) : Blk (w.alloc o) g t cs := (Below.heap_alloc w o g h.lt).trans h
theorem Blk.set_ (h : Blk w g t cs) (i : Nat) (u : Value) : Blk (w.setCell ⟨g, i, none⟩ u) g t (cs.setIfInBounds i u) := by
  unfold Blk at h ⊢
  simp [World.setCell, Array.getElem?_modify, h]
theorem Blk.far (h : Blk w g t cs) {p : Addr} (hp : g ≠ p.block) (u : Value) : Blk (w.setCell p u) g t cs := (Below.heap_setCell w p u g hp).trans h
theorem Blk.below {B : Nat} (h : Blk w g t cs) (hb : Below B w w') (hg : g < B) : Blk w' g t cs := (hb.block g hg).trans h
theorem Blk.belowH (h : Blk w g t cs) (hb : Below w.heap.size w w') : Blk w' g t cs := h.below hb h.lt
theorem Blk.grown {row : Option Nat} (h : Blk w g t cs) (hb : w.grownBy w' row) (hg : some g ≠ row) : Blk w' g t cs := (hb.block g h.lt hg).trans h
end

/-! ### a result that is a struct lies in memory -/
theorem asAddr_ptr {P : Program} {w : World} (x : Addr) : (asAddr (.pointer (some x))).run P w = .ok x w := by simp [asAddr]
theorem load_blk {P : Program} {w : World} {g : Nat} {T ty : TypeId} {cs : Array Value} {d : TypeDesc} (hb : Blk w g T cs) (hu : P.underlying ty = some d) (hd : d.isRow = true) (hi : (P.info? ty).map (·.size) = some cs.size) :
    (loadVar ty ⟨g, 0, none⟩).run P w = .ok (.agg cs) w := by
  have hr : w.rangeAt g 0 cs.toList := fun j v hv => by
    rw [hb.cell]
    simpa using hv
  have := run_loadVar_mid (P := P) w g 0 ty cs.toList d hr hu hd (by simpa using hi)
  simpa using this
theorem ret_cell {P : Program} {fn : Func} {R : Ending → World → Prop} {a : Act} {w : World} {p : Tmp} {ty : TypeId} {g : Nat} {T : TypeId} {cs : Array Value} {d : TypeDesc} (h : fn.results = #[.cell p ty])
    (hp : a.tmps.getD p undef = .pointer (some ⟨g, 0, none⟩)) (hb : Blk w g T cs) (hu : P.underlying ty = some d) (hd : d.isRow = true) (hi : (P.info? ty).map (·.size) = some cs.size) (hdf : a.defers = [])
    (hR : R (.returned (.agg cs)) w) : bodyPost P fn R .ret a w := by
  refine bodyPost_ret (v := .agg cs) ?_ hdf hR
  have hp' : a.tmps[p]?.getD undef = .pointer (some ⟨g, 0, none⟩) := by simpa using hp
  have hl := load_blk (P := P) hb hu hd hi
  have ha := asAddr_ptr (P := P) (w := w) ⟨g, 0, none⟩
  simp only [results, h]
  simp [hp', ha, hl, Sem.run_bind, Result.andThen]
theorem ret_cell2 {P : Program} {fn : Func} {R : Ending → World → Prop} {a : Act} {w : World} {p u : Tmp} {ty : TypeId} {g : Nat} {T : TypeId} {cs : Array Value} {d : TypeDesc} (h : fn.results = #[.cell p ty, .tmp u])
    (hp : a.tmps.getD p undef = .pointer (some ⟨g, 0, none⟩)) (hb : Blk w g T cs) (hu : P.underlying ty = some d) (hd : d.isRow = true) (hi : (P.info? ty).map (·.size) = some cs.size) (hdf : a.defers = [])
    (hR : R (.returned (.tuple #[.agg cs, a.tmps.getD u undef])) w) : bodyPost P fn R .ret a w := by
  refine bodyPost_ret (v := .tuple #[.agg cs, a.tmps.getD u undef]) ?_ hdf hR
  have hp' : a.tmps[p]?.getD undef = .pointer (some ⟨g, 0, none⟩) := by simpa using hp
  have hl := load_blk (P := P) hb hu hd hi
  have ha := asAddr_ptr (P := P) (w := w) ⟨g, 0, none⟩
  simp only [results, h]
  simp [hp', ha, hl, Sem.run_bind, Result.andThen]

structure Rq where
  way : Int
  pal : Pl
  cls : Int
  pairs : List Pr
  types : List Ty
  master : Int
  items : List It
/-- The three slices of an order read as its lists. -/
structure RqAt (w : World) (lo hi : Nat) (r : Rq) (A1 : Option Addr) (n1 c1 : Nat) (A2 : Option Addr) (n2 c2 : Nat) (A3 : Option Addr) (n3 c3 : Nat) : Prop where
  pr : SlK 2 encPr w lo hi A1 n1 c1 r.pairs
  ty : SlK 7 encTy w lo hi A2 n2 c2 r.types
  it : SlK 7 encIt w lo hi A3 n3 c3 r.items
section
variable {w w' : World} {lo hi lo' hi' : Nat} {r : Rq} {A1 A2 A3 : Option Addr} {n1 n2 n3 c1 c2 c3 : Nat}
theorem RqAt.below {B : Nat} (h : RqAt w lo hi r A1 n1 c1 A2 n2 c2 A3 n3 c3) (hb : Below B w w') (hB : hi ≤ B) : RqAt w' lo hi r A1 n1 c1 A2 n2 c2 A3 n3 c3 :=
  ⟨h.pr.below hb hB, h.ty.below hb hB, h.it.below hb hB⟩
theorem RqAt.drew (h : RqAt w lo hi r A1 n1 c1 A2 n2 c2 A3 n3 c3) : RqAt w.drew lo hi r A1 n1 c1 A2 n2 c2 A3 n3 c3 := ⟨h.pr, h.ty, h.it⟩
theorem RqAt.alloc (h : RqAt w lo hi r A1 n1 c1 A2 n2 c2 A3 n3 c3) (hB : hi ≤ w.heap.size) (o : Obj) : RqAt (w.alloc o) lo hi r A1 n1 c1 A2 n2 c2 A3 n3 c3 :=
  ⟨h.pr.alloc hB o, h.ty.alloc hB o, h.it.alloc hB o⟩
theorem RqAt.more (h : RqAt w lo hi r A1 n1 c1 A2 n2 c2 A3 n3 c3) (h1 : lo' ≤ lo) (h2 : hi ≤ hi') : RqAt w lo' hi' r A1 n1 c1 A2 n2 c2 A3 n3 c3 :=
  ⟨h.pr.more h1 h2, h.ty.more h1 h2, h.it.more h1 h2⟩
theorem RqAt.grown {g : Option Nat} (h : RqAt w lo hi r A1 n1 c1 A2 n2 c2 A3 n3 c3) (hg : w.grownBy w' g) (hB : hi ≤ w.heap.size) (hne : ∀ x, g = some x → x < lo ∨ hi ≤ x) : RqAt w' lo hi r A1 n1 c1 A2 n2 c2 A3 n3 c3 :=
  ⟨h.pr.grown hg hB hne, h.ty.grown hg hB hne, h.it.grown hg hB hne⟩
end
end Go.Proofs.Ytkpakpjbpmnbgaa
