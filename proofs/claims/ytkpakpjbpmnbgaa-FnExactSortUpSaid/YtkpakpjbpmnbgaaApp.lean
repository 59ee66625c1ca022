/- append onto a row of the call's own, whatever the source (nil, empty or not). No program in sight. -/
import Derived.Test.YtkpakpjbpmnbgaaMem
namespace Go.Proofs.Ytkpakpjbpmnbgaa
open Go.ChangeShapes Go.WideShapes Go.ChangeAt Go.RowKit Go.Deep
set_option linter.unusedVariables false
set_option linter.unusedSimpArgs false

section
variable {P : Program} {α : Type} {enc : α → List Value} {size : Nat}
theorem flat_at (hk : ∀ x, (enc x).length = size) : ∀ (ys : List α) (j : Nat) (u : Value), (ys.flatMap enc)[j]? = some u → ∃ i x r, ys[i]? = some x ∧ (enc x)[r]? = some u ∧ j = i * size + r
  | [], j, u, h => by simp at h
  | y :: ys, j, u, h => by
    rw [List.flatMap_cons] at h
    by_cases hj : j < (enc y).length
    · rw [List.getElem?_append_left hj] at h
      exact ⟨0, y, j, rfl, h, by omega⟩
    · rw [List.getElem?_append_right (by omega)] at h
      obtain ⟨i, x, r, h1, h2, h3⟩ := flat_at hk ys _ u h
      refine ⟨i + 1, x, r, by simpa using h1, h2, ?_⟩
      rw [hk] at h3 hj
      rw [Nat.succ_mul]
      omega
theorem run_append_of_nil (w : World) (base : Nat) (t ty e : TypeId) (i : TypeInfo) (ht : P.underlying t = some (.slice e)) (hi : P.info? e = some i)
    (v : Value) (n : Nat) (xs : List Value) (hown : w.ownsRow base e size v n xs) (c : Nat) : (Builtin.append_ #[t, t] ty #[v, .slice none 0 c]).run P w = .ok v w := by
  rcases hown.2 with ⟨rfl, rfl⟩ | ⟨g, cap, cur, rfl, _, _, hnc, _⟩
  · simp [Builtin.append_, run_underlying ht, sizeOf, typeInfo, hi, Builtin.lenOf, Builtin.firstCells]
  · simp [Builtin.append_, run_underlying ht, sizeOf, typeInfo, hi, Builtin.lenOf, Builtin.firstCells, hnc, storeCells]
/-- What an append is asked: the row, the source, and that the sizes stay in bounds. -/
structure AppOk (P : Program) (size : Nat) (enc : α → List Value) (w : World) (base : Nat) (t e : TypeId) (v : Value) (xs : List α) (A : Option Addr) (m c : Nat) (ys : List α) : Prop where
  hk : ∀ x, (enc x).length = size
  h1 : ∀ x, ∀ u ∈ enc x, u.oneCell' = true
  ht : P.underlying t = some (.slice e)
  info : ∃ z bytes, (P.info? e).map (fun i => (i.zero, i.size, i.bytes)) = some (some z, size, bytes) ∧ z.cells.size = size ∧ (xs.length + m) * bytes ≤ 140737488355328
  pos : 0 < size
  own : Own size enc e w base v xs
  src : ∃ lo hi, SlK size enc w lo hi A m c ys
  h63 : xs.length + m ≤ maxLen
  hb : base ≤ w.heap.size
theorem run_app {w : World} {base : Nat} {t ty e : TypeId} {v : Value} {xs ys : List α} {A : Option Addr} {m c : Nat} (H : AppOk P size enc w base t e v xs A m c ys) :
    ∃ v' w', (Builtin.append_ #[t, t] ty #[v, .slice A m c]).run P w = .ok v' w' ∧ Own size enc e w' base v' (xs ++ ys) ∧ w.grownBy w' v.ownBlock ∧ (v'.ownBlock = v.ownBlock ∨ v'.ownBlock = some w.heap.size) := by
  obtain ⟨hk, h1, ht, ⟨z, bytes, hinfo, hzs, hbytes⟩, hpos, hown, ⟨lo, hi, hr⟩, h63, hb⟩ := H
  obtain ⟨i0, hi0, hz0, hz1, hz2⟩ := info_parts hinfo
  have hle : (ys.flatMap enc).length = m * size := by rw [flat_length hk, hr.len]
  have hfin : ∀ {w' : World} {v' : Value}, w'.ownsRow base e size v' (xs.length + m) (xs.flatMap enc ++ ys.flatMap enc) → Own size enc e w' base v' (xs ++ ys) := fun h => by
    show World.ownsRow _ base e size _ (xs ++ ys).length ((xs ++ ys).flatMap enc)
    rw [List.flatMap_append, List.length_append, hr.len]
    exact h
  rcases A with _ | ad
  · have hm : m = 0 := by
      rcases Nat.eq_zero_or_pos m with h0 | h0
      · exact h0
      · obtain ⟨_, _, h, _⟩ := hr.2.2.2 h0
        cases h
    subst hm
    have hn : ys = [] := List.eq_nil_of_length_eq_zero hr.len
    subst hn
    exact ⟨v, w, run_append_of_nil w base t ty e i0 ht hi0 v _ _ hown c, by simpa using hown, World.grownBy.refl w _, .inl rfl⟩
  · obtain ⟨v', w', h2, h3, h4, _, h5⟩ := run_append_own_at (P := P) w base t ty e i0 z size bytes ht hi0 hz0 hz1 hz2 hzs hpos v _ _ hown ad m c (ys.flatMap enc) hle
      (fun j u hu => by
        obtain ⟨i, x, r, hx, hxr, rfl⟩ := flat_at hk ys j u hu
        have hm : 0 < m := by have := (List.getElem?_eq_some_iff.1 hx).1; have := hr.len; omega
        obtain ⟨b, off, hA, _, _, hc⟩ := hr.2.2.2 hm
        injection hA with hA
        subst hA
        rw [Addr.add_mid, ← Nat.add_assoc]
        exact (hc i x hx r u hxr).1)
      (fun u hu => by
        obtain ⟨x, _, hx⟩ := List.mem_flatMap.1 hu
        exact h1 x u hx) h63 hbytes hb
    exact ⟨v', w', h2, hfin h3, h4, h5⟩
theorem wp_app {w : World} {base : Nat} {t e : TypeId} {v : Value} {xs ys : List α} {A : Option Addr} {m c : Nat} {o : Oper} {a : Act} {K : Act → World → Prop} {Q : Exit → Act → World → Prop} (s x : Operand)
    (ho : o.op = .call { callee := .builtin .append, args := #[s, x], argTypes := #[t, t] }) (hs : a.eval s = v) (hx : a.eval x = .slice A m c) (H : AppOk P size enc w base t e v xs A m c ys)
    (h : ∀ v' w', Own size enc e w' base v' (xs ++ ys) → w.grownBy w' v.ownBlock → (v'.ownBlock = v.ownBlock ∨ v'.ownBlock = some w.heap.size) → K (a.put o.dst v') w') : o.wp P a w K Q := by
  obtain ⟨v', w', hrun, h2, h3, h4⟩ := run_app (ty := o.type) H
  unfold Oper.wp execOp
  simp only [ho, resolve, invoke, builtin, Sem.run_bind, Sem.run_pure, Result.andThen_ok, List.map_toArray, List.map_cons, List.map_nil, hs, hx, hrun]
  exact h v' w' h2 h3 h4
theorem wpList_app {w : World} {base : Nat} {t e : TypeId} {v : Value} {xs ys : List α} {A : Option Addr} {m c : Nat} {ops : Array Oper} {rest : List Oper} {o : Oper} {a : Act} {Q : Exit → Act → World → Prop} (hgd : o.guard = none) (s x : Operand)
    (ho : o.op = .call { callee := .builtin .append, args := #[s, x], argTypes := #[t, t] }) (hs : a.eval s = v) (hx : a.eval x = .slice A m c) (H : AppOk P size enc w base t e v xs A m c ys)
    (h : ∀ v' w', Own size enc e w' base v' (xs ++ ys) → w.grownBy w' v.ownBlock → (v'.ownBlock = v.ownBlock ∨ v'.ownBlock = some w.heap.size) → wpList P ops Q rest (a.put o.dst v') w') : wpList P ops Q (o :: rest) a w :=
  wpList_plain hgd fun _ hK => wp_app s x ho hs hx H fun v' w' h2 h3 h4 => hK _ _ (h v' w' h2 h3 h4)
end
theorem SlK.take_ {α : Type} {k : Nat} {enc : α → List Value} {w : World} {lo hi : Nat} {A : Option Addr} {n c m : Nat} {xs : List α} (h : SlK k enc w lo hi A n c xs) (hm : m ≤ n) : SlK k enc w lo hi A m c (xs.take m) := by
  obtain ⟨h1, h2, h3, h4⟩ := h
  refine ⟨by rw [List.length_take]; omega, by omega, h3, fun hp => ?_⟩
  obtain ⟨b, off, hA, hl, hb, hc⟩ := h4 (by omega)
  refine ⟨b, off, hA, hl, hb, fun i x hx j u hu => hc i x ?_ j u hu⟩
  rw [List.getElem?_take] at hx
  split at hx
  · exact hx
  · cases hx
theorem SlK.drop_ {α : Type} {k : Nat} {enc : α → List Value} {w : World} {lo hi : Nat} {A : Option Addr} {n c m : Nat} {xs : List α} (h : SlK k enc w lo hi A n c xs) (hm : m < n) :
    ∃ b off, A = some ⟨b, off, none⟩ ∧ b < hi ∧ SlK k enc w lo hi (some ⟨b, off + m * k, none⟩) (n - m) (c - m) (xs.drop m) := by
  obtain ⟨h1, h2, h3, h4⟩ := h
  obtain ⟨b, off, hA, hl, hb, hc⟩ := h4 (by omega)
  refine ⟨b, off, hA, hb, by rw [List.length_drop]; omega, by omega, by omega, fun hp => ⟨b, off + m * k, rfl, hl, hb, fun i x hx j u hu => ?_⟩⟩
  rw [List.getElem?_drop] at hx
  have := hc (m + i) x hx j u hu
  rwa [Nat.add_mul, ← Nat.add_assoc] at this
theorem Own.slk' {α : Type} {k : Nat} {enc : α → List Value} {w : World} {xs : List α} {e : TypeId} {base n : Nat} {v : Value} (hk : ∀ x, (enc x).length = k) (hn : xs.length = n) (h : Own k enc e w base v xs) : ∃ A c, v = .slice A n c ∧ SlK k enc w base w.heap.size A n c xs := by
  subst hn
  exact Own.slk hk h
theorem Own.drewN {α : Type} {k : Nat} {enc : α → List Value} {w : World} {xs : List α} {e : TypeId} {base : Nat} {v : Value} (h : Own k enc e w base v xs) (q : Nat) : Own k enc e (w.drewN q) base v xs := h
theorem Own.base_le {α : Type} {k : Nat} {enc : α → List Value} {w : World} {xs : List α} {e : TypeId} {base base' : Nat} {v : Value} (h : Own k enc e w base v xs) (hb : base' ≤ base) : Own k enc e w base' v xs := by
  obtain ⟨h1, h2⟩ := h
  refine ⟨h1, ?_⟩
  rcases h2 with h2 | ⟨g, cap, cur, hv, hg, rest⟩
  · exact .inl h2
  · exact .inr ⟨g, cap, cur, hv, by omega, rest⟩
/-- A new block of literals, read as a slice. -/
theorem slk_new {α : Type} {k : Nat} {enc : α → List Value} (hk : ∀ x, (enc x).length = k) (w : World) (xs : List α) (n : Nat) (cs : Array Value) (T : TypeId) (hn : xs.length = n) (hm : n ≤ maxLen) (hcs : cs = (xs.flatMap enc).toArray) :
    SlK k enc (w.alloc (.cells cs T)) w.heap.size (w.heap.size + 1) (some ⟨w.heap.size, 0, none⟩) n n xs := by
  subst hn hcs
  refine ⟨rfl, Nat.le_refl _, hm, fun _ => ⟨w.heap.size, 0, rfl, Nat.le_refl _, Nat.lt_succ_self _, fun i x hx j u hu => ?_⟩⟩
  have hb := Blk.new w T (xs.flatMap enc).toArray (g := w.heap.size) rfl
  rw [hb.cell, hb.frozen, Nat.zero_add]
  exact ⟨by simpa using flat_get hk xs i x j u hx hu, rfl⟩
theorem encInt_one (x : Int) : ∀ u ∈ encInt x, u.oneCell' = true := ints_oneCell .i64 [x]
theorem slk_one (w : World) (x : Int) (T : TypeId) : SlK 1 encInt (w.alloc (.cells #[.int .i64 x] T)) w.heap.size (w.heap.size + 1) (some ⟨w.heap.size, 0, none⟩) 1 1 [x] :=
  slk_new encInt_len w [x] 1 _ T rfl (by simp [maxLen]) rfl
/-- An own row, made by literals. -/
theorem own_lit {w : World} {base : Nat} (hb : base ≤ w.heap.size) (xs : List Int) (n : Nat) (cs : Array Value) (T : TypeId) (hn : xs.length = n) (hm : n ≤ maxLen) (hcs : cs = (xs.map (Value.int .i64)).toArray) :
    Own 1 encInt T (w.alloc (.cells cs T)) base (.slice (some ⟨w.heap.size, 0, none⟩) n n) xs := by
  subst hn hcs
  have := World.ownsRow_lit (base := base) (size := 1) (e := T) w (xs.map (Value.int .i64)).toArray xs.length hb hm (by simp)
  show World.ownsRow _ base T 1 _ xs.length (xs.flatMap encInt)
  have e : xs.flatMap encInt = xs.map (Value.int .i64) := by
    clear this hm
    induction xs with
    | nil => rfl
    | cons x xs ih => rw [List.flatMap_cons, ih]; rfl
  rw [e]
  simpa using this
theorem below_app {B : Nat} {a w w' : World} {α : Type} {size : Nat} {enc : α → List Value} {e : TypeId} {v : Value} {xs : List α} (h : Below B a w) (ho : Own size enc e w B v xs) (hB : B ≤ w.heap.size) (o : Obj) (hg : (w.alloc o).grownBy w' v.ownBlock) : Below B a w' :=
  (h.alloc hB o).grown hg (by simp; omega) (fun k hk => (ho.lt k hk).1)
theorem below_app0 {B : Nat} {a w w' : World} {α : Type} {size : Nat} {enc : α → List Value} {e : TypeId} {v : Value} {xs : List α} (h : Below B a w) (ho : Own size enc e w B v xs) (hB : B ≤ w.heap.size) (hg : w.grownBy w' v.ownBlock) : Below B a w' :=
  h.grown hg hB (fun k hk => (ho.lt k hk).1)
/-- append as one step of a region that draws its order. -/
theorem step_app {P : Program} {α : Type} {enc : α → List Value} {size : Nat} {w : World} {base : Nat} {t e : TypeId} {v : Value} {xs ys : List α} {A : Option Addr} {m c : Nat} {ops : Array Oper} {o : Oper} {a : Act} {K : Act → World → Prop} {Q : Exit → Act → World → Prop} {E : Prop} (hgd : o.guard = none) (s x : Operand)
    (ho : o.op = .call { callee := .builtin .append, args := #[s, x], argTypes := #[t, t] }) (hs : a.eval s = v) (hx : a.eval x = .slice A m c) (H : AppOk P size enc w base t e v xs A m c ys)
    (h : ∀ v' w', Own size enc e w' base v' (xs ++ ys) → w.grownBy w' v.ownBlock → (v'.ownBlock = v.ownBlock ∨ v'.ownBlock = some w.heap.size) → K (a.put o.dst v') w') :
    if Region.wanted o (yielded ops a.tmps) = true then Oper.wp P o a w K Q else E := by
  have hw : Region.wanted o (yielded ops a.tmps) = true := by simp [Region.wanted, hgd]
  rw [if_pos hw]
  exact wp_app s x ho hs hx H h
end Go.Proofs.Ytkpakpjbpmnbgaa
