/- The laws' marks on slices of slices of numbers. -/
import Derived.Test.YtehgdhekiogppaaGreatMk
import Derived.Test.YtehgdhekiogppaaGreatGrp
namespace Go.Proofs.YtehgdhekiogppaaGreat
open Go.ChangeShapes Go.WideShapes Go.ChangeAt Go.RowKit Go.Deep
set_option linter.unusedVariables false
set_option linter.unusedSimpArgs false

def totX : List IRow → Nat
  | [] => 0
  | r :: rs => r.xs.length + totX rs
theorem totX_snoc : ∀ (rs : List IRow) (r : IRow), totX (rs ++ [r]) = totX rs + r.xs.length
  | [], r => by simp [totX]
  | x :: rs, r => by rw [List.cons_append, totX, totX_snoc rs r, totX]; omega
theorem totX_app : ∀ (rs ss : List IRow), totX (rs ++ ss) = totX rs + totX ss
  | [], ss => by simp [totX]
  | x :: rs, ss => by rw [List.cons_append, totX, totX_app rs ss, totX]; omega
theorem totX_take {rs : List IRow} {k : Nat} {x : IRow} (hx : rs[k]? = some x) : totX (rs.take (k + 1)) = totX (rs.take k) + x.xs.length := by rw [take_snoc hx, totX_snoc]
theorem totX_le {rs : List IRow} {k : Nat} {x : IRow} (hx : rs[k]? = some x) : totX (rs.take k) + x.xs.length ≤ totX rs := by
  have h1 : totX rs = totX (rs.take (k + 1)) + totX (rs.drop (k + 1)) := by rw [← totX_app, List.take_append_drop]
  rw [h1, take_snoc hx, totX_snoc]
  omega
theorem totX_rowsL {rs ss : List IRow} (h : rowsL rs = rowsL ss) : totX rs = totX ss := by
  have key : ∀ xs : List IRow, totX xs = ((rowsL xs).map List.length).sum := by
    intro xs
    induction xs with
    | nil => rfl
    | cons x xs ih => rw [totX, ih]; simp [rowsL]
  rw [key, key, h]
/-- The rows with their marks: k0, k0 + 1, .. through all of them. -/
def markRows (k0 : Int) : List IRow → List IRow
  | [] => []
  | r :: rs => ⟨r.A, r.n, r.c, marks k0 r.xs.length⟩ :: markRows (k0 + r.xs.length) rs
theorem markRows_snoc : ∀ (rs : List IRow) (k0 : Int) (r : IRow), markRows k0 (rs ++ [r]) = markRows k0 rs ++ [⟨r.A, r.n, r.c, marks (k0 + totX rs) r.xs.length⟩]
  | [], k0, r => by simp [markRows, totX]
  | x :: rs, k0, r => by
    rw [List.cons_append, markRows, markRows_snoc rs _ r, markRows, totX, List.cons_append]
    rw [show k0 + (x.xs.length : Int) + (totX rs : Int) = k0 + ((x.xs.length + totX rs : Nat) : Int) by omega]
theorem markRows_len : ∀ (rs : List IRow) (k0 : Int), (markRows k0 rs).length = rs.length
  | [], _ => rfl
  | x :: rs, k0 => by rw [markRows, List.length_cons, markRows_len rs, List.length_cons]
theorem markRows_at : ∀ (rs : List IRow) (k0 : Int) (i : Nat) (r : IRow), rs[i]? = some r → (markRows k0 rs)[i]? = some ⟨r.A, r.n, r.c, marks (k0 + totX (rs.take i)) r.xs.length⟩
  | [], k0, i, r, h => by simp at h
  | x :: rs, k0, 0, r, h => by
    simp only [List.getElem?_cons_zero, Option.some.injEq] at h
    subst h
    simp [markRows, totX]
  | x :: rs, k0, i + 1, r, h => by
    rw [List.getElem?_cons_succ] at h
    rw [markRows, List.getElem?_cons_succ, markRows_at rs _ i r h, List.take_succ_cons, totX]
    rw [show k0 + (x.xs.length : Int) + (totX (rs.take i) : Int) = k0 + ((x.xs.length + totX (rs.take i) : Nat) : Int) by omega]
/-- Those marked so far, and the others. -/
def markTo (k0 : Int) (rows : List IRow) (j : Nat) : List IRow := markRows k0 (rows.take j) ++ rows.drop j
theorem markTo_zero (k0 : Int) (rows : List IRow) : markTo k0 rows 0 = rows := by simp [markTo, markRows]
theorem markTo_all (k0 : Int) (rows : List IRow) (j : Nat) (h : rows.length ≤ j) : markTo k0 rows j = markRows k0 rows := by
  unfold markTo
  rw [List.take_of_length_le h, List.drop_of_length_le h, List.append_nil]
theorem markTo_at {k0 : Int} {rows : List IRow} {j : Nat} {r : IRow} (h : rows[j]? = some r) : (markTo k0 rows j)[j]? = some r := by
  have hj := (List.getElem?_eq_some_iff.1 h).1
  unfold markTo
  rw [List.getElem?_append_right (by rw [markRows_len, List.length_take]; omega), markRows_len, List.length_take, List.getElem?_drop, show j + (j - min j rows.length) = j by omega, h]
theorem markTo_set {k0 : Int} {rows : List IRow} {j : Nat} {r : IRow} (h : rows[j]? = some r) : (markTo k0 rows j).set j ⟨r.A, r.n, r.c, marks (k0 + totX (rows.take j)) r.xs.length⟩ = markTo k0 rows (j + 1) := by
  obtain ⟨hj, hr⟩ := List.getElem?_eq_some_iff.1 h
  unfold markTo
  rw [List.set_append_right _ _ (by rw [markRows_len, List.length_take]; omega), markRows_len, List.length_take, show j - min j rows.length = 0 by omega, List.drop_eq_getElem_cons hj, List.set_cons_zero, take_snoc h, markRows_snoc]
  simp
/-- A row's numbers are others now; the row itself stands in its place. -/
theorem GrpAt.swap {eS eI : TypeId} {w w' : World} {base : Nat} {v : Value} {rows : List IRow} {r r' : IRow} {i : Nat} (h : GrpAt eS eI w base v rows) (hi : rows[i]? = some r) (he : valRow r' = valRow r) (hr : Own 1 encInt eI w' base (valRow r') r'.xs) (hn : 0 < r'.xs.length)
    (hg : w.grownBy w' (valRow r).ownBlock) : GrpAt eS eI w' base v (rows.set i r') := by
  have hil : i < rows.length := (List.getElem?_eq_some_iff.1 hi).1
  have hrm := List.mem_of_getElem? hi
  have hget : ∀ j x, (rows.set i r')[j]? = some x → (j = i ∧ x = r') ∨ (j ≠ i ∧ rows[j]? = some x) := fun j x hj => by
    by_cases e : j = i
    · subst e
      rw [List.getElem?_set_self hil] at hj
      injection hj with hj
      exact .inl ⟨rfl, hj.symm⟩
    · rw [List.getElem?_set_ne (fun h => e h.symm)] at hj
      exact .inr ⟨e, hj⟩
  have hap : ∀ x ∈ rows, (valRow x).ownBlock ≠ v.ownBlock := fun x hx => h.apart x hx
  refine ⟨?_, fun x hx => ?_, fun j k rj rk hj hk hjk => ?_, fun x hx => ?_⟩
  · have ho : Own 1 encRow eS w' base v rows := h.out.grown hg (.inr (fun e => hap r hrm e.symm))
    show World.ownsRow _ base eS 1 _ (rows.set i r').length ((rows.set i r').flatMap encRow)
    have e2 : (rows.set i r').flatMap encRow = rows.flatMap encRow := by
      rw [flat_rows, flat_rows, List.map_set, he]
      apply List.ext_getElem?
      intro j
      by_cases e : i = j
      · subst e
        rw [List.getElem?_set_self (by simpa using hil), List.getElem?_map, hi]
        rfl
      · rw [List.getElem?_set_ne e]
    rw [List.length_set, e2]
    exact ho
  · obtain ⟨j, hj⟩ := List.mem_iff_getElem?.1 hx
    rcases hget j x hj with ⟨_, rfl⟩ | ⟨hne, hj'⟩
    · exact ⟨hr, hn⟩
    · exact ⟨(h.inn x (List.mem_of_getElem? hj')).1.grown hg (.inr (h.dis j i x r hj' hi hne)), (h.inn x (List.mem_of_getElem? hj')).2⟩
  · rcases hget j rj hj with ⟨rfl, rfl⟩ | ⟨hne, hj'⟩
    · rcases hget k rk hk with ⟨rfl, rfl⟩ | ⟨hne2, hk'⟩
      · exact absurd rfl hjk
      · rw [he]; exact h.dis j k r rk hi hk' hjk
    · rcases hget k rk hk with ⟨rfl, rfl⟩ | ⟨hne2, hk'⟩
      · rw [he]; exact h.dis j k rj r hj' hi hjk
      · exact h.dis j k rj rk hj' hk' hjk
  · obtain ⟨j, hj⟩ := List.mem_iff_getElem?.1 hx
    rcases hget j x hj with ⟨_, rfl⟩ | ⟨_, hj'⟩
    · rw [he]; exact hap r hrm
    · exact hap x (List.mem_of_getElem? hj')
theorem GrpAt.rows1 {eS eI : TypeId} {w : World} {base n : Nat} {v : Value} {rows : List IRow} (h : GrpAt eS eI w base v rows) (hn : rows.length = n) : ∃ A c, v = .slice A n c ∧ RowsAt w base w.heap.size A n c rows := by
  subst hn
  exact h.rowsAt
theorem GrpAt.rows2 {eS eI : TypeId} {w : World} {base n c : Nat} {A : Option Addr} {rows : List IRow} (h : GrpAt eS eI w base (.slice A n c) rows) (hn : rows.length = n) : RowsAt w base w.heap.size A n c rows := by
  obtain ⟨A', c', e, hr⟩ := h.rows1 hn
  injection e with e1 _ e3
  subst e1 e3
  exact hr
theorem GrpAt.mkb {eS eI : TypeId} {w w' : World} {base lo hi : Nat} {v : Value} {rows : List IRow} (hm : MkB lo hi w w') (h : GrpAt eS eI w base v rows) (hd : hi ≤ base) : GrpAt eS eI w' base v rows :=
  ⟨hm.own h.out hd, fun r hr => ⟨hm.own (h.inn r hr).1 hd, (h.inn r hr).2⟩, h.dis, h.apart⟩
theorem RowsAt.mkb {w w' : World} {lo hi l h' : Nat} {A : Option Addr} {n c : Nat} {rows : List IRow} (hm : MkB lo hi w w') (h : RowsAt w l h' A n c rows) (hd : h' ≤ lo ∨ hi ≤ l) : RowsAt w' l h' A n c rows :=
  ⟨hm.slk h.out hd, fun x hx => hm.slk (h.inn x hx) hd⟩
end Go.Proofs.YtehgdhekiogppaaGreat
