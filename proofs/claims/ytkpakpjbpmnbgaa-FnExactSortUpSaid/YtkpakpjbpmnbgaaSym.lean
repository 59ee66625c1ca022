/- Ranges exchanged, parts exchanged, parts merged in place: plain words. No program in sight. -/
import Derived.Test.YtkpakpjbpmnbgaaIsl
namespace Go.Proofs.Ytkpakpjbpmnbgaa
open Go.ChangeShapes Go.WideShapes Go.ChangeAt Go.RowKit Go.Deep
set_option linter.unusedVariables false
set_option linter.unusedSimpArgs false

/-- What stands from a to b - 1. -/
def seg (F : Nat → Int) (a b : Nat) : List Int := (List.range (b - a)).map fun i => F (a + i)
/-- Two ranges of m each, exchanged. -/
def swapF (F : Nat → Int) (a b m : Nat) : Nat → Int := fun p => if a ≤ p ∧ p < a + m then F (p - a + b) else if b ≤ p ∧ p < b + m then F (p - b + a) else F p
/-- The parts from a and from m on, exchanged. -/
def rotF (F : Nat → Int) (a m b : Nat) : Nat → Int := fun p => if a ≤ p ∧ p < b then (if p < a + (b - m) then F (p + (m - a)) else F (p - (b - m))) else F p
theorem rot_gt (F : Nat → Int) {m i j : Nat} (hj : j < i) (hi : i ≤ m) : rotF F (m - i) m (m + j) = rotF (swapF F (m - i) m j) (m - i + j) m (m + j) := by
  funext p
  simp only [rotF, swapF]
  repeat' split
  all_goals first | (exfalso; omega) | (congr 1; omega) | rfl
theorem rot_lt (F : Nat → Int) {m i j : Nat} (hj : i < j) (hi : i ≤ m) : rotF F (m - i) m (m + j) = rotF (swapF F (m - i) (m + j - i) i) (m - i) m (m + j - i) := by
  funext p
  simp only [rotF, swapF]
  repeat' split
  all_goals first | (exfalso; omega) | (congr 1; omega) | rfl
theorem rot_eq (F : Nat → Int) {m i : Nat} (hi : i ≤ m) : rotF F (m - i) m (m + i) = swapF F (m - i) m i := by
  funext p
  simp only [rotF, swapF]
  repeat' split
  all_goals first | (exfalso; omega) | (congr 1; omega) | rfl
theorem swapF_succ (F : Nat → Int) {a b m : Nat} (h : a + m < b) : swapF F a b (m + 1) = fun p => if p = a + m then F (b + m) else if p = b + m then F (a + m) else swapF F a b m p := by
  funext p
  simp only [swapF]
  repeat' split
  all_goals first | (exfalso; omega) | (congr 1; omega) | rfl
theorem swapF_at1 (F : Nat → Int) {a b m : Nat} (h : a + m < b) : swapF F a b m (a + m) = F (a + m) ∧ swapF F a b m (b + m) = F (b + m) := by
  constructor
  all_goals
    simp only [swapF]
    repeat' split
    all_goals first | (exfalso; omega) | (congr 1; omega) | rfl
theorem seg_app (F : Nat → Int) {a m b : Nat} (h1 : a ≤ m) (h2 : m ≤ b) : seg F a b = seg F a m ++ seg F m b := by
  unfold seg
  rw [show b - a = (m - a) + (b - m) by omega, List.range_add, List.map_append, List.map_map]
  congr 1
  apply List.map_congr_left
  intro i _
  show F (a + (m - a + i)) = F (m + i)
  congr 1
  omega
theorem seg_congr {F G : Nat → Int} {a b : Nat} (h : ∀ p, a ≤ p → p < b → F p = G p) : seg F a b = seg G a b := by
  unfold seg
  apply List.map_congr_left
  intro i hi
  rw [List.mem_range] at hi
  exact h _ (by omega) (by omega)
theorem seg_mem {F : Nat → Int} {a b : Nat} {x : Int} : x ∈ seg F a b ↔ ∃ p, a ≤ p ∧ p < b ∧ F p = x := by
  unfold seg
  rw [List.mem_map]
  constructor
  · rintro ⟨i, hi, rfl⟩
    rw [List.mem_range] at hi
    exact ⟨a + i, by omega, by omega, rfl⟩
  · rintro ⟨p, h1, h2, rfl⟩
    exact ⟨p - a, by rw [List.mem_range]; omega, by congr 1; omega⟩
theorem rot_left (F : Nat → Int) {a m b : Nat} (h1 : a ≤ m) (h2 : m ≤ b) : seg (rotF F a m b) a (a + (b - m)) = seg F m b := by
  unfold seg
  rw [show a + (b - m) - a = b - m by omega]
  apply List.map_congr_left
  intro i hi
  rw [List.mem_range] at hi
  simp only [rotF]
  rw [if_pos (by omega), if_pos (by omega)]
  congr 1
  omega
theorem rot_right (F : Nat → Int) {a m b : Nat} (h1 : a ≤ m) (h2 : m ≤ b) : seg (rotF F a m b) (a + (b - m)) b = seg F a m := by
  unfold seg
  rw [show b - (a + (b - m)) = m - a by omega]
  apply List.map_congr_left
  intro i hi
  rw [List.mem_range] at hi
  simp only [rotF]
  rw [if_pos (by omega), if_neg (by omega)]
  congr 1
  omega
theorem rot_out (F : Nat → Int) {a m b p : Nat} (h : p < a ∨ b ≤ p) : rotF F a m b p = F p := by
  simp only [rotF]
  rw [if_neg (by omega)]
def SortedF (ks : List Int) (d : Bool) (F : Nat → Int) (a b : Nat) : Prop := ∀ p q, a ≤ p → p < q → q < b → leK ks d (F p) (F q) = true
/-- F' is F but from a to b - 1, and there it is F's, sorted. -/
structure Merged (ks : List Int) (d : Bool) (F F' : Nat → Int) (a b : Nat) : Prop where
  out : ∀ p, p < a ∨ b ≤ p → F' p = F p
  sorted : SortedF ks d F' a b
  perm : (seg F' a b).Perm (seg F a b)
theorem Merged.mem {ks : List Int} {d : Bool} {F F' : Nat → Int} {a b : Nat} (h : Merged ks d F F' a b) {p : Nat} (h1 : a ≤ p) (h2 : p < b) : ∃ q, a ≤ q ∧ q < b ∧ F q = F' p :=
  seg_mem.1 (h.perm.mem_iff.1 (seg_mem.2 ⟨p, h1, h2, rfl⟩))
theorem Merged.refl {ks : List Int} {d : Bool} {F : Nat → Int} {a b : Nat} (h : SortedF ks d F a b) : Merged ks d F F a b := ⟨fun _ _ => rfl, h, List.Perm.refl _⟩
theorem SortedF.le {ks : List Int} {d : Bool} {F : Nat → Int} {a b : Nat} (h : SortedF ks d F a b) {p q : Nat} (h1 : a ≤ p) (h2 : p ≤ q) (h3 : q < b) : leK ks d (F p) (F q) = true := by
  rcases Nat.lt_or_ge p q with hlt | hge
  · exact h p q h1 hlt h3
  · obtain rfl : p = q := by omega
    unfold leK lessK
    cases d <;> simp
/-- Two sorted halves, all of the one before all of the other. -/
theorem merge_join {ks : List Int} {d : Bool} {F F1 F2 F3 : Nat → Int} {a start m en b mid : Nat} (h1 : a ≤ start) (h2 : start ≤ m) (h3 : m ≤ en) (h4 : en ≤ b) (hmid : mid = start + (en - m))
    (hL : SortedF ks d F a m) (hR : SortedF ks d F m b) (hF1 : F1 = rotF F start m en)
    (ha : start = a ∨ en = b ∨ leK ks d (F (start - 1)) (F en) = true) (hb : en = m ∨ start = m ∨ leK ks d (F (en - 1)) (F start) = true)
    (m2 : Merged ks d F1 F2 a mid) (m3 : Merged ks d F2 F3 mid b) : Merged ks d F F3 a b := by
  have hmb : mid ≤ b := by omega
  have ham : a ≤ mid := by omega
  have e1 : seg F1 a mid = seg F a start ++ seg F m en := by
    rw [seg_app F1 h1 (by omega : start ≤ mid), hF1, hmid, rot_left F h2 h3]
    congr 1
    exact seg_congr fun p hp hp2 => rot_out F (by omega)
  have e2 : seg F1 mid b = seg F start m ++ seg F en b := by
    rw [seg_app F1 (by omega : mid ≤ en) h4, hF1, hmid, rot_right F h2 h3]
    congr 1
    exact seg_congr fun p hp hp2 => rot_out F (by omega)
  have e3 : seg F3 a mid = seg F2 a mid := seg_congr fun p hp hp2 => m3.out p (by omega)
  have e4 : seg F2 mid b = seg F1 mid b := seg_congr fun p hp hp2 => m2.out p (by omega)
  have pl : (seg F3 a mid).Perm (seg F a start ++ seg F m en) := by rw [e3, ← e1]; exact m2.perm
  have pr : (seg F3 mid b).Perm (seg F start m ++ seg F en b) := by rw [← e2, ← e4]; exact m3.perm
  have hleft : ∀ p, a ≤ p → p < mid → (∃ q, a ≤ q ∧ q < start ∧ F q = F3 p) ∨ (∃ q, m ≤ q ∧ q < en ∧ F q = F3 p) := fun p hp hp2 => by
    have := pl.mem_iff.1 (seg_mem.2 ⟨p, hp, hp2, rfl⟩)
    rw [List.mem_append] at this
    exact this.imp seg_mem.1 seg_mem.1
  have hright : ∀ p, mid ≤ p → p < b → (∃ q, start ≤ q ∧ q < m ∧ F q = F3 p) ∨ (∃ q, en ≤ q ∧ q < b ∧ F q = F3 p) := fun p hp hp2 => by
    have := pr.mem_iff.1 (seg_mem.2 ⟨p, hp, hp2, rfl⟩)
    rw [List.mem_append] at this
    exact this.imp seg_mem.1 seg_mem.1
  refine ⟨fun p hp => ?_, fun p q hp hpq hq => ?_, ?_⟩
  · rw [m3.out p (by omega), m2.out p (by omega), hF1, rot_out F (by omega)]
  · by_cases hq2 : q < mid
    · rw [m3.out p (by omega), m3.out q (by omega)]
      exact m2.sorted p q hp hpq hq2
    · by_cases hp2 : mid ≤ p
      · exact m3.sorted p q hp2 hpq hq
      · rcases hleft p hp (by omega) with ⟨x, x1, x2, hx⟩ | ⟨x, x1, x2, hx⟩
        · rcases hright q (by omega) hq with ⟨y, y1, y2, hy⟩ | ⟨y, y1, y2, hy⟩
          · rw [← hx, ← hy]
            exact hL.le x1 (by omega) y2
          · rw [← hx, ← hy]
            rcases ha with h | h | h
            · omega
            · omega
            · exact leK_trans ks d _ _ _ (hL.le (q := start - 1) x1 (by omega) (by omega)) (leK_trans ks d _ _ _ h (hR.le (p := en) (by omega) y1 y2))
        · rcases hright q (by omega) hq with ⟨y, y1, y2, hy⟩ | ⟨y, y1, y2, hy⟩
          · rw [← hx, ← hy]
            rcases hb with h | h | h
            · omega
            · omega
            · exact leK_trans ks d _ _ _ (hR.le (q := en - 1) x1 (by omega) (by omega)) (leK_trans ks d _ _ _ h (hL.le (p := start) (by omega) y1 y2))
          · rw [← hx, ← hy]
            exact hR.le x1 (by omega) y2
  · rw [seg_app F3 ham hmb, seg_app F (by omega : a ≤ m) (by omega : m ≤ b), seg_app F h1 h2, seg_app F h3 h4]
    refine (pl.append pr).trans ?_
    simp only [List.append_assoc]
    refine List.Perm.append_left _ ?_
    rw [← List.append_assoc, ← List.append_assoc]
    exact List.Perm.append_right _ List.perm_append_comm
end Go.Proofs.Ytkpakpjbpmnbgaa
