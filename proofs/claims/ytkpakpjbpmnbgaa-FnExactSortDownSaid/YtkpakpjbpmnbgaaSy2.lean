/- One element put into its place, halves of a merge, blocks of a stable sort: plain words. No program in sight. -/
import Derived.Test.YtkpakpjbpmnbgaaSym
namespace Go.Proofs.Ytkpakpjbpmnbgaa
open Go.ChangeShapes Go.WideShapes Go.ChangeAt Go.RowKit Go.Deep
set_option linter.unusedVariables false
set_option linter.unusedSimpArgs false

theorem rot_id1 (F : Nat → Int) (a b : Nat) : rotF F a a b = F := by
  funext p
  simp only [rotF]
  repeat' split
  all_goals first | (exfalso; omega) | (congr 1; omega) | rfl
theorem rot_id2 (F : Nat → Int) (a b : Nat) : rotF F a b b = F := by
  funext p
  simp only [rotF]
  repeat' split
  all_goals first | (exfalso; omega) | (congr 1; omega) | rfl
theorem rotL_step (F : Nat → Int) {a k : Nat} (h : a ≤ k) : rotF F a (a + 1) (k + 2) = fun p => if p = k + 1 then F a else if p = k then F (k + 1) else rotF F a (a + 1) (k + 1) p := by
  funext p
  simp only [rotF]
  repeat' split
  all_goals first | (exfalso; omega) | (congr 1; omega) | rfl
theorem rotL_at (F : Nat → Int) {a k : Nat} (h : a ≤ k) : rotF F a (a + 1) (k + 1) k = F a ∧ rotF F a (a + 1) (k + 1) (k + 1) = F (k + 1) := by
  constructor
  all_goals
    simp only [rotF]
    repeat' split
    all_goals first | (exfalso; omega) | (congr 1; omega) | rfl
theorem rotR_step (F : Nat → Int) {k m : Nat} (h : k < m) : rotF F k m (m + 1) = fun p => if p = k then F m else if p = k + 1 then F k else rotF F (k + 1) m (m + 1) p := by
  funext p
  simp only [rotF]
  repeat' split
  all_goals first | (exfalso; omega) | (congr 1; omega) | rfl
theorem rotR_at (F : Nat → Int) {k m : Nat} (h : k < m) : rotF F (k + 1) m (m + 1) (k + 1) = F m ∧ rotF F (k + 1) m (m + 1) k = F k := by
  constructor
  all_goals
    simp only [rotF]
    repeat' split
    all_goals first | (exfalso; omega) | (congr 1; omega) | rfl
/-- All of the one part before all of the other, as numbers. -/
def LtF (F : Nat → Int) (a m b : Nat) : Prop := ∀ p q, a ≤ p → p < m → m ≤ q → q < b → F p < F q
def InF (F : Nat → Int) (n : Nat) : Prop := ∀ p, p < n → 0 ≤ F p ∧ F p < n
theorem leK_of_not {ks : List Int} {d : Bool} {x y : Int} (h : lessK ks d y x = false) (hlt : x < y) : leK ks d x y = true := by
  unfold leK
  rw [h]
  have h2 : x ≤ y := by omega
  simp [h2]
theorem leK_of_less {ks : List Int} {d : Bool} {x y : Int} (h : lessK ks d x y = true) : leK ks d x y = true := by
  unfold leK
  rw [h]
  simp
theorem SortedF.one {ks : List Int} {d : Bool} {F : Nat → Int} {a b : Nat} (h : b ≤ a + 1) : SortedF ks d F a b := fun p q h1 h2 h3 => by omega
theorem SortedF.sub {ks : List Int} {d : Bool} {F : Nat → Int} {a b a' b' : Nat} (h : SortedF ks d F a b) (h1 : a ≤ a') (h2 : b' ≤ b) : SortedF ks d F a' b' := fun p q x y z => h p q (by omega) y (by omega)
theorem SortedF.shift {ks : List Int} {d : Bool} {F G : Nat → Int} {a b a' b' : Nat} (h : SortedF ks d F a b) (hb : b' - a' ≤ b - a) (e : ∀ p, a' ≤ p → p < b' → G p = F (p - a' + a)) : SortedF ks d G a' b' := fun p q x y z => by
  rw [e p x (by omega), e q (by omega) z]
  exact h _ _ (by omega) (by omega) (by omega)
theorem SortedF.congr {ks : List Int} {d : Bool} {F G : Nat → Int} {a b : Nat} (h : SortedF ks d F a b) (e : ∀ p, a ≤ p → p < b → G p = F p) : SortedF ks d G a b := fun p q x y z => by
  rw [e p x (by omega), e q (by omega) z]
  exact h p q x y z
theorem InF.merged {ks : List Int} {d : Bool} {F G : Nat → Int} {a b n : Nat} (h : InF F n) (m : Merged ks d F G a b) (hb : b ≤ n) : InF G n := fun p hp => by
  by_cases hh : a ≤ p ∧ p < b
  · obtain ⟨q, q1, q2, e⟩ := m.mem hh.1 hh.2
    rw [← e]
    exact h q (by omega)
  · rw [m.out p (by omega)]
    exact h p hp
theorem InF.rot {F : Nat → Int} {a m b n : Nat} (h : InF F n) (h1 : a ≤ m) (h2 : m ≤ b) (hb : b ≤ n) : InF (rotF F a m b) n := fun p hp => by
  simp only [rotF]
  repeat' split
  all_goals exact h _ (by omega)
/-- What stood first goes behind all that are less. -/
theorem one_left {ks : List Int} {d : Bool} {F : Nat → Int} {a i b : Nat} (h1 : a + 1 ≤ i) (h2 : i ≤ b) (hR : SortedF ks d F (a + 1) b) (hlt : LtF F a (a + 1) b)
    (hp : i = a + 1 ∨ lessK ks d (F (i - 1)) (F a) = true) (hq : i = b ∨ lessK ks d (F i) (F a) = false) : Merged ks d F (rotF F a (a + 1) i) a b := by
  have hs1 : SortedF ks d (rotF F a (a + 1) i) a (i - 1) := hR.shift (a := a + 1) (by omega) (fun p x y => by
    simp only [rotF]
    rw [if_pos (by omega), if_pos (by omega)]
    congr 1
    omega)
  refine merge_join (F1 := rotF F a (a + 1) i) (F2 := rotF F a (a + 1) i) (start := a) (m := a + 1) (en := i) (mid := i - 1) (Nat.le_refl _) (by omega) h1 h2 (by omega) (SortedF.one (Nat.le_refl _)) hR rfl (.inl rfl)
    (hp.imp id fun h => .inr (leK_of_less h)) (Merged.refl hs1) (Merged.refl ?_)
  intro p q hp1 hpq hqb
  have e2 : rotF F a (a + 1) i q = F q := rot_out F (by omega)
  rw [e2]
  by_cases hpi : p = i - 1
  · have e1 : rotF F a (a + 1) i p = F a := by
      simp only [rotF]
      rw [if_pos (by omega), if_neg (by omega)]
      congr 1
      omega
    rw [e1]
    rcases hq with h | h
    · omega
    · exact leK_trans ks d _ _ _ (leK_of_not h (hlt a i (Nat.le_refl _) (by omega) (by omega) (by omega))) (hR.le (by omega) (by omega) hqb)
  · have e1 : rotF F a (a + 1) i p = F p := rot_out F (by omega)
    rw [e1]
    exact hR p q (by omega) hpq hqb
/-- What stood last goes before all that are greater. -/
theorem one_right {ks : List Int} {d : Bool} {F : Nat → Int} {a i m : Nat} (h1 : a ≤ i) (h2 : i ≤ m) (hL : SortedF ks d F a m) (hlt : LtF F a m (m + 1))
    (hp : i = a ∨ lessK ks d (F m) (F (i - 1)) = false) (hq : i = m ∨ lessK ks d (F m) (F i) = true) : Merged ks d F (rotF F i m (m + 1)) a (m + 1) := by
  have hs2 : SortedF ks d (rotF F i m (m + 1)) (i + 1) (m + 1) := (hL.sub h1 (Nat.le_refl _)).shift (by omega) (fun p x y => by
    simp only [rotF]
    rw [if_pos (by omega), if_neg (by omega)]
    congr 1
    omega)
  refine merge_join (F1 := rotF F i m (m + 1)) (F2 := rotF F i m (m + 1)) (start := i) (m := m) (en := m + 1) (mid := i + 1) h1 h2 (by omega) (Nat.le_refl _) (by omega) hL (SortedF.one (by omega)) rfl (.inr (.inl rfl))
    (hq.elim (fun h => .inr (.inl h)) fun h => .inr (.inr (leK_of_less h))) (Merged.refl ?_) (Merged.refl hs2)
  intro p q hp1 hpq hqb
  have e1 : rotF F i m (m + 1) p = F p := rot_out F (by omega)
  rw [e1]
  by_cases hqi : q = i
  · have e2 : rotF F i m (m + 1) q = F m := by
      simp only [rotF]
      rw [if_pos (by omega), if_pos (by omega)]
      congr 1
      omega
    rw [e2]
    rcases hp with h | h
    · omega
    · exact leK_trans ks d _ _ _ (hL.le hp1 (by omega : p ≤ i - 1) (by omega)) (leK_of_not h (hlt (i - 1) m (by omega) (by omega) (by omega) (by omega)))
  · have e2 : rotF F i m (m + 1) q = F q := rot_out F (by omega)
    rw [e2]
    exact hL p q hp1 hpq (by omega)
/-- What a merge of two parts asks. -/
structure Parts2 (ks : List Int) (d : Bool) (F : Nat → Int) (a m b n : Nat) : Prop where
  left : SortedF ks d F a m
  right : SortedF ks d F m b
  lt : LtF F a m b
  inn : InF F n
theorem halves1 {ks : List Int} {d : Bool} {F : Nat → Int} {a m b n s en mid : Nat} (h : Parts2 ks d F a m b n) (hbn : b ≤ n) (h1 : a ≤ s) (h2 : s ≤ m) (h3 : m ≤ en) (h4 : en ≤ b) (hmid : mid = s + (en - m)) : Parts2 ks d (rotF F s m en) a s mid n where
  left := (h.left.sub (Nat.le_refl _) h2).congr fun p x y => rot_out F (by omega)
  right := h.right.shift (by omega) fun p x y => by
    simp only [rotF]
    rw [if_pos (by omega), if_pos (by omega)]
    congr 1
    omega
  lt := fun p q x y z u => by
    have e1 : rotF F s m en p = F p := rot_out F (by omega)
    have e2 : rotF F s m en q = F (q + (m - s)) := by
      simp only [rotF]
      rw [if_pos (by omega), if_pos (by omega)]
    rw [e1, e2]
    exact h.lt _ _ x (by omega) (by omega) (by omega)
  inn := h.inn.rot h2 h3 (by omega)
theorem halves2 {ks : List Int} {d : Bool} {F G : Nat → Int} {a m b n s en mid : Nat} (h : Parts2 ks d F a m b n) (hbn : b ≤ n) (h1 : a ≤ s) (h2 : s ≤ m) (h3 : m ≤ en) (h4 : en ≤ b) (hmid : mid = s + (en - m)) (hG : Merged ks d (rotF F s m en) G a mid) : Parts2 ks d G mid en b n := by
  have e1 : ∀ p, mid ≤ p → p < en → G p = F (p - mid + s) := fun p x y => by
    rw [hG.out p (by omega)]
    simp only [rotF]
    rw [if_pos (by omega), if_neg (by omega)]
    congr 1
    omega
  have e2 : ∀ p, en ≤ p → G p = F p := fun p x => by
    rw [hG.out p (by omega)]
    exact rot_out F (by omega)
  exact {
    left := (h.left.sub h1 (Nat.le_refl _)).shift (by omega) e1
    right := (h.right.sub h3 (Nat.le_refl _)).congr fun p x y => e2 p x
    lt := fun p q x y z u => by
      rw [e1 p x y, e2 q z]
      exact h.lt _ _ (by omega) (by omega) (by omega) u
    inn := (h.inn.rot h2 h3 (by omega)).merged hG (by omega) }
theorem Parts2.degen {ks : List Int} {d : Bool} {F : Nat → Int} {a m b n : Nat} (h : Parts2 ks d F a m b n) (hh : ¬ (a < m ∧ m < b)) (h1 : a ≤ m) (h2 : m ≤ b) : Merged ks d F F a b := by
  refine Merged.refl ?_
  by_cases hb : m < b
  · obtain rfl : a = m := by omega
    exact h.right
  · obtain rfl : m = b := by omega
    exact h.left
end Go.Proofs.Ytkpakpjbpmnbgaa
