/- Blocks of a stable sort: plain words. No program in sight. -/
import Derived.Test.YtkpakpjbpmnbgaaSy2
namespace Go.Proofs.Ytkpakpjbpmnbgaa
open Go.ChangeShapes Go.WideShapes Go.ChangeAt Go.RowKit Go.Deep
set_option linter.unusedVariables false
set_option linter.unusedSimpArgs false

def idF : Nat → Int := fun p => (p : Int)
/-- From a to b - 1 stand just the places from a to b - 1, sorted. -/
structure BlkF (ks : List Int) (d : Bool) (F : Nat → Int) (a b : Nat) : Prop where
  sorted : SortedF ks d F a b
  perm : (seg F a b).Perm (seg idF a b)
theorem BlkF.at_ {ks : List Int} {d : Bool} {F : Nat → Int} {a b p : Nat} (h : BlkF ks d F a b) (h1 : a ≤ p) (h2 : p < b) : (a : Int) ≤ F p ∧ F p < b := by
  obtain ⟨q, q1, q2, e⟩ := seg_mem.1 (h.perm.mem_iff.1 (seg_mem.2 ⟨p, h1, h2, rfl⟩))
  rw [← e]
  unfold idF
  omega
theorem BlkF.congr {ks : List Int} {d : Bool} {F G : Nat → Int} {a b : Nat} (h : BlkF ks d F a b) (e : ∀ p, a ≤ p → p < b → G p = F p) : BlkF ks d G a b :=
  ⟨h.sorted.congr e, by rw [seg_congr (F := G) (G := F) e]; exact h.perm⟩
theorem BlkF.parts {ks : List Int} {d : Bool} {F : Nat → Int} {a m b n : Nat} (h1 : BlkF ks d F a m) (h2 : BlkF ks d F m b) (hi : InF F n) : Parts2 ks d F a m b n :=
  ⟨h1.sorted, h2.sorted, fun p q x y z u => by
    have g1 := h1.at_ x y
    have g2 := h2.at_ z u
    omega, hi⟩
theorem BlkF.join {ks : List Int} {d : Bool} {F G : Nat → Int} {a m b : Nat} (h1 : BlkF ks d F a m) (h2 : BlkF ks d F m b) (ha : a ≤ m) (hb : m ≤ b) (h : Merged ks d F G a b) : BlkF ks d G a b :=
  ⟨h.sorted, h.perm.trans (by rw [seg_app F ha hb, seg_app idF ha hb]; exact h1.perm.append h2.perm)⟩
theorem BlkF.ofId {ks : List Int} {d : Bool} {F G : Nat → Int} {a b : Nat} (e : ∀ p, a ≤ p → p < b → F p = p) (h : Merged ks d F G a b) : BlkF ks d G a b :=
  ⟨h.sorted, h.perm.trans (by rw [seg_congr (F := F) (G := idF) (fun p x y => e p x y)])⟩
/-- The blocks of s that begin before x; from x on. -/
def BksTo (ks : List Int) (d : Bool) (F : Nat → Int) (s x n : Nat) : Prop := ∀ y, s ∣ y → y < x → y < n → BlkF ks d F y (min (y + s) n)
def BksFrom (ks : List Int) (d : Bool) (F : Nat → Int) (s x n : Nat) : Prop := ∀ y, s ∣ y → x ≤ y → y < n → BlkF ks d F y (min (y + s) n)
theorem dvd_next {s x y : Nat} (hx : s ∣ x) (hy : s ∣ y) (h : x < y) : x + s ≤ y := by
  obtain ⟨i, rfl⟩ := hx
  obtain ⟨j, rfl⟩ := hy
  have hij : i < j := Nat.lt_of_mul_lt_mul_left h
  have : s * (i + 1) ≤ s * j := Nat.mul_le_mul_left s hij
  rw [Nat.mul_add, Nat.mul_one] at this
  exact this
theorem dvd_self_add {s x : Nat} (hx : s ∣ x) : s ∣ x + s := Nat.dvd_add hx (Nat.dvd_refl s)
theorem dvd_half {s x : Nat} (hx : 2 * s ∣ x) : s ∣ x := Nat.dvd_trans (Nat.dvd_mul_left s 2) hx
theorem BksTo.zero {ks : List Int} {d : Bool} {F : Nat → Int} {s n : Nat} : BksTo ks d F s 0 n := fun y _ h _ => by omega
/-- One block more. -/
theorem BksTo.more {ks : List Int} {d : Bool} {F G : Nat → Int} {s a b n : Nat} (h : BksTo ks d F s a n) (hs : s ∣ a) (ha : a ≤ n) (hb : b = min (a + s) n) (hm : Merged ks d F G a b) (hB : BlkF ks d G a b) : BksTo ks d G s (a + s) n := fun y hy hlt hn => by
  by_cases hya : y < a
  · have := dvd_next hy hs hya
    exact (h y hy hya hn).congr fun p x z => hm.out p (by omega)
  · have e : y = a := by
      by_cases e : y = a
      · exact e
      · have := dvd_next hs hy (by omega)
        omega
    subst e
    rw [← hb]
    exact hB
theorem BksFrom.less {ks : List Int} {d : Bool} {F G : Nat → Int} {s a b n : Nat} (h : BksFrom ks d F s a n) (hab : a ≤ b) (hm : Merged ks d F G a b) : BksFrom ks d G s b n := fun y hy hlt hn =>
  (h y hy (by omega) hn).congr fun p x z => hm.out p (by omega)
/-- All blocks from the front: a new round. -/
theorem BksTo.all {ks : List Int} {d : Bool} {F : Nat → Int} {s x n : Nat} (h : BksTo ks d F s x n) (hx : n ≤ x) : BksFrom ks d F s 0 n := fun y hy _ hn => h y hy (by omega) hn
theorem BksFrom.done {ks : List Int} {d : Bool} {F : Nat → Int} {s n : Nat} (h : BksFrom ks d F s 0 n) (hs : n ≤ s) : BlkF ks d F 0 n := by
  by_cases hn : 0 < n
  · have := h 0 (Nat.dvd_zero s) (Nat.le_refl 0) hn
    rwa [show min (0 + s) n = n by omega] at this
  · obtain rfl : n = 0 := by omega
    exact ⟨SortedF.one (by omega), List.Perm.refl _⟩
theorem BksFrom.at_ {ks : List Int} {d : Bool} {F : Nat → Int} {s a b n : Nat} (h : BksFrom ks d F s a n) {y : Nat} (hy : s ∣ y) (hay : a ≤ y) (hn : y < n) (hb : b = min (y + s) n) : BlkF ks d F y b := by
  rw [hb]
  exact h y hy hay hn
/-- What is left at the end: one block alone. -/
theorem BksTo.last {ks : List Int} {d : Bool} {F : Nat → Int} {s a n : Nat} (h : BksTo ks d F (2 * s) a n) (h2 : BksFrom ks d F s a n) (hs : 2 * s ∣ a) (ha : a ≤ n) (hm : n ≤ a + s) : BksFrom ks d F (2 * s) 0 n := by
  by_cases hn : a < n
  · have hB := h2.at_ (b := n) (dvd_half hs) (Nat.le_refl a) hn (by omega)
    exact (h.more hs ha (b := n) (by omega) (Merged.refl hB.sorted) hB).all (by omega)
  · exact h.all (by omega)
theorem seg_map (F : Nat → Int) (n : Nat) : seg F 0 n = (List.range n).map F := by
  unfold seg
  rw [Nat.sub_zero]
  apply List.map_congr_left
  intro i _
  rw [Nat.zero_add]
theorem blk_sort {ks : List Int} {d : Bool} {F : Nat → Int} {n : Nat} (h : BlkF ks d F 0 n) : (List.range n).map F = sortBy ks d (rng n) := by
  refine sortBy_unique ?_ ?_
  · rw [List.pairwise_iff_getElem]
    intro i j hi hj hij
    rw [List.length_map, List.length_range] at hi hj
    simp only [List.getElem_map, List.getElem_range]
    exact h.sorted i j (Nat.zero_le _) hij hj
  · have hp := h.perm
    rw [seg_map, seg_map] at hp
    exact hp
theorem inF_id (n : Nat) : InF idF n := fun p hp => by
  unfold idF
  omega
end Go.Proofs.Ytkpakpjbpmnbgaa
