/- Insertion sort of places by keys: it is the stable sort. No program in sight. -/
import Derived.Test.YtkpakpjbpmnbgaaLex
import Derived.Sort.WalkA
import Derived.Sort.LotA
namespace Go.Proofs.Ytkpakpjbpmnbgaa
open Go.ChangeShapes Go.WideShapes Go.ChangeAt Go.RowKit Go.Deep
set_option linter.unusedVariables false
set_option linter.unusedSimpArgs false

theorem set2 (p v : Int) (Q : List Int) : ∀ P : List Int, ((P ++ p :: v :: Q).set (P.length + 1) p).set P.length v = P ++ v :: p :: Q
  | [] => rfl
  | x :: P => by
    have ih := set2 p v Q P
    simp
theorem at_left (p v : Int) (P Q : List Int) : (P ++ p :: v :: Q).toArray[P.length]! = p := by
  simp
theorem at_right (p v : Int) (P Q : List Int) : (P ++ p :: v :: Q).toArray[P.length + 1]! = v := by
  have := at_left v v (P ++ [p]) Q
  have e : P ++ [p] ++ v :: v :: Q = P ++ p :: v :: v :: Q := by simp
  simp
theorem swp_list (p v : Int) (P Q : List Int) : Go.Sort.swp (P ++ p :: v :: Q).toArray (P.length + 1) P.length = (P ++ v :: p :: Q).toArray := by
  unfold Go.Sort.swp
  rw [at_left, at_right]
  simp only [List.setIfInBounds_toArray]
  rw [set2]
def insL (lt : Int → Int → Bool) : List Int → Int → List Int → List Int
  | [], v, Q => v :: Q
  | p :: Pr, v, Q => if lt v p then insL lt Pr v (p :: Q) else (p :: Pr).reverse ++ v :: Q
theorem insInner_list (lt : Int → Int → Bool) (v : Int) : ∀ (Pr Q : List Int), Go.Sort.insInner lt 0 Pr.length (Pr.reverse ++ v :: Q).toArray = (insL lt Pr v Q).toArray
  | [], Q => by
    unfold Go.Sort.insInner
    rfl
  | p :: Pr, Q => by
    have hl : Pr.length = Pr.reverse.length := by simp
    have e1 : (p :: Pr).reverse ++ v :: Q = Pr.reverse ++ p :: v :: Q := by simp
    show Go.Sort.insInner lt 0 (Pr.length + 1) _ = _
    rw [e1]
    have g1 : (Pr.reverse ++ p :: v :: Q).toArray[Pr.length + 1]! = v := by rw [hl]; exact at_right p v _ Q
    have g2 : (Pr.reverse ++ p :: v :: Q).toArray[Pr.length]! = p := by rw [hl]; exact at_left p v _ Q
    by_cases h : lt v p = true
    · rw [Go.Proofs.insInner_go lt 0 (Pr.length + 1) _ (by omega) (by rw [Nat.add_sub_cancel, g1, g2]; exact h), Nat.add_sub_cancel]
      have e2 := swp_list p v Pr.reverse Q
      rw [← hl] at e2
      rw [e2, insInner_list lt v Pr (p :: Q)]
      show _ = (if lt v p then _ else _ : List Int).toArray
      rw [if_pos h]
    · have hf : lt v p = false := by simpa using h
      rw [Go.Proofs.insInner_stop lt 0 (Pr.length + 1) _ (.inr (by rw [Nat.add_sub_cancel, g1, g2]; exact hf))]
      show _ = (if lt v p then _ else _ : List Int).toArray
      rw [if_neg h, e1]
theorem insL_congr {lt lt' : Int → Int → Bool} {v : Int} : ∀ (Pr Q : List Int), (∀ p ∈ Pr, lt v p = lt' v p) → insL lt Pr v Q = insL lt' Pr v Q
  | [], Q, _ => rfl
  | p :: Pr, Q, h => by
    unfold insL
    rw [h p (List.mem_cons_self ..), insL_congr Pr (p :: Q) (fun x hx => h x (List.mem_cons_of_mem _ hx))]
theorem insL_app (lt : Int → Int → Bool) (v : Int) (R : List Int) : ∀ (Pr Q : List Int), insL lt Pr v (Q ++ R) = insL lt Pr v Q ++ R
  | [], Q => rfl
  | p :: Pr, Q => by
    unfold insL
    by_cases h : lt v p = true
    · rw [if_pos h, if_pos h]
      exact insL_app lt v R Pr (p :: Q)
    · rw [if_neg h, if_neg h]
      simp
theorem insL_perm (lt : Int → Int → Bool) (v : Int) : ∀ (Pr Q : List Int), (insL lt Pr v Q).Perm (v :: (Pr.reverse ++ Q))
  | [], Q => List.Perm.refl _
  | p :: Pr, Q => by
    unfold insL
    by_cases h : lt v p = true
    · rw [if_pos h]
      refine (insL_perm lt v Pr (p :: Q)).trans ?_
      simp
    · rw [if_neg h]
      exact List.perm_middle
theorem insL_sorted (ks : List Int) (down : Bool) (v : Int) : ∀ (Pr Q : List Int), (Pr.reverse ++ Q).Pairwise (fun a b => leK ks down a b = true) → (∀ x ∈ Pr, x < v) → (∀ q ∈ Q, lessK ks down v q = true) →
    (insL (lessK ks down) Pr v Q).Pairwise (fun a b => leK ks down a b = true)
  | [], Q, hs, _, hq => by
    refine List.pairwise_cons.2 ⟨fun q hqm => ?_, by simpa using hs⟩
    unfold leK
    rw [hq q hqm]
    rfl
  | p :: Pr, Q, hs, hp, hq => by
    unfold insL
    by_cases h : lessK ks down v p = true
    · rw [if_pos h]
      refine insL_sorted ks down v Pr (p :: Q) (by simpa using hs) (fun x hx => hp x (List.mem_cons_of_mem _ hx)) (fun q hqm => ?_)
      rcases List.mem_cons.1 hqm with rfl | hqm
      · exact h
      · exact hq q hqm
    · rw [if_neg h]
      have hf : lessK ks down v p = false := by simpa using h
      have hpv : leK ks down p v = true := by
        have := hp p (List.mem_cons_self ..)
        unfold leK
        rw [hf]
        simp
        exact .inr (by omega)
      rw [List.pairwise_append] at hs ⊢
      obtain ⟨h1, h2, h3⟩ := hs
      refine ⟨h1, List.pairwise_cons.2 ⟨fun q hqm => ?_, h2⟩, fun x hx y hy => ?_⟩
      · unfold leK
        rw [hq q hqm]
        rfl
      · have hxv : leK ks down x v = true := by
          rw [List.reverse_cons, List.mem_append, List.mem_singleton] at hx
          rcases hx with hx | rfl
          · rw [List.reverse_cons, List.pairwise_append] at h1
            exact leK_trans ks down x p v (h1.2.2 x hx p (List.mem_singleton.2 rfl)) hpv
          · exact hpv
        rcases List.mem_cons.1 hy with rfl | hy
        · exact hxv
        · exact h3 x hx y hy
theorem rng_drop {n i : Nat} (h : i < n) : (rng n).drop i = (i : Int) :: (rng n).drop (i + 1) := by
  have hl : i < (rng n).length := by rw [rng_len]; exact h
  rw [List.drop_eq_getElem_cons hl]
  congr 1
  simp [rng]
theorem ins_step (lt : Int → Int → Bool) (ks : List Int) (down : Bool) {n i : Nat} (h : i < n) (hlt : ∀ x y : Int, 0 ≤ x ∧ x < n → 0 ≤ y ∧ y < n → lt x y = lessK ks down x y) :
    Go.Sort.insInner lt 0 i (sortBy ks down (rng i) ++ (rng n).drop i).toArray = (sortBy ks down (rng (i + 1)) ++ (rng n).drop (i + 1)).toArray := by
  have hl : i = (sortBy ks down (rng i)).reverse.length := by rw [List.length_reverse, sortBy_len, rng_len]
  have h1 := insInner_list lt (i : Int) (sortBy ks down (rng i)).reverse ((rng n).drop (i + 1))
  rw [← hl, List.reverse_reverse, ← rng_drop h] at h1
  rw [h1]
  congr 1
  rw [insL_congr (lt' := lessK ks down) _ _ (fun p hp => by
    rw [List.mem_reverse, (sortBy_perm ks down (rng i)).mem_iff, mem_rng] at hp
    exact hlt _ _ (by omega) (by omega))]
  have h2 := insL_app (lessK ks down) (i : Int) ((rng n).drop (i + 1)) (sortBy ks down (rng i)).reverse []
  rw [List.nil_append] at h2
  rw [h2]
  congr 1
  refine sortBy_unique (insL_sorted ks down _ _ _ ?_ ?_ (by simp)) ?_
  · rw [List.reverse_reverse, List.append_nil]
    exact sortBy_sorted ks down _
  · intro x hx
    rw [List.mem_reverse, (sortBy_perm ks down (rng i)).mem_iff, mem_rng] at hx
    omega
  · refine (insL_perm _ _ _ _).trans ?_
    rw [List.reverse_reverse, List.append_nil, rng_succ]
    exact (List.Perm.cons _ (sortBy_perm ks down (rng i))).trans (List.perm_append_singleton _ _).symm
theorem ins_outer (lt : Int → Int → Bool) (ks : List Int) (down : Bool) {n : Nat} (hlt : ∀ x y : Int, 0 ≤ x ∧ x < n → 0 ≤ y ∧ y < n → lt x y = lessK ks down x y) : ∀ (k i : Nat), i + k = n → Go.Sort.insOuter lt 0 n i (sortBy ks down (rng i) ++ (rng n).drop i).toArray = (sortBy ks down (rng n)).toArray
  | 0, i, h => by
    obtain rfl : i = n := by omega
    rw [Go.Proofs.insOuter_stop _ _ _ _ _ (by omega), List.drop_of_length_le (by rw [rng_len]; exact Nat.le_refl _), List.append_nil]
  | k + 1, i, h => by
    rw [Go.Proofs.insOuter_go _ _ _ _ _ (by omega), ins_step lt ks down (by omega) hlt]
    exact ins_outer lt ks down hlt k (i + 1) (by omega)
theorem ins_all (lt : Int → Int → Bool) (ks : List Int) (down : Bool) (n : Nat) (hlt : ∀ x y : Int, 0 ≤ x ∧ x < n → 0 ≤ y ∧ y < n → lt x y = lessK ks down x y) : Go.Sort.insertionSort lt (rng n).toArray 0 n = (sortBy ks down (rng n)).toArray := by
  unfold Go.Sort.insertionSort
  by_cases h : n = 0
  · subst h
    rw [Go.Proofs.insOuter_stop _ _ _ _ _ (by omega)]
    rw [sortBy_small ks down (by simp [rng_len])]
  · have := ins_outer lt ks down hlt (n - 1) 1 (by omega)
    rw [← this]
    congr 1
    rw [sortBy_small ks down (by simp [rng_len])]
    congr 1
    have h0 := rng_drop (n := n) (i := 0) (by omega)
    rw [List.drop_zero] at h0
    conv => lhs; rw [h0]
    rfl
end Go.Proofs.Ytkpakpjbpmnbgaa
