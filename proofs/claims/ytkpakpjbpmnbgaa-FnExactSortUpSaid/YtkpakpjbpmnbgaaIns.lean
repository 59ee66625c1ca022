/- Insertion sort of a part of a row. -/
import Derived.Test.YtkpakpjbpmnbgaaSy2
import Derived.Test.YtkpakpjbpmnbgaaSwr
import Derived.Test.YtkpakpjbpmnbgaaSst
namespace Go.Proofs.Ytkpakpjbpmnbgaa
open Go.ChangeShapes Go.WideShapes Go.ChangeAt Go.RowKit Go.Deep
set_option linter.unusedVariables false
set_option linter.unusedSimpArgs false

/-- The comparator answers by the keys, wherever but the row itself has been written since. -/
def CmpAll (P : Program) (gf : Nat) (cb : Array Value) (ks : List Int) (d : Bool) (n g : Nat) (w0 : World) : Prop :=
  ∀ (W : World) (x y : Int), w0.grownBy W (some g) → 0 ≤ x ∧ x < n → 0 ≤ y ∧ y < n → Calls P gf (#[.int .i64 x, .int .i64 y] ++ cb) W fun e w' => e = .returned (.int .i64 (cmpK ks d x y)) ∧ ∃ q, w' = W.drewN q
theorem cmpK_less {ks : List Int} {d : Bool} {x y : Int} (h : cmpK ks d x y < 0) : lessK ks d x y = true := by
  rw [← cmpK_lt]
  exact decide_eq_true h
theorem cmpK_not {ks : List Int} {d : Bool} {x y : Int} (h : ¬ (cmpK ks d x y < 0)) : lessK ks d x y = false := by
  rw [← cmpK_lt]
  exact decide_eq_false h
theorem RowF.drewN {w0 w : World} {base g n cap : Nat} {F : Nat → Int} (h : RowF w0 w base g n cap F) (q : Nat) : RowF w0 (w.drewN q) base g n cap F := ⟨h.row, grown_trans h.gr (grown_drewN w (some g) q)⟩
theorem RowF.cmp {w0 w : World} {base g n cap : Nat} {F : Nat → Int} {P : Program} {gf : Nat} {cb : Array Value} {ks : List Int} {d : Bool} (h : RowF w0 w base g n cap F) (HC : CmpAll P gf cb ks d n g w0) (q : Nat) {x y : Int} (hx : 0 ≤ x ∧ x < n) (hy : 0 ≤ y ∧ y < n) :
    Calls P gf (#[.int .i64 x, .int .i64 y] ++ cb) (w.drewN q) fun e w' => e = .returned (.int .i64 (cmpK ks d x y)) ∧ ∃ m, w' = w.drewN m :=
  (HC (w.drewN q) x y (h.drewN q).gr hx hy).mono fun _ _ ⟨he, m, hm⟩ => ⟨he, q + m, by rw [hm, World.drewN_drewN]⟩
theorem Merged.step {ks : List Int} {d : Bool} {F G H : Nat → Int} {a i : Nat} (h : Merged ks d F G a i) (ha : a ≤ i) (h2 : Merged ks d G H a (i + 1)) : Merged ks d F H a (i + 1) where
  out := fun p hp => by rw [h2.out p hp, h.out p (by omega)]
  sorted := h2.sorted
  perm := by
    refine h2.perm.trans ?_
    rw [seg_app G ha (Nat.le_succ i), seg_app F ha (Nat.le_succ i)]
    have e : seg G i (i + 1) = seg F i (i + 1) := seg_congr fun p x y => h.out p (by omega)
    rw [e]
    exact h.perm.append_right _
theorem ins_next {ks : List Int} {d : Bool} {F G : Nat → Int} {a J I b : Nat} (h : Merged ks d F G a I) (h1 : a ≤ J) (h2 : J ≤ I) (hI : I < b) (hlt : ∀ p q, a ≤ p → p < q → q < b → F p < F q)
    (hp : J = a ∨ lessK ks d (G I) (G (J - 1)) = false) (hq : J = I ∨ lessK ks d (G I) (G J) = true) : Merged ks d F (rotF G J I (I + 1)) a (I + 1) := by
  refine h.step (by omega) (one_right h1 h2 h.sorted (fun p q x y z u => ?_) hp hq)
  obtain rfl : q = I := by omega
  obtain ⟨r, r1, r2, e⟩ := h.mem x y
  rw [← e, h.out q (by omega)]
  exact hlt r q r1 r2 (by omega)
set_option maxRecDepth 20000 in
set_option maxHeartbeats 2000000 in
theorem insertion_any (ks : List Int) (d : Bool) (gf : Nat) (cb : Array Value) (eg : ∀ args w, (callFunc gf args).run Try.prog w = .ok (.enter gf args) w) (w0 w : World) (base g n cap : Nat) (F : Nat → Int) (a b : Nat) (h : RowF w0 w base g n cap F)
    (hcmp : CmpAll Try.prog gf cb ks d n g w0) (hab : a ≤ b) (hbn : b ≤ n) (hn : n ≤ 1048576) (hc : n ≤ cap) (hcm : cap ≤ 9223372036854775807) (hin : InF F n) (hlt : ∀ p q, a ≤ p → p < q → q < b → F p < F q) :
    Calls Try.prog 21 #[.slice (some ⟨g, 0, none⟩) n cap, .int .i64 a, .int .i64 b, .func (.func gf) #[] cb] w fun e w' => e = .returned (.tuple #[]) ∧ ∃ G, RowF w0 w' base g n cap G ∧ Merged ks d F G a b := by
  have H0 := hide h
  have HC := hide hcmp
  have HIN := hide hin
  have HLT := hide hlt
  have hw1 : IntKind.i64.wrap ((a : Int) + 1) = ((a + 1 : Nat) : Int) := by rw [IntKind.wrap_i64] <;> omega
  clear h hcmp hin hlt
  go_enter Try.func21, Try.ntmps21
  go_wp2_with fail
  go_loopw [8, 9] (fun i _ wr => ∃ (I : Nat) (G : Nat → Int), a + 1 ≤ I ∧ i = .int .i64 I ∧ RowF w0 wr base g n cap G ∧ Hid ((I ≤ b ∧ Merged ks d F G a I) ∨ (b ≤ a ∧ G = F))) (fun i _ _ => b + 2 - (intOf i).toNat)
  case atStart => exact ⟨a + 1, F, Nat.le_refl _, rfl, H0.out, hide (if hh : a + 1 ≤ b then .inl ⟨hh, Merged.refl (SortedF.one (Nat.le_refl _))⟩ else .inr ⟨by omega, rfl⟩)⟩
  case round =>
    obtain ⟨I, G, hI, rfl, hrow, HIB⟩ := hrel
    have HR := hide hrow
    clear hrow H0
    by_cases hlt : I < b
    · have i1 : (I : Int) < (b : Int) := by omega
      obtain ⟨wo, hwo⟩ : ∃ wo : World, wo = wr := ⟨_, rfl⟩
      subst hwo
      have HM := hide (show Merged ks d F G a I from HIB.out.elim (fun h => h.2) fun h => absurd h.1 (by omega))
      have HGI := hide (HM.out.out I (by omega))
      have HING := hide (HIN.out.merged HM.out (by omega))
      go_wp2_with fail
      go_loopw [9] (fun j wr => ∃ J : Nat, a ≤ J ∧ J ≤ I ∧ j = .int .i64 J ∧ RowF w0 wr base g n cap (rotF G J I (I + 1)) ∧ (J = I ∨ lessK ks d (G I) (G J) = true)) (fun j _ => (intOf j).toNat)
      case atStart => exact ⟨I, by omega, Nat.le_refl _, rfl, HR.out.congr (rot_id1 G I (I + 1)).symm, .inl rfl⟩
      case round =>
        obtain ⟨J, hJa, hJI, rfl, hrow, hJ⟩ := hrel
        have HJ := hide hJ
        have HR2 := hide hrow
        clear hJ HR
        by_cases hja : a < J
        · obtain ⟨k, rfl⟩ : ∃ k, J = k + 1 := ⟨J - 1, by omega⟩
          have hw2 : IntKind.i64.wrap (((k + 1 : Nat) : Int) - 1) = (k : Int) := by rw [IntKind.wrap_i64] <;> omega
          have hw2' : IntKind.i64.wrap ((k : Int) + 1 - 1) = (k : Int) := by rw [IntKind.wrap_i64] <;> omega
          obtain ⟨e1, e2⟩ := rotR_at G (k := k) (m := I) (by omega)
          have c1 := hrow.cell (i := k + 1) (by omega)
          have c2 := hrow.cell (i := k) (by omega)
          rw [e1] at c1
          rw [e2] at c2
          have f1 := hrow.frozen (k + 1)
          have f2 := hrow.frozen k
          have ga : (a : Int) < ((k + 1 : Nat) : Int) := by omega
          have ga' : (a : Int) < (k : Int) + 1 := by omega
          have ka : (0 : Int) ≤ ((k + 1 : Nat) : Int) := by omega
          have kb : ((k + 1 : Nat) : Int) < (n : Int) := by omega
          have kb' : (k : Int) + 1 < (n : Int) := by omega
          have kc : (0 : Int) ≤ (k : Int) := by omega
          have ka' : (0 : Int) ≤ (k : Int) + 1 := by omega
          have hwk : IntKind.i64.wrap (k : Int) = (k : Int) := by rw [IntKind.wrap_i64] <;> omega
          have kd : (k : Int) < (n : Int) := by omega
          have ht : ((k : Int) + 1).toNat = k + 1 := by omega
          have hnk : k ≠ k + 1 := by omega
          have HCC := hide (fun q => HR2.out.cmp HC.out q (HING.out I (by omega)) (HING.out k (by omega)))
          have HN : Hid (∀ q, RowF w0 ((((wr.drewN q).drew).setCell ⟨g, k + 1, none⟩ (.int .i64 (G k))).setCell ⟨g, k, none⟩ (.int .i64 (G I))) base g n cap (rotF G k I (I + 1))) := hide (fun q => ((((hrow.drewN q).drew).set (i := k + 1) (by omega) (G k)).set (i := k) (by omega) (G I)).congr (rotR_step G (by omega)).symm)
          clear hrow
          obtain ⟨c, hcc⟩ : ∃ c : Int, cmpK ks d (G I) (G k) = c := ⟨_, rfl⟩
          rw [hcc] at HCC
          by_cases hneg : c < 0
          · have HLE := hide (cmpK_less (by rw [hcc]; exact hneg : cmpK ks d (G I) (G k) < 0))
            clear hcc
            go_wp2_with fail
            go_quiet ((go_at_fn gf; exact HCC.out _))
            have HN := hide (HN.out nq)
            go_wp2_with fail
            refine wp_region_held_drew (S := (fun _ => True)) (by kernel_rfl) ?hS0 (fun hHeld => ?_)
            case hS0 => (first | done | trivial)
            refine wpAnyH_take (i := 0) (v := ?_) rfl (by kernel_rfl) (by kernel_rfl) (by kernel_rfl) (fun _ _ _ h => h) (Or.inl ⟨by rfl, ?_⟩) (by assumption) ?_
            rotate_left 1
            · intro w hSw
              try dsimp only at hSw
              go_simp
              try with_reducible rfl
            simp only [Act.put, List.getElem_toArray, List.getElem_cons_succ, List.getElem_cons_zero, List.setIfInBounds_toArray, List.set_cons_zero, List.set_cons_succ]
            refine wpAnyH_take (i := 1) (v := ?_) rfl (by kernel_rfl) (by kernel_rfl) (by kernel_rfl) (fun _ _ _ h => h) (Or.inl ⟨by rfl, ?_⟩) (by assumption) ?_
            rotate_left 1
            · intro w hSw
              try dsimp only at hSw
              go_simp
              try with_reducible rfl
            simp only [Act.put, List.getElem_toArray, List.getElem_cons_succ, List.getElem_cons_zero, List.setIfInBounds_toArray, List.set_cons_zero, List.set_cons_succ]
            refine wpAnyH_take (i := 2) (v := ?_) rfl (by kernel_rfl) (by kernel_rfl) (by kernel_rfl) (fun _ _ _ h => h) (Or.inl ⟨by rfl, ?_⟩) (by assumption) ?_
            rotate_left 1
            · intro w hSw
              try dsimp only at hSw
              go_simp
              try with_reducible rfl
            simp only [Act.put, List.getElem_toArray, List.getElem_cons_succ, List.getElem_cons_zero, List.setIfInBounds_toArray, List.set_cons_zero, List.set_cons_succ]
            refine wpAnyH_take (i := 3) (v := ?_) rfl (by kernel_rfl) (by kernel_rfl) (by kernel_rfl) (fun _ _ _ h => h) (Or.inl ⟨by rfl, ?_⟩) (by assumption) ?_
            rotate_left 1
            · intro w hSw
              try dsimp only at hSw
              go_simp
              try with_reducible rfl
            simp only [Act.put, List.getElem_toArray, List.getElem_cons_succ, List.getElem_cons_zero, List.setIfInBounds_toArray, List.set_cons_zero, List.set_cons_succ]
            refine wpAnyH_take (i := 4) (v := ?_) rfl (by kernel_rfl) (by kernel_rfl) (by kernel_rfl) (fun _ _ _ h => h) (Or.inl ⟨by rfl, ?_⟩) (by assumption) ?_
            rotate_left 1
            · intro w hSw
              try dsimp only at hSw
              go_simp
              try with_reducible rfl
            simp only [Act.put, List.getElem_toArray, List.getElem_cons_succ, List.getElem_cons_zero, List.setIfInBounds_toArray, List.set_cons_zero, List.set_cons_succ]
            refine wpAnyH_take (i := 5) (v := ?_) rfl (by kernel_rfl) (by kernel_rfl) (by kernel_rfl) (fun _ _ _ h => h) (Or.inl ⟨by rfl, ?_⟩) (by assumption) ?_
            rotate_left 1
            · intro w hSw
              try dsimp only at hSw
              go_simp
              try with_reducible rfl
            simp only [Act.put, List.getElem_toArray, List.getElem_cons_succ, List.getElem_cons_zero, List.setIfInBounds_toArray, List.set_cons_zero, List.set_cons_succ]
            refine wpAnyH_take (i := 6) (v := ?_) rfl (by kernel_rfl) (by kernel_rfl) (by kernel_rfl) (fun _ _ _ h => h) (Or.inl ⟨by rfl, ?_⟩) (by assumption) ?_
            rotate_left 1
            · intro w hSw
              try dsimp only at hSw
              go_simp
              try with_reducible rfl
            simp only [Act.put, List.getElem_toArray, List.getElem_cons_succ, List.getElem_cons_zero, List.setIfInBounds_toArray, List.set_cons_zero, List.set_cons_succ]
            refine wpAnyH_take (i := 7) (v := ?_) rfl (by kernel_rfl) (by kernel_rfl) (by kernel_rfl) (fun _ _ _ h => h) (Or.inl ⟨by rfl, ?_⟩) (by assumption) ?_
            rotate_left 1
            · intro w hSw
              try dsimp only at hSw
              go_simp
              try with_reducible rfl
            simp only [Act.put, List.getElem_toArray, List.getElem_cons_succ, List.getElem_cons_zero, List.setIfInBounds_toArray, List.set_cons_zero, List.set_cons_succ]
            refine wpAnyH_take (i := 8) (v := ?_) rfl (by kernel_rfl) (by kernel_rfl) (by kernel_rfl) (fun _ _ _ h => h) (Or.inl ⟨by rfl, ?_⟩) (by assumption) ?_
            rotate_left 1
            · intro w hSw
              try dsimp only at hSw
              go_simp
              try with_reducible rfl
            simp only [Act.put, List.getElem_toArray, List.getElem_cons_succ, List.getElem_cons_zero, List.setIfInBounds_toArray, List.set_cons_zero, List.set_cons_succ]
            refine wpAnyH_take (i := 10) (v := ?_) rfl (by kernel_rfl) (by kernel_rfl) (by kernel_rfl) (fun _ _ _ h => h) (Or.inl ⟨by rfl, ?_⟩) (by assumption) ?_
            rotate_left 1
            · intro w hSw
              try dsimp only at hSw
              go_simp
              try with_reducible rfl
            simp only [Act.put, List.getElem_toArray, List.getElem_cons_succ, List.getElem_cons_zero, List.setIfInBounds_toArray, List.set_cons_zero, List.set_cons_succ]
            refine wpAnyH_take (i := 11) (v := ?_) rfl (by kernel_rfl) (by kernel_rfl) (by kernel_rfl) (fun _ _ _ h => h) (Or.inl ⟨by rfl, ?_⟩) (by assumption) ?_
            rotate_left 1
            · intro w hSw
              try dsimp only at hSw
              go_simp
              try with_reducible rfl
            simp only [Act.put, List.getElem_toArray, List.getElem_cons_succ, List.getElem_cons_zero, List.setIfInBounds_toArray, List.set_cons_zero, List.set_cons_succ]
            refine wpAnyH_take (i := 12) (v := ?_) rfl (by kernel_rfl) (by kernel_rfl) (by kernel_rfl) (fun _ _ _ h => h) (Or.inl ⟨by rfl, ?_⟩) (by assumption) ?_
            rotate_left 1
            · intro w hSw
              try dsimp only at hSw
              go_simp
              try with_reducible rfl
            simp only [Act.put, List.getElem_toArray, List.getElem_cons_succ, List.getElem_cons_zero, List.setIfInBounds_toArray, List.set_cons_zero, List.set_cons_succ]
            refine wpAnyH_ready (rs := [9, 13]) (by kernel_rfl) (by simp) ?_
            refine AllReadyH.cons rfl (fun K hK => ?_) ?_
            · skip
              go_simp
              refine hK.out _ _ ?hS1 (fun hHeld => ?_)
              case hS1 => (try dsimp only); (first | done | trivial)
              clear hK K
              try simp only [Act.put, List.getElem_toArray, List.getElem_cons_succ, List.getElem_cons_zero, List.setIfInBounds_toArray, List.set_cons_zero, List.set_cons_succ]
              refine wpAnyH_ready (rs := [13]) (by kernel_rfl) (by simp) ?_
              refine AllReadyH.cons rfl (fun K hK => ?_) AllReadyH.nil
              go_simp
              refine hK.out _ _ ?hS1 (fun hHeld => ?_)
              case hS1 => (try dsimp only); (first | done | trivial)
              clear hK K
              try simp only [Act.put, List.getElem_toArray, List.getElem_cons_succ, List.getElem_cons_zero, List.setIfInBounds_toArray, List.set_cons_zero, List.set_cons_succ]
              refine wpAnyH_take (i := 14) (v := ?_) rfl (by kernel_rfl) (by kernel_rfl) (by kernel_rfl) (fun _ _ _ h => h) (Or.inl ⟨by rfl, ?_⟩) (by assumption) ?_
              rotate_left 1
              · intro w hSw
                try dsimp only at hSw
                go_simp
                try with_reducible rfl
              simp only [Act.put, List.getElem_toArray, List.getElem_cons_succ, List.getElem_cons_zero, List.setIfInBounds_toArray, List.set_cons_zero, List.set_cons_succ]
              refine wpAnyH_ready (rs := [15]) (by kernel_rfl) (by simp) ?_
              refine AllReadyH.cons rfl (fun K hK => ?_) AllReadyH.nil
              go_simp
              refine hK.out _ _ ?hS1 (fun hHeld => ?_)
              case hS1 => (try dsimp only); (first | done | trivial)
              clear hK K
              try simp only [Act.put, List.getElem_toArray, List.getElem_cons_succ, List.getElem_cons_zero, List.setIfInBounds_toArray, List.set_cons_zero, List.set_cons_succ]
              refine wpAnyH_take (i := 16) (v := ?_) rfl (by kernel_rfl) (by kernel_rfl) (by kernel_rfl) (fun _ _ _ h => h) (Or.inl ⟨by rfl, ?_⟩) (by assumption) ?_
              rotate_left 1
              · intro w hSw
                try dsimp only at hSw
                go_simp
                try with_reducible rfl
              simp only [Act.put, List.getElem_toArray, List.getElem_cons_succ, List.getElem_cons_zero, List.setIfInBounds_toArray, List.set_cons_zero, List.set_cons_succ]
              refine wpAnyH_ready (rs := [17]) (by kernel_rfl) (by simp) ?_
              refine AllReadyH.cons rfl (fun K hK => ?_) AllReadyH.nil
              go_simp
              refine hK.out _ _ ?hS1 (fun hHeld => ?_)
              case hS1 => (try dsimp only); (first | done | trivial)
              clear hK K
              try simp only [Act.put, List.getElem_toArray, List.getElem_cons_succ, List.getElem_cons_zero, List.setIfInBounds_toArray, List.set_cons_zero, List.set_cons_succ]
              refine wpAnyH_done (by kernel_rfl) ?_ _
              go_wp2_with fail
              go_roundw
              case rel => exact ⟨k, by omega, by omega, by go_num, HN.out, .inr HLE.out⟩
              case measure => first | omega | (simp [intOf]; done) | (simp [intOf]; omega)
            refine AllReadyH.cons rfl (fun K hK => ?_) ?_
            · skip
              go_simp
              refine hK.out _ _ ?hS1 (fun hHeld => ?_)
              case hS1 => (try dsimp only); (first | done | trivial)
              clear hK K
              try simp only [Act.put, List.getElem_toArray, List.getElem_cons_succ, List.getElem_cons_zero, List.setIfInBounds_toArray, List.set_cons_zero, List.set_cons_succ]
              refine wpAnyH_ready (rs := [9]) (by kernel_rfl) (by simp) ?_
              refine AllReadyH.cons rfl (fun K hK => ?_) AllReadyH.nil
              go_simp
              refine hK.out _ _ ?hS1 (fun hHeld => ?_)
              case hS1 => (try dsimp only); (first | done | trivial)
              clear hK K
              try simp only [Act.put, List.getElem_toArray, List.getElem_cons_succ, List.getElem_cons_zero, List.setIfInBounds_toArray, List.set_cons_zero, List.set_cons_succ]
              refine wpAnyH_take (i := 14) (v := ?_) rfl (by kernel_rfl) (by kernel_rfl) (by kernel_rfl) (fun _ _ _ h => h) (Or.inl ⟨by rfl, ?_⟩) (by assumption) ?_
              rotate_left 1
              · intro w hSw
                try dsimp only at hSw
                go_simp
                try with_reducible rfl
              simp only [Act.put, List.getElem_toArray, List.getElem_cons_succ, List.getElem_cons_zero, List.setIfInBounds_toArray, List.set_cons_zero, List.set_cons_succ]
              refine wpAnyH_ready (rs := [15]) (by kernel_rfl) (by simp) ?_
              refine AllReadyH.cons rfl (fun K hK => ?_) AllReadyH.nil
              go_simp
              refine hK.out _ _ ?hS1 (fun hHeld => ?_)
              case hS1 => (try dsimp only); (first | done | trivial)
              clear hK K
              try simp only [Act.put, List.getElem_toArray, List.getElem_cons_succ, List.getElem_cons_zero, List.setIfInBounds_toArray, List.set_cons_zero, List.set_cons_succ]
              refine wpAnyH_take (i := 16) (v := ?_) rfl (by kernel_rfl) (by kernel_rfl) (by kernel_rfl) (fun _ _ _ h => h) (Or.inl ⟨by rfl, ?_⟩) (by assumption) ?_
              rotate_left 1
              · intro w hSw
                try dsimp only at hSw
                go_simp
                try with_reducible rfl
              simp only [Act.put, List.getElem_toArray, List.getElem_cons_succ, List.getElem_cons_zero, List.setIfInBounds_toArray, List.set_cons_zero, List.set_cons_succ]
              refine wpAnyH_ready (rs := [17]) (by kernel_rfl) (by simp) ?_
              refine AllReadyH.cons rfl (fun K hK => ?_) AllReadyH.nil
              go_simp
              refine hK.out _ _ ?hS1 (fun hHeld => ?_)
              case hS1 => (try dsimp only); (first | done | trivial)
              clear hK K
              try simp only [Act.put, List.getElem_toArray, List.getElem_cons_succ, List.getElem_cons_zero, List.setIfInBounds_toArray, List.set_cons_zero, List.set_cons_succ]
              refine wpAnyH_done (by kernel_rfl) ?_ _
              go_wp2_with fail
              go_roundw
              case rel => exact ⟨k, by omega, by omega, by go_num, HN.out, .inr HLE.out⟩
              case measure => first | omega | (simp [intOf]; done) | (simp [intOf]; omega)
            exact AllReadyH.nil
          · have HLE := hide (cmpK_not (by rw [hcc]; exact hneg : ¬ (cmpK ks d (G I) (G k) < 0)))
            clear hcc
            go_wp2_with fail
            go_quiet ((go_at_fn gf; exact HCC.out _))
            have HN := hide (HR2.out.drewN nq)
            go_wp2_with fail
            go_roundw
            case rel => exact ⟨I + 1, _, by omega, by go_num, HN.out, hide (.inl ⟨by omega, ins_next HM.out (by omega) (by omega) hlt HLT.out (.inr HLE.out) HJ.out⟩)⟩
            case measure => first | omega | (simp [intOf]; done) | (simp [intOf]; omega)
        · obtain rfl : J = a := by omega
          clear hrow
          go_wp2_with fail
          go_quiet ((go_at_fn gf; exact HCC.out _))
          have HN := hide (HR2.out.drewN nq)
          go_wp2_with fail
          go_roundw
          case rel => exact ⟨I + 1, _, by omega, by go_num, HN.out, hide (.inl ⟨by omega, ins_next HM.out (by omega) (by omega) hlt HLT.out (.inl rfl) HJ.out⟩)⟩
          case measure => first | omega | (simp [intOf]; done) | (simp [intOf]; omega)
    · have i1 : ¬ ((I : Int) < (b : Int)) := by omega
      go_wp2_with fail
      go_end0
      refine ⟨rfl, G, HR.out, ?_⟩
      rcases HIB.out with ⟨h, hM⟩ | ⟨h, rfl⟩
      · obtain rfl : I = b := by omega
        exact hM
      · exact Merged.refl (SortedF.one (by omega))
end Go.Proofs.Ytkpakpjbpmnbgaa
