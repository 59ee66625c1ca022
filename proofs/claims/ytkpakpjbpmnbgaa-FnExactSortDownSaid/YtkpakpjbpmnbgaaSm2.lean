/- Merging in place: one element on the right. -/
import Derived.Test.YtkpakpjbpmnbgaaIns
namespace Go.Proofs.Ytkpakpjbpmnbgaa
open Go.ChangeShapes Go.WideShapes Go.ChangeAt Go.RowKit Go.Deep
set_option linter.unusedVariables false
set_option linter.unusedSimpArgs false

set_option maxRecDepth 20000 in
set_option maxHeartbeats 2000000 in
theorem sym_right (ks : List Int) (d : Bool) (gf : Nat) (cb : Array Value) (eg : ∀ args w, (callFunc gf args).run Try.prog w = .ok (.enter gf args) w) (w0 w : World) (base g n cap : Nat) (F : Nat → Int) (a m b : Nat) (h : RowF w0 w base g n cap F)
    (hcmp : CmpAll Try.prog gf cb ks d n g w0) (ham : a + 1 < m) (hb : b = m + 1) (hbn : b ≤ n) (hn : n ≤ 1048576) (hc : n ≤ cap) (hcm : cap ≤ 9223372036854775807) (hp : Parts2 ks d F a m b n) :
    Calls Try.prog 22 #[.slice (some ⟨g, 0, none⟩) n cap, .int .i64 a, .int .i64 m, .int .i64 b, .func (.func gf) #[] cb] w fun e w' => e = .returned (.tuple #[]) ∧ ∃ G, RowF w0 w' base g n cap G ∧ Merged ks d F G a b := by
  have H0 := hide h
  have HC := hide hcmp
  have HP := hide (hb ▸ hp : Parts2 ks d F a m (m + 1) n)
  have HPI := hide hp.inn
  have hm1 : b ≤ m + 1 := by omega
  have hm2 : m + 1 ≤ b := by omega
  obtain ⟨L, hL⟩ : ∃ L : Int, (m : Int) - (a : Int) = L := ⟨_, rfl⟩
  have hw0 : IntKind.i64.wrap ((m : Int) - (a : Int)) = L := by rw [← hL, IntKind.wrap_i64] <;> omega
  have hL1 : (L == 1) = false := by rw [beq_eq_false_iff_ne]; omega
  have hL2 : ¬ (L = 1) := by omega
  have hw0b : IntKind.i64.wrap ((b : Int) - (m : Int)) = 1 := by rw [IntKind.wrap_i64] <;> omega
  have ha0 : (0 : Int) ≤ (m : Int) := by omega
  have ha1 : (m : Int) < (n : Int) := by omega
  have HBE := hide hb
  clear h hcmp hp hL hb
  go_enter Try.func22, Try.ntmps22
  go_wp2_with fail
  go_loopw [14, 15, 16] (fun i j _ wr => ∃ lo hi : Nat, a ≤ lo ∧ lo ≤ hi ∧ hi ≤ m ∧ i = .int .i64 lo ∧ j = .int .i64 hi ∧ RowF w0 wr base g n cap F ∧ Hid ((lo = a ∨ lessK ks d (F m) (F (lo - 1)) = false) ∧ (hi = m ∨ lessK ks d (F m) (F hi) = true))) (fun i j _ _ => (intOf j).toNat - (intOf i).toNat)
  case atStart => exact ⟨a, m, Nat.le_refl _, by omega, Nat.le_refl _, rfl, rfl, H0.out, hide ⟨.inl rfl, .inl rfl⟩⟩
  case round =>
    obtain ⟨lo, hi, h1, h2, h3, rfl, rfl, hrow, HB⟩ := hrel
    have HR := hide hrow
    clear H0
    by_cases hlt : lo < hi
    · have hlo : lo ≤ (lo + hi) / 2 ∧ (lo + hi) / 2 < hi := by omega
      obtain ⟨x, hx⟩ : ∃ x : Nat, (lo + hi) / 2 = x := ⟨_, rfl⟩
      rw [hx] at hlo
      have hw1 : IntKind.i64.wrap ((lo : Int) + (hi : Int)) = (lo : Int) + (hi : Int) := by rw [IntKind.wrap_i64] <;> omega
      have hu1 : IntKind.u64.wrap ((lo : Int) + (hi : Int)) = (lo : Int) + (hi : Int) := by rw [IntKind.wrap_u64] <;> omega
      have hd1 : ((lo : Int) + (hi : Int)) / 2 = (x : Int) := by omega
      have hwx : IntKind.i64.wrap (x : Int) = (x : Int) := by rw [IntKind.wrap_i64] <;> omega
      have hwx1 : IntKind.i64.wrap ((x : Int) + 1) = ((x + 1 : Nat) : Int) := by rw [IntKind.wrap_i64] <;> omega
      have ilt : (lo : Int) < (hi : Int) := by omega
      clear hx
      have c1 := hrow.cell (i := m) (by omega)
      have c2 := hrow.cell (i := x) (by omega)
      have f1 := hrow.frozen m
      have f2 := hrow.frozen x
      have xa : (0 : Int) ≤ (x : Int) := by omega
      have xb : (x : Int) < (n : Int) := by omega
      have HCC := hide (fun q => HR.out.cmp HC.out q (HPI.out m (by omega)) (HPI.out x (by omega)))
      clear hrow
      obtain ⟨c, hcc⟩ : ∃ c : Int, cmpK ks d (F m) (F x) = c := ⟨_, rfl⟩
      rw [hcc] at HCC
      by_cases hneg : c < 0
      · have HLE := hide (cmpK_less (by rw [hcc]; exact hneg : cmpK ks d (F m) (F x) < 0))
        clear hcc
        go_wp2_with fail
        go_quiet ((go_at_fn gf; exact HCC.out _))
        have HN := hide (HR.out.drewN nq)
        go_wp2_with fail
        go_roundw
        case rel => exact ⟨lo, x, h1, by omega, by omega, rfl, by go_num, HN.out, hide ⟨HB.out.1, .inr HLE.out⟩⟩
        case measure => simp [intOf]; omega
      · have HLE := hide (cmpK_not (by rw [hcc]; exact hneg : ¬ (cmpK ks d (F m) (F x) < 0)))
        have hnb : (!decide (c < 0)) = true := by rw [decide_eq_false hneg]; rfl
        clear hcc
        go_wp2_with fail
        go_quiet ((go_at_fn gf; exact HCC.out _))
        have HN := hide (HR.out.drewN nq)
        go_wp2_with fail
        go_roundw
        case rel => exact ⟨x + 1, hi, by omega, by omega, h3, by go_num, rfl, HN.out, hide ⟨.inr (by rw [Nat.add_sub_cancel]; exact HLE.out), HB.out.2⟩⟩
        case measure => simp [intOf]; omega
    · obtain rfl : lo = hi := by omega
      obtain ⟨wo, hwo⟩ : ∃ wo : World, wo = wr := ⟨_, rfl⟩
      subst hwo
      have HEND := hide (one_right h1 h3 HP.out.left HP.out.lt HB.out.1 HB.out.2)
      have ilt : ¬ ((lo : Int) < (lo : Int)) := by omega
      clear hrow hlt
      go_wp2_with fail
      go_loopw [17] (fun i wr => ∃ k : Nat, lo ≤ k ∧ k ≤ m ∧ i = .int .i64 k ∧ RowF w0 wr base g n cap (rotF F k m (m + 1))) (fun i _ => (intOf i).toNat)
      case atStart => exact ⟨m, h3, Nat.le_refl _, rfl, HR.out.congr (rot_id1 F m (m + 1)).symm⟩
      case round =>
        obtain ⟨J, hka, hkl, rfl, hrow⟩ := hrel
        have HR2 := hide hrow
        clear HR
        by_cases hkk : lo < J
        · obtain ⟨k, rfl⟩ : ∃ k, J = k + 1 := ⟨J - 1, by omega⟩
          have hw2' : IntKind.i64.wrap ((k : Int) + 1 - 1) = (k : Int) := by rw [IntKind.wrap_i64] <;> omega
          have hwk : IntKind.i64.wrap (k : Int) = (k : Int) := by rw [IntKind.wrap_i64] <;> omega
          obtain ⟨e1, e2⟩ := rotR_at F (k := k) (m := m) (by omega)
          have c1 := hrow.cell (i := k + 1) (by omega)
          have c2 := hrow.cell (i := k) (by omega)
          rw [e1] at c1
          rw [e2] at c2
          have f1 := hrow.frozen (k + 1)
          have f2 := hrow.frozen k
          have ga : (lo : Int) < ((k + 1 : Nat) : Int) := by omega
          have ga' : (lo : Int) < (k : Int) + 1 := by omega
          have kb' : (k : Int) + 1 < (n : Int) := by omega
          have kc : (0 : Int) ≤ (k : Int) := by omega
          have ka' : (0 : Int) ≤ (k : Int) + 1 := by omega
          have kd : (k : Int) < (n : Int) := by omega
          have ht : ((k : Int) + 1).toNat = k + 1 := by omega
          have hnk : k ≠ k + 1 := by omega
          have HN : Hid (RowF w0 (((wr.drew).setCell ⟨g, k + 1, none⟩ (.int .i64 (F k))).setCell ⟨g, k, none⟩ (.int .i64 (F m))) base g n cap (rotF F k m (m + 1))) := hide ((((hrow.drew).set (i := k + 1) (by omega) (F k)).set (i := k) (by omega) (F m)).congr (rotR_step F (by omega)).symm)
          clear hrow
          go_wp2_with fail
          refine wp_region_held_drew (S := (fun _ => True)) (by kernel_rfl) ?hS0 (fun hHeld => ?_)
          case hS0 => (first | done | trivial)
          refine wpAnyH_take (i := 0) (v := ?_) rfl (by kernel_rfl) (by kernel_rfl) (by kernel_rfl) (fun _ _ _ h => h) (Or.inl ⟨by rfl, ?_⟩) (by assumption) ?_
          rotate_left 1
          · intro w hSw
            try dsimp only at hSw
            go_simp
            try with_reducible rfl
          simp only [Act.put, List.getElem_toArray, List.getElem_cons_succ, List.getElem_cons_zero, List.setIfInBounds_toArray, List.set_cons_zero, List.set_cons_succ]
          refine wpAnyH_take (i := 1) (v := ?_) rfl (by kernel_rfl) (by kernel_rfl) (by kernel_rfl) (fun _ _ _ h => h) (Or.inl ⟨by rfl, ?_⟩) (by assumption) ?_
          rotate_left 1
          · intro w hSw
            try dsimp only at hSw
            go_simp
            try with_reducible rfl
          simp only [Act.put, List.getElem_toArray, List.getElem_cons_succ, List.getElem_cons_zero, List.setIfInBounds_toArray, List.set_cons_zero, List.set_cons_succ]
          refine wpAnyH_take (i := 2) (v := ?_) rfl (by kernel_rfl) (by kernel_rfl) (by kernel_rfl) (fun _ _ _ h => h) (Or.inl ⟨by rfl, ?_⟩) (by assumption) ?_
          rotate_left 1
          · intro w hSw
            try dsimp only at hSw
            go_simp
            try with_reducible rfl
          simp only [Act.put, List.getElem_toArray, List.getElem_cons_succ, List.getElem_cons_zero, List.setIfInBounds_toArray, List.set_cons_zero, List.set_cons_succ]
          refine wpAnyH_take (i := 3) (v := ?_) rfl (by kernel_rfl) (by kernel_rfl) (by kernel_rfl) (fun _ _ _ h => h) (Or.inl ⟨by rfl, ?_⟩) (by assumption) ?_
          rotate_left 1
          · intro w hSw
            try dsimp only at hSw
            go_simp
            try with_reducible rfl
          simp only [Act.put, List.getElem_toArray, List.getElem_cons_succ, List.getElem_cons_zero, List.setIfInBounds_toArray, List.set_cons_zero, List.set_cons_succ]
          refine wpAnyH_take (i := 4) (v := ?_) rfl (by kernel_rfl) (by kernel_rfl) (by kernel_rfl) (fun _ _ _ h => h) (Or.inl ⟨by rfl, ?_⟩) (by assumption) ?_
          rotate_left 1
          · intro w hSw
            try dsimp only at hSw
            go_simp
            try with_reducible rfl
          simp only [Act.put, List.getElem_toArray, List.getElem_cons_succ, List.getElem_cons_zero, List.setIfInBounds_toArray, List.set_cons_zero, List.set_cons_succ]
          refine wpAnyH_take (i := 5) (v := ?_) rfl (by kernel_rfl) (by kernel_rfl) (by kernel_rfl) (fun _ _ _ h => h) (Or.inl ⟨by rfl, ?_⟩) (by assumption) ?_
          rotate_left 1
          · intro w hSw
            try dsimp only at hSw
            go_simp
            try with_reducible rfl
          simp only [Act.put, List.getElem_toArray, List.getElem_cons_succ, List.getElem_cons_zero, List.setIfInBounds_toArray, List.set_cons_zero, List.set_cons_succ]
          refine wpAnyH_take (i := 6) (v := ?_) rfl (by kernel_rfl) (by kernel_rfl) (by kernel_rfl) (fun _ _ _ h => h) (Or.inl ⟨by rfl, ?_⟩) (by assumption) ?_
          rotate_left 1
          · intro w hSw
            try dsimp only at hSw
            go_simp
            try with_reducible rfl
          simp only [Act.put, List.getElem_toArray, List.getElem_cons_succ, List.getElem_cons_zero, List.setIfInBounds_toArray, List.set_cons_zero, List.set_cons_succ]
          refine wpAnyH_take (i := 7) (v := ?_) rfl (by kernel_rfl) (by kernel_rfl) (by kernel_rfl) (fun _ _ _ h => h) (Or.inl ⟨by rfl, ?_⟩) (by assumption) ?_
          rotate_left 1
          · intro w hSw
            try dsimp only at hSw
            go_simp
            try with_reducible rfl
          simp only [Act.put, List.getElem_toArray, List.getElem_cons_succ, List.getElem_cons_zero, List.setIfInBounds_toArray, List.set_cons_zero, List.set_cons_succ]
          refine wpAnyH_take (i := 8) (v := ?_) rfl (by kernel_rfl) (by kernel_rfl) (by kernel_rfl) (fun _ _ _ h => h) (Or.inl ⟨by rfl, ?_⟩) (by assumption) ?_
          rotate_left 1
          · intro w hSw
            try dsimp only at hSw
            go_simp
            try with_reducible rfl
          simp only [Act.put, List.getElem_toArray, List.getElem_cons_succ, List.getElem_cons_zero, List.setIfInBounds_toArray, List.set_cons_zero, List.set_cons_succ]
          refine wpAnyH_take (i := 10) (v := ?_) rfl (by kernel_rfl) (by kernel_rfl) (by kernel_rfl) (fun _ _ _ h => h) (Or.inl ⟨by rfl, ?_⟩) (by assumption) ?_
          rotate_left 1
          · intro w hSw
            try dsimp only at hSw
            go_simp
            try with_reducible rfl
          simp only [Act.put, List.getElem_toArray, List.getElem_cons_succ, List.getElem_cons_zero, List.setIfInBounds_toArray, List.set_cons_zero, List.set_cons_succ]
          refine wpAnyH_take (i := 11) (v := ?_) rfl (by kernel_rfl) (by kernel_rfl) (by kernel_rfl) (fun _ _ _ h => h) (Or.inl ⟨by rfl, ?_⟩) (by assumption) ?_
          rotate_left 1
          · intro w hSw
            try dsimp only at hSw
            go_simp
            try with_reducible rfl
          simp only [Act.put, List.getElem_toArray, List.getElem_cons_succ, List.getElem_cons_zero, List.setIfInBounds_toArray, List.set_cons_zero, List.set_cons_succ]
          refine wpAnyH_take (i := 12) (v := ?_) rfl (by kernel_rfl) (by kernel_rfl) (by kernel_rfl) (fun _ _ _ h => h) (Or.inl ⟨by rfl, ?_⟩) (by assumption) ?_
          rotate_left 1
          · intro w hSw
            try dsimp only at hSw
            go_simp
            try with_reducible rfl
          simp only [Act.put, List.getElem_toArray, List.getElem_cons_succ, List.getElem_cons_zero, List.setIfInBounds_toArray, List.set_cons_zero, List.set_cons_succ]
          refine wpAnyH_ready (rs := [9, 13]) (by kernel_rfl) (by simp) ?_
          refine AllReadyH.cons rfl (fun K hK => ?_) ?_
          · skip
            go_simp
            refine hK.out _ _ ?hS1 (fun hHeld => ?_)
            case hS1 => (try dsimp only); (first | done | trivial)
            clear hK K
            try simp only [Act.put, List.getElem_toArray, List.getElem_cons_succ, List.getElem_cons_zero, List.setIfInBounds_toArray, List.set_cons_zero, List.set_cons_succ]
            refine wpAnyH_ready (rs := [13]) (by kernel_rfl) (by simp) ?_
            refine AllReadyH.cons rfl (fun K hK => ?_) AllReadyH.nil
            go_simp
            refine hK.out _ _ ?hS1 (fun hHeld => ?_)
            case hS1 => (try dsimp only); (first | done | trivial)
            clear hK K
            try simp only [Act.put, List.getElem_toArray, List.getElem_cons_succ, List.getElem_cons_zero, List.setIfInBounds_toArray, List.set_cons_zero, List.set_cons_succ]
            refine wpAnyH_take (i := 14) (v := ?_) rfl (by kernel_rfl) (by kernel_rfl) (by kernel_rfl) (fun _ _ _ h => h) (Or.inl ⟨by rfl, ?_⟩) (by assumption) ?_
            rotate_left 1
            · intro w hSw
              try dsimp only at hSw
              go_simp
              try with_reducible rfl
            simp only [Act.put, List.getElem_toArray, List.getElem_cons_succ, List.getElem_cons_zero, List.setIfInBounds_toArray, List.set_cons_zero, List.set_cons_succ]
            refine wpAnyH_ready (rs := [15]) (by kernel_rfl) (by simp) ?_
            refine AllReadyH.cons rfl (fun K hK => ?_) AllReadyH.nil
            go_simp
            refine hK.out _ _ ?hS1 (fun hHeld => ?_)
            case hS1 => (try dsimp only); (first | done | trivial)
            clear hK K
            try simp only [Act.put, List.getElem_toArray, List.getElem_cons_succ, List.getElem_cons_zero, List.setIfInBounds_toArray, List.set_cons_zero, List.set_cons_succ]
            refine wpAnyH_take (i := 16) (v := ?_) rfl (by kernel_rfl) (by kernel_rfl) (by kernel_rfl) (fun _ _ _ h => h) (Or.inl ⟨by rfl, ?_⟩) (by assumption) ?_
            rotate_left 1
            · intro w hSw
              try dsimp only at hSw
              go_simp
              try with_reducible rfl
            simp only [Act.put, List.getElem_toArray, List.getElem_cons_succ, List.getElem_cons_zero, List.setIfInBounds_toArray, List.set_cons_zero, List.set_cons_succ]
            refine wpAnyH_ready (rs := [17]) (by kernel_rfl) (by simp) ?_
            refine AllReadyH.cons rfl (fun K hK => ?_) AllReadyH.nil
            go_simp
            refine hK.out _ _ ?hS1 (fun hHeld => ?_)
            case hS1 => (try dsimp only); (first | done | trivial)
            clear hK K
            try simp only [Act.put, List.getElem_toArray, List.getElem_cons_succ, List.getElem_cons_zero, List.setIfInBounds_toArray, List.set_cons_zero, List.set_cons_succ]
            refine wpAnyH_done (by kernel_rfl) ?_ _
            go_wp2_with fail
            go_roundw
            case rel => exact ⟨k, by omega, by omega, by go_num, HN.out⟩
            case measure => first | omega | (simp [intOf]; done) | (simp [intOf]; omega)
          refine AllReadyH.cons rfl (fun K hK => ?_) ?_
          · skip
            go_simp
            refine hK.out _ _ ?hS1 (fun hHeld => ?_)
            case hS1 => (try dsimp only); (first | done | trivial)
            clear hK K
            try simp only [Act.put, List.getElem_toArray, List.getElem_cons_succ, List.getElem_cons_zero, List.setIfInBounds_toArray, List.set_cons_zero, List.set_cons_succ]
            refine wpAnyH_ready (rs := [9]) (by kernel_rfl) (by simp) ?_
            refine AllReadyH.cons rfl (fun K hK => ?_) AllReadyH.nil
            go_simp
            refine hK.out _ _ ?hS1 (fun hHeld => ?_)
            case hS1 => (try dsimp only); (first | done | trivial)
            clear hK K
            try simp only [Act.put, List.getElem_toArray, List.getElem_cons_succ, List.getElem_cons_zero, List.setIfInBounds_toArray, List.set_cons_zero, List.set_cons_succ]
            refine wpAnyH_take (i := 14) (v := ?_) rfl (by kernel_rfl) (by kernel_rfl) (by kernel_rfl) (fun _ _ _ h => h) (Or.inl ⟨by rfl, ?_⟩) (by assumption) ?_
            rotate_left 1
            · intro w hSw
              try dsimp only at hSw
              go_simp
              try with_reducible rfl
            simp only [Act.put, List.getElem_toArray, List.getElem_cons_succ, List.getElem_cons_zero, List.setIfInBounds_toArray, List.set_cons_zero, List.set_cons_succ]
            refine wpAnyH_ready (rs := [15]) (by kernel_rfl) (by simp) ?_
            refine AllReadyH.cons rfl (fun K hK => ?_) AllReadyH.nil
            go_simp
            refine hK.out _ _ ?hS1 (fun hHeld => ?_)
            case hS1 => (try dsimp only); (first | done | trivial)
            clear hK K
            try simp only [Act.put, List.getElem_toArray, List.getElem_cons_succ, List.getElem_cons_zero, List.setIfInBounds_toArray, List.set_cons_zero, List.set_cons_succ]
            refine wpAnyH_take (i := 16) (v := ?_) rfl (by kernel_rfl) (by kernel_rfl) (by kernel_rfl) (fun _ _ _ h => h) (Or.inl ⟨by rfl, ?_⟩) (by assumption) ?_
            rotate_left 1
            · intro w hSw
              try dsimp only at hSw
              go_simp
              try with_reducible rfl
            simp only [Act.put, List.getElem_toArray, List.getElem_cons_succ, List.getElem_cons_zero, List.setIfInBounds_toArray, List.set_cons_zero, List.set_cons_succ]
            refine wpAnyH_ready (rs := [17]) (by kernel_rfl) (by simp) ?_
            refine AllReadyH.cons rfl (fun K hK => ?_) AllReadyH.nil
            go_simp
            refine hK.out _ _ ?hS1 (fun hHeld => ?_)
            case hS1 => (try dsimp only); (first | done | trivial)
            clear hK K
            try simp only [Act.put, List.getElem_toArray, List.getElem_cons_succ, List.getElem_cons_zero, List.setIfInBounds_toArray, List.set_cons_zero, List.set_cons_succ]
            refine wpAnyH_done (by kernel_rfl) ?_ _
            go_wp2_with fail
            go_roundw
            case rel => exact ⟨k, by omega, by omega, by go_num, HN.out⟩
            case measure => first | omega | (simp [intOf]; done) | (simp [intOf]; omega)
          exact AllReadyH.nil
        · obtain rfl : J = lo := by omega
          clear hrow hkk
          go_wp2_with fail
          refine bodyPost_ret (results_none rfl _ _ _) rfl ?_
          refine ⟨rfl, _, HR2.out, ?_⟩
          rw [HBE.out]
          exact HEND.out
end Go.Proofs.Ytkpakpjbpmnbgaa
