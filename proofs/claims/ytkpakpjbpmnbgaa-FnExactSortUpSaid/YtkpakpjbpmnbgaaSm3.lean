/- Merging in place: the general case. -/
import Derived.Test.YtkpakpjbpmnbgaaSm1
import Derived.Test.YtkpakpjbpmnbgaaSm2
namespace Go.Proofs.Ytkpakpjbpmnbgaa
open Go.ChangeShapes Go.WideShapes Go.ChangeAt Go.RowKit Go.Deep
set_option linter.unusedVariables false
set_option linter.unusedSimpArgs false

/-- What the search has found so far: lo and hi. -/
structure Found (ks : List Int) (d : Bool) (F : Nat → Int) (T s0 r0 lo hi : Nat) : Prop where
  h1 : s0 ≤ lo
  h2 : lo ≤ hi
  h3 : hi ≤ r0
  left : lo = s0 ∨ lessK ks d (F (T - (lo - 1))) (F (lo - 1)) = false
  right : hi = r0 ∨ lessK ks d (F (T - hi)) (F hi) = true
/-- What is known of the place that was found. -/
theorem found_ends {ks : List Int} {d : Bool} {F : Nat → Int} {T s0 r0 s en a m b M n : Nat} (h : Found ks d F T s0 r0 s s) (hp : Parts2 ks d F a m b n) (hT : T + 1 = M + m) (hen : en + s = M + m)
    (hs : (s0 = a ∧ r0 = m ∧ m ≤ M) ∨ (s0 + b = M + m ∧ r0 = M ∧ M < m)) (hM1 : a ≤ M) (hM2 : 2 * M ≤ a + b) (hM3 : a + b ≤ 2 * M + 1) (ham : a < m) (hmb : m < b) :
    (s = a ∨ en = b ∨ leK ks d (F (s - 1)) (F en) = true) ∧ (en = m ∨ s = m ∨ leK ks d (F (en - 1)) (F s) = true) := by
  have h1 := h.h1
  have h3 := h.h3
  constructor
  · rcases h.left with e | e
    · rcases hs with ⟨e1, _⟩ | ⟨e1, _⟩
      · exact .inl (by omega)
      · exact .inr (.inl (by omega))
    · by_cases hsa : s = a
      · exact .inl hsa
      · by_cases heb : en = b
        · exact .inr (.inl heb)
        · refine .inr (.inr (leK_of_not ?_ (hp.lt (s - 1) en (by omega) (by omega) (by omega) (by omega))))
          rw [show T - (s - 1) = en by omega] at e
          exact e
  · rcases h.right with e | e
    · rcases hs with ⟨_, e1, _⟩ | ⟨_, e1, _⟩
      · exact .inr (.inl (by omega))
      · exact .inl (by omega)
    · refine .inr (.inr (leK_of_less ?_))
      rw [show T - s = en - 1 by omega] at e
      exact e
set_option maxRecDepth 20000 in
set_option maxHeartbeats 2000000 in
theorem sym_gen (ks : List Int) (d : Bool) (gf : Nat) (cb : Array Value) (eg : ∀ args w, (callFunc gf args).run Try.prog w = .ok (.enter gf args) w) (w0 w : World) (base g n cap : Nat) (F : Nat → Int) (a m b N : Nat) (h : RowF w0 w base g n cap F)
    (hcmp : CmpAll Try.prog gf cb ks d n g w0) (ham : a + 1 < m) (hmb : m + 1 < b) (hN : b - a ≤ N)
    (ih : ∀ (F : Nat → Int) (a m b : Nat) (w : World), b - a < N → RowF w0 w base g n cap F → a < m → m < b → b ≤ n → Parts2 ks d F a m b n →
      Calls Try.prog 22 #[.slice (some ⟨g, 0, none⟩) n cap, .int .i64 a, .int .i64 m, .int .i64 b, .func (.func gf) #[] cb] w fun e w' => e = .returned (.tuple #[]) ∧ ∃ G, RowF w0 w' base g n cap G ∧ Merged ks d F G a b) (hbn : b ≤ n) (hn : n ≤ 1048576) (hc : n ≤ cap) (hcm : cap ≤ 9223372036854775807) (hp : Parts2 ks d F a m b n) :
    Calls Try.prog 22 #[.slice (some ⟨g, 0, none⟩) n cap, .int .i64 a, .int .i64 m, .int .i64 b, .func (.func gf) #[] cb] w fun e w' => e = .returned (.tuple #[]) ∧ ∃ G, RowF w0 w' base g n cap G ∧ Merged ks d F G a b := by
  have H0 := hide h
  have HC := hide hcmp
  have HP := hide hp
  have IH := hide ih
  obtain ⟨L, hL⟩ : ∃ L : Int, (m : Int) - (a : Int) = L := ⟨_, rfl⟩
  have hw0 : IntKind.i64.wrap ((m : Int) - (a : Int)) = L := by rw [← hL, IntKind.wrap_i64] <;> omega
  have hL1 : (L == 1) = false := by rw [beq_eq_false_iff_ne]; omega
  have hL2 : ¬ (L = 1) := by omega
  obtain ⟨R, hR⟩ : ∃ R : Int, (b : Int) - (m : Int) = R := ⟨_, rfl⟩
  have hw0b : IntKind.i64.wrap ((b : Int) - (m : Int)) = R := by rw [← hR, IntKind.wrap_i64] <;> omega
  have hR1 : (R == 1) = false := by rw [beq_eq_false_iff_ne]; omega
  have hR2 : ¬ (R = 1) := by omega
  obtain ⟨M, hM⟩ : ∃ M : Nat, (a + b) / 2 = M := ⟨_, rfl⟩
  have hMM : a < M ∧ M < b ∧ 2 * M ≤ a + b ∧ a + b ≤ 2 * M + 1 := by omega
  have hwm : IntKind.i64.wrap ((a : Int) + (b : Int)) = (a : Int) + (b : Int) := by rw [IntKind.wrap_i64] <;> omega
  have hum : IntKind.u64.wrap ((a : Int) + (b : Int)) = (a : Int) + (b : Int) := by rw [IntKind.wrap_u64] <;> omega
  have hdm : ((a : Int) + (b : Int)) / 2 = (M : Int) := by omega
  have hwM : IntKind.i64.wrap (M : Int) = (M : Int) := by rw [IntKind.wrap_i64] <;> omega
  obtain ⟨N2, hN2⟩ : ∃ N2 : Nat, M + m = N2 := ⟨_, rfl⟩
  have hwn : IntKind.i64.wrap ((M : Int) + (m : Int)) = (N2 : Int) := by rw [IntKind.wrap_i64] <;> omega
  obtain ⟨T, hT⟩ : ∃ T : Nat, N2 - 1 = T := ⟨_, rfl⟩
  have hwt : IntKind.i64.wrap ((N2 : Int) - 1) = (T : Int) := by rw [IntKind.wrap_i64] <;> omega
  have hT2 : T + 1 ≤ N2 ∧ N2 ≤ T + 1 := by omega
  have hN3 : M + m ≤ N2 ∧ N2 ≤ M + m := by omega
  clear h hcmp hp ih hL hR hM hN2 hT
  rcases Nat.lt_or_ge M m with hcase | hcase
  · obtain ⟨s0, hs0⟩ : ∃ s0 : Nat, M + m - b = s0 := ⟨_, rfl⟩
    have hs1 : s0 + b ≤ N2 ∧ N2 ≤ s0 + b ∧ a ≤ s0 ∧ s0 < M := by omega
    have hws : IntKind.i64.wrap ((N2 : Int) - (b : Int)) = (s0 : Int) := by rw [IntKind.wrap_i64] <;> omega
    have hcz : (M : Int) < (m : Int) := by omega
    clear hs0
    go_enter Try.func22, Try.ntmps22
    go_wp2_with fail
    go_loopw [20, 21, 23] (fun i j _ wr => ∃ lo hi : Nat, i = .int .i64 lo ∧ j = .int .i64 hi ∧ RowF w0 wr base g n cap F ∧ Hid (Found ks d F T s0 M lo hi)) (fun i j _ _ => (intOf j).toNat - (intOf i).toNat)
    case atStart => exact ⟨s0, M, rfl, rfl, H0.out, hide ⟨Nat.le_refl _, by omega, Nat.le_refl _, .inl rfl, .inl rfl⟩⟩
    case round =>
      obtain ⟨lo, hi, rfl, rfl, hrow, HB⟩ := hrel
      have h1 := HB.out.h1
      have h2 := HB.out.h2
      have h3 := HB.out.h3
      have HR := hide hrow
      clear H0
      by_cases hlt : lo < hi
      · have hlo : lo ≤ (lo + hi) / 2 ∧ (lo + hi) / 2 < hi := by omega
        obtain ⟨x, hx⟩ : ∃ x : Nat, (lo + hi) / 2 = x := ⟨_, rfl⟩
        rw [hx] at hlo
        have hw1 : IntKind.i64.wrap ((lo : Int) + (hi : Int)) = (lo : Int) + (hi : Int) := by rw [IntKind.wrap_i64] <;> omega
        have hu1 : IntKind.u64.wrap ((lo : Int) + (hi : Int)) = (lo : Int) + (hi : Int) := by rw [IntKind.wrap_u64] <;> omega
        have hd1 : ((lo : Int) + (hi : Int)) / 2 = (x : Int) := by omega
        have hwx : IntKind.i64.wrap (x : Int) = (x : Int) := by rw [IntKind.wrap_i64] <;> omega
        have hwx1 : IntKind.i64.wrap ((x : Int) + 1) = ((x + 1 : Nat) : Int) := by rw [IntKind.wrap_i64] <;> omega
        have ilt : (lo : Int) < (hi : Int) := by omega
        clear hx
        obtain ⟨y, hy⟩ : ∃ y : Nat, T - x = y := ⟨_, rfl⟩
        have HY := hide hy
        have hy2 : m ≤ y ∧ y < b := by omega
        have hwy : IntKind.i64.wrap ((T : Int) - (x : Int)) = (y : Int) := by rw [IntKind.wrap_i64] <;> omega
        have c1 := hrow.cell (i := y) (by omega)
        have c2 := hrow.cell (i := x) (by omega)
        have f1 := hrow.frozen y
        have f2 := hrow.frozen x
        have ya : (0 : Int) ≤ (y : Int) := by omega
        have yb : (y : Int) < (n : Int) := by omega
        have xa : (0 : Int) ≤ (x : Int) := by omega
        have xb : (x : Int) < (n : Int) := by omega
        have HCC := hide (fun q => HR.out.cmp HC.out q (HP.out.inn y (by omega)) (HP.out.inn x (by omega)))
        clear hrow hy
        obtain ⟨c, hcc⟩ : ∃ c : Int, cmpK ks d (F y) (F x) = c := ⟨_, rfl⟩
        rw [hcc] at HCC
        by_cases hneg : c < 0
        · have HLE := hide (cmpK_less (by rw [hcc]; exact hneg : cmpK ks d (F y) (F x) < 0))
          clear hcc
          go_wp2_with fail
          go_quiet ((go_at_fn gf; exact HCC.out _))
          have HN := hide (HR.out.drewN nq)
          go_wp2_with fail
          go_roundw
          case rel => exact ⟨lo, x, rfl, by go_num, HN.out, hide ⟨h1, by omega, by omega, HB.out.left, .inr (by rw [HY.out]; exact HLE.out)⟩⟩
          case measure => simp [intOf]; omega
        · have HLE := hide (cmpK_not (by rw [hcc]; exact hneg : ¬ (cmpK ks d (F y) (F x) < 0)))
          have hnb : (!decide (c < 0)) = true := by rw [decide_eq_false hneg]; rfl
          clear hcc
          go_wp2_with fail
          go_quiet ((go_at_fn gf; exact HCC.out _))
          have HN := hide (HR.out.drewN nq)
          go_wp2_with fail
          go_roundw
          case rel => exact ⟨x + 1, hi, by go_num, rfl, HN.out, hide ⟨by omega, by omega, h3, .inr (by rw [Nat.add_sub_cancel, HY.out]; exact HLE.out), HB.out.right⟩⟩
          case measure => simp [intOf]; omega
      · obtain rfl : lo = hi := by omega
        obtain ⟨en, hen⟩ : ∃ en : Nat, N2 - lo = en := ⟨_, rfl⟩
        have hwe : IntKind.i64.wrap ((N2 : Int) - (lo : Int)) = (en : Int) := by rw [IntKind.wrap_i64] <;> omega
        have he2 : en + lo ≤ N2 ∧ N2 ≤ en + lo := by omega
        have hin2 : a ≤ lo ∧ lo ≤ m ∧ m ≤ en ∧ en ≤ b ∧ lo ≤ M ∧ M ≤ en := by omega
        have HE := hide (found_ends HB.out HP.out (show T + 1 = M + m by omega) (show en + lo = M + m by omega) (.inr ⟨by omega, rfl, hcase⟩) (by omega) (by omega) (by omega) (by omega) (by omega))
        have HX := hide (fun (F2 F3 : Nat → Int) => merge_join (F2 := F2) (F3 := F3) hin2.1 hin2.2.1 hin2.2.2.1 hin2.2.2.2.1 (show M = lo + (en - m) by omega) HP.out.left HP.out.right rfl HE.out.1 HE.out.2)
        have HQ1 := hide (halves1 HP.out hbn hin2.1 hin2.2.1 hin2.2.2.1 hin2.2.2.2.1 (show M = lo + (en - m) by omega))
        have HQ2 := hide (fun (G : Nat → Int) => halves2 (G := G) HP.out hbn hin2.1 hin2.2.1 hin2.2.2.1 hin2.2.2.2.1 (show M = lo + (en - m) by omega))
        have ilt : ¬ ((lo : Int) < (lo : Int)) := by omega
        clear hrow hlt hen
        by_cases hA : lo < m
        · have ihA0 : (lo : Int) < (m : Int) := by omega
          have ihA1 : (M : Int) < (en : Int) := by omega
          by_cases hB : lo < M
          · have ihB0 : (lo : Int) < (M : Int) := by omega
            have ihB1 : (m : Int) < (en : Int) := by omega
            by_cases hC : a < lo
            · have ihC0 : (a : Int) < (lo : Int) := by omega
              by_cases hD : en < b
              · have ihD0 : (en : Int) < (b : Int) := by omega
                go_wp2_with fail
                refine (rotate_any w0 _ base g n cap F lo m en _ HR.out (by omega) (by omega) (by omega) hn hc hcm).mono ?_
                rintro e w1 ⟨rfl, hr1⟩
                have HR1 := hide hr1
                clear hr1
                go_wp2_with fail
                refine (IH.out (rotF F lo m en) a lo M _ (by omega) HR1.out (by omega) (by omega) (by omega) HQ1.out).mono ?_
                rintro e w2 ⟨rfl, F2, hr2, hm2⟩
                have HR2 := hide hr2
                have HM2 := hide hm2
                clear hr2 hm2
                go_wp2_with fail
                refine (IH.out F2 M en b _ (by omega) HR2.out (by omega) (by omega) (by omega) (HQ2.out F2 HM2.out)).mono ?_
                rintro e w3 ⟨rfl, F3, hr3, hm3⟩
                have HR3 := hide hr3
                have HM3 := hide hm3
                clear hr3 hm3
                go_wp2_with fail
                go_end0
                exact ⟨rfl, _, HR3.out, HX.out _ _ HM2.out HM3.out⟩
              · have ihD0 : ¬ ((en : Int) < (b : Int)) := by omega
                go_wp2_with fail
                refine (rotate_any w0 _ base g n cap F lo m en _ HR.out (by omega) (by omega) (by omega) hn hc hcm).mono ?_
                rintro e w1 ⟨rfl, hr1⟩
                have HR1 := hide hr1
                clear hr1
                go_wp2_with fail
                refine (IH.out (rotF F lo m en) a lo M _ (by omega) HR1.out (by omega) (by omega) (by omega) HQ1.out).mono ?_
                rintro e w2 ⟨rfl, F2, hr2, hm2⟩
                have HR2 := hide hr2
                have HM2 := hide hm2
                clear hr2 hm2
                have HR3 := HR2
                have HM3 := hide ((HQ2.out F2 HM2.out).degen (by omega) (by omega) (by omega))
                go_wp2_with fail
                go_end0
                exact ⟨rfl, _, HR3.out, HX.out _ _ HM2.out HM3.out⟩
            · have ihC0 : ¬ ((a : Int) < (lo : Int)) := by omega
              by_cases hD : en < b
              · have ihD0 : (en : Int) < (b : Int) := by omega
                go_wp2_with fail
                refine (rotate_any w0 _ base g n cap F lo m en _ HR.out (by omega) (by omega) (by omega) hn hc hcm).mono ?_
                rintro e w1 ⟨rfl, hr1⟩
                have HR1 := hide hr1
                clear hr1
                obtain ⟨F2, hF2⟩ : ∃ F2, rotF F lo m en = F2 := ⟨_, rfl⟩
                have HR2 := hide (hF2 ▸ HR1.out)
                have HM2 := hide (show Merged ks d (rotF F lo m en) F2 a M from hF2 ▸ HQ1.out.degen (by omega) (by omega) (by omega))
                clear hF2
                go_wp2_with fail
                refine (IH.out F2 M en b _ (by omega) HR2.out (by omega) (by omega) (by omega) (HQ2.out F2 HM2.out)).mono ?_
                rintro e w3 ⟨rfl, F3, hr3, hm3⟩
                have HR3 := hide hr3
                have HM3 := hide hm3
                clear hr3 hm3
                go_wp2_with fail
                go_end0
                exact ⟨rfl, _, HR3.out, HX.out _ _ HM2.out HM3.out⟩
              · have ihD0 : ¬ ((en : Int) < (b : Int)) := by omega
                go_wp2_with fail
                refine (rotate_any w0 _ base g n cap F lo m en _ HR.out (by omega) (by omega) (by omega) hn hc hcm).mono ?_
                rintro e w1 ⟨rfl, hr1⟩
                have HR1 := hide hr1
                clear hr1
                obtain ⟨F2, hF2⟩ : ∃ F2, rotF F lo m en = F2 := ⟨_, rfl⟩
                have HR2 := hide (hF2 ▸ HR1.out)
                have HM2 := hide (show Merged ks d (rotF F lo m en) F2 a M from hF2 ▸ HQ1.out.degen (by omega) (by omega) (by omega))
                clear hF2
                have HR3 := HR2
                have HM3 := hide ((HQ2.out F2 HM2.out).degen (by omega) (by omega) (by omega))
                go_wp2_with fail
                go_end0
                exact ⟨rfl, _, HR3.out, HX.out _ _ HM2.out HM3.out⟩
          · have ihB0 : ¬ ((lo : Int) < (M : Int)) := by omega
            have ihB1 : ¬ ((m : Int) < (en : Int)) := by omega
            by_cases hC : a < lo
            · have ihC0 : (a : Int) < (lo : Int) := by omega
              by_cases hD : en < b
              · have ihD0 : (en : Int) < (b : Int) := by omega
                have HR1 := hide (HR.out.congr (show F = rotF F lo m en by obtain rfl : m = en := (by omega); exact (rot_id2 F lo _).symm))
                obtain ⟨F2, hF2⟩ : ∃ F2, rotF F lo m en = F2 := ⟨_, rfl⟩
                have HR2 := hide (hF2 ▸ HR1.out)
                have HM2 := hide (show Merged ks d (rotF F lo m en) F2 a M from hF2 ▸ HQ1.out.degen (by omega) (by omega) (by omega))
                clear hF2
                go_wp2_with fail
                refine (IH.out F2 M en b _ (by omega) HR2.out (by omega) (by omega) (by omega) (HQ2.out F2 HM2.out)).mono ?_
                rintro e w3 ⟨rfl, F3, hr3, hm3⟩
                have HR3 := hide hr3
                have HM3 := hide hm3
                clear hr3 hm3
                go_wp2_with fail
                go_end0
                exact ⟨rfl, _, HR3.out, HX.out _ _ HM2.out HM3.out⟩
              · have ihD0 : ¬ ((en : Int) < (b : Int)) := by omega
                have HR1 := hide (HR.out.congr (show F = rotF F lo m en by obtain rfl : m = en := (by omega); exact (rot_id2 F lo _).symm))
                obtain ⟨F2, hF2⟩ : ∃ F2, rotF F lo m en = F2 := ⟨_, rfl⟩
                have HR2 := hide (hF2 ▸ HR1.out)
                have HM2 := hide (show Merged ks d (rotF F lo m en) F2 a M from hF2 ▸ HQ1.out.degen (by omega) (by omega) (by omega))
                clear hF2
                have HR3 := HR2
                have HM3 := hide ((HQ2.out F2 HM2.out).degen (by omega) (by omega) (by omega))
                go_wp2_with fail
                go_end0
                exact ⟨rfl, _, HR3.out, HX.out _ _ HM2.out HM3.out⟩
            · have ihC0 : ¬ ((a : Int) < (lo : Int)) := by omega
              by_cases hD : en < b
              · have ihD0 : (en : Int) < (b : Int) := by omega
                have HR1 := hide (HR.out.congr (show F = rotF F lo m en by obtain rfl : m = en := (by omega); exact (rot_id2 F lo _).symm))
                obtain ⟨F2, hF2⟩ : ∃ F2, rotF F lo m en = F2 := ⟨_, rfl⟩
                have HR2 := hide (hF2 ▸ HR1.out)
                have HM2 := hide (show Merged ks d (rotF F lo m en) F2 a M from hF2 ▸ HQ1.out.degen (by omega) (by omega) (by omega))
                clear hF2
                go_wp2_with fail
                refine (IH.out F2 M en b _ (by omega) HR2.out (by omega) (by omega) (by omega) (HQ2.out F2 HM2.out)).mono ?_
                rintro e w3 ⟨rfl, F3, hr3, hm3⟩
                have HR3 := hide hr3
                have HM3 := hide hm3
                clear hr3 hm3
                go_wp2_with fail
                go_end0
                exact ⟨rfl, _, HR3.out, HX.out _ _ HM2.out HM3.out⟩
              · have ihD0 : ¬ ((en : Int) < (b : Int)) := by omega
                have HR1 := hide (HR.out.congr (show F = rotF F lo m en by obtain rfl : m = en := (by omega); exact (rot_id2 F lo _).symm))
                obtain ⟨F2, hF2⟩ : ∃ F2, rotF F lo m en = F2 := ⟨_, rfl⟩
                have HR2 := hide (hF2 ▸ HR1.out)
                have HM2 := hide (show Merged ks d (rotF F lo m en) F2 a M from hF2 ▸ HQ1.out.degen (by omega) (by omega) (by omega))
                clear hF2
                have HR3 := HR2
                have HM3 := hide ((HQ2.out F2 HM2.out).degen (by omega) (by omega) (by omega))
                go_wp2_with fail
                go_end0
                exact ⟨rfl, _, HR3.out, HX.out _ _ HM2.out HM3.out⟩
        · have ihA0 : ¬ ((lo : Int) < (m : Int)) := by omega
          have ihA1 : ¬ ((M : Int) < (en : Int)) := by omega
          by_cases hB : lo < M
          · have ihB0 : (lo : Int) < (M : Int) := by omega
            have ihB1 : (m : Int) < (en : Int) := by omega
            by_cases hC : a < lo
            · have ihC0 : (a : Int) < (lo : Int) := by omega
              exfalso
              omega
            · have ihC0 : ¬ ((a : Int) < (lo : Int)) := by omega
              exfalso
              omega
          · have ihB0 : ¬ ((lo : Int) < (M : Int)) := by omega
            have ihB1 : ¬ ((m : Int) < (en : Int)) := by omega
            by_cases hC : a < lo
            · have ihC0 : (a : Int) < (lo : Int) := by omega
              exfalso
              omega
            · have ihC0 : ¬ ((a : Int) < (lo : Int)) := by omega
              exfalso
              omega

  · obtain ⟨s0, hs0⟩ : ∃ s0 : Nat, s0 = a := ⟨a, rfl⟩
    have hs1 : s0 ≤ a ∧ a ≤ s0 := by omega
    have hcz : ¬ ((M : Int) < (m : Int)) := by omega
    clear hs0
    go_enter Try.func22, Try.ntmps22
    go_wp2_with fail
    go_loopw [20, 21, 23] (fun i j _ wr => ∃ lo hi : Nat, i = .int .i64 lo ∧ j = .int .i64 hi ∧ RowF w0 wr base g n cap F ∧ Hid (Found ks d F T s0 m lo hi)) (fun i j _ _ => (intOf j).toNat - (intOf i).toNat)
    case atStart => exact ⟨s0, m, congrArg (Value.int .i64) (by omega), rfl, H0.out, hide ⟨Nat.le_refl _, by omega, Nat.le_refl _, .inl rfl, .inl rfl⟩⟩
    case round =>
      obtain ⟨lo, hi, rfl, rfl, hrow, HB⟩ := hrel
      have h1 := HB.out.h1
      have h2 := HB.out.h2
      have h3 := HB.out.h3
      have HR := hide hrow
      clear H0
      by_cases hlt : lo < hi
      · have hlo : lo ≤ (lo + hi) / 2 ∧ (lo + hi) / 2 < hi := by omega
        obtain ⟨x, hx⟩ : ∃ x : Nat, (lo + hi) / 2 = x := ⟨_, rfl⟩
        rw [hx] at hlo
        have hw1 : IntKind.i64.wrap ((lo : Int) + (hi : Int)) = (lo : Int) + (hi : Int) := by rw [IntKind.wrap_i64] <;> omega
        have hu1 : IntKind.u64.wrap ((lo : Int) + (hi : Int)) = (lo : Int) + (hi : Int) := by rw [IntKind.wrap_u64] <;> omega
        have hd1 : ((lo : Int) + (hi : Int)) / 2 = (x : Int) := by omega
        have hwx : IntKind.i64.wrap (x : Int) = (x : Int) := by rw [IntKind.wrap_i64] <;> omega
        have hwx1 : IntKind.i64.wrap ((x : Int) + 1) = ((x + 1 : Nat) : Int) := by rw [IntKind.wrap_i64] <;> omega
        have ilt : (lo : Int) < (hi : Int) := by omega
        clear hx
        obtain ⟨y, hy⟩ : ∃ y : Nat, T - x = y := ⟨_, rfl⟩
        have HY := hide hy
        have hy2 : m ≤ y ∧ y < b := by omega
        have hwy : IntKind.i64.wrap ((T : Int) - (x : Int)) = (y : Int) := by rw [IntKind.wrap_i64] <;> omega
        have c1 := hrow.cell (i := y) (by omega)
        have c2 := hrow.cell (i := x) (by omega)
        have f1 := hrow.frozen y
        have f2 := hrow.frozen x
        have ya : (0 : Int) ≤ (y : Int) := by omega
        have yb : (y : Int) < (n : Int) := by omega
        have xa : (0 : Int) ≤ (x : Int) := by omega
        have xb : (x : Int) < (n : Int) := by omega
        have HCC := hide (fun q => HR.out.cmp HC.out q (HP.out.inn y (by omega)) (HP.out.inn x (by omega)))
        clear hrow hy
        obtain ⟨c, hcc⟩ : ∃ c : Int, cmpK ks d (F y) (F x) = c := ⟨_, rfl⟩
        rw [hcc] at HCC
        by_cases hneg : c < 0
        · have HLE := hide (cmpK_less (by rw [hcc]; exact hneg : cmpK ks d (F y) (F x) < 0))
          clear hcc
          go_wp2_with fail
          go_quiet ((go_at_fn gf; exact HCC.out _))
          have HN := hide (HR.out.drewN nq)
          go_wp2_with fail
          go_roundw
          case rel => exact ⟨lo, x, rfl, by go_num, HN.out, hide ⟨h1, by omega, by omega, HB.out.left, .inr (by rw [HY.out]; exact HLE.out)⟩⟩
          case measure => simp [intOf]; omega
        · have HLE := hide (cmpK_not (by rw [hcc]; exact hneg : ¬ (cmpK ks d (F y) (F x) < 0)))
          have hnb : (!decide (c < 0)) = true := by rw [decide_eq_false hneg]; rfl
          clear hcc
          go_wp2_with fail
          go_quiet ((go_at_fn gf; exact HCC.out _))
          have HN := hide (HR.out.drewN nq)
          go_wp2_with fail
          go_roundw
          case rel => exact ⟨x + 1, hi, by go_num, rfl, HN.out, hide ⟨by omega, by omega, h3, .inr (by rw [Nat.add_sub_cancel, HY.out]; exact HLE.out), HB.out.right⟩⟩
          case measure => simp [intOf]; omega
      · obtain rfl : lo = hi := by omega
        obtain ⟨en, hen⟩ : ∃ en : Nat, N2 - lo = en := ⟨_, rfl⟩
        have hwe : IntKind.i64.wrap ((N2 : Int) - (lo : Int)) = (en : Int) := by rw [IntKind.wrap_i64] <;> omega
        have he2 : en + lo ≤ N2 ∧ N2 ≤ en + lo := by omega
        have hin2 : a ≤ lo ∧ lo ≤ m ∧ m ≤ en ∧ en ≤ b ∧ lo ≤ M ∧ M ≤ en := by omega
        have HE := hide (found_ends HB.out HP.out (show T + 1 = M + m by omega) (show en + lo = M + m by omega) (.inl ⟨by omega, rfl, hcase⟩) (by omega) (by omega) (by omega) (by omega) (by omega))
        have HX := hide (fun (F2 F3 : Nat → Int) => merge_join (F2 := F2) (F3 := F3) hin2.1 hin2.2.1 hin2.2.2.1 hin2.2.2.2.1 (show M = lo + (en - m) by omega) HP.out.left HP.out.right rfl HE.out.1 HE.out.2)
        have HQ1 := hide (halves1 HP.out hbn hin2.1 hin2.2.1 hin2.2.2.1 hin2.2.2.2.1 (show M = lo + (en - m) by omega))
        have HQ2 := hide (fun (G : Nat → Int) => halves2 (G := G) HP.out hbn hin2.1 hin2.2.1 hin2.2.2.1 hin2.2.2.2.1 (show M = lo + (en - m) by omega))
        have ilt : ¬ ((lo : Int) < (lo : Int)) := by omega
        clear hrow hlt hen
        by_cases hA : lo < m
        · have ihA0 : (lo : Int) < (m : Int) := by omega
          have ihA1 : (M : Int) < (en : Int) := by omega
          by_cases hB : lo < M
          · have ihB0 : (lo : Int) < (M : Int) := by omega
            have ihB1 : (m : Int) < (en : Int) := by omega
            by_cases hC : a < lo
            · have ihC0 : (a : Int) < (lo : Int) := by omega
              by_cases hD : en < b
              · have ihD0 : (en : Int) < (b : Int) := by omega
                go_wp2_with fail
                refine (rotate_any w0 _ base g n cap F lo m en _ HR.out (by omega) (by omega) (by omega) hn hc hcm).mono ?_
                rintro e w1 ⟨rfl, hr1⟩
                have HR1 := hide hr1
                clear hr1
                go_wp2_with fail
                refine (IH.out (rotF F lo m en) a lo M _ (by omega) HR1.out (by omega) (by omega) (by omega) HQ1.out).mono ?_
                rintro e w2 ⟨rfl, F2, hr2, hm2⟩
                have HR2 := hide hr2
                have HM2 := hide hm2
                clear hr2 hm2
                go_wp2_with fail
                refine (IH.out F2 M en b _ (by omega) HR2.out (by omega) (by omega) (by omega) (HQ2.out F2 HM2.out)).mono ?_
                rintro e w3 ⟨rfl, F3, hr3, hm3⟩
                have HR3 := hide hr3
                have HM3 := hide hm3
                clear hr3 hm3
                go_wp2_with fail
                go_end0
                exact ⟨rfl, _, HR3.out, HX.out _ _ HM2.out HM3.out⟩
              · have ihD0 : ¬ ((en : Int) < (b : Int)) := by omega
                go_wp2_with fail
                refine (rotate_any w0 _ base g n cap F lo m en _ HR.out (by omega) (by omega) (by omega) hn hc hcm).mono ?_
                rintro e w1 ⟨rfl, hr1⟩
                have HR1 := hide hr1
                clear hr1
                go_wp2_with fail
                refine (IH.out (rotF F lo m en) a lo M _ (by omega) HR1.out (by omega) (by omega) (by omega) HQ1.out).mono ?_
                rintro e w2 ⟨rfl, F2, hr2, hm2⟩
                have HR2 := hide hr2
                have HM2 := hide hm2
                clear hr2 hm2
                have HR3 := HR2
                have HM3 := hide ((HQ2.out F2 HM2.out).degen (by omega) (by omega) (by omega))
                go_wp2_with fail
                go_end0
                exact ⟨rfl, _, HR3.out, HX.out _ _ HM2.out HM3.out⟩
            · have ihC0 : ¬ ((a : Int) < (lo : Int)) := by omega
              by_cases hD : en < b
              · have ihD0 : (en : Int) < (b : Int) := by omega
                go_wp2_with fail
                refine (rotate_any w0 _ base g n cap F lo m en _ HR.out (by omega) (by omega) (by omega) hn hc hcm).mono ?_
                rintro e w1 ⟨rfl, hr1⟩
                have HR1 := hide hr1
                clear hr1
                obtain ⟨F2, hF2⟩ : ∃ F2, rotF F lo m en = F2 := ⟨_, rfl⟩
                have HR2 := hide (hF2 ▸ HR1.out)
                have HM2 := hide (show Merged ks d (rotF F lo m en) F2 a M from hF2 ▸ HQ1.out.degen (by omega) (by omega) (by omega))
                clear hF2
                go_wp2_with fail
                refine (IH.out F2 M en b _ (by omega) HR2.out (by omega) (by omega) (by omega) (HQ2.out F2 HM2.out)).mono ?_
                rintro e w3 ⟨rfl, F3, hr3, hm3⟩
                have HR3 := hide hr3
                have HM3 := hide hm3
                clear hr3 hm3
                go_wp2_with fail
                go_end0
                exact ⟨rfl, _, HR3.out, HX.out _ _ HM2.out HM3.out⟩
              · have ihD0 : ¬ ((en : Int) < (b : Int)) := by omega
                go_wp2_with fail
                refine (rotate_any w0 _ base g n cap F lo m en _ HR.out (by omega) (by omega) (by omega) hn hc hcm).mono ?_
                rintro e w1 ⟨rfl, hr1⟩
                have HR1 := hide hr1
                clear hr1
                obtain ⟨F2, hF2⟩ : ∃ F2, rotF F lo m en = F2 := ⟨_, rfl⟩
                have HR2 := hide (hF2 ▸ HR1.out)
                have HM2 := hide (show Merged ks d (rotF F lo m en) F2 a M from hF2 ▸ HQ1.out.degen (by omega) (by omega) (by omega))
                clear hF2
                have HR3 := HR2
                have HM3 := hide ((HQ2.out F2 HM2.out).degen (by omega) (by omega) (by omega))
                go_wp2_with fail
                go_end0
                exact ⟨rfl, _, HR3.out, HX.out _ _ HM2.out HM3.out⟩
          · have ihB0 : ¬ ((lo : Int) < (M : Int)) := by omega
            have ihB1 : ¬ ((m : Int) < (en : Int)) := by omega
            by_cases hC : a < lo
            · have ihC0 : (a : Int) < (lo : Int) := by omega
              by_cases hD : en < b
              · have ihD0 : (en : Int) < (b : Int) := by omega
                have HR1 := hide (HR.out.congr (show F = rotF F lo m en by obtain rfl : m = en := (by omega); exact (rot_id2 F lo _).symm))
                obtain ⟨F2, hF2⟩ : ∃ F2, rotF F lo m en = F2 := ⟨_, rfl⟩
                have HR2 := hide (hF2 ▸ HR1.out)
                have HM2 := hide (show Merged ks d (rotF F lo m en) F2 a M from hF2 ▸ HQ1.out.degen (by omega) (by omega) (by omega))
                clear hF2
                go_wp2_with fail
                refine (IH.out F2 M en b _ (by omega) HR2.out (by omega) (by omega) (by omega) (HQ2.out F2 HM2.out)).mono ?_
                rintro e w3 ⟨rfl, F3, hr3, hm3⟩
                have HR3 := hide hr3
                have HM3 := hide hm3
                clear hr3 hm3
                go_wp2_with fail
                go_end0
                exact ⟨rfl, _, HR3.out, HX.out _ _ HM2.out HM3.out⟩
              · have ihD0 : ¬ ((en : Int) < (b : Int)) := by omega
                have HR1 := hide (HR.out.congr (show F = rotF F lo m en by obtain rfl : m = en := (by omega); exact (rot_id2 F lo _).symm))
                obtain ⟨F2, hF2⟩ : ∃ F2, rotF F lo m en = F2 := ⟨_, rfl⟩
                have HR2 := hide (hF2 ▸ HR1.out)
                have HM2 := hide (show Merged ks d (rotF F lo m en) F2 a M from hF2 ▸ HQ1.out.degen (by omega) (by omega) (by omega))
                clear hF2
                have HR3 := HR2
                have HM3 := hide ((HQ2.out F2 HM2.out).degen (by omega) (by omega) (by omega))
                go_wp2_with fail
                go_end0
                exact ⟨rfl, _, HR3.out, HX.out _ _ HM2.out HM3.out⟩
            · have ihC0 : ¬ ((a : Int) < (lo : Int)) := by omega
              by_cases hD : en < b
              · have ihD0 : (en : Int) < (b : Int) := by omega
                have HR1 := hide (HR.out.congr (show F = rotF F lo m en by obtain rfl : m = en := (by omega); exact (rot_id2 F lo _).symm))
                obtain ⟨F2, hF2⟩ : ∃ F2, rotF F lo m en = F2 := ⟨_, rfl⟩
                have HR2 := hide (hF2 ▸ HR1.out)
                have HM2 := hide (show Merged ks d (rotF F lo m en) F2 a M from hF2 ▸ HQ1.out.degen (by omega) (by omega) (by omega))
                clear hF2
                go_wp2_with fail
                refine (IH.out F2 M en b _ (by omega) HR2.out (by omega) (by omega) (by omega) (HQ2.out F2 HM2.out)).mono ?_
                rintro e w3 ⟨rfl, F3, hr3, hm3⟩
                have HR3 := hide hr3
                have HM3 := hide hm3
                clear hr3 hm3
                go_wp2_with fail
                go_end0
                exact ⟨rfl, _, HR3.out, HX.out _ _ HM2.out HM3.out⟩
              · have ihD0 : ¬ ((en : Int) < (b : Int)) := by omega
                have HR1 := hide (HR.out.congr (show F = rotF F lo m en by obtain rfl : m = en := (by omega); exact (rot_id2 F lo _).symm))
                obtain ⟨F2, hF2⟩ : ∃ F2, rotF F lo m en = F2 := ⟨_, rfl⟩
                have HR2 := hide (hF2 ▸ HR1.out)
                have HM2 := hide (show Merged ks d (rotF F lo m en) F2 a M from hF2 ▸ HQ1.out.degen (by omega) (by omega) (by omega))
                clear hF2
                have HR3 := HR2
                have HM3 := hide ((HQ2.out F2 HM2.out).degen (by omega) (by omega) (by omega))
                go_wp2_with fail
                go_end0
                exact ⟨rfl, _, HR3.out, HX.out _ _ HM2.out HM3.out⟩
        · have ihA0 : ¬ ((lo : Int) < (m : Int)) := by omega
          have ihA1 : ¬ ((M : Int) < (en : Int)) := by omega
          by_cases hB : lo < M
          · have ihB0 : (lo : Int) < (M : Int) := by omega
            have ihB1 : (m : Int) < (en : Int) := by omega
            by_cases hC : a < lo
            · have ihC0 : (a : Int) < (lo : Int) := by omega
              have HR1 := hide (HR.out.congr (show F = rotF F lo m en by obtain rfl : lo = m := (by omega); exact (rot_id1 F lo en).symm))
              go_wp2_with fail
              refine (IH.out (rotF F lo m en) a lo M _ (by omega) HR1.out (by omega) (by omega) (by omega) HQ1.out).mono ?_
              rintro e w2 ⟨rfl, F2, hr2, hm2⟩
              have HR2 := hide hr2
              have HM2 := hide hm2
              clear hr2 hm2
              have HR3 := HR2
              have HM3 := hide ((HQ2.out F2 HM2.out).degen (by omega) (by omega) (by omega))
              go_wp2_with fail
              go_end0
              exact ⟨rfl, _, HR3.out, HX.out _ _ HM2.out HM3.out⟩
            · have ihC0 : ¬ ((a : Int) < (lo : Int)) := by omega
              exfalso
              omega
          · have ihB0 : ¬ ((lo : Int) < (M : Int)) := by omega
            have ihB1 : ¬ ((m : Int) < (en : Int)) := by omega
            by_cases hC : a < lo
            · have ihC0 : (a : Int) < (lo : Int) := by omega
              have HR1 := hide (HR.out.congr (show F = rotF F lo m en by obtain rfl : lo = m := (by omega); exact (rot_id1 F lo en).symm))
              obtain ⟨F2, hF2⟩ : ∃ F2, rotF F lo m en = F2 := ⟨_, rfl⟩
              have HR2 := hide (hF2 ▸ HR1.out)
              have HM2 := hide (show Merged ks d (rotF F lo m en) F2 a M from hF2 ▸ HQ1.out.degen (by omega) (by omega) (by omega))
              clear hF2
              have HR3 := HR2
              have HM3 := hide ((HQ2.out F2 HM2.out).degen (by omega) (by omega) (by omega))
              go_wp2_with fail
              go_end0
              exact ⟨rfl, _, HR3.out, HX.out _ _ HM2.out HM3.out⟩
            · have ihC0 : ¬ ((a : Int) < (lo : Int)) := by omega
              exfalso
              omega

end Go.Proofs.Ytkpakpjbpmnbgaa
