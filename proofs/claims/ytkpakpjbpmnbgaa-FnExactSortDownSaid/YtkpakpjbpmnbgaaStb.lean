/- The stable sort of slices at []int, at any length. -/
import Derived.Test.YtkpakpjbpmnbgaaSm3
import Derived.Test.YtkpakpjbpmnbgaaBks
namespace Go.Proofs.Ytkpakpjbpmnbgaa
open Go.ChangeShapes Go.WideShapes Go.ChangeAt Go.RowKit Go.Deep
set_option linter.unusedVariables false
set_option linter.unusedSimpArgs false

theorem symMerge_any (ks : List Int) (d : Bool) (gf : Nat) (cb : Array Value) (eg : ∀ args w, (callFunc gf args).run Try.prog w = .ok (.enter gf args) w) (w0 : World) (base g n cap : Nat)
    (hcmp : CmpAll Try.prog gf cb ks d n g w0) (hn : n ≤ 1048576) (hc : n ≤ cap) (hcm : cap ≤ 9223372036854775807) : ∀ (N : Nat) (F : Nat → Int) (a m b : Nat) (w : World), b - a < N → RowF w0 w base g n cap F → a < m → m < b → b ≤ n → Parts2 ks d F a m b n →
    Calls Try.prog 22 #[.slice (some ⟨g, 0, none⟩) n cap, .int .i64 a, .int .i64 m, .int .i64 b, .func (.func gf) #[] cb] w fun e w' => e = .returned (.tuple #[]) ∧ ∃ G, RowF w0 w' base g n cap G ∧ Merged ks d F G a b := by
  intro N
  induction N with
  | zero =>
    intro F a m b w hN
    omega
  | succ N ih =>
    intro F a m b w hN h ham hmb hbn hp
    by_cases h1 : m = a + 1
    · exact sym_left ks d gf cb eg w0 w base g n cap F a m b h hcmp h1 hmb hbn hn hc hcm hp
    by_cases h2 : b = m + 1
    · exact sym_right ks d gf cb eg w0 w base g n cap F a m b h hcmp (by omega) h2 hbn hn hc hcm hp
    exact sym_gen ks d gf cb eg w0 w base g n cap F a m b N h hcmp (by omega) (by omega) (by omega) ih hbn hn hc hcm hp
set_option maxRecDepth 20000 in
set_option maxHeartbeats 2000000 in
theorem stable_any (ks : List Int) (d : Bool) (gf : Nat) (cb : Array Value) (eg : ∀ args w, (callFunc gf args).run Try.prog w = .ok (.enter gf args) w) (w0 : World) (base g n cap : Nat)
    (hcmp : CmpAll Try.prog gf cb ks d n g w0) (hn : n ≤ 1048576) (hc : n ≤ cap) (hcm : cap ≤ 9223372036854775807) (w : World) (h : RowF w0 w base g n cap idF) :
    Calls Try.prog 20 #[.slice (some ⟨g, 0, none⟩) n cap, .int .i64 n, .func (.func gf) #[] cb] w fun e w' => e = .returned (.tuple #[]) ∧ ∃ G, RowF w0 w' base g n cap G ∧ BlkF ks d G 0 n := by
  have H0 := hide h
  have HC := hide hcmp
  have HSM := hide (symMerge_any ks d gf cb eg w0 base g n cap hcmp hn hc hcm (n + 1))
  clear h hcmp
  go_enter Try.func20, Try.ntmps20
  go_wp2_with fail
  go_loopw [7, 8] (fun i j wr => ∃ (a b : Nat) (F : Nat → Int), i = .int .i64 a ∧ j = .int .i64 b ∧ a ≤ n ∧ b ≤ a + 20 ∧ a + 20 ≤ b ∧ RowF w0 wr base g n cap F ∧ Hid (20 ∣ a ∧ BksTo ks d F 20 a n ∧ InF F n ∧ ∀ p, a ≤ p → F p = p)) (fun i _ _ => n - (intOf i).toNat)
  case atStart => exact ⟨0, 20, idF, rfl, rfl, Nat.zero_le _, Nat.le_refl _, Nat.le_refl _, H0.out, hide ⟨Nat.dvd_zero _, BksTo.zero, inF_id n, fun _ _ => rfl⟩⟩
  case round =>
    obtain ⟨a, b, F, rfl, rfl, han, hb1, hb2, hrow, HB⟩ := hrel
    have HR := hide hrow
    clear hrow H0
    by_cases hbn : b ≤ n
    · have i1 : (b : Int) ≤ (n : Int) := by omega
      have hwb : IntKind.i64.wrap ((b : Int) + 20) = ((b + 20 : Nat) : Int) := by rw [IntKind.wrap_i64] <;> omega
      go_wp2_with fail
      refine (insertion_any ks d gf cb eg w0 wr base g n cap F a b HR.out HC.out (by omega) hbn hn hc hcm HB.out.2.2.1 (fun p q x y z => by rw [HB.out.2.2.2 p x, HB.out.2.2.2 q (by omega)]; omega)).mono ?_
      rintro e w1 ⟨rfl, G, hr1, hm1⟩
      have HR1 := hide hr1
      have HM1 := hide hm1
      clear hr1 hm1
      go_wp2_with fail
      go_roundw
      case rel =>
        refine ⟨b, b + 20, G, rfl, by go_num, hbn, Nat.le_refl _, Nat.le_refl _, HR1.out, hide ?_⟩
        obtain rfl : b = a + 20 := by omega
        exact ⟨dvd_self_add HB.out.1, HB.out.2.1.more HB.out.1 han (by omega) HM1.out (BlkF.ofId (fun p x _ => HB.out.2.2.2 p x) HM1.out), HB.out.2.2.1.merged HM1.out hbn, fun p x => by rw [HM1.out.out p (by omega)]; exact HB.out.2.2.2 p (by omega)⟩
      case measure => simp [intOf]; omega
    · have i1 : ¬ ((b : Int) ≤ (n : Int)) := by omega
      obtain ⟨wo, hwo⟩ : ∃ wo : World, wo = wr := ⟨_, rfl⟩
      subst hwo
      go_wp2_with fail
      refine (insertion_any ks d gf cb eg w0 wo base g n cap F a n HR.out HC.out han (Nat.le_refl _) hn hc hcm HB.out.2.2.1 (fun p q x y z => by rw [HB.out.2.2.2 p x, HB.out.2.2.2 q (by omega)]; omega)).mono ?_
      rintro e w1 ⟨rfl, G, hr1, hm1⟩
      have HR1 := hide hr1
      have HG1 := hide (show BksFrom ks d G 20 0 n from (HB.out.2.1.more HB.out.1 han (by omega) hm1 (BlkF.ofId (fun p x _ => HB.out.2.2.2 p x) hm1)).all (by omega))
      have HI1 := hide (HB.out.2.2.1.merged hm1 (Nat.le_refl _))
      clear hr1 hm1 HB HR hb1 hb2 hbn i1 han
      go_wp2_with fail
      go_loopw [6, 7, 8, 9] (fun s _ _ _ wr => ∃ (S : Nat) (F : Nat → Int), s = .int .i64 S ∧ 0 < S ∧ S ≤ 2097152 ∧ RowF w0 wr base g n cap F ∧ Hid (BksFrom ks d F S 0 n ∧ InF F n)) (fun s _ _ _ _ => n - (intOf s).toNat)
      case atStart => exact ⟨20, G, rfl, by omega, by omega, HR1.out, hide ⟨HG1.out, HI1.out⟩⟩
      case round =>
        obtain ⟨S, F, rfl, hS0, hS1, hrow, HB⟩ := hrel
        have HR := hide hrow
        clear hrow HR1 HG1 HI1
        by_cases hsn : S < n
        · have i1 : (S : Int) < (n : Int) := by omega
          obtain ⟨D, hD⟩ : ∃ D : Nat, 2 * S = D := ⟨_, rfl⟩
          have HD := hide hD
          have hw2 : IntKind.i64.wrap (2 * (S : Int)) = (D : Int) := by rw [IntKind.wrap_i64] <;> omega
          have hw2' : IntKind.i64.wrap ((S : Int) * 2) = (D : Int) := by rw [IntKind.wrap_i64] <;> omega
          have hD1 : S + S ≤ D ∧ D ≤ S + S := by omega
          clear hD
          obtain ⟨wo, hwo⟩ : ∃ wo : World, wo = wr := ⟨_, rfl⟩
          subst hwo
          go_wp2_with fail
          go_loopw [7, 8] (fun i j wr => ∃ (a b : Nat) (G : Nat → Int), i = .int .i64 a ∧ j = .int .i64 b ∧ a ≤ n ∧ b ≤ a + D ∧ a + D ≤ b ∧ RowF w0 wr base g n cap G ∧ Hid (2 * S ∣ a ∧ BksTo ks d G (2 * S) a n ∧ BksFrom ks d G S a n ∧ InF G n)) (fun i _ _ => n - (intOf i).toNat)
          case atStart => exact ⟨0, D, F, rfl, rfl, Nat.zero_le _, by omega, by omega, HR.out, hide ⟨Nat.dvd_zero _, BksTo.zero, HB.out.1, HB.out.2⟩⟩
          case round =>
            obtain ⟨a, b, G, rfl, rfl, han, hb1, hb2, hrow, HG⟩ := hrel
            have HR2 := hide hrow
            clear hrow HR
            by_cases hbn : b ≤ n
            · have j1 : (b : Int) ≤ (n : Int) := by omega
              obtain ⟨m, hm⟩ : ∃ m : Nat, a + S = m := ⟨_, rfl⟩
              have HMQ := hide hm
              have hwm : IntKind.i64.wrap ((a : Int) + (S : Int)) = (m : Int) := by rw [IntKind.wrap_i64] <;> omega
              have hwb : IntKind.i64.wrap ((b : Int) + (D : Int)) = ((b + D : Nat) : Int) := by rw [IntKind.wrap_i64] <;> omega
              have hmr : a < m ∧ m < b := by omega
              have HL := hide (show BlkF ks d G a m from HG.out.2.2.1.at_ (dvd_half HG.out.1) (Nat.le_refl _) (by omega) (by omega))
              have HRR := hide (show BlkF ks d G m b from HG.out.2.2.1.at_ (by rw [← hm]; exact dvd_self_add (dvd_half HG.out.1)) (by omega) (by omega) (by omega))
              clear hm
              go_wp2_with fail
              refine (HSM.out G a m b wr (by omega) HR2.out hmr.1 hmr.2 hbn (HL.out.parts HRR.out HG.out.2.2.2)).mono ?_
              rintro e w1 ⟨rfl, H, hr1, hm1⟩
              have HR3 := hide hr1
              have HM3 := hide hm1
              clear hr1 hm1
              go_wp2_with fail
              go_roundw
              case rel =>
                refine ⟨b, b + D, H, rfl, by go_num, hbn, Nat.le_refl _, Nat.le_refl _, HR3.out, hide ?_⟩
                have hJ := HL.out.join HRR.out (by omega) (by omega) HM3.out
                have hT := HG.out.2.1.more HG.out.1 han (b := b) (by have := HD.out; omega) HM3.out hJ
                obtain rfl : b = a + 2 * S := by have := HD.out; omega
                exact ⟨dvd_self_add HG.out.1, hT, HG.out.2.2.1.less (by omega) HM3.out, HG.out.2.2.2.merged HM3.out hbn⟩
              case measure => simp [intOf]; omega
            · have j1 : ¬ ((b : Int) ≤ (n : Int)) := by omega
              obtain ⟨m, hm⟩ : ∃ m : Nat, a + S = m := ⟨_, rfl⟩
              have HMQ := hide hm
              have hwm : IntKind.i64.wrap ((a : Int) + (S : Int)) = (m : Int) := by rw [IntKind.wrap_i64] <;> omega
              by_cases hmn : m < n
              · have k1 : (m : Int) < (n : Int) := by omega
                have HL := hide (show BlkF ks d G a m from HG.out.2.2.1.at_ (dvd_half HG.out.1) (Nat.le_refl _) (by omega) (by omega))
                have HRR := hide (show BlkF ks d G m n from HG.out.2.2.1.at_ (by rw [← hm]; exact dvd_self_add (dvd_half HG.out.1)) (by omega) (by omega) (by omega))
                have hmr : a < m := by omega
                clear hm
                go_wp2_with fail
                refine (HSM.out G a m n wr (by omega) HR2.out hmr hmn (Nat.le_refl _) (HL.out.parts HRR.out HG.out.2.2.2)).mono ?_
                rintro e w1 ⟨rfl, H, hr1, hm1⟩
                have HR3 := hide hr1
                have HM3 := hide hm1
                clear hr1 hm1
                go_wp2_with fail
                go_roundw
                case rel =>
                  refine ⟨D, H, rfl, by omega, by omega, HR3.out, hide ?_⟩
                  have hJ := HL.out.join HRR.out (by omega) (by omega) HM3.out
                  have hT := HG.out.2.1.more HG.out.1 han (b := n) (by have := HD.out; omega) HM3.out hJ
                  obtain rfl : D = 2 * S := by omega
                  exact ⟨hT.all (by omega), HG.out.2.2.2.merged HM3.out (Nat.le_refl _)⟩
                case measure => simp [intOf]; omega
              · have k1 : ¬ ((m : Int) < (n : Int)) := by omega
                have HALL := hide (HG.out.2.1.last HG.out.2.2.1 HG.out.1 han (by omega))
                clear hm
                go_wp2_with fail
                go_roundw
                case rel =>
                  refine ⟨D, G, rfl, by omega, by omega, HR2.out, hide ?_⟩
                  obtain rfl : D = 2 * S := by omega
                  exact ⟨HALL.out, HG.out.2.2.2⟩
                case measure => simp [intOf]; omega
        · have i1 : ¬ ((S : Int) < (n : Int)) := by omega
          go_wp2_with fail
          go_end0
          exact ⟨rfl, F, HR.out, HB.out.1.done (by omega)⟩
set_option maxRecDepth 20000 in
set_option maxHeartbeats 1000000 in
theorem sortStable_any (ks : List Int) (d : Bool) (gf : Nat) (cb : Array Value) (eg : ∀ args w, (callFunc gf args).run Try.prog w = .ok (.enter gf args) w) (w0 : World) (base g n cap : Nat)
    (hcmp : CmpAll Try.prog gf cb ks d n g w0) (hn : n ≤ 1048576) (hc : n ≤ cap) (hcm : cap ≤ 9223372036854775807) (w : World) (h : RowF w0 w base g n cap idF) :
    Calls Try.prog 16 #[.slice (some ⟨g, 0, none⟩) n cap, .func (.func gf) #[] cb] w fun e w' => e = .returned (.tuple #[]) ∧ ∃ G, RowF w0 w' base g n cap G ∧ (List.range n).map G = sortBy ks d (rng n) := by
  have HS := hide (stable_any ks d gf cb eg w0 base g n cap hcmp hn hc hcm w h)
  clear h hcmp
  go_enter Try.func16, Try.ntmps16
  go_wp2_with fail
  refine HS.out.mono ?_
  rintro e w2 ⟨rfl, G, hr, hb⟩
  have HR := hide hr
  have HB := hide hb
  clear hr hb
  go_wp2_with fail
  go_end0
  exact ⟨rfl, G, HR.out, blk_sort HB.out⟩
end Go.Proofs.Ytkpakpjbpmnbgaa
