/- The law FnFits holds for every input: the call answers true, and each argument reads afterwards as it read before. -/
import Derived.Test.YtojmkkcjjlppiaaDrf
import Derived.Test.YtojmkkcjjlppiaaFit
import Derived.Test.YtojmkkcjjlppiaaLw
import Derived.Test.YtojmkkcjjlppiaaOpG
import Derived.Test.YtojmkkcjjlppiaaRw
import Derived.Test.YtojmkkcjjlppiaaS2
namespace Go.Proofs.Ytojmkkcjjlppiaa.fnFits
open Go.ChangeShapes Go.WideShapes Go.ChangeAt Go.RowKit Go.Deep
open Go.ChangeMaps (open_string)
set_option linter.unusedVariables false
set_option linter.unusedSimpArgs false

/-- The item, turned. -/
def turnI (x : It) : It := ⟨x.id, x.d, x.w, x.h, x.gram, x.cls, x.cnt⟩
def turnT (t : Ty) : Ty := ⟨t.id, t.h, t.w, t.d, t.tare, t.gram, t.cost⟩
def growT (t : Ty) : Ty := ⟨t.id, t.w + 1, t.h, t.d, t.tare, t.gram + 1, t.cost⟩
theorem fits_turn (x : It) (t : Ty) : fitsB (turnI x) (turnT t) = fitsB x t := by
  have e1 : lo3 x.d x.w x.h = lo3 x.w x.h x.d := by unfold lo3; omega
  have e2 : hi3 x.d x.w x.h = hi3 x.w x.h x.d := by unfold hi3; omega
  have e3 : mid3 x.d x.w x.h = mid3 x.w x.h x.d := by unfold mid3; rw [e1, e2]; omega
  have e4 : lo3 t.h t.w t.d = lo3 t.w t.h t.d := by unfold lo3; omega
  have e5 : hi3 t.h t.w t.d = hi3 t.w t.h t.d := by unfold hi3; omega
  have e6 : mid3 t.h t.w t.d = mid3 t.w t.h t.d := by unfold mid3; rw [e4, e5]; omega
  unfold fitsB turnI turnT
  simp only [e1, e2, e3, e4, e5, e6]
theorem fits_grow {x : It} {t : Ty} (h : fitsB x t = true) : fitsB x (growT t) = true := by
  unfold fitsB at h ⊢
  simp only [Bool.and_eq_true, decide_eq_true_eq] at h ⊢
  obtain ⟨⟨⟨h1, h2⟩, h3⟩, h4⟩ := h
  have e1 : lo3 t.w t.h t.d ≤ lo3 (t.w + 1) t.h t.d := by unfold lo3; omega
  have e2 : mid3 t.w t.h t.d ≤ mid3 (t.w + 1) t.h t.d := by unfold mid3 lo3 hi3; omega
  have e3 : hi3 t.w t.h t.d ≤ hi3 (t.w + 1) t.h t.d := by unfold hi3; omega
  refine ⟨⟨⟨?_, ?_⟩, ?_⟩, ?_⟩
  · show _ ≤ lo3 (t.w + 1) t.h t.d
    omega
  · show _ ≤ mid3 (t.w + 1) t.h t.d
    omega
  · show _ ≤ hi3 (t.w + 1) t.h t.d
    omega
  · show _ ≤ t.gram + 1
    omega
theorem prod3 (a b c : Int) : lo3 a b c * mid3 a b c * hi3 a b c = a * b * c := by
  by_cases h1 : a ≤ b
  · by_cases h2 : b ≤ c
    · have e1 : lo3 a b c = a := by unfold lo3; omega
      have e3 : hi3 a b c = c := by unfold hi3; omega
      have e2 : mid3 a b c = b := by unfold mid3; omega
      rw [e1, e2, e3]
    · by_cases h3 : a ≤ c
      · have e1 : lo3 a b c = a := by unfold lo3; omega
        have e3 : hi3 a b c = b := by unfold hi3; omega
        have e2 : mid3 a b c = c := by unfold mid3; omega
        rw [e1, e2, e3]; ac_rfl
      · have e1 : lo3 a b c = c := by unfold lo3; omega
        have e3 : hi3 a b c = b := by unfold hi3; omega
        have e2 : mid3 a b c = a := by unfold mid3; omega
        rw [e1, e2, e3]; ac_rfl
  · by_cases h2 : b ≤ c
    · by_cases h3 : a ≤ c
      · have e1 : lo3 a b c = b := by unfold lo3; omega
        have e3 : hi3 a b c = c := by unfold hi3; omega
        have e2 : mid3 a b c = a := by unfold mid3; omega
        rw [e1, e2, e3]; ac_rfl
      · have e1 : lo3 a b c = b := by unfold lo3; omega
        have e3 : hi3 a b c = a := by unfold hi3; omega
        have e2 : mid3 a b c = c := by unfold mid3; omega
        rw [e1, e2, e3]; ac_rfl
    · have e1 : lo3 a b c = c := by unfold lo3; omega
      have e3 : hi3 a b c = a := by unfold hi3; omega
      have e2 : mid3 a b c = b := by unfold mid3; omega
      rw [e1, e2, e3]; ac_rfl
theorem fits_vol {x : It} {t : Ty} (h : fitsB x t = true) (hx : itemOkB x = true) (ht : typeOkB t = true) : vol x.w x.h x.d ≤ vol t.w t.h t.d := by
  simp only [itemOkB, typeOkB, Bool.and_eq_true, inB_iff] at hx ht
  obtain ⟨⟨⟨⟨⟨⟨_, x1⟩, x2⟩, x3⟩, _⟩, _⟩, _⟩ := hx
  obtain ⟨⟨⟨⟨⟨⟨_, t1⟩, t2⟩, t3⟩, _⟩, _⟩, _⟩ := ht
  have b0 : ∀ z : Int, 1 ≤ z ∧ z ≤ 2000 → inB z 0 2000 = true := fun z hz => (inB_iff _ _ _).2 ⟨by omega, hz.2⟩
  rw [(vol_mul _ _ _ (b0 _ x1) (b0 _ x2) (b0 _ x3)).1, (vol_mul _ _ _ (b0 _ t1) (b0 _ t2) (b0 _ t3)).1, ← prod3 x.w, ← prod3 t.w]
  unfold fitsB at h
  simp only [Bool.and_eq_true, decide_eq_true_eq] at h
  have p1 : 1 ≤ lo3 x.w x.h x.d := by unfold lo3; omega
  have p2 : 1 ≤ mid3 x.w x.h x.d := by unfold mid3 lo3 hi3; omega
  have p3 : 1 ≤ hi3 x.w x.h x.d := by unfold hi3; omega
  have m1 := Int.mul_le_mul h.1.1.1 h.1.1.2 (by omega) (by omega : 0 ≤ lo3 t.w t.h t.d)
  exact Int.mul_le_mul m1 h.1.2 (by omega) (Int.mul_nonneg (by omega) (by omega))

set_option maxRecDepth 20000 in
set_option maxHeartbeats 2000000 in
theorem walk (Ab : Option Addr) (nb cb : Nat) (b : List Int) (w : World) (hb : SlK 1 encByte w 0 w.heap.size Ab nb cb b ∧ ∀ z ∈ b, 0 ≤ z ∧ z ≤ 255) :
    Calls Try.prog 7 #[.slice Ab nb cb] w fun e w' => e = .returned (.bool true) ∧ Below w.heap.size w w' := by
  obtain ⟨hs, hb⟩ := hb
  have hcap := hs.cap
  have hmax := hs.max
  by_cases hbig : nb ≤ 1048576
  · go_enter Try.func7, Try.ntmps7
    go_wp2_with fail
    refine (big_no Ab nb cb _ hcap hmax hbig).mono ?_
    rintro e w' ⟨rfl, rfl⟩
    go_wp2_with fail
    refine (drawFits_any Ab nb cb b _ hs hb).mono ?_
    rintro e w1 ⟨⟨x, t, rfl⟩, hb1⟩
    have z1 := hb1.size
    have L1 := hide hb1
    clear hb1 hs hb
    go_wp2_with fail
    have BX := hide ((Blk.new w1 48 (#[.int .i64 x.id, .int .i64 x.w, .int .i64 x.h, .int .i64 x.d, .int .i64 x.gram, .int .i64 x.cls, .int .i64 x.cnt]) rfl).alloc (.cells #[.int .i64 t.id, .int .i64 t.w, .int .i64 t.h, .int .i64 t.d, .int .i64 t.tare, .int .i64 t.gram, .int .i64 t.cost] 53))
    have BT := hide (Blk.new (w1.alloc (.cells #[.int .i64 x.id, .int .i64 x.w, .int .i64 x.h, .int .i64 x.d, .int .i64 x.gram, .int .i64 x.cls, .int .i64 x.cnt] 48)) 53 (#[.int .i64 t.id, .int .i64 t.w, .int .i64 t.h, .int .i64 t.d, .int .i64 t.tare, .int .i64 t.gram, .int .i64 t.cost]) (g := w1.heap.size + 1) (by simp))
    have L2 := hide (show Below w.heap.size w ((w1.alloc (.cells #[.int .i64 x.id, .int .i64 x.w, .int .i64 x.h, .int .i64 x.d, .int .i64 x.gram, .int .i64 x.cls, .int .i64 x.cnt] 48)).alloc (.cells #[.int .i64 t.id, .int .i64 t.w, .int .i64 t.h, .int .i64 t.d, .int .i64 t.tare, .int .i64 t.gram, .int .i64 t.cost] 53)) from (by repeat (first | with_reducible exact Below.refl _ _ | with_reducible assumption | with_reducible refine Below.setCell ?_ (by (try simp) <;> omega) _ | with_reducible refine Below.alloc ?_ (by (try simp) <;> omega) _ | with_reducible refine Below.drew ?_ | with_reducible refine below_drewN ?_ _ | with_reducible exact L1.out | with_reducible refine Below.trans ?_ (Below.mono L1.out (by (try simp) <;> omega)))))
    obtain ⟨ta, hta⟩ : ∃ ta, fitsB x t = ta := ⟨_, rfl⟩
    have HTA := hide hta
    have HF1 := hide (fits_any x t)
    have HF2 := hide (sfits_any x t)
    rw [hta] at HF1 HF2
    have HF3 := hide (fits_any (turnI x) (turnT t))
    rw [fits_turn, hta] at HF3
    unfold turnI turnT at HF3
    clear hta
    refine (HF1.out _).mono ?_
    rintro e w2 ⟨rfl, hb2⟩
    have z2 : w1.heap.size + 2 ≤ w2.heap.size := by simpa using hb2.size
    have BX2 := hide (Blk.belowH BX.out hb2)
    have BT2 := hide (Blk.belowH BT.out hb2)
    have L3 := hide (L2.out.trans (hb2.mono (by simp; omega)))
    have kX := BX2.out.cell
    have kT := BT2.out.cell
    have lX := BX2.out.lt
    have lT := BT2.out.lt
    clear hb2 BX BT L1 L2 HF1
    go_wp2_with fail
    refine (HF2.out _).mono ?_
    rintro e w3 ⟨rfl, hb3⟩
    have z3 := hb3.size
    have BX3 := hide (Blk.belowH BX2.out hb3)
    have BT3 := hide (Blk.belowH BT2.out hb3)
    have L4 := hide (L3.out.trans (hb3.mono (by omega)))
    clear hb3 BX2 BT2 L3 HF2 kX kT lX lT
    have kX := BX3.out.cell
    have kT := BT3.out.cell
    have lX := BX3.out.lt
    have lT := BT3.out.lt
    have n1 : w1.heap.size ≠ w3.heap.size := by omega
    have n2 : w1.heap.size + 1 ≠ w3.heap.size := by omega
    go_wp2_with fail
    refine (HF3.out _).mono ?_
    rintro e w4 ⟨rfl, hb4⟩
    have z4 : w3.heap.size + 2 ≤ w4.heap.size := by simpa using hb4.size
    have BX4 := hide (Blk.belowH ((BX3.out.alloc _).alloc _) hb4)
    have BT4 := hide (Blk.belowH ((BT3.out.alloc _).alloc _) hb4)
    have L5 := hide (show Below w.heap.size w w4 from (by repeat (first | with_reducible exact Below.refl _ _ | with_reducible assumption | with_reducible refine Below.setCell ?_ (by (try simp) <;> omega) _ | with_reducible refine Below.alloc ?_ (by (try simp) <;> omega) _ | with_reducible refine Below.drew ?_ | with_reducible refine below_drewN ?_ _ | with_reducible exact L4.out | with_reducible exact hb4 | with_reducible refine Below.trans ?_ (Below.mono L4.out (by (try simp) <;> omega)) | with_reducible refine Below.trans ?_ (Below.mono hb4 (by (try simp) <;> omega)))))
    clear hb4 BX3 BT3 L4 HF3 kX kT lX lT n1 n2
    have kX := BX4.out.cell
    have kT := BT4.out.cell
    have lX := BX4.out.lt
    have lT := BT4.out.lt
    cases ta
    · go_wp2_with fail
      go_ret
      exact ⟨rfl, L5.out⟩
    · obtain ⟨io, hio⟩ : ∃ io, itemOkB x = io := ⟨_, rfl⟩
      obtain ⟨to, hto⟩ : ∃ to, typeOkB t = to := ⟨_, rfl⟩
      have HIO := hide (sitemOk_any x.id x.w x.h x.d x.gram x.cls x.cnt)
      have HTO := hide (stypeOk_any t.id t.w t.h t.d t.tare t.gram t.cost)
      rw [show itemOkB ⟨x.id, x.w, x.h, x.d, x.gram, x.cls, x.cnt⟩ = io from hio] at HIO
      rw [show typeOkB ⟨t.id, t.w, t.h, t.d, t.tare, t.gram, t.cost⟩ = to from hto] at HTO
      have HI := hide hio
      have HTT := hide hto
      clear hio hto
      go_wp2_with fail
      refine (HIO.out _).mono ?_
      rintro e w5 ⟨rfl, hb5⟩
      have z5 := hb5.size
      have BX5 := hide (Blk.belowH BX4.out hb5)
      have BT5 := hide (Blk.belowH BT4.out hb5)
      have L6 := hide (L5.out.trans (hb5.mono (by omega)))
      clear hb5 BX4 BT4 L5 HIO kX kT lX lT
      have kX := BX5.out.cell
      have kT := BT5.out.cell
      have lX := BX5.out.lt
      have lT := BT5.out.lt
      cases io
      · go_wp2_with fail
        go_ret
        exact ⟨rfl, L6.out⟩
      · go_wp2_with fail
        refine (HTO.out _).mono ?_
        rintro e w6 ⟨rfl, hb6⟩
        have z6 := hb6.size
        have BX6 := hide (Blk.belowH BX5.out hb6)
        have BT6 := hide (Blk.belowH BT5.out hb6)
        have L7 := hide (L6.out.trans (hb6.mono (by omega)))
        clear hb6 BX5 BT5 L6 HTO kX kT lX lT
        have kX := BX6.out.cell
        have kT := BT6.out.cell
        have lX := BX6.out.lt
        have lT := BT6.out.lt
        cases to
        · go_wp2_with fail
          go_ret
          exact ⟨rfl, L7.out⟩
        · have hbt := HTT.out
          simp only [typeOkB, Bool.and_eq_true, inB_iff] at hbt
          obtain ⟨⟨⟨⟨⟨⟨_, t1⟩, _⟩, _⟩, _⟩, t5⟩, _⟩ := hbt
          have hw1 : IntKind.i64.wrap (t.w + 1) = t.w + 1 := by rw [IntKind.wrap_i64]; omega
          have hw2 : IntKind.i64.wrap (t.gram + 1) = t.gram + 1 := by rw [IntKind.wrap_i64]; omega
          have n1 : w1.heap.size ≠ w6.heap.size := by omega
          have n2 : w1.heap.size + 1 ≠ w6.heap.size := by omega
          have hle := fits_vol HTA.out HI.out HTT.out
          obtain ⟨vx, hvx⟩ : ∃ v, vol x.w x.h x.d = v := ⟨_, rfl⟩
          obtain ⟨vt, hvt⟩ : ∃ v, vol t.w t.h t.d = v := ⟨_, rfl⟩
          have HV1 := hide (vol_any x.w x.h x.d)
          have HV2 := hide (vol_any t.w t.h t.d)
          rw [hvx] at hle HV1
          rw [hvt] at hle HV2
          have HF4 := hide (fits_any x (growT t))
          rw [fits_grow HTA.out] at HF4
          unfold growT at HF4
          have BV := hide (Blk.new w6 53 (#[.int .i64 t.id, .int .i64 (t.w + 1), .int .i64 t.h, .int .i64 t.d, .int .i64 t.tare, .int .i64 (t.gram + 1), .int .i64 t.cost]) rfl)
          have BX7 := hide (BX6.out.alloc (.cells #[.int .i64 t.id, .int .i64 (t.w + 1), .int .i64 t.h, .int .i64 t.d, .int .i64 t.tare, .int .i64 (t.gram + 1), .int .i64 t.cost] 53))
          have BT7 := hide (BT6.out.alloc (.cells #[.int .i64 t.id, .int .i64 (t.w + 1), .int .i64 t.h, .int .i64 t.d, .int .i64 t.tare, .int .i64 (t.gram + 1), .int .i64 t.cost] 53))
          have L8 := hide (show Below w.heap.size w (w6.alloc (.cells #[.int .i64 t.id, .int .i64 (t.w + 1), .int .i64 t.h, .int .i64 t.d, .int .i64 t.tare, .int .i64 (t.gram + 1), .int .i64 t.cost] 53)) from (by repeat (first | with_reducible exact Below.refl _ _ | with_reducible assumption | with_reducible refine Below.setCell ?_ (by (try simp) <;> omega) _ | with_reducible refine Below.alloc ?_ (by (try simp) <;> omega) _ | with_reducible refine Below.drew ?_ | with_reducible refine below_drewN ?_ _ | with_reducible exact L7.out | with_reducible refine Below.trans ?_ (Below.mono L7.out (by (try simp) <;> omega)))))
          clear hvx hvt
          go_wp2_with fail
          refine wp_region_held_drew (S := (fun w' => w'.cell? ⟨w1.heap.size, 0, none⟩ = some (.int .i64 x.id) ∧ w'.cell? ⟨w1.heap.size, 1, none⟩ = some (.int .i64 x.w) ∧ w'.cell? ⟨w1.heap.size, 2, none⟩ = some (.int .i64 x.h) ∧ w'.cell? ⟨w1.heap.size, 3, none⟩ = some (.int .i64 x.d) ∧ w'.cell? ⟨w1.heap.size, 4, none⟩ = some (.int .i64 x.gram) ∧ w'.cell? ⟨w1.heap.size, 5, none⟩ = some (.int .i64 x.cls) ∧ w'.cell? ⟨w1.heap.size, 6, none⟩ = some (.int .i64 x.cnt) ∧ w'.cell? ⟨w1.heap.size + 1, 1, none⟩ = some (.int .i64 t.w) ∧ w'.cell? ⟨w1.heap.size + 1, 2, none⟩ = some (.int .i64 t.h) ∧ w'.cell? ⟨w1.heap.size + 1, 3, none⟩ = some (.int .i64 t.d) ∧ w'.cell? ⟨w6.heap.size, 0, none⟩ = some (.int .i64 t.id) ∧ w'.cell? ⟨w6.heap.size, 1, none⟩ = some (.int .i64 (t.w + 1)) ∧ w'.cell? ⟨w6.heap.size, 2, none⟩ = some (.int .i64 t.h) ∧ w'.cell? ⟨w6.heap.size, 3, none⟩ = some (.int .i64 t.d) ∧ w'.cell? ⟨w6.heap.size, 4, none⟩ = some (.int .i64 t.tare) ∧ w'.cell? ⟨w6.heap.size, 5, none⟩ = some (.int .i64 (t.gram + 1)) ∧ w'.cell? ⟨w6.heap.size, 6, none⟩ = some (.int .i64 t.cost))) (by kernel_rfl) ?hS0 (fun hHeld => ?_)
          case hS0 => (go_keep)
          refine wpAnyH_take (i := 0) (v := ?_) rfl (by kernel_rfl) (by kernel_rfl) (by kernel_rfl) (fun _ _ _ h => h) (Or.inl ⟨by rfl, ?_⟩) (by assumption) ?_
          rotate_left 1
          · intro w hSw
            try dsimp only at hSw
            go_simp
            try with_reducible rfl
          simp only [Act.put, List.getElem_toArray, List.getElem_cons_succ, List.getElem_cons_zero, List.setIfInBounds_toArray, List.set_cons_zero, List.set_cons_succ]
          refine wpAnyH_take (i := 1) (v := ?_) rfl (by kernel_rfl) (by kernel_rfl) (by kernel_rfl) (fun _ _ _ h => h) (Or.inl ⟨by rfl, ?_⟩) (by assumption) ?_
          rotate_left 1
          · intro w hSw
            try dsimp only at hSw
            go_simp
            try with_reducible rfl
          simp only [Act.put, List.getElem_toArray, List.getElem_cons_succ, List.getElem_cons_zero, List.setIfInBounds_toArray, List.set_cons_zero, List.set_cons_succ]
          refine wpAnyH_ready (rs := [2]) (by kernel_rfl) (by simp) ?_
          refine AllReadyH.cons rfl (fun K hK => ?_) AllReadyH.nil
          go_simp
          refine (HF4.out _).mono ?_
          rintro e w8 ⟨rfl, hb8⟩
          have BX8 := hide (Blk.belowH BX7.out.drew hb8)
          have BT8 := hide (Blk.belowH BT7.out.drew hb8)
          have BV8 := hide (Blk.belowH BV.out.drew hb8)
          have L9 := hide (L8.out.drew.trans (hb8.mono (by (try simp) <;> omega)))
          clear hb8 kX kT
          have kX8 := BX8.out.cell
          have kT8 := BT8.out.cell
          have kV8 := BV8.out.cell
          go_wp2_with fail
          refine hK.out _ _ ?hS1 (fun hHeld => ?_)
          case hS1 => (try dsimp only); (first | (with_reducible assumption) | go_keep)
          clear hK K
          try simp only [Act.put, List.getElem_toArray, List.getElem_cons_succ, List.getElem_cons_zero, List.setIfInBounds_toArray, List.set_cons_zero, List.set_cons_succ]
          refine wpAnyH_take (i := 3) (v := ?_) rfl (by kernel_rfl) (by kernel_rfl) (by kernel_rfl) (fun _ _ _ h => h) (Or.inl ⟨by rfl, ?_⟩) (by assumption) ?_
          rotate_left 1
          · intro w hSw
            try dsimp only at hSw
            go_simp
            try with_reducible rfl
          simp only [Act.put, List.getElem_toArray, List.getElem_cons_succ, List.getElem_cons_zero, List.setIfInBounds_toArray, List.set_cons_zero, List.set_cons_succ]
          refine wpAnyH_take (i := 4) (v := ?_) rfl (by kernel_rfl) (by kernel_rfl) (by kernel_rfl) (fun _ _ _ h => h) (Or.inl ⟨by rfl, ?_⟩) (by assumption) ?_
          rotate_left 1
          · intro w hSw
            try dsimp only at hSw
            go_simp
            try with_reducible rfl
          simp only [Act.put, List.getElem_toArray, List.getElem_cons_succ, List.getElem_cons_zero, List.setIfInBounds_toArray, List.set_cons_zero, List.set_cons_succ]
          refine wpAnyH_take (i := 5) (v := ?_) rfl (by kernel_rfl) (by kernel_rfl) (by kernel_rfl) (fun _ _ _ h => h) (Or.inl ⟨by rfl, ?_⟩) (by assumption) ?_
          rotate_left 1
          · intro w hSw
            try dsimp only at hSw
            go_simp
            try with_reducible rfl
          simp only [Act.put, List.getElem_toArray, List.getElem_cons_succ, List.getElem_cons_zero, List.setIfInBounds_toArray, List.set_cons_zero, List.set_cons_succ]
          refine wpAnyH_take (i := 6) (v := ?_) rfl (by kernel_rfl) (by kernel_rfl) (by kernel_rfl) (fun _ _ _ h => h) (Or.inl ⟨by rfl, ?_⟩) (by assumption) ?_
          rotate_left 1
          · intro w hSw
            try dsimp only at hSw
            go_simp
            try with_reducible rfl
          simp only [Act.put, List.getElem_toArray, List.getElem_cons_succ, List.getElem_cons_zero, List.setIfInBounds_toArray, List.set_cons_zero, List.set_cons_succ]
          refine wpAnyH_take (i := 7) (v := ?_) rfl (by kernel_rfl) (by kernel_rfl) (by kernel_rfl) (fun _ _ _ h => h) (Or.inl ⟨by rfl, ?_⟩) (by assumption) ?_
          rotate_left 1
          · intro w hSw
            try dsimp only at hSw
            go_simp
            try with_reducible rfl
          simp only [Act.put, List.getElem_toArray, List.getElem_cons_succ, List.getElem_cons_zero, List.setIfInBounds_toArray, List.set_cons_zero, List.set_cons_succ]
          refine wpAnyH_take (i := 8) (v := ?_) rfl (by kernel_rfl) (by kernel_rfl) (by kernel_rfl) (fun _ _ _ h => h) (Or.inl ⟨by rfl, ?_⟩) (by assumption) ?_
          rotate_left 1
          · intro w hSw
            try dsimp only at hSw
            go_simp
            try with_reducible rfl
          simp only [Act.put, List.getElem_toArray, List.getElem_cons_succ, List.getElem_cons_zero, List.setIfInBounds_toArray, List.set_cons_zero, List.set_cons_succ]
          refine wpAnyH_take (i := 9) (v := ?_) rfl (by kernel_rfl) (by kernel_rfl) (by kernel_rfl) (fun _ _ _ h => h) (Or.inl ⟨by rfl, ?_⟩) (by assumption) ?_
          rotate_left 1
          · intro w hSw
            try dsimp only at hSw
            go_simp
            try with_reducible rfl
          simp only [Act.put, List.getElem_toArray, List.getElem_cons_succ, List.getElem_cons_zero, List.setIfInBounds_toArray, List.set_cons_zero, List.set_cons_succ]
          refine wpAnyH_take (i := 11) (v := ?_) rfl (by kernel_rfl) (by kernel_rfl) (by kernel_rfl) (fun _ _ _ h => h) (Or.inl ⟨by rfl, ?_⟩) (by assumption) ?_
          rotate_left 1
          · intro w hSw
            try dsimp only at hSw
            go_simp
            try with_reducible rfl
          simp only [Act.put, List.getElem_toArray, List.getElem_cons_succ, List.getElem_cons_zero, List.setIfInBounds_toArray, List.set_cons_zero, List.set_cons_succ]
          refine wpAnyH_take (i := 12) (v := ?_) rfl (by kernel_rfl) (by kernel_rfl) (by kernel_rfl) (fun _ _ _ h => h) (Or.inl ⟨by rfl, ?_⟩) (by assumption) ?_
          rotate_left 1
          · intro w hSw
            try dsimp only at hSw
            go_simp
            try with_reducible rfl
          simp only [Act.put, List.getElem_toArray, List.getElem_cons_succ, List.getElem_cons_zero, List.setIfInBounds_toArray, List.set_cons_zero, List.set_cons_succ]
          refine wpAnyH_take (i := 13) (v := ?_) rfl (by kernel_rfl) (by kernel_rfl) (by kernel_rfl) (fun _ _ _ h => h) (Or.inl ⟨by rfl, ?_⟩) (by assumption) ?_
          rotate_left 1
          · intro w hSw
            try dsimp only at hSw
            go_simp
            try with_reducible rfl
          simp only [Act.put, List.getElem_toArray, List.getElem_cons_succ, List.getElem_cons_zero, List.setIfInBounds_toArray, List.set_cons_zero, List.set_cons_succ]
          refine wpAnyH_take (i := 14) (v := ?_) rfl (by kernel_rfl) (by kernel_rfl) (by kernel_rfl) (fun _ _ _ h => h) (Or.inl ⟨by rfl, ?_⟩) (by assumption) ?_
          rotate_left 1
          · intro w hSw
            try dsimp only at hSw
            go_simp
            try with_reducible rfl
          simp only [Act.put, List.getElem_toArray, List.getElem_cons_succ, List.getElem_cons_zero, List.setIfInBounds_toArray, List.set_cons_zero, List.set_cons_succ]
          refine wpAnyH_take (i := 15) (v := ?_) rfl (by kernel_rfl) (by kernel_rfl) (by kernel_rfl) (fun _ _ _ h => h) (Or.inl ⟨by rfl, ?_⟩) (by assumption) ?_
          rotate_left 1
          · intro w hSw
            try dsimp only at hSw
            go_simp
            try with_reducible rfl
          simp only [Act.put, List.getElem_toArray, List.getElem_cons_succ, List.getElem_cons_zero, List.setIfInBounds_toArray, List.set_cons_zero, List.set_cons_succ]
          refine wpAnyH_take (i := 16) (v := ?_) rfl (by kernel_rfl) (by kernel_rfl) (by kernel_rfl) (fun _ _ _ h => h) (Or.inl ⟨by rfl, ?_⟩) (by assumption) ?_
          rotate_left 1
          · intro w hSw
            try dsimp only at hSw
            go_simp
            try with_reducible rfl
          simp only [Act.put, List.getElem_toArray, List.getElem_cons_succ, List.getElem_cons_zero, List.setIfInBounds_toArray, List.set_cons_zero, List.set_cons_succ]
          refine wpAnyH_ready (rs := [10]) (by kernel_rfl) (by simp) ?_
          refine AllReadyH.cons rfl (fun K hK => ?_) AllReadyH.nil
          go_simp
          refine (HV1.out _).mono ?_
          rintro e w' ⟨rfl, rfl⟩
          go_wp2_with fail
          refine hK.out _ _ ?hS1 (fun hHeld => ?_)
          case hS1 => (try dsimp only); (first | (with_reducible assumption) | go_keep)
          clear hK K
          try simp only [Act.put, List.getElem_toArray, List.getElem_cons_succ, List.getElem_cons_zero, List.setIfInBounds_toArray, List.set_cons_zero, List.set_cons_succ]
          refine wpAnyH_ready (rs := [17]) (by kernel_rfl) (by simp) ?_
          refine AllReadyH.cons rfl (fun K hK => ?_) AllReadyH.nil
          go_simp
          refine (HV2.out _).mono ?_
          rintro e w' ⟨rfl, rfl⟩
          go_wp2_with fail
          refine hK.out _ _ ?hS1 (fun hHeld => ?_)
          case hS1 => (try dsimp only); (first | (with_reducible assumption) | go_keep)
          clear hK K
          try simp only [Act.put, List.getElem_toArray, List.getElem_cons_succ, List.getElem_cons_zero, List.setIfInBounds_toArray, List.set_cons_zero, List.set_cons_succ]
          refine wpAnyH_take (i := 18) (v := ?_) rfl (by kernel_rfl) (by kernel_rfl) (by kernel_rfl) (fun _ _ _ h => h) (Or.inl ⟨by rfl, ?_⟩) (by assumption) ?_
          rotate_left 1
          · intro w hSw
            try dsimp only at hSw
            go_simp
            try with_reducible rfl
          simp only [Act.put, List.getElem_toArray, List.getElem_cons_succ, List.getElem_cons_zero, List.setIfInBounds_toArray, List.set_cons_zero, List.set_cons_succ]
          refine wpAnyH_take (i := 19) (v := ?_) rfl (by kernel_rfl) (by kernel_rfl) (by kernel_rfl) (fun _ _ _ h => h) (Or.inl ⟨by rfl, ?_⟩) (by assumption) ?_
          rotate_left 1
          · intro w hSw
            try dsimp only at hSw
            go_simp
            try with_reducible rfl
          simp only [Act.put, List.getElem_toArray, List.getElem_cons_succ, List.getElem_cons_zero, List.setIfInBounds_toArray, List.set_cons_zero, List.set_cons_succ]
          refine wpAnyH_take (i := 20) (v := ?_) rfl (by kernel_rfl) (by kernel_rfl) (by kernel_rfl) (fun _ _ _ h => h) (Or.inl ⟨by rfl, ?_⟩) (by assumption) ?_
          rotate_left 1
          · intro w hSw
            try dsimp only at hSw
            go_simp
            try with_reducible rfl
          simp only [Act.put, List.getElem_toArray, List.getElem_cons_succ, List.getElem_cons_zero, List.setIfInBounds_toArray, List.set_cons_zero, List.set_cons_succ]
          refine wpAnyH_done (by kernel_rfl) ?_ _
          go_wp2_with fail
          go_ret
          exact ⟨rfl, L9.out⟩
  · go_enter Try.func7, Try.ntmps7
    go_wp2_with fail
    refine (big_yes Ab nb cb _ hcap hmax hbig).mono ?_
    rintro e w' ⟨rfl, rfl⟩
    go_wp2
    go_ret
    exact ⟨rfl, Below.refl _ _⟩
set_option maxRecDepth 100000 in
set_option maxHeartbeats 1000000 in
theorem lifted (os : Os) (started : os.Started) (H : Type) (enc : TypeId × Value → H) :
    ReturnsInHanded {} Try.checked os 7 .any (Rows.fnFitsSpec.pre6 enc Try.prog Try.f7 Rows.fnFitsRow.domain false) (Rows.fnFitsSpec.post enc Try.prog Try.f7 false true false false) := by
  refine returnsInHanded_of_change (C := Try.checked) ownK started (by kernel_rfl) Try.func7
    (ChangeSpec.witness6 (enc := enc) (C := Try.checked) false ⟨#[], #[.slice none 0 0], []⟩ 8 (by kernel_rfl) (by kernel_rfl) (by kernel_rfl) (by kernel_rfl)) ?_
  intro W base args ds gs before hval0 hW hcnd _
  have hval : ∀ (j : Nat) t v, Try.f7.params[j]? = some t → args[j]? = some v → Value.okWide Try.prog W .any base t v := hval0
  have hW' := hW
  obtain ⟨p, q, hA0, hV, rfl, hfz, hnd⟩ := hW
  have hA : DataW.TrodAll enc Try.prog W 0 (fun _ => true) true Try.f7.params.toList args.toList ds p := hA0
  have hV' := hV
  obtain ⟨rfl, rfl⟩ := trodVars_none hV'
  rw [Try.params7] at hA hval
  obtain ⟨v0, vs0, d0, ds0, p0, q0, hargs, rfl, rfl, h0, r0⟩ := trodAll_cons hA
  obtain ⟨rfl, rfl, rfl⟩ := trodAll_nil r0
  obtain rfl : args = #[v0] := by cases args; simp_all
  have hz0 : W.noneFrozen p0 := fun b off hin => hfz b off (by simp [hin])
  obtain ⟨Ab, nb, cb, b, rfl, hb⟩ : ∃ A n c, ∃ xs : List Int, v0 = .slice A n c ∧ (SlK 1 encByte W 0 W.heap.size A n c xs ∧ ∀ z ∈ xs, 0 ≤ z ∧ z ≤ 255) := by
    obtain ⟨a0, len0, cap0, rfl⟩ := okWide_slice Try.underlying27 (hval 0 27 v0 rfl rfl)
    obtain ⟨fu, hf⟩ := h0
    exact open_bytes Try.underlying27 (by kernel_rfl) Try.underlying5 (by simpa [Value.cells] using hf) hz0
  refine (walk Ab nb cb b W hb).mono fun e W' ⟨he, hb⟩ => ?_
  subst he
  exact ⟨_, rfl, law_post laidO (by intro t ht; rw [Try.params7] at ht; simp only [List.mem_cons, List.not_mem_nil, or_false] at ht; subst ht; exact ⟨by kernel_rfl, of_decide_eq_true (by kernel_rfl)⟩) rfl (by kernel_rfl) Try.underlying4 hW' rfl hb⟩

theorem over : Rows.fnFitsRow.holds Try.pinned (OpenSpec.ofChange Rows.fnFitsSpec) :=
  OpenClaim.holds_of_wide 7 Try.f7 rfl rfl rfl rfl rfl rfl rfl ⟨rfl, rfl, rfl, rfl, rfl⟩ rfl rfl rfl rfl rfl (by kernel_rfl) Try.func7 (by kernel_rfl)
    (of_decide_eq_true (by kernel_rfl)) (by unfold Func.isWrapper; first | (rw [if_pos (by decide +kernel)]; kernel_rfl) | (rw [if_neg (by decide +kernel)]; exact ⟨rfl, rfl⟩))
    (fun os started H enc _ => lifted os started H enc)

theorem proved : Rows.FnFitsSaid :=
  over
#print axioms proved
end Go.Proofs.Ytojmkkcjjlppiaa.fnFits
