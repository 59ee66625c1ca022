/- The law FnBounded holds for every input: the call answers true, and each argument reads afterwards as it read before. -/
import Derived.Test.YtojmkkcjjlppiaaDrw
import Derived.Test.YtojmkkcjjlppiaaC3
import Derived.Test.YtojmkkcjjlppiaaD2
import Derived.Test.YtojmkkcjjlppiaaLw
import Derived.Test.YtojmkkcjjlppiaaOpG
import Derived.Test.YtojmkkcjjlppiaaRw
import Derived.Test.YtojmkkcjjlppiaaS2
namespace Go.Proofs.Ytojmkkcjjlppiaa.fnBounded
open Go.ChangeShapes Go.WideShapes Go.ChangeAt Go.RowKit Go.Deep
open Go.ChangeMaps (open_string)
set_option linter.unusedVariables false
set_option linter.unusedSimpArgs false

theorem bnd_items {r : Rq} (h : boundsB r = true) : (∀ x ∈ r.items, itemOkB x = true) ∧ r.items.length ≤ 8 := by
  simp only [boundsB, Bool.and_eq_true, decide_eq_true_eq] at h
  refine ⟨?_, by omega⟩
  have := h.1.2
  unfold itemsOkB at this
  rw [List.all_eq_true] at this
  exact this
theorem bnd_types {r : Rq} (h : boundsB r = true) : (∀ x ∈ r.types, typeOkB x = true) ∧ palletOkB r.pal = true := by
  simp only [boundsB, Bool.and_eq_true, decide_eq_true_eq] at h
  refine ⟨?_, h.1.1.1.1.1.1.1.1.1.2⟩
  have := h.1.1.1.1.2
  unfold typesBadB at this
  rw [any_not, Bool.not_not, List.all_eq_true] at this
  exact this
theorem item_bd {x : It} (h : itemOkB x = true) : (1 ≤ x.cnt ∧ x.cnt ≤ 6) ∧ (1 ≤ x.gram ∧ x.gram ≤ 100000) ∧ (0 ≤ x.cnt * vol x.w x.h x.d ∧ x.cnt * vol x.w x.h x.d ≤ 48000000000) ∧ (0 ≤ x.cnt * x.gram ∧ x.cnt * x.gram ≤ 600000) := by
  have hc := itemOk_cnt h
  simp only [itemOkB, Bool.and_eq_true, inB_iff] at h
  have hg := h.1.1.2
  have hv := vol_range x.w x.h x.d
  refine ⟨hc, hg, ⟨Int.mul_nonneg (by omega) hv.1, ?_⟩, ⟨Int.mul_nonneg (by omega) (by omega), ?_⟩⟩
  · have := Int.mul_le_mul hc.2 hv.2 hv.1 (by omega)
    omega
  · have := Int.mul_le_mul hc.2 hg.2 (by omega) (by omega : (0 : Int) ≤ 6)
    omega

set_option maxRecDepth 20000 in
set_option maxHeartbeats 2000000 in
theorem walk (Ab : Option Addr) (nb cb : Nat) (b : List Int) (w : World) (hb : SlK 1 encByte w 0 w.heap.size Ab nb cb b ∧ ∀ z ∈ b, 0 ≤ z ∧ z ≤ 255) :
    Calls Try.prog 5 #[.slice Ab nb cb] w fun e w' => e = .returned (.bool true) ∧ Below w.heap.size w w' := by
  obtain ⟨hs, hb⟩ := hb
  have hcap := hs.cap
  have hmax := hs.max
  by_cases hbig : nb ≤ 1048576
  · go_enter Try.func5, Try.ntmps5
    go_wp2_with fail
    refine (big_no Ab nb cb _ hcap hmax hbig).mono ?_
    rintro e w' ⟨rfl, rfl⟩
    go_wp2_with fail
    refine (drawBoundsOk_any Ab nb cb b _ hs hb).mono ?_
    rintro e w1 ⟨⟨r, A1, n1, c1, A2, n2, c2, A3, n3, c3, rfl, hr, hn1, hn2, hn3⟩, hb1⟩
    have z1 := hb1.size
    have B1 := hide (Blk.new w1 43 (#[.int .i64 r.way, .int .i64 r.pal.w, .int .i64 r.pal.d, .int .i64 r.pal.h, .int .i64 r.pal.gram, .int .i64 r.cls, .slice A1 n1 c1, .slice A2 n2 c2, .int .i64 r.master, .slice A3 n3 c3]) rfl)
    have HR1 := hide (hr.alloc (Nat.le_refl _) (.cells #[.int .i64 r.way, .int .i64 r.pal.w, .int .i64 r.pal.d, .int .i64 r.pal.h, .int .i64 r.pal.gram, .int .i64 r.cls, .slice A1 n1 c1, .slice A2 n2 c2, .int .i64 r.master, .slice A3 n3 c3] 43))
    have L1 := hide (show Below w.heap.size w (w1.alloc (.cells #[.int .i64 r.way, .int .i64 r.pal.w, .int .i64 r.pal.d, .int .i64 r.pal.h, .int .i64 r.pal.gram, .int .i64 r.cls, .slice A1 n1 c1, .slice A2 n2 c2, .int .i64 r.master, .slice A3 n3 c3] 43)) from (by repeat (first | with_reducible exact Below.refl _ _ | with_reducible assumption | with_reducible refine Below.setCell ?_ (by (try simp) <;> omega) _ | with_reducible refine Below.alloc ?_ (by (try simp) <;> omega) _ | with_reducible refine Below.drew ?_ | with_reducible refine below_drewN ?_ _ | with_reducible exact hb1 | with_reducible refine Below.trans ?_ (Below.mono hb1 (by (try simp) <;> omega)))))
    have hc3 := hr.it.cap
    have hm3 := hr.it.max
    have hc2 := hr.ty.cap
    have hm2 := hr.ty.max
    have HL2 := hide hr.ty.len
    have HL3 := hide hr.it.len
    have HBO := hide (fun W h h' => boundsOk_any r A1 A2 A3 n1 n2 n3 c1 c2 c3 w.heap.size w1.heap.size W h h')
    have HSO := hide (fun W h h' => sboundsOk_any r A1 A2 A3 n1 n2 n3 c1 c2 c3 w.heap.size w1.heap.size W h h')
    have HSA := hide (fun W h h' => same_any r r A1 A2 A3 n1 n2 n3 c1 c2 c3 A1 A2 A3 n1 n2 n3 c1 c2 c3 w.heap.size w1.heap.size w.heap.size w1.heap.size W h h' h h')
    rw [sameRq_self] at HSA
    obtain ⟨t, ht⟩ : ∃ t, boundsB r = t := ⟨_, rfl⟩
    rw [ht] at HBO HSO
    have HT := hide ht
    clear hr hb1 ht hs hb
    have kR := B1.out.cell
    have yR := B1.out.lt
    go_wp2_with fail
    refine (HBO.out _ HR1.out (by simp)).mono ?_
    rintro e w2 ⟨rfl, hb2⟩
    have z2 : w1.heap.size + 1 ≤ w2.heap.size := by simpa using hb2.size
    have B2 := hide (Blk.belowH B1.out hb2)
    have HR2 := hide (HR1.out.below hb2 (by simp))
    have L2 := hide (L1.out.trans (hb2.mono (by simp; omega)))
    clear hb2 B1 HR1 L1 kR yR HBO
    have kR := B2.out.cell
    have yR := B2.out.lt
    go_wp2_with fail
    refine (HSO.out _ HR2.out (by omega)).mono ?_
    rintro e w3 ⟨rfl, hb3⟩
    have z3 := hb3.size
    have B3 := hide (Blk.belowH B2.out hb3)
    have HR3 := hide (HR2.out.below hb3 (by omega))
    have L3 := hide (L2.out.trans (hb3.mono (by omega)))
    clear hb3 B2 HR2 L2 kR yR HSO
    have kR := B3.out.cell
    have yR := B3.out.lt
    cases t
    all_goals go_wp2_with (go_at_call 26; refine (HSA.out _ HR3.out (by omega)).mono ?_; rintro e w4 ⟨rfl, hb4⟩; have z4 := hb4.size; have B4 := hide (Blk.belowH B3.out hb4); have HR4 := hide (HR3.out.below hb4 (by omega)); have L4 := hide (L3.out.trans (hb4.mono (by omega))); clear hb4 B3 HR3 L3 kR yR HSA; have kR := B4.out.cell; have yR := B4.out.lt)
    · go_ret
      exact ⟨rfl, L4.out⟩
    · have hbi := bnd_items HT.out
      have hbt := bnd_types HT.out
      have hn8 : n3 ≤ 8 := by have := hbi.2; rw [HL3.out] at this; exact this
      have HBI := hide hbi.1
      have HBT := hide hbt.1
      have HPO := hide (palletOk_any r.pal.w r.pal.d r.pal.h r.pal.gram)
      rw [show palletOkB ⟨r.pal.w, r.pal.d, r.pal.h, r.pal.gram⟩ = true from hbt.2] at HPO
      clear hbi hbt
      go_loopw [5, 6, 7] (fun v q i wr => ∃ (k : Nat) (V G : Int), k ≤ n3 ∧ i = .int .i64 k ∧ v = .int .i64 V ∧ q = .int .i64 G ∧ 0 ≤ V ∧ V ≤ 48000000000 * k ∧ 0 ≤ G ∧ G ≤ 600000 * k ∧ Below w4.heap.size w4 wr) (fun _ _ i _ => n3 - (intOf i).toNat)
      case atStart => exact ⟨0, 0, 0, Nat.zero_le _, rfl, rfl, rfl, by omega, by omega, by omega, by omega, Below.refl _ _⟩
      case round =>
        clear kR yR
        obtain ⟨k, V, G, hk, rfl, rfl, rfl, hV0, hV1, hG0, hG1, hbel⟩ := hrel
        have HB5 := hide hbel
        have y5 := hbel.size
        have B5 := hide (Blk.belowH B4.out hbel)
        have kR := B5.out.cell
        have yR := B5.out.lt
        have HR5 := hide (HR4.out.below hbel (by omega))
        clear hbel
        by_cases hlt : k < n3
        · obtain ⟨b0, off, x, hx, rfl, _, hb0, d0, d1, d2, d3, d4, d5, d6, _⟩ := HR5.out.it.it hlt
          have hok := HBI.out x (List.mem_of_getElem? hx)
          obtain ⟨⟨hcn0, hcn1⟩, ⟨hgr0, hgr1⟩, ⟨hcv0, hcv1⟩, ⟨hcg0, hcg1⟩⟩ := item_bd hok
          have HIO := hide (itemOk_any x.id x.w x.h x.d x.gram x.cls x.cnt)
          rw [show itemOkB ⟨x.id, x.w, x.h, x.d, x.gram, x.cls, x.cnt⟩ = true from hok] at HIO
          obtain ⟨vv, hvv⟩ : ∃ v, vol x.w x.h x.d = v := ⟨_, rfl⟩
          have HVO := hide (vol_any x.w x.h x.d)
          rw [hvv] at hcv0 hcv1 HVO
          obtain ⟨P, hP⟩ : ∃ p, x.cnt * vv = p := ⟨_, rfl⟩
          obtain ⟨Q, hQ⟩ : ∃ p, x.cnt * x.gram = p := ⟨_, rfl⟩
          rw [hP] at hcv0 hcv1
          rw [hQ] at hcg0 hcg1
          have k0 : (0 : Int) ≤ (k : Int) := by omega
          have k1 : (k : Int) < (n3 : Int) := by omega
          have i2 : b0 ≠ wr.heap.size := by omega
          have hw1 : IntKind.i64.wrap P = P := by rw [IntKind.wrap_i64]; omega
          have hw2 : IntKind.i64.wrap (V + P) = V + P := by rw [IntKind.wrap_i64]; omega
          have hw3 : IntKind.i64.wrap Q = Q := by rw [IntKind.wrap_i64]; omega
          have hw4 : IntKind.i64.wrap (G + Q) = G + Q := by rw [IntKind.wrap_i64]; omega
          have Y5 := hide (Blk.new wr 48 (#[.int .i64 x.id, .int .i64 x.w, .int .i64 x.h, .int .i64 x.d, .int .i64 x.gram, .int .i64 x.cls, .int .i64 x.cnt]) rfl)
          clear hx hok hvv
          go_wp2_with fail
          refine (HIO.out _).mono ?_
          rintro e w6 ⟨rfl, hb6⟩
          have z6 : wr.heap.size + 1 ≤ w6.heap.size := by simpa using hb6.size
          have Y6 := hide (Blk.belowH Y5.out hb6)
          have L6 := hide (show Below w4.heap.size w4 w6 from (by repeat (first | with_reducible exact Below.refl _ _ | with_reducible assumption | with_reducible refine Below.setCell ?_ (by (try simp) <;> omega) _ | with_reducible refine Below.alloc ?_ (by (try simp) <;> omega) _ | with_reducible refine Below.drew ?_ | with_reducible refine below_drewN ?_ _ | with_reducible exact HB5.out | with_reducible exact hb6 | with_reducible refine Below.trans ?_ (Below.mono HB5.out (by (try simp) <;> omega)) | with_reducible refine Below.trans ?_ (Below.mono hb6 (by (try simp) <;> omega)))))
          clear hb6 kR yR d0 d1 d2 d3 d4 d5 d6
          have kY := Y6.out.cell
          have yY := Y6.out.lt
          go_wp2_with fail
          go_quiet ((go_at_call 28; exact (HVO.out _).mono (by rintro e w' ⟨rfl, rfl⟩; exact ⟨rfl, _, rfl⟩)))
          go_wp2_with fail
          go_roundw
          case rel => exact ⟨k + 1, V + P, G + Q, by omega, by go_num, rfl, rfl, by omega, by omega, by omega, by omega, (by repeat (first | with_reducible exact L6.out | with_reducible refine Below.drew ?_ | with_reducible refine below_drewN ?_ _))⟩
          case measure => first | omega | (simp [intOf]; done) | (simp [intOf]; omega)
        · have hge : n3 ≤ k := by omega
          have hVV : V < 1099511627776 := by omega
          have hGG : G < 1099511627776 := by omega
          have hjd : decide (k < n3) = false := by simp; omega
          clear hlt hk hV1 hG1
          obtain ⟨wo, hwo⟩ : ∃ wo : World, wo = wr := ⟨_, rfl⟩
          subst hwo
          go_wp2_with fail
          go_loopw [9] (fun i wr => ∃ k : Nat, k ≤ n2 ∧ i = .int .i64 k ∧ Below wo.heap.size wo wr) (fun i _ => n2 - (intOf i).toNat)
          case atStart => exact ⟨0, Nat.zero_le _, rfl, Below.refl _ _⟩
          case round =>
            clear kR yR
            obtain ⟨k2, hk2, rfl, hbel⟩ := hrel
            have HB6 := hide hbel
            have y6 := hbel.size
            have B6 := hide (Blk.belowH B5.out hbel)
            have kR := B6.out.cell
            have yR := B6.out.lt
            have HR6 := hide (HR5.out.below hbel (by omega))
            clear hbel
            by_cases hlt : k2 < n2
            · obtain ⟨b0, off, x, hx, rfl, _, hb0, d0, d1, d2, d3, d4, d5, d6, _⟩ := HR6.out.ty.ty hlt
              have hok := HBT.out x (List.mem_of_getElem? hx)
              have HTO := hide (typeOk_any x.id x.w x.h x.d x.tare x.gram x.cost)
              rw [show typeOkB ⟨x.id, x.w, x.h, x.d, x.tare, x.gram, x.cost⟩ = true from hok] at HTO
              have k0 : (0 : Int) ≤ (k2 : Int) := by omega
              have k1 : (k2 : Int) < (n2 : Int) := by omega
              clear hx hok
              go_wp2_with fail
              refine (HTO.out _).mono ?_
              rintro e w7 ⟨rfl, hb7⟩
              have L7 := hide (HB6.out.trans (hb7.mono (by omega)))
              clear hb7
              go_wp2_with fail
              go_roundw
              case rel => exact ⟨k2 + 1, by omega, by go_num, L7.out⟩
              case measure => first | omega | (simp [intOf]; done) | (simp [intOf]; omega)
            · have hge2 : n2 ≤ k2 := by omega
              clear hlt
              go_wp2_with fail
              refine (HPO.out _).mono ?_
              rintro e w8 ⟨rfl, hb8⟩
              have L8 := hide ((L4.out.trans (HB5.out.mono (by omega))).trans ((HB6.out.trans (hb8.mono (by omega))).mono (by omega)))
              clear hb8 kR yR
              go_wp2_with fail
              go_ret
              exact ⟨rfl, L8.out⟩
  · go_enter Try.func5, Try.ntmps5
    go_wp2_with fail
    refine (big_yes Ab nb cb _ hcap hmax hbig).mono ?_
    rintro e w' ⟨rfl, rfl⟩
    go_wp2
    go_ret
    exact ⟨rfl, Below.refl _ _⟩
set_option maxRecDepth 100000 in
set_option maxHeartbeats 1000000 in
theorem lifted (os : Os) (started : os.Started) (H : Type) (enc : TypeId × Value → H) :
    ReturnsInHanded {} Try.checked os 5 .any (Rows.fnBoundedSpec.pre6 enc Try.prog Try.f5 Rows.fnBoundedRow.domain false) (Rows.fnBoundedSpec.post enc Try.prog Try.f5 false true false false) := by
  refine returnsInHanded_of_change (C := Try.checked) ownK started (by kernel_rfl) Try.func5
    (ChangeSpec.witness6 (enc := enc) (C := Try.checked) false ⟨#[], #[.slice none 0 0], []⟩ 8 (by kernel_rfl) (by kernel_rfl) (by kernel_rfl) (by kernel_rfl)) ?_
  intro W base args ds gs before hval0 hW hcnd _
  have hval : ∀ (j : Nat) t v, Try.f5.params[j]? = some t → args[j]? = some v → Value.okWide Try.prog W .any base t v := hval0
  have hW' := hW
  obtain ⟨p, q, hA0, hV, rfl, hfz, hnd⟩ := hW
  have hA : DataW.TrodAll enc Try.prog W 0 (fun _ => true) true Try.f5.params.toList args.toList ds p := hA0
  have hV' := hV
  obtain ⟨rfl, rfl⟩ := trodVars_none hV'
  rw [Try.params5] at hA hval
  obtain ⟨v0, vs0, d0, ds0, p0, q0, hargs, rfl, rfl, h0, r0⟩ := trodAll_cons hA
  obtain ⟨rfl, rfl, rfl⟩ := trodAll_nil r0
  obtain rfl : args = #[v0] := by cases args; simp_all
  have hz0 : W.noneFrozen p0 := fun b off hin => hfz b off (by simp [hin])
  obtain ⟨Ab, nb, cb, b, rfl, hb⟩ : ∃ A n c, ∃ xs : List Int, v0 = .slice A n c ∧ (SlK 1 encByte W 0 W.heap.size A n c xs ∧ ∀ z ∈ xs, 0 ≤ z ∧ z ≤ 255) := by
    obtain ⟨a0, len0, cap0, rfl⟩ := okWide_slice Try.underlying27 (hval 0 27 v0 rfl rfl)
    obtain ⟨fu, hf⟩ := h0
    exact open_bytes Try.underlying27 (by kernel_rfl) Try.underlying5 (by simpa [Value.cells] using hf) hz0
  refine (walk Ab nb cb b W hb).mono fun e W' ⟨he, hb⟩ => ?_
  subst he
  exact ⟨_, rfl, law_post laidO (by intro t ht; rw [Try.params5] at ht; simp only [List.mem_cons, List.not_mem_nil, or_false] at ht; subst ht; exact ⟨by kernel_rfl, of_decide_eq_true (by kernel_rfl)⟩) rfl (by kernel_rfl) Try.underlying4 hW' rfl hb⟩

theorem over : Rows.fnBoundedRow.holds Try.pinned (OpenSpec.ofChange Rows.fnBoundedSpec) :=
  OpenClaim.holds_of_wide 5 Try.f5 rfl rfl rfl rfl rfl rfl rfl ⟨rfl, rfl, rfl, rfl, rfl⟩ rfl rfl rfl rfl rfl (by kernel_rfl) Try.func5 (by kernel_rfl)
    (of_decide_eq_true (by kernel_rfl)) (by unfold Func.isWrapper; first | (rw [if_pos (by decide +kernel)]; kernel_rfl) | (rw [if_neg (by decide +kernel)]; exact ⟨rfl, rfl⟩))
    (fun os started H enc _ => lifted os started H enc)

theorem proved : Rows.FnBoundedSaid :=
  over
#print axioms proved
end Go.Proofs.Ytojmkkcjjlppiaa.fnBounded
