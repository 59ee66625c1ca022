/- The law FnRoomLess holds for every input: the call answers true, and each argument reads afterwards as it read before. -/
import Derived.Test.YtehgdhekiogppaaGreatDh
import Derived.Test.YtehgdhekiogppaaGreatSHo
import Derived.Test.YtehgdhekiogppaaGreatUn9
import Derived.Test.YtehgdhekiogppaaGreatLw
import Derived.Test.YtehgdhekiogppaaGreatOpG
import Derived.Test.YtehgdhekiogppaaGreatRw
import Derived.Test.YtehgdhekiogppaaGreatS2
namespace Go.Proofs.YtehgdhekiogppaaGreat.fnRoomLess
open Go.ChangeShapes Go.WideShapes Go.ChangeAt Go.RowKit Go.Deep
open Go.ChangeMaps (open_string)
set_option linter.unusedVariables false
set_option linter.unusedSimpArgs false

theorem sum_skip (f : Int → Int) (us : List Int) (i : Nat) (hf : ∀ u, 0 ≤ f u) : ((us.take i ++ us.drop (i + 1)).map f).sum ≤ (us.map f).sum := by
  rcases Nat.lt_or_ge i us.length with h | h
  · have e : us = us.take i ++ us[i] :: us.drop (i + 1) := by
      rw [List.getElem_cons_drop, List.take_append_drop]
    have e2 : (us.map f).sum = ((us.take i).map f).sum + (f us[i] + ((us.drop (i + 1)).map f).sum) := by
      conv => lhs; rw [e]
      rw [List.map_append, List.sum_append, List.map_cons, List.sum_cons]
    rw [e2, List.map_append, List.sum_append]
    have := hf us[i]
    omega
  · have e : us.take i ++ us.drop (i + 1) = us := by
      rw [List.take_of_length_le h, List.drop_of_length_le (by omega), List.append_nil]
    rw [e]
    exact Int.le_refl _
theorem volU_skip (r : Rq) (us : List Int) (i : Nat) : volU r (us.take i ++ us.drop (i + 1)) ≤ volU r us := sum_skip _ us i (fun u => (volI_bd _).1)
theorem gramU_skip (r : Rq) (us : List Int) (i : Nat) : gramU r (us.take i ++ us.drop (i + 1)) ≤ gramU r us := sum_skip _ us i (fun u => (itD_gram r u).1)
theorem within_skip {r : Rq} {us : List Int} {t : Ty} (i : Nat) (h : withinB r us t = true) : withinB r (us.take i ++ us.drop (i + 1)) t = true := by
  unfold withinB at h ⊢
  rw [Bool.and_eq_true, decide_eq_true_eq, decide_eq_true_eq] at h ⊢
  have h1 := volU_skip r us i
  have h2 := gramU_skip r us i
  omega
theorem skip_snoc (us : List Int) (u : Int) (i : Nat) (hi : i < us.length) : (us.take i ++ us.drop (i + 1)) ++ [u] = (us ++ [u]).take i ++ (us ++ [u]).drop (i + 1) := by
  rw [List.take_append_of_le_length (by omega), List.drop_append_of_le_length (by omega), List.append_assoc]
theorem room_skip {r : Rq} {us : List Int} {u : Int} {i : Nat} (hi : i < us.length) (h : roomB r us u = true) : roomB r (us.take i ++ us.drop (i + 1)) u = true := by
  unfold roomB at h ⊢
  rw [Bool.and_eq_true] at h ⊢
  refine ⟨h.1, ?_⟩
  rw [skip_snoc us u i hi]
  exact within_skip i h.2
theorem there_iff (r : Rq) (us : List Int) : allThere r us = true ↔ ∀ u ∈ us, isUnit r u = true := by
  unfold allThere
  rw [decide_eq_true_eq]
  constructor
  · intro h
    have h2 := (List.filter_sublist (p := isUnit r) (l := us)).eq_of_length h
    exact List.filter_eq_self.1 h2
  · intro h
    rw [List.filter_eq_self.2 h]
theorem mem_skip {us : List Int} {i : Nat} {u : Int} (h : u ∈ us.take i ++ us.drop (i + 1)) : u ∈ us := by
  rw [List.mem_append] at h
  rcases h with h | h
  · exact List.mem_of_mem_take h
  · exact List.mem_of_mem_drop h
theorem fit_iff (r : Rq) (us : List Int) (t : Ty) : someUnfit r us t = false ↔ ∀ x ∈ itemsOfL r us, fitsB x t = true := by
  unfold someUnfit
  rw [List.any_eq_false]
  simp
theorem holds_skip {r : Rq} {us : List Int} {t : Ty} (i : Nat) (h : holdsB r us t = true) : holdsB r (us.take i ++ us.drop (i + 1)) t = true := by
  unfold holdsB at h ⊢
  simp only [Bool.and_eq_true, Bool.not_eq_true'] at h ⊢
  obtain ⟨⟨⟨h1, h2⟩, h3⟩, h4⟩ := h
  refine ⟨⟨⟨h1, ?_⟩, ?_⟩, within_skip i h4⟩
  · rw [there_iff] at h2 ⊢
    exact fun u hu => h2 u (mem_skip hu)
  · rw [fit_iff] at h3 ⊢
    intro x hx
    unfold itemsOfL at hx
    rw [List.mem_filterMap] at hx
    obtain ⟨u, hu, hux⟩ := hx
    refine h3 x ?_
    unfold itemsOfL
    rw [List.mem_filterMap]
    exact ⟨u, mem_skip hu, hux⟩
theorem holds_within {r : Rq} {us : List Int} {t : Ty} (h : holdsB r us t = true) : volU r us ≤ vol t.w t.h t.d ∧ gramU r us ≤ t.gram := by
  unfold holdsB at h
  simp only [Bool.and_eq_true] at h
  have := h.2
  unfold withinB at this
  rwa [Bool.and_eq_true, decide_eq_true_eq, decide_eq_true_eq] at this
theorem slk_rest {w : World} {lo hi n c i b off : Nat} {xs : List Int} (h : SlK 1 encInt w lo hi (some ⟨b, off, none⟩) n c xs) (hi' : i < n) :
    ∃ A', A' = (if c = i + 1 then some ⟨b, off, none⟩ else some ⟨b, off + (i + 1), none⟩ : Option Addr) ∧ SlK 1 encInt w lo hi A' (n - (i + 1)) (c - (i + 1)) (xs.drop (i + 1)) := by
  refine ⟨_, rfl, ?_⟩
  have hc := h.cap
  have hm := h.2.2.1
  rcases Nat.lt_or_ge (i + 1) n with h1 | h1
  · obtain ⟨b2, o2, e, _, hd⟩ := h.drop_ h1
    injection e with e
    injection e with e1 e2
    subst e1 e2
    rw [if_neg (by omega)]
    rw [Nat.mul_one] at hd
    exact hd
  · have e : xs.drop (i + 1) = [] := List.drop_of_length_le (by rw [h.len]; omega)
    rw [e, show n - (i + 1) = 0 by omega]
    exact SlK.nil_ (by omega)

set_option maxRecDepth 20000 in
set_option maxHeartbeats 4000000 in
theorem walk (Ab : Option Addr) (nb cb : Nat) (b : List Int) (w : World) (hb : SlK 1 encByte w 0 w.heap.size Ab nb cb b ∧ ∀ z ∈ b, 0 ≤ z ∧ z ≤ 255) :
    Calls Tryz.prog 7 #[.slice Ab nb cb] w fun e w' => e = .returned (.bool true) ∧ Below w.heap.size w w' := by
  obtain ⟨hs, hb⟩ := hb
  have hcap := hs.cap
  have hmax := hs.max
  by_cases hbig : nb ≤ 1048576
  · go_enter Tryz.func7, Tryz.ntmps7
    go_wp2_with fail
    refine (big_no Ab nb cb _ hcap hmax hbig).mono ?_
    rintro e w' ⟨rfl, rfl⟩
    go_wp2_with fail
    refine (drawRoom_any Ab nb cb b _ hs hb).mono ?_
    rintro e w1 ⟨⟨r, A1, n1, c1, A2, n2, c2, A3, n3, c3, us, A4, n4, c4, u, rfl, hr, hu, q1, q2, q3, q4, q5, q6⟩, hb1⟩
    have z1 := hb1.size
    have L1 := hide hb1
    have HR1 := hide hr
    have HU1 := hide hu
    have RS := hide (fun (i : Nat) (h : i < us.length) => room_skip (r := r) (us := us) (u := u) h)
    have HRM := hide (fun lo2 hi2 A n c us W h1 h2 h3 h4 => room_any r A1 A2 A3 n1 n2 n3 c1 c2 c3 w.heap.size w1.heap.size lo2 hi2 A n c us u W h1 h2 h3 h4)
    have HSRM := hide (sroom_any r A1 A2 A3 n1 n2 n3 c1 c2 c3 w.heap.size w1.heap.size w.heap.size w1.heap.size A4 n4 c4 us u)
    have HCD := hide (fun (w3 : World) (h : Below w.heap.size w w3) => drawHolds_any Ab nb cb b w3 ((hs.below h (Nat.le_refl _)).more (Nat.le_refl 0) h.size) hb)
    have HLU := hide hu.len
    obtain ⟨xb, hxb⟩ : ∃ o, roomB r us u = o := ⟨_, rfl⟩
    rw [hxb] at RS HSRM
    have HXB := hide hxb
    have hm4 := hu.max
    have hc4 := hu.cap
    clear hb1 hr hu hs hb hxb
    go_wp2_with fail
    refine (HRM.out w.heap.size w1.heap.size A4 n4 c4 us _ (HR1.out.alloc (Nat.le_refl _) _) (by (try simp) <;> omega) (HU1.out.alloc (Nat.le_refl _) _) (by (try simp) <;> omega) (by omega)).mono ?_
    rw [HXB.out]
    rintro e w2 ⟨rfl, hb2⟩
    have z2 : w1.heap.size + 1 ≤ w2.heap.size := by simpa using hb2.size
    have D2 := hide (show Below w1.heap.size w1 w2 from (by repeat (first | with_reducible exact Below.refl _ _ | with_reducible assumption | with_reducible refine Below.setCell ?_ (by (try simp) <;> omega) _ | with_reducible refine Below.alloc ?_ (by (try simp) <;> omega) _ | with_reducible refine Below.drew ?_ | with_reducible refine below_drewN ?_ _ | with_reducible exact hb2 | with_reducible refine Below.trans ?_ (Below.mono hb2 (by (try simp) <;> omega)))))
    have L2 := hide (show Below w.heap.size w w2 from (by repeat (first | with_reducible exact Below.refl _ _ | with_reducible assumption | with_reducible refine Below.setCell ?_ (by (try simp) <;> omega) _ | with_reducible refine Below.alloc ?_ (by (try simp) <;> omega) _ | with_reducible refine Below.drew ?_ | with_reducible refine below_drewN ?_ _ | with_reducible exact L1.out | with_reducible exact hb2 | with_reducible refine Below.trans ?_ (Below.mono L1.out (by (try simp) <;> omega)) | with_reducible refine Below.trans ?_ (Below.mono hb2 (by (try simp) <;> omega)))))
    have PR2 := hide (Blk.belowH (Blk.new w1 37 (#[.int .i64 r.way, .int .i64 r.pal.w, .int .i64 r.pal.d, .int .i64 r.pal.h, .int .i64 r.pal.gram, .int .i64 r.cls, .slice A1 n1 c1, .slice A2 n2 c2, .int .i64 r.master, .slice A3 n3 c3]) (g := w1.heap.size) rfl) hb2)
    have HR2 := hide (HR1.out.below D2.out (Nat.le_refl _))
    have HU2 := hide (HU1.out.below D2.out (Nat.le_refl _))
    have kR := PR2.out.cell
    have yR := PR2.out.lt
    clear hb2 D2 L1 HR1 HU1
    go_wp2_with fail
    refine (HSRM.out _ HR2.out (by omega) HU2.out (by omega) (by omega)).mono ?_
    rintro e w3 ⟨rfl, hb3⟩
    have z3 := hb3.size
    have L3 := hide (L2.out.trans (hb3.mono (by omega)))
    have PR3 := hide (PR2.out.belowH hb3)
    have HR3 := hide (HR2.out.below hb3 (by omega))
    have HU3 := hide (HU2.out.below hb3 (by omega))
    clear kR yR hb3 L2 HR2 HU2 PR2 HSRM
    have hxx : (xb != xb) = false := by simp
    go_wp2_with fail
    refine (HCD.out _ L3.out).mono ?_
    rintro e w4 ⟨⟨q, B1, m1, d1, B2, m2, d2, B3, m3, d3, ls, B4, m4, d4, t, rfl, hr, hu, t1, t2, t3, t4⟩, hb4⟩
    have z4 := hb4.size
    have L4 := hide (L3.out.trans (hb4.mono (by omega)))
    have PR4 := hide (PR3.out.belowH hb4)
    have HR4 := hide (HR3.out.below hb4 (by omega))
    have HU4 := hide (HU3.out.below hb4 (by omega))
    have HQ4 := hide hr
    have HV4 := hide hu
    have HS := hide (fun (i : Nat) => holds_skip (r := q) (us := ls) (t := t) i)
    have HW := hide (holds_within (r := q) (us := ls) (t := t))
    have HHO := hide (fun lo2 hi2 A n c us W h1 h2 h3 h4 => holds_any q B1 B2 B3 m1 m2 m3 d1 d2 d3 w3.heap.size w4.heap.size lo2 hi2 A n c us t W h1 h2 h3 h4)
    have HSHO := hide (sholds_any q B1 B2 B3 m1 m2 m3 d1 d2 d3 w3.heap.size w4.heap.size w3.heap.size w4.heap.size B4 m4 d4 ls t)
    have HVO := hide (fun W h1 h2 h3 h4 => volOf_any q B1 B2 B3 m1 m2 m3 d1 d2 d3 w3.heap.size w4.heap.size w3.heap.size w4.heap.size B4 m4 d4 ls W h1 h2 h3 h4 (by omega))
    have HGO := hide (fun W h1 h2 h3 h4 => gramOf_any q B1 B2 B3 m1 m2 m3 d1 d2 d3 w3.heap.size w4.heap.size w3.heap.size w4.heap.size B4 m4 d4 ls W h1 h2 h3 h4 (by omega))
    have HLV := hide hu.len
    obtain ⟨yb, hyb⟩ : ∃ o, holdsB q ls t = o := ⟨_, rfl⟩
    rw [hyb] at HS HW HSHO
    have HYB := hide hyb
    have hm5 := hu.max
    have hc5 := hu.cap
    clear hb4 hr hu hyb L3 PR3 HR3 HU3 HCD
    go_wp2_with fail
    refine (HHO.out w3.heap.size w4.heap.size B4 m4 d4 ls _ ((HQ4.out.alloc (Nat.le_refl _) _).alloc (by simp) _) (by (try simp) <;> omega) ((HV4.out.alloc (Nat.le_refl _) _).alloc (by simp) _) (by (try simp) <;> omega) (by omega)).mono ?_
    rw [HYB.out]
    rintro e w5 ⟨rfl, hb5⟩
    have z5 : w4.heap.size + 1 + 1 ≤ w5.heap.size := by simpa using hb5.size
    have D5 := hide (show Below w4.heap.size w4 w5 from (by repeat (first | with_reducible exact Below.refl _ _ | with_reducible assumption | with_reducible refine Below.setCell ?_ (by (try simp) <;> omega) _ | with_reducible refine Below.alloc ?_ (by (try simp) <;> omega) _ | with_reducible refine Below.drew ?_ | with_reducible refine below_drewN ?_ _ | with_reducible exact hb5 | with_reducible refine Below.trans ?_ (Below.mono hb5 (by (try simp) <;> omega)))))
    have L5 := hide (show Below w.heap.size w w5 from (by repeat (first | with_reducible exact Below.refl _ _ | with_reducible assumption | with_reducible refine Below.setCell ?_ (by (try simp) <;> omega) _ | with_reducible refine Below.alloc ?_ (by (try simp) <;> omega) _ | with_reducible refine Below.drew ?_ | with_reducible refine below_drewN ?_ _ | with_reducible exact L4.out | with_reducible exact hb5 | with_reducible refine Below.trans ?_ (Below.mono L4.out (by (try simp) <;> omega)) | with_reducible refine Below.trans ?_ (Below.mono hb5 (by (try simp) <;> omega)))))
    have PQ5 := hide (Blk.belowH ((Blk.new w4 37 (#[.int .i64 q.way, .int .i64 q.pal.w, .int .i64 q.pal.d, .int .i64 q.pal.h, .int .i64 q.pal.gram, .int .i64 q.cls, .slice B1 m1 d1, .slice B2 m2 d2, .int .i64 q.master, .slice B3 m3 d3]) (g := w4.heap.size) rfl).alloc (.cells (#[.int .i64 t.id, .int .i64 t.w, .int .i64 t.h, .int .i64 t.d, .int .i64 t.tare, .int .i64 t.gram, .int .i64 t.cost]) 48)) hb5)
    have PT5 := hide (Blk.belowH (Blk.new (w4.alloc (.cells (#[.int .i64 q.way, .int .i64 q.pal.w, .int .i64 q.pal.d, .int .i64 q.pal.h, .int .i64 q.pal.gram, .int .i64 q.cls, .slice B1 m1 d1, .slice B2 m2 d2, .int .i64 q.master, .slice B3 m3 d3]) 37)) 48 (#[.int .i64 t.id, .int .i64 t.w, .int .i64 t.h, .int .i64 t.d, .int .i64 t.tare, .int .i64 t.gram, .int .i64 t.cost]) (g := w4.heap.size + 1) (by simp)) hb5)
    have PR5 := hide (PR4.out.belowH D5.out)
    have HR5 := hide (HR4.out.below D5.out (by omega))
    have HU5 := hide (HU4.out.below D5.out (by omega))
    have HQ5 := hide (HQ4.out.below D5.out (Nat.le_refl _))
    have HV5 := hide (HV4.out.below D5.out (Nat.le_refl _))
    have kQ := PQ5.out.cell
    have yQ := PQ5.out.lt
    have kT := PT5.out.cell
    have yT := PT5.out.lt
    clear hb5 D5 L4 HR4 HU4 HQ4 HV4 PR4
    go_wp2_with fail
    refine (HSHO.out _ HQ5.out (by omega) HV5.out (by omega) (by omega)).mono ?_
    rintro e w6 ⟨rfl, hb6⟩
    have z6 := hb6.size
    have L6 := hide (L5.out.trans (hb6.mono (by omega)))
    have PR6 := hide (PR5.out.belowH hb6)
    have PQ6 := hide (PQ5.out.belowH hb6)
    have PT6 := hide (PT5.out.belowH hb6)
    have HR6 := hide (HR5.out.below hb6 (by omega))
    have HU6 := hide (HU5.out.below hb6 (by omega))
    have HQ6 := hide (HQ5.out.below hb6 (by omega))
    have HV6 := hide (HV5.out.below hb6 (by omega))
    clear kQ yQ kT yT hb6 L5 HR5 HU5 HQ5 HV5 PR5 PQ5 PT5 HSHO
    have hyy : (yb != yb) = false := by simp
    go_wp2_with fail
    go_loopw [11] (fun i wr => ∃ k : Nat, k ≤ n4 ∧ i = .int .i64 k ∧ Below w6.heap.size w6 wr) (fun i _ => n4 - (intOf i).toNat)
    case atStart => exact ⟨0, Nat.zero_le _, rfl, Below.refl _ _⟩
    case round =>
      obtain ⟨i, hi, rfl, hbel⟩ := hrel
      have HB := hide hbel
      have y1 := hbel.size
      clear hbel
      by_cases hlt : i < n4
      · have HUr := hide (HU6.out.below HB.out (by omega))
        obtain ⟨b0, off, x0, hx, hA4, _, hb0, _⟩ := HUr.out.int hlt
        subst hA4
        have i0 : (0 : Int) ≤ (i : Int) := by omega
        have i1 : (i : Int) < (n4 : Int) := by omega
        have i2 : (i : Int) ≤ (c4 : Int) := by omega
        have i3 : (0 : Int) ≤ (i : Int) + 1 := by omega
        have i4 : (i : Int) + 1 ≤ (n4 : Int) := by omega
        have hw1 : IntKind.i64.wrap ((i : Int) + 1) = (i : Int) + 1 := by rw [IntKind.wrap_i64]; omega
        clear hx
        go_wp2_with fail
        refine wp_region_held_drew (S := (fun _ => True)) (by kernel_rfl) ?hS0 (fun hHeld => ?_)
        case hS0 => (trivial)
        refine wpAnyH_take (i := 1) (v := ?_) rfl (by kernel_rfl) (by kernel_rfl) (by kernel_rfl) (fun _ _ _ h => h) (Or.inl ⟨by rfl, ?_⟩) (by assumption) ?_
        rotate_left 1
        · intro w hSw
          try dsimp only at hSw
          go_simp
          try with_reducible rfl
        simp only [Act.put, List.getElem_toArray, List.getElem_cons_succ, List.getElem_cons_zero, List.setIfInBounds_toArray, List.set_cons_zero, List.set_cons_succ]
        refine wpAnyH_take (i := 2) (v := ?_) rfl (by kernel_rfl) (by kernel_rfl) (by kernel_rfl) (fun _ _ _ h => h) (Or.inl ⟨by rfl, ?_⟩) (by assumption) ?_
        rotate_left 1
        · intro w hSw
          try dsimp only at hSw
          go_simp
          try with_reducible rfl
        simp only [Act.put, List.getElem_toArray, List.getElem_cons_succ, List.getElem_cons_zero, List.setIfInBounds_toArray, List.set_cons_zero, List.set_cons_succ]
        refine wpAnyH_take (i := 3) (v := ?_) rfl (by kernel_rfl) (by kernel_rfl) (by kernel_rfl) (fun _ _ _ h => h) (Or.inl ⟨by rfl, ?_⟩) (by assumption) ?_
        rotate_left 1
        · intro w hSw
          try dsimp only at hSw
          go_simp
          try with_reducible rfl
        simp only [Act.put, List.getElem_toArray, List.getElem_cons_succ, List.getElem_cons_zero, List.setIfInBounds_toArray, List.set_cons_zero, List.set_cons_succ]
        refine wpAnyH_take (i := 5) (v := ?_) rfl (by kernel_rfl) (by kernel_rfl) (by kernel_rfl) (fun _ _ _ h => h) (Or.inl ⟨by rfl, ?_⟩) (by assumption) ?_
        rotate_left 1
        · intro w hSw
          try dsimp only at hSw
          go_simp
          try with_reducible rfl
        simp only [Act.put, List.getElem_toArray, List.getElem_cons_succ, List.getElem_cons_zero, List.setIfInBounds_toArray, List.set_cons_zero, List.set_cons_succ]
        refine wpAnyH_take (i := 6) (v := ?_) rfl (by kernel_rfl) (by kernel_rfl) (by kernel_rfl) (fun _ _ _ h => h) (Or.inl ⟨by rfl, ?_⟩) (by assumption) ?_
        rotate_left 1
        · intro w hSw
          try dsimp only at hSw
          go_simp
          try with_reducible rfl
        simp only [Act.put, List.getElem_toArray, List.getElem_cons_succ, List.getElem_cons_zero, List.setIfInBounds_toArray, List.set_cons_zero, List.set_cons_succ]
        refine wpAnyH_take (i := 7) (v := ?_) rfl (by kernel_rfl) (by kernel_rfl) (by kernel_rfl) (fun _ _ _ h => h) (Or.inl ⟨by rfl, ?_⟩) (by assumption) ?_
        rotate_left 1
        · intro w hSw
          try dsimp only at hSw
          go_simp
          try with_reducible rfl
        simp only [Act.put, List.getElem_toArray, List.getElem_cons_succ, List.getElem_cons_zero, List.setIfInBounds_toArray, List.set_cons_zero, List.set_cons_succ]
        refine wpAnyH_take (i := 8) (v := ?_) rfl (by kernel_rfl) (by kernel_rfl) (by kernel_rfl) (fun _ _ _ h => h) (Or.inl ⟨by rfl, ?_⟩) (by assumption) ?_
        rotate_left 1
        · intro w hSw
          try dsimp only at hSw
          go_simp
          try with_reducible rfl
        simp only [Act.put, List.getElem_toArray, List.getElem_cons_succ, List.getElem_cons_zero, List.setIfInBounds_toArray, List.set_cons_zero, List.set_cons_succ]
        refine wpAnyH_ready (rs := [0]) (by kernel_rfl) (by simp) ?_
        refine AllReadyH.cons rfl (fun K hK => ?_) AllReadyH.nil
        go_simp
        refine hK.out _ _ trivial (fun _ => ?_)
        clear hK K
        try simp only [Act.put, List.getElem_toArray, List.getElem_cons_succ, List.getElem_cons_zero, List.setIfInBounds_toArray, List.set_cons_zero, List.set_cons_succ]
        refine wpAnyH_ready (rs := [4]) (by kernel_rfl) (by simp) ?_
        refine AllReadyH.cons rfl (fun K hK => ?_) AllReadyH.nil
        refine step_app rfl (.tmp 55) (.tmp 58) rfl (by simp [Act.eval]) (by simp [Act.eval]) (appL (own_lit0 wr.drew 3 wr.heap.size (Nat.le_refl _) rfl) (by simp) ((HUr.out.take_ (Nat.le_of_lt hlt)).drew.alloc (by simp; omega) _) (by simp; omega)) ?_
        intro v5 w5 ho5 hg5 hat5
        have z5 : wr.heap.size + 1 ≤ w5.heap.size := by simpa using hg5.size
        have hbk : ∀ z, v5.ownBlock = some z → wr.heap.size ≤ z := fun z hz => (ho5.lt z hz).1
        have HX5 := hide ((HUr.out.drew.alloc (by simp; omega) _).grown hg5 (by simp; omega) (fun z hz => by have hz2 : wr.heap.size = z := Option.some.inj hz; omega))
        have HB5 := hide ((HB.out.drew.alloc (by simp; omega) (.cells #[] 3)).grown hg5 (by simp; omega) (fun z hz => by have hz2 : wr.heap.size = z := Option.some.inj hz; omega))
        have HO5 := hide ho5
        clear ho5 hg5 hat5
        refine hK.out _ _ trivial (fun _ => ?_)
        clear hK K
        try simp only [Act.put, List.getElem_toArray, List.getElem_cons_succ, List.getElem_cons_zero, List.setIfInBounds_toArray, List.set_cons_zero, List.set_cons_succ]
        refine wpAnyH_ready (rs := [9]) (by kernel_rfl) (by simp) ?_
        refine AllReadyH.cons rfl (fun K hK => ?_) AllReadyH.nil
        obtain ⟨A6, hA6, HX6⟩ := slk_rest HX5.out hlt
        refine step_app rfl (.tmp 59) (.tmp 63) rfl (by simp [Act.eval]) (by simp [Act.eval, hA6]) (appL HO5.out (by omega) HX6 (by simp; omega)) ?_
        intro v7 w7 ho7 hg7 hat7
        have z7 : w5.heap.size ≤ w7.heap.size := hg7.size
        have HB7 := hide (HB5.out.grown hg7 (by omega) (fun z hz => by have := (HO5.out.lt z hz).1; omega))
        have HO7 := hide ho7
        clear ho7 hg7 hat7 HX6 HX5 HB5 HO5
        refine hK.out _ _ trivial (fun _ => ?_)
        clear hK K
        try simp only [Act.put, List.getElem_toArray, List.getElem_cons_succ, List.getElem_cons_zero, List.setIfInBounds_toArray, List.set_cons_zero, List.set_cons_succ]
        refine wpAnyH_ready (rs := [10]) (by kernel_rfl) (by simp) ?_
        refine AllReadyH.cons rfl (fun K hK => ?_) AllReadyH.nil
        go_simp
        refine hK.out _ _ trivial (fun _ => ?_)
        clear hK K
        try simp only [Act.put, List.getElem_toArray, List.getElem_cons_succ, List.getElem_cons_zero, List.setIfInBounds_toArray, List.set_cons_zero, List.set_cons_succ]
        refine wpAnyH_done (by kernel_rfl) ?_ _
        rw [← hA6]
        clear hA6
        have hll : (([] ++ us.take i) ++ us.drop (i + 1)).length = n4 - 1 := by
          rw [List.nil_append, List.length_append, List.length_take, List.length_drop, HLU.out]
          omega
        obtain ⟨A8, c8, rfl, s8⟩ := Own.slk' encInt_len hll HO7.out
        rw [List.nil_append] at s8
        have PRi := hide (PR6.out.belowH HB7.out)
        have kR := PRi.out.cell
        have yR := PRi.out.lt
        cases xb
        · go_wp2_with fail
          go_roundw
          case rel => exact ⟨i + 1, by omega, by go_num, HB7.out⟩
          case measure => simp [intOf]; omega
        · have hrs := RS.out i (by rw [HLU.out]; exact hlt) rfl
          go_wp2_with fail
          refine (HRM.out wr.heap.size w7.heap.size A8 (n4 - 1) c8 _ _ (HR6.out.below HB7.out (by omega)) (by omega) s8 (Nat.le_refl _) (by omega)).mono ?_
          rw [hrs]
          rintro e w8 ⟨rfl, hb8⟩
          have HB8 := hide (HB7.out.trans (hb8.mono (by omega)))
          go_wp2
          go_roundw
          case rel => exact ⟨i + 1, by omega, by go_num, HB8.out⟩
          case measure => simp [intOf]; omega
      · have hge : ¬ ((i : Int) < (n4 : Int)) := by omega
        obtain ⟨wo, hwo⟩ : ∃ wo : World, wo = wr := ⟨_, rfl⟩
        subst hwo
        have PQo := hide (PQ6.out.belowH HB.out)
        have PTo := hide (PT6.out.belowH HB.out)
        have HQo := hide (HQ6.out.below HB.out (by omega))
        have HVo := hide (HV6.out.below HB.out (by omega))
        have Lo := hide (L6.out.trans (HB.out.mono (by omega)))
        clear HB PQ6 PT6 HQ6 HV6 L6 PR6 HR6 HU6 HRM RS
        go_wp2_with fail
        go_loopw [13] (fun i wr => ∃ k : Nat, k ≤ m4 ∧ i = .int .i64 k ∧ Below wo.heap.size wo wr) (fun i _ => m4 - (intOf i).toNat)
        case atStart => exact ⟨0, Nat.zero_le _, rfl, Below.refl _ _⟩
        case round =>
          obtain ⟨i, hi, rfl, hbel⟩ := hrel
          have HB := hide hbel
          have y2 := hbel.size
          clear hbel
          by_cases hlt : i < m4
          · have HVr := hide (HVo.out.below HB.out (by omega))
            obtain ⟨b0, off, x0, hx, hB4, _, hb0, _⟩ := HVr.out.int hlt
            subst hB4
            have i0 : (0 : Int) ≤ (i : Int) := by omega
            have i1 : (i : Int) < (m4 : Int) := by omega
            have i2 : (i : Int) ≤ (d4 : Int) := by omega
            have i3 : (0 : Int) ≤ (i : Int) + 1 := by omega
            have i4 : (i : Int) + 1 ≤ (m4 : Int) := by omega
            have hw1 : IntKind.i64.wrap ((i : Int) + 1) = (i : Int) + 1 := by rw [IntKind.wrap_i64]; omega
            clear hx
            go_wp2_with fail
            refine wp_region_held_drew (S := (fun _ => True)) (by kernel_rfl) ?hS0 (fun hHeld => ?_)
            case hS0 => (trivial)
            refine wpAnyH_take (i := 1) (v := ?_) rfl (by kernel_rfl) (by kernel_rfl) (by kernel_rfl) (fun _ _ _ h => h) (Or.inl ⟨by rfl, ?_⟩) (by assumption) ?_
            rotate_left 1
            · intro w hSw
              try dsimp only at hSw
              go_simp
              try with_reducible rfl
            simp only [Act.put, List.getElem_toArray, List.getElem_cons_succ, List.getElem_cons_zero, List.setIfInBounds_toArray, List.set_cons_zero, List.set_cons_succ]
            refine wpAnyH_take (i := 2) (v := ?_) rfl (by kernel_rfl) (by kernel_rfl) (by kernel_rfl) (fun _ _ _ h => h) (Or.inl ⟨by rfl, ?_⟩) (by assumption) ?_
            rotate_left 1
            · intro w hSw
              try dsimp only at hSw
              go_simp
              try with_reducible rfl
            simp only [Act.put, List.getElem_toArray, List.getElem_cons_succ, List.getElem_cons_zero, List.setIfInBounds_toArray, List.set_cons_zero, List.set_cons_succ]
            refine wpAnyH_take (i := 3) (v := ?_) rfl (by kernel_rfl) (by kernel_rfl) (by kernel_rfl) (fun _ _ _ h => h) (Or.inl ⟨by rfl, ?_⟩) (by assumption) ?_
            rotate_left 1
            · intro w hSw
              try dsimp only at hSw
              go_simp
              try with_reducible rfl
            simp only [Act.put, List.getElem_toArray, List.getElem_cons_succ, List.getElem_cons_zero, List.setIfInBounds_toArray, List.set_cons_zero, List.set_cons_succ]
            refine wpAnyH_take (i := 5) (v := ?_) rfl (by kernel_rfl) (by kernel_rfl) (by kernel_rfl) (fun _ _ _ h => h) (Or.inl ⟨by rfl, ?_⟩) (by assumption) ?_
            rotate_left 1
            · intro w hSw
              try dsimp only at hSw
              go_simp
              try with_reducible rfl
            simp only [Act.put, List.getElem_toArray, List.getElem_cons_succ, List.getElem_cons_zero, List.setIfInBounds_toArray, List.set_cons_zero, List.set_cons_succ]
            refine wpAnyH_take (i := 6) (v := ?_) rfl (by kernel_rfl) (by kernel_rfl) (by kernel_rfl) (fun _ _ _ h => h) (Or.inl ⟨by rfl, ?_⟩) (by assumption) ?_
            rotate_left 1
            · intro w hSw
              try dsimp only at hSw
              go_simp
              try with_reducible rfl
            simp only [Act.put, List.getElem_toArray, List.getElem_cons_succ, List.getElem_cons_zero, List.setIfInBounds_toArray, List.set_cons_zero, List.set_cons_succ]
            refine wpAnyH_take (i := 7) (v := ?_) rfl (by kernel_rfl) (by kernel_rfl) (by kernel_rfl) (fun _ _ _ h => h) (Or.inl ⟨by rfl, ?_⟩) (by assumption) ?_
            rotate_left 1
            · intro w hSw
              try dsimp only at hSw
              go_simp
              try with_reducible rfl
            simp only [Act.put, List.getElem_toArray, List.getElem_cons_succ, List.getElem_cons_zero, List.setIfInBounds_toArray, List.set_cons_zero, List.set_cons_succ]
            refine wpAnyH_take (i := 8) (v := ?_) rfl (by kernel_rfl) (by kernel_rfl) (by kernel_rfl) (fun _ _ _ h => h) (Or.inl ⟨by rfl, ?_⟩) (by assumption) ?_
            rotate_left 1
            · intro w hSw
              try dsimp only at hSw
              go_simp
              try with_reducible rfl
            simp only [Act.put, List.getElem_toArray, List.getElem_cons_succ, List.getElem_cons_zero, List.setIfInBounds_toArray, List.set_cons_zero, List.set_cons_succ]
            refine wpAnyH_ready (rs := [0]) (by kernel_rfl) (by simp) ?_
            refine AllReadyH.cons rfl (fun K hK => ?_) AllReadyH.nil
            go_simp
            refine hK.out _ _ trivial (fun _ => ?_)
            clear hK K
            try simp only [Act.put, List.getElem_toArray, List.getElem_cons_succ, List.getElem_cons_zero, List.setIfInBounds_toArray, List.set_cons_zero, List.set_cons_succ]
            refine wpAnyH_ready (rs := [4]) (by kernel_rfl) (by simp) ?_
            refine AllReadyH.cons rfl (fun K hK => ?_) AllReadyH.nil
            refine step_app rfl (.tmp 79) (.tmp 82) rfl (by simp [Act.eval]) (by simp [Act.eval]) (appL (own_lit0 wr.drew 3 wr.heap.size (Nat.le_refl _) rfl) (by simp) ((HVr.out.take_ (Nat.le_of_lt hlt)).drew.alloc (by simp; omega) _) (by simp; omega)) ?_
            intro v5 w5 ho5 hg5 hat5
            have z5 : wr.heap.size + 1 ≤ w5.heap.size := by simpa using hg5.size
            have hbk : ∀ z, v5.ownBlock = some z → wr.heap.size ≤ z := fun z hz => (ho5.lt z hz).1
            have HX5 := hide ((HVr.out.drew.alloc (by simp; omega) _).grown hg5 (by simp; omega) (fun z hz => by have hz2 : wr.heap.size = z := Option.some.inj hz; omega))
            have HB5 := hide ((HB.out.drew.alloc (by simp; omega) (.cells #[] 3)).grown hg5 (by simp; omega) (fun z hz => by have hz2 : wr.heap.size = z := Option.some.inj hz; omega))
            have HO5 := hide ho5
            clear ho5 hg5 hat5
            refine hK.out _ _ trivial (fun _ => ?_)
            clear hK K
            try simp only [Act.put, List.getElem_toArray, List.getElem_cons_succ, List.getElem_cons_zero, List.setIfInBounds_toArray, List.set_cons_zero, List.set_cons_succ]
            refine wpAnyH_ready (rs := [9]) (by kernel_rfl) (by simp) ?_
            refine AllReadyH.cons rfl (fun K hK => ?_) AllReadyH.nil
            obtain ⟨A6, hA6, HX6⟩ := slk_rest HX5.out hlt
            refine step_app rfl (.tmp 83) (.tmp 87) rfl (by simp [Act.eval]) (by simp [Act.eval, hA6]) (appL HO5.out (by omega) HX6 (by simp; omega)) ?_
            intro v7 w7 ho7 hg7 hat7
            have z7 : w5.heap.size ≤ w7.heap.size := hg7.size
            have HB7 := hide (HB5.out.grown hg7 (by omega) (fun z hz => by have := (HO5.out.lt z hz).1; omega))
            have HO7 := hide ho7
            clear ho7 hg7 hat7 HX6 HX5 HB5 HO5
            refine hK.out _ _ trivial (fun _ => ?_)
            clear hK K
            try simp only [Act.put, List.getElem_toArray, List.getElem_cons_succ, List.getElem_cons_zero, List.setIfInBounds_toArray, List.set_cons_zero, List.set_cons_succ]
            refine wpAnyH_ready (rs := [10]) (by kernel_rfl) (by simp) ?_
            refine AllReadyH.cons rfl (fun K hK => ?_) AllReadyH.nil
            go_simp
            refine hK.out _ _ trivial (fun _ => ?_)
            clear hK K
            try simp only [Act.put, List.getElem_toArray, List.getElem_cons_succ, List.getElem_cons_zero, List.setIfInBounds_toArray, List.set_cons_zero, List.set_cons_succ]
            refine wpAnyH_done (by kernel_rfl) ?_ _
            rw [← hA6]
            clear hA6
            have hll : (([] ++ ls.take i) ++ ls.drop (i + 1)).length = m4 - 1 := by
              rw [List.nil_append, List.length_append, List.length_take, List.length_drop, HLV.out]
              omega
            obtain ⟨A8, c8, rfl, s8⟩ := Own.slk' encInt_len hll HO7.out
            rw [List.nil_append] at s8
            have PQi := hide (PQo.out.belowH HB7.out)
            have PTi := hide (PTo.out.belowH HB7.out)
            have kQ := PQi.out.cell
            have yQ := PQi.out.lt
            have kT := PTi.out.cell
            have yT := PTi.out.lt
            cases yb
            · go_wp2_with fail
              go_roundw
              case rel => exact ⟨i + 1, by omega, by go_num, HB7.out⟩
              case measure => simp [intOf]; omega
            · have hrs := HS.out i rfl
              go_wp2_with fail
              refine (HHO.out wr.heap.size w7.heap.size A8 (m4 - 1) c8 _ _ (HQo.out.below HB7.out (by omega)) (by omega) s8 (Nat.le_refl _) (by omega)).mono ?_
              rw [hrs]
              rintro e w8 ⟨rfl, hb8⟩
              have HB8 := hide (HB7.out.trans (hb8.mono (by omega)))
              go_wp2
              go_roundw
              case rel => exact ⟨i + 1, by omega, by go_num, HB8.out⟩
              case measure => simp [intOf]; omega
          · have hge : ¬ ((i : Int) < (m4 : Int)) := by omega
            have PQi := hide (PQo.out.belowH HB.out)
            have PTi := hide (PTo.out.belowH HB.out)
            have kQ := PQi.out.cell
            have yQ := PQi.out.lt
            have kT := PTi.out.cell
            have yT := PTi.out.lt
            cases yb
            · go_wp2_with fail
              refine wp_region_held_drew (S := (fun _ => True)) (by kernel_rfl) ?hS0 (fun hHeld => ?_)
              case hS0 => (trivial)
              refine wpAnyH_take (i := 0) (v := ?_) rfl (by kernel_rfl) (by kernel_rfl) (by kernel_rfl) (fun _ _ _ h => h) (Or.inl ⟨by rfl, ?_⟩) (by assumption) ?_
              rotate_left 1
              · intro w hSw
                try dsimp only at hSw
                go_simp
                try with_reducible rfl
              simp only [Act.put, List.getElem_toArray, List.getElem_cons_succ, List.getElem_cons_zero, List.setIfInBounds_toArray, List.set_cons_zero, List.set_cons_succ]
              refine wpAnyH_take (i := 1) (v := ?_) rfl (by kernel_rfl) (by kernel_rfl) (by kernel_rfl) (fun _ _ _ h => h) (Or.inl ⟨by rfl, ?_⟩) (by assumption) ?_
              rotate_left 1
              · intro w hSw
                try dsimp only at hSw
                go_simp
                try with_reducible rfl
              simp only [Act.put, List.getElem_toArray, List.getElem_cons_succ, List.getElem_cons_zero, List.setIfInBounds_toArray, List.set_cons_zero, List.set_cons_succ]
              refine wpAnyH_take (i := 2) (v := ?_) rfl (by kernel_rfl) (by kernel_rfl) (by kernel_rfl) (fun _ _ _ h => h) (Or.inl ⟨by rfl, ?_⟩) (by assumption) ?_
              rotate_left 1
              · intro w hSw
                try dsimp only at hSw
                go_simp
                try with_reducible rfl
              simp only [Act.put, List.getElem_toArray, List.getElem_cons_succ, List.getElem_cons_zero, List.setIfInBounds_toArray, List.set_cons_zero, List.set_cons_succ]
              refine wpAnyH_take (i := 3) (v := undef) rfl (by kernel_rfl) (by kernel_rfl) (by kernel_rfl) (fun _ _ _ h => h) (Or.inr ⟨by rfl, rfl⟩) (by assumption) ?_
              simp only [Act.put, List.getElem_toArray, List.getElem_cons_succ, List.getElem_cons_zero, List.setIfInBounds_toArray, List.set_cons_zero, List.set_cons_succ]
              refine wpAnyH_take (i := 4) (v := undef) rfl (by kernel_rfl) (by kernel_rfl) (by kernel_rfl) (fun _ _ _ h => h) (Or.inr ⟨by rfl, rfl⟩) (by assumption) ?_
              simp only [Act.put, List.getElem_toArray, List.getElem_cons_succ, List.getElem_cons_zero, List.setIfInBounds_toArray, List.set_cons_zero, List.set_cons_succ]
              refine wpAnyH_take (i := 5) (v := undef) rfl (by kernel_rfl) (by kernel_rfl) (by kernel_rfl) (fun _ _ _ h => h) (Or.inr ⟨by rfl, rfl⟩) (by assumption) ?_
              simp only [Act.put, List.getElem_toArray, List.getElem_cons_succ, List.getElem_cons_zero, List.setIfInBounds_toArray, List.set_cons_zero, List.set_cons_succ]
              refine wpAnyH_take (i := 6) (v := undef) rfl (by kernel_rfl) (by kernel_rfl) (by kernel_rfl) (fun _ _ _ h => h) (Or.inr ⟨by rfl, rfl⟩) (by assumption) ?_
              simp only [Act.put, List.getElem_toArray, List.getElem_cons_succ, List.getElem_cons_zero, List.setIfInBounds_toArray, List.set_cons_zero, List.set_cons_succ]
              refine wpAnyH_take (i := 7) (v := undef) rfl (by kernel_rfl) (by kernel_rfl) (by kernel_rfl) (fun _ _ _ h => h) (Or.inr ⟨by rfl, rfl⟩) (by assumption) ?_
              simp only [Act.put, List.getElem_toArray, List.getElem_cons_succ, List.getElem_cons_zero, List.setIfInBounds_toArray, List.set_cons_zero, List.set_cons_succ]
              refine wpAnyH_take (i := 8) (v := undef) rfl (by kernel_rfl) (by kernel_rfl) (by kernel_rfl) (fun _ _ _ h => h) (Or.inr ⟨by rfl, rfl⟩) (by assumption) ?_
              simp only [Act.put, List.getElem_toArray, List.getElem_cons_succ, List.getElem_cons_zero, List.setIfInBounds_toArray, List.set_cons_zero, List.set_cons_succ]
              refine wpAnyH_take (i := 9) (v := undef) rfl (by kernel_rfl) (by kernel_rfl) (by kernel_rfl) (fun _ _ _ h => h) (Or.inr ⟨by rfl, rfl⟩) (by assumption) ?_
              simp only [Act.put, List.getElem_toArray, List.getElem_cons_succ, List.getElem_cons_zero, List.setIfInBounds_toArray, List.set_cons_zero, List.set_cons_succ]
              refine wpAnyH_take (i := 10) (v := undef) rfl (by kernel_rfl) (by kernel_rfl) (by kernel_rfl) (fun _ _ _ h => h) (Or.inr ⟨by rfl, rfl⟩) (by assumption) ?_
              simp only [Act.put, List.getElem_toArray, List.getElem_cons_succ, List.getElem_cons_zero, List.setIfInBounds_toArray, List.set_cons_zero, List.set_cons_succ]
              refine wpAnyH_take (i := 11) (v := undef) rfl (by kernel_rfl) (by kernel_rfl) (by kernel_rfl) (fun _ _ _ h => h) (Or.inr ⟨by rfl, rfl⟩) (by assumption) ?_
              simp only [Act.put, List.getElem_toArray, List.getElem_cons_succ, List.getElem_cons_zero, List.setIfInBounds_toArray, List.set_cons_zero, List.set_cons_succ]
              refine wpAnyH_take (i := 12) (v := undef) rfl (by kernel_rfl) (by kernel_rfl) (by kernel_rfl) (fun _ _ _ h => h) (Or.inr ⟨by rfl, rfl⟩) (by assumption) ?_
              simp only [Act.put, List.getElem_toArray, List.getElem_cons_succ, List.getElem_cons_zero, List.setIfInBounds_toArray, List.set_cons_zero, List.set_cons_succ]
              refine wpAnyH_take (i := 13) (v := undef) rfl (by kernel_rfl) (by kernel_rfl) (by kernel_rfl) (fun _ _ _ h => h) (Or.inr ⟨by rfl, rfl⟩) (by assumption) ?_
              simp only [Act.put, List.getElem_toArray, List.getElem_cons_succ, List.getElem_cons_zero, List.setIfInBounds_toArray, List.set_cons_zero, List.set_cons_succ]
              refine wpAnyH_take (i := 14) (v := undef) rfl (by kernel_rfl) (by kernel_rfl) (by kernel_rfl) (fun _ _ _ h => h) (Or.inr ⟨by rfl, rfl⟩) (by assumption) ?_
              simp only [Act.put, List.getElem_toArray, List.getElem_cons_succ, List.getElem_cons_zero, List.setIfInBounds_toArray, List.set_cons_zero, List.set_cons_succ]
              refine wpAnyH_take (i := 15) (v := undef) rfl (by kernel_rfl) (by kernel_rfl) (by kernel_rfl) (fun _ _ _ h => h) (Or.inr ⟨by rfl, rfl⟩) (by assumption) ?_
              simp only [Act.put, List.getElem_toArray, List.getElem_cons_succ, List.getElem_cons_zero, List.setIfInBounds_toArray, List.set_cons_zero, List.set_cons_succ]
              refine wpAnyH_take (i := 16) (v := undef) rfl (by kernel_rfl) (by kernel_rfl) (by kernel_rfl) (fun _ _ _ h => h) (Or.inr ⟨by rfl, rfl⟩) (by assumption) ?_
              simp only [Act.put, List.getElem_toArray, List.getElem_cons_succ, List.getElem_cons_zero, List.setIfInBounds_toArray, List.set_cons_zero, List.set_cons_succ]
              refine wpAnyH_take (i := 17) (v := undef) rfl (by kernel_rfl) (by kernel_rfl) (by kernel_rfl) (fun _ _ _ h => h) (Or.inr ⟨by rfl, rfl⟩) (by assumption) ?_
              simp only [Act.put, List.getElem_toArray, List.getElem_cons_succ, List.getElem_cons_zero, List.setIfInBounds_toArray, List.set_cons_zero, List.set_cons_succ]
              refine wpAnyH_take (i := 18) (v := undef) rfl (by kernel_rfl) (by kernel_rfl) (by kernel_rfl) (fun _ _ _ h => h) (Or.inr ⟨by rfl, rfl⟩) (by assumption) ?_
              simp only [Act.put, List.getElem_toArray, List.getElem_cons_succ, List.getElem_cons_zero, List.setIfInBounds_toArray, List.set_cons_zero, List.set_cons_succ]
              refine wpAnyH_take (i := 19) (v := undef) rfl (by kernel_rfl) (by kernel_rfl) (by kernel_rfl) (fun _ _ _ h => h) (Or.inr ⟨by rfl, rfl⟩) (by assumption) ?_
              simp only [Act.put, List.getElem_toArray, List.getElem_cons_succ, List.getElem_cons_zero, List.setIfInBounds_toArray, List.set_cons_zero, List.set_cons_succ]
              refine wpAnyH_take (i := 20) (v := undef) rfl (by kernel_rfl) (by kernel_rfl) (by kernel_rfl) (fun _ _ _ h => h) (Or.inr ⟨by rfl, rfl⟩) (by assumption) ?_
              simp only [Act.put, List.getElem_toArray, List.getElem_cons_succ, List.getElem_cons_zero, List.setIfInBounds_toArray, List.set_cons_zero, List.set_cons_succ]
              refine wpAnyH_take (i := 21) (v := undef) rfl (by kernel_rfl) (by kernel_rfl) (by kernel_rfl) (fun _ _ _ h => h) (Or.inr ⟨by rfl, rfl⟩) (by assumption) ?_
              simp only [Act.put, List.getElem_toArray, List.getElem_cons_succ, List.getElem_cons_zero, List.setIfInBounds_toArray, List.set_cons_zero, List.set_cons_succ]
              refine wpAnyH_take (i := 22) (v := ?_) rfl (by kernel_rfl) (by kernel_rfl) (by kernel_rfl) (fun _ _ _ h => h) (Or.inl ⟨by rfl, ?_⟩) (by assumption) ?_
              rotate_left 1
              · intro w hSw
                try dsimp only at hSw
                go_simp
                try with_reducible rfl
              simp only [Act.put, List.getElem_toArray, List.getElem_cons_succ, List.getElem_cons_zero, List.setIfInBounds_toArray, List.set_cons_zero, List.set_cons_succ]
              refine wpAnyH_ready (rs := [23]) (by kernel_rfl) (by simp) ?_
              refine AllReadyH.cons rfl (fun K hK => ?_) AllReadyH.nil
              go_simp
              refine hK.out _ _ trivial (fun _ => ?_)
              clear hK K
              try simp only [Act.put, List.getElem_toArray, List.getElem_cons_succ, List.getElem_cons_zero, List.setIfInBounds_toArray, List.set_cons_zero, List.set_cons_succ]
              refine wpAnyH_done (by kernel_rfl) ?_ _
              go_wp2
              go_ret
              exact ⟨rfl, (by repeat (first | with_reducible exact Below.refl _ _ | with_reducible assumption | with_reducible refine Below.setCell ?_ (by (try simp) <;> omega) _ | with_reducible refine Below.alloc ?_ (by (try simp) <;> omega) _ | with_reducible refine Below.drew ?_ | with_reducible refine below_drewN ?_ _ | with_reducible exact Lo.out | with_reducible exact HB.out | with_reducible refine Below.trans ?_ (Below.mono Lo.out (by (try simp) <;> omega)) | with_reducible refine Below.trans ?_ (Below.mono HB.out (by (try simp) <;> omega))))⟩
            · obtain ⟨hw1, hw2⟩ := HW.out rfl
              obtain ⟨V, hV⟩ : ∃ V, volU q ls = V := ⟨_, rfl⟩
              obtain ⟨G, hG⟩ : ∃ V, gramU q ls = V := ⟨_, rfl⟩
              obtain ⟨VT, hVT⟩ : ∃ V, vol t.w t.h t.d = V := ⟨_, rfl⟩
              have HVT := hide hVT
              rw [hV, hVT] at hw1
              rw [hG] at hw2
              rw [hV] at HVO
              rw [hG] at HGO
              have e1 : decide (V ≤ VT) = true := decide_eq_true hw1
              have e2 : decide (G ≤ t.gram) = true := decide_eq_true hw2
              clear hV hG hVT
              go_wp2_with fail
              refine wp_region_held_drew (S := (fun w' => w'.cell? ⟨w4.heap.size, 0, none⟩ = some (.int .i64 q.way) ∧ w'.cell? ⟨w4.heap.size, 1, none⟩ = some (.int .i64 q.pal.w) ∧ w'.cell? ⟨w4.heap.size, 2, none⟩ = some (.int .i64 q.pal.d) ∧ w'.cell? ⟨w4.heap.size, 3, none⟩ = some (.int .i64 q.pal.h) ∧ w'.cell? ⟨w4.heap.size, 4, none⟩ = some (.int .i64 q.pal.gram) ∧ w'.cell? ⟨w4.heap.size, 5, none⟩ = some (.int .i64 q.cls) ∧ w'.cell? ⟨w4.heap.size, 6, none⟩ = some (.slice B1 m1 d1) ∧ w'.cell? ⟨w4.heap.size, 7, none⟩ = some (.slice B2 m2 d2) ∧ w'.cell? ⟨w4.heap.size, 8, none⟩ = some (.int .i64 q.master) ∧ w'.cell? ⟨w4.heap.size, 9, none⟩ = some (.slice B3 m3 d3) ∧ w'.cell? ⟨w4.heap.size + 1, 1, none⟩ = some (.int .i64 t.w) ∧ w'.cell? ⟨w4.heap.size + 1, 2, none⟩ = some (.int .i64 t.h) ∧ w'.cell? ⟨w4.heap.size + 1, 3, none⟩ = some (.int .i64 t.d) ∧ w'.cell? ⟨w4.heap.size + 1, 5, none⟩ = some (.int .i64 t.gram))) (by kernel_rfl) ?hS0 (fun hHeld => ?_)
              case hS0 => (go_keep)
              refine wpAnyH_take (i := 0) (v := ?_) rfl (by kernel_rfl) (by kernel_rfl) (by kernel_rfl) (fun _ _ _ h => h) (Or.inl ⟨by rfl, ?_⟩) (by assumption) ?_
              rotate_left 1
              · intro w hSw
                try dsimp only at hSw
                go_simp
                try with_reducible rfl
              simp only [Act.put, List.getElem_toArray, List.getElem_cons_succ, List.getElem_cons_zero, List.setIfInBounds_toArray, List.set_cons_zero, List.set_cons_succ]
              refine wpAnyH_take (i := 1) (v := ?_) rfl (by kernel_rfl) (by kernel_rfl) (by kernel_rfl) (fun _ _ _ h => h) (Or.inl ⟨by rfl, ?_⟩) (by assumption) ?_
              rotate_left 1
              · intro w hSw
                try dsimp only at hSw
                go_simp
                try with_reducible rfl
              simp only [Act.put, List.getElem_toArray, List.getElem_cons_succ, List.getElem_cons_zero, List.setIfInBounds_toArray, List.set_cons_zero, List.set_cons_succ]
              refine wpAnyH_take (i := 2) (v := ?_) rfl (by kernel_rfl) (by kernel_rfl) (by kernel_rfl) (fun _ _ _ h => h) (Or.inl ⟨by rfl, ?_⟩) (by assumption) ?_
              rotate_left 1
              · intro w hSw
                try dsimp only at hSw
                go_simp
                try with_reducible rfl
              simp only [Act.put, List.getElem_toArray, List.getElem_cons_succ, List.getElem_cons_zero, List.setIfInBounds_toArray, List.set_cons_zero, List.set_cons_succ]
              refine wpAnyH_take (i := 3) (v := ?_) rfl (by kernel_rfl) (by kernel_rfl) (by kernel_rfl) (fun _ _ _ h => h) (Or.inl ⟨by rfl, ?_⟩) (by assumption) ?_
              rotate_left 1
              · intro w hSw
                try dsimp only at hSw
                go_simp
                try with_reducible rfl
              simp only [Act.put, List.getElem_toArray, List.getElem_cons_succ, List.getElem_cons_zero, List.setIfInBounds_toArray, List.set_cons_zero, List.set_cons_succ]
              refine wpAnyH_take (i := 4) (v := ?_) rfl (by kernel_rfl) (by kernel_rfl) (by kernel_rfl) (fun _ _ _ h => h) (Or.inl ⟨by rfl, ?_⟩) (by assumption) ?_
              rotate_left 1
              · intro w hSw
                try dsimp only at hSw
                go_simp
                try with_reducible rfl
              simp only [Act.put, List.getElem_toArray, List.getElem_cons_succ, List.getElem_cons_zero, List.setIfInBounds_toArray, List.set_cons_zero, List.set_cons_succ]
              refine wpAnyH_take (i := 6) (v := ?_) rfl (by kernel_rfl) (by kernel_rfl) (by kernel_rfl) (fun _ _ _ h => h) (Or.inl ⟨by rfl, ?_⟩) (by assumption) ?_
              rotate_left 1
              · intro w hSw
                try dsimp only at hSw
                go_simp
                try with_reducible rfl
              simp only [Act.put, List.getElem_toArray, List.getElem_cons_succ, List.getElem_cons_zero, List.setIfInBounds_toArray, List.set_cons_zero, List.set_cons_succ]
              refine wpAnyH_take (i := 7) (v := ?_) rfl (by kernel_rfl) (by kernel_rfl) (by kernel_rfl) (fun _ _ _ h => h) (Or.inl ⟨by rfl, ?_⟩) (by assumption) ?_
              rotate_left 1
              · intro w hSw
                try dsimp only at hSw
                go_simp
                try with_reducible rfl
              simp only [Act.put, List.getElem_toArray, List.getElem_cons_succ, List.getElem_cons_zero, List.setIfInBounds_toArray, List.set_cons_zero, List.set_cons_succ]
              refine wpAnyH_take (i := 8) (v := ?_) rfl (by kernel_rfl) (by kernel_rfl) (by kernel_rfl) (fun _ _ _ h => h) (Or.inl ⟨by rfl, ?_⟩) (by assumption) ?_
              rotate_left 1
              · intro w hSw
                try dsimp only at hSw
                go_simp
                try with_reducible rfl
              simp only [Act.put, List.getElem_toArray, List.getElem_cons_succ, List.getElem_cons_zero, List.setIfInBounds_toArray, List.set_cons_zero, List.set_cons_succ]
              refine wpAnyH_take (i := 9) (v := ?_) rfl (by kernel_rfl) (by kernel_rfl) (by kernel_rfl) (fun _ _ _ h => h) (Or.inl ⟨by rfl, ?_⟩) (by assumption) ?_
              rotate_left 1
              · intro w hSw
                try dsimp only at hSw
                go_simp
                try with_reducible rfl
              simp only [Act.put, List.getElem_toArray, List.getElem_cons_succ, List.getElem_cons_zero, List.setIfInBounds_toArray, List.set_cons_zero, List.set_cons_succ]
              refine wpAnyH_take (i := 10) (v := ?_) rfl (by kernel_rfl) (by kernel_rfl) (by kernel_rfl) (fun _ _ _ h => h) (Or.inl ⟨by rfl, ?_⟩) (by assumption) ?_
              rotate_left 1
              · intro w hSw
                try dsimp only at hSw
                go_simp
                try with_reducible rfl
              simp only [Act.put, List.getElem_toArray, List.getElem_cons_succ, List.getElem_cons_zero, List.setIfInBounds_toArray, List.set_cons_zero, List.set_cons_succ]
              refine wpAnyH_take (i := 11) (v := ?_) rfl (by kernel_rfl) (by kernel_rfl) (by kernel_rfl) (fun _ _ _ h => h) (Or.inl ⟨by rfl, ?_⟩) (by assumption) ?_
              rotate_left 1
              · intro w hSw
                try dsimp only at hSw
                go_simp
                try with_reducible rfl
              simp only [Act.put, List.getElem_toArray, List.getElem_cons_succ, List.getElem_cons_zero, List.setIfInBounds_toArray, List.set_cons_zero, List.set_cons_succ]
              refine wpAnyH_ready (rs := [5]) (by kernel_rfl) (by simp) ?_
              refine AllReadyH.cons rfl (fun K hK => ?_) AllReadyH.nil
              go_simp
              refine (HVO.out _ (HQo.out.below (B := wo.heap.size) HB.out.drew (by omega)) (by (try simp) <;> omega) (HVo.out.below (B := wo.heap.size) HB.out.drew (by omega)) (by (try simp) <;> omega)).mono ?_
              rintro e wa ⟨rfl, hba⟩
              have HBa := hide (show Below wo.heap.size wo wa from (by repeat (first | with_reducible exact Below.refl _ _ | with_reducible assumption | with_reducible refine Below.setCell ?_ (by (try simp) <;> omega) _ | with_reducible refine Below.alloc ?_ (by (try simp) <;> omega) _ | with_reducible refine Below.drew ?_ | with_reducible refine below_drewN ?_ _ | with_reducible exact HB.out | with_reducible exact hba | with_reducible refine Below.trans ?_ (Below.mono HB.out (by (try simp) <;> omega)) | with_reducible refine Below.trans ?_ (Below.mono hba (by (try simp) <;> omega)))))
              have ya := HBa.out.size
              clear hba
              clear kQ yQ kT yT
              have PQa := hide (PQo.out.belowH HBa.out)
              have PTa := hide (PTo.out.belowH HBa.out)
              have kQ := PQa.out.cell
              have yQ := PQa.out.lt
              have kT := PTa.out.cell
              have yT := PTa.out.lt
              go_wp2_with fail
              refine hK.out _ _ ?hS1 (fun hHeld => ?_)
              case hS1 => (try dsimp only); (first | (with_reducible assumption) | go_keep)
              clear hK K
              try simp only [Act.put, List.getElem_toArray, List.getElem_cons_succ, List.getElem_cons_zero, List.setIfInBounds_toArray, List.set_cons_zero, List.set_cons_succ]
              refine wpAnyH_ready (rs := [12]) (by kernel_rfl) (by simp) ?_
              refine AllReadyH.cons rfl (fun K hK => ?_) AllReadyH.nil
              go_simp
              refine (vol_any _ _ _ _).mono ?_
              rintro e wb ⟨rfl, hbb⟩
              subst hbb
              rw [HVT.out]
              have HBb := hide HBa.out
              clear kQ yQ kT yT
              have PQb := hide (PQo.out.belowH HBb.out)
              have PTb := hide (PTo.out.belowH HBb.out)
              have kQ := PQb.out.cell
              have yQ := PQb.out.lt
              have kT := PTb.out.cell
              have yT := PTb.out.lt
              go_wp2_with fail
              refine hK.out _ _ ?hS1 (fun hHeld => ?_)
              case hS1 => (try dsimp only); (first | (with_reducible assumption) | go_keep)
              clear hK K
              try simp only [Act.put, List.getElem_toArray, List.getElem_cons_succ, List.getElem_cons_zero, List.setIfInBounds_toArray, List.set_cons_zero, List.set_cons_succ]
              refine wpAnyH_take (i := 13) (v := ?_) rfl (by kernel_rfl) (by kernel_rfl) (by kernel_rfl) (fun _ _ _ h => h) (Or.inl ⟨by rfl, ?_⟩) (by assumption) ?_
              rotate_left 1
              · intro w hSw
                try dsimp only at hSw
                go_simp
                try with_reducible rfl
              simp only [Act.put, List.getElem_toArray, List.getElem_cons_succ, List.getElem_cons_zero, List.setIfInBounds_toArray, List.set_cons_zero, List.set_cons_succ]
              refine wpAnyH_take (i := 14) (v := ?_) rfl (by kernel_rfl) (by kernel_rfl) (by kernel_rfl) (fun _ _ _ h => h) (Or.inl ⟨by rfl, ?_⟩) (by assumption) ?_
              rotate_left 1
              · intro w hSw
                try dsimp only at hSw
                go_simp
                try with_reducible rfl
              simp only [Act.put, List.getElem_toArray, List.getElem_cons_succ, List.getElem_cons_zero, List.setIfInBounds_toArray, List.set_cons_zero, List.set_cons_succ]
              refine wpAnyH_take (i := 15) (v := ?_) rfl (by kernel_rfl) (by kernel_rfl) (by kernel_rfl) (fun _ _ _ h => h) (Or.inl ⟨by rfl, ?_⟩) (by assumption) ?_
              rotate_left 1
              · intro w hSw
                try dsimp only at hSw
                go_simp
                try with_reducible rfl
              simp only [Act.put, List.getElem_toArray, List.getElem_cons_succ, List.getElem_cons_zero, List.setIfInBounds_toArray, List.set_cons_zero, List.set_cons_succ]
              refine wpAnyH_take (i := 16) (v := ?_) rfl (by kernel_rfl) (by kernel_rfl) (by kernel_rfl) (fun _ _ _ h => h) (Or.inl ⟨by rfl, ?_⟩) (by assumption) ?_
              rotate_left 1
              · intro w hSw
                try dsimp only at hSw
                go_simp
                try with_reducible rfl
              simp only [Act.put, List.getElem_toArray, List.getElem_cons_succ, List.getElem_cons_zero, List.setIfInBounds_toArray, List.set_cons_zero, List.set_cons_succ]
              refine wpAnyH_take (i := 18) (v := ?_) rfl (by kernel_rfl) (by kernel_rfl) (by kernel_rfl) (fun _ _ _ h => h) (Or.inl ⟨by rfl, ?_⟩) (by assumption) ?_
              rotate_left 1
              · intro w hSw
                try dsimp only at hSw
                go_simp
                try with_reducible rfl
              simp only [Act.put, List.getElem_toArray, List.getElem_cons_succ, List.getElem_cons_zero, List.setIfInBounds_toArray, List.set_cons_zero, List.set_cons_succ]
              refine wpAnyH_take (i := 19) (v := ?_) rfl (by kernel_rfl) (by kernel_rfl) (by kernel_rfl) (fun _ _ _ h => h) (Or.inl ⟨by rfl, ?_⟩) (by assumption) ?_
              rotate_left 1
              · intro w hSw
                try dsimp only at hSw
                go_simp
                try with_reducible rfl
              simp only [Act.put, List.getElem_toArray, List.getElem_cons_succ, List.getElem_cons_zero, List.setIfInBounds_toArray, List.set_cons_zero, List.set_cons_succ]
              refine wpAnyH_ready (rs := [17]) (by kernel_rfl) (by simp) ?_
              refine AllReadyH.cons rfl (fun K hK => ?_) AllReadyH.nil
              go_simp
              refine (HGO.out _ (HQo.out.below HBb.out (by omega)) (by omega) (HVo.out.below HBb.out (by omega)) (by omega)).mono ?_
              rintro e wc ⟨rfl, hbc⟩
              have HBc := hide (HBb.out.trans (hbc.mono (by omega)))
              have yc := HBc.out.size
              clear hbc
              clear kQ yQ kT yT
              have PQc := hide (PQo.out.belowH HBc.out)
              have PTc := hide (PTo.out.belowH HBc.out)
              have kQ := PQc.out.cell
              have yQ := PQc.out.lt
              have kT := PTc.out.cell
              have yT := PTc.out.lt
              go_wp2_with fail
              refine hK.out _ _ ?hS1 (fun hHeld => ?_)
              case hS1 => (try dsimp only); (first | (with_reducible assumption) | go_keep)
              clear hK K
              try simp only [Act.put, List.getElem_toArray, List.getElem_cons_succ, List.getElem_cons_zero, List.setIfInBounds_toArray, List.set_cons_zero, List.set_cons_succ]
              refine wpAnyH_take (i := 20) (v := ?_) rfl (by kernel_rfl) (by kernel_rfl) (by kernel_rfl) (fun _ _ _ h => h) (Or.inl ⟨by rfl, ?_⟩) (by assumption) ?_
              rotate_left 1
              · intro w hSw
                try dsimp only at hSw
                go_simp
                try with_reducible rfl
              simp only [Act.put, List.getElem_toArray, List.getElem_cons_succ, List.getElem_cons_zero, List.setIfInBounds_toArray, List.set_cons_zero, List.set_cons_succ]
              refine wpAnyH_take (i := 21) (v := ?_) rfl (by kernel_rfl) (by kernel_rfl) (by kernel_rfl) (fun _ _ _ h => h) (Or.inl ⟨by rfl, ?_⟩) (by assumption) ?_
              rotate_left 1
              · intro w hSw
                try dsimp only at hSw
                go_simp
                try with_reducible rfl
              simp only [Act.put, List.getElem_toArray, List.getElem_cons_succ, List.getElem_cons_zero, List.setIfInBounds_toArray, List.set_cons_zero, List.set_cons_succ]
              refine wpAnyH_take (i := 22) (v := ?_) rfl (by kernel_rfl) (by kernel_rfl) (by kernel_rfl) (fun _ _ _ h => h) (Or.inl ⟨by rfl, ?_⟩) (by assumption) ?_
              rotate_left 1
              · intro w hSw
                try dsimp only at hSw
                go_simp
                try with_reducible rfl
              simp only [Act.put, List.getElem_toArray, List.getElem_cons_succ, List.getElem_cons_zero, List.setIfInBounds_toArray, List.set_cons_zero, List.set_cons_succ]
              refine wpAnyH_ready (rs := [23]) (by kernel_rfl) (by simp) ?_
              refine AllReadyH.cons rfl (fun K hK => ?_) AllReadyH.nil
              go_simp
              refine hK.out _ _ ?hS1 (fun hHeld => ?_)
              case hS1 => (try dsimp only); (first | (with_reducible assumption) | go_keep)
              clear hK K
              try simp only [Act.put, List.getElem_toArray, List.getElem_cons_succ, List.getElem_cons_zero, List.setIfInBounds_toArray, List.set_cons_zero, List.set_cons_succ]
              refine wpAnyH_done (by kernel_rfl) ?_ _
              go_wp2
              go_ret
              exact ⟨rfl, (by repeat (first | with_reducible exact Below.refl _ _ | with_reducible assumption | with_reducible refine Below.setCell ?_ (by (try simp) <;> omega) _ | with_reducible refine Below.alloc ?_ (by (try simp) <;> omega) _ | with_reducible refine Below.drew ?_ | with_reducible refine below_drewN ?_ _ | with_reducible exact Lo.out | with_reducible exact HBc.out | with_reducible refine Below.trans ?_ (Below.mono Lo.out (by (try simp) <;> omega)) | with_reducible refine Below.trans ?_ (Below.mono HBc.out (by (try simp) <;> omega))))⟩
  · go_enter Tryz.func7, Tryz.ntmps7
    go_wp2_with fail
    refine (big_yes Ab nb cb _ hcap hmax hbig).mono ?_
    rintro e w' ⟨rfl, rfl⟩
    go_wp2
    go_ret
    exact ⟨rfl, Below.refl _ _⟩
set_option maxRecDepth 100000 in
set_option maxHeartbeats 1000000 in
theorem lifted (os : Os) (started : os.Started) (H : Type) (enc : TypeId × Value → H) :
    ReturnsInHanded {} Tryz.checked os 7 .any (Rows.fnRoomLessSpec.pre6 enc Tryz.prog Tryz.f7 Rows.fnRoomLessRow.domain false) (Rows.fnRoomLessSpec.post enc Tryz.prog Tryz.f7 false true false false) := by
  refine returnsInHanded_of_change (C := Tryz.checked) ownK started (by kernel_rfl) Tryz.func7
    (ChangeSpec.witness6 (enc := enc) (C := Tryz.checked) false ⟨#[], #[.slice none 0 0], []⟩ 8 (by kernel_rfl) (by kernel_rfl) (by kernel_rfl) (by kernel_rfl)) ?_
  intro W base args ds gs before hval0 hW hcnd _
  have hval : ∀ (j : Nat) t v, Tryz.f7.params[j]? = some t → args[j]? = some v → Value.okWide Tryz.prog W .any base t v := hval0
  have hW' := hW
  obtain ⟨p, q, hA0, hV, rfl, hfz, hnd⟩ := hW
  have hA : DataW.TrodAll enc Tryz.prog W 0 (fun _ => true) true Tryz.f7.params.toList args.toList ds p := hA0
  have hV' := hV
  obtain ⟨rfl, rfl⟩ := trodVars_none hV'
  rw [Tryz.params7] at hA hval
  obtain ⟨v0, vs0, d0, ds0, p0, q0, hargs, rfl, rfl, h0, r0⟩ := trodAll_cons hA
  obtain ⟨rfl, rfl, rfl⟩ := trodAll_nil r0
  obtain rfl : args = #[v0] := by cases args; simp_all
  have hz0 : W.noneFrozen p0 := fun b off hin => hfz b off (by simp [hin])
  obtain ⟨Ab, nb, cb, b, rfl, hb⟩ : ∃ A n c, ∃ xs : List Int, v0 = .slice A n c ∧ (SlK 1 encByte W 0 W.heap.size A n c xs ∧ ∀ z ∈ xs, 0 ≤ z ∧ z ≤ 255) := by
    obtain ⟨a0, len0, cap0, rfl⟩ := okWide_slice Tryz.underlying43 (hval 0 43 v0 rfl rfl)
    obtain ⟨fu, hf⟩ := h0
    exact open_bytes Tryz.underlying43 (by kernel_rfl) Tryz.underlying5 (by simpa [Value.cells] using hf) hz0
  refine (walk Ab nb cb b W hb).mono fun e W' ⟨he, hb⟩ => ?_
  subst he
  exact ⟨_, rfl, law_post laidO (by intro t ht; rw [Tryz.params7] at ht; simp only [List.mem_cons, List.not_mem_nil, or_false] at ht; subst ht; exact ⟨by kernel_rfl, of_decide_eq_true (by kernel_rfl)⟩) rfl (by kernel_rfl) Tryz.underlying4 hW' rfl hb⟩

theorem over : Rows.fnRoomLessRow.holds Tryz.pinned (OpenSpec.ofChange Rows.fnRoomLessSpec) :=
  OpenClaim.holds_of_wide 7 Tryz.f7 rfl rfl rfl rfl rfl rfl rfl ⟨rfl, rfl, rfl, rfl, rfl⟩ rfl rfl rfl rfl rfl (by kernel_rfl) Tryz.func7 (by kernel_rfl)
    (of_decide_eq_true (by kernel_rfl)) (by unfold Func.isWrapper; first | (rw [if_pos (by decide +kernel)]; kernel_rfl) | (rw [if_neg (by decide +kernel)]; exact ⟨rfl, rfl⟩))
    (fun os started H enc _ => lifted os started H enc)

theorem proved : Rows.FnRoomLessSaid :=
  over
#print axioms proved
end Go.Proofs.YtehgdhekiogppaaGreat.fnRoomLess
