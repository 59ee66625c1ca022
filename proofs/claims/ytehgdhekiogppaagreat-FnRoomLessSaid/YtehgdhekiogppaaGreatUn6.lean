/- l7Of of the reference: the load of units. -/
import Derived.Test.YtehgdhekiogppaaGreatUn1
import Derived.Test.YtehgdhekiogppaaGreatNam
namespace Go.Proofs.YtehgdhekiogppaaGreat
open Go.ChangeShapes Go.WideShapes Go.ChangeAt Go.RowKit Go.Deep
set_option linter.unusedVariables false
set_option linter.unusedSimpArgs false

set_option maxRecDepth 20000 in
set_option maxHeartbeats 4000000 in
theorem sl7of_any (r : Rq) (A1 A2 A3 : Option Addr) (n1 n2 n3 c1 c2 c3 : Nat) (lo hi : Nat) (lo1 hi1 : Nat) (A1' : Option Addr) (m c1' : Nat) (lo2 hi2 : Nat) (A : Option Addr) (n c : Nat) (us : List Int) (w : World) (hr : RqAt w lo hi r A1 n1 c1 A2 n2 c2 A3 n3 c3) (hB : hi ≤ w.heap.size) (hu : SlK 1 encInt w lo1 hi1 A1' m c1' (unitsR r)) (hB1 : hi1 ≤ w.heap.size) (hs : SlK 1 encInt w lo2 hi2 A n c us) (hB2 : hi2 ≤ w.heap.size) (hn : n ≤ 1048580) :
    Calls Tryz.prog 81 #[.agg #[.int .i64 r.way, .int .i64 r.pal.w, .int .i64 r.pal.d, .int .i64 r.pal.h, .int .i64 r.pal.gram, .int .i64 r.cls, .slice A1 n1 c1, .slice A2 n2 c2, .int .i64 r.master, .slice A3 n3 c3], .slice A1' m c1', .slice A n c] w fun e w' => e = .returned (.agg #[.int .i64 (volU r us), .int .i64 (gramU r us)]) ∧ Below w.heap.size w w' := by
  have HR := hide hr
  have HS := hide hs
  have HU := hide hu
  have HL := hide hs.len
  have hcu := hs.cap
  have hmu := hs.max
  clear hr hs hu
  go_enter Tryz.func81, Tryz.ntmps81
  obtain ⟨RL, hRL⟩ : ∃ RL : Array Value, RL = #[.int .i64 r.way, .int .i64 r.pal.w, .int .i64 r.pal.d, .int .i64 r.pal.h, .int .i64 r.pal.gram, .int .i64 r.cls, .slice A1 n1 c1, .slice A2 n2 c2, .int .i64 r.master, .slice A3 n3 c3] := ⟨_, rfl⟩
  have HRL := hide hRL
  clear hRL
  go_wp2
  go_loopw [8] (fun i wr => ∃ k : Nat, k ≤ n ∧ i = .int .i64 k ∧ Blk wr w.heap.size 37 RL ∧ Blk wr (w.heap.size + 1) 101 #[.int .i64 0, .int .i64 0] ∧ Blk wr (w.heap.size + 1 + 1) 101 #[.int .i64 (volU r (us.take k)), .int .i64 (gramU r (us.take k))] ∧ Below w.heap.size w wr) (fun i _ => n - (intOf i).toNat)
  case atStart => exact ⟨0, Nat.zero_le _, rfl, (((Blk.new w _ _ rfl).alloc _).alloc _).as HRL.out.symm, (Blk.new (w.alloc _) _ _ (by simp)).alloc _, Blk.new ((w.alloc _).alloc _) _ _ (by simp), (by repeat (first | with_reducible exact Below.refl _ _ | with_reducible assumption | with_reducible refine Below.setCell ?_ (by (try simp) <;> omega) _ | with_reducible refine Below.alloc ?_ (by (try simp) <;> omega) _ | with_reducible refine Below.drew ?_ | with_reducible refine below_drewN ?_ _))⟩
  case round =>
    obtain ⟨k, hk, rfl, B0, B1, B2, hbel⟩ := hrel
    have HBel := hide hbel
    have PR := hide B0
    have PO := hide B1
    have PL := hide B2
    have kR := (B0.as HRL.out).cell
    have yR := B0.lt
    have yL := B2.lt
    have kL := B2.cell
    have yO := B1.lt
    have kO := B1.cell
    have fO := B1.frozen
    have HBv := hide (volU_bd r (us.take k))
    have HBg := hide (gramU_bd r (us.take k))
    have hlen : (us.take k).length ≤ k := List.length_take_le _ _
    have hz := hbel.size
    clear hbel B0 B1 B2
    by_cases hlt : k < n
    · obtain ⟨bu, ou, x, hx, rfl, _, hbu, cu, _⟩ := (HS.out.below HBel.out hB2).int hlt
      have HX := hide hx
      have hsv := hide (volU_snoc (r := r) hx)
      have hsg := hide (gramU_snoc (r := r) hx)
      have HV1 := hide (volI_bd (itD (unitIt r x)))
      have HG1 := hide (itD_gram r x)
      have hbv1 : 0 ≤ volU r (us.take k) := HBv.out.1
      have hbv2 : volU r (us.take k) ≤ 8388640000000000 := by have := HBv.out.2; omega
      have hbg1 : 0 ≤ gramU r (us.take k) := HBg.out.1
      have hbg2 : gramU r (us.take k) ≤ 104858000000 := by have := HBg.out.2; omega
      have i0 : (0 : Int) ≤ (k : Int) := by omega
      have i1 : (k : Int) < (n : Int) := by omega
      have z0 : bu < w.heap.size := by omega
      have z0' : bu < wr.heap.size := by omega
      have HI := sl6item_any r A1 A2 A3 n1 n2 n3 c1 c2 c3 lo hi x lo1 hi1 A1' m c1'
      clear hx
      obtain ⟨V, hV⟩ : ∃ S, volU r (us.take k) = S := ⟨_, rfl⟩
      obtain ⟨G, hG⟩ : ∃ S, gramU r (us.take k) = S := ⟨_, rfl⟩
      have HVV := hide hV
      have HGG := hide hG
      rw [hV] at hbv1 hbv2 PL
      rw [hG] at hbg1 hbg2 PL
      clear kL kO fO
      clear hV hG
      obtain ⟨y, hy⟩ : ∃ y, itD (unitIt r x) = y := ⟨_, rfl⟩
      have HY := hide hy
      rw [hy] at HV1 HG1 HI
      clear hy
      have hv1 := HV1.out.1
      have hv2 := HV1.out.2
      rw [show volI y = vol y.w y.h y.d from rfl] at hv1 hv2
      have hg1 := HG1.out.1
      have hg2 := HG1.out.2
      have HII := hide HI
      clear HI
      have e0 : w.heap.size ≠ wr.heap.size := by omega
      have e1 : bu ≠ wr.heap.size := by omega
      have e0' : wr.heap.size ≠ w.heap.size := by omega
      have e1' : wr.heap.size ≠ bu := by omega
      go_wp2_with fail
      go_region_held3 (fun w' => w'.cell? ⟨w.heap.size, 0, none⟩ = some (.int .i64 r.way) ∧ w'.cell? ⟨w.heap.size, 1, none⟩ = some (.int .i64 r.pal.w) ∧ w'.cell? ⟨w.heap.size, 2, none⟩ = some (.int .i64 r.pal.d) ∧ w'.cell? ⟨w.heap.size, 3, none⟩ = some (.int .i64 r.pal.h) ∧ w'.cell? ⟨w.heap.size, 4, none⟩ = some (.int .i64 r.pal.gram) ∧ w'.cell? ⟨w.heap.size, 5, none⟩ = some (.int .i64 r.cls) ∧ w'.cell? ⟨w.heap.size, 6, none⟩ = some (.slice A1 n1 c1) ∧ w'.cell? ⟨w.heap.size, 7, none⟩ = some (.slice A2 n2 c2) ∧ w'.cell? ⟨w.heap.size, 8, none⟩ = some (.int .i64 r.master) ∧ w'.cell? ⟨w.heap.size, 9, none⟩ = some (.slice A3 n3 c3) ∧ w'.cell? ⟨bu, ou + k, none⟩ = some (.int .i64 x)) (go_keep) (first
        | (go_at_call 80; (with_reducible refine (HII.out _ (HR.out.below HBel.out hB).drew (by simp; omega) (HU.out.below HBel.out hB1).drew (by simp; omega)).mono ?_); rintro e w2 ⟨rfl, hb2'⟩; have PR2 := hide (PR.out.drew.belowH hb2'); have PO2 := hide (PO.out.drew.belowH hb2'); have PL2 := hide (PL.out.drew.belowH hb2'); have BB := hide ((Below.refl wr.heap.size wr).drew.trans (hb2'.mono (by simp))); have L2 := hide (HBel.out.trans (BB.out.mono hz)); have hcc : ∀ b o, b < wr.heap.size → w2.cell? ⟨b, o, none⟩ = wr.cell? ⟨b, o, none⟩ := (fun b o h => BB.out.cell (p := ⟨b, o, none⟩) h); have z2 : wr.heap.size ≤ w2.heap.size := (by simpa using hb2'.size); have e2 : w.heap.size ≠ w2.heap.size := (by omega); have e3 : bu ≠ w2.heap.size := (by omega); have e2' : w2.heap.size ≠ w.heap.size := (by omega); have e3' : w2.heap.size ≠ bu := (by omega))
        | (go_at_call 80; (with_reducible refine (HII.out _ ((HR.out.below HBel.out hB).alloc (by omega) _).drew (by simp; omega) ((HU.out.below HBel.out hB1).alloc (by omega) _).drew (by simp; omega)).mono ?_); rintro e w2 ⟨rfl, hb2'⟩; have PR2 := hide ((PR.out.alloc _).drew.belowH hb2'); have PO2 := hide ((PO.out.alloc _).drew.belowH hb2'); have PL2 := hide ((PL.out.alloc _).drew.belowH hb2'); have PX2 := hide ((Blk.new wr 63 #[.int .i64 0, .int .i64 0, .int .i64 0, .int .i64 0, .int .i64 0, .int .i64 0, .int .i64 0] (g := wr.heap.size) rfl).drew.belowH hb2'); have BB := hide ((((Below.refl wr.heap.size wr).alloc (Nat.le_refl _) _).drew).trans (hb2'.mono (by simp))); have L2 := hide (HBel.out.trans (BB.out.mono hz)); have hcc : ∀ b o, b < wr.heap.size → w2.cell? ⟨b, o, none⟩ = wr.cell? ⟨b, o, none⟩ := (fun b o h => BB.out.cell (p := ⟨b, o, none⟩) h); have z2 : wr.heap.size < w2.heap.size := PX2.out.lt; have kX := PX2.out.cell; have fX := PX2.out.frozen))
      all_goals first
        | (have PX3 := hide (((((((PX2.out.set_ 0 (.int .i64 y.id)).set_ 1 (.int .i64 y.w)).set_ 2 (.int .i64 y.h)).set_ 3 (.int .i64 y.d)).set_ 4 (.int .i64 y.gram)).set_ 5 (.int .i64 y.cls)).set_ 6 (.int .i64 y.cnt))
           simp only [List.setIfInBounds_toArray, List.set_cons_zero, List.set_cons_succ] at PX3
           have PR3 := hide (((((((PR2.out.far (p := ⟨wr.heap.size, 0, none⟩) (by simp <;> omega) (.int .i64 y.id)).far (p := ⟨wr.heap.size, 1, none⟩) (by simp <;> omega) (.int .i64 y.w)).far (p := ⟨wr.heap.size, 2, none⟩) (by simp <;> omega) (.int .i64 y.h)).far (p := ⟨wr.heap.size, 3, none⟩) (by simp <;> omega) (.int .i64 y.d)).far (p := ⟨wr.heap.size, 4, none⟩) (by simp <;> omega) (.int .i64 y.gram)).far (p := ⟨wr.heap.size, 5, none⟩) (by simp <;> omega) (.int .i64 y.cls)).far (p := ⟨wr.heap.size, 6, none⟩) (by simp <;> omega) (.int .i64 y.cnt))
           have PO3 := hide (((((((PO2.out.far (p := ⟨wr.heap.size, 0, none⟩) (by simp <;> omega) (.int .i64 y.id)).far (p := ⟨wr.heap.size, 1, none⟩) (by simp <;> omega) (.int .i64 y.w)).far (p := ⟨wr.heap.size, 2, none⟩) (by simp <;> omega) (.int .i64 y.h)).far (p := ⟨wr.heap.size, 3, none⟩) (by simp <;> omega) (.int .i64 y.d)).far (p := ⟨wr.heap.size, 4, none⟩) (by simp <;> omega) (.int .i64 y.gram)).far (p := ⟨wr.heap.size, 5, none⟩) (by simp <;> omega) (.int .i64 y.cls)).far (p := ⟨wr.heap.size, 6, none⟩) (by simp <;> omega) (.int .i64 y.cnt))
           have PL3 := hide (((((((PL2.out.far (p := ⟨wr.heap.size, 0, none⟩) (by simp <;> omega) (.int .i64 y.id)).far (p := ⟨wr.heap.size, 1, none⟩) (by simp <;> omega) (.int .i64 y.w)).far (p := ⟨wr.heap.size, 2, none⟩) (by simp <;> omega) (.int .i64 y.h)).far (p := ⟨wr.heap.size, 3, none⟩) (by simp <;> omega) (.int .i64 y.d)).far (p := ⟨wr.heap.size, 4, none⟩) (by simp <;> omega) (.int .i64 y.gram)).far (p := ⟨wr.heap.size, 5, none⟩) (by simp <;> omega) (.int .i64 y.cls)).far (p := ⟨wr.heap.size, 6, none⟩) (by simp <;> omega) (.int .i64 y.cnt))
           have L3 := hide (show Below w.heap.size w (((((((w2.setCell ⟨wr.heap.size, 0, none⟩ (.int .i64 y.id)).setCell ⟨wr.heap.size, 1, none⟩ (.int .i64 y.w)).setCell ⟨wr.heap.size, 2, none⟩ (.int .i64 y.h)).setCell ⟨wr.heap.size, 3, none⟩ (.int .i64 y.d)).setCell ⟨wr.heap.size, 4, none⟩ (.int .i64 y.gram)).setCell ⟨wr.heap.size, 5, none⟩ (.int .i64 y.cls)).setCell ⟨wr.heap.size, 6, none⟩ (.int .i64 y.cnt)) from (by repeat (first | with_reducible exact Below.refl _ _ | with_reducible assumption | with_reducible refine Below.setCell ?_ (by (try simp) <;> omega) _ | with_reducible refine Below.alloc ?_ (by (try simp) <;> omega) _ | with_reducible refine Below.drew ?_ | with_reducible refine below_drewN ?_ _ | with_reducible exact L2.out | with_reducible refine Below.trans ?_ (Below.mono L2.out (by (try simp) <;> omega)))))
           obtain ⟨w3, hw3⟩ : ∃ w3, (((((((w2.setCell ⟨wr.heap.size, 0, none⟩ (.int .i64 y.id)).setCell ⟨wr.heap.size, 1, none⟩ (.int .i64 y.w)).setCell ⟨wr.heap.size, 2, none⟩ (.int .i64 y.h)).setCell ⟨wr.heap.size, 3, none⟩ (.int .i64 y.d)).setCell ⟨wr.heap.size, 4, none⟩ (.int .i64 y.gram)).setCell ⟨wr.heap.size, 5, none⟩ (.int .i64 y.cls)).setCell ⟨wr.heap.size, 6, none⟩ (.int .i64 y.cnt)) = w3 := ⟨_, rfl⟩
           obtain ⟨X, hX⟩ : ∃ X, wr.heap.size = X := ⟨_, rfl⟩
           rw [hw3] at PX3 PR3 PO3 PL3 L3 ⊢
           rw [hX] at PX3 ⊢
           have hX1 : w.heap.size + 1 + 1 < X := by omega)
        | (have PX3 := hide (Blk.new w2 63 #[.int .i64 y.id, .int .i64 y.w, .int .i64 y.h, .int .i64 y.d, .int .i64 y.gram, .int .i64 y.cls, .int .i64 y.cnt] (g := w2.heap.size) rfl)
           have PR3 := hide (PR2.out.alloc (.cells #[.int .i64 y.id, .int .i64 y.w, .int .i64 y.h, .int .i64 y.d, .int .i64 y.gram, .int .i64 y.cls, .int .i64 y.cnt] 63))
           have PO3 := hide (PO2.out.alloc (.cells #[.int .i64 y.id, .int .i64 y.w, .int .i64 y.h, .int .i64 y.d, .int .i64 y.gram, .int .i64 y.cls, .int .i64 y.cnt] 63))
           have PL3 := hide (PL2.out.alloc (.cells #[.int .i64 y.id, .int .i64 y.w, .int .i64 y.h, .int .i64 y.d, .int .i64 y.gram, .int .i64 y.cls, .int .i64 y.cnt] 63))
           have L3 := hide (show Below w.heap.size w (w2.alloc (.cells #[.int .i64 y.id, .int .i64 y.w, .int .i64 y.h, .int .i64 y.d, .int .i64 y.gram, .int .i64 y.cls, .int .i64 y.cnt] 63)) from (by repeat (first | with_reducible exact Below.refl _ _ | with_reducible assumption | with_reducible refine Below.setCell ?_ (by (try simp) <;> omega) _ | with_reducible refine Below.alloc ?_ (by (try simp) <;> omega) _ | with_reducible refine Below.drew ?_ | with_reducible refine below_drewN ?_ _ | with_reducible exact L2.out | with_reducible refine Below.trans ?_ (Below.mono L2.out (by (try simp) <;> omega)))))
           obtain ⟨w3, hw3⟩ : ∃ w3, w2.alloc (.cells #[.int .i64 y.id, .int .i64 y.w, .int .i64 y.h, .int .i64 y.d, .int .i64 y.gram, .int .i64 y.cls, .int .i64 y.cnt] 63) = w3 := ⟨_, rfl⟩
           obtain ⟨X, hX⟩ : ∃ X, w2.heap.size = X := ⟨_, rfl⟩
           rw [hw3] at PX3 PR3 PO3 PL3 L3 ⊢
           rw [hX] at PX3 ⊢
           have hX1 : w.heap.size + 1 + 1 < X := by omega)
        | trace_state
      all_goals clear PR2 PO2 PL2 L2 hw3 BB hcc
      all_goals have kX := PX3.out.cell
      all_goals have yX := PX3.out.lt
      all_goals have kL := PL3.out.cell
      all_goals have fL := PL3.out.frozen
      all_goals have yL := PL3.out.lt
      all_goals have e5 : X ≠ w.heap.size + 1 + 1 := by omega
      all_goals have e6 : w.heap.size + 1 + 1 ≠ X := by omega
      all_goals have h1 : -9223372036854775808 ≤ V + vol y.w y.h y.d := by omega
      all_goals have h2 : V + vol y.w y.h y.d ≤ 9223372036854775807 := by omega
      all_goals have h3 : -9223372036854775808 ≤ G + y.gram := by omega
      all_goals have h4 : G + y.gram ≤ 9223372036854775807 := by omega
      all_goals go_wp2_with fail
      all_goals skip
      all_goals (
         refine wp_region_held_drew (S := (fun w' => w'.cell? ⟨X, 1, none⟩ = some (.int .i64 y.w) ∧ w'.cell? ⟨X, 2, none⟩ = some (.int .i64 y.h) ∧ w'.cell? ⟨X, 3, none⟩ = some (.int .i64 y.d))) (by kernel_rfl) ?hS0 (fun hHeld => ?_)
         case hS0 => (go_keep)
         refine wpAnyH_take (i := 0) (v := ?_) rfl (by kernel_rfl) (by kernel_rfl) (by kernel_rfl) (fun _ _ _ h => h) (Or.inl ⟨by rfl, ?_⟩) (by assumption) ?_
         rotate_left 1
         · intro w hSw
           try dsimp only at hSw
           go_simp
           try with_reducible rfl
         simp only [Act.put, List.getElem_toArray, List.getElem_cons_succ, List.getElem_cons_zero, List.setIfInBounds_toArray, List.set_cons_zero, List.set_cons_succ]
         refine wpAnyH_take (i := 2) (v := ?_) rfl (by kernel_rfl) (by kernel_rfl) (by kernel_rfl) (fun _ _ _ h => h) (Or.inl ⟨by rfl, ?_⟩) (by assumption) ?_
         rotate_left 1
         · intro w hSw
           try dsimp only at hSw
           go_simp
           try with_reducible rfl
         simp only [Act.put, List.getElem_toArray, List.getElem_cons_succ, List.getElem_cons_zero, List.setIfInBounds_toArray, List.set_cons_zero, List.set_cons_succ]
         refine wpAnyH_take (i := 4) (v := ?_) rfl (by kernel_rfl) (by kernel_rfl) (by kernel_rfl) (fun _ _ _ h => h) (Or.inl ⟨by rfl, ?_⟩) (by assumption) ?_
         rotate_left 1
         · intro w hSw
           try dsimp only at hSw
           go_simp
           try with_reducible rfl
         simp only [Act.put, List.getElem_toArray, List.getElem_cons_succ, List.getElem_cons_zero, List.setIfInBounds_toArray, List.set_cons_zero, List.set_cons_succ]
         refine wpAnyH_take (i := 6) (v := ?_) rfl (by kernel_rfl) (by kernel_rfl) (by kernel_rfl) (fun _ _ _ h => h) (Or.inl ⟨by rfl, ?_⟩) (by assumption) ?_
         rotate_left 1
         · intro w hSw
           try dsimp only at hSw
           go_simp
           try with_reducible rfl
         simp only [Act.put, List.getElem_toArray, List.getElem_cons_succ, List.getElem_cons_zero, List.setIfInBounds_toArray, List.set_cons_zero, List.set_cons_succ]
         refine wpAnyH_take (i := 3) (v := ?_) rfl (by kernel_rfl) (by kernel_rfl) (by kernel_rfl) (fun _ _ _ h => h) (Or.inl ⟨by rfl, ?_⟩) (by assumption) ?_
         rotate_left 1
         · intro w hSw
           try dsimp only at hSw
           go_simp
           try with_reducible rfl
         simp only [Act.put, List.getElem_toArray, List.getElem_cons_succ, List.getElem_cons_zero, List.setIfInBounds_toArray, List.set_cons_zero, List.set_cons_succ]
         refine wpAnyH_take (i := 5) (v := ?_) rfl (by kernel_rfl) (by kernel_rfl) (by kernel_rfl) (fun _ _ _ h => h) (Or.inl ⟨by rfl, ?_⟩) (by assumption) ?_
         rotate_left 1
         · intro w hSw
           try dsimp only at hSw
           go_simp
           try with_reducible rfl
         simp only [Act.put, List.getElem_toArray, List.getElem_cons_succ, List.getElem_cons_zero, List.setIfInBounds_toArray, List.set_cons_zero, List.set_cons_succ]
         refine wpAnyH_take (i := 7) (v := ?_) rfl (by kernel_rfl) (by kernel_rfl) (by kernel_rfl) (fun _ _ _ h => h) (Or.inl ⟨by rfl, ?_⟩) (by assumption) ?_
         rotate_left 1
         · intro w hSw
           try dsimp only at hSw
           go_simp
           try with_reducible rfl
         simp only [Act.put, List.getElem_toArray, List.getElem_cons_succ, List.getElem_cons_zero, List.setIfInBounds_toArray, List.set_cons_zero, List.set_cons_succ]
         refine wpAnyH_ready (rs := [1, 8]) (by kernel_rfl) (by simp) ?_
         refine AllReadyH.cons rfl (fun K hK => ?_) ?_
         · skip
           go_simp
           refine hK.out _ _ ?hS1 (fun hHeld => ?_)
           case hS1 => (try dsimp only); (go_keep)
           clear hK K
           try simp only [Act.put, List.getElem_toArray, List.getElem_cons_succ, List.getElem_cons_zero, List.setIfInBounds_toArray, List.set_cons_zero, List.set_cons_succ]
           refine wpAnyH_ready (rs := [8]) (by kernel_rfl) (by simp) ?_
           refine AllReadyH.cons rfl (fun K hK => ?_) AllReadyH.nil
           go_simp
           go_at_call 82
           (with_reducible refine (svol_any _ _ _ _).mono ?_); rintro e w' ⟨rfl, rfl⟩
           go_wp2_with fail
           refine hK.out _ _ ?hS1 (fun hHeld => ?_)
           case hS1 => (try dsimp only); (go_keep)
           clear hK K
           try simp only [Act.put, List.getElem_toArray, List.getElem_cons_succ, List.getElem_cons_zero, List.setIfInBounds_toArray, List.set_cons_zero, List.set_cons_succ]
           refine wpAnyH_take (i := 9) (v := ?_) rfl (by kernel_rfl) (by kernel_rfl) (by kernel_rfl) (fun _ _ _ h => h) (Or.inl ⟨by rfl, ?_⟩) (by assumption) ?_
           rotate_left 1
           · intro w hSw
             try dsimp only at hSw
             go_simp
             try with_reducible rfl
           simp only [Act.put, List.getElem_toArray, List.getElem_cons_succ, List.getElem_cons_zero, List.setIfInBounds_toArray, List.set_cons_zero, List.set_cons_succ]
           refine wpAnyH_take (i := 10) (v := ?_) rfl (by kernel_rfl) (by kernel_rfl) (by kernel_rfl) (fun _ _ _ h => h) (Or.inl ⟨by rfl, ?_⟩) (by assumption) ?_
           rotate_left 1
           · intro w hSw
             try dsimp only at hSw
             go_simp
             try with_reducible rfl
           simp only [Act.put, List.getElem_toArray, List.getElem_cons_succ, List.getElem_cons_zero, List.setIfInBounds_toArray, List.set_cons_zero, List.set_cons_succ]
           refine wpAnyH_ready (rs := [11]) (by kernel_rfl) (by simp) ?_
           refine AllReadyH.cons rfl (fun K hK => ?_) AllReadyH.nil
           go_simp
           refine hK.out _ _ ?hS1 (fun hHeld => ?_)
           case hS1 => (try dsimp only); (go_keep)
           clear hK K
           try simp only [Act.put, List.getElem_toArray, List.getElem_cons_succ, List.getElem_cons_zero, List.setIfInBounds_toArray, List.set_cons_zero, List.set_cons_succ]
           refine wpAnyH_done (by kernel_rfl) ?_ _
           go_wp2
           go_roundw
           case rel => exact ⟨k + 1, by omega, by go_num, (by repeat (first | with_reducible exact PR3.out | with_reducible refine Blk.far ?_ (by simp <;> omega) _ | with_reducible refine Blk.drew ?_)), (by repeat (first | with_reducible exact PO3.out | with_reducible refine Blk.far ?_ (by simp <;> omega) _ | with_reducible refine Blk.drew ?_)), (by refine Blk.as (Blk.set_ (Blk.set_ PL3.out.drew 0 _) 1 _) ?_; rw [hsv.out, hsg.out, HVV.out, HGG.out, HY.out]; rfl), (by repeat (first | with_reducible exact Below.refl _ _ | with_reducible assumption | with_reducible refine Below.setCell ?_ (by (try simp) <;> omega) _ | with_reducible refine Below.alloc ?_ (by (try simp) <;> omega) _ | with_reducible refine Below.drew ?_ | with_reducible refine below_drewN ?_ _ | with_reducible exact L3.out | with_reducible refine Below.trans ?_ (Below.mono L3.out (by (try simp) <;> omega))))⟩
           case measure => simp [intOf]; omega
         refine AllReadyH.cons rfl (fun K hK => ?_) ?_
         · skip
           go_simp
           go_at_call 82
           (with_reducible refine (svol_any _ _ _ _).mono ?_); rintro e w' ⟨rfl, rfl⟩
           go_wp2_with fail
           refine hK.out _ _ ?hS1 (fun hHeld => ?_)
           case hS1 => (try dsimp only); (go_keep)
           clear hK K
           try simp only [Act.put, List.getElem_toArray, List.getElem_cons_succ, List.getElem_cons_zero, List.setIfInBounds_toArray, List.set_cons_zero, List.set_cons_succ]
           refine wpAnyH_ready (rs := [1]) (by kernel_rfl) (by simp) ?_
           refine AllReadyH.cons rfl (fun K hK => ?_) AllReadyH.nil
           go_simp
           refine hK.out _ _ ?hS1 (fun hHeld => ?_)
           case hS1 => (try dsimp only); (go_keep)
           clear hK K
           try simp only [Act.put, List.getElem_toArray, List.getElem_cons_succ, List.getElem_cons_zero, List.setIfInBounds_toArray, List.set_cons_zero, List.set_cons_succ]
           refine wpAnyH_take (i := 9) (v := ?_) rfl (by kernel_rfl) (by kernel_rfl) (by kernel_rfl) (fun _ _ _ h => h) (Or.inl ⟨by rfl, ?_⟩) (by assumption) ?_
           rotate_left 1
           · intro w hSw
             try dsimp only at hSw
             go_simp
             try with_reducible rfl
           simp only [Act.put, List.getElem_toArray, List.getElem_cons_succ, List.getElem_cons_zero, List.setIfInBounds_toArray, List.set_cons_zero, List.set_cons_succ]
           refine wpAnyH_take (i := 10) (v := ?_) rfl (by kernel_rfl) (by kernel_rfl) (by kernel_rfl) (fun _ _ _ h => h) (Or.inl ⟨by rfl, ?_⟩) (by assumption) ?_
           rotate_left 1
           · intro w hSw
             try dsimp only at hSw
             go_simp
             try with_reducible rfl
           simp only [Act.put, List.getElem_toArray, List.getElem_cons_succ, List.getElem_cons_zero, List.setIfInBounds_toArray, List.set_cons_zero, List.set_cons_succ]
           refine wpAnyH_ready (rs := [11]) (by kernel_rfl) (by simp) ?_
           refine AllReadyH.cons rfl (fun K hK => ?_) AllReadyH.nil
           go_simp
           refine hK.out _ _ ?hS1 (fun hHeld => ?_)
           case hS1 => (try dsimp only); (go_keep)
           clear hK K
           try simp only [Act.put, List.getElem_toArray, List.getElem_cons_succ, List.getElem_cons_zero, List.setIfInBounds_toArray, List.set_cons_zero, List.set_cons_succ]
           refine wpAnyH_done (by kernel_rfl) ?_ _
           go_wp2
           go_roundw
           case rel => exact ⟨k + 1, by omega, by go_num, (by repeat (first | with_reducible exact PR3.out | with_reducible refine Blk.far ?_ (by simp <;> omega) _ | with_reducible refine Blk.drew ?_)), (by repeat (first | with_reducible exact PO3.out | with_reducible refine Blk.far ?_ (by simp <;> omega) _ | with_reducible refine Blk.drew ?_)), (by refine Blk.as (Blk.set_ (Blk.set_ PL3.out.drew 0 _) 1 _) ?_; rw [hsv.out, hsg.out, HVV.out, HGG.out, HY.out]; rfl), (by repeat (first | with_reducible exact Below.refl _ _ | with_reducible assumption | with_reducible refine Below.setCell ?_ (by (try simp) <;> omega) _ | with_reducible refine Below.alloc ?_ (by (try simp) <;> omega) _ | with_reducible refine Below.drew ?_ | with_reducible refine below_drewN ?_ _ | with_reducible exact L3.out | with_reducible refine Below.trans ?_ (Below.mono L3.out (by (try simp) <;> omega))))⟩
           case measure => simp [intOf]; omega
         exact AllReadyH.nil)
    · have hge : n ≤ k := by omega
      clear hlt
      have HT := hide (show us.take k = us from List.take_of_length_le (by rw [HL.out]; exact hge))
      go_wp2
      have PF := ((PO.out.set_ 0 (.int .i64 (volU r (us.take k)))).set_ 1 (.int .i64 (gramU r (us.take k))))
      simp only [List.setIfInBounds_toArray, List.set_cons_zero, List.set_cons_succ] at PF
      refine ret_cell Tryz.results81 rfl PF Tryz.underlying101 rfl (by kernel_rfl) rfl ?_
      exact ⟨by rw [HT.out], (by repeat (first | with_reducible exact Below.refl _ _ | with_reducible assumption | with_reducible refine Below.setCell ?_ (by (try simp) <;> omega) _ | with_reducible refine Below.alloc ?_ (by (try simp) <;> omega) _ | with_reducible refine Below.drew ?_ | with_reducible refine below_drewN ?_ _ | with_reducible exact HBel.out | with_reducible refine Below.trans ?_ (Below.mono HBel.out (by (try simp) <;> omega))))⟩
end Go.Proofs.YtehgdhekiogppaaGreat
