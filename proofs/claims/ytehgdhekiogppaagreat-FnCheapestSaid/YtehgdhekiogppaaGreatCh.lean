/- Cheapest of both. -/
import Derived.Test.YtehgdhekiogppaaGreatSHo
namespace Go.Proofs.YtehgdhekiogppaaGreat
open Go.ChangeShapes Go.WideShapes Go.ChangeAt Go.RowKit Go.Deep
set_option linter.unusedVariables false
set_option linter.unusedSimpArgs false

def betterB (a b : Ty) : Bool := decide (a.cost < b.cost) || (decide (a.cost = b.cost) && decide (a.id < b.id))
def chStep (r : Rq) (us : List Int) (o : Option Ty) (t : Ty) : Option Ty := if holdsB r us t then (match o with | none => some t | some b => if betterB t b then some t else some b) else o
/-- The cheapest of the types that hold the units. -/
def cheapL (r : Rq) (us : List Int) (ts : List Ty) : Option Ty := ts.foldl (chStep r us) none
theorem cheap_snoc {r : Rq} {us : List Int} {ts : List Ty} {k : Nat} {t : Ty} (h : ts[k]? = some t) : cheapL r us (ts.take (k + 1)) = chStep r us (cheapL r us (ts.take k)) t := by
  unfold cheapL
  rw [List.take_add_one, h, List.foldl_append]
  rfl
theorem Blk.put7 {w : World} {g : Nat} {T : TypeId} {a0 a1 a2 a3 a4 a5 a6 : Value} (h : Blk w g T #[a0, a1, a2, a3, a4, a5, a6]) (v0 v1 v2 v3 v4 v5 v6 : Value) :
    Blk (((((((w.setCell ⟨g, 0, none⟩ v0).setCell ⟨g, 1, none⟩ v1).setCell ⟨g, 2, none⟩ v2).setCell ⟨g, 3, none⟩ v3).setCell ⟨g, 4, none⟩ v4).setCell ⟨g, 5, none⟩ v5).setCell ⟨g, 6, none⟩ v6) g T #[v0, v1, v2, v3, v4, v5, v6] := by
  have h' := (((((((h.set_ 0 v0).set_ 1 v1).set_ 2 v2).set_ 3 v3).set_ 4 v4).set_ 5 v5).set_ 6 v6)
  simp only [List.setIfInBounds_toArray, List.set_cons_zero, List.set_cons_succ] at h'
  exact h'
theorem ch_no {r : Rq} {us : List Int} {t : Ty} {o : Option Ty} (h : holdsB r us t = false) : chStep r us o t = o := by simp [chStep, h]
theorem ch_first {r : Rq} {us : List Int} {t : Ty} (h : holdsB r us t = true) : chStep r us none t = some t := by simp [chStep, h]
theorem ch_better {r : Rq} {us : List Int} {t b : Ty} (h : holdsB r us t = true) (hb : betterB t b = true) : chStep r us (some b) t = some t := by simp [chStep, h, hb]
theorem ch_worse {r : Rq} {us : List Int} {t b : Ty} (h : holdsB r us t = true) (hb : betterB t b = false) : chStep r us (some b) t = some b := by simp [chStep, h, hb]
set_option maxRecDepth 20000 in
set_option maxHeartbeats 4000000 in
theorem cheap_any (r : Rq) (A1 A2 A3 : Option Addr) (n1 n2 n3 c1 c2 c3 : Nat) (lo hi : Nat) (lo2 hi2 : Nat) (A : Option Addr) (n c : Nat) (us : List Int) (w : World) (hr : RqAt w lo hi r A1 n1 c1 A2 n2 c2 A3 n3 c3) (hB : hi ≤ w.heap.size) (hs : SlK 1 encInt w lo2 hi2 A n c us) (hB2 : hi2 ≤ w.heap.size) (hn : n ≤ 1048580) :
    Calls Tryz.prog 17 #[.agg #[.int .i64 r.way, .int .i64 r.pal.w, .int .i64 r.pal.d, .int .i64 r.pal.h, .int .i64 r.pal.gram, .int .i64 r.cls, .slice A1 n1 c1, .slice A2 n2 c2, .int .i64 r.master, .slice A3 n3 c3], .slice A n c] w fun e w' => e = .returned (.tuple #[.agg #[.int .i64 (tyD (cheapL r us r.types)).id, .int .i64 (tyD (cheapL r us r.types)).w, .int .i64 (tyD (cheapL r us r.types)).h, .int .i64 (tyD (cheapL r us r.types)).d, .int .i64 (tyD (cheapL r us r.types)).tare, .int .i64 (tyD (cheapL r us r.types)).gram, .int .i64 (tyD (cheapL r us r.types)).cost], .bool (cheapL r us r.types).isSome]) ∧ Below w.heap.size w w' := by
  have HR := hide hr
  have HS := hide hs
  have HL := hide hr.ty.len
  have hm2 := hr.ty.max
  have hc2 := hr.ty.cap
  have HH0 := hide (holds_any r A1 A2 A3 n1 n2 n3 c1 c2 c3 lo hi lo2 hi2 A n c us)
  clear hr hs
  obtain ⟨RL, hRL⟩ : ∃ RL : Array Value, RL = #[.int .i64 r.way, .int .i64 r.pal.w, .int .i64 r.pal.d, .int .i64 r.pal.h, .int .i64 r.pal.gram, .int .i64 r.cls, .slice A1 n1 c1, .slice A2 n2 c2, .int .i64 r.master, .slice A3 n3 c3] := ⟨_, rfl⟩
  have HRL := hide hRL
  clear hRL
  go_enter Tryz.func17, Tryz.ntmps17
  go_wp2
  go_loopw [7, 14] (fun f i wr => ∃ k : Nat, ∃ o : Option Ty, ∃ b : Ty, k ≤ n2 ∧ i = .int .i64 k ∧ cheapL r us (r.types.take k) = o ∧ f = .bool o.isSome ∧ b = tyD o ∧ Blk wr w.heap.size 37 RL ∧ Blk wr (w.heap.size + 1) 48 #[.int .i64 0, .int .i64 0, .int .i64 0, .int .i64 0, .int .i64 0, .int .i64 0, .int .i64 0] ∧ Blk wr (w.heap.size + 1 + 1) 48 #[.int .i64 b.id, .int .i64 b.w, .int .i64 b.h, .int .i64 b.d, .int .i64 b.tare, .int .i64 b.gram, .int .i64 b.cost] ∧ Below w.heap.size w wr) (fun _ i _ => n2 - (intOf i).toNat)
  case atStart => exact ⟨0, none, ty0, Nat.zero_le _, rfl, rfl, rfl, rfl, (((Blk.new w _ _ rfl).alloc _).alloc _).as HRL.out.symm, (Blk.new (w.alloc _) _ _ (by simp)).alloc _, Blk.new ((w.alloc _).alloc _) _ _ (by simp), (by repeat (first | with_reducible exact Below.refl _ _ | with_reducible assumption | with_reducible refine Below.setCell ?_ (by (try simp) <;> omega) _ | with_reducible refine Below.alloc ?_ (by (try simp) <;> omega) _ | with_reducible refine Below.drew ?_ | with_reducible refine below_drewN ?_ _))⟩
  case round =>
    obtain ⟨k, o, b, hk, rfl, ho, rfl, hbo, B0, B1, B2, hbel⟩ := hrel
    have HO := hide ho
    have HBO := hide hbo
    have HBel := hide hbel
    have PR := hide B0
    have PO := hide B1
    have PB := hide B2
    have kR := (B0.as HRL.out).cell
    have yR := B0.lt
    have kB := B2.cell
    have fB := B2.frozen
    have yB := B2.lt
    have kO := B1.cell
    have fO := B1.frozen
    have yO := B1.lt
    have hz := hbel.size
    clear ho hbo B0 B1 B2 hbel
    by_cases hlt : k < n2
    · obtain ⟨b0, off, t, hx, q, _, hb, d0, d1, d2, d3, d4, d5, d6, _⟩ := (HR.out.ty.below HBel.out hB).ty hlt
      subst q
      have HX := hide hx
      have hsn := hide (cheap_snoc (r := r) (us := us) hx)
      have HH := hide (HH0.out t)
      have i0 : (0 : Int) ≤ (k : Int) := by omega
      have i1 : (k : Int) < (n2 : Int) := by omega
      have z0 : b0 < wr.heap.size := by omega
      clear hx
      obtain ⟨h, hh⟩ : ∃ h, holdsB r us t = h := ⟨_, rfl⟩
      have HHH := hide hh
      rw [hh] at HH
      clear hh
      go_wp2_with fail
      refine (HH.out _ (HR.out.below (B := w.heap.size) (by repeat (first | with_reducible exact Below.refl _ _ | with_reducible assumption | with_reducible refine Below.setCell ?_ (by (try simp) <;> omega) _ | with_reducible refine Below.alloc ?_ (by (try simp) <;> omega) _ | with_reducible refine Below.drew ?_ | with_reducible refine below_drewN ?_ _ | with_reducible exact HBel.out | with_reducible refine Below.trans ?_ (Below.mono HBel.out (by (try simp) <;> omega)))) hB) (by (try simp) <;> omega) (HS.out.below (B := w.heap.size) (by repeat (first | with_reducible exact Below.refl _ _ | with_reducible assumption | with_reducible refine Below.setCell ?_ (by (try simp) <;> omega) _ | with_reducible refine Below.alloc ?_ (by (try simp) <;> omega) _ | with_reducible refine Below.drew ?_ | with_reducible refine below_drewN ?_ _ | with_reducible exact HBel.out | with_reducible refine Below.trans ?_ (Below.mono HBel.out (by (try simp) <;> omega)))) hB2) (by (try simp) <;> omega) hn).mono ?_
      rintro e w4 ⟨rfl, hb4⟩
      have PR4 := hide (Blk.belowH (PR.out.alloc _) hb4)
      have PO4 := hide (Blk.belowH (PO.out.alloc _) hb4)
      have PB4 := hide (Blk.belowH (PB.out.alloc _) hb4)
      have PT4 := hide (Blk.belowH (Blk.new wr 48 #[.int .i64 t.id, .int .i64 t.w, .int .i64 t.h, .int .i64 t.d, .int .i64 t.tare, .int .i64 t.gram, .int .i64 t.cost] (g := wr.heap.size) rfl) hb4)
      have L4 := hide (show Below w.heap.size w w4 from (by repeat (first | with_reducible exact Below.refl _ _ | with_reducible assumption | with_reducible refine Below.setCell ?_ (by (try simp) <;> omega) _ | with_reducible refine Below.alloc ?_ (by (try simp) <;> omega) _ | with_reducible refine Below.drew ?_ | with_reducible refine below_drewN ?_ _ | with_reducible exact HBel.out | with_reducible exact hb4 | with_reducible refine Below.trans ?_ (Below.mono HBel.out (by (try simp) <;> omega)) | with_reducible refine Below.trans ?_ (Below.mono hb4 (by (try simp) <;> omega)))))
      have z4 : wr.heap.size < w4.heap.size := PT4.out.lt
      clear hb4 kR kB kO fB fO
      cases h
      · have HN := hide (show cheapL r us (r.types.take (k + 1)) = o by rw [hsn.out, HO.out, ch_no HHH.out])
        go_wp2
        go_roundw
        case rel => exact ⟨k + 1, o, b, by omega, by go_num, HN.out, rfl, HBO.out, PR4.out, PO4.out, PB4.out, L4.out⟩
        case measure => simp [intOf]; omega
      have kT := PT4.out.cell
      have yT := PT4.out.lt
      have kB := PB4.out.cell
      have fB := PB4.out.frozen
      have yB4 := PB4.out.lt
      have e1 : w.heap.size + 1 + 1 ≠ wr.heap.size := by omega
      have e2 : wr.heap.size ≠ w.heap.size + 1 + 1 := by omega
      rcases o with _ | b'
      · have HN := hide (show cheapL r us (r.types.take (k + 1)) = some t by rw [hsn.out, HO.out, ch_first HHH.out])
        go_wp2_with fail
        try go_quiet (fail)
        go_wp2
        go_roundw
        case rel =>
          refine ⟨k + 1, some t, t, by omega, by go_num, HN.out, rfl, rfl, ?_, ?_, ?_, ?_⟩
          · exact (by repeat (first | with_reducible exact PR4.out | with_reducible refine Blk.far ?_ (by simp <;> omega) _ | with_reducible refine Blk.drew ?_ | with_reducible refine Blk.drewN ?_ _))
          · exact (by repeat (first | with_reducible exact PO4.out | with_reducible refine Blk.far ?_ (by simp <;> omega) _ | with_reducible refine Blk.drew ?_ | with_reducible refine Blk.drewN ?_ _))
          · exact Blk.put7 (by (first | with_reducible exact PB4.out | with_reducible exact PB4.out.drewN _ | with_reducible exact PB4.out.drew)) _ _ _ _ _ _ _
          · exact (by repeat (first | with_reducible exact Below.refl _ _ | with_reducible assumption | with_reducible refine Below.setCell ?_ (by (try simp) <;> omega) _ | with_reducible refine Below.alloc ?_ (by (try simp) <;> omega) _ | with_reducible refine Below.drew ?_ | with_reducible refine below_drewN ?_ _ | with_reducible exact L4.out | with_reducible refine Below.trans ?_ (Below.mono L4.out (by (try simp) <;> omega))))
        case measure => simp [intOf]; omega
      · obtain rfl : b = b' := HBO.out
        by_cases c1' : t.cost < b.cost
        · have d1 : decide (t.cost < b.cost) = true := by simpa using c1'
          have HN := hide (show cheapL r us (r.types.take (k + 1)) = some t by rw [hsn.out, HO.out, ch_better HHH.out (by simp [betterB, c1'])])
          go_wp2_with fail
          try go_quiet (fail)
          go_wp2
          go_roundw
          case rel =>
            refine ⟨k + 1, some t, t, by omega, by go_num, HN.out, rfl, rfl, ?_, ?_, ?_, ?_⟩
            · exact (by repeat (first | with_reducible exact PR4.out | with_reducible refine Blk.far ?_ (by simp <;> omega) _ | with_reducible refine Blk.drew ?_ | with_reducible refine Blk.drewN ?_ _))
            · exact (by repeat (first | with_reducible exact PO4.out | with_reducible refine Blk.far ?_ (by simp <;> omega) _ | with_reducible refine Blk.drew ?_ | with_reducible refine Blk.drewN ?_ _))
            · exact Blk.put7 (by (first | with_reducible exact PB4.out | with_reducible exact PB4.out.drewN _ | with_reducible exact PB4.out.drew)) _ _ _ _ _ _ _
            · exact (by repeat (first | with_reducible exact Below.refl _ _ | with_reducible assumption | with_reducible refine Below.setCell ?_ (by (try simp) <;> omega) _ | with_reducible refine Below.alloc ?_ (by (try simp) <;> omega) _ | with_reducible refine Below.drew ?_ | with_reducible refine below_drewN ?_ _ | with_reducible exact L4.out | with_reducible refine Below.trans ?_ (Below.mono L4.out (by (try simp) <;> omega))))
          case measure => simp [intOf]; omega
        · have d1 : decide (t.cost < b.cost) = false := by simpa using c1'
          by_cases c2' : t.cost = b.cost
          · have d2 : (t.cost == b.cost) = true := by simpa using c2'
            by_cases c3' : t.id < b.id
            · have d3 : decide (t.id < b.id) = true := by simpa using c3'
              have HN := hide (show cheapL r us (r.types.take (k + 1)) = some t by rw [hsn.out, HO.out, ch_better HHH.out (by simp [betterB, c2', c3'])])
              clear c2'
              go_wp2_with fail
              try go_quiet (fail)
              go_wp2
              go_roundw
              case rel =>
                refine ⟨k + 1, some t, t, by omega, by go_num, HN.out, rfl, rfl, ?_, ?_, ?_, ?_⟩
                · exact (by repeat (first | with_reducible exact PR4.out | with_reducible refine Blk.far ?_ (by simp <;> omega) _ | with_reducible refine Blk.drew ?_ | with_reducible refine Blk.drewN ?_ _))
                · exact (by repeat (first | with_reducible exact PO4.out | with_reducible refine Blk.far ?_ (by simp <;> omega) _ | with_reducible refine Blk.drew ?_ | with_reducible refine Blk.drewN ?_ _))
                · exact Blk.put7 (by (first | with_reducible exact PB4.out | with_reducible exact PB4.out.drewN _ | with_reducible exact PB4.out.drew)) _ _ _ _ _ _ _
                · exact (by repeat (first | with_reducible exact Below.refl _ _ | with_reducible assumption | with_reducible refine Below.setCell ?_ (by (try simp) <;> omega) _ | with_reducible refine Below.alloc ?_ (by (try simp) <;> omega) _ | with_reducible refine Below.drew ?_ | with_reducible refine below_drewN ?_ _ | with_reducible exact L4.out | with_reducible refine Below.trans ?_ (Below.mono L4.out (by (try simp) <;> omega))))
              case measure => simp [intOf]; omega
            · have d3 : decide (t.id < b.id) = false := by simpa using c3'
              have HN := hide (show cheapL r us (r.types.take (k + 1)) = some b by rw [hsn.out, HO.out, ch_worse HHH.out (by simp [betterB, c1', c3'])])
              clear c2'
              go_wp2_with fail
              try go_quiet (fail)
              go_wp2
              go_roundw
              case rel => exact ⟨k + 1, some b, b, by omega, by go_num, HN.out, rfl, rfl, (by repeat (first | with_reducible exact PR4.out | with_reducible refine Blk.far ?_ (by simp <;> omega) _ | with_reducible refine Blk.drew ?_ | with_reducible refine Blk.drewN ?_ _)), (by repeat (first | with_reducible exact PO4.out | with_reducible refine Blk.far ?_ (by simp <;> omega) _ | with_reducible refine Blk.drew ?_ | with_reducible refine Blk.drewN ?_ _)), (by repeat (first | with_reducible exact PB4.out | with_reducible refine Blk.far ?_ (by simp <;> omega) _ | with_reducible refine Blk.drew ?_ | with_reducible refine Blk.drewN ?_ _)), (by repeat (first | with_reducible exact Below.refl _ _ | with_reducible assumption | with_reducible refine Below.setCell ?_ (by (try simp) <;> omega) _ | with_reducible refine Below.alloc ?_ (by (try simp) <;> omega) _ | with_reducible refine Below.drew ?_ | with_reducible refine below_drewN ?_ _ | with_reducible exact L4.out | with_reducible refine Below.trans ?_ (Below.mono L4.out (by (try simp) <;> omega))))⟩
              case measure => simp [intOf]; omega
          · have d2 : (t.cost == b.cost) = false := by simpa using c2'
            have HN := hide (show cheapL r us (r.types.take (k + 1)) = some b by rw [hsn.out, HO.out, ch_worse HHH.out (by simp [betterB, c1', c2'])])
            go_wp2_with fail
            try go_quiet (fail)
            go_wp2
            go_roundw
            case rel => exact ⟨k + 1, some b, b, by omega, by go_num, HN.out, rfl, rfl, (by repeat (first | with_reducible exact PR4.out | with_reducible refine Blk.far ?_ (by simp <;> omega) _ | with_reducible refine Blk.drew ?_ | with_reducible refine Blk.drewN ?_ _)), (by repeat (first | with_reducible exact PO4.out | with_reducible refine Blk.far ?_ (by simp <;> omega) _ | with_reducible refine Blk.drew ?_ | with_reducible refine Blk.drewN ?_ _)), (by repeat (first | with_reducible exact PB4.out | with_reducible refine Blk.far ?_ (by simp <;> omega) _ | with_reducible refine Blk.drew ?_ | with_reducible refine Blk.drewN ?_ _)), (by repeat (first | with_reducible exact Below.refl _ _ | with_reducible assumption | with_reducible refine Below.setCell ?_ (by (try simp) <;> omega) _ | with_reducible refine Below.alloc ?_ (by (try simp) <;> omega) _ | with_reducible refine Below.drew ?_ | with_reducible refine below_drewN ?_ _ | with_reducible exact L4.out | with_reducible refine Below.trans ?_ (Below.mono L4.out (by (try simp) <;> omega))))⟩
            case measure => simp [intOf]; omega
    · have hge : n2 ≤ k := by omega
      clear hlt
      have HT := hide (show cheapL r us r.types = o by rw [← HO.out, List.take_of_length_le (by rw [HL.out]; exact hge)])
      go_wp2
      have PF := (((((((PO.out.set_ 0 (.int .i64 b.id)).set_ 1 (.int .i64 b.w)).set_ 2 (.int .i64 b.h)).set_ 3 (.int .i64 b.d)).set_ 4 (.int .i64 b.tare)).set_ 5 (.int .i64 b.gram)).set_ 6 (.int .i64 b.cost))
      simp only [List.setIfInBounds_toArray, List.set_cons_zero, List.set_cons_succ] at PF
      refine ret_cell2 Tryz.results17 rfl PF Tryz.underlying48 rfl (by kernel_rfl) rfl ⟨?_, (by repeat (first | with_reducible exact Below.refl _ _ | with_reducible assumption | with_reducible refine Below.setCell ?_ (by (try simp) <;> omega) _ | with_reducible refine Below.alloc ?_ (by (try simp) <;> omega) _ | with_reducible refine Below.drew ?_ | with_reducible refine below_drewN ?_ _ | with_reducible exact HBel.out | with_reducible refine Below.trans ?_ (Below.mono HBel.out (by (try simp) <;> omega))))⟩
      rw [HT.out, ← HBO.out]
      rfl
set_option maxRecDepth 20000 in
set_option maxHeartbeats 4000000 in
theorem scheap_any (r : Rq) (A1 A2 A3 : Option Addr) (n1 n2 n3 c1 c2 c3 : Nat) (lo hi : Nat) (lo2 hi2 : Nat) (A : Option Addr) (n c : Nat) (us : List Int) (w : World) (hr : RqAt w lo hi r A1 n1 c1 A2 n2 c2 A3 n3 c3) (hB : hi ≤ w.heap.size) (hs : SlK 1 encInt w lo2 hi2 A n c us) (hB2 : hi2 ≤ w.heap.size) (hn : n ≤ 1048580) :
    Calls Tryz.prog 18 #[.agg #[.int .i64 r.way, .int .i64 r.pal.w, .int .i64 r.pal.d, .int .i64 r.pal.h, .int .i64 r.pal.gram, .int .i64 r.cls, .slice A1 n1 c1, .slice A2 n2 c2, .int .i64 r.master, .slice A3 n3 c3], .slice A n c] w fun e w' => e = .returned (.tuple #[.agg #[.int .i64 (tyD (cheapL r us r.types)).id, .int .i64 (tyD (cheapL r us r.types)).w, .int .i64 (tyD (cheapL r us r.types)).h, .int .i64 (tyD (cheapL r us r.types)).d, .int .i64 (tyD (cheapL r us r.types)).tare, .int .i64 (tyD (cheapL r us r.types)).gram, .int .i64 (tyD (cheapL r us r.types)).cost], .bool (cheapL r us r.types).isSome]) ∧ Below w.heap.size w w' := by
  have HR := hide hr
  have HS := hide hs
  have HL := hide hr.ty.len
  have hm2 := hr.ty.max
  have hc2 := hr.ty.cap
  have HH0 := hide (sholds_any r A1 A2 A3 n1 n2 n3 c1 c2 c3 lo hi lo2 hi2 A n c us)
  clear hr hs
  obtain ⟨RL, hRL⟩ : ∃ RL : Array Value, RL = #[.int .i64 r.way, .int .i64 r.pal.w, .int .i64 r.pal.d, .int .i64 r.pal.h, .int .i64 r.pal.gram, .int .i64 r.cls, .slice A1 n1 c1, .slice A2 n2 c2, .int .i64 r.master, .slice A3 n3 c3] := ⟨_, rfl⟩
  have HRL := hide hRL
  clear hRL
  go_enter Tryz.func18, Tryz.ntmps18
  go_wp2
  go_loopw [7, 8] (fun f i wr => ∃ k : Nat, ∃ o : Option Ty, ∃ b : Ty, k ≤ n2 ∧ i = .int .i64 k ∧ cheapL r us (r.types.take k) = o ∧ f = .bool o.isSome ∧ b = tyD o ∧ Blk wr w.heap.size 37 RL ∧ Blk wr (w.heap.size + 1) 48 #[.int .i64 0, .int .i64 0, .int .i64 0, .int .i64 0, .int .i64 0, .int .i64 0, .int .i64 0] ∧ Blk wr (w.heap.size + 1 + 1) 48 #[.int .i64 b.id, .int .i64 b.w, .int .i64 b.h, .int .i64 b.d, .int .i64 b.tare, .int .i64 b.gram, .int .i64 b.cost] ∧ Below w.heap.size w wr) (fun _ i _ => n2 - (intOf i).toNat)
  case atStart => exact ⟨0, none, ty0, Nat.zero_le _, rfl, rfl, rfl, rfl, (((Blk.new w _ _ rfl).alloc _).alloc _).as HRL.out.symm, (Blk.new (w.alloc _) _ _ (by simp)).alloc _, Blk.new ((w.alloc _).alloc _) _ _ (by simp), (by repeat (first | with_reducible exact Below.refl _ _ | with_reducible assumption | with_reducible refine Below.setCell ?_ (by (try simp) <;> omega) _ | with_reducible refine Below.alloc ?_ (by (try simp) <;> omega) _ | with_reducible refine Below.drew ?_ | with_reducible refine below_drewN ?_ _))⟩
  case round =>
    obtain ⟨k, o, b, hk, rfl, ho, rfl, hbo, B0, B1, B2, hbel⟩ := hrel
    have HO := hide ho
    have HBO := hide hbo
    have HBel := hide hbel
    have PR := hide B0
    have PO := hide B1
    have PB := hide B2
    have kR := (B0.as HRL.out).cell
    have yR := B0.lt
    have kB := B2.cell
    have fB := B2.frozen
    have yB := B2.lt
    have kO := B1.cell
    have fO := B1.frozen
    have yO := B1.lt
    have hz := hbel.size
    clear ho hbo B0 B1 B2 hbel
    by_cases hlt : k < n2
    · obtain ⟨b0, off, t, hx, q, _, hb, d0, d1, d2, d3, d4, d5, d6, _⟩ := (HR.out.ty.below HBel.out hB).ty hlt
      subst q
      have HX := hide hx
      have hsn := hide (cheap_snoc (r := r) (us := us) hx)
      have HH := hide (HH0.out t)
      have i0 : (0 : Int) ≤ (k : Int) := by omega
      have i1 : (k : Int) < (n2 : Int) := by omega
      have z0 : b0 < wr.heap.size := by omega
      clear hx
      obtain ⟨h, hh⟩ : ∃ h, holdsB r us t = h := ⟨_, rfl⟩
      have HHH := hide hh
      rw [hh] at HH
      clear hh
      go_wp2_with fail
      refine (HH.out _ (HR.out.below (B := w.heap.size) (by repeat (first | with_reducible exact Below.refl _ _ | with_reducible assumption | with_reducible refine Below.setCell ?_ (by (try simp) <;> omega) _ | with_reducible refine Below.alloc ?_ (by (try simp) <;> omega) _ | with_reducible refine Below.drew ?_ | with_reducible refine below_drewN ?_ _ | with_reducible exact HBel.out | with_reducible refine Below.trans ?_ (Below.mono HBel.out (by (try simp) <;> omega)))) hB) (by (try simp) <;> omega) (HS.out.below (B := w.heap.size) (by repeat (first | with_reducible exact Below.refl _ _ | with_reducible assumption | with_reducible refine Below.setCell ?_ (by (try simp) <;> omega) _ | with_reducible refine Below.alloc ?_ (by (try simp) <;> omega) _ | with_reducible refine Below.drew ?_ | with_reducible refine below_drewN ?_ _ | with_reducible exact HBel.out | with_reducible refine Below.trans ?_ (Below.mono HBel.out (by (try simp) <;> omega)))) hB2) (by (try simp) <;> omega) hn).mono ?_
      rintro e w4 ⟨rfl, hb4⟩
      have PR4 := hide (Blk.belowH (PR.out.alloc _) hb4)
      have PO4 := hide (Blk.belowH (PO.out.alloc _) hb4)
      have PB4 := hide (Blk.belowH (PB.out.alloc _) hb4)
      have PT4 := hide (Blk.belowH (Blk.new wr 48 #[.int .i64 t.id, .int .i64 t.w, .int .i64 t.h, .int .i64 t.d, .int .i64 t.tare, .int .i64 t.gram, .int .i64 t.cost] (g := wr.heap.size) rfl) hb4)
      have L4 := hide (show Below w.heap.size w w4 from (by repeat (first | with_reducible exact Below.refl _ _ | with_reducible assumption | with_reducible refine Below.setCell ?_ (by (try simp) <;> omega) _ | with_reducible refine Below.alloc ?_ (by (try simp) <;> omega) _ | with_reducible refine Below.drew ?_ | with_reducible refine below_drewN ?_ _ | with_reducible exact HBel.out | with_reducible exact hb4 | with_reducible refine Below.trans ?_ (Below.mono HBel.out (by (try simp) <;> omega)) | with_reducible refine Below.trans ?_ (Below.mono hb4 (by (try simp) <;> omega)))))
      have z4 : wr.heap.size < w4.heap.size := PT4.out.lt
      clear hb4 kR kB kO fB fO
      cases h
      · have HN := hide (show cheapL r us (r.types.take (k + 1)) = o by rw [hsn.out, HO.out, ch_no HHH.out])
        go_wp2
        go_roundw
        case rel => exact ⟨k + 1, o, b, by omega, by go_num, HN.out, rfl, HBO.out, PR4.out, PO4.out, PB4.out, L4.out⟩
        case measure => simp [intOf]; omega
      have kT := PT4.out.cell
      have yT := PT4.out.lt
      have kB := PB4.out.cell
      have fB := PB4.out.frozen
      have yB4 := PB4.out.lt
      have e1 : w.heap.size + 1 + 1 ≠ wr.heap.size := by omega
      have e2 : wr.heap.size ≠ w.heap.size + 1 + 1 := by omega
      rcases o with _ | b'
      · have HN := hide (show cheapL r us (r.types.take (k + 1)) = some t by rw [hsn.out, HO.out, ch_first HHH.out])
        go_wp2_with fail
        try go_quiet (fail)
        go_wp2
        go_roundw
        case rel =>
          refine ⟨k + 1, some t, t, by omega, by go_num, HN.out, rfl, rfl, ?_, ?_, ?_, ?_⟩
          · exact (by repeat (first | with_reducible exact PR4.out | with_reducible refine Blk.far ?_ (by simp <;> omega) _ | with_reducible refine Blk.drew ?_ | with_reducible refine Blk.drewN ?_ _))
          · exact (by repeat (first | with_reducible exact PO4.out | with_reducible refine Blk.far ?_ (by simp <;> omega) _ | with_reducible refine Blk.drew ?_ | with_reducible refine Blk.drewN ?_ _))
          · exact Blk.put7 (by (first | with_reducible exact PB4.out | with_reducible exact PB4.out.drewN _ | with_reducible exact PB4.out.drew)) _ _ _ _ _ _ _
          · exact (by repeat (first | with_reducible exact Below.refl _ _ | with_reducible assumption | with_reducible refine Below.setCell ?_ (by (try simp) <;> omega) _ | with_reducible refine Below.alloc ?_ (by (try simp) <;> omega) _ | with_reducible refine Below.drew ?_ | with_reducible refine below_drewN ?_ _ | with_reducible exact L4.out | with_reducible refine Below.trans ?_ (Below.mono L4.out (by (try simp) <;> omega))))
        case measure => simp [intOf]; omega
      · obtain rfl : b = b' := HBO.out
        by_cases c1' : t.cost < b.cost
        · have d1 : decide (t.cost < b.cost) = true := by simpa using c1'
          have HN := hide (show cheapL r us (r.types.take (k + 1)) = some t by rw [hsn.out, HO.out, ch_better HHH.out (by simp [betterB, c1'])])
          go_wp2_with fail
          try go_quiet (fail)
          go_wp2
          go_roundw
          case rel =>
            refine ⟨k + 1, some t, t, by omega, by go_num, HN.out, rfl, rfl, ?_, ?_, ?_, ?_⟩
            · exact (by repeat (first | with_reducible exact PR4.out | with_reducible refine Blk.far ?_ (by simp <;> omega) _ | with_reducible refine Blk.drew ?_ | with_reducible refine Blk.drewN ?_ _))
            · exact (by repeat (first | with_reducible exact PO4.out | with_reducible refine Blk.far ?_ (by simp <;> omega) _ | with_reducible refine Blk.drew ?_ | with_reducible refine Blk.drewN ?_ _))
            · exact Blk.put7 (by (first | with_reducible exact PB4.out | with_reducible exact PB4.out.drewN _ | with_reducible exact PB4.out.drew)) _ _ _ _ _ _ _
            · exact (by repeat (first | with_reducible exact Below.refl _ _ | with_reducible assumption | with_reducible refine Below.setCell ?_ (by (try simp) <;> omega) _ | with_reducible refine Below.alloc ?_ (by (try simp) <;> omega) _ | with_reducible refine Below.drew ?_ | with_reducible refine below_drewN ?_ _ | with_reducible exact L4.out | with_reducible refine Below.trans ?_ (Below.mono L4.out (by (try simp) <;> omega))))
          case measure => simp [intOf]; omega
        · have d1 : decide (t.cost < b.cost) = false := by simpa using c1'
          by_cases c2' : t.cost = b.cost
          · have d2 : (t.cost == b.cost) = true := by simpa using c2'
            by_cases c3' : t.id < b.id
            · have d3 : decide (t.id < b.id) = true := by simpa using c3'
              have HN := hide (show cheapL r us (r.types.take (k + 1)) = some t by rw [hsn.out, HO.out, ch_better HHH.out (by simp [betterB, c2', c3'])])
              clear c2'
              go_wp2_with fail
              try go_quiet (fail)
              go_wp2
              go_roundw
              case rel =>
                refine ⟨k + 1, some t, t, by omega, by go_num, HN.out, rfl, rfl, ?_, ?_, ?_, ?_⟩
                · exact (by repeat (first | with_reducible exact PR4.out | with_reducible refine Blk.far ?_ (by simp <;> omega) _ | with_reducible refine Blk.drew ?_ | with_reducible refine Blk.drewN ?_ _))
                · exact (by repeat (first | with_reducible exact PO4.out | with_reducible refine Blk.far ?_ (by simp <;> omega) _ | with_reducible refine Blk.drew ?_ | with_reducible refine Blk.drewN ?_ _))
                · exact Blk.put7 (by (first | with_reducible exact PB4.out | with_reducible exact PB4.out.drewN _ | with_reducible exact PB4.out.drew)) _ _ _ _ _ _ _
                · exact (by repeat (first | with_reducible exact Below.refl _ _ | with_reducible assumption | with_reducible refine Below.setCell ?_ (by (try simp) <;> omega) _ | with_reducible refine Below.alloc ?_ (by (try simp) <;> omega) _ | with_reducible refine Below.drew ?_ | with_reducible refine below_drewN ?_ _ | with_reducible exact L4.out | with_reducible refine Below.trans ?_ (Below.mono L4.out (by (try simp) <;> omega))))
              case measure => simp [intOf]; omega
            · have d3 : decide (t.id < b.id) = false := by simpa using c3'
              have HN := hide (show cheapL r us (r.types.take (k + 1)) = some b by rw [hsn.out, HO.out, ch_worse HHH.out (by simp [betterB, c1', c3'])])
              clear c2'
              go_wp2_with fail
              try go_quiet (fail)
              go_wp2
              go_roundw
              case rel => exact ⟨k + 1, some b, b, by omega, by go_num, HN.out, rfl, rfl, (by repeat (first | with_reducible exact PR4.out | with_reducible refine Blk.far ?_ (by simp <;> omega) _ | with_reducible refine Blk.drew ?_ | with_reducible refine Blk.drewN ?_ _)), (by repeat (first | with_reducible exact PO4.out | with_reducible refine Blk.far ?_ (by simp <;> omega) _ | with_reducible refine Blk.drew ?_ | with_reducible refine Blk.drewN ?_ _)), (by repeat (first | with_reducible exact PB4.out | with_reducible refine Blk.far ?_ (by simp <;> omega) _ | with_reducible refine Blk.drew ?_ | with_reducible refine Blk.drewN ?_ _)), (by repeat (first | with_reducible exact Below.refl _ _ | with_reducible assumption | with_reducible refine Below.setCell ?_ (by (try simp) <;> omega) _ | with_reducible refine Below.alloc ?_ (by (try simp) <;> omega) _ | with_reducible refine Below.drew ?_ | with_reducible refine below_drewN ?_ _ | with_reducible exact L4.out | with_reducible refine Below.trans ?_ (Below.mono L4.out (by (try simp) <;> omega))))⟩
              case measure => simp [intOf]; omega
          · have d2 : (t.cost == b.cost) = false := by simpa using c2'
            have HN := hide (show cheapL r us (r.types.take (k + 1)) = some b by rw [hsn.out, HO.out, ch_worse HHH.out (by simp [betterB, c1', c2'])])
            go_wp2_with fail
            try go_quiet (fail)
            go_wp2
            go_roundw
            case rel => exact ⟨k + 1, some b, b, by omega, by go_num, HN.out, rfl, rfl, (by repeat (first | with_reducible exact PR4.out | with_reducible refine Blk.far ?_ (by simp <;> omega) _ | with_reducible refine Blk.drew ?_ | with_reducible refine Blk.drewN ?_ _)), (by repeat (first | with_reducible exact PO4.out | with_reducible refine Blk.far ?_ (by simp <;> omega) _ | with_reducible refine Blk.drew ?_ | with_reducible refine Blk.drewN ?_ _)), (by repeat (first | with_reducible exact PB4.out | with_reducible refine Blk.far ?_ (by simp <;> omega) _ | with_reducible refine Blk.drew ?_ | with_reducible refine Blk.drewN ?_ _)), (by repeat (first | with_reducible exact Below.refl _ _ | with_reducible assumption | with_reducible refine Below.setCell ?_ (by (try simp) <;> omega) _ | with_reducible refine Below.alloc ?_ (by (try simp) <;> omega) _ | with_reducible refine Below.drew ?_ | with_reducible refine below_drewN ?_ _ | with_reducible exact L4.out | with_reducible refine Below.trans ?_ (Below.mono L4.out (by (try simp) <;> omega))))⟩
            case measure => simp [intOf]; omega
    · have hge : n2 ≤ k := by omega
      clear hlt
      have HT := hide (show cheapL r us r.types = o by rw [← HO.out, List.take_of_length_le (by rw [HL.out]; exact hge)])
      go_wp2
      have PF := (((((((PO.out.set_ 0 (.int .i64 b.id)).set_ 1 (.int .i64 b.w)).set_ 2 (.int .i64 b.h)).set_ 3 (.int .i64 b.d)).set_ 4 (.int .i64 b.tare)).set_ 5 (.int .i64 b.gram)).set_ 6 (.int .i64 b.cost))
      simp only [List.setIfInBounds_toArray, List.set_cons_zero, List.set_cons_succ] at PF
      refine ret_cell2 Tryz.results18 rfl PF Tryz.underlying48 rfl (by kernel_rfl) rfl ⟨?_, (by repeat (first | with_reducible exact Below.refl _ _ | with_reducible assumption | with_reducible refine Below.setCell ?_ (by (try simp) <;> omega) _ | with_reducible refine Below.alloc ?_ (by (try simp) <;> omega) _ | with_reducible refine Below.drew ?_ | with_reducible refine below_drewN ?_ _ | with_reducible exact HBel.out | with_reducible refine Below.trans ?_ (Below.mono HBel.out (by (try simp) <;> omega))))⟩
      rw [HT.out, ← HBO.out]
      rfl
end Go.Proofs.YtehgdhekiogppaaGreat
