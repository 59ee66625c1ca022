/- UnitsOf, the program's. -/
import Derived.Test.YtehgdhekiogppaaGreatGso
import Derived.Test.YtehgdhekiogppaaGreatUn2
import Derived.Test.YtehgdhekiogppaaGreatMks
namespace Go.Proofs.YtehgdhekiogppaaGreat
open Go.ChangeShapes Go.WideShapes Go.ChangeAt Go.RowKit Go.Deep
set_option linter.unusedVariables false
set_option linter.unusedSimpArgs false

/-- The unit's kind is in the group. -/
def uoB (r : Rq) (g : List Int) (u : Int) : Bool := hasB g (itAt r.items ((unitsR r).getD u.toNat 0)).cls
/-- The units of a group among the first n. -/
def uoTo (r : Rq) (g : List Int) (n : Nat) : List Int := (rng n).filter (uoB r g)
def uoL (r : Rq) (k : Int) : List Int := if inB k 0 ((gsR r).length - 1) then uoTo r ((gsR r).getD k.toNat []) (unitsR r).length else []
theorem uoTo_succ (r : Rq) (g : List Int) (n : Nat) : uoTo r g (n + 1) = uoTo r g n ++ (if uoB r g n then [(n : Int)] else []) := by
  unfold uoTo
  rw [rng_succ, List.filter_append]
  congr 1
  cases h : uoB r g n <;> simp [h]
theorem uoTo_len (r : Rq) (g : List Int) (n : Nat) : (uoTo r g n).length ≤ n := by
  unfold uoTo
  have := List.length_filter_le (uoB r g) (rng n)
  rwa [rng_len] at this
theorem itAt_at {xs : List It} {i : Int} {x : It} (h : xs[i.toNat]? = some x) : itAt xs i = x := by
  unfold itAt
  rw [List.getD_eq_getElem?_getD, h]
  rfl
theorem uoB_at {r : Rq} {g : List Int} {u : Nat} {i : Int} {x : It} (hu : (unitsR r)[u]? = some i) (hx : r.items[i.toNat]? = some x) : uoB r g u = hasB g x.cls := by
  unfold uoB
  have e1 : (unitsR r).getD ((u : Int)).toNat 0 = i := by
    rw [Int.toNat_natCast, List.getD_eq_getElem?_getD, hu]
    rfl
  rw [e1, itAt_at hx]
set_option maxRecDepth 20000 in
set_option maxHeartbeats 2000000 in
theorem unitsOf_any (k : Int) (r : Rq) (A1 A2 A3 : Option Addr) (n1 n2 n3 c1 c2 c3 : Nat) (lo hi : Nat) (w : World) (hr : RqAt w lo hi r A1 n1 c1 A2 n2 c2 A3 n3 c3) (hB : hi ≤ w.heap.size) :
    Calls Tryz.prog 26 #[.agg #[.int .i64 r.way, .int .i64 r.pal.w, .int .i64 r.pal.d, .int .i64 r.pal.h, .int .i64 r.pal.gram, .int .i64 r.cls, .slice A1 n1 c1, .slice A2 n2 c2, .int .i64 r.master, .slice A3 n3 c3], .int .i64 k] w fun e w' => ∃ v, e = .returned v ∧ Own 1 encInt 3 w' w.heap.size v (uoL r k) ∧ Below w.heap.size w w' := by
  have HG := hide (groupsOf_any r A1 A2 A3 n1 n2 n3 c1 c2 c3 lo hi)
  have HU := hide (units_any r A1 A2 A3 n1 n2 n3 c1 c2 c3 lo hi)
  have HR := hide hr
  have hul := unitsR_len r
  have hm3 := hr.it.max
  have hc3 := hr.it.cap
  have HL := hide hr.it.len
  clear hr
  obtain ⟨N, hN⟩ : ∃ N, (gsR r).length = N := ⟨_, rfl⟩
  have HN := hide hN
  clear hN
  go_enter Tryz.func26, Tryz.ntmps26
  go_wp2_with fail
  refine (HG.out _ (HR.out.below (B := w.heap.size) (by repeat (first | with_reducible exact Below.refl _ _ | with_reducible assumption | with_reducible refine Below.setCell ?_ (by (try simp) <;> omega) _ | with_reducible refine Below.alloc ?_ (by (try simp) <;> omega) _ | with_reducible refine Below.drew ?_ | with_reducible refine below_drewN ?_ _)) hB) (by (try simp) <;> omega)).mono ?_
  rintro e w1 ⟨vg, rows, rfl, hg, hE, hb1⟩
  have L1 := hide (show Below w.heap.size w w1 from (by repeat (first | with_reducible exact Below.refl _ _ | with_reducible assumption | with_reducible refine Below.setCell ?_ (by (try simp) <;> omega) _ | with_reducible refine Below.alloc ?_ (by (try simp) <;> omega) _ | with_reducible refine Below.drew ?_ | with_reducible refine below_drewN ?_ _ | with_reducible exact hb1 | with_reducible refine Below.trans ?_ (Below.mono hb1 (by (try simp) <;> omega)))))
  have P1 := hide (Blk.belowH (Blk.new w 37 (#[.int .i64 r.way, .int .i64 r.pal.w, .int .i64 r.pal.d, .int .i64 r.pal.h, .int .i64 r.pal.gram, .int .i64 r.cls, .slice A1 n1 c1, .slice A2 n2 c2, .int .i64 r.master, .slice A3 n3 c3]) (g := w.heap.size) (by simp)) hb1)
  have z1 : w.heap.size + 1 ≤ w1.heap.size := by simpa using hb1.size
  have hl : rows.length = N := by rw [← HN.out, ← hE]; simp [rowsL]
  obtain ⟨Ag, cg, rfl, hrg⟩ := hg.rows1 hl
  have HE := hide hE
  have HL2 := hide hl
  have HG1 := hide hrg
  have hgc := hrg.out.cap
  have hgm := hrg.out.max
  clear hb1 hg hE hl hrg HG
  have kR := P1.out.cell
  have yR := P1.out.lt
  obtain ⟨tb, htb⟩ : ∃ tb, inB k 0 ((N : Int) - 1) = tb := ⟨_, rfl⟩
  have HUO := hide (show uoL r k = if tb then uoTo r ((gsR r).getD k.toNat []) (unitsR r).length else [] by unfold uoL; rw [HN.out, htb])
  have hN0 : (0 : Int) ≤ (N : Int) := by omega
  cases tb
  · go_wp2_with (go_at_call 66; refine (in_any _ _ _ _).mono ?_; rw [htb]; rintro e w' ⟨rfl, rfl⟩)
    go_ret
    exact ⟨_, rfl, by rw [HUO.out]; exact Own.nil_ _ _, L1.out⟩
  · have hkb := (inB_iff _ _ _).1 htb
    obtain ⟨q, rfl⟩ := Int.eq_ofNat_of_zero_le hkb.1
    have hqN : q < N := by omega
    go_wp2_with (go_at_call 66; refine (in_any _ _ _ _).mono ?_; rw [htb]; rintro e w' ⟨rfl, rfl⟩)
    refine (HU.out _ ((HR.out.below (B := w.heap.size) L1.out hB).alloc (by omega) _) (by (try simp) <;> omega)).mono ?_
    rintro e w2 ⟨vu, rfl, ho2, hb2⟩
    have z2 : w1.heap.size + 1 ≤ w2.heap.size := by simpa using hb2.size
    have P2 := hide (Blk.belowH (P1.out.alloc _) hb2)
    have L2 := hide (show Below w.heap.size w w2 from (by repeat (first | with_reducible exact Below.refl _ _ | with_reducible assumption | with_reducible refine Below.setCell ?_ (by (try simp) <;> omega) _ | with_reducible refine Below.alloc ?_ (by (try simp) <;> omega) _ | with_reducible refine Below.drew ?_ | with_reducible refine below_drewN ?_ _ | with_reducible exact L1.out | with_reducible exact hb2 | with_reducible refine Below.trans ?_ (Below.mono L1.out (by (try simp) <;> omega)) | with_reducible refine Below.trans ?_ (Below.mono hb2 (by (try simp) <;> omega)))))
    have HG2 := hide (HG1.out.below (w' := w2) (B := w1.heap.size) (by repeat (first | with_reducible exact Below.refl _ _ | with_reducible assumption | with_reducible refine Below.setCell ?_ (by (try simp) <;> omega) _ | with_reducible refine Below.alloc ?_ (by (try simp) <;> omega) _ | with_reducible refine Below.drew ?_ | with_reducible refine below_drewN ?_ _ | with_reducible exact hb2 | with_reducible refine Below.trans ?_ (Below.mono hb2 (by (try simp) <;> omega)))) (Nat.le_refl _))
    obtain ⟨m, hm⟩ : ∃ m, (unitsR r).length = m := ⟨_, rfl⟩
    have HM := hide hm
    obtain ⟨Au, cu, rfl, su⟩ := Own.slk' encInt_len hm ho2
    simp only [World.size_alloc] at su
    have SU := hide su
    have huc := su.cap
    have hum := su.max
    have HO2 := hide (show Own 1 encInt 3 w2 w.heap.size (.slice (some ⟨w1.heap.size, 0, none⟩) 0 0) ([] : List Int) from Own.below (own_lit0 w1 3 w.heap.size (by omega) rfl) hb2)
    rw [hm] at HUO hul
    have hgk : (gsR r).getD ((q : Int)).toNat [] = ((rows[q]?).map fun x => x.xs).getD [] := by
      rw [Int.toNat_natCast, List.getD_eq_getElem?_getD, ← HE.out]
      unfold rowsL
      rw [List.getElem?_map]
    clear hb2 ho2 su hm HU HG1 P1 L1 kR yR hkb
    obtain ⟨rk, hrk⟩ : ∃ rk, rows[q]? = some rk := ⟨_, List.getElem?_eq_getElem (by rw [HL2.out]; exact hqN)⟩
    rw [hrk] at hgk
    simp only [Option.map_some, Option.getD_some] at hgk
    rw [hgk] at HUO
    have HRK := hide hrk
    clear hgk hrk
    go_wp2_with fail
    go_loopw [6, 21] (fun o i wr => ∃ j : Nat, j ≤ m ∧ i = .int .i64 j ∧ Own 1 encInt 3 wr w.heap.size o (uoTo r rk.xs j) ∧ (∀ z, o.ownBlock = some z → z = w1.heap.size ∨ w2.heap.size ≤ z) ∧ Blk wr w.heap.size 37 #[.int .i64 r.way, .int .i64 r.pal.w, .int .i64 r.pal.d, .int .i64 r.pal.h, .int .i64 r.pal.gram, .int .i64 r.cls, .slice A1 n1 c1, .slice A2 n2 c2, .int .i64 r.master, .slice A3 n3 c3] ∧ Below w.heap.size w wr ∧ RowsAt wr (w.heap.size + 1) w1.heap.size Ag N cg rows ∧ SlK 1 encInt wr (w1.heap.size + 1) w2.heap.size Au m cu (unitsR r) ∧ w2.heap.size ≤ wr.heap.size) (fun _ i _ => m - (intOf i).toNat)
    case atStart => exact ⟨0, Nat.zero_le _, rfl, HO2.out, fun z hz => .inl (Option.some.inj hz).symm, P2.out, L2.out, HG2.out.more (by (try simp) <;> omega) (Nat.le_refl _), SU.out, Nat.le_refl _⟩
    case round =>
      clear HO2 P2 L2 HG2 SU
      obtain ⟨j, hj, rfl, ho, hsep, hP, hb, hG, hS, z3⟩ := hrel
      have HO := hide ho
      have HSEP := hide hsep
      have P3 := hide hP
      have L3 := hide hb
      have HG3 := hide hG
      have SU3 := hide hS
      have kR := hP.cell
      have yR := hP.lt
      clear ho hsep hP hb hG hS
      by_cases hlt : j < m
      · obtain ⟨bu, ou, y, hy, rfl, _, hbu, cy, _⟩ := SU3.out.int hlt
        have hyr := mem_unitsR (List.mem_of_getElem? hy)
        rw [HL.out] at hyr
        have i3 : y.toNat < n3 := by omega
        obtain ⟨bi, oi, x, hx, rfl, _, hbi, d0, d1, d2, d3, d4, d5, d6, _⟩ := (HR.out.it.below L3.out hB).it i3
        obtain ⟨bg, og, rk', hrk', rfl, _, hbg, cgk, _⟩ := HG3.out.out.row hqN
        obtain rfl : rk' = rk := by have := HRK.out; rw [hrk'] at this; exact Option.some.inj this
        have hII := HG3.out.inn _ (List.mem_of_getElem? hrk')
        have HUB := hide (uoB_at (g := rk'.xs) hy hx)
        have HTS := hide (uoTo_succ r rk'.xs j)
        obtain ⟨t, ht⟩ : ∃ t, hasB rk'.xs x.cls = t := ⟨_, rfl⟩
        have HCI := hide (fun (a : Unit) => containsInt x.cls (w.heap.size + 1) w1.heap.size rk'.A rk'.n rk'.c rk'.xs _ hII.drew)
        rw [ht] at HUB HCI
        rw [HUB.out] at HTS
        have hln := uoTo_len r rk'.xs j
        have y0 : 0 ≤ y := hyr.1
        have y1 : y < (n3 : Int) := by omega
        have j0 : (0 : Int) ≤ (j : Int) := by omega
        have j1 : (j : Int) < (m : Int) := by omega
        have q0 : (0 : Int) ≤ (q : Int) := by omega
        have q1 : (q : Int) < (N : Int) := by omega
        have HCI := hide (HCI.out ())
        clear hy hx hrk' hII ht
        go_wp2_with fail
        refine wp_region_held_drew (S := (fun w' => w'.cell? ⟨bg, og + q, none⟩ = some (.slice rk'.A rk'.n rk'.c) ∧ w'.cell? ⟨w.heap.size, 9, none⟩ = some (.slice (some ⟨bi, oi, none⟩) n3 c3) ∧ w'.cell? ⟨bi, oi + y.toNat * 7 + 5, none⟩ = some (.int .i64 x.cls))) (by kernel_rfl) ?hS0 (fun hHeld => ?_)
        case hS0 => (go_keep)
        refine wpAnyH_take (i := 0) (v := ?_) rfl (by kernel_rfl) (by kernel_rfl) (by kernel_rfl) (fun _ _ _ h => h) (Or.inl ⟨by rfl, ?_⟩) (by assumption) ?_
        rotate_left 1
        · intro w hSw
          try dsimp only at hSw
          go_simp
          try with_reducible rfl
        simp only [Act.put, List.getElem_toArray, List.getElem_cons_succ, List.getElem_cons_zero, List.setIfInBounds_toArray, List.set_cons_zero, List.set_cons_succ]
        refine wpAnyH_take (i := 1) (v := ?_) rfl (by kernel_rfl) (by kernel_rfl) (by kernel_rfl) (fun _ _ _ h => h) (Or.inl ⟨by rfl, ?_⟩) (by assumption) ?_
        rotate_left 1
        · intro w hSw
          try dsimp only at hSw
          go_simp
          try with_reducible rfl
        simp only [Act.put, List.getElem_toArray, List.getElem_cons_succ, List.getElem_cons_zero, List.setIfInBounds_toArray, List.set_cons_zero, List.set_cons_succ]
        refine wpAnyH_take (i := 2) (v := ?_) rfl (by kernel_rfl) (by kernel_rfl) (by kernel_rfl) (fun _ _ _ h => h) (Or.inl ⟨by rfl, ?_⟩) (by assumption) ?_
        rotate_left 1
        · intro w hSw
          try dsimp only at hSw
          go_simp
          try with_reducible rfl
        simp only [Act.put, List.getElem_toArray, List.getElem_cons_succ, List.getElem_cons_zero, List.setIfInBounds_toArray, List.set_cons_zero, List.set_cons_succ]
        refine wpAnyH_take (i := 3) (v := ?_) rfl (by kernel_rfl) (by kernel_rfl) (by kernel_rfl) (fun _ _ _ h => h) (Or.inl ⟨by rfl, ?_⟩) (by assumption) ?_
        rotate_left 1
        · intro w hSw
          try dsimp only at hSw
          go_simp
          try with_reducible rfl
        simp only [Act.put, List.getElem_toArray, List.getElem_cons_succ, List.getElem_cons_zero, List.setIfInBounds_toArray, List.set_cons_zero, List.set_cons_succ]
        refine wpAnyH_take (i := 4) (v := ?_) rfl (by kernel_rfl) (by kernel_rfl) (by kernel_rfl) (fun _ _ _ h => h) (Or.inl ⟨by rfl, ?_⟩) (by assumption) ?_
        rotate_left 1
        · intro w hSw
          try dsimp only at hSw
          go_simp
          try with_reducible rfl
        simp only [Act.put, List.getElem_toArray, List.getElem_cons_succ, List.getElem_cons_zero, List.setIfInBounds_toArray, List.set_cons_zero, List.set_cons_succ]
        refine wpAnyH_take (i := 5) (v := ?_) rfl (by kernel_rfl) (by kernel_rfl) (by kernel_rfl) (fun _ _ _ h => h) (Or.inl ⟨by rfl, ?_⟩) (by assumption) ?_
        rotate_left 1
        · intro w hSw
          try dsimp only at hSw
          go_simp
          try with_reducible rfl
        simp only [Act.put, List.getElem_toArray, List.getElem_cons_succ, List.getElem_cons_zero, List.setIfInBounds_toArray, List.set_cons_zero, List.set_cons_succ]
        refine wpAnyH_take (i := 6) (v := ?_) rfl (by kernel_rfl) (by kernel_rfl) (by kernel_rfl) (fun _ _ _ h => h) (Or.inl ⟨by rfl, ?_⟩) (by assumption) ?_
        rotate_left 1
        · intro w hSw
          try dsimp only at hSw
          go_simp
          try with_reducible rfl
        simp only [Act.put, List.getElem_toArray, List.getElem_cons_succ, List.getElem_cons_zero, List.setIfInBounds_toArray, List.set_cons_zero, List.set_cons_succ]
        refine wpAnyH_take (i := 7) (v := ?_) rfl (by kernel_rfl) (by kernel_rfl) (by kernel_rfl) (fun _ _ _ h => h) (Or.inl ⟨by rfl, ?_⟩) (by assumption) ?_
        rotate_left 1
        · intro w hSw
          try dsimp only at hSw
          go_simp
          try with_reducible rfl
        simp only [Act.put, List.getElem_toArray, List.getElem_cons_succ, List.getElem_cons_zero, List.setIfInBounds_toArray, List.set_cons_zero, List.set_cons_succ]
        refine wpAnyH_take (i := 8) (v := ?_) rfl (by kernel_rfl) (by kernel_rfl) (by kernel_rfl) (fun _ _ _ h => h) (Or.inl ⟨by rfl, ?_⟩) (by assumption) ?_
        rotate_left 1
        · intro w hSw
          try dsimp only at hSw
          go_simp
          try with_reducible rfl
        simp only [Act.put, List.getElem_toArray, List.getElem_cons_succ, List.getElem_cons_zero, List.setIfInBounds_toArray, List.set_cons_zero, List.set_cons_succ]
        refine wpAnyH_take (i := 9) (v := ?_) rfl (by kernel_rfl) (by kernel_rfl) (by kernel_rfl) (fun _ _ _ h => h) (Or.inl ⟨by rfl, ?_⟩) (by assumption) ?_
        rotate_left 1
        · intro w hSw
          try dsimp only at hSw
          go_simp
          try with_reducible rfl
        simp only [Act.put, List.getElem_toArray, List.getElem_cons_succ, List.getElem_cons_zero, List.setIfInBounds_toArray, List.set_cons_zero, List.set_cons_succ]
        refine wpAnyH_ready (rs := [10]) (by kernel_rfl) (by simp) ?_
        refine AllReadyH.cons rfl (fun K hK => ?_) AllReadyH.nil
        go_simp
        refine (HCI.out).mono ?_
        rintro e w' ⟨rfl, rfl⟩
        go_wp2_with fail
        refine hK.out _ _ ?hS1 (fun hHeld => ?_)
        case hS1 => (try dsimp only); (first | (with_reducible assumption) | go_keep)
        clear hK K
        try simp only [Act.put, List.getElem_toArray, List.getElem_cons_succ, List.getElem_cons_zero, List.setIfInBounds_toArray, List.set_cons_zero, List.set_cons_succ]
        refine wpAnyH_done (by kernel_rfl) ?_ _
        cases t
        · go_wp2_with fail
          go_roundw
          case rel => exact ⟨j + 1, by omega, by go_num, by rw [HTS.out]; simpa using HO.out.drew, HSEP.out, P3.out.drew, L3.out.drew, ⟨HG3.out.out.drew, fun x hx => (HG3.out.inn x hx).drew⟩, SU3.out.drew, z3⟩
          case measure => first | omega | (simp [intOf]; done) | (simp [intOf]; omega)
        · have hnl : (uoTo r rk'.xs j).length ≤ 4194304 := by omega
          go_wp2_with (at_builtin; refine wpList_app rfl _ _ rfl rfl rfl (app1 HO.out.drew (by (try simp) <;> omega) hnl (j : Int)) ?_; intro v7 w7 ho7 hg7 hat7; have HO7 := hide ho7; have HG7 := hide hg7; have HAT := hide hat7; clear ho7 hg7 hat7)
          go_roundw
          case rel =>
            refine ⟨j + 1, by omega, by go_num, by rw [HTS.out]; exact HO7.out, fun z hz => ?_, ?_, ?_, ?_, ?_, ?_⟩
            · rcases HAT.out with h | h
              · exact HSEP.out z (h ▸ hz)
              · rw [h] at hz
                have hz2 := Option.some.inj hz
                simp at hz2
                omega
            · exact (P3.out.drew.alloc _).grown HG7.out (fun e => by rcases HSEP.out _ e.symm with h | h <;> omega)
            · exact (L3.out.drew.alloc (by (try simp) <;> omega) _).grown HG7.out (by (try simp) <;> omega) (fun z hz => by have := (HO.out.lt z hz).1; omega)
            · have hg3 := HG3.out
              exact ⟨(hg3.out.drew.alloc (by (try simp) <;> omega) _).grown HG7.out (by (try simp) <;> omega) (fun z hz => .inr (by rcases HSEP.out z hz with h | h <;> omega)), fun x hx => ((hg3.inn x hx).drew.alloc (by (try simp) <;> omega) _).grown HG7.out (by (try simp) <;> omega) (fun z hz => .inr (by rcases HSEP.out z hz with h | h <;> omega))⟩
            · exact (SU3.out.drew.alloc (by (try simp) <;> omega) _).grown HG7.out (by (try simp) <;> omega) (fun z hz => by rcases HSEP.out z hz with h | h <;> omega)
            · have := HG7.out.size
              simp at this
              omega
          case measure => first | omega | (simp [intOf]; done) | (simp [intOf]; omega)
      · obtain rfl : j = m := by omega
        clear hlt
        go_wp2_with fail
        go_ret
        exact ⟨_, rfl, by rw [HUO.out]; exact HO.out, L3.out⟩
end Go.Proofs.YtehgdhekiogppaaGreat
