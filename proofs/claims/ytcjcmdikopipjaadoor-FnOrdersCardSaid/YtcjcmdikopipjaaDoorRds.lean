/- ReadOrder of the reference. -/
import Derived.Test.YtcjcmdikopipjaaDoorRdl
namespace Go.Proofs.YtcjcmdikopipjaaDoor
open Go.ChangeShapes Go.WideShapes Go.ChangeAt Go.RowKit Go.Deep Go.Joins
set_option linter.unusedVariables false
set_option linter.unusedSimpArgs false

set_option maxRecDepth 20000 in
set_option maxHeartbeats 16000000 in
theorem sreadOrder_any (s : ByteArray) (w : World) (hs : s.size ≤ 1048576) :
    Calls Tryd.prog 29 #[.string s] w fun e w' => (∃ v1 v2 v3, e = .returned (.tuple #[rqV (readS s).1 v1 v2 v3, .int .i64 (readS s).2]) ∧ RqOwn w' w.heap.size (readS s).1 v1 v2 v3 ∧ rqLen (readS s).1 ≤ 60) ∧ Below w.heap.size w w' := by
  obtain ⟨P, hP⟩ : ∃ P, partsL s 10 = P := ⟨_, rfl⟩
  have hPl := partsL_len s 10
  have hPz := partsSz s 10
  have hP0 := partsL_ne s 10
  rw [hP] at hPl hPz hP0
  obtain ⟨n, hn⟩ : ∃ n, P.length = n + 1 := ⟨P.length - 1, by omega⟩
  have HZ : Hid (readS s = if 60 < n then (rq0, 60) else goA (lnT P) (lnL P) 0 rq0 (-1)) := hide (by unfold readS readL; rw [hP, hn]; rfl)
  have HPZ := hide (fun x hx => Nat.le_trans (hPz x hx) hs)
  have HPA := hide (fun W => sparts_any s 10 W hs)
  simp only [hP] at HPA
  have HN := hide hn
  have hn1 : n ≤ 1048577 := by omega
  clear hP hPl hPz hP0 hn
  go_enter Tryd.func29, Tryd.ntmps29
  go_wp2_with fail
  refine (HPA.out _).mono ?_
  rintro e w1 ⟨pv, rfl, ho1, hb1⟩
  have P0 := hide (Blk.belowH (Blk.new w 41 #[.int .i64 0, .int .i64 0, .int .i64 0, .int .i64 0, .int .i64 0, .int .i64 0, .slice none 0 0, .slice none 0 0, .int .i64 0, .slice none 0 0] (g := w.heap.size) rfl) hb1)
  have L1 := hide (show Below w.heap.size w w1 from (by repeat (first | with_reducible exact Below.refl _ _ | with_reducible assumption | with_reducible refine Below.setCell ?_ (by (try simp) <;> omega) _ | with_reducible refine Below.alloc ?_ (by (try simp) <;> omega) _ | with_reducible refine Below.drew ?_ | with_reducible refine below_drewN ?_ _ | with_reducible exact hb1 | with_reducible refine Below.trans ?_ (Below.mono hb1 (by (try simp) <;> omega)))))
  have zz1 := hb1.size
  simp only [World.size_alloc] at zz1
  have z1 := L1.out.size
  obtain ⟨Aw, cw, rfl, sw⟩ := Own.slk' encStr_len HN.out ho1
  have HSW := hide sw
  have w1c := sw.cap
  have w1m := sw.max
  obtain ⟨b0, off, l0, hl0, rfl, _, hb0, c0, _⟩ := sw.str (i := 0) (by omega)
  simp only [Nat.add_zero] at c0
  have HL0 := hide hl0
  have HLN : Hid (∀ (word : ByteArray) (cnt k : Nat) (ki : Int) (W : World), 1 ≤ cnt → cnt ≤ 16 → k ≤ n → ki = (k : Int) → Below w1.heap.size w1 W → Calls Tryd.prog 66 #[.slice (some ⟨b0, off, none⟩) (n + 1) cw, .int .i64 ki, .string word, .int .i64 cnt] W fun e w' => (∃ v, e = .returned (.tuple #[v, .bool (lnR P k word cnt).2]) ∧ Own 1 encInt 3 w' W.heap.size v (lnR P k word cnt).1) ∧ Below W.heap.size W w') := hide (fun word cnt k ki W h0 h1 hk hki hb => by subst hki; exact l4Line_any P _ _ _ n cw k word cnt W (HSW.out.below hb (Nat.le_refl _)) hn1 hk HPZ.out h0 h1)
  have k0 := P0.out.cell
  have f0 := P0.out.frozen
  have y0 := P0.out.lt
  clear ho1 hb1 sw hl0
  by_cases hbig : 60 < n
  · have HE := hide (show readS s = (rq0, 60) by rw [HZ.out, if_pos hbig])
    have hg : (60 : Int) < (n : Int) := by omega
    go_wp2_with fail
    have PF := set10 P0.out rfl (.int .i64 0) (.int .i64 0) (.int .i64 0) (.int .i64 0) (.int .i64 0) (.int .i64 0) (nilV) (nilV) (.int .i64 0) (nilV)
    refine ret_cell2 Tryd.results29 rfl PF Tryd.underlying41 rfl (by kernel_rfl) rfl ⟨⟨nilV, nilV, nilV, ?_, by rw [HE.out]; exact RqOwn.nil_ _ _ rq0 rfl rfl rfl, by rw [HE.out]; exact Nat.zero_le _⟩, (L1.out).grown (grown10 w1 w.heap.size (.int .i64 0) (.int .i64 0) (.int .i64 0) (.int .i64 0) (.int .i64 0) (.int .i64 0) (nilV) (nilV) (.int .i64 0) (nilV)) (by have := P0.out.lt; omega) (fun z hz => by have := Option.some.inj hz; omega)⟩
    rw [HE.out]
    rfl
  have HZ2 := hide (show goA (lnT P) ((lnL P).drop 0) 0 rq0 (-1) = readS s by rw [HZ.out, if_neg hbig]; rfl)
  have hg : ¬ (60 : Int) < (n : Int) := by omega
  have hn60 : n ≤ 60 := by omega
  clear hbig
  have HST0 : Hid (RdSt w1 (w1.alloc (.cells #[.int .i64 0, .int .i64 0, .int .i64 0, .int .i64 0, .int .i64 0, .int .i64 0, .slice none 0 0, .slice none 0 0, .int .i64 0, .slice none 0 0] 41)) rq0 nilV nilV nilV) := hide ⟨Blk.new _ _ _ rfl, RqOwn.nil_ _ _ rq0 rfl rfl rfl, (by repeat (first | with_reducible exact Below.refl _ _ | with_reducible assumption | with_reducible refine Below.setCell ?_ (by (try simp) <;> omega) _ | with_reducible refine Below.alloc ?_ (by (try simp) <;> omega) _ | with_reducible refine Below.drew ?_ | with_reducible refine below_drewN ?_ _))⟩
  have PA0 := hide (P0.out.alloc (.cells #[.int .i64 0, .int .i64 0, .int .i64 0, .int .i64 0, .int .i64 0, .int .i64 0, .slice none 0 0, .slice none 0 0, .int .i64 0, .slice none 0 0] 41))
  have kA := PA0.out.cell
  have fA := PA0.out.frozen
  have yA := PA0.out.lt
  have y1' : b0 < w1.heap.size := hb0
  by_cases hn0 : n = 0
  · have HE := hide (show readS s = (rq0, 0) by rw [← HZ2.out]; subst hn0; exact goA_bad (n := 0) HN.out (.inl (by omega)))
    have d1 : (n : Int) < 1 := by omega
    go_wp2_with fail
    have PF := (set10 P0.out rfl (.int .i64 0) (.int .i64 0) (.int .i64 0) (.int .i64 0) (.int .i64 0) (.int .i64 0) (nilV) (nilV) (.int .i64 0) (nilV)).alloc (.cells #[.int .i64 0, .int .i64 0, .int .i64 0, .int .i64 0, .int .i64 0, .int .i64 0, .slice none 0 0, .slice none 0 0, .int .i64 0, .slice none 0 0] 41)
    refine ret_cell2 Tryd.results29 rfl PF Tryd.underlying41 rfl (by kernel_rfl) rfl ⟨⟨nilV, nilV, nilV, ?_, by rw [HE.out]; exact RqOwn.nil_ _ _ rq0 rfl rfl rfl, by rw [HE.out]; exact Nat.zero_le _⟩, ((L1.out).grown (grown10 w1 w.heap.size (.int .i64 0) (.int .i64 0) (.int .i64 0) (.int .i64 0) (.int .i64 0) (.int .i64 0) (nilV) (nilV) (.int .i64 0) (nilV)) (by have := P0.out.lt; omega) (fun z hz => by have := Option.some.inj hz; omega)).alloc (by simp; omega) _⟩
    rw [HE.out]
    rfl
  have d1 : ¬ (n : Int) < 1 := by omega
  have hnp : 0 < n := by omega
  by_cases hF : l0 = (ByteArray.mk #[119, 97, 121, 32, 102, 105, 114, 115, 116])
  case neg =>
   by_cases hW : l0 = (ByteArray.mk #[119, 97, 121, 32, 110, 101, 120, 116])
   case neg =>
    have HE := hide (show readS s = (rq0, 0) by rw [← HZ2.out]; exact goA_stop HN.out (Nat.zero_le _) (by omega) (fun l _ hl => by rw [HL0.out] at hl; obtain rfl := Option.some.inj hl; exact mayF_no (putL_rng _ _) (by omega) (by have := kind0 (r := rq0) hF hW; omega)))
    have hne1 : (l0.toList == [119, 97, 121, 32, 102, 105, 114, 115, 116]) = false := litne hF
    have hne2 : (l0.toList == [119, 97, 121, 32, 110, 101, 120, 116]) = false := litne hW
    clear hF hW
    go_wp2_with fail
    have PF := (set10 P0.out rfl (.int .i64 0) (.int .i64 0) (.int .i64 0) (.int .i64 0) (.int .i64 0) (.int .i64 0) (nilV) (nilV) (.int .i64 0) (nilV)).alloc (.cells #[.int .i64 0, .int .i64 0, .int .i64 0, .int .i64 0, .int .i64 0, .int .i64 0, .slice none 0 0, .slice none 0 0, .int .i64 0, .slice none 0 0] 41)
    refine ret_cell2 Tryd.results29 rfl PF Tryd.underlying41 rfl (by kernel_rfl) rfl ⟨⟨nilV, nilV, nilV, ?_, by rw [HE.out]; exact RqOwn.nil_ _ _ rq0 rfl rfl rfl, by rw [HE.out]; exact Nat.zero_le _⟩, ((L1.out).grown (grown10 w1 w.heap.size (.int .i64 0) (.int .i64 0) (.int .i64 0) (.int .i64 0) (.int .i64 0) (.int .i64 0) (nilV) (nilV) (.int .i64 0) (nilV)) (by have := P0.out.lt; omega) (fun z hz => by have := Option.some.inj hz; omega)).alloc (by simp; omega) _⟩
    rw [HE.out]
    rfl

   case pos =>
     subst hW
     have hne1 : (ByteArray.toList (ByteArray.mk #[119, 97, 121, 32, 110, 101, 120, 116]) == [119, 97, 121, 32, 102, 105, 114, 115, 116]) = false := litne hF
     have HST1 : Hid (RdSt w1 (w1.alloc (.cells #[.int .i64 1, .int .i64 0, .int .i64 0, .int .i64 0, .int .i64 0, .int .i64 0, .slice none 0 0, .slice none 0 0, .int .i64 0, .slice none 0 0] 41)) ({ rq0 with way := 1 } : Rq) nilV nilV nilV) := hide ⟨Blk.new _ _ _ rfl, RqOwn.nil_ _ _ _ rfl rfl rfl, (by repeat (first | with_reducible exact Below.refl _ _ | with_reducible assumption | with_reducible refine Below.setCell ?_ (by (try simp) <;> omega) _ | with_reducible refine Below.alloc ?_ (by (try simp) <;> omega) _ | with_reducible refine Below.drew ?_ | with_reducible refine below_drewN ?_ _))⟩
     have HG : Hid (goA (lnT P) ((lnL P).drop 1) 1 ({ rq0 with way := 1 } : Rq) 0 = readS s) := hide (by rw [← HZ2.out]; exact (goA_step HN.out hnp HL0.out (putL_wayN rq0) rfl).symm)
     clear HL0 hF
     obtain ⟨q0, hq0⟩ : ∃ q0, ({ rq0 with way := 1 } : Rq) = q0 := ⟨_, rfl⟩
     rw [hq0] at HST1 HG
     have hrq0 : rqLen q0 ≤ 0 := by rw [← hq0]; exact Nat.le_refl _
     clear hq0
     have PB1 := hide (P0.out.below HST1.out.below y0)
     clear kA fA yA
     have kA := PB1.out.cell
     have fA := PB1.out.frozen
     have yA := PB1.out.lt
     have kR := HST1.out.rq.cell
     have yR := HST1.out.rq.lt
     have fR := HST1.out.rq.frozen
     unfold rdCells at kR
     go_wp2_with fail
     refine (HLN.out (ByteArray.mk #[112, 97, 108, 108, 101, 116]) 4 (1) _ _ (by omega) (by omega) (by omega) (by first | rfl | omega) HST1.out.below).mono ?_
     rintro e w2 ⟨⟨nv, rfl, hon⟩, hb⟩
     have HST2 := hide (HST1.out.call hb)
     have z2 := hb.size
     clear hb kA fA yA kR yR fR
     have PB2 := hide (P0.out.below HST2.out.below y0)
     have kA := PB2.out.cell
     have fA := PB2.out.frozen
     have yA := PB2.out.lt
     have kR := HST2.out.rq.cell
     have yR := HST2.out.rq.lt
     have fR := HST2.out.rq.frozen
     unfold rdCells at kR
     obtain ⟨⟨qs, qb⟩, hq⟩ : ∃ q, lnR P 1 (ByteArray.mk #[112, 97, 108, 108, 101, 116]) 4 = q := ⟨_, rfl⟩
     rw [hq] at hon ⊢
     cases qb
     case false =>
       have HE := hide (show readS s = (rq0, ((1 : Nat) : Int)) by rw [← HG.out]; exact goA_stop HN.out (by omega) (by omega) (fun l hk hl => mayF_no (putL_rng _ _) (by omega) (by have := kind1 (r := q0) (lnR_f HN.out hq l hk hl); omega)))
       clear hq hon
       go_wp2_with fail
       have PF := set10 PB2.out rfl (.int .i64 0) (.int .i64 0) (.int .i64 0) (.int .i64 0) (.int .i64 0) (.int .i64 0) (nilV) (nilV) (.int .i64 0) (nilV)
       refine ret_cell2 Tryd.results29 rfl PF Tryd.underlying41 rfl (by kernel_rfl) rfl ⟨⟨nilV, nilV, nilV, ?_, by rw [HE.out]; exact RqOwn.nil_ _ _ rq0 rfl rfl rfl, by rw [HE.out]; exact Nat.zero_le _⟩, (L1.out.trans (HST2.out.below.mono z1)).grown (grown10 w2 w.heap.size (.int .i64 0) (.int .i64 0) (.int .i64 0) (.int .i64 0) (.int .i64 0) (.int .i64 0) (nilV) (nilV) (.int .i64 0) (nilV)) (by have := PB2.out.lt; omega) (fun z hz => by have := Option.some.inj hz; omega)⟩
       rw [HE.out]
       rfl
     obtain ⟨l, hkl, hl, hnl⟩ := lnR_t HN.out hq
     have hql : qs.length = 4 := by have := numsR_len (line := l) (by rw [hnl]); rw [hnl] at this; exact this
     obtain ⟨An, cn, rfl, sn⟩ := Own.slk' encInt_len hql hon
     obtain ⟨bn, on, rfl, hbl, hbn, hc⟩ := sn.ints (by omega)
     have HSN := hide sn
     have ncc := sn.cap
     have ncm := sn.max
     have c0 := hc 0 (by omega)
     have c1 := hc 1 (by omega)
     have c2 := hc 2 (by omega)
     have c3 := hc 3 (by omega)
     simp only [Nat.add_zero] at c0
     have hne : w1.heap.size ≠ bn := by have := HST1.out.lt; omega
     have zbn : bn < w2.heap.size := hbn
     obtain ⟨x0, hx0⟩ : ∃ x, qs.getD 0 0 = x := ⟨_, rfl⟩
     rw [hx0] at c0
     obtain ⟨x1, hx1⟩ : ∃ x, qs.getD 1 0 = x := ⟨_, rfl⟩
     rw [hx1] at c1
     obtain ⟨x2, hx2⟩ : ∃ x, qs.getD 2 0 = x := ⟨_, rfl⟩
     rw [hx2] at c2
     obtain ⟨x3, hx3⟩ : ∃ x, qs.getD 3 0 = x := ⟨_, rfl⟩
     rw [hx3] at c3
     have HX := hide (show qs.getD 0 0 = x0 ∧ qs.getD 1 0 = x1 ∧ qs.getD 2 0 = x2 ∧ qs.getD 3 0 = x3 from ⟨hx0, hx1, hx2, hx3⟩)
     clear hc sn hx0 hx1 hx2 hx3
     have HG2 : Hid (goA (lnT P) ((lnL P).drop (1 + 1)) (1 + 1) (rPal q0 (qs, true)) 1 = readS s) := hide (by rw [← HG.out]; exact (goA_step HN.out hkl hl (by rw [putL_1 (by rw [hnl]), hnl]) rfl).symm)
     go_wp2_with fail
     refine wp_region_held_drew (S := (fun w' => w'.cell? ⟨bn, on, none⟩ = some (.int .i64 x0) ∧ w'.cell? ⟨bn, on + 1, none⟩ = some (.int .i64 x1) ∧ w'.cell? ⟨bn, on + 2, none⟩ = some (.int .i64 x2) ∧ w'.cell? ⟨bn, on + 3, none⟩ = some (.int .i64 x3))) (by kernel_rfl) ?hS0 (fun hHeld => ?_)
     case hS0 => (exact ⟨c0, c1, c2, c3⟩)
     refine wpAnyH_take (i := 0) (v := ?_) rfl (by kernel_rfl) (by kernel_rfl) (by kernel_rfl) (fun _ _ _ h => h) (Or.inl ⟨by rfl, ?_⟩) (by assumption) ?_
     rotate_left 1
     · intro w hSw
       try dsimp only at hSw
       go_simp
       try with_reducible rfl
     simp only [Act.put, List.getElem_toArray, List.getElem_cons_succ, List.getElem_cons_zero, List.setIfInBounds_toArray, List.set_cons_zero, List.set_cons_succ]
     refine wpAnyH_take (i := 1) (v := ?_) rfl (by kernel_rfl) (by kernel_rfl) (by kernel_rfl) (fun _ _ _ h => h) (Or.inl ⟨by rfl, ?_⟩) (by assumption) ?_
     rotate_left 1
     · intro w hSw
       try dsimp only at hSw
       go_simp
       try with_reducible rfl
     simp only [Act.put, List.getElem_toArray, List.getElem_cons_succ, List.getElem_cons_zero, List.setIfInBounds_toArray, List.set_cons_zero, List.set_cons_succ]
     refine wpAnyH_take (i := 2) (v := ?_) rfl (by kernel_rfl) (by kernel_rfl) (by kernel_rfl) (fun _ _ _ h => h) (Or.inl ⟨by rfl, ?_⟩) (by assumption) ?_
     rotate_left 1
     · intro w hSw
       try dsimp only at hSw
       go_simp
       try with_reducible rfl
     simp only [Act.put, List.getElem_toArray, List.getElem_cons_succ, List.getElem_cons_zero, List.setIfInBounds_toArray, List.set_cons_zero, List.set_cons_succ]
     refine wpAnyH_take (i := 3) (v := ?_) rfl (by kernel_rfl) (by kernel_rfl) (by kernel_rfl) (fun _ _ _ h => h) (Or.inl ⟨by rfl, ?_⟩) (by assumption) ?_
     rotate_left 1
     · intro w hSw
       try dsimp only at hSw
       go_simp
       try with_reducible rfl
     simp only [Act.put, List.getElem_toArray, List.getElem_cons_succ, List.getElem_cons_zero, List.setIfInBounds_toArray, List.set_cons_zero, List.set_cons_succ]
     refine wpAnyH_take (i := 4) (v := ?_) rfl (by kernel_rfl) (by kernel_rfl) (by kernel_rfl) (fun _ _ _ h => h) (Or.inl ⟨by rfl, ?_⟩) (by assumption) ?_
     rotate_left 1
     · intro w hSw
       try dsimp only at hSw
       go_simp
       try with_reducible rfl
     simp only [Act.put, List.getElem_toArray, List.getElem_cons_succ, List.getElem_cons_zero, List.setIfInBounds_toArray, List.set_cons_zero, List.set_cons_succ]
     refine wpAnyH_take (i := 5) (v := ?_) rfl (by kernel_rfl) (by kernel_rfl) (by kernel_rfl) (fun _ _ _ h => h) (Or.inl ⟨by rfl, ?_⟩) (by assumption) ?_
     rotate_left 1
     · intro w hSw
       try dsimp only at hSw
       go_simp
       try with_reducible rfl
     simp only [Act.put, List.getElem_toArray, List.getElem_cons_succ, List.getElem_cons_zero, List.setIfInBounds_toArray, List.set_cons_zero, List.set_cons_succ]
     refine wpAnyH_take (i := 6) (v := ?_) rfl (by kernel_rfl) (by kernel_rfl) (by kernel_rfl) (fun _ _ _ h => h) (Or.inl ⟨by rfl, ?_⟩) (by assumption) ?_
     rotate_left 1
     · intro w hSw
       try dsimp only at hSw
       go_simp
       try with_reducible rfl
     simp only [Act.put, List.getElem_toArray, List.getElem_cons_succ, List.getElem_cons_zero, List.setIfInBounds_toArray, List.set_cons_zero, List.set_cons_succ]
     refine wpAnyH_take (i := 7) (v := ?_) rfl (by kernel_rfl) (by kernel_rfl) (by kernel_rfl) (fun _ _ _ h => h) (Or.inl ⟨by rfl, ?_⟩) (by assumption) ?_
     rotate_left 1
     · intro w hSw
       try dsimp only at hSw
       go_simp
       try with_reducible rfl
     simp only [Act.put, List.getElem_toArray, List.getElem_cons_succ, List.getElem_cons_zero, List.setIfInBounds_toArray, List.set_cons_zero, List.set_cons_succ]
     refine wpAnyH_take (i := 8) (v := ?_) rfl (by kernel_rfl) (by kernel_rfl) (by kernel_rfl) (fun _ _ _ h => h) (Or.inl ⟨by rfl, ?_⟩) (by assumption) ?_
     rotate_left 1
     · intro w hSw
       try dsimp only at hSw
       go_simp
       try with_reducible rfl
     simp only [Act.put, List.getElem_toArray, List.getElem_cons_succ, List.getElem_cons_zero, List.setIfInBounds_toArray, List.set_cons_zero, List.set_cons_succ]
     refine wpAnyH_take (i := 9) (v := ?_) rfl (by kernel_rfl) (by kernel_rfl) (by kernel_rfl) (fun _ _ _ h => h) (Or.inl ⟨by rfl, ?_⟩) (by assumption) ?_
     rotate_left 1
     · intro w hSw
       try dsimp only at hSw
       go_simp
       try with_reducible rfl
     simp only [Act.put, List.getElem_toArray, List.getElem_cons_succ, List.getElem_cons_zero, List.setIfInBounds_toArray, List.set_cons_zero, List.set_cons_succ]
     refine wpAnyH_take (i := 10) (v := ?_) rfl (by kernel_rfl) (by kernel_rfl) (by kernel_rfl) (fun _ _ _ h => h) (Or.inl ⟨by rfl, ?_⟩) (by assumption) ?_
     rotate_left 1
     · intro w hSw
       try dsimp only at hSw
       go_simp
       try with_reducible rfl
     simp only [Act.put, List.getElem_toArray, List.getElem_cons_succ, List.getElem_cons_zero, List.setIfInBounds_toArray, List.set_cons_zero, List.set_cons_succ]
     refine wpAnyH_take (i := 11) (v := ?_) rfl (by kernel_rfl) (by kernel_rfl) (by kernel_rfl) (fun _ _ _ h => h) (Or.inl ⟨by rfl, ?_⟩) (by assumption) ?_
     rotate_left 1
     · intro w hSw
       try dsimp only at hSw
       go_simp
       try with_reducible rfl
     simp only [Act.put, List.getElem_toArray, List.getElem_cons_succ, List.getElem_cons_zero, List.setIfInBounds_toArray, List.set_cons_zero, List.set_cons_succ]
     refine wpAnyH_take (i := 12) (v := ?_) rfl (by kernel_rfl) (by kernel_rfl) (by kernel_rfl) (fun _ _ _ h => h) (Or.inl ⟨by rfl, ?_⟩) (by assumption) ?_
     rotate_left 1
     · intro w hSw
       try dsimp only at hSw
       go_simp
       try with_reducible rfl
     simp only [Act.put, List.getElem_toArray, List.getElem_cons_succ, List.getElem_cons_zero, List.setIfInBounds_toArray, List.set_cons_zero, List.set_cons_succ]
     refine wpAnyH_take (i := 13) (v := ?_) rfl (by kernel_rfl) (by kernel_rfl) (by kernel_rfl) (fun _ _ _ h => h) (Or.inl ⟨by rfl, ?_⟩) (by assumption) ?_
     rotate_left 1
     · intro w hSw
       try dsimp only at hSw
       go_simp
       try with_reducible rfl
     simp only [Act.put, List.getElem_toArray, List.getElem_cons_succ, List.getElem_cons_zero, List.setIfInBounds_toArray, List.set_cons_zero, List.set_cons_succ]
     refine wpAnyH_ready (rs := [14]) (by kernel_rfl) (by simp) ?_
     refine AllReadyH.cons rfl (fun K hK => ?_) AllReadyH.nil
     go_simp
     refine hK.out _ _ ?hS1 (fun hHeld => ?_)
     case hS1 => (try dsimp only); (go_keep)
     clear hK K
     try simp only [Act.put, List.getElem_toArray, List.getElem_cons_succ, List.getElem_cons_zero, List.setIfInBounds_toArray, List.set_cons_zero, List.set_cons_succ]
     refine wpAnyH_done (by kernel_rfl) ?_ _
     have HST3 : Hid (RdSt w1 ((((w2.setCell ⟨w1.heap.size, 1, none⟩ (.int .i64 x0)).setCell ⟨w1.heap.size, 2, none⟩ (.int .i64 x1)).setCell ⟨w1.heap.size, 3, none⟩ (.int .i64 x2)).setCell ⟨w1.heap.size, 4, none⟩ (.int .i64 x3)).drew (rPal q0 (qs, true)) nilV nilV nilV) := hide (by unfold rPal nAt; simp only [HX.out.1, HX.out.2.1, HX.out.2.2.1, HX.out.2.2.2]; exact ((((HST2.out.set 1 (.int .i64 x0) (r' := { q0 with pal := ⟨x0, q0.pal.d, q0.pal.h, q0.pal.gram⟩ }) rfl rfl rfl rfl).set 2 (.int .i64 x1) (r' := { q0 with pal := ⟨x0, x1, q0.pal.h, q0.pal.gram⟩ }) rfl rfl rfl rfl).set 3 (.int .i64 x2) (r' := { q0 with pal := ⟨x0, x1, x2, q0.pal.gram⟩ }) rfl rfl rfl rfl).set 4 (.int .i64 x3) (r' := { q0 with pal := ⟨x0, x1, x2, x3⟩ }) rfl rfl rfl rfl).drew)
     clear HG hq hl hnl hon kA fA yA kR yR fR hHeld
     have HG := HG2
     clear HG2
     obtain ⟨q1, hq1⟩ : ∃ q1, rPal q0 (qs, true) = q1 := ⟨_, rfl⟩
     rw [hq1] at HST3 HG
     have hrq1 : rqLen q1 ≤ 0 := by rw [← hq1]; exact hrq0
     obtain ⟨wc, hwc⟩ : ∃ wc, ((((w2.setCell ⟨w1.heap.size, 1, none⟩ (.int .i64 x0)).setCell ⟨w1.heap.size, 2, none⟩ (.int .i64 x1)).setCell ⟨w1.heap.size, 3, none⟩ (.int .i64 x2)).setCell ⟨w1.heap.size, 4, none⟩ (.int .i64 x3)).drew = wc := ⟨_, rfl⟩
     rw [hwc] at HST3 ⊢
     clear hwc hq1 HSN HX ncc ncm hne zbn hbl hbn hql c0 c1 c2 c3
     have PB3 := hide (P0.out.below HST3.out.below y0)
     have kA := PB3.out.cell
     have fA := PB3.out.frozen
     have yA := PB3.out.lt
     have kR := HST3.out.rq.cell
     have yR := HST3.out.rq.lt
     have fR := HST3.out.rq.frozen
     unfold rdCells at kR
     go_wp2_with fail
     refine (HLN.out (ByteArray.mk #[99, 108, 97, 115, 115, 101, 115]) 1 (2) _ _ (by omega) (by omega) (by omega) (by first | rfl | omega) HST3.out.below).mono ?_
     rintro e w4 ⟨⟨nv, rfl, hon⟩, hb⟩
     have HST4 := hide (HST3.out.call hb)
     have z4 := hb.size
     clear hb kA fA yA kR yR fR
     have PB4 := hide (P0.out.below HST4.out.below y0)
     have kA := PB4.out.cell
     have fA := PB4.out.frozen
     have yA := PB4.out.lt
     have kR := HST4.out.rq.cell
     have yR := HST4.out.rq.lt
     have fR := HST4.out.rq.frozen
     unfold rdCells at kR
     obtain ⟨⟨qs, qb⟩, hq⟩ : ∃ q, lnR P 2 (ByteArray.mk #[99, 108, 97, 115, 115, 101, 115]) 1 = q := ⟨_, rfl⟩
     rw [hq] at hon ⊢
     cases qb
     case false =>
       have HE := hide (show readS s = (rq0, ((2 : Nat) : Int)) by rw [← HG.out]; exact goA_stop HN.out (by omega) (by omega) (fun l hk hl => mayF_no (putL_rng _ _) (by omega) (by have := kind2 (r := q1) (lnR_f HN.out hq l hk hl); omega)))
       clear hq hon
       go_wp2_with fail
       have PF := set10 PB4.out rfl (.int .i64 0) (.int .i64 0) (.int .i64 0) (.int .i64 0) (.int .i64 0) (.int .i64 0) (nilV) (nilV) (.int .i64 0) (nilV)
       refine ret_cell2 Tryd.results29 rfl PF Tryd.underlying41 rfl (by kernel_rfl) rfl ⟨⟨nilV, nilV, nilV, ?_, by rw [HE.out]; exact RqOwn.nil_ _ _ rq0 rfl rfl rfl, by rw [HE.out]; exact Nat.zero_le _⟩, (L1.out.trans (HST4.out.below.mono z1)).grown (grown10 w4 w.heap.size (.int .i64 0) (.int .i64 0) (.int .i64 0) (.int .i64 0) (.int .i64 0) (.int .i64 0) (nilV) (nilV) (.int .i64 0) (nilV)) (by have := PB4.out.lt; omega) (fun z hz => by have := Option.some.inj hz; omega)⟩
       rw [HE.out]
       rfl
     obtain ⟨l, hkl, hl, hnl⟩ := lnR_t HN.out hq
     have hql : qs.length = 1 := by have := numsR_len (line := l) (by rw [hnl]); rw [hnl] at this; exact this
     obtain ⟨An, cn, rfl, sn⟩ := Own.slk' encInt_len hql hon
     obtain ⟨bn, on, rfl, hbl, hbn, hc⟩ := sn.ints (by omega)
     have HSN := hide sn
     have ncc := sn.cap
     have ncm := sn.max
     have c0 := hc 0 (by omega)
     simp only [Nat.add_zero] at c0
     have hne : w1.heap.size ≠ bn := by have := HST3.out.lt; omega
     have zbn : bn < w4.heap.size := hbn
     obtain ⟨x0, hx0⟩ : ∃ x, qs.getD 0 0 = x := ⟨_, rfl⟩
     rw [hx0] at c0
     have HX := hide hx0
     clear hc sn hx0
     have HG2 : Hid (goA (lnT P) ((lnL P).drop (2 + 1)) (2 + 1) (rCls q1 (qs, true)) 2 = readS s) := hide (by rw [← HG.out]; exact (goA_step HN.out hkl hl (by rw [putL_2 (by rw [hnl]), hnl]) rfl).symm)
     have HST6 : Hid (RdSt w1 (w4.setCell ⟨w1.heap.size, 5, none⟩ (.int .i64 x0)) (rCls q1 (qs, true)) nilV nilV nilV) := hide (by unfold rCls nAt; simp only [HX.out]; exact HST4.out.set 5 (.int .i64 x0) rfl rfl rfl rfl)
     clear HG hq hl hnl hon kA fA yA
     have HG := HG2
     clear HG2
     have hrl3 : rqLen (rCls q1 (qs, true)) ≤ 3 := Nat.le_trans hrq1 (by omega)
     have PB6 := hide (P0.out.below HST6.out.below y0)
     have kA := PB6.out.cell
     have fA := PB6.out.frozen
     have yA := PB6.out.lt
     go_wp2_with fail
     refine (HLN.out (ByteArray.mk #[119, 105, 116, 104]) 2 (3) _ _ (by omega) (by omega) (by omega) (by first | rfl | omega) HST6.out.below).mono ?_
     rintro e w7 ⟨⟨nv, rfl, hon⟩, hb⟩
     have HST7 := hide (HST6.out.call hb)
     have z7 := hb.size
     clear hb kA fA yA kR yR fR
     have PB7 := hide (P0.out.below HST7.out.below y0)
     have kA := PB7.out.cell
     have fA := PB7.out.frozen
     have yA := PB7.out.lt
     have kR := HST7.out.rq.cell
     have yR := HST7.out.rq.lt
     have fR := HST7.out.rq.frozen
     unfold rdCells at kR
     go_wp2_with fail
     go_loopw [7, 8, 9] (fun ai nv ok wr => ∃ (k : Nat) (r : Rq) (last : Int) (v1 v2 v3 : Value) (b : Nat), k ≤ n ∧ ai = .int .i64 k ∧ ok = .bool (lnR P k (ByteArray.mk #[119, 105, 116, 104]) 2).2 ∧ RdSt w1 wr r v1 v2 v3 ∧ rqLen r ≤ k ∧ (last = 2 ∨ last = 3) ∧ Hid (goA (lnT P) ((lnL P).drop k) k r last = readS s) ∧ Own 1 encInt 3 wr b nv (lnR P k (ByteArray.mk #[119, 105, 116, 104]) 2).1 ∧ b ≤ wr.heap.size ∧ w1.heap.size < b ∧ (∀ z, (v1.ownBlock = some z ∨ v2.ownBlock = some z ∨ v3.ownBlock = some z) → z < b)) (fun ai _ _ _ => n - (intOf ai).toNat)
     case atStart => exact ⟨3, _, 2, _, _, _, _, by omega, by first | rfl | exact congrArg (Value.int .i64) (by omega), rfl, HST7.out, hrl3, by omega, HG, hon, by have := z7; omega, by have := HST6.out.lt; omega, (fun z hz => by rcases hz with hz | hz | hz; exact (HST6.out.own.pr.lt z hz).2; exact (HST6.out.own.ty.lt z hz).2; exact (HST6.out.own.it.lt z hz).2)⟩
     case round =>
       obtain ⟨k, r, last, v1, v2, v3, b, hk, rfl, rfl, hst, hrl, hlast, HG, hon, hbb, hbw, hown⟩ := hrel
       have HST := hide hst
       clear hst
       have PB := hide (P0.out.below HST.out.below y0)
       have kA := PB.out.cell
       have fA := PB.out.frozen
       have yA := PB.out.lt
       have kR := HST.out.rq.cell
       have yR := HST.out.rq.lt
       have fR := HST.out.rq.frozen
       unfold rdCells at kR
       have y1 := HST.out.below.size
       obtain ⟨⟨qs, qb⟩, hq⟩ : ∃ q, lnR P k (ByteArray.mk #[119, 105, 116, 104]) 2 = q := ⟨_, rfl⟩
       rw [hq] at hon ⊢
       have HQ := hide hq
       cases qb
       case true =>
         obtain ⟨l, hkl, hl, hnl⟩ := lnR_t HN.out hq
         have HG2 : Hid (goA (lnT P) ((lnL P).drop (k + 1)) (k + 1) (rPr r (qs, true)) 3 = readS s) := hide (by rw [← HG.out]; exact (goA_step HN.out hkl hl (by rw [putL_3 (by rw [hnl]), hnl]) (by rcases hlast with rfl | rfl <;> rfl)).symm)
         have hql : qs.length = 2 := by have := numsR_len (line := l) (by rw [hnl]); rw [hnl] at this; exact this
         obtain ⟨An, cn, rfl, sn⟩ := Own.slk' encInt_len hql hon
         obtain ⟨bn, on, rfl, hbl, hbn, hc⟩ := sn.ints (by omega)
         have HSN := hide sn
         have ncc := sn.cap
         have ncm := sn.max
         have c0 := hc 0 (by omega)
         have c1 := hc 1 (by omega)
         simp only [Nat.add_zero] at c0
         have hne : w1.heap.size ≠ bn := by omega
         have zbn : bn < wr.heap.size := hbn
         obtain ⟨x0, hx0⟩ : ∃ x, qs.getD 0 0 = x := ⟨_, rfl⟩
         rw [hx0] at c0
         obtain ⟨x1, hx1⟩ : ∃ x, qs.getD 1 0 = x := ⟨_, rfl⟩
         rw [hx1] at c1
         have HX := hide (show qs.getD 0 0 = x0 ∧ qs.getD 1 0 = x1 from ⟨hx0, hx1⟩)
         clear hc sn hl hnl hq hon hx0 hx1
         go_wp2_with fail
         refine wp_region_held_drew (S := (fun w' => w'.cell? ⟨bn, on, none⟩ = some (.int .i64 x0) ∧ w'.cell? ⟨bn, on + 1, none⟩ = some (.int .i64 x1))) (by kernel_rfl) ?hS0 (fun hHeld => ?_)
         case hS0 => (exact ⟨c0, c1⟩)
         refine wpAnyH_take (i := 0) (v := ?_) rfl (by kernel_rfl) (by kernel_rfl) (by kernel_rfl) (fun _ _ _ h => h) (Or.inl ⟨by rfl, ?_⟩) (by assumption) ?_
         rotate_left 1
         · intro w hSw
           try dsimp only at hSw
           go_simp
           try with_reducible rfl
         simp only [Act.put, List.getElem_toArray, List.getElem_cons_succ, List.getElem_cons_zero, List.setIfInBounds_toArray, List.set_cons_zero, List.set_cons_succ]
         refine wpAnyH_take (i := 2) (v := ?_) rfl (by kernel_rfl) (by kernel_rfl) (by kernel_rfl) (fun _ _ _ h => h) (Or.inl ⟨by rfl, ?_⟩) (by assumption) ?_
         rotate_left 1
         · intro w hSw
           try dsimp only at hSw
           go_simp
           try with_reducible rfl
         simp only [Act.put, List.getElem_toArray, List.getElem_cons_succ, List.getElem_cons_zero, List.setIfInBounds_toArray, List.set_cons_zero, List.set_cons_succ]
         refine wpAnyH_take (i := 3) (v := ?_) rfl (by kernel_rfl) (by kernel_rfl) (by kernel_rfl) (fun _ _ _ h => h) (Or.inl ⟨by rfl, ?_⟩) (by assumption) ?_
         rotate_left 1
         · intro w hSw
           try dsimp only at hSw
           go_simp
           try with_reducible rfl
         simp only [Act.put, List.getElem_toArray, List.getElem_cons_succ, List.getElem_cons_zero, List.setIfInBounds_toArray, List.set_cons_zero, List.set_cons_succ]
         refine wpAnyH_take (i := 4) (v := ?_) rfl (by kernel_rfl) (by kernel_rfl) (by kernel_rfl) (fun _ _ _ h => h) (Or.inl ⟨by rfl, ?_⟩) (by assumption) ?_
         rotate_left 1
         · intro w hSw
           try dsimp only at hSw
           go_simp
           try with_reducible rfl
         simp only [Act.put, List.getElem_toArray, List.getElem_cons_succ, List.getElem_cons_zero, List.setIfInBounds_toArray, List.set_cons_zero, List.set_cons_succ]
         refine wpAnyH_take (i := 5) (v := ?_) rfl (by kernel_rfl) (by kernel_rfl) (by kernel_rfl) (fun _ _ _ h => h) (Or.inl ⟨by rfl, ?_⟩) (by assumption) ?_
         rotate_left 1
         · intro w hSw
           try dsimp only at hSw
           go_simp
           try with_reducible rfl
         simp only [Act.put, List.getElem_toArray, List.getElem_cons_succ, List.getElem_cons_zero, List.setIfInBounds_toArray, List.set_cons_zero, List.set_cons_succ]
         refine wpAnyH_take (i := 6) (v := ?_) rfl (by kernel_rfl) (by kernel_rfl) (by kernel_rfl) (fun _ _ _ h => h) (Or.inl ⟨by rfl, ?_⟩) (by assumption) ?_
         rotate_left 1
         · intro w hSw
           try dsimp only at hSw
           go_simp
           try with_reducible rfl
         simp only [Act.put, List.getElem_toArray, List.getElem_cons_succ, List.getElem_cons_zero, List.setIfInBounds_toArray, List.set_cons_zero, List.set_cons_succ]
         refine wpAnyH_take (i := 7) (v := ?_) rfl (by kernel_rfl) (by kernel_rfl) (by kernel_rfl) (fun _ _ _ h => h) (Or.inl ⟨by rfl, ?_⟩) (by assumption) ?_
         rotate_left 1
         · intro w hSw
           try dsimp only at hSw
           go_simp
           try with_reducible rfl
         simp only [Act.put, List.getElem_toArray, List.getElem_cons_succ, List.getElem_cons_zero, List.setIfInBounds_toArray, List.set_cons_zero, List.set_cons_succ]
         refine wpAnyH_take (i := 8) (v := ?_) rfl (by kernel_rfl) (by kernel_rfl) (by kernel_rfl) (fun _ _ _ h => h) (Or.inl ⟨by rfl, ?_⟩) (by assumption) ?_
         rotate_left 1
         · intro w hSw
           try dsimp only at hSw
           go_simp
           try with_reducible rfl
         simp only [Act.put, List.getElem_toArray, List.getElem_cons_succ, List.getElem_cons_zero, List.setIfInBounds_toArray, List.set_cons_zero, List.set_cons_succ]
         refine wpAnyH_ready (rs := [1, 9]) (by kernel_rfl) (by simp) ?_
         refine AllReadyH.cons rfl (fun K hK => ?_) ?_
         · skip
           go_simp
           refine hK.out _ _ ?hS1 (fun hHeld => ?_)
           case hS1 => (try dsimp only); (go_keep)
           clear hK K
           try simp only [Act.put, List.getElem_toArray, List.getElem_cons_succ, List.getElem_cons_zero, List.setIfInBounds_toArray, List.set_cons_zero, List.set_cons_succ]
           refine wpAnyH_ready (rs := [9]) (by kernel_rfl) (by simp) ?_
           refine AllReadyH.cons rfl (fun K hK => ?_) AllReadyH.nil
           go_simp
           refine hK.out _ _ ?hS1 (fun hHeld => ?_)
           case hS1 => (try dsimp only); (go_keep)
           clear hK K
           try simp only [Act.put, List.getElem_toArray, List.getElem_cons_succ, List.getElem_cons_zero, List.setIfInBounds_toArray, List.set_cons_zero, List.set_cons_succ]
           refine wpAnyH_ready (rs := [10]) (by kernel_rfl) (by simp) ?_
           refine AllReadyH.cons rfl (fun K hK => ?_) AllReadyH.nil
           refine step_app rfl (.tmp 85) (.tmp 93) rfl (by simp [Act.eval]) (by simp [Act.eval]) (app1K encPr_len encPr_one Tryd.underlying37 prInfo rfl (by omega) (by omega) (HST.out.drew.own.pr) (HST.out.drew.lt) (by unfold rqLen at hrl; omega) ⟨x0, x1⟩ wr.heap.size rfl _ rfl) ?_
           intro v' wz ho2 hg2 hat2
           obtain ⟨m5, hm5⟩ : ∃ m5, (r.pairs ++ [(⟨x0, x1⟩ : Pr)]).length = m5 := ⟨_, rfl⟩
           obtain ⟨A5, c5, rfl, s5'⟩ := Own.slk' encPr_len hm5 ho2
           clear s5'
           have PZ := (HST.out.drew.rq.alloc (.cells #[.int .i64 x0, .int .i64 x1] 82)).grown hg2 (fun e => by have := (HST.out.own.pr.lt _ e.symm).1; omega)
           have kZ := PZ.cell
           have fZ := PZ.frozen
           have yZ := PZ.lt
           unfold rdCells at kZ
           have HN2 := ((HSN.out.drew.alloc (by simp) (.cells #[.int .i64 x0, .int .i64 x1] 82)).grown hg2 (by first | (simp; done) | (simp; omega)) (fun z hz => .inl (hown z (.inl hz)))).intsAt
           have d0 := HN2 0 (by omega)
           have d1 := HN2 1 (by omega)
           simp only [Nat.add_zero] at d0
           simp only [HX.out.1, HX.out.2] at d0 d1
           clear HN2
           refine hK.out _ _ ⟨d0, d1⟩ (fun hHeld => ?_)
           clear hK K
           try simp only [Act.put, List.getElem_toArray, List.getElem_cons_succ, List.getElem_cons_zero, List.setIfInBounds_toArray, List.set_cons_zero, List.set_cons_succ]
           refine wpAnyH_take (i := 11) (v := ?_) rfl (by kernel_rfl) (by kernel_rfl) (by kernel_rfl) (fun _ _ _ h => h) (Or.inl ⟨by rfl, ?_⟩) (by assumption) ?_
           rotate_left 1
           · intro w hSw
             try dsimp only at hSw
             go_simp
             try with_reducible rfl
           simp only [Act.put, List.getElem_toArray, List.getElem_cons_succ, List.getElem_cons_zero, List.setIfInBounds_toArray, List.set_cons_zero, List.set_cons_succ]
           refine wpAnyH_ready (rs := [12]) (by kernel_rfl) (by simp) ?_
           refine AllReadyH.cons rfl (fun K hK => ?_) AllReadyH.nil
           go_simp
           refine hK.out _ _ ?hS1 (fun hHeld => ?_)
           case hS1 => (try dsimp only); (go_keep)
           clear hK K
           try simp only [Act.put, List.getElem_toArray, List.getElem_cons_succ, List.getElem_cons_zero, List.setIfInBounds_toArray, List.set_cons_zero, List.set_cons_succ]
           refine wpAnyH_done (by kernel_rfl) ?_ _
           have HSTz : Hid (RdSt w1 (wz.setCell ⟨w1.heap.size, 6, none⟩ (.slice A5 m5 c5)) (rPr r (qs, true)) (.slice A5 m5 c5) (v2) (v3)) := hide (by
             have h := HST.out.drew.put (.cells #[.int .i64 x0, .int .i64 x1] 82) hg2 (fun z hz => (HST.out.own.pr.lt z hz).1) (HST.out.drew.own.pushPr (.cells #[.int .i64 x0, .int .i64 x1] 82) ho2 hg2 hat2) 6 (.slice A5 m5 c5) rfl
             unfold rPr nAt
             simp only [HX.out.1, HX.out.2]
             exact h)
           have hzz : wr.heap.size ≤ wz.heap.size := by have := hg2.size; simp only [World.size_alloc, World.size_drew] at this; omega
           clear ho2 hg2 hat2 PZ kZ fZ yZ hHeld d0 d1 hm5
           have hrl2 : rqLen (rPr r (qs, true)) ≤ k + 1 := by unfold rqLen at hrl ⊢; simp [rPr]; omega
           clear kA fA yA kR yR fR
           have PBz := hide (P0.out.below HSTz.out.below y0)
           have kA := PBz.out.cell
           have fA := PBz.out.frozen
           have yA := PBz.out.lt
           have kR := HSTz.out.rq.cell
           have yR := HSTz.out.rq.lt
           have fR := HSTz.out.rq.frozen
           unfold rdCells at kR
           go_wp2_with fail
           refine (HLN.out (ByteArray.mk #[119, 105, 116, 104]) 2 (k + 1) _ _ (by omega) (by omega) (by omega) (by first | rfl | omega) HSTz.out.below).mono ?_
           rintro e w9 ⟨⟨nv, rfl, hon⟩, hb⟩
           have HST9 := hide (HSTz.out.call hb)
           have z9 := hb.size
           have HON9 := hide hon
           clear hb hon kA fA yA kR yR fR
           go_wp2_with fail
           go_roundw
           case rel => exact ⟨k + 1, _, 3, _, _, _, _, by omega, by go_num, rfl, HST9.out, hrl2, by omega, HG2, HON9.out, z9, by have := HSTz.out.lt; omega, (fun z hz => by rcases hz with hz | hz | hz; exact (HSTz.out.own.pr.lt z hz).2; exact (HSTz.out.own.ty.lt z hz).2; exact (HSTz.out.own.it.lt z hz).2)⟩
           case measure => first | omega | (simp [intOf]; done) | (simp [intOf]; omega)
         refine AllReadyH.cons rfl (fun K hK => ?_) ?_
         · skip
           go_simp
           refine hK.out _ _ ?hS1 (fun hHeld => ?_)
           case hS1 => (try dsimp only); (go_keep)
           clear hK K
           try simp only [Act.put, List.getElem_toArray, List.getElem_cons_succ, List.getElem_cons_zero, List.setIfInBounds_toArray, List.set_cons_zero, List.set_cons_succ]
           refine wpAnyH_ready (rs := [1]) (by kernel_rfl) (by simp) ?_
           refine AllReadyH.cons rfl (fun K hK => ?_) AllReadyH.nil
           go_simp
           refine hK.out _ _ ?hS1 (fun hHeld => ?_)
           case hS1 => (try dsimp only); (go_keep)
           clear hK K
           try simp only [Act.put, List.getElem_toArray, List.getElem_cons_succ, List.getElem_cons_zero, List.setIfInBounds_toArray, List.set_cons_zero, List.set_cons_succ]
           refine wpAnyH_ready (rs := [10]) (by kernel_rfl) (by simp) ?_
           refine AllReadyH.cons rfl (fun K hK => ?_) AllReadyH.nil
           refine step_app rfl (.tmp 85) (.tmp 93) rfl (by simp [Act.eval]) (by simp [Act.eval]) (app1K encPr_len encPr_one Tryd.underlying37 prInfo rfl (by omega) (by omega) (HST.out.drew.own.pr) (HST.out.drew.lt) (by unfold rqLen at hrl; omega) ⟨x0, x1⟩ wr.heap.size rfl _ rfl) ?_
           intro v' wz ho2 hg2 hat2
           obtain ⟨m5, hm5⟩ : ∃ m5, (r.pairs ++ [(⟨x0, x1⟩ : Pr)]).length = m5 := ⟨_, rfl⟩
           obtain ⟨A5, c5, rfl, s5'⟩ := Own.slk' encPr_len hm5 ho2
           clear s5'
           have PZ := (HST.out.drew.rq.alloc (.cells #[.int .i64 x0, .int .i64 x1] 82)).grown hg2 (fun e => by have := (HST.out.own.pr.lt _ e.symm).1; omega)
           have kZ := PZ.cell
           have fZ := PZ.frozen
           have yZ := PZ.lt
           unfold rdCells at kZ
           have HN2 := ((HSN.out.drew.alloc (by simp) (.cells #[.int .i64 x0, .int .i64 x1] 82)).grown hg2 (by first | (simp; done) | (simp; omega)) (fun z hz => .inl (hown z (.inl hz)))).intsAt
           have d0 := HN2 0 (by omega)
           have d1 := HN2 1 (by omega)
           simp only [Nat.add_zero] at d0
           simp only [HX.out.1, HX.out.2] at d0 d1
           clear HN2
           refine hK.out _ _ ⟨d0, d1⟩ (fun hHeld => ?_)
           clear hK K
           try simp only [Act.put, List.getElem_toArray, List.getElem_cons_succ, List.getElem_cons_zero, List.setIfInBounds_toArray, List.set_cons_zero, List.set_cons_succ]
           refine wpAnyH_take (i := 11) (v := ?_) rfl (by kernel_rfl) (by kernel_rfl) (by kernel_rfl) (fun _ _ _ h => h) (Or.inl ⟨by rfl, ?_⟩) (by assumption) ?_
           rotate_left 1
           · intro w hSw
             try dsimp only at hSw
             go_simp
             try with_reducible rfl
           simp only [Act.put, List.getElem_toArray, List.getElem_cons_succ, List.getElem_cons_zero, List.setIfInBounds_toArray, List.set_cons_zero, List.set_cons_succ]
           refine wpAnyH_ready (rs := [12]) (by kernel_rfl) (by simp) ?_
           refine AllReadyH.cons rfl (fun K hK => ?_) AllReadyH.nil
           go_simp
           refine hK.out _ _ ?hS1 (fun hHeld => ?_)
           case hS1 => (try dsimp only); (go_keep)
           clear hK K
           try simp only [Act.put, List.getElem_toArray, List.getElem_cons_succ, List.getElem_cons_zero, List.setIfInBounds_toArray, List.set_cons_zero, List.set_cons_succ]
           refine wpAnyH_done (by kernel_rfl) ?_ _
           have HSTz : Hid (RdSt w1 (wz.setCell ⟨w1.heap.size, 6, none⟩ (.slice A5 m5 c5)) (rPr r (qs, true)) (.slice A5 m5 c5) (v2) (v3)) := hide (by
             have h := HST.out.drew.put (.cells #[.int .i64 x0, .int .i64 x1] 82) hg2 (fun z hz => (HST.out.own.pr.lt z hz).1) (HST.out.drew.own.pushPr (.cells #[.int .i64 x0, .int .i64 x1] 82) ho2 hg2 hat2) 6 (.slice A5 m5 c5) rfl
             unfold rPr nAt
             simp only [HX.out.1, HX.out.2]
             exact h)
           have hzz : wr.heap.size ≤ wz.heap.size := by have := hg2.size; simp only [World.size_alloc, World.size_drew] at this; omega
           clear ho2 hg2 hat2 PZ kZ fZ yZ hHeld d0 d1 hm5
           have hrl2 : rqLen (rPr r (qs, true)) ≤ k + 1 := by unfold rqLen at hrl ⊢; simp [rPr]; omega
           clear kA fA yA kR yR fR
           have PBz := hide (P0.out.below HSTz.out.below y0)
           have kA := PBz.out.cell
           have fA := PBz.out.frozen
           have yA := PBz.out.lt
           have kR := HSTz.out.rq.cell
           have yR := HSTz.out.rq.lt
           have fR := HSTz.out.rq.frozen
           unfold rdCells at kR
           go_wp2_with fail
           refine (HLN.out (ByteArray.mk #[119, 105, 116, 104]) 2 (k + 1) _ _ (by omega) (by omega) (by omega) (by first | rfl | omega) HSTz.out.below).mono ?_
           rintro e w9 ⟨⟨nv, rfl, hon⟩, hb⟩
           have HST9 := hide (HSTz.out.call hb)
           have z9 := hb.size
           have HON9 := hide hon
           clear hb hon kA fA yA kR yR fR
           go_wp2_with fail
           go_roundw
           case rel => exact ⟨k + 1, _, 3, _, _, _, _, by omega, by go_num, rfl, HST9.out, hrl2, by omega, HG2, HON9.out, z9, by have := HSTz.out.lt; omega, (fun z hz => by rcases hz with hz | hz | hz; exact (HSTz.out.own.pr.lt z hz).2; exact (HSTz.out.own.ty.lt z hz).2; exact (HSTz.out.own.it.lt z hz).2)⟩
           case measure => first | omega | (simp [intOf]; done) | (simp [intOf]; omega)
         exact AllReadyH.nil
       have HNW : Hid (last = 4 ∨ ∀ l, k < n → P[k]? = some l → (numsR l (ByteArray.mk #[119, 105, 116, 104]) 2).2 = false) := hide (.inr (lnR_f HN.out hq))
       clear hq hon
       obtain ⟨wa, hwa⟩ : ∃ wa : World, wa = wr := ⟨_, rfl⟩
       subst hwa
       go_wp2_with fail
       refine (HLN.out (ByteArray.mk #[116, 121, 112, 101]) 7 (k) _ _ (by omega) (by omega) (by omega) (by first | rfl | omega) HST.out.below).mono ?_
       rintro e w5 ⟨⟨nv, rfl, hon⟩, hb⟩
       have HST5 := hide (HST.out.call hb)
       have z5 := hb.size
       clear hb kA fA yA kR yR fR
       have PB5 := hide (P0.out.below HST5.out.below y0)
       have kA := PB5.out.cell
       have fA := PB5.out.frozen
       have yA := PB5.out.lt
       have kR := HST5.out.rq.cell
       have yR := HST5.out.rq.lt
       have fR := HST5.out.rq.frozen
       unfold rdCells at kR
       go_wp2_with fail
       go_loopw [7, 8, 9] (fun ai nv ok wr => ∃ (k : Nat) (r : Rq) (last : Int) (v1 v2 v3 : Value) (b : Nat), k ≤ n ∧ ai = .int .i64 k ∧ ok = .bool (lnR P k (ByteArray.mk #[116, 121, 112, 101]) 7).2 ∧ RdSt w1 wr r v1 v2 v3 ∧ rqLen r ≤ k ∧ (2 ≤ last ∧ last ≤ 4) ∧ Hid (goA (lnT P) ((lnL P).drop k) k r last = readS s) ∧ Own 1 encInt 3 wr b nv (lnR P k (ByteArray.mk #[116, 121, 112, 101]) 7).1 ∧ b ≤ wr.heap.size ∧ w1.heap.size < b ∧ (∀ z, (v1.ownBlock = some z ∨ v2.ownBlock = some z ∨ v3.ownBlock = some z) → z < b) ∧ Hid (last = 4 ∨ ∀ l, k < n → P[k]? = some l → (numsR l (ByteArray.mk #[119, 105, 116, 104]) 2).2 = false)) (fun ai _ _ _ => n - (intOf ai).toNat)
       case atStart => exact ⟨k, r, last, _, _, _, _, by omega, by first | rfl | exact congrArg (Value.int .i64) (by omega), rfl, HST5.out, hrl, by omega, HG, hon, by have := z5; omega, by have := HST.out.lt; omega, (fun z hz => by rcases hz with hz | hz | hz; exact (HST.out.own.pr.lt z hz).2; exact (HST.out.own.ty.lt z hz).2; exact (HST.out.own.it.lt z hz).2), HNW⟩
       case round =>
         obtain ⟨k, r, last, v1, v2, v3, b, hk, rfl, rfl, hst, hrl, hlast, HG, hon, hbb, hbw, hown, HNW⟩ := hrel
         have HST := hide hst
         clear hst
         have PB := hide (P0.out.below HST.out.below y0)
         have kA := PB.out.cell
         have fA := PB.out.frozen
         have yA := PB.out.lt
         have kR := HST.out.rq.cell
         have yR := HST.out.rq.lt
         have fR := HST.out.rq.frozen
         unfold rdCells at kR
         have y1 := HST.out.below.size
         obtain ⟨⟨qs, qb⟩, hq⟩ : ∃ q, lnR P k (ByteArray.mk #[116, 121, 112, 101]) 7 = q := ⟨_, rfl⟩
         rw [hq] at hon ⊢
         have HQ := hide hq
         cases qb
         case true =>
           obtain ⟨l, hkl, hl, hnl⟩ := lnR_t HN.out hq
           have HG2 : Hid (goA (lnT P) ((lnL P).drop (k + 1)) (k + 1) (rTy r (qs, true)) 4 = readS s) := hide (by rw [← HG.out]; exact (goA_step HN.out hkl hl (by rw [putL_4 (by rw [hnl]), hnl]) (by have h3 : last = 2 ∨ last = 3 ∨ last = 4 := (by omega); rcases h3 with rfl | rfl | rfl <;> rfl)).symm)
           have hql : qs.length = 7 := by have := numsR_len (line := l) (by rw [hnl]); rw [hnl] at this; exact this
           obtain ⟨An, cn, rfl, sn⟩ := Own.slk' encInt_len hql hon
           obtain ⟨bn, on, rfl, hbl, hbn, hc⟩ := sn.ints (by omega)
           have HSN := hide sn
           have ncc := sn.cap
           have ncm := sn.max
           have c0 := hc 0 (by omega)
           have c1 := hc 1 (by omega)
           have c2 := hc 2 (by omega)
           have c3 := hc 3 (by omega)
           have c4 := hc 4 (by omega)
           have c5 := hc 5 (by omega)
           have c6 := hc 6 (by omega)
           simp only [Nat.add_zero] at c0
           have hne : w1.heap.size ≠ bn := by omega
           have zbn : bn < wr.heap.size := hbn
           obtain ⟨x0, hx0⟩ : ∃ x, qs.getD 0 0 = x := ⟨_, rfl⟩
           rw [hx0] at c0
           obtain ⟨x1, hx1⟩ : ∃ x, qs.getD 1 0 = x := ⟨_, rfl⟩
           rw [hx1] at c1
           obtain ⟨x2, hx2⟩ : ∃ x, qs.getD 2 0 = x := ⟨_, rfl⟩
           rw [hx2] at c2
           obtain ⟨x3, hx3⟩ : ∃ x, qs.getD 3 0 = x := ⟨_, rfl⟩
           rw [hx3] at c3
           obtain ⟨x4, hx4⟩ : ∃ x, qs.getD 4 0 = x := ⟨_, rfl⟩
           rw [hx4] at c4
           obtain ⟨x5, hx5⟩ : ∃ x, qs.getD 5 0 = x := ⟨_, rfl⟩
           rw [hx5] at c5
           obtain ⟨x6, hx6⟩ : ∃ x, qs.getD 6 0 = x := ⟨_, rfl⟩
           rw [hx6] at c6
           have HX := hide (show qs.getD 0 0 = x0 ∧ qs.getD 1 0 = x1 ∧ qs.getD 2 0 = x2 ∧ qs.getD 3 0 = x3 ∧ qs.getD 4 0 = x4 ∧ qs.getD 5 0 = x5 ∧ qs.getD 6 0 = x6 from ⟨hx0, hx1, hx2, hx3, hx4, hx5, hx6⟩)
           clear hc sn hl hnl hq hon hx0 hx1 hx2 hx3 hx4 hx5 hx6
           go_wp2_with fail
           refine wp_region_held_drew (S := (fun w' => w'.cell? ⟨bn, on, none⟩ = some (.int .i64 x0) ∧ w'.cell? ⟨bn, on + 1, none⟩ = some (.int .i64 x1) ∧ w'.cell? ⟨bn, on + 2, none⟩ = some (.int .i64 x2) ∧ w'.cell? ⟨bn, on + 3, none⟩ = some (.int .i64 x3) ∧ w'.cell? ⟨bn, on + 4, none⟩ = some (.int .i64 x4) ∧ w'.cell? ⟨bn, on + 5, none⟩ = some (.int .i64 x5) ∧ w'.cell? ⟨bn, on + 6, none⟩ = some (.int .i64 x6))) (by kernel_rfl) ?hS0 (fun hHeld => ?_)
           case hS0 => (exact ⟨c0, c1, c2, c3, c4, c5, c6⟩)
           refine wpAnyH_take (i := 0) (v := ?_) rfl (by kernel_rfl) (by kernel_rfl) (by kernel_rfl) (fun _ _ _ h => h) (Or.inl ⟨by rfl, ?_⟩) (by assumption) ?_
           rotate_left 1
           · intro w hSw
             try dsimp only at hSw
             go_simp
             try with_reducible rfl
           simp only [Act.put, List.getElem_toArray, List.getElem_cons_succ, List.getElem_cons_zero, List.setIfInBounds_toArray, List.set_cons_zero, List.set_cons_succ]
           refine wpAnyH_take (i := 2) (v := ?_) rfl (by kernel_rfl) (by kernel_rfl) (by kernel_rfl) (fun _ _ _ h => h) (Or.inl ⟨by rfl, ?_⟩) (by assumption) ?_
           rotate_left 1
           · intro w hSw
             try dsimp only at hSw
             go_simp
             try with_reducible rfl
           simp only [Act.put, List.getElem_toArray, List.getElem_cons_succ, List.getElem_cons_zero, List.setIfInBounds_toArray, List.set_cons_zero, List.set_cons_succ]
           refine wpAnyH_take (i := 3) (v := ?_) rfl (by kernel_rfl) (by kernel_rfl) (by kernel_rfl) (fun _ _ _ h => h) (Or.inl ⟨by rfl, ?_⟩) (by assumption) ?_
           rotate_left 1
           · intro w hSw
             try dsimp only at hSw
             go_simp
             try with_reducible rfl
           simp only [Act.put, List.getElem_toArray, List.getElem_cons_succ, List.getElem_cons_zero, List.setIfInBounds_toArray, List.set_cons_zero, List.set_cons_succ]
           refine wpAnyH_take (i := 4) (v := ?_) rfl (by kernel_rfl) (by kernel_rfl) (by kernel_rfl) (fun _ _ _ h => h) (Or.inl ⟨by rfl, ?_⟩) (by assumption) ?_
           rotate_left 1
           · intro w hSw
             try dsimp only at hSw
             go_simp
             try with_reducible rfl
           simp only [Act.put, List.getElem_toArray, List.getElem_cons_succ, List.getElem_cons_zero, List.setIfInBounds_toArray, List.set_cons_zero, List.set_cons_succ]
           refine wpAnyH_take (i := 5) (v := ?_) rfl (by kernel_rfl) (by kernel_rfl) (by kernel_rfl) (fun _ _ _ h => h) (Or.inl ⟨by rfl, ?_⟩) (by assumption) ?_
           rotate_left 1
           · intro w hSw
             try dsimp only at hSw
             go_simp
             try with_reducible rfl
           simp only [Act.put, List.getElem_toArray, List.getElem_cons_succ, List.getElem_cons_zero, List.setIfInBounds_toArray, List.set_cons_zero, List.set_cons_succ]
           refine wpAnyH_take (i := 6) (v := ?_) rfl (by kernel_rfl) (by kernel_rfl) (by kernel_rfl) (fun _ _ _ h => h) (Or.inl ⟨by rfl, ?_⟩) (by assumption) ?_
           rotate_left 1
           · intro w hSw
             try dsimp only at hSw
             go_simp
             try with_reducible rfl
           simp only [Act.put, List.getElem_toArray, List.getElem_cons_succ, List.getElem_cons_zero, List.setIfInBounds_toArray, List.set_cons_zero, List.set_cons_succ]
           refine wpAnyH_take (i := 7) (v := ?_) rfl (by kernel_rfl) (by kernel_rfl) (by kernel_rfl) (fun _ _ _ h => h) (Or.inl ⟨by rfl, ?_⟩) (by assumption) ?_
           rotate_left 1
           · intro w hSw
             try dsimp only at hSw
             go_simp
             try with_reducible rfl
           simp only [Act.put, List.getElem_toArray, List.getElem_cons_succ, List.getElem_cons_zero, List.setIfInBounds_toArray, List.set_cons_zero, List.set_cons_succ]
           refine wpAnyH_take (i := 8) (v := ?_) rfl (by kernel_rfl) (by kernel_rfl) (by kernel_rfl) (fun _ _ _ h => h) (Or.inl ⟨by rfl, ?_⟩) (by assumption) ?_
           rotate_left 1
           · intro w hSw
             try dsimp only at hSw
             go_simp
             try with_reducible rfl
           simp only [Act.put, List.getElem_toArray, List.getElem_cons_succ, List.getElem_cons_zero, List.setIfInBounds_toArray, List.set_cons_zero, List.set_cons_succ]
           refine wpAnyH_take (i := 9) (v := ?_) rfl (by kernel_rfl) (by kernel_rfl) (by kernel_rfl) (fun _ _ _ h => h) (Or.inl ⟨by rfl, ?_⟩) (by assumption) ?_
           rotate_left 1
           · intro w hSw
             try dsimp only at hSw
             go_simp
             try with_reducible rfl
           simp only [Act.put, List.getElem_toArray, List.getElem_cons_succ, List.getElem_cons_zero, List.setIfInBounds_toArray, List.set_cons_zero, List.set_cons_succ]
           refine wpAnyH_take (i := 10) (v := ?_) rfl (by kernel_rfl) (by kernel_rfl) (by kernel_rfl) (fun _ _ _ h => h) (Or.inl ⟨by rfl, ?_⟩) (by assumption) ?_
           rotate_left 1
           · intro w hSw
             try dsimp only at hSw
             go_simp
             try with_reducible rfl
           simp only [Act.put, List.getElem_toArray, List.getElem_cons_succ, List.getElem_cons_zero, List.setIfInBounds_toArray, List.set_cons_zero, List.set_cons_succ]
           refine wpAnyH_take (i := 11) (v := ?_) rfl (by kernel_rfl) (by kernel_rfl) (by kernel_rfl) (fun _ _ _ h => h) (Or.inl ⟨by rfl, ?_⟩) (by assumption) ?_
           rotate_left 1
           · intro w hSw
             try dsimp only at hSw
             go_simp
             try with_reducible rfl
           simp only [Act.put, List.getElem_toArray, List.getElem_cons_succ, List.getElem_cons_zero, List.setIfInBounds_toArray, List.set_cons_zero, List.set_cons_succ]
           refine wpAnyH_take (i := 12) (v := ?_) rfl (by kernel_rfl) (by kernel_rfl) (by kernel_rfl) (fun _ _ _ h => h) (Or.inl ⟨by rfl, ?_⟩) (by assumption) ?_
           rotate_left 1
           · intro w hSw
             try dsimp only at hSw
             go_simp
             try with_reducible rfl
           simp only [Act.put, List.getElem_toArray, List.getElem_cons_succ, List.getElem_cons_zero, List.setIfInBounds_toArray, List.set_cons_zero, List.set_cons_succ]
           refine wpAnyH_take (i := 13) (v := ?_) rfl (by kernel_rfl) (by kernel_rfl) (by kernel_rfl) (fun _ _ _ h => h) (Or.inl ⟨by rfl, ?_⟩) (by assumption) ?_
           rotate_left 1
           · intro w hSw
             try dsimp only at hSw
             go_simp
             try with_reducible rfl
           simp only [Act.put, List.getElem_toArray, List.getElem_cons_succ, List.getElem_cons_zero, List.setIfInBounds_toArray, List.set_cons_zero, List.set_cons_succ]
           refine wpAnyH_take (i := 14) (v := ?_) rfl (by kernel_rfl) (by kernel_rfl) (by kernel_rfl) (fun _ _ _ h => h) (Or.inl ⟨by rfl, ?_⟩) (by assumption) ?_
           rotate_left 1
           · intro w hSw
             try dsimp only at hSw
             go_simp
             try with_reducible rfl
           simp only [Act.put, List.getElem_toArray, List.getElem_cons_succ, List.getElem_cons_zero, List.setIfInBounds_toArray, List.set_cons_zero, List.set_cons_succ]
           refine wpAnyH_take (i := 15) (v := ?_) rfl (by kernel_rfl) (by kernel_rfl) (by kernel_rfl) (fun _ _ _ h => h) (Or.inl ⟨by rfl, ?_⟩) (by assumption) ?_
           rotate_left 1
           · intro w hSw
             try dsimp only at hSw
             go_simp
             try with_reducible rfl
           simp only [Act.put, List.getElem_toArray, List.getElem_cons_succ, List.getElem_cons_zero, List.setIfInBounds_toArray, List.set_cons_zero, List.set_cons_succ]
           refine wpAnyH_take (i := 16) (v := ?_) rfl (by kernel_rfl) (by kernel_rfl) (by kernel_rfl) (fun _ _ _ h => h) (Or.inl ⟨by rfl, ?_⟩) (by assumption) ?_
           rotate_left 1
           · intro w hSw
             try dsimp only at hSw
             go_simp
             try with_reducible rfl
           simp only [Act.put, List.getElem_toArray, List.getElem_cons_succ, List.getElem_cons_zero, List.setIfInBounds_toArray, List.set_cons_zero, List.set_cons_succ]
           refine wpAnyH_take (i := 17) (v := ?_) rfl (by kernel_rfl) (by kernel_rfl) (by kernel_rfl) (fun _ _ _ h => h) (Or.inl ⟨by rfl, ?_⟩) (by assumption) ?_
           rotate_left 1
           · intro w hSw
             try dsimp only at hSw
             go_simp
             try with_reducible rfl
           simp only [Act.put, List.getElem_toArray, List.getElem_cons_succ, List.getElem_cons_zero, List.setIfInBounds_toArray, List.set_cons_zero, List.set_cons_succ]
           refine wpAnyH_take (i := 18) (v := ?_) rfl (by kernel_rfl) (by kernel_rfl) (by kernel_rfl) (fun _ _ _ h => h) (Or.inl ⟨by rfl, ?_⟩) (by assumption) ?_
           rotate_left 1
           · intro w hSw
             try dsimp only at hSw
             go_simp
             try with_reducible rfl
           simp only [Act.put, List.getElem_toArray, List.getElem_cons_succ, List.getElem_cons_zero, List.setIfInBounds_toArray, List.set_cons_zero, List.set_cons_succ]
           refine wpAnyH_take (i := 19) (v := ?_) rfl (by kernel_rfl) (by kernel_rfl) (by kernel_rfl) (fun _ _ _ h => h) (Or.inl ⟨by rfl, ?_⟩) (by assumption) ?_
           rotate_left 1
           · intro w hSw
             try dsimp only at hSw
             go_simp
             try with_reducible rfl
           simp only [Act.put, List.getElem_toArray, List.getElem_cons_succ, List.getElem_cons_zero, List.setIfInBounds_toArray, List.set_cons_zero, List.set_cons_succ]
           refine wpAnyH_take (i := 20) (v := ?_) rfl (by kernel_rfl) (by kernel_rfl) (by kernel_rfl) (fun _ _ _ h => h) (Or.inl ⟨by rfl, ?_⟩) (by assumption) ?_
           rotate_left 1
           · intro w hSw
             try dsimp only at hSw
             go_simp
             try with_reducible rfl
           simp only [Act.put, List.getElem_toArray, List.getElem_cons_succ, List.getElem_cons_zero, List.setIfInBounds_toArray, List.set_cons_zero, List.set_cons_succ]
           refine wpAnyH_take (i := 21) (v := ?_) rfl (by kernel_rfl) (by kernel_rfl) (by kernel_rfl) (fun _ _ _ h => h) (Or.inl ⟨by rfl, ?_⟩) (by assumption) ?_
           rotate_left 1
           · intro w hSw
             try dsimp only at hSw
             go_simp
             try with_reducible rfl
           simp only [Act.put, List.getElem_toArray, List.getElem_cons_succ, List.getElem_cons_zero, List.setIfInBounds_toArray, List.set_cons_zero, List.set_cons_succ]
           refine wpAnyH_take (i := 22) (v := ?_) rfl (by kernel_rfl) (by kernel_rfl) (by kernel_rfl) (fun _ _ _ h => h) (Or.inl ⟨by rfl, ?_⟩) (by assumption) ?_
           rotate_left 1
           · intro w hSw
             try dsimp only at hSw
             go_simp
             try with_reducible rfl
           simp only [Act.put, List.getElem_toArray, List.getElem_cons_succ, List.getElem_cons_zero, List.setIfInBounds_toArray, List.set_cons_zero, List.set_cons_succ]
           refine wpAnyH_take (i := 23) (v := ?_) rfl (by kernel_rfl) (by kernel_rfl) (by kernel_rfl) (fun _ _ _ h => h) (Or.inl ⟨by rfl, ?_⟩) (by assumption) ?_
           rotate_left 1
           · intro w hSw
             try dsimp only at hSw
             go_simp
             try with_reducible rfl
           simp only [Act.put, List.getElem_toArray, List.getElem_cons_succ, List.getElem_cons_zero, List.setIfInBounds_toArray, List.set_cons_zero, List.set_cons_succ]
           refine wpAnyH_ready (rs := [1, 24]) (by kernel_rfl) (by simp) ?_
           refine AllReadyH.cons rfl (fun K hK => ?_) ?_
           · skip
             go_simp
             refine hK.out _ _ ?hS1 (fun hHeld => ?_)
             case hS1 => (try dsimp only); (go_keep)
             clear hK K
             try simp only [Act.put, List.getElem_toArray, List.getElem_cons_succ, List.getElem_cons_zero, List.setIfInBounds_toArray, List.set_cons_zero, List.set_cons_succ]
             refine wpAnyH_ready (rs := [24]) (by kernel_rfl) (by simp) ?_
             refine AllReadyH.cons rfl (fun K hK => ?_) AllReadyH.nil
             go_simp
             refine hK.out _ _ ?hS1 (fun hHeld => ?_)
             case hS1 => (try dsimp only); (go_keep)
             clear hK K
             try simp only [Act.put, List.getElem_toArray, List.getElem_cons_succ, List.getElem_cons_zero, List.setIfInBounds_toArray, List.set_cons_zero, List.set_cons_succ]
             refine wpAnyH_ready (rs := [25]) (by kernel_rfl) (by simp) ?_
             refine AllReadyH.cons rfl (fun K hK => ?_) AllReadyH.nil
             refine step_app rfl (.tmp 112) (.tmp 135) rfl (by simp [Act.eval]) (by simp [Act.eval]) (app1K encTy_len encTy_one Tryd.underlying38 tyInfo rfl (by omega) (by omega) (HST.out.drew.own.ty) (HST.out.drew.lt) (by unfold rqLen at hrl; omega) ⟨x0, x1, x2, x3, x4, x5, x6⟩ wr.heap.size rfl _ rfl) ?_
             intro v' wz ho2 hg2 hat2
             obtain ⟨m5, hm5⟩ : ∃ m5, (r.types ++ [(⟨x0, x1, x2, x3, x4, x5, x6⟩ : Ty)]).length = m5 := ⟨_, rfl⟩
             obtain ⟨A5, c5, rfl, s5'⟩ := Own.slk' encTy_len hm5 ho2
             clear s5'
             have PZ := (HST.out.drew.rq.alloc (.cells #[.int .i64 x0, .int .i64 x1, .int .i64 x2, .int .i64 x3, .int .i64 x4, .int .i64 x5, .int .i64 x6] 84)).grown hg2 (fun e => by have := (HST.out.own.ty.lt _ e.symm).1; omega)
             have kZ := PZ.cell
             have fZ := PZ.frozen
             have yZ := PZ.lt
             unfold rdCells at kZ
             have HN2 := ((HSN.out.drew.alloc (by simp) (.cells #[.int .i64 x0, .int .i64 x1, .int .i64 x2, .int .i64 x3, .int .i64 x4, .int .i64 x5, .int .i64 x6] 84)).grown hg2 (by first | (simp; done) | (simp; omega)) (fun z hz => .inl (hown z (.inr (.inl hz))))).intsAt
             have d0 := HN2 0 (by omega)
             have d1 := HN2 1 (by omega)
             have d2 := HN2 2 (by omega)
             have d3 := HN2 3 (by omega)
             have d4 := HN2 4 (by omega)
             have d5 := HN2 5 (by omega)
             have d6 := HN2 6 (by omega)
             simp only [Nat.add_zero] at d0
             simp only [HX.out.1, HX.out.2.1, HX.out.2.2.1, HX.out.2.2.2.1, HX.out.2.2.2.2.1, HX.out.2.2.2.2.2.1, HX.out.2.2.2.2.2.2] at d0 d1 d2 d3 d4 d5 d6
             clear HN2
             refine hK.out _ _ ⟨d0, d1, d2, d3, d4, d5, d6⟩ (fun hHeld => ?_)
             clear hK K
             try simp only [Act.put, List.getElem_toArray, List.getElem_cons_succ, List.getElem_cons_zero, List.setIfInBounds_toArray, List.set_cons_zero, List.set_cons_succ]
             refine wpAnyH_take (i := 26) (v := ?_) rfl (by kernel_rfl) (by kernel_rfl) (by kernel_rfl) (fun _ _ _ h => h) (Or.inl ⟨by rfl, ?_⟩) (by assumption) ?_
             rotate_left 1
             · intro w hSw
               try dsimp only at hSw
               go_simp
               try with_reducible rfl
             simp only [Act.put, List.getElem_toArray, List.getElem_cons_succ, List.getElem_cons_zero, List.setIfInBounds_toArray, List.set_cons_zero, List.set_cons_succ]
             refine wpAnyH_ready (rs := [27]) (by kernel_rfl) (by simp) ?_
             refine AllReadyH.cons rfl (fun K hK => ?_) AllReadyH.nil
             go_simp
             refine hK.out _ _ ?hS1 (fun hHeld => ?_)
             case hS1 => (try dsimp only); (go_keep)
             clear hK K
             try simp only [Act.put, List.getElem_toArray, List.getElem_cons_succ, List.getElem_cons_zero, List.setIfInBounds_toArray, List.set_cons_zero, List.set_cons_succ]
             refine wpAnyH_done (by kernel_rfl) ?_ _
             have HSTz : Hid (RdSt w1 (wz.setCell ⟨w1.heap.size, 7, none⟩ (.slice A5 m5 c5)) (rTy r (qs, true)) (v1) (.slice A5 m5 c5) (v3)) := hide (by
               have h := HST.out.drew.put (.cells #[.int .i64 x0, .int .i64 x1, .int .i64 x2, .int .i64 x3, .int .i64 x4, .int .i64 x5, .int .i64 x6] 84) hg2 (fun z hz => (HST.out.own.ty.lt z hz).1) (HST.out.drew.own.pushTy (.cells #[.int .i64 x0, .int .i64 x1, .int .i64 x2, .int .i64 x3, .int .i64 x4, .int .i64 x5, .int .i64 x6] 84) ho2 hg2 hat2) 7 (.slice A5 m5 c5) rfl
               unfold rTy nAt
               simp only [HX.out.1, HX.out.2.1, HX.out.2.2.1, HX.out.2.2.2.1, HX.out.2.2.2.2.1, HX.out.2.2.2.2.2.1, HX.out.2.2.2.2.2.2]
               exact h)
             have hzz : wr.heap.size ≤ wz.heap.size := by have := hg2.size; simp only [World.size_alloc, World.size_drew] at this; omega
             clear ho2 hg2 hat2 PZ kZ fZ yZ hHeld d0 d1 d2 d3 d4 d5 d6 hm5
             have hrl2 : rqLen (rTy r (qs, true)) ≤ k + 1 := by unfold rqLen at hrl ⊢; simp [rTy]; omega
             clear kA fA yA kR yR fR
             have PBz := hide (P0.out.below HSTz.out.below y0)
             have kA := PBz.out.cell
             have fA := PBz.out.frozen
             have yA := PBz.out.lt
             have kR := HSTz.out.rq.cell
             have yR := HSTz.out.rq.lt
             have fR := HSTz.out.rq.frozen
             unfold rdCells at kR
             go_wp2_with fail
             refine (HLN.out (ByteArray.mk #[116, 121, 112, 101]) 7 (k + 1) _ _ (by omega) (by omega) (by omega) (by first | rfl | omega) HSTz.out.below).mono ?_
             rintro e w9 ⟨⟨nv, rfl, hon⟩, hb⟩
             have HST9 := hide (HSTz.out.call hb)
             have z9 := hb.size
             have HON9 := hide hon
             clear hb hon kA fA yA kR yR fR
             go_wp2_with fail
             go_roundw
             case rel => exact ⟨k + 1, _, 4, _, _, _, _, by omega, by go_num, rfl, HST9.out, hrl2, by omega, HG2, HON9.out, z9, by have := HSTz.out.lt; omega, (fun z hz => by rcases hz with hz | hz | hz; exact (HSTz.out.own.pr.lt z hz).2; exact (HSTz.out.own.ty.lt z hz).2; exact (HSTz.out.own.it.lt z hz).2), hide (.inl rfl)⟩
             case measure => first | omega | (simp [intOf]; done) | (simp [intOf]; omega)
           refine AllReadyH.cons rfl (fun K hK => ?_) ?_
           · skip
             go_simp
             refine hK.out _ _ ?hS1 (fun hHeld => ?_)
             case hS1 => (try dsimp only); (go_keep)
             clear hK K
             try simp only [Act.put, List.getElem_toArray, List.getElem_cons_succ, List.getElem_cons_zero, List.setIfInBounds_toArray, List.set_cons_zero, List.set_cons_succ]
             refine wpAnyH_ready (rs := [1]) (by kernel_rfl) (by simp) ?_
             refine AllReadyH.cons rfl (fun K hK => ?_) AllReadyH.nil
             go_simp
             refine hK.out _ _ ?hS1 (fun hHeld => ?_)
             case hS1 => (try dsimp only); (go_keep)
             clear hK K
             try simp only [Act.put, List.getElem_toArray, List.getElem_cons_succ, List.getElem_cons_zero, List.setIfInBounds_toArray, List.set_cons_zero, List.set_cons_succ]
             refine wpAnyH_ready (rs := [25]) (by kernel_rfl) (by simp) ?_
             refine AllReadyH.cons rfl (fun K hK => ?_) AllReadyH.nil
             refine step_app rfl (.tmp 112) (.tmp 135) rfl (by simp [Act.eval]) (by simp [Act.eval]) (app1K encTy_len encTy_one Tryd.underlying38 tyInfo rfl (by omega) (by omega) (HST.out.drew.own.ty) (HST.out.drew.lt) (by unfold rqLen at hrl; omega) ⟨x0, x1, x2, x3, x4, x5, x6⟩ wr.heap.size rfl _ rfl) ?_
             intro v' wz ho2 hg2 hat2
             obtain ⟨m5, hm5⟩ : ∃ m5, (r.types ++ [(⟨x0, x1, x2, x3, x4, x5, x6⟩ : Ty)]).length = m5 := ⟨_, rfl⟩
             obtain ⟨A5, c5, rfl, s5'⟩ := Own.slk' encTy_len hm5 ho2
             clear s5'
             have PZ := (HST.out.drew.rq.alloc (.cells #[.int .i64 x0, .int .i64 x1, .int .i64 x2, .int .i64 x3, .int .i64 x4, .int .i64 x5, .int .i64 x6] 84)).grown hg2 (fun e => by have := (HST.out.own.ty.lt _ e.symm).1; omega)
             have kZ := PZ.cell
             have fZ := PZ.frozen
             have yZ := PZ.lt
             unfold rdCells at kZ
             have HN2 := ((HSN.out.drew.alloc (by simp) (.cells #[.int .i64 x0, .int .i64 x1, .int .i64 x2, .int .i64 x3, .int .i64 x4, .int .i64 x5, .int .i64 x6] 84)).grown hg2 (by first | (simp; done) | (simp; omega)) (fun z hz => .inl (hown z (.inr (.inl hz))))).intsAt
             have d0 := HN2 0 (by omega)
             have d1 := HN2 1 (by omega)
             have d2 := HN2 2 (by omega)
             have d3 := HN2 3 (by omega)
             have d4 := HN2 4 (by omega)
             have d5 := HN2 5 (by omega)
             have d6 := HN2 6 (by omega)
             simp only [Nat.add_zero] at d0
             simp only [HX.out.1, HX.out.2.1, HX.out.2.2.1, HX.out.2.2.2.1, HX.out.2.2.2.2.1, HX.out.2.2.2.2.2.1, HX.out.2.2.2.2.2.2] at d0 d1 d2 d3 d4 d5 d6
             clear HN2
             refine hK.out _ _ ⟨d0, d1, d2, d3, d4, d5, d6⟩ (fun hHeld => ?_)
             clear hK K
             try simp only [Act.put, List.getElem_toArray, List.getElem_cons_succ, List.getElem_cons_zero, List.setIfInBounds_toArray, List.set_cons_zero, List.set_cons_succ]
             refine wpAnyH_take (i := 26) (v := ?_) rfl (by kernel_rfl) (by kernel_rfl) (by kernel_rfl) (fun _ _ _ h => h) (Or.inl ⟨by rfl, ?_⟩) (by assumption) ?_
             rotate_left 1
             · intro w hSw
               try dsimp only at hSw
               go_simp
               try with_reducible rfl
             simp only [Act.put, List.getElem_toArray, List.getElem_cons_succ, List.getElem_cons_zero, List.setIfInBounds_toArray, List.set_cons_zero, List.set_cons_succ]
             refine wpAnyH_ready (rs := [27]) (by kernel_rfl) (by simp) ?_
             refine AllReadyH.cons rfl (fun K hK => ?_) AllReadyH.nil
             go_simp
             refine hK.out _ _ ?hS1 (fun hHeld => ?_)
             case hS1 => (try dsimp only); (go_keep)
             clear hK K
             try simp only [Act.put, List.getElem_toArray, List.getElem_cons_succ, List.getElem_cons_zero, List.setIfInBounds_toArray, List.set_cons_zero, List.set_cons_succ]
             refine wpAnyH_done (by kernel_rfl) ?_ _
             have HSTz : Hid (RdSt w1 (wz.setCell ⟨w1.heap.size, 7, none⟩ (.slice A5 m5 c5)) (rTy r (qs, true)) (v1) (.slice A5 m5 c5) (v3)) := hide (by
               have h := HST.out.drew.put (.cells #[.int .i64 x0, .int .i64 x1, .int .i64 x2, .int .i64 x3, .int .i64 x4, .int .i64 x5, .int .i64 x6] 84) hg2 (fun z hz => (HST.out.own.ty.lt z hz).1) (HST.out.drew.own.pushTy (.cells #[.int .i64 x0, .int .i64 x1, .int .i64 x2, .int .i64 x3, .int .i64 x4, .int .i64 x5, .int .i64 x6] 84) ho2 hg2 hat2) 7 (.slice A5 m5 c5) rfl
               unfold rTy nAt
               simp only [HX.out.1, HX.out.2.1, HX.out.2.2.1, HX.out.2.2.2.1, HX.out.2.2.2.2.1, HX.out.2.2.2.2.2.1, HX.out.2.2.2.2.2.2]
               exact h)
             have hzz : wr.heap.size ≤ wz.heap.size := by have := hg2.size; simp only [World.size_alloc, World.size_drew] at this; omega
             clear ho2 hg2 hat2 PZ kZ fZ yZ hHeld d0 d1 d2 d3 d4 d5 d6 hm5
             have hrl2 : rqLen (rTy r (qs, true)) ≤ k + 1 := by unfold rqLen at hrl ⊢; simp [rTy]; omega
             clear kA fA yA kR yR fR
             have PBz := hide (P0.out.below HSTz.out.below y0)
             have kA := PBz.out.cell
             have fA := PBz.out.frozen
             have yA := PBz.out.lt
             have kR := HSTz.out.rq.cell
             have yR := HSTz.out.rq.lt
             have fR := HSTz.out.rq.frozen
             unfold rdCells at kR
             go_wp2_with fail
             refine (HLN.out (ByteArray.mk #[116, 121, 112, 101]) 7 (k + 1) _ _ (by omega) (by omega) (by omega) (by first | rfl | omega) HSTz.out.below).mono ?_
             rintro e w9 ⟨⟨nv, rfl, hon⟩, hb⟩
             have HST9 := hide (HSTz.out.call hb)
             have z9 := hb.size
             have HON9 := hide hon
             clear hb hon kA fA yA kR yR fR
             go_wp2_with fail
             go_roundw
             case rel => exact ⟨k + 1, _, 4, _, _, _, _, by omega, by go_num, rfl, HST9.out, hrl2, by omega, HG2, HON9.out, z9, by have := HSTz.out.lt; omega, (fun z hz => by rcases hz with hz | hz | hz; exact (HSTz.out.own.pr.lt z hz).2; exact (HSTz.out.own.ty.lt z hz).2; exact (HSTz.out.own.it.lt z hz).2), hide (.inl rfl)⟩
             case measure => first | omega | (simp [intOf]; done) | (simp [intOf]; omega)
           exact AllReadyH.nil
         have HNT := hide (lnR_f HN.out hq)
         clear hq hon
         obtain ⟨wa, hwa⟩ : ∃ wa : World, wa = wr := ⟨_, rfl⟩
         subst hwa
         go_wp2_with fail
         refine (HLN.out (ByteArray.mk #[109, 97, 115, 116, 101, 114]) 1 (k) _ _ (by omega) (by omega) (by omega) (by first | rfl | omega) HST.out.below).mono ?_
         rintro e w5 ⟨⟨nv, rfl, hon⟩, hb⟩
         have HST5 := hide (HST.out.call hb)
         have z5 := hb.size
         clear hb kA fA yA kR yR fR
         have PB5 := hide (P0.out.below HST5.out.below y0)
         have kA := PB5.out.cell
         have fA := PB5.out.frozen
         have yA := PB5.out.lt
         have kR := HST5.out.rq.cell
         have yR := HST5.out.rq.lt
         have fR := HST5.out.rq.frozen
         unfold rdCells at kR
         obtain ⟨⟨qs, qb⟩, hq⟩ : ∃ q, lnR P k (ByteArray.mk #[109, 97, 115, 116, 101, 114]) 1 = q := ⟨_, rfl⟩
         rw [hq] at hon ⊢
         cases qb
         case false =>
           have HE := hide (show readS s = (rq0, (k : Int)) by rw [← HG.out]; exact goA_stop HN.out (by omega) (by omega) (fun l hk hl => mayF_no (putL_rng _ _) (by omega) (by have h5 := kind5 (r := r) (lnR_f HN.out hq l hk hl); have h4 := kind4 (r := r) (HNT.out l hk hl); rcases HNW.out with h3 | h3; omega; have h3 := kind3 (r := r) (h3 l hk hl); omega)))
           clear hq hon
           go_wp2_with fail
           have PF := set10 PB5.out rfl (.int .i64 0) (.int .i64 0) (.int .i64 0) (.int .i64 0) (.int .i64 0) (.int .i64 0) (nilV) (nilV) (.int .i64 0) (nilV)
           refine ret_cell2 Tryd.results29 rfl PF Tryd.underlying41 rfl (by kernel_rfl) rfl ⟨⟨nilV, nilV, nilV, ?_, by rw [HE.out]; exact RqOwn.nil_ _ _ rq0 rfl rfl rfl, by rw [HE.out]; exact Nat.zero_le _⟩, (L1.out.trans (HST5.out.below.mono z1)).grown (grown10 w5 w.heap.size (.int .i64 0) (.int .i64 0) (.int .i64 0) (.int .i64 0) (.int .i64 0) (.int .i64 0) (nilV) (nilV) (.int .i64 0) (nilV)) (by have := PB5.out.lt; omega) (fun z hz => by have := Option.some.inj hz; omega)⟩
           rw [HE.out]
           rfl
         obtain ⟨l, hkl, hl, hnl⟩ := lnR_t HN.out hq
         have HG2 : Hid (goA (lnT P) ((lnL P).drop (k + 1)) (k + 1) (rMas r (qs, true)) 5 = readS s) := hide (by rw [← HG.out]; exact (goA_step HN.out hkl hl (by rw [putL_5 (by rw [hnl]), hnl]) (by have h3 : last = 2 ∨ last = 3 ∨ last = 4 := (by omega); rcases h3 with rfl | rfl | rfl <;> rfl)).symm)
         have hql : qs.length = 1 := by have := numsR_len (line := l) (by rw [hnl]); rw [hnl] at this; exact this
         obtain ⟨An, cn, rfl, sn⟩ := Own.slk' encInt_len hql hon
         obtain ⟨bn, on, rfl, hbl, hbn, hc⟩ := sn.ints (by omega)
         have HSN := hide sn
         have ncc := sn.cap
         have ncm := sn.max
         have c0 := hc 0 (by omega)
         simp only [Nat.add_zero] at c0
         have hne : w1.heap.size ≠ bn := by have := HST.out.lt; omega
         have zbn : bn < w5.heap.size := hbn
         obtain ⟨x0, hx0⟩ : ∃ x, qs.getD 0 0 = x := ⟨_, rfl⟩
         rw [hx0] at c0
         have HX := hide hx0
         clear hc sn hx0
         have HST6 : Hid (RdSt w1 (w5.setCell ⟨w1.heap.size, 8, none⟩ (.int .i64 x0)) (rMas r (qs, true)) v1 v2 v3) := hide (by unfold rMas nAt; simp only [HX.out]; exact HST5.out.set 8 (.int .i64 x0) rfl rfl rfl rfl)
         clear HG hq hl hnl hon kA fA yA
         have HG := HG2
         have hrl3 : rqLen (rMas r (qs, true)) ≤ k + 1 := Nat.le_succ_of_le hrl
         have PB6 := hide (P0.out.below HST6.out.below y0)
         have kA := PB6.out.cell
         have fA := PB6.out.frozen
         have yA := PB6.out.lt
         go_wp2_with fail
         refine (HLN.out (ByteArray.mk #[105, 116, 101, 109]) 7 (k + 1) _ _ (by omega) (by omega) (by omega) (by first | rfl | omega) HST6.out.below).mono ?_
         rintro e w7 ⟨⟨nv, rfl, hon⟩, hb⟩
         have HST7 := hide (HST6.out.call hb)
         have z7 := hb.size
         clear hb kA fA yA kR yR fR
         have PB7 := hide (P0.out.below HST7.out.below y0)
         have kA := PB7.out.cell
         have fA := PB7.out.frozen
         have yA := PB7.out.lt
         have kR := HST7.out.rq.cell
         have yR := HST7.out.rq.lt
         have fR := HST7.out.rq.frozen
         unfold rdCells at kR
         go_wp2_with fail
         go_loopw [7, 8, 9] (fun ai nv ok wr => ∃ (k : Nat) (r : Rq) (last : Int) (v1 v2 v3 : Value) (b : Nat), k ≤ n ∧ ai = .int .i64 k ∧ ok = .bool (lnR P k (ByteArray.mk #[105, 116, 101, 109]) 7).2 ∧ RdSt w1 wr r v1 v2 v3 ∧ rqLen r ≤ k ∧ (last = 5 ∨ last = 6) ∧ Hid (goA (lnT P) ((lnL P).drop k) k r last = readS s) ∧ Own 1 encInt 3 wr b nv (lnR P k (ByteArray.mk #[105, 116, 101, 109]) 7).1 ∧ b ≤ wr.heap.size ∧ w1.heap.size < b ∧ (∀ z, (v1.ownBlock = some z ∨ v2.ownBlock = some z ∨ v3.ownBlock = some z) → z < b)) (fun ai _ _ _ => n - (intOf ai).toNat)
         case atStart => exact ⟨k + 1, _, 5, _, _, _, _, by omega, by first | rfl | exact congrArg (Value.int .i64) (by omega), rfl, HST7.out, hrl3, by omega, HG, hon, by have := z7; omega, by have := HST6.out.lt; omega, (fun z hz => by rcases hz with hz | hz | hz; exact (HST6.out.own.pr.lt z hz).2; exact (HST6.out.own.ty.lt z hz).2; exact (HST6.out.own.it.lt z hz).2)⟩
         case round =>
           obtain ⟨k, r, last, v1, v2, v3, b, hk, rfl, rfl, hst, hrl, hlast, HG, hon, hbb, hbw, hown⟩ := hrel
           have HST := hide hst
           clear hst
           have PB := hide (P0.out.below HST.out.below y0)
           have kA := PB.out.cell
           have fA := PB.out.frozen
           have yA := PB.out.lt
           have kR := HST.out.rq.cell
           have yR := HST.out.rq.lt
           have fR := HST.out.rq.frozen
           unfold rdCells at kR
           have y1 := HST.out.below.size
           obtain ⟨⟨qs, qb⟩, hq⟩ : ∃ q, lnR P k (ByteArray.mk #[105, 116, 101, 109]) 7 = q := ⟨_, rfl⟩
           rw [hq] at hon ⊢
           have HQ := hide hq
           cases qb
           case true =>
             obtain ⟨l, hkl, hl, hnl⟩ := lnR_t HN.out hq
             have HG2 : Hid (goA (lnT P) ((lnL P).drop (k + 1)) (k + 1) (rIt r (qs, true)) 6 = readS s) := hide (by rw [← HG.out]; exact (goA_step HN.out hkl hl (by rw [putL_6 (by rw [hnl]), hnl]) (by rcases hlast with rfl | rfl <;> rfl)).symm)
             have hql : qs.length = 7 := by have := numsR_len (line := l) (by rw [hnl]); rw [hnl] at this; exact this
             obtain ⟨An, cn, rfl, sn⟩ := Own.slk' encInt_len hql hon
             obtain ⟨bn, on, rfl, hbl, hbn, hc⟩ := sn.ints (by omega)
             have HSN := hide sn
             have ncc := sn.cap
             have ncm := sn.max
             have c0 := hc 0 (by omega)
             have c1 := hc 1 (by omega)
             have c2 := hc 2 (by omega)
             have c3 := hc 3 (by omega)
             have c4 := hc 4 (by omega)
             have c5 := hc 5 (by omega)
             have c6 := hc 6 (by omega)
             simp only [Nat.add_zero] at c0
             have hne : w1.heap.size ≠ bn := by omega
             have zbn : bn < wr.heap.size := hbn
             obtain ⟨x0, hx0⟩ : ∃ x, qs.getD 0 0 = x := ⟨_, rfl⟩
             rw [hx0] at c0
             obtain ⟨x1, hx1⟩ : ∃ x, qs.getD 1 0 = x := ⟨_, rfl⟩
             rw [hx1] at c1
             obtain ⟨x2, hx2⟩ : ∃ x, qs.getD 2 0 = x := ⟨_, rfl⟩
             rw [hx2] at c2
             obtain ⟨x3, hx3⟩ : ∃ x, qs.getD 3 0 = x := ⟨_, rfl⟩
             rw [hx3] at c3
             obtain ⟨x4, hx4⟩ : ∃ x, qs.getD 4 0 = x := ⟨_, rfl⟩
             rw [hx4] at c4
             obtain ⟨x5, hx5⟩ : ∃ x, qs.getD 5 0 = x := ⟨_, rfl⟩
             rw [hx5] at c5
             obtain ⟨x6, hx6⟩ : ∃ x, qs.getD 6 0 = x := ⟨_, rfl⟩
             rw [hx6] at c6
             have HX := hide (show qs.getD 0 0 = x0 ∧ qs.getD 1 0 = x1 ∧ qs.getD 2 0 = x2 ∧ qs.getD 3 0 = x3 ∧ qs.getD 4 0 = x4 ∧ qs.getD 5 0 = x5 ∧ qs.getD 6 0 = x6 from ⟨hx0, hx1, hx2, hx3, hx4, hx5, hx6⟩)
             clear hc sn hl hnl hq hon hx0 hx1 hx2 hx3 hx4 hx5 hx6
             go_wp2_with fail
             refine wp_region_held_drew (S := (fun w' => w'.cell? ⟨bn, on, none⟩ = some (.int .i64 x0) ∧ w'.cell? ⟨bn, on + 1, none⟩ = some (.int .i64 x1) ∧ w'.cell? ⟨bn, on + 2, none⟩ = some (.int .i64 x2) ∧ w'.cell? ⟨bn, on + 3, none⟩ = some (.int .i64 x3) ∧ w'.cell? ⟨bn, on + 4, none⟩ = some (.int .i64 x4) ∧ w'.cell? ⟨bn, on + 5, none⟩ = some (.int .i64 x5) ∧ w'.cell? ⟨bn, on + 6, none⟩ = some (.int .i64 x6))) (by kernel_rfl) ?hS0 (fun hHeld => ?_)
             case hS0 => (exact ⟨c0, c1, c2, c3, c4, c5, c6⟩)
             refine wpAnyH_take (i := 0) (v := ?_) rfl (by kernel_rfl) (by kernel_rfl) (by kernel_rfl) (fun _ _ _ h => h) (Or.inl ⟨by rfl, ?_⟩) (by assumption) ?_
             rotate_left 1
             · intro w hSw
               try dsimp only at hSw
               go_simp
               try with_reducible rfl
             simp only [Act.put, List.getElem_toArray, List.getElem_cons_succ, List.getElem_cons_zero, List.setIfInBounds_toArray, List.set_cons_zero, List.set_cons_succ]
             refine wpAnyH_take (i := 2) (v := ?_) rfl (by kernel_rfl) (by kernel_rfl) (by kernel_rfl) (fun _ _ _ h => h) (Or.inl ⟨by rfl, ?_⟩) (by assumption) ?_
             rotate_left 1
             · intro w hSw
               try dsimp only at hSw
               go_simp
               try with_reducible rfl
             simp only [Act.put, List.getElem_toArray, List.getElem_cons_succ, List.getElem_cons_zero, List.setIfInBounds_toArray, List.set_cons_zero, List.set_cons_succ]
             refine wpAnyH_take (i := 3) (v := ?_) rfl (by kernel_rfl) (by kernel_rfl) (by kernel_rfl) (fun _ _ _ h => h) (Or.inl ⟨by rfl, ?_⟩) (by assumption) ?_
             rotate_left 1
             · intro w hSw
               try dsimp only at hSw
               go_simp
               try with_reducible rfl
             simp only [Act.put, List.getElem_toArray, List.getElem_cons_succ, List.getElem_cons_zero, List.setIfInBounds_toArray, List.set_cons_zero, List.set_cons_succ]
             refine wpAnyH_take (i := 4) (v := ?_) rfl (by kernel_rfl) (by kernel_rfl) (by kernel_rfl) (fun _ _ _ h => h) (Or.inl ⟨by rfl, ?_⟩) (by assumption) ?_
             rotate_left 1
             · intro w hSw
               try dsimp only at hSw
               go_simp
               try with_reducible rfl
             simp only [Act.put, List.getElem_toArray, List.getElem_cons_succ, List.getElem_cons_zero, List.setIfInBounds_toArray, List.set_cons_zero, List.set_cons_succ]
             refine wpAnyH_take (i := 5) (v := ?_) rfl (by kernel_rfl) (by kernel_rfl) (by kernel_rfl) (fun _ _ _ h => h) (Or.inl ⟨by rfl, ?_⟩) (by assumption) ?_
             rotate_left 1
             · intro w hSw
               try dsimp only at hSw
               go_simp
               try with_reducible rfl
             simp only [Act.put, List.getElem_toArray, List.getElem_cons_succ, List.getElem_cons_zero, List.setIfInBounds_toArray, List.set_cons_zero, List.set_cons_succ]
             refine wpAnyH_take (i := 6) (v := ?_) rfl (by kernel_rfl) (by kernel_rfl) (by kernel_rfl) (fun _ _ _ h => h) (Or.inl ⟨by rfl, ?_⟩) (by assumption) ?_
             rotate_left 1
             · intro w hSw
               try dsimp only at hSw
               go_simp
               try with_reducible rfl
             simp only [Act.put, List.getElem_toArray, List.getElem_cons_succ, List.getElem_cons_zero, List.setIfInBounds_toArray, List.set_cons_zero, List.set_cons_succ]
             refine wpAnyH_take (i := 7) (v := ?_) rfl (by kernel_rfl) (by kernel_rfl) (by kernel_rfl) (fun _ _ _ h => h) (Or.inl ⟨by rfl, ?_⟩) (by assumption) ?_
             rotate_left 1
             · intro w hSw
               try dsimp only at hSw
               go_simp
               try with_reducible rfl
             simp only [Act.put, List.getElem_toArray, List.getElem_cons_succ, List.getElem_cons_zero, List.setIfInBounds_toArray, List.set_cons_zero, List.set_cons_succ]
             refine wpAnyH_take (i := 8) (v := ?_) rfl (by kernel_rfl) (by kernel_rfl) (by kernel_rfl) (fun _ _ _ h => h) (Or.inl ⟨by rfl, ?_⟩) (by assumption) ?_
             rotate_left 1
             · intro w hSw
               try dsimp only at hSw
               go_simp
               try with_reducible rfl
             simp only [Act.put, List.getElem_toArray, List.getElem_cons_succ, List.getElem_cons_zero, List.setIfInBounds_toArray, List.set_cons_zero, List.set_cons_succ]
             refine wpAnyH_take (i := 9) (v := ?_) rfl (by kernel_rfl) (by kernel_rfl) (by kernel_rfl) (fun _ _ _ h => h) (Or.inl ⟨by rfl, ?_⟩) (by assumption) ?_
             rotate_left 1
             · intro w hSw
               try dsimp only at hSw
               go_simp
               try with_reducible rfl
             simp only [Act.put, List.getElem_toArray, List.getElem_cons_succ, List.getElem_cons_zero, List.setIfInBounds_toArray, List.set_cons_zero, List.set_cons_succ]
             refine wpAnyH_take (i := 10) (v := ?_) rfl (by kernel_rfl) (by kernel_rfl) (by kernel_rfl) (fun _ _ _ h => h) (Or.inl ⟨by rfl, ?_⟩) (by assumption) ?_
             rotate_left 1
             · intro w hSw
               try dsimp only at hSw
               go_simp
               try with_reducible rfl
             simp only [Act.put, List.getElem_toArray, List.getElem_cons_succ, List.getElem_cons_zero, List.setIfInBounds_toArray, List.set_cons_zero, List.set_cons_succ]
             refine wpAnyH_take (i := 11) (v := ?_) rfl (by kernel_rfl) (by kernel_rfl) (by kernel_rfl) (fun _ _ _ h => h) (Or.inl ⟨by rfl, ?_⟩) (by assumption) ?_
             rotate_left 1
             · intro w hSw
               try dsimp only at hSw
               go_simp
               try with_reducible rfl
             simp only [Act.put, List.getElem_toArray, List.getElem_cons_succ, List.getElem_cons_zero, List.setIfInBounds_toArray, List.set_cons_zero, List.set_cons_succ]
             refine wpAnyH_take (i := 12) (v := ?_) rfl (by kernel_rfl) (by kernel_rfl) (by kernel_rfl) (fun _ _ _ h => h) (Or.inl ⟨by rfl, ?_⟩) (by assumption) ?_
             rotate_left 1
             · intro w hSw
               try dsimp only at hSw
               go_simp
               try with_reducible rfl
             simp only [Act.put, List.getElem_toArray, List.getElem_cons_succ, List.getElem_cons_zero, List.setIfInBounds_toArray, List.set_cons_zero, List.set_cons_succ]
             refine wpAnyH_take (i := 13) (v := ?_) rfl (by kernel_rfl) (by kernel_rfl) (by kernel_rfl) (fun _ _ _ h => h) (Or.inl ⟨by rfl, ?_⟩) (by assumption) ?_
             rotate_left 1
             · intro w hSw
               try dsimp only at hSw
               go_simp
               try with_reducible rfl
             simp only [Act.put, List.getElem_toArray, List.getElem_cons_succ, List.getElem_cons_zero, List.setIfInBounds_toArray, List.set_cons_zero, List.set_cons_succ]
             refine wpAnyH_take (i := 14) (v := ?_) rfl (by kernel_rfl) (by kernel_rfl) (by kernel_rfl) (fun _ _ _ h => h) (Or.inl ⟨by rfl, ?_⟩) (by assumption) ?_
             rotate_left 1
             · intro w hSw
               try dsimp only at hSw
               go_simp
               try with_reducible rfl
             simp only [Act.put, List.getElem_toArray, List.getElem_cons_succ, List.getElem_cons_zero, List.setIfInBounds_toArray, List.set_cons_zero, List.set_cons_succ]
             refine wpAnyH_take (i := 15) (v := ?_) rfl (by kernel_rfl) (by kernel_rfl) (by kernel_rfl) (fun _ _ _ h => h) (Or.inl ⟨by rfl, ?_⟩) (by assumption) ?_
             rotate_left 1
             · intro w hSw
               try dsimp only at hSw
               go_simp
               try with_reducible rfl
             simp only [Act.put, List.getElem_toArray, List.getElem_cons_succ, List.getElem_cons_zero, List.setIfInBounds_toArray, List.set_cons_zero, List.set_cons_succ]
             refine wpAnyH_take (i := 16) (v := ?_) rfl (by kernel_rfl) (by kernel_rfl) (by kernel_rfl) (fun _ _ _ h => h) (Or.inl ⟨by rfl, ?_⟩) (by assumption) ?_
             rotate_left 1
             · intro w hSw
               try dsimp only at hSw
               go_simp
               try with_reducible rfl
             simp only [Act.put, List.getElem_toArray, List.getElem_cons_succ, List.getElem_cons_zero, List.setIfInBounds_toArray, List.set_cons_zero, List.set_cons_succ]
             refine wpAnyH_take (i := 17) (v := ?_) rfl (by kernel_rfl) (by kernel_rfl) (by kernel_rfl) (fun _ _ _ h => h) (Or.inl ⟨by rfl, ?_⟩) (by assumption) ?_
             rotate_left 1
             · intro w hSw
               try dsimp only at hSw
               go_simp
               try with_reducible rfl
             simp only [Act.put, List.getElem_toArray, List.getElem_cons_succ, List.getElem_cons_zero, List.setIfInBounds_toArray, List.set_cons_zero, List.set_cons_succ]
             refine wpAnyH_take (i := 18) (v := ?_) rfl (by kernel_rfl) (by kernel_rfl) (by kernel_rfl) (fun _ _ _ h => h) (Or.inl ⟨by rfl, ?_⟩) (by assumption) ?_
             rotate_left 1
             · intro w hSw
               try dsimp only at hSw
               go_simp
               try with_reducible rfl
             simp only [Act.put, List.getElem_toArray, List.getElem_cons_succ, List.getElem_cons_zero, List.setIfInBounds_toArray, List.set_cons_zero, List.set_cons_succ]
             refine wpAnyH_take (i := 19) (v := ?_) rfl (by kernel_rfl) (by kernel_rfl) (by kernel_rfl) (fun _ _ _ h => h) (Or.inl ⟨by rfl, ?_⟩) (by assumption) ?_
             rotate_left 1
             · intro w hSw
               try dsimp only at hSw
               go_simp
               try with_reducible rfl
             simp only [Act.put, List.getElem_toArray, List.getElem_cons_succ, List.getElem_cons_zero, List.setIfInBounds_toArray, List.set_cons_zero, List.set_cons_succ]
             refine wpAnyH_take (i := 20) (v := ?_) rfl (by kernel_rfl) (by kernel_rfl) (by kernel_rfl) (fun _ _ _ h => h) (Or.inl ⟨by rfl, ?_⟩) (by assumption) ?_
             rotate_left 1
             · intro w hSw
               try dsimp only at hSw
               go_simp
               try with_reducible rfl
             simp only [Act.put, List.getElem_toArray, List.getElem_cons_succ, List.getElem_cons_zero, List.setIfInBounds_toArray, List.set_cons_zero, List.set_cons_succ]
             refine wpAnyH_take (i := 21) (v := ?_) rfl (by kernel_rfl) (by kernel_rfl) (by kernel_rfl) (fun _ _ _ h => h) (Or.inl ⟨by rfl, ?_⟩) (by assumption) ?_
             rotate_left 1
             · intro w hSw
               try dsimp only at hSw
               go_simp
               try with_reducible rfl
             simp only [Act.put, List.getElem_toArray, List.getElem_cons_succ, List.getElem_cons_zero, List.setIfInBounds_toArray, List.set_cons_zero, List.set_cons_succ]
             refine wpAnyH_take (i := 22) (v := ?_) rfl (by kernel_rfl) (by kernel_rfl) (by kernel_rfl) (fun _ _ _ h => h) (Or.inl ⟨by rfl, ?_⟩) (by assumption) ?_
             rotate_left 1
             · intro w hSw
               try dsimp only at hSw
               go_simp
               try with_reducible rfl
             simp only [Act.put, List.getElem_toArray, List.getElem_cons_succ, List.getElem_cons_zero, List.setIfInBounds_toArray, List.set_cons_zero, List.set_cons_succ]
             refine wpAnyH_take (i := 23) (v := ?_) rfl (by kernel_rfl) (by kernel_rfl) (by kernel_rfl) (fun _ _ _ h => h) (Or.inl ⟨by rfl, ?_⟩) (by assumption) ?_
             rotate_left 1
             · intro w hSw
               try dsimp only at hSw
               go_simp
               try with_reducible rfl
             simp only [Act.put, List.getElem_toArray, List.getElem_cons_succ, List.getElem_cons_zero, List.setIfInBounds_toArray, List.set_cons_zero, List.set_cons_succ]
             refine wpAnyH_ready (rs := [1, 24]) (by kernel_rfl) (by simp) ?_
             refine AllReadyH.cons rfl (fun K hK => ?_) ?_
             · skip
               go_simp
               refine hK.out _ _ ?hS1 (fun hHeld => ?_)
               case hS1 => (try dsimp only); (go_keep)
               clear hK K
               try simp only [Act.put, List.getElem_toArray, List.getElem_cons_succ, List.getElem_cons_zero, List.setIfInBounds_toArray, List.set_cons_zero, List.set_cons_succ]
               refine wpAnyH_ready (rs := [24]) (by kernel_rfl) (by simp) ?_
               refine AllReadyH.cons rfl (fun K hK => ?_) AllReadyH.nil
               go_simp
               refine hK.out _ _ ?hS1 (fun hHeld => ?_)
               case hS1 => (try dsimp only); (go_keep)
               clear hK K
               try simp only [Act.put, List.getElem_toArray, List.getElem_cons_succ, List.getElem_cons_zero, List.setIfInBounds_toArray, List.set_cons_zero, List.set_cons_succ]
               refine wpAnyH_ready (rs := [25]) (by kernel_rfl) (by simp) ?_
               refine AllReadyH.cons rfl (fun K hK => ?_) AllReadyH.nil
               refine step_app rfl (.tmp 170) (.tmp 193) rfl (by simp [Act.eval]) (by simp [Act.eval]) (app1K encIt_len encIt_one Tryd.underlying39 itInfo rfl (by omega) (by omega) (HST.out.drew.own.it) (HST.out.drew.lt) (by unfold rqLen at hrl; omega) ⟨x0, x1, x2, x3, x4, x5, x6⟩ wr.heap.size rfl _ rfl) ?_
               intro v' wz ho2 hg2 hat2
               obtain ⟨m5, hm5⟩ : ∃ m5, (r.items ++ [(⟨x0, x1, x2, x3, x4, x5, x6⟩ : It)]).length = m5 := ⟨_, rfl⟩
               obtain ⟨A5, c5, rfl, s5'⟩ := Own.slk' encIt_len hm5 ho2
               clear s5'
               have PZ := (HST.out.drew.rq.alloc (.cells #[.int .i64 x0, .int .i64 x1, .int .i64 x2, .int .i64 x3, .int .i64 x4, .int .i64 x5, .int .i64 x6] 86)).grown hg2 (fun e => by have := (HST.out.own.it.lt _ e.symm).1; omega)
               have kZ := PZ.cell
               have fZ := PZ.frozen
               have yZ := PZ.lt
               unfold rdCells at kZ
               have HN2 := ((HSN.out.drew.alloc (by simp) (.cells #[.int .i64 x0, .int .i64 x1, .int .i64 x2, .int .i64 x3, .int .i64 x4, .int .i64 x5, .int .i64 x6] 86)).grown hg2 (by first | (simp; done) | (simp; omega)) (fun z hz => .inl (hown z (.inr (.inr hz))))).intsAt
               have d0 := HN2 0 (by omega)
               have d1 := HN2 1 (by omega)
               have d2 := HN2 2 (by omega)
               have d3 := HN2 3 (by omega)
               have d4 := HN2 4 (by omega)
               have d5 := HN2 5 (by omega)
               have d6 := HN2 6 (by omega)
               simp only [Nat.add_zero] at d0
               simp only [HX.out.1, HX.out.2.1, HX.out.2.2.1, HX.out.2.2.2.1, HX.out.2.2.2.2.1, HX.out.2.2.2.2.2.1, HX.out.2.2.2.2.2.2] at d0 d1 d2 d3 d4 d5 d6
               clear HN2
               refine hK.out _ _ ⟨d0, d1, d2, d3, d4, d5, d6⟩ (fun hHeld => ?_)
               clear hK K
               try simp only [Act.put, List.getElem_toArray, List.getElem_cons_succ, List.getElem_cons_zero, List.setIfInBounds_toArray, List.set_cons_zero, List.set_cons_succ]
               refine wpAnyH_take (i := 26) (v := ?_) rfl (by kernel_rfl) (by kernel_rfl) (by kernel_rfl) (fun _ _ _ h => h) (Or.inl ⟨by rfl, ?_⟩) (by assumption) ?_
               rotate_left 1
               · intro w hSw
                 try dsimp only at hSw
                 go_simp
                 try with_reducible rfl
               simp only [Act.put, List.getElem_toArray, List.getElem_cons_succ, List.getElem_cons_zero, List.setIfInBounds_toArray, List.set_cons_zero, List.set_cons_succ]
               refine wpAnyH_ready (rs := [27]) (by kernel_rfl) (by simp) ?_
               refine AllReadyH.cons rfl (fun K hK => ?_) AllReadyH.nil
               go_simp
               refine hK.out _ _ ?hS1 (fun hHeld => ?_)
               case hS1 => (try dsimp only); (go_keep)
               clear hK K
               try simp only [Act.put, List.getElem_toArray, List.getElem_cons_succ, List.getElem_cons_zero, List.setIfInBounds_toArray, List.set_cons_zero, List.set_cons_succ]
               refine wpAnyH_done (by kernel_rfl) ?_ _
               have HSTz : Hid (RdSt w1 (wz.setCell ⟨w1.heap.size, 9, none⟩ (.slice A5 m5 c5)) (rIt r (qs, true)) (v1) (v2) (.slice A5 m5 c5)) := hide (by
                 have h := HST.out.drew.put (.cells #[.int .i64 x0, .int .i64 x1, .int .i64 x2, .int .i64 x3, .int .i64 x4, .int .i64 x5, .int .i64 x6] 86) hg2 (fun z hz => (HST.out.own.it.lt z hz).1) (HST.out.drew.own.pushIt (.cells #[.int .i64 x0, .int .i64 x1, .int .i64 x2, .int .i64 x3, .int .i64 x4, .int .i64 x5, .int .i64 x6] 86) ho2 hg2 hat2) 9 (.slice A5 m5 c5) rfl
                 unfold rIt nAt
                 simp only [HX.out.1, HX.out.2.1, HX.out.2.2.1, HX.out.2.2.2.1, HX.out.2.2.2.2.1, HX.out.2.2.2.2.2.1, HX.out.2.2.2.2.2.2]
                 exact h)
               have hzz : wr.heap.size ≤ wz.heap.size := by have := hg2.size; simp only [World.size_alloc, World.size_drew] at this; omega
               clear ho2 hg2 hat2 PZ kZ fZ yZ hHeld d0 d1 d2 d3 d4 d5 d6 hm5
               have hrl2 : rqLen (rIt r (qs, true)) ≤ k + 1 := by unfold rqLen at hrl ⊢; simp [rIt]; omega
               clear kA fA yA kR yR fR
               have PBz := hide (P0.out.below HSTz.out.below y0)
               have kA := PBz.out.cell
               have fA := PBz.out.frozen
               have yA := PBz.out.lt
               have kR := HSTz.out.rq.cell
               have yR := HSTz.out.rq.lt
               have fR := HSTz.out.rq.frozen
               unfold rdCells at kR
               go_wp2_with fail
               refine (HLN.out (ByteArray.mk #[105, 116, 101, 109]) 7 (k + 1) _ _ (by omega) (by omega) (by omega) (by first | rfl | omega) HSTz.out.below).mono ?_
               rintro e w9 ⟨⟨nv, rfl, hon⟩, hb⟩
               have HST9 := hide (HSTz.out.call hb)
               have z9 := hb.size
               have HON9 := hide hon
               clear hb hon kA fA yA kR yR fR
               go_wp2_with fail
               go_roundw
               case rel => exact ⟨k + 1, _, 6, _, _, _, _, by omega, by go_num, rfl, HST9.out, hrl2, by omega, HG2, HON9.out, z9, by have := HSTz.out.lt; omega, (fun z hz => by rcases hz with hz | hz | hz; exact (HSTz.out.own.pr.lt z hz).2; exact (HSTz.out.own.ty.lt z hz).2; exact (HSTz.out.own.it.lt z hz).2)⟩
               case measure => first | omega | (simp [intOf]; done) | (simp [intOf]; omega)
             refine AllReadyH.cons rfl (fun K hK => ?_) ?_
             · skip
               go_simp
               refine hK.out _ _ ?hS1 (fun hHeld => ?_)
               case hS1 => (try dsimp only); (go_keep)
               clear hK K
               try simp only [Act.put, List.getElem_toArray, List.getElem_cons_succ, List.getElem_cons_zero, List.setIfInBounds_toArray, List.set_cons_zero, List.set_cons_succ]
               refine wpAnyH_ready (rs := [1]) (by kernel_rfl) (by simp) ?_
               refine AllReadyH.cons rfl (fun K hK => ?_) AllReadyH.nil
               go_simp
               refine hK.out _ _ ?hS1 (fun hHeld => ?_)
               case hS1 => (try dsimp only); (go_keep)
               clear hK K
               try simp only [Act.put, List.getElem_toArray, List.getElem_cons_succ, List.getElem_cons_zero, List.setIfInBounds_toArray, List.set_cons_zero, List.set_cons_succ]
               refine wpAnyH_ready (rs := [25]) (by kernel_rfl) (by simp) ?_
               refine AllReadyH.cons rfl (fun K hK => ?_) AllReadyH.nil
               refine step_app rfl (.tmp 170) (.tmp 193) rfl (by simp [Act.eval]) (by simp [Act.eval]) (app1K encIt_len encIt_one Tryd.underlying39 itInfo rfl (by omega) (by omega) (HST.out.drew.own.it) (HST.out.drew.lt) (by unfold rqLen at hrl; omega) ⟨x0, x1, x2, x3, x4, x5, x6⟩ wr.heap.size rfl _ rfl) ?_
               intro v' wz ho2 hg2 hat2
               obtain ⟨m5, hm5⟩ : ∃ m5, (r.items ++ [(⟨x0, x1, x2, x3, x4, x5, x6⟩ : It)]).length = m5 := ⟨_, rfl⟩
               obtain ⟨A5, c5, rfl, s5'⟩ := Own.slk' encIt_len hm5 ho2
               clear s5'
               have PZ := (HST.out.drew.rq.alloc (.cells #[.int .i64 x0, .int .i64 x1, .int .i64 x2, .int .i64 x3, .int .i64 x4, .int .i64 x5, .int .i64 x6] 86)).grown hg2 (fun e => by have := (HST.out.own.it.lt _ e.symm).1; omega)
               have kZ := PZ.cell
               have fZ := PZ.frozen
               have yZ := PZ.lt
               unfold rdCells at kZ
               have HN2 := ((HSN.out.drew.alloc (by simp) (.cells #[.int .i64 x0, .int .i64 x1, .int .i64 x2, .int .i64 x3, .int .i64 x4, .int .i64 x5, .int .i64 x6] 86)).grown hg2 (by first | (simp; done) | (simp; omega)) (fun z hz => .inl (hown z (.inr (.inr hz))))).intsAt
               have d0 := HN2 0 (by omega)
               have d1 := HN2 1 (by omega)
               have d2 := HN2 2 (by omega)
               have d3 := HN2 3 (by omega)
               have d4 := HN2 4 (by omega)
               have d5 := HN2 5 (by omega)
               have d6 := HN2 6 (by omega)
               simp only [Nat.add_zero] at d0
               simp only [HX.out.1, HX.out.2.1, HX.out.2.2.1, HX.out.2.2.2.1, HX.out.2.2.2.2.1, HX.out.2.2.2.2.2.1, HX.out.2.2.2.2.2.2] at d0 d1 d2 d3 d4 d5 d6
               clear HN2
               refine hK.out _ _ ⟨d0, d1, d2, d3, d4, d5, d6⟩ (fun hHeld => ?_)
               clear hK K
               try simp only [Act.put, List.getElem_toArray, List.getElem_cons_succ, List.getElem_cons_zero, List.setIfInBounds_toArray, List.set_cons_zero, List.set_cons_succ]
               refine wpAnyH_take (i := 26) (v := ?_) rfl (by kernel_rfl) (by kernel_rfl) (by kernel_rfl) (fun _ _ _ h => h) (Or.inl ⟨by rfl, ?_⟩) (by assumption) ?_
               rotate_left 1
               · intro w hSw
                 try dsimp only at hSw
                 go_simp
                 try with_reducible rfl
               simp only [Act.put, List.getElem_toArray, List.getElem_cons_succ, List.getElem_cons_zero, List.setIfInBounds_toArray, List.set_cons_zero, List.set_cons_succ]
               refine wpAnyH_ready (rs := [27]) (by kernel_rfl) (by simp) ?_
               refine AllReadyH.cons rfl (fun K hK => ?_) AllReadyH.nil
               go_simp
               refine hK.out _ _ ?hS1 (fun hHeld => ?_)
               case hS1 => (try dsimp only); (go_keep)
               clear hK K
               try simp only [Act.put, List.getElem_toArray, List.getElem_cons_succ, List.getElem_cons_zero, List.setIfInBounds_toArray, List.set_cons_zero, List.set_cons_succ]
               refine wpAnyH_done (by kernel_rfl) ?_ _
               have HSTz : Hid (RdSt w1 (wz.setCell ⟨w1.heap.size, 9, none⟩ (.slice A5 m5 c5)) (rIt r (qs, true)) (v1) (v2) (.slice A5 m5 c5)) := hide (by
                 have h := HST.out.drew.put (.cells #[.int .i64 x0, .int .i64 x1, .int .i64 x2, .int .i64 x3, .int .i64 x4, .int .i64 x5, .int .i64 x6] 86) hg2 (fun z hz => (HST.out.own.it.lt z hz).1) (HST.out.drew.own.pushIt (.cells #[.int .i64 x0, .int .i64 x1, .int .i64 x2, .int .i64 x3, .int .i64 x4, .int .i64 x5, .int .i64 x6] 86) ho2 hg2 hat2) 9 (.slice A5 m5 c5) rfl
                 unfold rIt nAt
                 simp only [HX.out.1, HX.out.2.1, HX.out.2.2.1, HX.out.2.2.2.1, HX.out.2.2.2.2.1, HX.out.2.2.2.2.2.1, HX.out.2.2.2.2.2.2]
                 exact h)
               have hzz : wr.heap.size ≤ wz.heap.size := by have := hg2.size; simp only [World.size_alloc, World.size_drew] at this; omega
               clear ho2 hg2 hat2 PZ kZ fZ yZ hHeld d0 d1 d2 d3 d4 d5 d6 hm5
               have hrl2 : rqLen (rIt r (qs, true)) ≤ k + 1 := by unfold rqLen at hrl ⊢; simp [rIt]; omega
               clear kA fA yA kR yR fR
               have PBz := hide (P0.out.below HSTz.out.below y0)
               have kA := PBz.out.cell
               have fA := PBz.out.frozen
               have yA := PBz.out.lt
               have kR := HSTz.out.rq.cell
               have yR := HSTz.out.rq.lt
               have fR := HSTz.out.rq.frozen
               unfold rdCells at kR
               go_wp2_with fail
               refine (HLN.out (ByteArray.mk #[105, 116, 101, 109]) 7 (k + 1) _ _ (by omega) (by omega) (by omega) (by first | rfl | omega) HSTz.out.below).mono ?_
               rintro e w9 ⟨⟨nv, rfl, hon⟩, hb⟩
               have HST9 := hide (HSTz.out.call hb)
               have z9 := hb.size
               have HON9 := hide hon
               clear hb hon kA fA yA kR yR fR
               go_wp2_with fail
               go_roundw
               case rel => exact ⟨k + 1, _, 6, _, _, _, _, by omega, by go_num, rfl, HST9.out, hrl2, by omega, HG2, HON9.out, z9, by have := HSTz.out.lt; omega, (fun z hz => by rcases hz with hz | hz | hz; exact (HSTz.out.own.pr.lt z hz).2; exact (HSTz.out.own.ty.lt z hz).2; exact (HSTz.out.own.it.lt z hz).2)⟩
               case measure => first | omega | (simp [intOf]; done) | (simp [intOf]; omega)
             exact AllReadyH.nil
           have HNI := hide (lnR_f HN.out hq)
           clear hq hon
           obtain ⟨wa, hwa⟩ : ∃ wa : World, wa = wr := ⟨_, rfl⟩
           subst hwa
           have h5 : ¬ last < 5 := by omega
           by_cases hkn : k < n
           · have HE := hide (show readS s = (rq0, (k : Int)) by rw [← HG.out]; exact goA_no HN.out hkn (List.getElem?_eq_getElem (by have := HN.out; omega)) (mayF_no (putL_rng _ _) (by omega) (by have h6 := kind6 (r := r) (HNI.out _ hkn (List.getElem?_eq_getElem (by have := HN.out; omega))); omega)))
             have i1 : (k : Int) < (n : Int) := by omega
             go_wp2_with fail
             have PF := set10 PB.out rfl (.int .i64 0) (.int .i64 0) (.int .i64 0) (.int .i64 0) (.int .i64 0) (.int .i64 0) (nilV) (nilV) (.int .i64 0) (nilV)
             refine ret_cell2 Tryd.results29 rfl PF Tryd.underlying41 rfl (by kernel_rfl) rfl ⟨⟨nilV, nilV, nilV, ?_, by rw [HE.out]; exact RqOwn.nil_ _ _ rq0 rfl rfl rfl, by rw [HE.out]; exact Nat.zero_le _⟩, (L1.out.trans (HST.out.below.mono z1)).grown (grown10 wa w.heap.size (.int .i64 0) (.int .i64 0) (.int .i64 0) (.int .i64 0) (.int .i64 0) (.int .i64 0) (nilV) (nilV) (.int .i64 0) (nilV)) (by have := PB.out.lt; omega) (fun z hz => by have := Option.some.inj hz; omega)⟩
             rw [HE.out]
             rfl
           · obtain rfl : n = k := by omega
             obtain ⟨b1, off1, l, hl, e1, _, hb1, cL, _⟩ := (HSW.out.below HST.out.below (Nat.le_refl _)).str (i := n) (by omega)
             injection e1 with e1
             injection e1 with e1 e2
             subst e1 e2
             have HLT := hide (lnT_at HN.out hl)
             have j0 : (0 : Int) ≤ (n : Int) := by omega
             have j1 : (n : Int) < (n : Int) + 1 := by omega
             have j2 : b0 < wa.heap.size := by have := HST.out.below.size; omega
             clear hl hkn
             by_cases hT : l = (ByteArray.mk #[])
             · subst hT
               have HE := hide (show readS s = (r, -1) by rw [← HG.out, goA_good HN.out h5 HLT.out])
               obtain ⟨A1, c1, A2, c2, A3, c3, rfl, rfl, rfl, _⟩ := HST.out.own.rqAt
               go_wp2_with fail
               have PF := set10 PB.out rfl (.int .i64 r.way) (.int .i64 r.pal.w) (.int .i64 r.pal.d) (.int .i64 r.pal.h) (.int .i64 r.pal.gram) (.int .i64 r.cls) (.slice A1 r.pairs.length c1) (.slice A2 r.types.length c2) (.int .i64 r.master) (.slice A3 r.items.length c3)
               refine ret_cell2 Tryd.results29 rfl PF Tryd.underlying41 rfl (by kernel_rfl) rfl ⟨⟨_, _, _, ?_, by rw [HE.out]; exact rqOwn_le (HST.out.own.away (grown10 wa w.heap.size (.int .i64 r.way) (.int .i64 r.pal.w) (.int .i64 r.pal.d) (.int .i64 r.pal.h) (.int .i64 r.pal.gram) (.int .i64 r.cls) (.slice A1 r.pairs.length c1) (.slice A2 r.types.length c2) (.int .i64 r.master) (.slice A3 r.items.length c3)) (by omega)) (by omega), by rw [HE.out]; exact Nat.le_trans hrl hn60⟩, (L1.out.trans (HST.out.below.mono z1)).grown (grown10 wa w.heap.size (.int .i64 r.way) (.int .i64 r.pal.w) (.int .i64 r.pal.d) (.int .i64 r.pal.h) (.int .i64 r.pal.gram) (.int .i64 r.cls) (.slice A1 r.pairs.length c1) (.slice A2 r.types.length c2) (.int .i64 r.master) (.slice A3 r.items.length c3)) (by have := PB.out.lt; omega) (fun z hz => by have := Option.some.inj hz; omega)⟩
               rw [HE.out]
               rfl
             · have HE := hide (show readS s = (rq0, (n : Int)) by rw [← HG.out, goA_bad HN.out (.inr (by rw [HLT.out]; exact hT))])
               have hnil : (l.toList == []) = false := litne hT
               clear hT
               go_wp2_with fail
               have PF := set10 PB.out rfl (.int .i64 0) (.int .i64 0) (.int .i64 0) (.int .i64 0) (.int .i64 0) (.int .i64 0) (nilV) (nilV) (.int .i64 0) (nilV)
               refine ret_cell2 Tryd.results29 rfl PF Tryd.underlying41 rfl (by kernel_rfl) rfl ⟨⟨nilV, nilV, nilV, ?_, by rw [HE.out]; exact RqOwn.nil_ _ _ rq0 rfl rfl rfl, by rw [HE.out]; exact Nat.zero_le _⟩, (L1.out.trans (HST.out.below.mono z1)).grown (grown10 wa w.heap.size (.int .i64 0) (.int .i64 0) (.int .i64 0) (.int .i64 0) (.int .i64 0) (.int .i64 0) (nilV) (nilV) (.int .i64 0) (nilV)) (by have := PB.out.lt; omega) (fun z hz => by have := Option.some.inj hz; omega)⟩
               rw [HE.out]
               rfl
  case pos =>
    subst hF
    have HST1 : Hid (RdSt w1 (w1.alloc (.cells #[.int .i64 0, .int .i64 0, .int .i64 0, .int .i64 0, .int .i64 0, .int .i64 0, .slice none 0 0, .slice none 0 0, .int .i64 0, .slice none 0 0] 41)) ({ rq0 with way := 0 } : Rq) nilV nilV nilV) := HST0
    have HG : Hid (goA (lnT P) ((lnL P).drop 1) 1 ({ rq0 with way := 0 } : Rq) 0 = readS s) := hide (by rw [← HZ2.out]; exact (goA_step HN.out hnp HL0.out (putL_wayF rq0) rfl).symm)
    clear HL0
    obtain ⟨q0, hq0⟩ : ∃ q0, ({ rq0 with way := 0 } : Rq) = q0 := ⟨_, rfl⟩
    rw [hq0] at HST1 HG
    have hrq0 : rqLen q0 ≤ 0 := by rw [← hq0]; exact Nat.le_refl _
    clear hq0
    have PB1 := hide (P0.out.below HST1.out.below y0)
    clear kA fA yA
    have kA := PB1.out.cell
    have fA := PB1.out.frozen
    have yA := PB1.out.lt
    have kR := HST1.out.rq.cell
    have yR := HST1.out.rq.lt
    have fR := HST1.out.rq.frozen
    unfold rdCells at kR
    go_wp2_with fail
    refine (HLN.out (ByteArray.mk #[112, 97, 108, 108, 101, 116]) 4 (1) _ _ (by omega) (by omega) (by omega) (by first | rfl | omega) HST1.out.below).mono ?_
    rintro e w2 ⟨⟨nv, rfl, hon⟩, hb⟩
    have HST2 := hide (HST1.out.call hb)
    have z2 := hb.size
    clear hb kA fA yA kR yR fR
    have PB2 := hide (P0.out.below HST2.out.below y0)
    have kA := PB2.out.cell
    have fA := PB2.out.frozen
    have yA := PB2.out.lt
    have kR := HST2.out.rq.cell
    have yR := HST2.out.rq.lt
    have fR := HST2.out.rq.frozen
    unfold rdCells at kR
    obtain ⟨⟨qs, qb⟩, hq⟩ : ∃ q, lnR P 1 (ByteArray.mk #[112, 97, 108, 108, 101, 116]) 4 = q := ⟨_, rfl⟩
    rw [hq] at hon ⊢
    cases qb
    case false =>
      have HE := hide (show readS s = (rq0, ((1 : Nat) : Int)) by rw [← HG.out]; exact goA_stop HN.out (by omega) (by omega) (fun l hk hl => mayF_no (putL_rng _ _) (by omega) (by have := kind1 (r := q0) (lnR_f HN.out hq l hk hl); omega)))
      clear hq hon
      go_wp2_with fail
      have PF := set10 PB2.out rfl (.int .i64 0) (.int .i64 0) (.int .i64 0) (.int .i64 0) (.int .i64 0) (.int .i64 0) (nilV) (nilV) (.int .i64 0) (nilV)
      refine ret_cell2 Tryd.results29 rfl PF Tryd.underlying41 rfl (by kernel_rfl) rfl ⟨⟨nilV, nilV, nilV, ?_, by rw [HE.out]; exact RqOwn.nil_ _ _ rq0 rfl rfl rfl, by rw [HE.out]; exact Nat.zero_le _⟩, (L1.out.trans (HST2.out.below.mono z1)).grown (grown10 w2 w.heap.size (.int .i64 0) (.int .i64 0) (.int .i64 0) (.int .i64 0) (.int .i64 0) (.int .i64 0) (nilV) (nilV) (.int .i64 0) (nilV)) (by have := PB2.out.lt; omega) (fun z hz => by have := Option.some.inj hz; omega)⟩
      rw [HE.out]
      rfl
    obtain ⟨l, hkl, hl, hnl⟩ := lnR_t HN.out hq
    have hql : qs.length = 4 := by have := numsR_len (line := l) (by rw [hnl]); rw [hnl] at this; exact this
    obtain ⟨An, cn, rfl, sn⟩ := Own.slk' encInt_len hql hon
    obtain ⟨bn, on, rfl, hbl, hbn, hc⟩ := sn.ints (by omega)
    have HSN := hide sn
    have ncc := sn.cap
    have ncm := sn.max
    have c0 := hc 0 (by omega)
    have c1 := hc 1 (by omega)
    have c2 := hc 2 (by omega)
    have c3 := hc 3 (by omega)
    simp only [Nat.add_zero] at c0
    have hne : w1.heap.size ≠ bn := by have := HST1.out.lt; omega
    have zbn : bn < w2.heap.size := hbn
    obtain ⟨x0, hx0⟩ : ∃ x, qs.getD 0 0 = x := ⟨_, rfl⟩
    rw [hx0] at c0
    obtain ⟨x1, hx1⟩ : ∃ x, qs.getD 1 0 = x := ⟨_, rfl⟩
    rw [hx1] at c1
    obtain ⟨x2, hx2⟩ : ∃ x, qs.getD 2 0 = x := ⟨_, rfl⟩
    rw [hx2] at c2
    obtain ⟨x3, hx3⟩ : ∃ x, qs.getD 3 0 = x := ⟨_, rfl⟩
    rw [hx3] at c3
    have HX := hide (show qs.getD 0 0 = x0 ∧ qs.getD 1 0 = x1 ∧ qs.getD 2 0 = x2 ∧ qs.getD 3 0 = x3 from ⟨hx0, hx1, hx2, hx3⟩)
    clear hc sn hx0 hx1 hx2 hx3
    have HG2 : Hid (goA (lnT P) ((lnL P).drop (1 + 1)) (1 + 1) (rPal q0 (qs, true)) 1 = readS s) := hide (by rw [← HG.out]; exact (goA_step HN.out hkl hl (by rw [putL_1 (by rw [hnl]), hnl]) rfl).symm)
    go_wp2_with fail
    refine wp_region_held_drew (S := (fun w' => w'.cell? ⟨bn, on, none⟩ = some (.int .i64 x0) ∧ w'.cell? ⟨bn, on + 1, none⟩ = some (.int .i64 x1) ∧ w'.cell? ⟨bn, on + 2, none⟩ = some (.int .i64 x2) ∧ w'.cell? ⟨bn, on + 3, none⟩ = some (.int .i64 x3))) (by kernel_rfl) ?hS0 (fun hHeld => ?_)
    case hS0 => (exact ⟨c0, c1, c2, c3⟩)
    refine wpAnyH_take (i := 0) (v := ?_) rfl (by kernel_rfl) (by kernel_rfl) (by kernel_rfl) (fun _ _ _ h => h) (Or.inl ⟨by rfl, ?_⟩) (by assumption) ?_
    rotate_left 1
    · intro w hSw
      try dsimp only at hSw
      go_simp
      try with_reducible rfl
    simp only [Act.put, List.getElem_toArray, List.getElem_cons_succ, List.getElem_cons_zero, List.setIfInBounds_toArray, List.set_cons_zero, List.set_cons_succ]
    refine wpAnyH_take (i := 1) (v := ?_) rfl (by kernel_rfl) (by kernel_rfl) (by kernel_rfl) (fun _ _ _ h => h) (Or.inl ⟨by rfl, ?_⟩) (by assumption) ?_
    rotate_left 1
    · intro w hSw
      try dsimp only at hSw
      go_simp
      try with_reducible rfl
    simp only [Act.put, List.getElem_toArray, List.getElem_cons_succ, List.getElem_cons_zero, List.setIfInBounds_toArray, List.set_cons_zero, List.set_cons_succ]
    refine wpAnyH_take (i := 2) (v := ?_) rfl (by kernel_rfl) (by kernel_rfl) (by kernel_rfl) (fun _ _ _ h => h) (Or.inl ⟨by rfl, ?_⟩) (by assumption) ?_
    rotate_left 1
    · intro w hSw
      try dsimp only at hSw
      go_simp
      try with_reducible rfl
    simp only [Act.put, List.getElem_toArray, List.getElem_cons_succ, List.getElem_cons_zero, List.setIfInBounds_toArray, List.set_cons_zero, List.set_cons_succ]
    refine wpAnyH_take (i := 3) (v := ?_) rfl (by kernel_rfl) (by kernel_rfl) (by kernel_rfl) (fun _ _ _ h => h) (Or.inl ⟨by rfl, ?_⟩) (by assumption) ?_
    rotate_left 1
    · intro w hSw
      try dsimp only at hSw
      go_simp
      try with_reducible rfl
    simp only [Act.put, List.getElem_toArray, List.getElem_cons_succ, List.getElem_cons_zero, List.setIfInBounds_toArray, List.set_cons_zero, List.set_cons_succ]
    refine wpAnyH_take (i := 4) (v := ?_) rfl (by kernel_rfl) (by kernel_rfl) (by kernel_rfl) (fun _ _ _ h => h) (Or.inl ⟨by rfl, ?_⟩) (by assumption) ?_
    rotate_left 1
    · intro w hSw
      try dsimp only at hSw
      go_simp
      try with_reducible rfl
    simp only [Act.put, List.getElem_toArray, List.getElem_cons_succ, List.getElem_cons_zero, List.setIfInBounds_toArray, List.set_cons_zero, List.set_cons_succ]
    refine wpAnyH_take (i := 5) (v := ?_) rfl (by kernel_rfl) (by kernel_rfl) (by kernel_rfl) (fun _ _ _ h => h) (Or.inl ⟨by rfl, ?_⟩) (by assumption) ?_
    rotate_left 1
    · intro w hSw
      try dsimp only at hSw
      go_simp
      try with_reducible rfl
    simp only [Act.put, List.getElem_toArray, List.getElem_cons_succ, List.getElem_cons_zero, List.setIfInBounds_toArray, List.set_cons_zero, List.set_cons_succ]
    refine wpAnyH_take (i := 6) (v := ?_) rfl (by kernel_rfl) (by kernel_rfl) (by kernel_rfl) (fun _ _ _ h => h) (Or.inl ⟨by rfl, ?_⟩) (by assumption) ?_
    rotate_left 1
    · intro w hSw
      try dsimp only at hSw
      go_simp
      try with_reducible rfl
    simp only [Act.put, List.getElem_toArray, List.getElem_cons_succ, List.getElem_cons_zero, List.setIfInBounds_toArray, List.set_cons_zero, List.set_cons_succ]
    refine wpAnyH_take (i := 7) (v := ?_) rfl (by kernel_rfl) (by kernel_rfl) (by kernel_rfl) (fun _ _ _ h => h) (Or.inl ⟨by rfl, ?_⟩) (by assumption) ?_
    rotate_left 1
    · intro w hSw
      try dsimp only at hSw
      go_simp
      try with_reducible rfl
    simp only [Act.put, List.getElem_toArray, List.getElem_cons_succ, List.getElem_cons_zero, List.setIfInBounds_toArray, List.set_cons_zero, List.set_cons_succ]
    refine wpAnyH_take (i := 8) (v := ?_) rfl (by kernel_rfl) (by kernel_rfl) (by kernel_rfl) (fun _ _ _ h => h) (Or.inl ⟨by rfl, ?_⟩) (by assumption) ?_
    rotate_left 1
    · intro w hSw
      try dsimp only at hSw
      go_simp
      try with_reducible rfl
    simp only [Act.put, List.getElem_toArray, List.getElem_cons_succ, List.getElem_cons_zero, List.setIfInBounds_toArray, List.set_cons_zero, List.set_cons_succ]
    refine wpAnyH_take (i := 9) (v := ?_) rfl (by kernel_rfl) (by kernel_rfl) (by kernel_rfl) (fun _ _ _ h => h) (Or.inl ⟨by rfl, ?_⟩) (by assumption) ?_
    rotate_left 1
    · intro w hSw
      try dsimp only at hSw
      go_simp
      try with_reducible rfl
    simp only [Act.put, List.getElem_toArray, List.getElem_cons_succ, List.getElem_cons_zero, List.setIfInBounds_toArray, List.set_cons_zero, List.set_cons_succ]
    refine wpAnyH_take (i := 10) (v := ?_) rfl (by kernel_rfl) (by kernel_rfl) (by kernel_rfl) (fun _ _ _ h => h) (Or.inl ⟨by rfl, ?_⟩) (by assumption) ?_
    rotate_left 1
    · intro w hSw
      try dsimp only at hSw
      go_simp
      try with_reducible rfl
    simp only [Act.put, List.getElem_toArray, List.getElem_cons_succ, List.getElem_cons_zero, List.setIfInBounds_toArray, List.set_cons_zero, List.set_cons_succ]
    refine wpAnyH_take (i := 11) (v := ?_) rfl (by kernel_rfl) (by kernel_rfl) (by kernel_rfl) (fun _ _ _ h => h) (Or.inl ⟨by rfl, ?_⟩) (by assumption) ?_
    rotate_left 1
    · intro w hSw
      try dsimp only at hSw
      go_simp
      try with_reducible rfl
    simp only [Act.put, List.getElem_toArray, List.getElem_cons_succ, List.getElem_cons_zero, List.setIfInBounds_toArray, List.set_cons_zero, List.set_cons_succ]
    refine wpAnyH_take (i := 12) (v := ?_) rfl (by kernel_rfl) (by kernel_rfl) (by kernel_rfl) (fun _ _ _ h => h) (Or.inl ⟨by rfl, ?_⟩) (by assumption) ?_
    rotate_left 1
    · intro w hSw
      try dsimp only at hSw
      go_simp
      try with_reducible rfl
    simp only [Act.put, List.getElem_toArray, List.getElem_cons_succ, List.getElem_cons_zero, List.setIfInBounds_toArray, List.set_cons_zero, List.set_cons_succ]
    refine wpAnyH_take (i := 13) (v := ?_) rfl (by kernel_rfl) (by kernel_rfl) (by kernel_rfl) (fun _ _ _ h => h) (Or.inl ⟨by rfl, ?_⟩) (by assumption) ?_
    rotate_left 1
    · intro w hSw
      try dsimp only at hSw
      go_simp
      try with_reducible rfl
    simp only [Act.put, List.getElem_toArray, List.getElem_cons_succ, List.getElem_cons_zero, List.setIfInBounds_toArray, List.set_cons_zero, List.set_cons_succ]
    refine wpAnyH_ready (rs := [14]) (by kernel_rfl) (by simp) ?_
    refine AllReadyH.cons rfl (fun K hK => ?_) AllReadyH.nil
    go_simp
    refine hK.out _ _ ?hS1 (fun hHeld => ?_)
    case hS1 => (try dsimp only); (go_keep)
    clear hK K
    try simp only [Act.put, List.getElem_toArray, List.getElem_cons_succ, List.getElem_cons_zero, List.setIfInBounds_toArray, List.set_cons_zero, List.set_cons_succ]
    refine wpAnyH_done (by kernel_rfl) ?_ _
    have HST3 : Hid (RdSt w1 ((((w2.setCell ⟨w1.heap.size, 1, none⟩ (.int .i64 x0)).setCell ⟨w1.heap.size, 2, none⟩ (.int .i64 x1)).setCell ⟨w1.heap.size, 3, none⟩ (.int .i64 x2)).setCell ⟨w1.heap.size, 4, none⟩ (.int .i64 x3)).drew (rPal q0 (qs, true)) nilV nilV nilV) := hide (by unfold rPal nAt; simp only [HX.out.1, HX.out.2.1, HX.out.2.2.1, HX.out.2.2.2]; exact ((((HST2.out.set 1 (.int .i64 x0) (r' := { q0 with pal := ⟨x0, q0.pal.d, q0.pal.h, q0.pal.gram⟩ }) rfl rfl rfl rfl).set 2 (.int .i64 x1) (r' := { q0 with pal := ⟨x0, x1, q0.pal.h, q0.pal.gram⟩ }) rfl rfl rfl rfl).set 3 (.int .i64 x2) (r' := { q0 with pal := ⟨x0, x1, x2, q0.pal.gram⟩ }) rfl rfl rfl rfl).set 4 (.int .i64 x3) (r' := { q0 with pal := ⟨x0, x1, x2, x3⟩ }) rfl rfl rfl rfl).drew)
    clear HG hq hl hnl hon kA fA yA kR yR fR hHeld
    have HG := HG2
    clear HG2
    obtain ⟨q1, hq1⟩ : ∃ q1, rPal q0 (qs, true) = q1 := ⟨_, rfl⟩
    rw [hq1] at HST3 HG
    have hrq1 : rqLen q1 ≤ 0 := by rw [← hq1]; exact hrq0
    obtain ⟨wc, hwc⟩ : ∃ wc, ((((w2.setCell ⟨w1.heap.size, 1, none⟩ (.int .i64 x0)).setCell ⟨w1.heap.size, 2, none⟩ (.int .i64 x1)).setCell ⟨w1.heap.size, 3, none⟩ (.int .i64 x2)).setCell ⟨w1.heap.size, 4, none⟩ (.int .i64 x3)).drew = wc := ⟨_, rfl⟩
    rw [hwc] at HST3 ⊢
    clear hwc hq1 HSN HX ncc ncm hne zbn hbl hbn hql c0 c1 c2 c3
    have PB3 := hide (P0.out.below HST3.out.below y0)
    have kA := PB3.out.cell
    have fA := PB3.out.frozen
    have yA := PB3.out.lt
    have kR := HST3.out.rq.cell
    have yR := HST3.out.rq.lt
    have fR := HST3.out.rq.frozen
    unfold rdCells at kR
    go_wp2_with fail
    refine (HLN.out (ByteArray.mk #[99, 108, 97, 115, 115, 101, 115]) 1 (2) _ _ (by omega) (by omega) (by omega) (by first | rfl | omega) HST3.out.below).mono ?_
    rintro e w4 ⟨⟨nv, rfl, hon⟩, hb⟩
    have HST4 := hide (HST3.out.call hb)
    have z4 := hb.size
    clear hb kA fA yA kR yR fR
    have PB4 := hide (P0.out.below HST4.out.below y0)
    have kA := PB4.out.cell
    have fA := PB4.out.frozen
    have yA := PB4.out.lt
    have kR := HST4.out.rq.cell
    have yR := HST4.out.rq.lt
    have fR := HST4.out.rq.frozen
    unfold rdCells at kR
    obtain ⟨⟨qs, qb⟩, hq⟩ : ∃ q, lnR P 2 (ByteArray.mk #[99, 108, 97, 115, 115, 101, 115]) 1 = q := ⟨_, rfl⟩
    rw [hq] at hon ⊢
    cases qb
    case false =>
      have HE := hide (show readS s = (rq0, ((2 : Nat) : Int)) by rw [← HG.out]; exact goA_stop HN.out (by omega) (by omega) (fun l hk hl => mayF_no (putL_rng _ _) (by omega) (by have := kind2 (r := q1) (lnR_f HN.out hq l hk hl); omega)))
      clear hq hon
      go_wp2_with fail
      have PF := set10 PB4.out rfl (.int .i64 0) (.int .i64 0) (.int .i64 0) (.int .i64 0) (.int .i64 0) (.int .i64 0) (nilV) (nilV) (.int .i64 0) (nilV)
      refine ret_cell2 Tryd.results29 rfl PF Tryd.underlying41 rfl (by kernel_rfl) rfl ⟨⟨nilV, nilV, nilV, ?_, by rw [HE.out]; exact RqOwn.nil_ _ _ rq0 rfl rfl rfl, by rw [HE.out]; exact Nat.zero_le _⟩, (L1.out.trans (HST4.out.below.mono z1)).grown (grown10 w4 w.heap.size (.int .i64 0) (.int .i64 0) (.int .i64 0) (.int .i64 0) (.int .i64 0) (.int .i64 0) (nilV) (nilV) (.int .i64 0) (nilV)) (by have := PB4.out.lt; omega) (fun z hz => by have := Option.some.inj hz; omega)⟩
      rw [HE.out]
      rfl
    obtain ⟨l, hkl, hl, hnl⟩ := lnR_t HN.out hq
    have hql : qs.length = 1 := by have := numsR_len (line := l) (by rw [hnl]); rw [hnl] at this; exact this
    obtain ⟨An, cn, rfl, sn⟩ := Own.slk' encInt_len hql hon
    obtain ⟨bn, on, rfl, hbl, hbn, hc⟩ := sn.ints (by omega)
    have HSN := hide sn
    have ncc := sn.cap
    have ncm := sn.max
    have c0 := hc 0 (by omega)
    simp only [Nat.add_zero] at c0
    have hne : w1.heap.size ≠ bn := by have := HST3.out.lt; omega
    have zbn : bn < w4.heap.size := hbn
    obtain ⟨x0, hx0⟩ : ∃ x, qs.getD 0 0 = x := ⟨_, rfl⟩
    rw [hx0] at c0
    have HX := hide hx0
    clear hc sn hx0
    have HG2 : Hid (goA (lnT P) ((lnL P).drop (2 + 1)) (2 + 1) (rCls q1 (qs, true)) 2 = readS s) := hide (by rw [← HG.out]; exact (goA_step HN.out hkl hl (by rw [putL_2 (by rw [hnl]), hnl]) rfl).symm)
    have HST6 : Hid (RdSt w1 (w4.setCell ⟨w1.heap.size, 5, none⟩ (.int .i64 x0)) (rCls q1 (qs, true)) nilV nilV nilV) := hide (by unfold rCls nAt; simp only [HX.out]; exact HST4.out.set 5 (.int .i64 x0) rfl rfl rfl rfl)
    clear HG hq hl hnl hon kA fA yA
    have HG := HG2
    clear HG2
    have hrl3 : rqLen (rCls q1 (qs, true)) ≤ 3 := Nat.le_trans hrq1 (by omega)
    have PB6 := hide (P0.out.below HST6.out.below y0)
    have kA := PB6.out.cell
    have fA := PB6.out.frozen
    have yA := PB6.out.lt
    go_wp2_with fail
    refine (HLN.out (ByteArray.mk #[119, 105, 116, 104]) 2 (3) _ _ (by omega) (by omega) (by omega) (by first | rfl | omega) HST6.out.below).mono ?_
    rintro e w7 ⟨⟨nv, rfl, hon⟩, hb⟩
    have HST7 := hide (HST6.out.call hb)
    have z7 := hb.size
    clear hb kA fA yA kR yR fR
    have PB7 := hide (P0.out.below HST7.out.below y0)
    have kA := PB7.out.cell
    have fA := PB7.out.frozen
    have yA := PB7.out.lt
    have kR := HST7.out.rq.cell
    have yR := HST7.out.rq.lt
    have fR := HST7.out.rq.frozen
    unfold rdCells at kR
    go_wp2_with fail
    go_loopw [7, 8, 9] (fun ai nv ok wr => ∃ (k : Nat) (r : Rq) (last : Int) (v1 v2 v3 : Value) (b : Nat), k ≤ n ∧ ai = .int .i64 k ∧ ok = .bool (lnR P k (ByteArray.mk #[119, 105, 116, 104]) 2).2 ∧ RdSt w1 wr r v1 v2 v3 ∧ rqLen r ≤ k ∧ (last = 2 ∨ last = 3) ∧ Hid (goA (lnT P) ((lnL P).drop k) k r last = readS s) ∧ Own 1 encInt 3 wr b nv (lnR P k (ByteArray.mk #[119, 105, 116, 104]) 2).1 ∧ b ≤ wr.heap.size ∧ w1.heap.size < b ∧ (∀ z, (v1.ownBlock = some z ∨ v2.ownBlock = some z ∨ v3.ownBlock = some z) → z < b)) (fun ai _ _ _ => n - (intOf ai).toNat)
    case atStart => exact ⟨3, _, 2, _, _, _, _, by omega, by first | rfl | exact congrArg (Value.int .i64) (by omega), rfl, HST7.out, hrl3, by omega, HG, hon, by have := z7; omega, by have := HST6.out.lt; omega, (fun z hz => by rcases hz with hz | hz | hz; exact (HST6.out.own.pr.lt z hz).2; exact (HST6.out.own.ty.lt z hz).2; exact (HST6.out.own.it.lt z hz).2)⟩
    case round =>
      obtain ⟨k, r, last, v1, v2, v3, b, hk, rfl, rfl, hst, hrl, hlast, HG, hon, hbb, hbw, hown⟩ := hrel
      have HST := hide hst
      clear hst
      have PB := hide (P0.out.below HST.out.below y0)
      have kA := PB.out.cell
      have fA := PB.out.frozen
      have yA := PB.out.lt
      have kR := HST.out.rq.cell
      have yR := HST.out.rq.lt
      have fR := HST.out.rq.frozen
      unfold rdCells at kR
      have y1 := HST.out.below.size
      obtain ⟨⟨qs, qb⟩, hq⟩ : ∃ q, lnR P k (ByteArray.mk #[119, 105, 116, 104]) 2 = q := ⟨_, rfl⟩
      rw [hq] at hon ⊢
      have HQ := hide hq
      cases qb
      case true =>
        obtain ⟨l, hkl, hl, hnl⟩ := lnR_t HN.out hq
        have HG2 : Hid (goA (lnT P) ((lnL P).drop (k + 1)) (k + 1) (rPr r (qs, true)) 3 = readS s) := hide (by rw [← HG.out]; exact (goA_step HN.out hkl hl (by rw [putL_3 (by rw [hnl]), hnl]) (by rcases hlast with rfl | rfl <;> rfl)).symm)
        have hql : qs.length = 2 := by have := numsR_len (line := l) (by rw [hnl]); rw [hnl] at this; exact this
        obtain ⟨An, cn, rfl, sn⟩ := Own.slk' encInt_len hql hon
        obtain ⟨bn, on, rfl, hbl, hbn, hc⟩ := sn.ints (by omega)
        have HSN := hide sn
        have ncc := sn.cap
        have ncm := sn.max
        have c0 := hc 0 (by omega)
        have c1 := hc 1 (by omega)
        simp only [Nat.add_zero] at c0
        have hne : w1.heap.size ≠ bn := by omega
        have zbn : bn < wr.heap.size := hbn
        obtain ⟨x0, hx0⟩ : ∃ x, qs.getD 0 0 = x := ⟨_, rfl⟩
        rw [hx0] at c0
        obtain ⟨x1, hx1⟩ : ∃ x, qs.getD 1 0 = x := ⟨_, rfl⟩
        rw [hx1] at c1
        have HX := hide (show qs.getD 0 0 = x0 ∧ qs.getD 1 0 = x1 from ⟨hx0, hx1⟩)
        clear hc sn hl hnl hq hon hx0 hx1
        go_wp2_with fail
        refine wp_region_held_drew (S := (fun w' => w'.cell? ⟨bn, on, none⟩ = some (.int .i64 x0) ∧ w'.cell? ⟨bn, on + 1, none⟩ = some (.int .i64 x1))) (by kernel_rfl) ?hS0 (fun hHeld => ?_)
        case hS0 => (exact ⟨c0, c1⟩)
        refine wpAnyH_take (i := 0) (v := ?_) rfl (by kernel_rfl) (by kernel_rfl) (by kernel_rfl) (fun _ _ _ h => h) (Or.inl ⟨by rfl, ?_⟩) (by assumption) ?_
        rotate_left 1
        · intro w hSw
          try dsimp only at hSw
          go_simp
          try with_reducible rfl
        simp only [Act.put, List.getElem_toArray, List.getElem_cons_succ, List.getElem_cons_zero, List.setIfInBounds_toArray, List.set_cons_zero, List.set_cons_succ]
        refine wpAnyH_take (i := 2) (v := ?_) rfl (by kernel_rfl) (by kernel_rfl) (by kernel_rfl) (fun _ _ _ h => h) (Or.inl ⟨by rfl, ?_⟩) (by assumption) ?_
        rotate_left 1
        · intro w hSw
          try dsimp only at hSw
          go_simp
          try with_reducible rfl
        simp only [Act.put, List.getElem_toArray, List.getElem_cons_succ, List.getElem_cons_zero, List.setIfInBounds_toArray, List.set_cons_zero, List.set_cons_succ]
        refine wpAnyH_take (i := 3) (v := ?_) rfl (by kernel_rfl) (by kernel_rfl) (by kernel_rfl) (fun _ _ _ h => h) (Or.inl ⟨by rfl, ?_⟩) (by assumption) ?_
        rotate_left 1
        · intro w hSw
          try dsimp only at hSw
          go_simp
          try with_reducible rfl
        simp only [Act.put, List.getElem_toArray, List.getElem_cons_succ, List.getElem_cons_zero, List.setIfInBounds_toArray, List.set_cons_zero, List.set_cons_succ]
        refine wpAnyH_take (i := 4) (v := ?_) rfl (by kernel_rfl) (by kernel_rfl) (by kernel_rfl) (fun _ _ _ h => h) (Or.inl ⟨by rfl, ?_⟩) (by assumption) ?_
        rotate_left 1
        · intro w hSw
          try dsimp only at hSw
          go_simp
          try with_reducible rfl
        simp only [Act.put, List.getElem_toArray, List.getElem_cons_succ, List.getElem_cons_zero, List.setIfInBounds_toArray, List.set_cons_zero, List.set_cons_succ]
        refine wpAnyH_take (i := 5) (v := ?_) rfl (by kernel_rfl) (by kernel_rfl) (by kernel_rfl) (fun _ _ _ h => h) (Or.inl ⟨by rfl, ?_⟩) (by assumption) ?_
        rotate_left 1
        · intro w hSw
          try dsimp only at hSw
          go_simp
          try with_reducible rfl
        simp only [Act.put, List.getElem_toArray, List.getElem_cons_succ, List.getElem_cons_zero, List.setIfInBounds_toArray, List.set_cons_zero, List.set_cons_succ]
        refine wpAnyH_take (i := 6) (v := ?_) rfl (by kernel_rfl) (by kernel_rfl) (by kernel_rfl) (fun _ _ _ h => h) (Or.inl ⟨by rfl, ?_⟩) (by assumption) ?_
        rotate_left 1
        · intro w hSw
          try dsimp only at hSw
          go_simp
          try with_reducible rfl
        simp only [Act.put, List.getElem_toArray, List.getElem_cons_succ, List.getElem_cons_zero, List.setIfInBounds_toArray, List.set_cons_zero, List.set_cons_succ]
        refine wpAnyH_take (i := 7) (v := ?_) rfl (by kernel_rfl) (by kernel_rfl) (by kernel_rfl) (fun _ _ _ h => h) (Or.inl ⟨by rfl, ?_⟩) (by assumption) ?_
        rotate_left 1
        · intro w hSw
          try dsimp only at hSw
          go_simp
          try with_reducible rfl
        simp only [Act.put, List.getElem_toArray, List.getElem_cons_succ, List.getElem_cons_zero, List.setIfInBounds_toArray, List.set_cons_zero, List.set_cons_succ]
        refine wpAnyH_take (i := 8) (v := ?_) rfl (by kernel_rfl) (by kernel_rfl) (by kernel_rfl) (fun _ _ _ h => h) (Or.inl ⟨by rfl, ?_⟩) (by assumption) ?_
        rotate_left 1
        · intro w hSw
          try dsimp only at hSw
          go_simp
          try with_reducible rfl
        simp only [Act.put, List.getElem_toArray, List.getElem_cons_succ, List.getElem_cons_zero, List.setIfInBounds_toArray, List.set_cons_zero, List.set_cons_succ]
        refine wpAnyH_ready (rs := [1, 9]) (by kernel_rfl) (by simp) ?_
        refine AllReadyH.cons rfl (fun K hK => ?_) ?_
        · skip
          go_simp
          refine hK.out _ _ ?hS1 (fun hHeld => ?_)
          case hS1 => (try dsimp only); (go_keep)
          clear hK K
          try simp only [Act.put, List.getElem_toArray, List.getElem_cons_succ, List.getElem_cons_zero, List.setIfInBounds_toArray, List.set_cons_zero, List.set_cons_succ]
          refine wpAnyH_ready (rs := [9]) (by kernel_rfl) (by simp) ?_
          refine AllReadyH.cons rfl (fun K hK => ?_) AllReadyH.nil
          go_simp
          refine hK.out _ _ ?hS1 (fun hHeld => ?_)
          case hS1 => (try dsimp only); (go_keep)
          clear hK K
          try simp only [Act.put, List.getElem_toArray, List.getElem_cons_succ, List.getElem_cons_zero, List.setIfInBounds_toArray, List.set_cons_zero, List.set_cons_succ]
          refine wpAnyH_ready (rs := [10]) (by kernel_rfl) (by simp) ?_
          refine AllReadyH.cons rfl (fun K hK => ?_) AllReadyH.nil
          refine step_app rfl (.tmp 85) (.tmp 93) rfl (by simp [Act.eval]) (by simp [Act.eval]) (app1K encPr_len encPr_one Tryd.underlying37 prInfo rfl (by omega) (by omega) (HST.out.drew.own.pr) (HST.out.drew.lt) (by unfold rqLen at hrl; omega) ⟨x0, x1⟩ wr.heap.size rfl _ rfl) ?_
          intro v' wz ho2 hg2 hat2
          obtain ⟨m5, hm5⟩ : ∃ m5, (r.pairs ++ [(⟨x0, x1⟩ : Pr)]).length = m5 := ⟨_, rfl⟩
          obtain ⟨A5, c5, rfl, s5'⟩ := Own.slk' encPr_len hm5 ho2
          clear s5'
          have PZ := (HST.out.drew.rq.alloc (.cells #[.int .i64 x0, .int .i64 x1] 82)).grown hg2 (fun e => by have := (HST.out.own.pr.lt _ e.symm).1; omega)
          have kZ := PZ.cell
          have fZ := PZ.frozen
          have yZ := PZ.lt
          unfold rdCells at kZ
          have HN2 := ((HSN.out.drew.alloc (by simp) (.cells #[.int .i64 x0, .int .i64 x1] 82)).grown hg2 (by first | (simp; done) | (simp; omega)) (fun z hz => .inl (hown z (.inl hz)))).intsAt
          have d0 := HN2 0 (by omega)
          have d1 := HN2 1 (by omega)
          simp only [Nat.add_zero] at d0
          simp only [HX.out.1, HX.out.2] at d0 d1
          clear HN2
          refine hK.out _ _ ⟨d0, d1⟩ (fun hHeld => ?_)
          clear hK K
          try simp only [Act.put, List.getElem_toArray, List.getElem_cons_succ, List.getElem_cons_zero, List.setIfInBounds_toArray, List.set_cons_zero, List.set_cons_succ]
          refine wpAnyH_take (i := 11) (v := ?_) rfl (by kernel_rfl) (by kernel_rfl) (by kernel_rfl) (fun _ _ _ h => h) (Or.inl ⟨by rfl, ?_⟩) (by assumption) ?_
          rotate_left 1
          · intro w hSw
            try dsimp only at hSw
            go_simp
            try with_reducible rfl
          simp only [Act.put, List.getElem_toArray, List.getElem_cons_succ, List.getElem_cons_zero, List.setIfInBounds_toArray, List.set_cons_zero, List.set_cons_succ]
          refine wpAnyH_ready (rs := [12]) (by kernel_rfl) (by simp) ?_
          refine AllReadyH.cons rfl (fun K hK => ?_) AllReadyH.nil
          go_simp
          refine hK.out _ _ ?hS1 (fun hHeld => ?_)
          case hS1 => (try dsimp only); (go_keep)
          clear hK K
          try simp only [Act.put, List.getElem_toArray, List.getElem_cons_succ, List.getElem_cons_zero, List.setIfInBounds_toArray, List.set_cons_zero, List.set_cons_succ]
          refine wpAnyH_done (by kernel_rfl) ?_ _
          have HSTz : Hid (RdSt w1 (wz.setCell ⟨w1.heap.size, 6, none⟩ (.slice A5 m5 c5)) (rPr r (qs, true)) (.slice A5 m5 c5) (v2) (v3)) := hide (by
            have h := HST.out.drew.put (.cells #[.int .i64 x0, .int .i64 x1] 82) hg2 (fun z hz => (HST.out.own.pr.lt z hz).1) (HST.out.drew.own.pushPr (.cells #[.int .i64 x0, .int .i64 x1] 82) ho2 hg2 hat2) 6 (.slice A5 m5 c5) rfl
            unfold rPr nAt
            simp only [HX.out.1, HX.out.2]
            exact h)
          have hzz : wr.heap.size ≤ wz.heap.size := by have := hg2.size; simp only [World.size_alloc, World.size_drew] at this; omega
          clear ho2 hg2 hat2 PZ kZ fZ yZ hHeld d0 d1 hm5
          have hrl2 : rqLen (rPr r (qs, true)) ≤ k + 1 := by unfold rqLen at hrl ⊢; simp [rPr]; omega
          clear kA fA yA kR yR fR
          have PBz := hide (P0.out.below HSTz.out.below y0)
          have kA := PBz.out.cell
          have fA := PBz.out.frozen
          have yA := PBz.out.lt
          have kR := HSTz.out.rq.cell
          have yR := HSTz.out.rq.lt
          have fR := HSTz.out.rq.frozen
          unfold rdCells at kR
          go_wp2_with fail
          refine (HLN.out (ByteArray.mk #[119, 105, 116, 104]) 2 (k + 1) _ _ (by omega) (by omega) (by omega) (by first | rfl | omega) HSTz.out.below).mono ?_
          rintro e w9 ⟨⟨nv, rfl, hon⟩, hb⟩
          have HST9 := hide (HSTz.out.call hb)
          have z9 := hb.size
          have HON9 := hide hon
          clear hb hon kA fA yA kR yR fR
          go_wp2_with fail
          go_roundw
          case rel => exact ⟨k + 1, _, 3, _, _, _, _, by omega, by go_num, rfl, HST9.out, hrl2, by omega, HG2, HON9.out, z9, by have := HSTz.out.lt; omega, (fun z hz => by rcases hz with hz | hz | hz; exact (HSTz.out.own.pr.lt z hz).2; exact (HSTz.out.own.ty.lt z hz).2; exact (HSTz.out.own.it.lt z hz).2)⟩
          case measure => first | omega | (simp [intOf]; done) | (simp [intOf]; omega)
        refine AllReadyH.cons rfl (fun K hK => ?_) ?_
        · skip
          go_simp
          refine hK.out _ _ ?hS1 (fun hHeld => ?_)
          case hS1 => (try dsimp only); (go_keep)
          clear hK K
          try simp only [Act.put, List.getElem_toArray, List.getElem_cons_succ, List.getElem_cons_zero, List.setIfInBounds_toArray, List.set_cons_zero, List.set_cons_succ]
          refine wpAnyH_ready (rs := [1]) (by kernel_rfl) (by simp) ?_
          refine AllReadyH.cons rfl (fun K hK => ?_) AllReadyH.nil
          go_simp
          refine hK.out _ _ ?hS1 (fun hHeld => ?_)
          case hS1 => (try dsimp only); (go_keep)
          clear hK K
          try simp only [Act.put, List.getElem_toArray, List.getElem_cons_succ, List.getElem_cons_zero, List.setIfInBounds_toArray, List.set_cons_zero, List.set_cons_succ]
          refine wpAnyH_ready (rs := [10]) (by kernel_rfl) (by simp) ?_
          refine AllReadyH.cons rfl (fun K hK => ?_) AllReadyH.nil
          refine step_app rfl (.tmp 85) (.tmp 93) rfl (by simp [Act.eval]) (by simp [Act.eval]) (app1K encPr_len encPr_one Tryd.underlying37 prInfo rfl (by omega) (by omega) (HST.out.drew.own.pr) (HST.out.drew.lt) (by unfold rqLen at hrl; omega) ⟨x0, x1⟩ wr.heap.size rfl _ rfl) ?_
          intro v' wz ho2 hg2 hat2
          obtain ⟨m5, hm5⟩ : ∃ m5, (r.pairs ++ [(⟨x0, x1⟩ : Pr)]).length = m5 := ⟨_, rfl⟩
          obtain ⟨A5, c5, rfl, s5'⟩ := Own.slk' encPr_len hm5 ho2
          clear s5'
          have PZ := (HST.out.drew.rq.alloc (.cells #[.int .i64 x0, .int .i64 x1] 82)).grown hg2 (fun e => by have := (HST.out.own.pr.lt _ e.symm).1; omega)
          have kZ := PZ.cell
          have fZ := PZ.frozen
          have yZ := PZ.lt
          unfold rdCells at kZ
          have HN2 := ((HSN.out.drew.alloc (by simp) (.cells #[.int .i64 x0, .int .i64 x1] 82)).grown hg2 (by first | (simp; done) | (simp; omega)) (fun z hz => .inl (hown z (.inl hz)))).intsAt
          have d0 := HN2 0 (by omega)
          have d1 := HN2 1 (by omega)
          simp only [Nat.add_zero] at d0
          simp only [HX.out.1, HX.out.2] at d0 d1
          clear HN2
          refine hK.out _ _ ⟨d0, d1⟩ (fun hHeld => ?_)
          clear hK K
          try simp only [Act.put, List.getElem_toArray, List.getElem_cons_succ, List.getElem_cons_zero, List.setIfInBounds_toArray, List.set_cons_zero, List.set_cons_succ]
          refine wpAnyH_take (i := 11) (v := ?_) rfl (by kernel_rfl) (by kernel_rfl) (by kernel_rfl) (fun _ _ _ h => h) (Or.inl ⟨by rfl, ?_⟩) (by assumption) ?_
          rotate_left 1
          · intro w hSw
            try dsimp only at hSw
            go_simp
            try with_reducible rfl
          simp only [Act.put, List.getElem_toArray, List.getElem_cons_succ, List.getElem_cons_zero, List.setIfInBounds_toArray, List.set_cons_zero, List.set_cons_succ]
          refine wpAnyH_ready (rs := [12]) (by kernel_rfl) (by simp) ?_
          refine AllReadyH.cons rfl (fun K hK => ?_) AllReadyH.nil
          go_simp
          refine hK.out _ _ ?hS1 (fun hHeld => ?_)
          case hS1 => (try dsimp only); (go_keep)
          clear hK K
          try simp only [Act.put, List.getElem_toArray, List.getElem_cons_succ, List.getElem_cons_zero, List.setIfInBounds_toArray, List.set_cons_zero, List.set_cons_succ]
          refine wpAnyH_done (by kernel_rfl) ?_ _
          have HSTz : Hid (RdSt w1 (wz.setCell ⟨w1.heap.size, 6, none⟩ (.slice A5 m5 c5)) (rPr r (qs, true)) (.slice A5 m5 c5) (v2) (v3)) := hide (by
            have h := HST.out.drew.put (.cells #[.int .i64 x0, .int .i64 x1] 82) hg2 (fun z hz => (HST.out.own.pr.lt z hz).1) (HST.out.drew.own.pushPr (.cells #[.int .i64 x0, .int .i64 x1] 82) ho2 hg2 hat2) 6 (.slice A5 m5 c5) rfl
            unfold rPr nAt
            simp only [HX.out.1, HX.out.2]
            exact h)
          have hzz : wr.heap.size ≤ wz.heap.size := by have := hg2.size; simp only [World.size_alloc, World.size_drew] at this; omega
          clear ho2 hg2 hat2 PZ kZ fZ yZ hHeld d0 d1 hm5
          have hrl2 : rqLen (rPr r (qs, true)) ≤ k + 1 := by unfold rqLen at hrl ⊢; simp [rPr]; omega
          clear kA fA yA kR yR fR
          have PBz := hide (P0.out.below HSTz.out.below y0)
          have kA := PBz.out.cell
          have fA := PBz.out.frozen
          have yA := PBz.out.lt
          have kR := HSTz.out.rq.cell
          have yR := HSTz.out.rq.lt
          have fR := HSTz.out.rq.frozen
          unfold rdCells at kR
          go_wp2_with fail
          refine (HLN.out (ByteArray.mk #[119, 105, 116, 104]) 2 (k + 1) _ _ (by omega) (by omega) (by omega) (by first | rfl | omega) HSTz.out.below).mono ?_
          rintro e w9 ⟨⟨nv, rfl, hon⟩, hb⟩
          have HST9 := hide (HSTz.out.call hb)
          have z9 := hb.size
          have HON9 := hide hon
          clear hb hon kA fA yA kR yR fR
          go_wp2_with fail
          go_roundw
          case rel => exact ⟨k + 1, _, 3, _, _, _, _, by omega, by go_num, rfl, HST9.out, hrl2, by omega, HG2, HON9.out, z9, by have := HSTz.out.lt; omega, (fun z hz => by rcases hz with hz | hz | hz; exact (HSTz.out.own.pr.lt z hz).2; exact (HSTz.out.own.ty.lt z hz).2; exact (HSTz.out.own.it.lt z hz).2)⟩
          case measure => first | omega | (simp [intOf]; done) | (simp [intOf]; omega)
        exact AllReadyH.nil
      have HNW : Hid (last = 4 ∨ ∀ l, k < n → P[k]? = some l → (numsR l (ByteArray.mk #[119, 105, 116, 104]) 2).2 = false) := hide (.inr (lnR_f HN.out hq))
      clear hq hon
      obtain ⟨wa, hwa⟩ : ∃ wa : World, wa = wr := ⟨_, rfl⟩
      subst hwa
      go_wp2_with fail
      refine (HLN.out (ByteArray.mk #[116, 121, 112, 101]) 7 (k) _ _ (by omega) (by omega) (by omega) (by first | rfl | omega) HST.out.below).mono ?_
      rintro e w5 ⟨⟨nv, rfl, hon⟩, hb⟩
      have HST5 := hide (HST.out.call hb)
      have z5 := hb.size
      clear hb kA fA yA kR yR fR
      have PB5 := hide (P0.out.below HST5.out.below y0)
      have kA := PB5.out.cell
      have fA := PB5.out.frozen
      have yA := PB5.out.lt
      have kR := HST5.out.rq.cell
      have yR := HST5.out.rq.lt
      have fR := HST5.out.rq.frozen
      unfold rdCells at kR
      go_wp2_with fail
      go_loopw [7, 8, 9] (fun ai nv ok wr => ∃ (k : Nat) (r : Rq) (last : Int) (v1 v2 v3 : Value) (b : Nat), k ≤ n ∧ ai = .int .i64 k ∧ ok = .bool (lnR P k (ByteArray.mk #[116, 121, 112, 101]) 7).2 ∧ RdSt w1 wr r v1 v2 v3 ∧ rqLen r ≤ k ∧ (2 ≤ last ∧ last ≤ 4) ∧ Hid (goA (lnT P) ((lnL P).drop k) k r last = readS s) ∧ Own 1 encInt 3 wr b nv (lnR P k (ByteArray.mk #[116, 121, 112, 101]) 7).1 ∧ b ≤ wr.heap.size ∧ w1.heap.size < b ∧ (∀ z, (v1.ownBlock = some z ∨ v2.ownBlock = some z ∨ v3.ownBlock = some z) → z < b) ∧ Hid (last = 4 ∨ ∀ l, k < n → P[k]? = some l → (numsR l (ByteArray.mk #[119, 105, 116, 104]) 2).2 = false)) (fun ai _ _ _ => n - (intOf ai).toNat)
      case atStart => exact ⟨k, r, last, _, _, _, _, by omega, by first | rfl | exact congrArg (Value.int .i64) (by omega), rfl, HST5.out, hrl, by omega, HG, hon, by have := z5; omega, by have := HST.out.lt; omega, (fun z hz => by rcases hz with hz | hz | hz; exact (HST.out.own.pr.lt z hz).2; exact (HST.out.own.ty.lt z hz).2; exact (HST.out.own.it.lt z hz).2), HNW⟩
      case round =>
        obtain ⟨k, r, last, v1, v2, v3, b, hk, rfl, rfl, hst, hrl, hlast, HG, hon, hbb, hbw, hown, HNW⟩ := hrel
        have HST := hide hst
        clear hst
        have PB := hide (P0.out.below HST.out.below y0)
        have kA := PB.out.cell
        have fA := PB.out.frozen
        have yA := PB.out.lt
        have kR := HST.out.rq.cell
        have yR := HST.out.rq.lt
        have fR := HST.out.rq.frozen
        unfold rdCells at kR
        have y1 := HST.out.below.size
        obtain ⟨⟨qs, qb⟩, hq⟩ : ∃ q, lnR P k (ByteArray.mk #[116, 121, 112, 101]) 7 = q := ⟨_, rfl⟩
        rw [hq] at hon ⊢
        have HQ := hide hq
        cases qb
        case true =>
          obtain ⟨l, hkl, hl, hnl⟩ := lnR_t HN.out hq
          have HG2 : Hid (goA (lnT P) ((lnL P).drop (k + 1)) (k + 1) (rTy r (qs, true)) 4 = readS s) := hide (by rw [← HG.out]; exact (goA_step HN.out hkl hl (by rw [putL_4 (by rw [hnl]), hnl]) (by have h3 : last = 2 ∨ last = 3 ∨ last = 4 := (by omega); rcases h3 with rfl | rfl | rfl <;> rfl)).symm)
          have hql : qs.length = 7 := by have := numsR_len (line := l) (by rw [hnl]); rw [hnl] at this; exact this
          obtain ⟨An, cn, rfl, sn⟩ := Own.slk' encInt_len hql hon
          obtain ⟨bn, on, rfl, hbl, hbn, hc⟩ := sn.ints (by omega)
          have HSN := hide sn
          have ncc := sn.cap
          have ncm := sn.max
          have c0 := hc 0 (by omega)
          have c1 := hc 1 (by omega)
          have c2 := hc 2 (by omega)
          have c3 := hc 3 (by omega)
          have c4 := hc 4 (by omega)
          have c5 := hc 5 (by omega)
          have c6 := hc 6 (by omega)
          simp only [Nat.add_zero] at c0
          have hne : w1.heap.size ≠ bn := by omega
          have zbn : bn < wr.heap.size := hbn
          obtain ⟨x0, hx0⟩ : ∃ x, qs.getD 0 0 = x := ⟨_, rfl⟩
          rw [hx0] at c0
          obtain ⟨x1, hx1⟩ : ∃ x, qs.getD 1 0 = x := ⟨_, rfl⟩
          rw [hx1] at c1
          obtain ⟨x2, hx2⟩ : ∃ x, qs.getD 2 0 = x := ⟨_, rfl⟩
          rw [hx2] at c2
          obtain ⟨x3, hx3⟩ : ∃ x, qs.getD 3 0 = x := ⟨_, rfl⟩
          rw [hx3] at c3
          obtain ⟨x4, hx4⟩ : ∃ x, qs.getD 4 0 = x := ⟨_, rfl⟩
          rw [hx4] at c4
          obtain ⟨x5, hx5⟩ : ∃ x, qs.getD 5 0 = x := ⟨_, rfl⟩
          rw [hx5] at c5
          obtain ⟨x6, hx6⟩ : ∃ x, qs.getD 6 0 = x := ⟨_, rfl⟩
          rw [hx6] at c6
          have HX := hide (show qs.getD 0 0 = x0 ∧ qs.getD 1 0 = x1 ∧ qs.getD 2 0 = x2 ∧ qs.getD 3 0 = x3 ∧ qs.getD 4 0 = x4 ∧ qs.getD 5 0 = x5 ∧ qs.getD 6 0 = x6 from ⟨hx0, hx1, hx2, hx3, hx4, hx5, hx6⟩)
          clear hc sn hl hnl hq hon hx0 hx1 hx2 hx3 hx4 hx5 hx6
          go_wp2_with fail
          refine wp_region_held_drew (S := (fun w' => w'.cell? ⟨bn, on, none⟩ = some (.int .i64 x0) ∧ w'.cell? ⟨bn, on + 1, none⟩ = some (.int .i64 x1) ∧ w'.cell? ⟨bn, on + 2, none⟩ = some (.int .i64 x2) ∧ w'.cell? ⟨bn, on + 3, none⟩ = some (.int .i64 x3) ∧ w'.cell? ⟨bn, on + 4, none⟩ = some (.int .i64 x4) ∧ w'.cell? ⟨bn, on + 5, none⟩ = some (.int .i64 x5) ∧ w'.cell? ⟨bn, on + 6, none⟩ = some (.int .i64 x6))) (by kernel_rfl) ?hS0 (fun hHeld => ?_)
          case hS0 => (exact ⟨c0, c1, c2, c3, c4, c5, c6⟩)
          refine wpAnyH_take (i := 0) (v := ?_) rfl (by kernel_rfl) (by kernel_rfl) (by kernel_rfl) (fun _ _ _ h => h) (Or.inl ⟨by rfl, ?_⟩) (by assumption) ?_
          rotate_left 1
          · intro w hSw
            try dsimp only at hSw
            go_simp
            try with_reducible rfl
          simp only [Act.put, List.getElem_toArray, List.getElem_cons_succ, List.getElem_cons_zero, List.setIfInBounds_toArray, List.set_cons_zero, List.set_cons_succ]
          refine wpAnyH_take (i := 2) (v := ?_) rfl (by kernel_rfl) (by kernel_rfl) (by kernel_rfl) (fun _ _ _ h => h) (Or.inl ⟨by rfl, ?_⟩) (by assumption) ?_
          rotate_left 1
          · intro w hSw
            try dsimp only at hSw
            go_simp
            try with_reducible rfl
          simp only [Act.put, List.getElem_toArray, List.getElem_cons_succ, List.getElem_cons_zero, List.setIfInBounds_toArray, List.set_cons_zero, List.set_cons_succ]
          refine wpAnyH_take (i := 3) (v := ?_) rfl (by kernel_rfl) (by kernel_rfl) (by kernel_rfl) (fun _ _ _ h => h) (Or.inl ⟨by rfl, ?_⟩) (by assumption) ?_
          rotate_left 1
          · intro w hSw
            try dsimp only at hSw
            go_simp
            try with_reducible rfl
          simp only [Act.put, List.getElem_toArray, List.getElem_cons_succ, List.getElem_cons_zero, List.setIfInBounds_toArray, List.set_cons_zero, List.set_cons_succ]
          refine wpAnyH_take (i := 4) (v := ?_) rfl (by kernel_rfl) (by kernel_rfl) (by kernel_rfl) (fun _ _ _ h => h) (Or.inl ⟨by rfl, ?_⟩) (by assumption) ?_
          rotate_left 1
          · intro w hSw
            try dsimp only at hSw
            go_simp
            try with_reducible rfl
          simp only [Act.put, List.getElem_toArray, List.getElem_cons_succ, List.getElem_cons_zero, List.setIfInBounds_toArray, List.set_cons_zero, List.set_cons_succ]
          refine wpAnyH_take (i := 5) (v := ?_) rfl (by kernel_rfl) (by kernel_rfl) (by kernel_rfl) (fun _ _ _ h => h) (Or.inl ⟨by rfl, ?_⟩) (by assumption) ?_
          rotate_left 1
          · intro w hSw
            try dsimp only at hSw
            go_simp
            try with_reducible rfl
          simp only [Act.put, List.getElem_toArray, List.getElem_cons_succ, List.getElem_cons_zero, List.setIfInBounds_toArray, List.set_cons_zero, List.set_cons_succ]
          refine wpAnyH_take (i := 6) (v := ?_) rfl (by kernel_rfl) (by kernel_rfl) (by kernel_rfl) (fun _ _ _ h => h) (Or.inl ⟨by rfl, ?_⟩) (by assumption) ?_
          rotate_left 1
          · intro w hSw
            try dsimp only at hSw
            go_simp
            try with_reducible rfl
          simp only [Act.put, List.getElem_toArray, List.getElem_cons_succ, List.getElem_cons_zero, List.setIfInBounds_toArray, List.set_cons_zero, List.set_cons_succ]
          refine wpAnyH_take (i := 7) (v := ?_) rfl (by kernel_rfl) (by kernel_rfl) (by kernel_rfl) (fun _ _ _ h => h) (Or.inl ⟨by rfl, ?_⟩) (by assumption) ?_
          rotate_left 1
          · intro w hSw
            try dsimp only at hSw
            go_simp
            try with_reducible rfl
          simp only [Act.put, List.getElem_toArray, List.getElem_cons_succ, List.getElem_cons_zero, List.setIfInBounds_toArray, List.set_cons_zero, List.set_cons_succ]
          refine wpAnyH_take (i := 8) (v := ?_) rfl (by kernel_rfl) (by kernel_rfl) (by kernel_rfl) (fun _ _ _ h => h) (Or.inl ⟨by rfl, ?_⟩) (by assumption) ?_
          rotate_left 1
          · intro w hSw
            try dsimp only at hSw
            go_simp
            try with_reducible rfl
          simp only [Act.put, List.getElem_toArray, List.getElem_cons_succ, List.getElem_cons_zero, List.setIfInBounds_toArray, List.set_cons_zero, List.set_cons_succ]
          refine wpAnyH_take (i := 9) (v := ?_) rfl (by kernel_rfl) (by kernel_rfl) (by kernel_rfl) (fun _ _ _ h => h) (Or.inl ⟨by rfl, ?_⟩) (by assumption) ?_
          rotate_left 1
          · intro w hSw
            try dsimp only at hSw
            go_simp
            try with_reducible rfl
          simp only [Act.put, List.getElem_toArray, List.getElem_cons_succ, List.getElem_cons_zero, List.setIfInBounds_toArray, List.set_cons_zero, List.set_cons_succ]
          refine wpAnyH_take (i := 10) (v := ?_) rfl (by kernel_rfl) (by kernel_rfl) (by kernel_rfl) (fun _ _ _ h => h) (Or.inl ⟨by rfl, ?_⟩) (by assumption) ?_
          rotate_left 1
          · intro w hSw
            try dsimp only at hSw
            go_simp
            try with_reducible rfl
          simp only [Act.put, List.getElem_toArray, List.getElem_cons_succ, List.getElem_cons_zero, List.setIfInBounds_toArray, List.set_cons_zero, List.set_cons_succ]
          refine wpAnyH_take (i := 11) (v := ?_) rfl (by kernel_rfl) (by kernel_rfl) (by kernel_rfl) (fun _ _ _ h => h) (Or.inl ⟨by rfl, ?_⟩) (by assumption) ?_
          rotate_left 1
          · intro w hSw
            try dsimp only at hSw
            go_simp
            try with_reducible rfl
          simp only [Act.put, List.getElem_toArray, List.getElem_cons_succ, List.getElem_cons_zero, List.setIfInBounds_toArray, List.set_cons_zero, List.set_cons_succ]
          refine wpAnyH_take (i := 12) (v := ?_) rfl (by kernel_rfl) (by kernel_rfl) (by kernel_rfl) (fun _ _ _ h => h) (Or.inl ⟨by rfl, ?_⟩) (by assumption) ?_
          rotate_left 1
          · intro w hSw
            try dsimp only at hSw
            go_simp
            try with_reducible rfl
          simp only [Act.put, List.getElem_toArray, List.getElem_cons_succ, List.getElem_cons_zero, List.setIfInBounds_toArray, List.set_cons_zero, List.set_cons_succ]
          refine wpAnyH_take (i := 13) (v := ?_) rfl (by kernel_rfl) (by kernel_rfl) (by kernel_rfl) (fun _ _ _ h => h) (Or.inl ⟨by rfl, ?_⟩) (by assumption) ?_
          rotate_left 1
          · intro w hSw
            try dsimp only at hSw
            go_simp
            try with_reducible rfl
          simp only [Act.put, List.getElem_toArray, List.getElem_cons_succ, List.getElem_cons_zero, List.setIfInBounds_toArray, List.set_cons_zero, List.set_cons_succ]
          refine wpAnyH_take (i := 14) (v := ?_) rfl (by kernel_rfl) (by kernel_rfl) (by kernel_rfl) (fun _ _ _ h => h) (Or.inl ⟨by rfl, ?_⟩) (by assumption) ?_
          rotate_left 1
          · intro w hSw
            try dsimp only at hSw
            go_simp
            try with_reducible rfl
          simp only [Act.put, List.getElem_toArray, List.getElem_cons_succ, List.getElem_cons_zero, List.setIfInBounds_toArray, List.set_cons_zero, List.set_cons_succ]
          refine wpAnyH_take (i := 15) (v := ?_) rfl (by kernel_rfl) (by kernel_rfl) (by kernel_rfl) (fun _ _ _ h => h) (Or.inl ⟨by rfl, ?_⟩) (by assumption) ?_
          rotate_left 1
          · intro w hSw
            try dsimp only at hSw
            go_simp
            try with_reducible rfl
          simp only [Act.put, List.getElem_toArray, List.getElem_cons_succ, List.getElem_cons_zero, List.setIfInBounds_toArray, List.set_cons_zero, List.set_cons_succ]
          refine wpAnyH_take (i := 16) (v := ?_) rfl (by kernel_rfl) (by kernel_rfl) (by kernel_rfl) (fun _ _ _ h => h) (Or.inl ⟨by rfl, ?_⟩) (by assumption) ?_
          rotate_left 1
          · intro w hSw
            try dsimp only at hSw
            go_simp
            try with_reducible rfl
          simp only [Act.put, List.getElem_toArray, List.getElem_cons_succ, List.getElem_cons_zero, List.setIfInBounds_toArray, List.set_cons_zero, List.set_cons_succ]
          refine wpAnyH_take (i := 17) (v := ?_) rfl (by kernel_rfl) (by kernel_rfl) (by kernel_rfl) (fun _ _ _ h => h) (Or.inl ⟨by rfl, ?_⟩) (by assumption) ?_
          rotate_left 1
          · intro w hSw
            try dsimp only at hSw
            go_simp
            try with_reducible rfl
          simp only [Act.put, List.getElem_toArray, List.getElem_cons_succ, List.getElem_cons_zero, List.setIfInBounds_toArray, List.set_cons_zero, List.set_cons_succ]
          refine wpAnyH_take (i := 18) (v := ?_) rfl (by kernel_rfl) (by kernel_rfl) (by kernel_rfl) (fun _ _ _ h => h) (Or.inl ⟨by rfl, ?_⟩) (by assumption) ?_
          rotate_left 1
          · intro w hSw
            try dsimp only at hSw
            go_simp
            try with_reducible rfl
          simp only [Act.put, List.getElem_toArray, List.getElem_cons_succ, List.getElem_cons_zero, List.setIfInBounds_toArray, List.set_cons_zero, List.set_cons_succ]
          refine wpAnyH_take (i := 19) (v := ?_) rfl (by kernel_rfl) (by kernel_rfl) (by kernel_rfl) (fun _ _ _ h => h) (Or.inl ⟨by rfl, ?_⟩) (by assumption) ?_
          rotate_left 1
          · intro w hSw
            try dsimp only at hSw
            go_simp
            try with_reducible rfl
          simp only [Act.put, List.getElem_toArray, List.getElem_cons_succ, List.getElem_cons_zero, List.setIfInBounds_toArray, List.set_cons_zero, List.set_cons_succ]
          refine wpAnyH_take (i := 20) (v := ?_) rfl (by kernel_rfl) (by kernel_rfl) (by kernel_rfl) (fun _ _ _ h => h) (Or.inl ⟨by rfl, ?_⟩) (by assumption) ?_
          rotate_left 1
          · intro w hSw
            try dsimp only at hSw
            go_simp
            try with_reducible rfl
          simp only [Act.put, List.getElem_toArray, List.getElem_cons_succ, List.getElem_cons_zero, List.setIfInBounds_toArray, List.set_cons_zero, List.set_cons_succ]
          refine wpAnyH_take (i := 21) (v := ?_) rfl (by kernel_rfl) (by kernel_rfl) (by kernel_rfl) (fun _ _ _ h => h) (Or.inl ⟨by rfl, ?_⟩) (by assumption) ?_
          rotate_left 1
          · intro w hSw
            try dsimp only at hSw
            go_simp
            try with_reducible rfl
          simp only [Act.put, List.getElem_toArray, List.getElem_cons_succ, List.getElem_cons_zero, List.setIfInBounds_toArray, List.set_cons_zero, List.set_cons_succ]
          refine wpAnyH_take (i := 22) (v := ?_) rfl (by kernel_rfl) (by kernel_rfl) (by kernel_rfl) (fun _ _ _ h => h) (Or.inl ⟨by rfl, ?_⟩) (by assumption) ?_
          rotate_left 1
          · intro w hSw
            try dsimp only at hSw
            go_simp
            try with_reducible rfl
          simp only [Act.put, List.getElem_toArray, List.getElem_cons_succ, List.getElem_cons_zero, List.setIfInBounds_toArray, List.set_cons_zero, List.set_cons_succ]
          refine wpAnyH_take (i := 23) (v := ?_) rfl (by kernel_rfl) (by kernel_rfl) (by kernel_rfl) (fun _ _ _ h => h) (Or.inl ⟨by rfl, ?_⟩) (by assumption) ?_
          rotate_left 1
          · intro w hSw
            try dsimp only at hSw
            go_simp
            try with_reducible rfl
          simp only [Act.put, List.getElem_toArray, List.getElem_cons_succ, List.getElem_cons_zero, List.setIfInBounds_toArray, List.set_cons_zero, List.set_cons_succ]
          refine wpAnyH_ready (rs := [1, 24]) (by kernel_rfl) (by simp) ?_
          refine AllReadyH.cons rfl (fun K hK => ?_) ?_
          · skip
            go_simp
            refine hK.out _ _ ?hS1 (fun hHeld => ?_)
            case hS1 => (try dsimp only); (go_keep)
            clear hK K
            try simp only [Act.put, List.getElem_toArray, List.getElem_cons_succ, List.getElem_cons_zero, List.setIfInBounds_toArray, List.set_cons_zero, List.set_cons_succ]
            refine wpAnyH_ready (rs := [24]) (by kernel_rfl) (by simp) ?_
            refine AllReadyH.cons rfl (fun K hK => ?_) AllReadyH.nil
            go_simp
            refine hK.out _ _ ?hS1 (fun hHeld => ?_)
            case hS1 => (try dsimp only); (go_keep)
            clear hK K
            try simp only [Act.put, List.getElem_toArray, List.getElem_cons_succ, List.getElem_cons_zero, List.setIfInBounds_toArray, List.set_cons_zero, List.set_cons_succ]
            refine wpAnyH_ready (rs := [25]) (by kernel_rfl) (by simp) ?_
            refine AllReadyH.cons rfl (fun K hK => ?_) AllReadyH.nil
            refine step_app rfl (.tmp 112) (.tmp 135) rfl (by simp [Act.eval]) (by simp [Act.eval]) (app1K encTy_len encTy_one Tryd.underlying38 tyInfo rfl (by omega) (by omega) (HST.out.drew.own.ty) (HST.out.drew.lt) (by unfold rqLen at hrl; omega) ⟨x0, x1, x2, x3, x4, x5, x6⟩ wr.heap.size rfl _ rfl) ?_
            intro v' wz ho2 hg2 hat2
            obtain ⟨m5, hm5⟩ : ∃ m5, (r.types ++ [(⟨x0, x1, x2, x3, x4, x5, x6⟩ : Ty)]).length = m5 := ⟨_, rfl⟩
            obtain ⟨A5, c5, rfl, s5'⟩ := Own.slk' encTy_len hm5 ho2
            clear s5'
            have PZ := (HST.out.drew.rq.alloc (.cells #[.int .i64 x0, .int .i64 x1, .int .i64 x2, .int .i64 x3, .int .i64 x4, .int .i64 x5, .int .i64 x6] 84)).grown hg2 (fun e => by have := (HST.out.own.ty.lt _ e.symm).1; omega)
            have kZ := PZ.cell
            have fZ := PZ.frozen
            have yZ := PZ.lt
            unfold rdCells at kZ
            have HN2 := ((HSN.out.drew.alloc (by simp) (.cells #[.int .i64 x0, .int .i64 x1, .int .i64 x2, .int .i64 x3, .int .i64 x4, .int .i64 x5, .int .i64 x6] 84)).grown hg2 (by first | (simp; done) | (simp; omega)) (fun z hz => .inl (hown z (.inr (.inl hz))))).intsAt
            have d0 := HN2 0 (by omega)
            have d1 := HN2 1 (by omega)
            have d2 := HN2 2 (by omega)
            have d3 := HN2 3 (by omega)
            have d4 := HN2 4 (by omega)
            have d5 := HN2 5 (by omega)
            have d6 := HN2 6 (by omega)
            simp only [Nat.add_zero] at d0
            simp only [HX.out.1, HX.out.2.1, HX.out.2.2.1, HX.out.2.2.2.1, HX.out.2.2.2.2.1, HX.out.2.2.2.2.2.1, HX.out.2.2.2.2.2.2] at d0 d1 d2 d3 d4 d5 d6
            clear HN2
            refine hK.out _ _ ⟨d0, d1, d2, d3, d4, d5, d6⟩ (fun hHeld => ?_)
            clear hK K
            try simp only [Act.put, List.getElem_toArray, List.getElem_cons_succ, List.getElem_cons_zero, List.setIfInBounds_toArray, List.set_cons_zero, List.set_cons_succ]
            refine wpAnyH_take (i := 26) (v := ?_) rfl (by kernel_rfl) (by kernel_rfl) (by kernel_rfl) (fun _ _ _ h => h) (Or.inl ⟨by rfl, ?_⟩) (by assumption) ?_
            rotate_left 1
            · intro w hSw
              try dsimp only at hSw
              go_simp
              try with_reducible rfl
            simp only [Act.put, List.getElem_toArray, List.getElem_cons_succ, List.getElem_cons_zero, List.setIfInBounds_toArray, List.set_cons_zero, List.set_cons_succ]
            refine wpAnyH_ready (rs := [27]) (by kernel_rfl) (by simp) ?_
            refine AllReadyH.cons rfl (fun K hK => ?_) AllReadyH.nil
            go_simp
            refine hK.out _ _ ?hS1 (fun hHeld => ?_)
            case hS1 => (try dsimp only); (go_keep)
            clear hK K
            try simp only [Act.put, List.getElem_toArray, List.getElem_cons_succ, List.getElem_cons_zero, List.setIfInBounds_toArray, List.set_cons_zero, List.set_cons_succ]
            refine wpAnyH_done (by kernel_rfl) ?_ _
            have HSTz : Hid (RdSt w1 (wz.setCell ⟨w1.heap.size, 7, none⟩ (.slice A5 m5 c5)) (rTy r (qs, true)) (v1) (.slice A5 m5 c5) (v3)) := hide (by
              have h := HST.out.drew.put (.cells #[.int .i64 x0, .int .i64 x1, .int .i64 x2, .int .i64 x3, .int .i64 x4, .int .i64 x5, .int .i64 x6] 84) hg2 (fun z hz => (HST.out.own.ty.lt z hz).1) (HST.out.drew.own.pushTy (.cells #[.int .i64 x0, .int .i64 x1, .int .i64 x2, .int .i64 x3, .int .i64 x4, .int .i64 x5, .int .i64 x6] 84) ho2 hg2 hat2) 7 (.slice A5 m5 c5) rfl
              unfold rTy nAt
              simp only [HX.out.1, HX.out.2.1, HX.out.2.2.1, HX.out.2.2.2.1, HX.out.2.2.2.2.1, HX.out.2.2.2.2.2.1, HX.out.2.2.2.2.2.2]
              exact h)
            have hzz : wr.heap.size ≤ wz.heap.size := by have := hg2.size; simp only [World.size_alloc, World.size_drew] at this; omega
            clear ho2 hg2 hat2 PZ kZ fZ yZ hHeld d0 d1 d2 d3 d4 d5 d6 hm5
            have hrl2 : rqLen (rTy r (qs, true)) ≤ k + 1 := by unfold rqLen at hrl ⊢; simp [rTy]; omega
            clear kA fA yA kR yR fR
            have PBz := hide (P0.out.below HSTz.out.below y0)
            have kA := PBz.out.cell
            have fA := PBz.out.frozen
            have yA := PBz.out.lt
            have kR := HSTz.out.rq.cell
            have yR := HSTz.out.rq.lt
            have fR := HSTz.out.rq.frozen
            unfold rdCells at kR
            go_wp2_with fail
            refine (HLN.out (ByteArray.mk #[116, 121, 112, 101]) 7 (k + 1) _ _ (by omega) (by omega) (by omega) (by first | rfl | omega) HSTz.out.below).mono ?_
            rintro e w9 ⟨⟨nv, rfl, hon⟩, hb⟩
            have HST9 := hide (HSTz.out.call hb)
            have z9 := hb.size
            have HON9 := hide hon
            clear hb hon kA fA yA kR yR fR
            go_wp2_with fail
            go_roundw
            case rel => exact ⟨k + 1, _, 4, _, _, _, _, by omega, by go_num, rfl, HST9.out, hrl2, by omega, HG2, HON9.out, z9, by have := HSTz.out.lt; omega, (fun z hz => by rcases hz with hz | hz | hz; exact (HSTz.out.own.pr.lt z hz).2; exact (HSTz.out.own.ty.lt z hz).2; exact (HSTz.out.own.it.lt z hz).2), hide (.inl rfl)⟩
            case measure => first | omega | (simp [intOf]; done) | (simp [intOf]; omega)
          refine AllReadyH.cons rfl (fun K hK => ?_) ?_
          · skip
            go_simp
            refine hK.out _ _ ?hS1 (fun hHeld => ?_)
            case hS1 => (try dsimp only); (go_keep)
            clear hK K
            try simp only [Act.put, List.getElem_toArray, List.getElem_cons_succ, List.getElem_cons_zero, List.setIfInBounds_toArray, List.set_cons_zero, List.set_cons_succ]
            refine wpAnyH_ready (rs := [1]) (by kernel_rfl) (by simp) ?_
            refine AllReadyH.cons rfl (fun K hK => ?_) AllReadyH.nil
            go_simp
            refine hK.out _ _ ?hS1 (fun hHeld => ?_)
            case hS1 => (try dsimp only); (go_keep)
            clear hK K
            try simp only [Act.put, List.getElem_toArray, List.getElem_cons_succ, List.getElem_cons_zero, List.setIfInBounds_toArray, List.set_cons_zero, List.set_cons_succ]
            refine wpAnyH_ready (rs := [25]) (by kernel_rfl) (by simp) ?_
            refine AllReadyH.cons rfl (fun K hK => ?_) AllReadyH.nil
            refine step_app rfl (.tmp 112) (.tmp 135) rfl (by simp [Act.eval]) (by simp [Act.eval]) (app1K encTy_len encTy_one Tryd.underlying38 tyInfo rfl (by omega) (by omega) (HST.out.drew.own.ty) (HST.out.drew.lt) (by unfold rqLen at hrl; omega) ⟨x0, x1, x2, x3, x4, x5, x6⟩ wr.heap.size rfl _ rfl) ?_
            intro v' wz ho2 hg2 hat2
            obtain ⟨m5, hm5⟩ : ∃ m5, (r.types ++ [(⟨x0, x1, x2, x3, x4, x5, x6⟩ : Ty)]).length = m5 := ⟨_, rfl⟩
            obtain ⟨A5, c5, rfl, s5'⟩ := Own.slk' encTy_len hm5 ho2
            clear s5'
            have PZ := (HST.out.drew.rq.alloc (.cells #[.int .i64 x0, .int .i64 x1, .int .i64 x2, .int .i64 x3, .int .i64 x4, .int .i64 x5, .int .i64 x6] 84)).grown hg2 (fun e => by have := (HST.out.own.ty.lt _ e.symm).1; omega)
            have kZ := PZ.cell
            have fZ := PZ.frozen
            have yZ := PZ.lt
            unfold rdCells at kZ
            have HN2 := ((HSN.out.drew.alloc (by simp) (.cells #[.int .i64 x0, .int .i64 x1, .int .i64 x2, .int .i64 x3, .int .i64 x4, .int .i64 x5, .int .i64 x6] 84)).grown hg2 (by first | (simp; done) | (simp; omega)) (fun z hz => .inl (hown z (.inr (.inl hz))))).intsAt
            have d0 := HN2 0 (by omega)
            have d1 := HN2 1 (by omega)
            have d2 := HN2 2 (by omega)
            have d3 := HN2 3 (by omega)
            have d4 := HN2 4 (by omega)
            have d5 := HN2 5 (by omega)
            have d6 := HN2 6 (by omega)
            simp only [Nat.add_zero] at d0
            simp only [HX.out.1, HX.out.2.1, HX.out.2.2.1, HX.out.2.2.2.1, HX.out.2.2.2.2.1, HX.out.2.2.2.2.2.1, HX.out.2.2.2.2.2.2] at d0 d1 d2 d3 d4 d5 d6
            clear HN2
            refine hK.out _ _ ⟨d0, d1, d2, d3, d4, d5, d6⟩ (fun hHeld => ?_)
            clear hK K
            try simp only [Act.put, List.getElem_toArray, List.getElem_cons_succ, List.getElem_cons_zero, List.setIfInBounds_toArray, List.set_cons_zero, List.set_cons_succ]
            refine wpAnyH_take (i := 26) (v := ?_) rfl (by kernel_rfl) (by kernel_rfl) (by kernel_rfl) (fun _ _ _ h => h) (Or.inl ⟨by rfl, ?_⟩) (by assumption) ?_
            rotate_left 1
            · intro w hSw
              try dsimp only at hSw
              go_simp
              try with_reducible rfl
            simp only [Act.put, List.getElem_toArray, List.getElem_cons_succ, List.getElem_cons_zero, List.setIfInBounds_toArray, List.set_cons_zero, List.set_cons_succ]
            refine wpAnyH_ready (rs := [27]) (by kernel_rfl) (by simp) ?_
            refine AllReadyH.cons rfl (fun K hK => ?_) AllReadyH.nil
            go_simp
            refine hK.out _ _ ?hS1 (fun hHeld => ?_)
            case hS1 => (try dsimp only); (go_keep)
            clear hK K
            try simp only [Act.put, List.getElem_toArray, List.getElem_cons_succ, List.getElem_cons_zero, List.setIfInBounds_toArray, List.set_cons_zero, List.set_cons_succ]
            refine wpAnyH_done (by kernel_rfl) ?_ _
            have HSTz : Hid (RdSt w1 (wz.setCell ⟨w1.heap.size, 7, none⟩ (.slice A5 m5 c5)) (rTy r (qs, true)) (v1) (.slice A5 m5 c5) (v3)) := hide (by
              have h := HST.out.drew.put (.cells #[.int .i64 x0, .int .i64 x1, .int .i64 x2, .int .i64 x3, .int .i64 x4, .int .i64 x5, .int .i64 x6] 84) hg2 (fun z hz => (HST.out.own.ty.lt z hz).1) (HST.out.drew.own.pushTy (.cells #[.int .i64 x0, .int .i64 x1, .int .i64 x2, .int .i64 x3, .int .i64 x4, .int .i64 x5, .int .i64 x6] 84) ho2 hg2 hat2) 7 (.slice A5 m5 c5) rfl
              unfold rTy nAt
              simp only [HX.out.1, HX.out.2.1, HX.out.2.2.1, HX.out.2.2.2.1, HX.out.2.2.2.2.1, HX.out.2.2.2.2.2.1, HX.out.2.2.2.2.2.2]
              exact h)
            have hzz : wr.heap.size ≤ wz.heap.size := by have := hg2.size; simp only [World.size_alloc, World.size_drew] at this; omega
            clear ho2 hg2 hat2 PZ kZ fZ yZ hHeld d0 d1 d2 d3 d4 d5 d6 hm5
            have hrl2 : rqLen (rTy r (qs, true)) ≤ k + 1 := by unfold rqLen at hrl ⊢; simp [rTy]; omega
            clear kA fA yA kR yR fR
            have PBz := hide (P0.out.below HSTz.out.below y0)
            have kA := PBz.out.cell
            have fA := PBz.out.frozen
            have yA := PBz.out.lt
            have kR := HSTz.out.rq.cell
            have yR := HSTz.out.rq.lt
            have fR := HSTz.out.rq.frozen
            unfold rdCells at kR
            go_wp2_with fail
            refine (HLN.out (ByteArray.mk #[116, 121, 112, 101]) 7 (k + 1) _ _ (by omega) (by omega) (by omega) (by first | rfl | omega) HSTz.out.below).mono ?_
            rintro e w9 ⟨⟨nv, rfl, hon⟩, hb⟩
            have HST9 := hide (HSTz.out.call hb)
            have z9 := hb.size
            have HON9 := hide hon
            clear hb hon kA fA yA kR yR fR
            go_wp2_with fail
            go_roundw
            case rel => exact ⟨k + 1, _, 4, _, _, _, _, by omega, by go_num, rfl, HST9.out, hrl2, by omega, HG2, HON9.out, z9, by have := HSTz.out.lt; omega, (fun z hz => by rcases hz with hz | hz | hz; exact (HSTz.out.own.pr.lt z hz).2; exact (HSTz.out.own.ty.lt z hz).2; exact (HSTz.out.own.it.lt z hz).2), hide (.inl rfl)⟩
            case measure => first | omega | (simp [intOf]; done) | (simp [intOf]; omega)
          exact AllReadyH.nil
        have HNT := hide (lnR_f HN.out hq)
        clear hq hon
        obtain ⟨wa, hwa⟩ : ∃ wa : World, wa = wr := ⟨_, rfl⟩
        subst hwa
        go_wp2_with fail
        refine (HLN.out (ByteArray.mk #[109, 97, 115, 116, 101, 114]) 1 (k) _ _ (by omega) (by omega) (by omega) (by first | rfl | omega) HST.out.below).mono ?_
        rintro e w5 ⟨⟨nv, rfl, hon⟩, hb⟩
        have HST5 := hide (HST.out.call hb)
        have z5 := hb.size
        clear hb kA fA yA kR yR fR
        have PB5 := hide (P0.out.below HST5.out.below y0)
        have kA := PB5.out.cell
        have fA := PB5.out.frozen
        have yA := PB5.out.lt
        have kR := HST5.out.rq.cell
        have yR := HST5.out.rq.lt
        have fR := HST5.out.rq.frozen
        unfold rdCells at kR
        obtain ⟨⟨qs, qb⟩, hq⟩ : ∃ q, lnR P k (ByteArray.mk #[109, 97, 115, 116, 101, 114]) 1 = q := ⟨_, rfl⟩
        rw [hq] at hon ⊢
        cases qb
        case false =>
          have HE := hide (show readS s = (rq0, (k : Int)) by rw [← HG.out]; exact goA_stop HN.out (by omega) (by omega) (fun l hk hl => mayF_no (putL_rng _ _) (by omega) (by have h5 := kind5 (r := r) (lnR_f HN.out hq l hk hl); have h4 := kind4 (r := r) (HNT.out l hk hl); rcases HNW.out with h3 | h3; omega; have h3 := kind3 (r := r) (h3 l hk hl); omega)))
          clear hq hon
          go_wp2_with fail
          have PF := set10 PB5.out rfl (.int .i64 0) (.int .i64 0) (.int .i64 0) (.int .i64 0) (.int .i64 0) (.int .i64 0) (nilV) (nilV) (.int .i64 0) (nilV)
          refine ret_cell2 Tryd.results29 rfl PF Tryd.underlying41 rfl (by kernel_rfl) rfl ⟨⟨nilV, nilV, nilV, ?_, by rw [HE.out]; exact RqOwn.nil_ _ _ rq0 rfl rfl rfl, by rw [HE.out]; exact Nat.zero_le _⟩, (L1.out.trans (HST5.out.below.mono z1)).grown (grown10 w5 w.heap.size (.int .i64 0) (.int .i64 0) (.int .i64 0) (.int .i64 0) (.int .i64 0) (.int .i64 0) (nilV) (nilV) (.int .i64 0) (nilV)) (by have := PB5.out.lt; omega) (fun z hz => by have := Option.some.inj hz; omega)⟩
          rw [HE.out]
          rfl
        obtain ⟨l, hkl, hl, hnl⟩ := lnR_t HN.out hq
        have HG2 : Hid (goA (lnT P) ((lnL P).drop (k + 1)) (k + 1) (rMas r (qs, true)) 5 = readS s) := hide (by rw [← HG.out]; exact (goA_step HN.out hkl hl (by rw [putL_5 (by rw [hnl]), hnl]) (by have h3 : last = 2 ∨ last = 3 ∨ last = 4 := (by omega); rcases h3 with rfl | rfl | rfl <;> rfl)).symm)
        have hql : qs.length = 1 := by have := numsR_len (line := l) (by rw [hnl]); rw [hnl] at this; exact this
        obtain ⟨An, cn, rfl, sn⟩ := Own.slk' encInt_len hql hon
        obtain ⟨bn, on, rfl, hbl, hbn, hc⟩ := sn.ints (by omega)
        have HSN := hide sn
        have ncc := sn.cap
        have ncm := sn.max
        have c0 := hc 0 (by omega)
        simp only [Nat.add_zero] at c0
        have hne : w1.heap.size ≠ bn := by have := HST.out.lt; omega
        have zbn : bn < w5.heap.size := hbn
        obtain ⟨x0, hx0⟩ : ∃ x, qs.getD 0 0 = x := ⟨_, rfl⟩
        rw [hx0] at c0
        have HX := hide hx0
        clear hc sn hx0
        have HST6 : Hid (RdSt w1 (w5.setCell ⟨w1.heap.size, 8, none⟩ (.int .i64 x0)) (rMas r (qs, true)) v1 v2 v3) := hide (by unfold rMas nAt; simp only [HX.out]; exact HST5.out.set 8 (.int .i64 x0) rfl rfl rfl rfl)
        clear HG hq hl hnl hon kA fA yA
        have HG := HG2
        have hrl3 : rqLen (rMas r (qs, true)) ≤ k + 1 := Nat.le_succ_of_le hrl
        have PB6 := hide (P0.out.below HST6.out.below y0)
        have kA := PB6.out.cell
        have fA := PB6.out.frozen
        have yA := PB6.out.lt
        go_wp2_with fail
        refine (HLN.out (ByteArray.mk #[105, 116, 101, 109]) 7 (k + 1) _ _ (by omega) (by omega) (by omega) (by first | rfl | omega) HST6.out.below).mono ?_
        rintro e w7 ⟨⟨nv, rfl, hon⟩, hb⟩
        have HST7 := hide (HST6.out.call hb)
        have z7 := hb.size
        clear hb kA fA yA kR yR fR
        have PB7 := hide (P0.out.below HST7.out.below y0)
        have kA := PB7.out.cell
        have fA := PB7.out.frozen
        have yA := PB7.out.lt
        have kR := HST7.out.rq.cell
        have yR := HST7.out.rq.lt
        have fR := HST7.out.rq.frozen
        unfold rdCells at kR
        go_wp2_with fail
        go_loopw [7, 8, 9] (fun ai nv ok wr => ∃ (k : Nat) (r : Rq) (last : Int) (v1 v2 v3 : Value) (b : Nat), k ≤ n ∧ ai = .int .i64 k ∧ ok = .bool (lnR P k (ByteArray.mk #[105, 116, 101, 109]) 7).2 ∧ RdSt w1 wr r v1 v2 v3 ∧ rqLen r ≤ k ∧ (last = 5 ∨ last = 6) ∧ Hid (goA (lnT P) ((lnL P).drop k) k r last = readS s) ∧ Own 1 encInt 3 wr b nv (lnR P k (ByteArray.mk #[105, 116, 101, 109]) 7).1 ∧ b ≤ wr.heap.size ∧ w1.heap.size < b ∧ (∀ z, (v1.ownBlock = some z ∨ v2.ownBlock = some z ∨ v3.ownBlock = some z) → z < b)) (fun ai _ _ _ => n - (intOf ai).toNat)
        case atStart => exact ⟨k + 1, _, 5, _, _, _, _, by omega, by first | rfl | exact congrArg (Value.int .i64) (by omega), rfl, HST7.out, hrl3, by omega, HG, hon, by have := z7; omega, by have := HST6.out.lt; omega, (fun z hz => by rcases hz with hz | hz | hz; exact (HST6.out.own.pr.lt z hz).2; exact (HST6.out.own.ty.lt z hz).2; exact (HST6.out.own.it.lt z hz).2)⟩
        case round =>
          obtain ⟨k, r, last, v1, v2, v3, b, hk, rfl, rfl, hst, hrl, hlast, HG, hon, hbb, hbw, hown⟩ := hrel
          have HST := hide hst
          clear hst
          have PB := hide (P0.out.below HST.out.below y0)
          have kA := PB.out.cell
          have fA := PB.out.frozen
          have yA := PB.out.lt
          have kR := HST.out.rq.cell
          have yR := HST.out.rq.lt
          have fR := HST.out.rq.frozen
          unfold rdCells at kR
          have y1 := HST.out.below.size
          obtain ⟨⟨qs, qb⟩, hq⟩ : ∃ q, lnR P k (ByteArray.mk #[105, 116, 101, 109]) 7 = q := ⟨_, rfl⟩
          rw [hq] at hon ⊢
          have HQ := hide hq
          cases qb
          case true =>
            obtain ⟨l, hkl, hl, hnl⟩ := lnR_t HN.out hq
            have HG2 : Hid (goA (lnT P) ((lnL P).drop (k + 1)) (k + 1) (rIt r (qs, true)) 6 = readS s) := hide (by rw [← HG.out]; exact (goA_step HN.out hkl hl (by rw [putL_6 (by rw [hnl]), hnl]) (by rcases hlast with rfl | rfl <;> rfl)).symm)
            have hql : qs.length = 7 := by have := numsR_len (line := l) (by rw [hnl]); rw [hnl] at this; exact this
            obtain ⟨An, cn, rfl, sn⟩ := Own.slk' encInt_len hql hon
            obtain ⟨bn, on, rfl, hbl, hbn, hc⟩ := sn.ints (by omega)
            have HSN := hide sn
            have ncc := sn.cap
            have ncm := sn.max
            have c0 := hc 0 (by omega)
            have c1 := hc 1 (by omega)
            have c2 := hc 2 (by omega)
            have c3 := hc 3 (by omega)
            have c4 := hc 4 (by omega)
            have c5 := hc 5 (by omega)
            have c6 := hc 6 (by omega)
            simp only [Nat.add_zero] at c0
            have hne : w1.heap.size ≠ bn := by omega
            have zbn : bn < wr.heap.size := hbn
            obtain ⟨x0, hx0⟩ : ∃ x, qs.getD 0 0 = x := ⟨_, rfl⟩
            rw [hx0] at c0
            obtain ⟨x1, hx1⟩ : ∃ x, qs.getD 1 0 = x := ⟨_, rfl⟩
            rw [hx1] at c1
            obtain ⟨x2, hx2⟩ : ∃ x, qs.getD 2 0 = x := ⟨_, rfl⟩
            rw [hx2] at c2
            obtain ⟨x3, hx3⟩ : ∃ x, qs.getD 3 0 = x := ⟨_, rfl⟩
            rw [hx3] at c3
            obtain ⟨x4, hx4⟩ : ∃ x, qs.getD 4 0 = x := ⟨_, rfl⟩
            rw [hx4] at c4
            obtain ⟨x5, hx5⟩ : ∃ x, qs.getD 5 0 = x := ⟨_, rfl⟩
            rw [hx5] at c5
            obtain ⟨x6, hx6⟩ : ∃ x, qs.getD 6 0 = x := ⟨_, rfl⟩
            rw [hx6] at c6
            have HX := hide (show qs.getD 0 0 = x0 ∧ qs.getD 1 0 = x1 ∧ qs.getD 2 0 = x2 ∧ qs.getD 3 0 = x3 ∧ qs.getD 4 0 = x4 ∧ qs.getD 5 0 = x5 ∧ qs.getD 6 0 = x6 from ⟨hx0, hx1, hx2, hx3, hx4, hx5, hx6⟩)
            clear hc sn hl hnl hq hon hx0 hx1 hx2 hx3 hx4 hx5 hx6
            go_wp2_with fail
            refine wp_region_held_drew (S := (fun w' => w'.cell? ⟨bn, on, none⟩ = some (.int .i64 x0) ∧ w'.cell? ⟨bn, on + 1, none⟩ = some (.int .i64 x1) ∧ w'.cell? ⟨bn, on + 2, none⟩ = some (.int .i64 x2) ∧ w'.cell? ⟨bn, on + 3, none⟩ = some (.int .i64 x3) ∧ w'.cell? ⟨bn, on + 4, none⟩ = some (.int .i64 x4) ∧ w'.cell? ⟨bn, on + 5, none⟩ = some (.int .i64 x5) ∧ w'.cell? ⟨bn, on + 6, none⟩ = some (.int .i64 x6))) (by kernel_rfl) ?hS0 (fun hHeld => ?_)
            case hS0 => (exact ⟨c0, c1, c2, c3, c4, c5, c6⟩)
            refine wpAnyH_take (i := 0) (v := ?_) rfl (by kernel_rfl) (by kernel_rfl) (by kernel_rfl) (fun _ _ _ h => h) (Or.inl ⟨by rfl, ?_⟩) (by assumption) ?_
            rotate_left 1
            · intro w hSw
              try dsimp only at hSw
              go_simp
              try with_reducible rfl
            simp only [Act.put, List.getElem_toArray, List.getElem_cons_succ, List.getElem_cons_zero, List.setIfInBounds_toArray, List.set_cons_zero, List.set_cons_succ]
            refine wpAnyH_take (i := 2) (v := ?_) rfl (by kernel_rfl) (by kernel_rfl) (by kernel_rfl) (fun _ _ _ h => h) (Or.inl ⟨by rfl, ?_⟩) (by assumption) ?_
            rotate_left 1
            · intro w hSw
              try dsimp only at hSw
              go_simp
              try with_reducible rfl
            simp only [Act.put, List.getElem_toArray, List.getElem_cons_succ, List.getElem_cons_zero, List.setIfInBounds_toArray, List.set_cons_zero, List.set_cons_succ]
            refine wpAnyH_take (i := 3) (v := ?_) rfl (by kernel_rfl) (by kernel_rfl) (by kernel_rfl) (fun _ _ _ h => h) (Or.inl ⟨by rfl, ?_⟩) (by assumption) ?_
            rotate_left 1
            · intro w hSw
              try dsimp only at hSw
              go_simp
              try with_reducible rfl
            simp only [Act.put, List.getElem_toArray, List.getElem_cons_succ, List.getElem_cons_zero, List.setIfInBounds_toArray, List.set_cons_zero, List.set_cons_succ]
            refine wpAnyH_take (i := 4) (v := ?_) rfl (by kernel_rfl) (by kernel_rfl) (by kernel_rfl) (fun _ _ _ h => h) (Or.inl ⟨by rfl, ?_⟩) (by assumption) ?_
            rotate_left 1
            · intro w hSw
              try dsimp only at hSw
              go_simp
              try with_reducible rfl
            simp only [Act.put, List.getElem_toArray, List.getElem_cons_succ, List.getElem_cons_zero, List.setIfInBounds_toArray, List.set_cons_zero, List.set_cons_succ]
            refine wpAnyH_take (i := 5) (v := ?_) rfl (by kernel_rfl) (by kernel_rfl) (by kernel_rfl) (fun _ _ _ h => h) (Or.inl ⟨by rfl, ?_⟩) (by assumption) ?_
            rotate_left 1
            · intro w hSw
              try dsimp only at hSw
              go_simp
              try with_reducible rfl
            simp only [Act.put, List.getElem_toArray, List.getElem_cons_succ, List.getElem_cons_zero, List.setIfInBounds_toArray, List.set_cons_zero, List.set_cons_succ]
            refine wpAnyH_take (i := 6) (v := ?_) rfl (by kernel_rfl) (by kernel_rfl) (by kernel_rfl) (fun _ _ _ h => h) (Or.inl ⟨by rfl, ?_⟩) (by assumption) ?_
            rotate_left 1
            · intro w hSw
              try dsimp only at hSw
              go_simp
              try with_reducible rfl
            simp only [Act.put, List.getElem_toArray, List.getElem_cons_succ, List.getElem_cons_zero, List.setIfInBounds_toArray, List.set_cons_zero, List.set_cons_succ]
            refine wpAnyH_take (i := 7) (v := ?_) rfl (by kernel_rfl) (by kernel_rfl) (by kernel_rfl) (fun _ _ _ h => h) (Or.inl ⟨by rfl, ?_⟩) (by assumption) ?_
            rotate_left 1
            · intro w hSw
              try dsimp only at hSw
              go_simp
              try with_reducible rfl
            simp only [Act.put, List.getElem_toArray, List.getElem_cons_succ, List.getElem_cons_zero, List.setIfInBounds_toArray, List.set_cons_zero, List.set_cons_succ]
            refine wpAnyH_take (i := 8) (v := ?_) rfl (by kernel_rfl) (by kernel_rfl) (by kernel_rfl) (fun _ _ _ h => h) (Or.inl ⟨by rfl, ?_⟩) (by assumption) ?_
            rotate_left 1
            · intro w hSw
              try dsimp only at hSw
              go_simp
              try with_reducible rfl
            simp only [Act.put, List.getElem_toArray, List.getElem_cons_succ, List.getElem_cons_zero, List.setIfInBounds_toArray, List.set_cons_zero, List.set_cons_succ]
            refine wpAnyH_take (i := 9) (v := ?_) rfl (by kernel_rfl) (by kernel_rfl) (by kernel_rfl) (fun _ _ _ h => h) (Or.inl ⟨by rfl, ?_⟩) (by assumption) ?_
            rotate_left 1
            · intro w hSw
              try dsimp only at hSw
              go_simp
              try with_reducible rfl
            simp only [Act.put, List.getElem_toArray, List.getElem_cons_succ, List.getElem_cons_zero, List.setIfInBounds_toArray, List.set_cons_zero, List.set_cons_succ]
            refine wpAnyH_take (i := 10) (v := ?_) rfl (by kernel_rfl) (by kernel_rfl) (by kernel_rfl) (fun _ _ _ h => h) (Or.inl ⟨by rfl, ?_⟩) (by assumption) ?_
            rotate_left 1
            · intro w hSw
              try dsimp only at hSw
              go_simp
              try with_reducible rfl
            simp only [Act.put, List.getElem_toArray, List.getElem_cons_succ, List.getElem_cons_zero, List.setIfInBounds_toArray, List.set_cons_zero, List.set_cons_succ]
            refine wpAnyH_take (i := 11) (v := ?_) rfl (by kernel_rfl) (by kernel_rfl) (by kernel_rfl) (fun _ _ _ h => h) (Or.inl ⟨by rfl, ?_⟩) (by assumption) ?_
            rotate_left 1
            · intro w hSw
              try dsimp only at hSw
              go_simp
              try with_reducible rfl
            simp only [Act.put, List.getElem_toArray, List.getElem_cons_succ, List.getElem_cons_zero, List.setIfInBounds_toArray, List.set_cons_zero, List.set_cons_succ]
            refine wpAnyH_take (i := 12) (v := ?_) rfl (by kernel_rfl) (by kernel_rfl) (by kernel_rfl) (fun _ _ _ h => h) (Or.inl ⟨by rfl, ?_⟩) (by assumption) ?_
            rotate_left 1
            · intro w hSw
              try dsimp only at hSw
              go_simp
              try with_reducible rfl
            simp only [Act.put, List.getElem_toArray, List.getElem_cons_succ, List.getElem_cons_zero, List.setIfInBounds_toArray, List.set_cons_zero, List.set_cons_succ]
            refine wpAnyH_take (i := 13) (v := ?_) rfl (by kernel_rfl) (by kernel_rfl) (by kernel_rfl) (fun _ _ _ h => h) (Or.inl ⟨by rfl, ?_⟩) (by assumption) ?_
            rotate_left 1
            · intro w hSw
              try dsimp only at hSw
              go_simp
              try with_reducible rfl
            simp only [Act.put, List.getElem_toArray, List.getElem_cons_succ, List.getElem_cons_zero, List.setIfInBounds_toArray, List.set_cons_zero, List.set_cons_succ]
            refine wpAnyH_take (i := 14) (v := ?_) rfl (by kernel_rfl) (by kernel_rfl) (by kernel_rfl) (fun _ _ _ h => h) (Or.inl ⟨by rfl, ?_⟩) (by assumption) ?_
            rotate_left 1
            · intro w hSw
              try dsimp only at hSw
              go_simp
              try with_reducible rfl
            simp only [Act.put, List.getElem_toArray, List.getElem_cons_succ, List.getElem_cons_zero, List.setIfInBounds_toArray, List.set_cons_zero, List.set_cons_succ]
            refine wpAnyH_take (i := 15) (v := ?_) rfl (by kernel_rfl) (by kernel_rfl) (by kernel_rfl) (fun _ _ _ h => h) (Or.inl ⟨by rfl, ?_⟩) (by assumption) ?_
            rotate_left 1
            · intro w hSw
              try dsimp only at hSw
              go_simp
              try with_reducible rfl
            simp only [Act.put, List.getElem_toArray, List.getElem_cons_succ, List.getElem_cons_zero, List.setIfInBounds_toArray, List.set_cons_zero, List.set_cons_succ]
            refine wpAnyH_take (i := 16) (v := ?_) rfl (by kernel_rfl) (by kernel_rfl) (by kernel_rfl) (fun _ _ _ h => h) (Or.inl ⟨by rfl, ?_⟩) (by assumption) ?_
            rotate_left 1
            · intro w hSw
              try dsimp only at hSw
              go_simp
              try with_reducible rfl
            simp only [Act.put, List.getElem_toArray, List.getElem_cons_succ, List.getElem_cons_zero, List.setIfInBounds_toArray, List.set_cons_zero, List.set_cons_succ]
            refine wpAnyH_take (i := 17) (v := ?_) rfl (by kernel_rfl) (by kernel_rfl) (by kernel_rfl) (fun _ _ _ h => h) (Or.inl ⟨by rfl, ?_⟩) (by assumption) ?_
            rotate_left 1
            · intro w hSw
              try dsimp only at hSw
              go_simp
              try with_reducible rfl
            simp only [Act.put, List.getElem_toArray, List.getElem_cons_succ, List.getElem_cons_zero, List.setIfInBounds_toArray, List.set_cons_zero, List.set_cons_succ]
            refine wpAnyH_take (i := 18) (v := ?_) rfl (by kernel_rfl) (by kernel_rfl) (by kernel_rfl) (fun _ _ _ h => h) (Or.inl ⟨by rfl, ?_⟩) (by assumption) ?_
            rotate_left 1
            · intro w hSw
              try dsimp only at hSw
              go_simp
              try with_reducible rfl
            simp only [Act.put, List.getElem_toArray, List.getElem_cons_succ, List.getElem_cons_zero, List.setIfInBounds_toArray, List.set_cons_zero, List.set_cons_succ]
            refine wpAnyH_take (i := 19) (v := ?_) rfl (by kernel_rfl) (by kernel_rfl) (by kernel_rfl) (fun _ _ _ h => h) (Or.inl ⟨by rfl, ?_⟩) (by assumption) ?_
            rotate_left 1
            · intro w hSw
              try dsimp only at hSw
              go_simp
              try with_reducible rfl
            simp only [Act.put, List.getElem_toArray, List.getElem_cons_succ, List.getElem_cons_zero, List.setIfInBounds_toArray, List.set_cons_zero, List.set_cons_succ]
            refine wpAnyH_take (i := 20) (v := ?_) rfl (by kernel_rfl) (by kernel_rfl) (by kernel_rfl) (fun _ _ _ h => h) (Or.inl ⟨by rfl, ?_⟩) (by assumption) ?_
            rotate_left 1
            · intro w hSw
              try dsimp only at hSw
              go_simp
              try with_reducible rfl
            simp only [Act.put, List.getElem_toArray, List.getElem_cons_succ, List.getElem_cons_zero, List.setIfInBounds_toArray, List.set_cons_zero, List.set_cons_succ]
            refine wpAnyH_take (i := 21) (v := ?_) rfl (by kernel_rfl) (by kernel_rfl) (by kernel_rfl) (fun _ _ _ h => h) (Or.inl ⟨by rfl, ?_⟩) (by assumption) ?_
            rotate_left 1
            · intro w hSw
              try dsimp only at hSw
              go_simp
              try with_reducible rfl
            simp only [Act.put, List.getElem_toArray, List.getElem_cons_succ, List.getElem_cons_zero, List.setIfInBounds_toArray, List.set_cons_zero, List.set_cons_succ]
            refine wpAnyH_take (i := 22) (v := ?_) rfl (by kernel_rfl) (by kernel_rfl) (by kernel_rfl) (fun _ _ _ h => h) (Or.inl ⟨by rfl, ?_⟩) (by assumption) ?_
            rotate_left 1
            · intro w hSw
              try dsimp only at hSw
              go_simp
              try with_reducible rfl
            simp only [Act.put, List.getElem_toArray, List.getElem_cons_succ, List.getElem_cons_zero, List.setIfInBounds_toArray, List.set_cons_zero, List.set_cons_succ]
            refine wpAnyH_take (i := 23) (v := ?_) rfl (by kernel_rfl) (by kernel_rfl) (by kernel_rfl) (fun _ _ _ h => h) (Or.inl ⟨by rfl, ?_⟩) (by assumption) ?_
            rotate_left 1
            · intro w hSw
              try dsimp only at hSw
              go_simp
              try with_reducible rfl
            simp only [Act.put, List.getElem_toArray, List.getElem_cons_succ, List.getElem_cons_zero, List.setIfInBounds_toArray, List.set_cons_zero, List.set_cons_succ]
            refine wpAnyH_ready (rs := [1, 24]) (by kernel_rfl) (by simp) ?_
            refine AllReadyH.cons rfl (fun K hK => ?_) ?_
            · skip
              go_simp
              refine hK.out _ _ ?hS1 (fun hHeld => ?_)
              case hS1 => (try dsimp only); (go_keep)
              clear hK K
              try simp only [Act.put, List.getElem_toArray, List.getElem_cons_succ, List.getElem_cons_zero, List.setIfInBounds_toArray, List.set_cons_zero, List.set_cons_succ]
              refine wpAnyH_ready (rs := [24]) (by kernel_rfl) (by simp) ?_
              refine AllReadyH.cons rfl (fun K hK => ?_) AllReadyH.nil
              go_simp
              refine hK.out _ _ ?hS1 (fun hHeld => ?_)
              case hS1 => (try dsimp only); (go_keep)
              clear hK K
              try simp only [Act.put, List.getElem_toArray, List.getElem_cons_succ, List.getElem_cons_zero, List.setIfInBounds_toArray, List.set_cons_zero, List.set_cons_succ]
              refine wpAnyH_ready (rs := [25]) (by kernel_rfl) (by simp) ?_
              refine AllReadyH.cons rfl (fun K hK => ?_) AllReadyH.nil
              refine step_app rfl (.tmp 170) (.tmp 193) rfl (by simp [Act.eval]) (by simp [Act.eval]) (app1K encIt_len encIt_one Tryd.underlying39 itInfo rfl (by omega) (by omega) (HST.out.drew.own.it) (HST.out.drew.lt) (by unfold rqLen at hrl; omega) ⟨x0, x1, x2, x3, x4, x5, x6⟩ wr.heap.size rfl _ rfl) ?_
              intro v' wz ho2 hg2 hat2
              obtain ⟨m5, hm5⟩ : ∃ m5, (r.items ++ [(⟨x0, x1, x2, x3, x4, x5, x6⟩ : It)]).length = m5 := ⟨_, rfl⟩
              obtain ⟨A5, c5, rfl, s5'⟩ := Own.slk' encIt_len hm5 ho2
              clear s5'
              have PZ := (HST.out.drew.rq.alloc (.cells #[.int .i64 x0, .int .i64 x1, .int .i64 x2, .int .i64 x3, .int .i64 x4, .int .i64 x5, .int .i64 x6] 86)).grown hg2 (fun e => by have := (HST.out.own.it.lt _ e.symm).1; omega)
              have kZ := PZ.cell
              have fZ := PZ.frozen
              have yZ := PZ.lt
              unfold rdCells at kZ
              have HN2 := ((HSN.out.drew.alloc (by simp) (.cells #[.int .i64 x0, .int .i64 x1, .int .i64 x2, .int .i64 x3, .int .i64 x4, .int .i64 x5, .int .i64 x6] 86)).grown hg2 (by first | (simp; done) | (simp; omega)) (fun z hz => .inl (hown z (.inr (.inr hz))))).intsAt
              have d0 := HN2 0 (by omega)
              have d1 := HN2 1 (by omega)
              have d2 := HN2 2 (by omega)
              have d3 := HN2 3 (by omega)
              have d4 := HN2 4 (by omega)
              have d5 := HN2 5 (by omega)
              have d6 := HN2 6 (by omega)
              simp only [Nat.add_zero] at d0
              simp only [HX.out.1, HX.out.2.1, HX.out.2.2.1, HX.out.2.2.2.1, HX.out.2.2.2.2.1, HX.out.2.2.2.2.2.1, HX.out.2.2.2.2.2.2] at d0 d1 d2 d3 d4 d5 d6
              clear HN2
              refine hK.out _ _ ⟨d0, d1, d2, d3, d4, d5, d6⟩ (fun hHeld => ?_)
              clear hK K
              try simp only [Act.put, List.getElem_toArray, List.getElem_cons_succ, List.getElem_cons_zero, List.setIfInBounds_toArray, List.set_cons_zero, List.set_cons_succ]
              refine wpAnyH_take (i := 26) (v := ?_) rfl (by kernel_rfl) (by kernel_rfl) (by kernel_rfl) (fun _ _ _ h => h) (Or.inl ⟨by rfl, ?_⟩) (by assumption) ?_
              rotate_left 1
              · intro w hSw
                try dsimp only at hSw
                go_simp
                try with_reducible rfl
              simp only [Act.put, List.getElem_toArray, List.getElem_cons_succ, List.getElem_cons_zero, List.setIfInBounds_toArray, List.set_cons_zero, List.set_cons_succ]
              refine wpAnyH_ready (rs := [27]) (by kernel_rfl) (by simp) ?_
              refine AllReadyH.cons rfl (fun K hK => ?_) AllReadyH.nil
              go_simp
              refine hK.out _ _ ?hS1 (fun hHeld => ?_)
              case hS1 => (try dsimp only); (go_keep)
              clear hK K
              try simp only [Act.put, List.getElem_toArray, List.getElem_cons_succ, List.getElem_cons_zero, List.setIfInBounds_toArray, List.set_cons_zero, List.set_cons_succ]
              refine wpAnyH_done (by kernel_rfl) ?_ _
              have HSTz : Hid (RdSt w1 (wz.setCell ⟨w1.heap.size, 9, none⟩ (.slice A5 m5 c5)) (rIt r (qs, true)) (v1) (v2) (.slice A5 m5 c5)) := hide (by
                have h := HST.out.drew.put (.cells #[.int .i64 x0, .int .i64 x1, .int .i64 x2, .int .i64 x3, .int .i64 x4, .int .i64 x5, .int .i64 x6] 86) hg2 (fun z hz => (HST.out.own.it.lt z hz).1) (HST.out.drew.own.pushIt (.cells #[.int .i64 x0, .int .i64 x1, .int .i64 x2, .int .i64 x3, .int .i64 x4, .int .i64 x5, .int .i64 x6] 86) ho2 hg2 hat2) 9 (.slice A5 m5 c5) rfl
                unfold rIt nAt
                simp only [HX.out.1, HX.out.2.1, HX.out.2.2.1, HX.out.2.2.2.1, HX.out.2.2.2.2.1, HX.out.2.2.2.2.2.1, HX.out.2.2.2.2.2.2]
                exact h)
              have hzz : wr.heap.size ≤ wz.heap.size := by have := hg2.size; simp only [World.size_alloc, World.size_drew] at this; omega
              clear ho2 hg2 hat2 PZ kZ fZ yZ hHeld d0 d1 d2 d3 d4 d5 d6 hm5
              have hrl2 : rqLen (rIt r (qs, true)) ≤ k + 1 := by unfold rqLen at hrl ⊢; simp [rIt]; omega
              clear kA fA yA kR yR fR
              have PBz := hide (P0.out.below HSTz.out.below y0)
              have kA := PBz.out.cell
              have fA := PBz.out.frozen
              have yA := PBz.out.lt
              have kR := HSTz.out.rq.cell
              have yR := HSTz.out.rq.lt
              have fR := HSTz.out.rq.frozen
              unfold rdCells at kR
              go_wp2_with fail
              refine (HLN.out (ByteArray.mk #[105, 116, 101, 109]) 7 (k + 1) _ _ (by omega) (by omega) (by omega) (by first | rfl | omega) HSTz.out.below).mono ?_
              rintro e w9 ⟨⟨nv, rfl, hon⟩, hb⟩
              have HST9 := hide (HSTz.out.call hb)
              have z9 := hb.size
              have HON9 := hide hon
              clear hb hon kA fA yA kR yR fR
              go_wp2_with fail
              go_roundw
              case rel => exact ⟨k + 1, _, 6, _, _, _, _, by omega, by go_num, rfl, HST9.out, hrl2, by omega, HG2, HON9.out, z9, by have := HSTz.out.lt; omega, (fun z hz => by rcases hz with hz | hz | hz; exact (HSTz.out.own.pr.lt z hz).2; exact (HSTz.out.own.ty.lt z hz).2; exact (HSTz.out.own.it.lt z hz).2)⟩
              case measure => first | omega | (simp [intOf]; done) | (simp [intOf]; omega)
            refine AllReadyH.cons rfl (fun K hK => ?_) ?_
            · skip
              go_simp
              refine hK.out _ _ ?hS1 (fun hHeld => ?_)
              case hS1 => (try dsimp only); (go_keep)
              clear hK K
              try simp only [Act.put, List.getElem_toArray, List.getElem_cons_succ, List.getElem_cons_zero, List.setIfInBounds_toArray, List.set_cons_zero, List.set_cons_succ]
              refine wpAnyH_ready (rs := [1]) (by kernel_rfl) (by simp) ?_
              refine AllReadyH.cons rfl (fun K hK => ?_) AllReadyH.nil
              go_simp
              refine hK.out _ _ ?hS1 (fun hHeld => ?_)
              case hS1 => (try dsimp only); (go_keep)
              clear hK K
              try simp only [Act.put, List.getElem_toArray, List.getElem_cons_succ, List.getElem_cons_zero, List.setIfInBounds_toArray, List.set_cons_zero, List.set_cons_succ]
              refine wpAnyH_ready (rs := [25]) (by kernel_rfl) (by simp) ?_
              refine AllReadyH.cons rfl (fun K hK => ?_) AllReadyH.nil
              refine step_app rfl (.tmp 170) (.tmp 193) rfl (by simp [Act.eval]) (by simp [Act.eval]) (app1K encIt_len encIt_one Tryd.underlying39 itInfo rfl (by omega) (by omega) (HST.out.drew.own.it) (HST.out.drew.lt) (by unfold rqLen at hrl; omega) ⟨x0, x1, x2, x3, x4, x5, x6⟩ wr.heap.size rfl _ rfl) ?_
              intro v' wz ho2 hg2 hat2
              obtain ⟨m5, hm5⟩ : ∃ m5, (r.items ++ [(⟨x0, x1, x2, x3, x4, x5, x6⟩ : It)]).length = m5 := ⟨_, rfl⟩
              obtain ⟨A5, c5, rfl, s5'⟩ := Own.slk' encIt_len hm5 ho2
              clear s5'
              have PZ := (HST.out.drew.rq.alloc (.cells #[.int .i64 x0, .int .i64 x1, .int .i64 x2, .int .i64 x3, .int .i64 x4, .int .i64 x5, .int .i64 x6] 86)).grown hg2 (fun e => by have := (HST.out.own.it.lt _ e.symm).1; omega)
              have kZ := PZ.cell
              have fZ := PZ.frozen
              have yZ := PZ.lt
              unfold rdCells at kZ
              have HN2 := ((HSN.out.drew.alloc (by simp) (.cells #[.int .i64 x0, .int .i64 x1, .int .i64 x2, .int .i64 x3, .int .i64 x4, .int .i64 x5, .int .i64 x6] 86)).grown hg2 (by first | (simp; done) | (simp; omega)) (fun z hz => .inl (hown z (.inr (.inr hz))))).intsAt
              have d0 := HN2 0 (by omega)
              have d1 := HN2 1 (by omega)
              have d2 := HN2 2 (by omega)
              have d3 := HN2 3 (by omega)
              have d4 := HN2 4 (by omega)
              have d5 := HN2 5 (by omega)
              have d6 := HN2 6 (by omega)
              simp only [Nat.add_zero] at d0
              simp only [HX.out.1, HX.out.2.1, HX.out.2.2.1, HX.out.2.2.2.1, HX.out.2.2.2.2.1, HX.out.2.2.2.2.2.1, HX.out.2.2.2.2.2.2] at d0 d1 d2 d3 d4 d5 d6
              clear HN2
              refine hK.out _ _ ⟨d0, d1, d2, d3, d4, d5, d6⟩ (fun hHeld => ?_)
              clear hK K
              try simp only [Act.put, List.getElem_toArray, List.getElem_cons_succ, List.getElem_cons_zero, List.setIfInBounds_toArray, List.set_cons_zero, List.set_cons_succ]
              refine wpAnyH_take (i := 26) (v := ?_) rfl (by kernel_rfl) (by kernel_rfl) (by kernel_rfl) (fun _ _ _ h => h) (Or.inl ⟨by rfl, ?_⟩) (by assumption) ?_
              rotate_left 1
              · intro w hSw
                try dsimp only at hSw
                go_simp
                try with_reducible rfl
              simp only [Act.put, List.getElem_toArray, List.getElem_cons_succ, List.getElem_cons_zero, List.setIfInBounds_toArray, List.set_cons_zero, List.set_cons_succ]
              refine wpAnyH_ready (rs := [27]) (by kernel_rfl) (by simp) ?_
              refine AllReadyH.cons rfl (fun K hK => ?_) AllReadyH.nil
              go_simp
              refine hK.out _ _ ?hS1 (fun hHeld => ?_)
              case hS1 => (try dsimp only); (go_keep)
              clear hK K
              try simp only [Act.put, List.getElem_toArray, List.getElem_cons_succ, List.getElem_cons_zero, List.setIfInBounds_toArray, List.set_cons_zero, List.set_cons_succ]
              refine wpAnyH_done (by kernel_rfl) ?_ _
              have HSTz : Hid (RdSt w1 (wz.setCell ⟨w1.heap.size, 9, none⟩ (.slice A5 m5 c5)) (rIt r (qs, true)) (v1) (v2) (.slice A5 m5 c5)) := hide (by
                have h := HST.out.drew.put (.cells #[.int .i64 x0, .int .i64 x1, .int .i64 x2, .int .i64 x3, .int .i64 x4, .int .i64 x5, .int .i64 x6] 86) hg2 (fun z hz => (HST.out.own.it.lt z hz).1) (HST.out.drew.own.pushIt (.cells #[.int .i64 x0, .int .i64 x1, .int .i64 x2, .int .i64 x3, .int .i64 x4, .int .i64 x5, .int .i64 x6] 86) ho2 hg2 hat2) 9 (.slice A5 m5 c5) rfl
                unfold rIt nAt
                simp only [HX.out.1, HX.out.2.1, HX.out.2.2.1, HX.out.2.2.2.1, HX.out.2.2.2.2.1, HX.out.2.2.2.2.2.1, HX.out.2.2.2.2.2.2]
                exact h)
              have hzz : wr.heap.size ≤ wz.heap.size := by have := hg2.size; simp only [World.size_alloc, World.size_drew] at this; omega
              clear ho2 hg2 hat2 PZ kZ fZ yZ hHeld d0 d1 d2 d3 d4 d5 d6 hm5
              have hrl2 : rqLen (rIt r (qs, true)) ≤ k + 1 := by unfold rqLen at hrl ⊢; simp [rIt]; omega
              clear kA fA yA kR yR fR
              have PBz := hide (P0.out.below HSTz.out.below y0)
              have kA := PBz.out.cell
              have fA := PBz.out.frozen
              have yA := PBz.out.lt
              have kR := HSTz.out.rq.cell
              have yR := HSTz.out.rq.lt
              have fR := HSTz.out.rq.frozen
              unfold rdCells at kR
              go_wp2_with fail
              refine (HLN.out (ByteArray.mk #[105, 116, 101, 109]) 7 (k + 1) _ _ (by omega) (by omega) (by omega) (by first | rfl | omega) HSTz.out.below).mono ?_
              rintro e w9 ⟨⟨nv, rfl, hon⟩, hb⟩
              have HST9 := hide (HSTz.out.call hb)
              have z9 := hb.size
              have HON9 := hide hon
              clear hb hon kA fA yA kR yR fR
              go_wp2_with fail
              go_roundw
              case rel => exact ⟨k + 1, _, 6, _, _, _, _, by omega, by go_num, rfl, HST9.out, hrl2, by omega, HG2, HON9.out, z9, by have := HSTz.out.lt; omega, (fun z hz => by rcases hz with hz | hz | hz; exact (HSTz.out.own.pr.lt z hz).2; exact (HSTz.out.own.ty.lt z hz).2; exact (HSTz.out.own.it.lt z hz).2)⟩
              case measure => first | omega | (simp [intOf]; done) | (simp [intOf]; omega)
            exact AllReadyH.nil
          have HNI := hide (lnR_f HN.out hq)
          clear hq hon
          obtain ⟨wa, hwa⟩ : ∃ wa : World, wa = wr := ⟨_, rfl⟩
          subst hwa
          have h5 : ¬ last < 5 := by omega
          by_cases hkn : k < n
          · have HE := hide (show readS s = (rq0, (k : Int)) by rw [← HG.out]; exact goA_no HN.out hkn (List.getElem?_eq_getElem (by have := HN.out; omega)) (mayF_no (putL_rng _ _) (by omega) (by have h6 := kind6 (r := r) (HNI.out _ hkn (List.getElem?_eq_getElem (by have := HN.out; omega))); omega)))
            have i1 : (k : Int) < (n : Int) := by omega
            go_wp2_with fail
            have PF := set10 PB.out rfl (.int .i64 0) (.int .i64 0) (.int .i64 0) (.int .i64 0) (.int .i64 0) (.int .i64 0) (nilV) (nilV) (.int .i64 0) (nilV)
            refine ret_cell2 Tryd.results29 rfl PF Tryd.underlying41 rfl (by kernel_rfl) rfl ⟨⟨nilV, nilV, nilV, ?_, by rw [HE.out]; exact RqOwn.nil_ _ _ rq0 rfl rfl rfl, by rw [HE.out]; exact Nat.zero_le _⟩, (L1.out.trans (HST.out.below.mono z1)).grown (grown10 wa w.heap.size (.int .i64 0) (.int .i64 0) (.int .i64 0) (.int .i64 0) (.int .i64 0) (.int .i64 0) (nilV) (nilV) (.int .i64 0) (nilV)) (by have := PB.out.lt; omega) (fun z hz => by have := Option.some.inj hz; omega)⟩
            rw [HE.out]
            rfl
          · obtain rfl : n = k := by omega
            obtain ⟨b1, off1, l, hl, e1, _, hb1, cL, _⟩ := (HSW.out.below HST.out.below (Nat.le_refl _)).str (i := n) (by omega)
            injection e1 with e1
            injection e1 with e1 e2
            subst e1 e2
            have HLT := hide (lnT_at HN.out hl)
            have j0 : (0 : Int) ≤ (n : Int) := by omega
            have j1 : (n : Int) < (n : Int) + 1 := by omega
            have j2 : b0 < wa.heap.size := by have := HST.out.below.size; omega
            clear hl hkn
            by_cases hT : l = (ByteArray.mk #[])
            · subst hT
              have HE := hide (show readS s = (r, -1) by rw [← HG.out, goA_good HN.out h5 HLT.out])
              obtain ⟨A1, c1, A2, c2, A3, c3, rfl, rfl, rfl, _⟩ := HST.out.own.rqAt
              go_wp2_with fail
              have PF := set10 PB.out rfl (.int .i64 r.way) (.int .i64 r.pal.w) (.int .i64 r.pal.d) (.int .i64 r.pal.h) (.int .i64 r.pal.gram) (.int .i64 r.cls) (.slice A1 r.pairs.length c1) (.slice A2 r.types.length c2) (.int .i64 r.master) (.slice A3 r.items.length c3)
              refine ret_cell2 Tryd.results29 rfl PF Tryd.underlying41 rfl (by kernel_rfl) rfl ⟨⟨_, _, _, ?_, by rw [HE.out]; exact rqOwn_le (HST.out.own.away (grown10 wa w.heap.size (.int .i64 r.way) (.int .i64 r.pal.w) (.int .i64 r.pal.d) (.int .i64 r.pal.h) (.int .i64 r.pal.gram) (.int .i64 r.cls) (.slice A1 r.pairs.length c1) (.slice A2 r.types.length c2) (.int .i64 r.master) (.slice A3 r.items.length c3)) (by omega)) (by omega), by rw [HE.out]; exact Nat.le_trans hrl hn60⟩, (L1.out.trans (HST.out.below.mono z1)).grown (grown10 wa w.heap.size (.int .i64 r.way) (.int .i64 r.pal.w) (.int .i64 r.pal.d) (.int .i64 r.pal.h) (.int .i64 r.pal.gram) (.int .i64 r.cls) (.slice A1 r.pairs.length c1) (.slice A2 r.types.length c2) (.int .i64 r.master) (.slice A3 r.items.length c3)) (by have := PB.out.lt; omega) (fun z hz => by have := Option.some.inj hz; omega)⟩
              rw [HE.out]
              rfl
            · have HE := hide (show readS s = (rq0, (n : Int)) by rw [← HG.out, goA_bad HN.out (.inr (by rw [HLT.out]; exact hT))])
              have hnil : (l.toList == []) = false := litne hT
              clear hT
              go_wp2_with fail
              have PF := set10 PB.out rfl (.int .i64 0) (.int .i64 0) (.int .i64 0) (.int .i64 0) (.int .i64 0) (.int .i64 0) (nilV) (nilV) (.int .i64 0) (nilV)
              refine ret_cell2 Tryd.results29 rfl PF Tryd.underlying41 rfl (by kernel_rfl) rfl ⟨⟨nilV, nilV, nilV, ?_, by rw [HE.out]; exact RqOwn.nil_ _ _ rq0 rfl rfl rfl, by rw [HE.out]; exact Nat.zero_le _⟩, (L1.out.trans (HST.out.below.mono z1)).grown (grown10 wa w.heap.size (.int .i64 0) (.int .i64 0) (.int .i64 0) (.int .i64 0) (.int .i64 0) (.int .i64 0) (nilV) (nilV) (.int .i64 0) (nilV)) (by have := PB.out.lt; omega) (fun z hz => by have := Option.some.inj hz; omega)⟩
              rw [HE.out]
              rfl
end Go.Proofs.YtcjcmdikopipjaaDoor
