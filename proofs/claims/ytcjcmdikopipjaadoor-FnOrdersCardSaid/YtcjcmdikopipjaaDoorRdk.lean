/- ReadOrder of the program. -/
import Derived.Test.YtcjcmdikopipjaaDoorRdj
namespace Go.Proofs.YtcjcmdikopipjaaDoor
open Go.ChangeShapes Go.WideShapes Go.ChangeAt Go.RowKit Go.Deep Go.Joins
set_option linter.unusedVariables false
set_option linter.unusedSimpArgs false

theorem putL_rng (r : Rq) (l : ByteArray) : -1 ≤ (putL r l).2 ∧ (putL r l).2 ≤ 6 := by
  rcases putL_cases r l with ⟨_, h⟩ | ⟨_, h⟩ | ⟨_, h⟩ | ⟨_, h⟩ | ⟨_, h⟩ | ⟨_, h⟩ | ⟨_, h⟩ | h <;> omega
def rqLen (r : Rq) : Nat := r.pairs.length + r.types.length + r.items.length
theorem putL_len (r : Rq) (l : ByteArray) : rqLen (putL r l).1 ≤ rqLen r + 1 := by
  unfold putL rqLen
  repeat' split
  all_goals simp [rPal, rCls, rPr, rTy, rMas, rIt]
  all_goals omega
theorem set10 {w : World} {g : Nat} {T : TypeId} {cs : Array Value} (h : Blk w g T cs) (hs : cs.size = 10) (a b c d e f i j k l : Value) :
    Blk ((((((((((w.setCell ⟨g, 0, none⟩ a).setCell ⟨g, 1, none⟩ b).setCell ⟨g, 2, none⟩ c).setCell ⟨g, 3, none⟩ d).setCell ⟨g, 4, none⟩ e).setCell ⟨g, 5, none⟩ f).setCell ⟨g, 6, none⟩ i).setCell ⟨g, 7, none⟩ j).setCell ⟨g, 8, none⟩ k).setCell ⟨g, 9, none⟩ l) g T #[a, b, c, d, e, f, i, j, k, l] := by
  obtain ⟨l'⟩ := cs
  match l', hs with
  | [_, _, _, _, _, _, _, _, _, _], _ =>
    have h0 := ((((((((((h.set_ 0 a).set_ 1 b).set_ 2 c).set_ 3 d).set_ 4 e).set_ 5 f).set_ 6 i).set_ 7 j).set_ 8 k).set_ 9 l)
    simpa only [List.setIfInBounds_toArray, List.set_cons_zero, List.set_cons_succ] using h0
theorem grown10 (w : World) (g : Nat) (a b c d e f i j k l : Value) : w.grownBy ((((((((((w.setCell ⟨g, 0, none⟩ a).setCell ⟨g, 1, none⟩ b).setCell ⟨g, 2, none⟩ c).setCell ⟨g, 3, none⟩ d).setCell ⟨g, 4, none⟩ e).setCell ⟨g, 5, none⟩ f).setCell ⟨g, 6, none⟩ i).setCell ⟨g, 7, none⟩ j).setCell ⟨g, 8, none⟩ k).setCell ⟨g, 9, none⟩ l) (some g) :=
  grown_trans (grown_trans (grown_trans (grown_trans (grown_trans (grown_trans (grown_trans (grown_trans (grown_trans (grown_set w g 0 a) (grown_set _ g 1 b)) (grown_set _ g 2 c)) (grown_set _ g 3 d)) (grown_set _ g 4 e)) (grown_set _ g 5 f)) (grown_set _ g 6 i)) (grown_set _ g 7 j)) (grown_set _ g 8 k)) (grown_set _ g 9 l)
def rqV (r : Rq) (v1 v2 v3 : Value) : Value := .agg (rdCells r v1 v2 v3)
theorem rqOwn_le {w : World} {base base' : Nat} {r : Rq} {v1 v2 v3 : Value} (h : RqOwn w base r v1 v2 v3) (hb : base' ≤ base) : RqOwn w base' r v1 v2 v3 := ⟨h.pr.base_le hb, h.ty.base_le hb, h.it.base_le hb, h.d12, h.d13, h.d23⟩
abbrev nilV : Value := .slice none 0 0
set_option maxRecDepth 20000 in
set_option maxHeartbeats 1000000 in
theorem mayFollow_any (last kind : Int) (w : World) (h1 : -1 ≤ kind ∧ kind ≤ 6) (h2 : -1 ≤ last ∧ last ≤ 6) : Calls Tryd.prog 65 #[.int .i64 last, .int .i64 kind] w fun e w' => e = .returned (.bool (mayF last kind)) ∧ w = w' := by
  have hk : kind = -1 ∨ kind = 0 ∨ kind = 1 ∨ kind = 2 ∨ kind = 3 ∨ kind = 4 ∨ kind = 5 ∨ kind = 6 := by omega
  have hl : last = -1 ∨ last = 0 ∨ last = 1 ∨ last = 2 ∨ last = 3 ∨ last = 4 ∨ last = 5 ∨ last = 6 := by omega
  clear h1 h2
  rcases hk with rfl | rfl | rfl | rfl | rfl | rfl | rfl | rfl
  · have HF := hide (show mayF last (-1) = false from rfl)
    clear hl
    go_enter Tryd.func65, Tryd.ntmps65
    go_wp2_with fail
    go_ret
    exact ⟨by rw [HF.out]; rfl, rfl⟩
  · rcases hl with rfl | rfl | rfl | rfl | rfl | rfl | rfl | rfl
    all_goals
      go_enter Tryd.func65, Tryd.ntmps65
      go_wp2_with fail
      go_ret
      exact ⟨rfl, rfl⟩
  · rcases hl with rfl | rfl | rfl | rfl | rfl | rfl | rfl | rfl
    all_goals
      go_enter Tryd.func65, Tryd.ntmps65
      go_wp2_with fail
      go_ret
      exact ⟨rfl, rfl⟩
  · rcases hl with rfl | rfl | rfl | rfl | rfl | rfl | rfl | rfl
    all_goals
      go_enter Tryd.func65, Tryd.ntmps65
      go_wp2_with fail
      go_ret
      exact ⟨rfl, rfl⟩
  · rcases hl with rfl | rfl | rfl | rfl | rfl | rfl | rfl | rfl
    all_goals
      go_enter Tryd.func65, Tryd.ntmps65
      go_wp2_with fail
      go_ret
      exact ⟨rfl, rfl⟩
  · have HF := hide (show mayF last 4 = inB last 2 4 from rfl)
    clear hl
    go_enter Tryd.func65, Tryd.ntmps65
    go_wp2_with (go_at_call 37; refine (in_any _ _ _ _).mono ?_; rintro e w' ⟨rfl, rfl⟩)
    go_ret
    exact ⟨by rw [HF.out]; rfl, rfl⟩
  · have HF := hide (show mayF last 5 = inB last 2 4 from rfl)
    clear hl
    go_enter Tryd.func65, Tryd.ntmps65
    go_wp2_with (go_at_call 37; refine (in_any _ _ _ _).mono ?_; rintro e w' ⟨rfl, rfl⟩)
    go_ret
    exact ⟨by rw [HF.out]; rfl, rfl⟩
  · rcases hl with rfl | rfl | rfl | rfl | rfl | rfl | rfl | rfl
    all_goals
      go_enter Tryd.func65, Tryd.ntmps65
      go_wp2_with fail
      go_ret
      exact ⟨rfl, rfl⟩
set_option maxRecDepth 20000 in
set_option maxHeartbeats 4000000 in
theorem readOrder_any (s : ByteArray) (w : World) (hs : s.size ≤ 1048576) (htab : Lib.TabIs Tryd.prog w "internal/strconv.uint64pow10" .u64 Lib.pow10Tab) (hrng : ∃ tp p, w.var? Tryd.prog "strconv.ErrRange" = some #[.iface tp p]) (hsyn : ∃ tp p, w.var? Tryd.prog "strconv.ErrSyntax" = some #[.iface tp p]) :
    Calls Tryd.prog 28 #[.string s] w fun e w' => (∃ v1 v2 v3, e = .returned (.tuple #[rqV (readS s).1 v1 v2 v3, .int .i64 (readS s).2]) ∧ RqOwn w' w.heap.size (readS s).1 v1 v2 v3 ∧ rqLen (readS s).1 ≤ 60) ∧ Below w.heap.size w w' := by
  obtain ⟨tr, pr, hr⟩ := hrng
  obtain ⟨ts, ps, hsy⟩ := hsyn
  have HT := hide htab
  have HRG := hide hr
  have HSY := hide hsy
  clear htab hr hsy
  obtain ⟨P, hP⟩ : ∃ P, partsL s 10 = P := ⟨_, rfl⟩
  have hPl := partsL_len s 10
  have hPz := partsSz s 10
  have hP0 := partsL_ne s 10
  rw [hP] at hPl hPz hP0
  obtain ⟨n, hn⟩ : ∃ n, P.length = n + 1 := ⟨P.length - 1, by omega⟩
  have HZ : Hid (readS s = if 60 < n then (rq0, 60) else goA (lnT P) (lnL P) 0 rq0 (-1)) := hide (by unfold readS readL; rw [hP, hn]; rfl)
  have HPZ := hide (fun x hx => Nat.le_trans (hPz x hx) hs)
  have HPA := hide (fun W => parts_any s 10 W hs)
  simp only [hP] at HPA
  have HN := hide hn
  have hn1 : n ≤ 1048577 := by omega
  clear hP hPl hPz hP0 hn
  go_enter Tryd.func28, Tryd.ntmps28
  go_wp2_with fail
  refine (HPA.out _).mono ?_
  rintro e w1 ⟨pv, rfl, ho1, hb1⟩
  have P0 := hide (Blk.belowH (Blk.new w 41 #[.int .i64 0, .int .i64 0, .int .i64 0, .int .i64 0, .int .i64 0, .int .i64 0, .slice none 0 0, .slice none 0 0, .int .i64 0, .slice none 0 0] (g := w.heap.size) rfl) hb1)
  have L1 := hide (show Below w.heap.size w w1 from (by repeat (first | with_reducible exact Below.refl _ _ | with_reducible assumption | with_reducible refine Below.setCell ?_ (by (try simp) <;> omega) _ | with_reducible refine Below.alloc ?_ (by (try simp) <;> omega) _ | with_reducible refine Below.drew ?_ | with_reducible refine below_drewN ?_ _ | with_reducible exact hb1 | with_reducible refine Below.trans ?_ (Below.mono hb1 (by (try simp) <;> omega)))))
  have zz1 := hb1.size
  simp only [World.size_alloc] at zz1
  have z1 := L1.out.size
  obtain ⟨Aw, cw, rfl, sw⟩ := Own.slk' encStr_len HN.out ho1
  have HSW := hide sw
  have w1c := sw.cap
  have w1m := sw.max
  obtain ⟨b0, off, _, _, rfl, _, hb0, _, _⟩ := sw.str (i := 0) (by omega)
  have k0 := P0.out.cell
  have f0 := P0.out.frozen
  have y0 := P0.out.lt
  clear ho1 hb1 sw
  by_cases hbig : 60 < n
  · have HE := hide (show readS s = (rq0, 60) by rw [HZ.out, if_pos hbig])
    have hg : (60 : Int) < (n : Int) := by omega
    go_wp2_with fail
    have PF := set10 P0.out rfl (.int .i64 0) (.int .i64 0) (.int .i64 0) (.int .i64 0) (.int .i64 0) (.int .i64 0) (nilV) (nilV) (.int .i64 0) (nilV)
    refine ret_cell2 Tryd.results28 rfl PF Tryd.underlying41 rfl (by kernel_rfl) rfl ⟨⟨nilV, nilV, nilV, ?_, by rw [HE.out]; exact RqOwn.nil_ _ _ rq0 rfl rfl rfl, by rw [HE.out]; exact Nat.zero_le _⟩, L1.out.grown (grown10 w1 w.heap.size (.int .i64 0) (.int .i64 0) (.int .i64 0) (.int .i64 0) (.int .i64 0) (.int .i64 0) (nilV) (nilV) (.int .i64 0) (nilV)) (by omega) (fun z hz => by have := Option.some.inj hz; omega)⟩
    rw [HE.out]
    rfl
  have HZ2 := hide (show readS s = goA (lnT P) (lnL P) 0 rq0 (-1) by rw [HZ.out, if_neg hbig])
  have hg : ¬ (60 : Int) < (n : Int) := by omega
  have hn60 : n ≤ 60 := by omega
  have HT1 := hide (tab_stays gPow HT.out L1.out (Nat.le_refl _))
  have HR1 := hide (var_stays gRng HRG.out L1.out (Nat.le_refl _))
  have HS1 := hide (var_stays gSyn HSY.out L1.out (Nat.le_refl _))
  have hsl1 : (n : Int) ≤ (n : Int) + 1 := by omega
  have hsl0 : (0 : Int) ≤ (n : Int) := by omega
  have hncw : (n : Int) ≤ (cw : Int) := by omega
  clear hbig
  go_wp2_with fail
  have HST0 : Hid (RdSt w1 (w1.alloc (.cells #[.int .i64 0, .int .i64 0, .int .i64 0, .int .i64 0, .int .i64 0, .int .i64 0, .slice none 0 0, .slice none 0 0, .int .i64 0, .slice none 0 0] 41)) rq0 nilV nilV nilV) := hide ⟨Blk.new _ _ _ rfl, RqOwn.nil_ _ _ rq0 rfl rfl rfl, (by repeat (first | with_reducible exact Below.refl _ _ | with_reducible assumption | with_reducible refine Below.setCell ?_ (by (try simp) <;> omega) _ | with_reducible refine Below.alloc ?_ (by (try simp) <;> omega) _ | with_reducible refine Below.drew ?_ | with_reducible refine below_drewN ?_ _))⟩
  go_loopw [7, 24] (fun l i wr => ∃ (k : Nat) (r : Rq) (last : Int) (v1 v2 v3 : Value), k ≤ n ∧ i = .int .i64 k ∧ l = .int .i64 last ∧ RdSt w1 wr r v1 v2 v3 ∧ rqLen r ≤ k ∧ (-1 ≤ last ∧ last ≤ 6) ∧ Hid (goA (lnT P) ((lnL P).drop k) k r last = readS s)) (fun _ i _ => n - (intOf i).toNat)
  case atStart => exact ⟨0, rq0, -1, nilV, nilV, nilV, Nat.zero_le _, rfl, rfl, HST0.out, Nat.zero_le _, by omega, hide (by rw [HZ2.out]; rfl)⟩
  case round =>
    obtain ⟨k, r, last, v1, v2, v3, hk, rfl, rfl, hst, hrl, hlr, HG⟩ := hrel
    have HST := hide hst
    have y1 := hst.below.size
    have PB := hide (P0.out.below hst.below y0)
    have k0' := PB.out.cell
    have f0' := PB.out.frozen
    have y0' := PB.out.lt
    clear hst k0 f0
    by_cases hlt : k < n
    · obtain ⟨b1, off1, l, hl, e1, _, hb1, c0, _⟩ := (HSW.out.below HST.out.below (Nat.le_refl _)).str (i := k) (by omega)
      injection e1 with e1
      injection e1 with e1 e2
      subst e1 e2
      have HLZ := hide (HPZ.out l (List.mem_of_getElem? hl))
      have j0 : (0 : Int) ≤ (k : Int) := by omega
      have j1 : (k : Int) < (n : Int) := by omega
      have HPL := hide (putLine_any l r v1 v2 v3 w1 wr HST.out HLZ.out (by unfold rqLen at hrl; omega) HT1.out ⟨_, _, HR1.out⟩ ⟨_, _, HS1.out⟩)
      have HYES := hide (fun h => goA_yes (T := lnT P) (r := r) (last := last) HN.out hlt hl h)
      have HNO := hide (fun h => goA_no (T := lnT P) (r := r) (last := last) HN.out hlt hl h)
      have hrg := putL_rng r l
      have hln := putL_len r l
      obtain ⟨⟨r', kd⟩, hp⟩ : ∃ q, putL r l = q := ⟨_, rfl⟩
      rw [hp] at HPL HYES HNO hrg hln
      dsimp only at HPL HYES HNO hrg hln
      clear hl hp
      go_wp2_with fail
      refine HPL.out.mono ?_
      rintro e w4 ⟨u1, u2, u3, rfl, hst4, z4⟩
      have HST4 := hide hst4
      have PB4 := hide (P0.out.below hst4.below y0)
      have k4 := PB4.out.cell
      have f4 := PB4.out.frozen
      have y4 := PB4.out.lt
      clear hst4 k0' f0' y0' c0
      go_wp2_with fail
      refine (mayFollow_any last kd _ hrg hlr).mono ?_
      rintro e w' ⟨rfl, rfl⟩
      cases hm : mayF last kd
      · have HE := hide (show readS s = (rq0, (k : Int)) by rw [← HG.out, HNO.out hm])
        go_wp2_with fail
        have PF := set10 PB4.out rfl (.int .i64 0) (.int .i64 0) (.int .i64 0) (.int .i64 0) (.int .i64 0) (.int .i64 0) (nilV) (nilV) (.int .i64 0) (nilV)
        refine ret_cell2 Tryd.results28 rfl PF Tryd.underlying41 rfl (by kernel_rfl) rfl ⟨⟨nilV, nilV, nilV, ?_, by rw [HE.out]; exact RqOwn.nil_ _ _ rq0 rfl rfl rfl, by rw [HE.out]; exact Nat.zero_le _⟩, (L1.out.trans (HST4.out.below.mono z1)).grown (grown10 w4 w.heap.size (.int .i64 0) (.int .i64 0) (.int .i64 0) (.int .i64 0) (.int .i64 0) (.int .i64 0) (nilV) (nilV) (.int .i64 0) (nilV)) (by have := HST4.out.below.size; omega) (fun z hz => by have := Option.some.inj hz; omega)⟩
        rw [HE.out]
        rfl
      · have HG2 := hide (show goA (lnT P) ((lnL P).drop (k + 1)) (k + 1) r' kd = readS s by rw [← HG.out, HYES.out hm])
        go_wp2_with fail
        go_roundw
        case rel => exact ⟨k + 1, r', kd, u1, u2, u3, by omega, by go_num, rfl, HST4.out, by omega, hrg, HG2⟩
        case measure => first | omega | (simp [intOf]; done) | (simp [intOf]; omega)
    · obtain rfl : n = k := by omega
      obtain ⟨b1, off1, l, hl, e1, _, hb1, c0, _⟩ := (HSW.out.below HST.out.below (Nat.le_refl _)).str (i := n) (by omega)
      injection e1 with e1
      injection e1 with e1 e2
      subst e1 e2
      have HLT := hide (lnT_at HN.out hl)
      have j0 : (0 : Int) ≤ (n : Int) := by omega
      have j1 : (n : Int) < (n : Int) + 1 := by omega
      have kP := HST.out.rq.cell
      have yP := HST.out.rq.lt
      unfold rdCells at kP
      clear hl hlt
      by_cases h5 : last < 5
      · have HE := hide (show readS s = (rq0, (n : Int)) by rw [← HG.out, goA_bad HN.out (.inl h5)])
        have d5 : decide (last < 5) = true := decide_eq_true h5
        go_wp2_with fail
        have PF := set10 PB.out rfl (.int .i64 0) (.int .i64 0) (.int .i64 0) (.int .i64 0) (.int .i64 0) (.int .i64 0) (nilV) (nilV) (.int .i64 0) (nilV)
        refine ret_cell2 Tryd.results28 rfl PF Tryd.underlying41 rfl (by kernel_rfl) rfl ⟨⟨nilV, nilV, nilV, ?_, by rw [HE.out]; exact RqOwn.nil_ _ _ rq0 rfl rfl rfl, by rw [HE.out]; exact Nat.zero_le _⟩, (L1.out.trans (HST.out.below.mono z1)).grown (grown10 wr w.heap.size (.int .i64 0) (.int .i64 0) (.int .i64 0) (.int .i64 0) (.int .i64 0) (.int .i64 0) (nilV) (nilV) (.int .i64 0) (nilV)) (by have := HST.out.below.size; omega) (fun z hz => by have := Option.some.inj hz; omega)⟩
        rw [HE.out]
        rfl
      · have d5 : decide (last < 5) = false := decide_eq_false h5
        by_cases hT : l = (ByteArray.mk #[])
        · subst hT
          have HE := hide (show readS s = (r, -1) by rw [← HG.out, goA_good HN.out h5 HLT.out])
          obtain ⟨A1, c1, A2, c2, A3, c3, rfl, rfl, rfl, _⟩ := HST.out.own.rqAt
          clear h5
          go_wp2_with fail
          have PF := set10 PB.out rfl (.int .i64 r.way) (.int .i64 r.pal.w) (.int .i64 r.pal.d) (.int .i64 r.pal.h) (.int .i64 r.pal.gram) (.int .i64 r.cls) (.slice A1 r.pairs.length c1) (.slice A2 r.types.length c2) (.int .i64 r.master) (.slice A3 r.items.length c3)
          refine ret_cell2 Tryd.results28 rfl PF Tryd.underlying41 rfl (by kernel_rfl) rfl ⟨⟨_, _, _, ?_, by rw [HE.out]; exact rqOwn_le (HST.out.own.away (grown10 wr w.heap.size (.int .i64 r.way) (.int .i64 r.pal.w) (.int .i64 r.pal.d) (.int .i64 r.pal.h) (.int .i64 r.pal.gram) (.int .i64 r.cls) (.slice A1 r.pairs.length c1) (.slice A2 r.types.length c2) (.int .i64 r.master) (.slice A3 r.items.length c3)) (by omega)) (by omega), by rw [HE.out]; exact Nat.le_trans hrl hn60⟩, (L1.out.trans (HST.out.below.mono z1)).grown (grown10 wr w.heap.size (.int .i64 r.way) (.int .i64 r.pal.w) (.int .i64 r.pal.d) (.int .i64 r.pal.h) (.int .i64 r.pal.gram) (.int .i64 r.cls) (.slice A1 r.pairs.length c1) (.slice A2 r.types.length c2) (.int .i64 r.master) (.slice A3 r.items.length c3)) (by omega) (fun z hz => by have := Option.some.inj hz; omega)⟩
          rw [HE.out]
          rfl
        · have HE := hide (show readS s = (rq0, (n : Int)) by rw [← HG.out, goA_bad HN.out (.inr (by rw [HLT.out]; exact hT))])
          have hnil : (l.toList == []) = false := litne hT
          clear h5 hT
          go_wp2_with fail
          have PF := set10 PB.out rfl (.int .i64 0) (.int .i64 0) (.int .i64 0) (.int .i64 0) (.int .i64 0) (.int .i64 0) (nilV) (nilV) (.int .i64 0) (nilV)
          refine ret_cell2 Tryd.results28 rfl PF Tryd.underlying41 rfl (by kernel_rfl) rfl ⟨⟨nilV, nilV, nilV, ?_, by rw [HE.out]; exact RqOwn.nil_ _ _ rq0 rfl rfl rfl, by rw [HE.out]; exact Nat.zero_le _⟩, (L1.out.trans (HST.out.below.mono z1)).grown (grown10 wr w.heap.size (.int .i64 0) (.int .i64 0) (.int .i64 0) (.int .i64 0) (.int .i64 0) (.int .i64 0) (nilV) (nilV) (.int .i64 0) (nilV)) (by have := HST.out.below.size; omega) (fun z hz => by have := Option.some.inj hz; omega)⟩
          rw [HE.out]
          rfl
end Go.Proofs.YtcjcmdikopipjaaDoor
