/- namesOk, the program's and the reference's (l5Names). -/
import Derived.Test.YtcjcmdikopipjaaC2
import Derived.Test.YtcjcmdikopipjaaC4
import Derived.Test.YtcjcmdikopipjaaApp
namespace Go.Proofs.Ytcjcmdikopipjaa
open Go.ChangeShapes Go.WideShapes Go.ChangeAt Go.RowKit Go.Deep
set_option linter.unusedVariables false
set_option linter.unusedSimpArgs false

theorem Blk.as {w : World} {g : Nat} {t : TypeId} {cs cs' : Array Value} (h : Blk w g t cs) (e : cs = cs') : Blk w g t cs' := e ▸ h
/-- Type i has the number of one ahead of it. -/
def tyDupAt (ts : List Ty) (i : Nat) : Bool := match ts[i]? with | some t => (ts.take i).any (fun q => q.id == t.id) | none => false
/-- Item i is of a kind that there is not, or has the number of one ahead of it. -/
def itBadAt (cls : Int) (xs : List It) (i : Nat) : Bool := match xs[i]? with | some x => decide (cls ≤ x.cls) || (xs.take i).any (fun q => q.id == x.id) | none => false
def prBig (cls : Int) (p : Pr) : Bool := decide (cls ≤ p.a) || decide (cls ≤ p.b)
def tysB (r : Rq) : Bool := (List.range r.types.length).all (fun i => !tyDupAt r.types i)
def itsB (r : Rq) : Bool := (List.range r.items.length).all (fun i => !itBadAt r.cls r.items i)
def prsBig (r : Rq) : Bool := r.pairs.any (prBig r.cls)
/-- The names are right. -/
def namesB (r : Rq) : Bool := tysB r && itsB r && (findTy r.types r.master).isSome && !prsBig r
theorem tyDupAt_of {ts : List Ty} {i : Nat} {t : Ty} (h : ts[i]? = some t) : tyDupAt ts i = (ts.take i).any (fun q => q.id == t.id) := by unfold tyDupAt; rw [h]
theorem itBadAt_of {cls : Int} {xs : List It} {i : Nat} {x : It} (h : xs[i]? = some x) : itBadAt cls xs i = (decide (cls ≤ x.cls) || (xs.take i).any (fun q => q.id == x.id)) := by unfold itBadAt; rw [h]
theorem namesB_ty {r : Rq} {i : Nat} (hi : i < r.types.length) (h : tyDupAt r.types i = true) : namesB r = false := by
  have : tysB r = false := all_range_not hi (by simp [h])
  simp [namesB, this]
theorem namesB_it {r : Rq} {i : Nat} (hi : i < r.items.length) (h : itBadAt r.cls r.items i = true) : namesB r = false := by
  have : itsB r = false := all_range_not hi (by simp [h])
  simp [namesB, this]
theorem namesB_pr {r : Rq} (h : prsBig r = true) : namesB r = false := by simp [namesB, h]
theorem namesB_ms {r : Rq} (h : (findTy r.types r.master).isSome = false) : namesB r = false := by simp [namesB, h]
theorem namesB_yes {r : Rq} (h1 : ∀ i, i < r.types.length → tyDupAt r.types i = false) (h2 : ∀ i, i < r.items.length → itBadAt r.cls r.items i = false) : namesB r = ((findTy r.types r.master).isSome && !prsBig r) := by
  have e1 : tysB r = true := all_range_of fun i hi => by simp [h1 i hi]
  have e2 : itsB r = true := all_range_of fun i hi => by simp [h2 i hi]
  simp [namesB, e1, e2]
theorem predNamTy (id : Int) (B : Nat) (w : World) (hB : B < w.heap.size) (hcell : w.cell? ⟨B, 0, none⟩ = some (.int .i64 id)) :
    PredB Try.prog 104 #[.pointer (some ⟨B, 0, none⟩)] valType (fun t => t.id == id) w := fun W x hb => by
  have hc : W.cell? ⟨B, 0, none⟩ = some (.int .i64 id) := (hb.cell (p := ⟨B, 0, none⟩) hB).trans hcell
  have hBW : B < W.heap.size := Nat.lt_of_lt_of_le hB hb.size
  have hne : B ≠ W.heap.size := by omega
  show Calls Try.prog 104 #[.agg #[.int .i64 x.id, .int .i64 x.w, .int .i64 x.h, .int .i64 x.d, .int .i64 x.tare, .int .i64 x.gram, .int .i64 x.cost], .pointer (some ⟨B, 0, none⟩)] W _
  go_enter Try.func104, Try.ntmps104
  go_wp2
  go_ret
  exact ⟨rfl, (Below.refl _ _).alloc (Nat.le_refl _) _⟩
theorem predNamIt (id : Int) (B : Nat) (w : World) (hB : B < w.heap.size) (hcell : w.cell? ⟨B, 0, none⟩ = some (.int .i64 id)) :
    PredB Try.prog 105 #[.pointer (some ⟨B, 0, none⟩)] valItem (fun t => t.id == id) w := fun W x hb => by
  have hc : W.cell? ⟨B, 0, none⟩ = some (.int .i64 id) := (hb.cell (p := ⟨B, 0, none⟩) hB).trans hcell
  have hBW : B < W.heap.size := Nat.lt_of_lt_of_le hB hb.size
  have hne : B ≠ W.heap.size := by omega
  show Calls Try.prog 105 #[.agg #[.int .i64 x.id, .int .i64 x.w, .int .i64 x.h, .int .i64 x.d, .int .i64 x.gram, .int .i64 x.cls, .int .i64 x.cnt], .pointer (some ⟨B, 0, none⟩)] W _
  go_enter Try.func105, Try.ntmps105
  go_wp2
  go_ret
  exact ⟨rfl, (Below.refl _ _).alloc (Nat.le_refl _) _⟩
theorem predNamPr (cls : Int) (B : Nat) (w : World) (hB : B < w.heap.size) (hcell : w.cell? ⟨B, 5, none⟩ = some (.int .i64 cls)) :
    PredB Try.prog 106 #[.pointer (some ⟨B, 0, none⟩)] valPair (prBig cls) w := fun W x hb => by
  have hc : W.cell? ⟨B, 5, none⟩ = some (.int .i64 cls) := (hb.cell (p := ⟨B, 5, none⟩) hB).trans hcell
  have hBW : B < W.heap.size := Nat.lt_of_lt_of_le hB hb.size
  have hne : B ≠ W.heap.size := by omega
  show Calls Try.prog 106 #[.agg #[.int .i64 x.a, .int .i64 x.b], .pointer (some ⟨B, 0, none⟩)] W _
  by_cases h1 : cls ≤ x.a
  · go_enter Try.func106, Try.ntmps106
    go_wp2
    go_ret
    exact ⟨ret_bool (by simp [prBig, h1]), (Below.refl _ _).alloc (Nat.le_refl _) _⟩
  · have h2 : x.a < cls := by omega
    go_enter Try.func106, Try.ntmps106
    go_wp2
    go_ret
    exact ⟨ret_bool (by simp [prBig, h1]; omega), (Below.refl _ _).alloc (Nat.le_refl _) _⟩
set_option maxRecDepth 20000 in
set_option maxHeartbeats 4000000 in
theorem namesOk_any (r : Rq) (A1 A2 A3 : Option Addr) (n1 n2 n3 c1 c2 c3 : Nat) (lo hi : Nat) (w : World) (hr : RqAt w lo hi r A1 n1 c1 A2 n2 c2 A3 n3 c3) (hB : hi ≤ w.heap.size) :
    Calls Try.prog 88 #[.agg #[.int .i64 r.way, .int .i64 r.pal.w, .int .i64 r.pal.d, .int .i64 r.pal.h, .int .i64 r.pal.gram, .int .i64 r.cls, .slice A1 n1 c1, .slice A2 n2 c2, .int .i64 r.master, .slice A3 n3 c3]] w fun e w' => e = .returned (.bool (namesB r)) ∧ Below w.heap.size w w' := by
  have hm1 := hr.pr.max
  have hm2 := hr.ty.max
  have hm3 := hr.it.max
  have hc1 := hr.pr.cap
  have hc2 := hr.ty.cap
  have hc3 := hr.it.cap
  have HL1 := hide hr.pr.len
  have HL2 := hide hr.ty.len
  have HL3 := hide hr.it.len
  have HR := hide hr
  clear hr
  have e1 : ∀ args w, (callFunc 104 args).run Try.prog w = .ok (.enter 104 args) w := enters_of Try.func104 (by kernel_rfl) rfl
  have e2 : ∀ args w, (callFunc 105 args).run Try.prog w = .ok (.enter 105 args) w := enters_of Try.func105 (by kernel_rfl) rfl
  have e3 : ∀ args w, (callFunc 106 args).run Try.prog w = .ok (.enter 106 args) w := enters_of Try.func106 (by kernel_rfl) rfl
  have HC1 := hide (fun (p : Ty → Bool) lb A n c xs W hp h h' => containsFuncType p 104 lb e1 lo hi A n c xs W hp h h')
  have HC2 := hide (fun (p : It → Bool) lb A n c xs W hp h h' => containsFuncItem p 105 lb e2 lo hi A n c xs W hp h h')
  have HC3 := hide (fun (p : Pr → Bool) lb A n c xs W hp h h' => containsFuncPair p 106 lb e3 lo hi A n c xs W hp h h')
  clear e1 e2 e3
  go_enter Try.func88, Try.ntmps88
  go_wp2
  go_loopw [12] (fun i wr => ∃ k : Nat, k ≤ n2 ∧ i = .int .i64 k ∧ Blk wr w.heap.size 50 #[.int .i64 r.way, .int .i64 r.pal.w, .int .i64 r.pal.d, .int .i64 r.pal.h, .int .i64 r.pal.gram, .int .i64 r.cls, .slice A1 n1 c1, .slice A2 n2 c2, .int .i64 r.master, .slice A3 n3 c3] ∧ Below w.heap.size w wr ∧ ∀ j, j < k → tyDupAt r.types j = false) (fun i _ => n2 - (intOf i).toNat)
  case atStart => exact ⟨0, Nat.zero_le _, rfl, Blk.new w _ _ rfl, (by repeat (first | with_reducible exact Below.refl _ _ | with_reducible assumption | with_reducible refine Below.setCell ?_ (by (try simp) <;> omega) _ | with_reducible refine Below.alloc ?_ (by (try simp) <;> omega) _ | with_reducible refine Below.drew ?_ | with_reducible refine below_drewN ?_ _)), fun j h => absurd h (by omega)⟩
  case round =>
    obtain ⟨k, hk, rfl, B0, hbel, hA⟩ := hrel
    have HA := hide hA
    have kR := B0.cell
    have yR := B0.lt
    have PR := hide B0
    have hz := hbel.size
    clear hA B0
    by_cases hlt : k < n2
    · obtain ⟨b0, off, x, hx, q, _, hb, d0, d1, d2, d3, d4, d5, d6, _⟩ := (HR.out.ty.below hbel hB).ty hlt
      subst q
      have HX := hide hx
      have i0 : (0 : Int) ≤ (k : Int) := by omega
      have i1 : (k : Int) < (n2 : Int) := by omega
      have i2 : (k : Int) ≤ (c2 : Int) := by omega
      clear hx
      go_wp2_with fail
      refine (HC1.out (fun q => q.id == x.id) _ _ k c2 (r.types.take k) _ (predNamTy x.id wr.heap.size _ (by simp) (by simp [go_sem])) (((HR.out.ty.below hbel hB).take_ hk).alloc (by omega) _) (by simp; omega)).mono ?_
      rw [← tyDupAt_of HX.out]
      cases hd : tyDupAt r.types k with
      | true =>
        rintro e w1 ⟨rfl, hb1⟩
        have HF := hide (namesB_ty (r := r) (i := k) (by rw [HL2.out]; exact hlt) hd)
        go_wp2
        go_ret
        exact ⟨ret_bool HF.out.symm, (by repeat (first | with_reducible exact Below.refl _ _ | with_reducible assumption | with_reducible refine Below.setCell ?_ (by (try simp) <;> omega) _ | with_reducible refine Below.alloc ?_ (by (try simp) <;> omega) _ | with_reducible refine Below.drew ?_ | with_reducible refine below_drewN ?_ _ | with_reducible exact hbel | with_reducible exact hb1 | with_reducible refine Below.trans ?_ (Below.mono hbel (by (try simp) <;> omega)) | with_reducible refine Below.trans ?_ (Below.mono hb1 (by (try simp) <;> omega))))⟩
      | false =>
        rintro e w1 ⟨rfl, hb1⟩
        have P1 := hide (Blk.belowH (PR.out.alloc _) hb1)
        have L1 := hide (show Below w.heap.size w w1 from (by repeat (first | with_reducible exact Below.refl _ _ | with_reducible assumption | with_reducible refine Below.setCell ?_ (by (try simp) <;> omega) _ | with_reducible refine Below.alloc ?_ (by (try simp) <;> omega) _ | with_reducible refine Below.drew ?_ | with_reducible refine below_drewN ?_ _ | with_reducible exact hbel | with_reducible exact hb1 | with_reducible refine Below.trans ?_ (Below.mono hbel (by (try simp) <;> omega)) | with_reducible refine Below.trans ?_ (Below.mono hb1 (by (try simp) <;> omega)))))
        clear hb1
        go_wp2
        go_roundw
        case rel =>
          refine ⟨k + 1, by omega, by go_num, P1.out, L1.out, fun j hj => ?_⟩
          by_cases e : j = k
          · rw [e]; exact hd
          · exact HA.out j (by omega)
        case measure => simp [intOf]; omega
    · have hge : k = n2 := by omega
      have hge2 : n2 ≤ k := by omega
      have hjd : decide (k < n2) = false := by simp; omega
      have HA1 := hide (show ∀ i, i < r.types.length → tyDupAt r.types i = false from fun i hi => HA.out i (by rw [HL2.out] at hi; omega))
      clear hlt hge HA
      go_wp2
      obtain ⟨wo, hwo⟩ : ∃ wo : World, wo = wr := ⟨_, rfl⟩
      subst hwo
      go_loopw [27] (fun i wr => ∃ k : Nat, k ≤ n3 ∧ i = .int .i64 k ∧ Blk wr w.heap.size 50 #[.int .i64 r.way, .int .i64 r.pal.w, .int .i64 r.pal.d, .int .i64 r.pal.h, .int .i64 r.pal.gram, .int .i64 r.cls, .slice A1 n1 c1, .slice A2 n2 c2, .int .i64 r.master, .slice A3 n3 c3] ∧ Below w.heap.size w wr ∧ ∀ j, j < k → itBadAt r.cls r.items j = false) (fun i _ => n3 - (intOf i).toNat)
      case atStart => exact ⟨0, Nat.zero_le _, rfl, PR.out, hbel, fun j h => absurd h (by omega)⟩
      case round =>
        obtain ⟨m, hm, rfl, B0, hbel2, hA⟩ := hrel
        have HA := hide hA
        clear kR yR
        have kR := B0.cell
        have yR := B0.lt
        have PR2 := hide B0
        have hz2 := hbel2.size
        clear hA B0
        by_cases hlt : m < n3
        · obtain ⟨b0, off, x, hx, q, _, hb, d0, d1, d2, d3, d4, d5, d6, _⟩ := (HR.out.it.below hbel2 hB).it hlt
          subst q
          have HX := hide hx
          have HBA := hide (itBadAt_of (cls := r.cls) hx)
          have i0 : (0 : Int) ≤ (m : Int) := by omega
          have i1 : (m : Int) < (n3 : Int) := by omega
          have i2 : (m : Int) ≤ (c3 : Int) := by omega
          clear hx
          by_cases hcl : r.cls ≤ x.cls
          · have HF := hide (namesB_it (r := r) (i := m) (by rw [HL3.out]; exact hlt) (by rw [HBA.out]; simp [hcl]))
            have hcd : decide (r.cls ≤ x.cls) = true := by simpa using hcl
            go_wp2
            go_ret
            exact ⟨ret_bool HF.out.symm, (by repeat (first | with_reducible exact Below.refl _ _ | with_reducible assumption | with_reducible refine Below.setCell ?_ (by (try simp) <;> omega) _ | with_reducible refine Below.alloc ?_ (by (try simp) <;> omega) _ | with_reducible refine Below.drew ?_ | with_reducible refine below_drewN ?_ _ | with_reducible exact hbel2 | with_reducible refine Below.trans ?_ (Below.mono hbel2 (by (try simp) <;> omega))))⟩
          · have hcd : decide (r.cls ≤ x.cls) = false := by simpa using hcl
            have HCD := hide hcd
            have hcl' : x.cls < r.cls := by omega
            clear hcl
            go_wp2_with fail
            refine (HC2.out (fun q => q.id == x.id) _ _ m c3 (r.items.take m) _ (predNamIt x.id wr.heap.size _ (by simp) (by simp [go_sem])) (((HR.out.it.below hbel2 hB).take_ hm).alloc (by omega) _) (by simp; omega)).mono ?_
            have HBB := hide (show itBadAt r.cls r.items m = (r.items.take m).any (fun q => q.id == x.id) by rw [HBA.out, HCD.out]; simp)
            rw [← HBB.out]
            cases hd : itBadAt r.cls r.items m with
            | true =>
              rintro e w1 ⟨rfl, hb1⟩
              have HF := hide (namesB_it (r := r) (i := m) (by rw [HL3.out]; exact hlt) hd)
              go_wp2
              go_ret
              exact ⟨ret_bool HF.out.symm, (by repeat (first | with_reducible exact Below.refl _ _ | with_reducible assumption | with_reducible refine Below.setCell ?_ (by (try simp) <;> omega) _ | with_reducible refine Below.alloc ?_ (by (try simp) <;> omega) _ | with_reducible refine Below.drew ?_ | with_reducible refine below_drewN ?_ _ | with_reducible exact hbel2 | with_reducible exact hb1 | with_reducible refine Below.trans ?_ (Below.mono hbel2 (by (try simp) <;> omega)) | with_reducible refine Below.trans ?_ (Below.mono hb1 (by (try simp) <;> omega))))⟩
            | false =>
              rintro e w1 ⟨rfl, hb1⟩
              have P1 := hide (Blk.belowH (PR2.out.alloc _) hb1)
              have L1 := hide (show Below w.heap.size w w1 from (by repeat (first | with_reducible exact Below.refl _ _ | with_reducible assumption | with_reducible refine Below.setCell ?_ (by (try simp) <;> omega) _ | with_reducible refine Below.alloc ?_ (by (try simp) <;> omega) _ | with_reducible refine Below.drew ?_ | with_reducible refine below_drewN ?_ _ | with_reducible exact hbel2 | with_reducible exact hb1 | with_reducible refine Below.trans ?_ (Below.mono hbel2 (by (try simp) <;> omega)) | with_reducible refine Below.trans ?_ (Below.mono hb1 (by (try simp) <;> omega)))))
              clear hb1
              go_wp2
              go_roundw
              case rel =>
                refine ⟨m + 1, by omega, by go_num, P1.out, L1.out, fun j hj => ?_⟩
                by_cases e : j = m
                · rw [e]; exact hd
                · exact HA.out j (by omega)
              case measure => simp [intOf]; omega
        · have hge : m = n3 := by omega
          have hge2 : n3 ≤ m := by omega
          have hjd2 : decide (m < n3) = false := by simp; omega
          have HA2 := hide (show ∀ i, i < r.items.length → itBadAt r.cls r.items i = false from fun i hi => HA.out i (by rw [HL3.out] at hi; omega))
          have HY := hide (namesB_yes HA1.out HA2.out)
          clear hlt hge HA
          go_wp2_with fail
          refine (master_any r A1 A2 A3 n1 n2 n3 c1 c2 c3 lo hi _ (HR.out.below hbel2 hB) (by omega)).mono ?_
          generalize tyD (findTy r.types r.master) = T
          cases hbo : (findTy r.types r.master).isSome with
          | false =>
            rintro e w1 ⟨rfl, hb1⟩
            have HF := hide (namesB_ms hbo)
            have zz : w.heap.size ≤ w1.heap.size := by have := hb1.size; omega
            go_wp2
            go_ret
            exact ⟨ret_bool HF.out.symm, (by repeat (first | with_reducible exact Below.refl _ _ | with_reducible assumption | with_reducible refine Below.setCell ?_ (by (try simp) <;> omega) _ | with_reducible refine Below.alloc ?_ (by (try simp) <;> omega) _ | with_reducible refine Below.drew ?_ | with_reducible refine below_drewN ?_ _ | with_reducible exact hbel2 | with_reducible exact hb1 | with_reducible refine Below.trans ?_ (Below.mono hbel2 (by (try simp) <;> omega)) | with_reducible refine Below.trans ?_ (Below.mono hb1 (by (try simp) <;> omega))))⟩
          | true =>
            rintro e w1 ⟨rfl, hb1⟩
            have P1 := hide (Blk.belowH PR2.out hb1)
            have L1 := hide (show Below w.heap.size w w1 from (by repeat (first | with_reducible exact Below.refl _ _ | with_reducible assumption | with_reducible refine Below.setCell ?_ (by (try simp) <;> omega) _ | with_reducible refine Below.alloc ?_ (by (try simp) <;> omega) _ | with_reducible refine Below.drew ?_ | with_reducible refine below_drewN ?_ _ | with_reducible exact hbel2 | with_reducible exact hb1 | with_reducible refine Below.trans ?_ (Below.mono hbel2 (by (try simp) <;> omega)) | with_reducible refine Below.trans ?_ (Below.mono hb1 (by (try simp) <;> omega)))))
            have z1 := L1.out.size
            have HBO := hide hbo
            clear hb1 kR yR hbo
            have kR := P1.out.cell
            have yR := P1.out.lt
            go_wp2_with fail
            refine (HC3.out (prBig r.cls) _ _ n1 c1 r.pairs _ (predNamPr r.cls w.heap.size _ (by (try simp) <;> omega) ((P1.out.alloc _).cell 5)) ((HR.out.pr.below L1.out hB).alloc (by omega) _) (by (try simp) <;> omega)).mono ?_
            have HP := hide (show r.pairs.any (prBig r.cls) = prsBig r from rfl)
            rw [HP.out]
            cases hpb : prsBig r with
            | true =>
              rintro e w2 ⟨rfl, hb2⟩
              go_wp2
              go_ret
              exact ⟨ret_bool (by rw [HY.out, HBO.out, hpb]; rfl), (by repeat (first | with_reducible exact Below.refl _ _ | with_reducible assumption | with_reducible refine Below.setCell ?_ (by (try simp) <;> omega) _ | with_reducible refine Below.alloc ?_ (by (try simp) <;> omega) _ | with_reducible refine Below.drew ?_ | with_reducible refine below_drewN ?_ _ | with_reducible exact L1.out | with_reducible exact hb2 | with_reducible refine Below.trans ?_ (Below.mono L1.out (by (try simp) <;> omega)) | with_reducible refine Below.trans ?_ (Below.mono hb2 (by (try simp) <;> omega))))⟩
            | false =>
              rintro e w2 ⟨rfl, hb2⟩
              go_wp2
              go_ret
              exact ⟨ret_bool (by rw [HY.out, HBO.out, hpb]; rfl), (by repeat (first | with_reducible exact Below.refl _ _ | with_reducible assumption | with_reducible refine Below.setCell ?_ (by (try simp) <;> omega) _ | with_reducible refine Below.alloc ?_ (by (try simp) <;> omega) _ | with_reducible refine Below.drew ?_ | with_reducible refine below_drewN ?_ _ | with_reducible exact L1.out | with_reducible exact hb2 | with_reducible refine Below.trans ?_ (Below.mono L1.out (by (try simp) <;> omega)) | with_reducible refine Below.trans ?_ (Below.mono hb2 (by (try simp) <;> omega))))⟩
set_option maxRecDepth 20000 in
set_option maxHeartbeats 4000000 in
theorem snames_any (r : Rq) (A1 A2 A3 : Option Addr) (n1 n2 n3 c1 c2 c3 : Nat) (lo hi : Nat) (w : World) (hr : RqAt w lo hi r A1 n1 c1 A2 n2 c2 A3 n3 c3) (hB : hi ≤ w.heap.size) :
    Calls Try.prog 61 #[.agg #[.int .i64 r.way, .int .i64 r.pal.w, .int .i64 r.pal.d, .int .i64 r.pal.h, .int .i64 r.pal.gram, .int .i64 r.cls, .slice A1 n1 c1, .slice A2 n2 c2, .int .i64 r.master, .slice A3 n3 c3]] w fun e w' => e = .returned (.bool (namesB r)) ∧ Below w.heap.size w w' := by
  have hm1 := hr.pr.max
  have hm2 := hr.ty.max
  have hm3 := hr.it.max
  have hc1 := hr.pr.cap
  have hc2 := hr.ty.cap
  have hc3 := hr.it.cap
  have HL1 := hide hr.pr.len
  have HL2 := hide hr.ty.len
  have HL3 := hide hr.it.len
  have HR := hide hr
  obtain ⟨RL, hRL⟩ : ∃ RL : Array Value, RL = #[.int .i64 r.way, .int .i64 r.pal.w, .int .i64 r.pal.d, .int .i64 r.pal.h, .int .i64 r.pal.gram, .int .i64 r.cls, .slice A1 n1 c1, .slice A2 n2 c2, .int .i64 r.master, .slice A3 n3 c3] := ⟨_, rfl⟩
  have HRL := hide hRL
  clear hr hRL
  go_enter Try.func61, Try.ntmps61
  go_wp2
  go_loopw [3] (fun i wr => ∃ k : Nat, k ≤ n2 ∧ i = .int .i64 k ∧ Blk wr w.heap.size 50 RL ∧ Below w.heap.size w wr ∧ ∀ j, j < k → tyDupAt r.types j = false) (fun i _ => n2 - (intOf i).toNat)
  case atStart => exact ⟨0, Nat.zero_le _, rfl, (Blk.new w _ _ rfl).as HRL.out.symm, (by repeat (first | with_reducible exact Below.refl _ _ | with_reducible assumption | with_reducible refine Below.setCell ?_ (by (try simp) <;> omega) _ | with_reducible refine Below.alloc ?_ (by (try simp) <;> omega) _ | with_reducible refine Below.drew ?_ | with_reducible refine below_drewN ?_ _)), fun j h => absurd h (by omega)⟩
  case round =>
    obtain ⟨k, hk, rfl, B0, hbel, hA⟩ := hrel
    have HA := hide hA
    have kR := (B0.as HRL.out).cell
    have yR := B0.lt
    have PR := hide B0
    have HBel := hide hbel
    clear hA B0 hbel
    by_cases hlt : k < n2
    · obtain ⟨b0, off, x, hx, q, _, hb, _⟩ := (HR.out.ty.below HBel.out hB).ty hlt
      have HX := hide hx
      have i0 : (0 : Int) ≤ (k : Int) := by omega
      have i1 : (k : Int) < (n2 : Int) := by omega
      clear hx q
      go_wp2
      obtain ⟨wo, hwo⟩ : ∃ wo : World, wo = wr := ⟨_, rfl⟩
      subst hwo
      go_loopw [4] (fun i wr => ∃ j : Nat, j ≤ k ∧ i = .int .i64 j ∧ Blk wr w.heap.size 50 RL ∧ Below w.heap.size w wr ∧ ∀ y ∈ r.types.take j, (y.id == x.id) = false) (fun i _ => k - (intOf i).toNat)
      case atStart => exact ⟨0, Nat.zero_le _, rfl, PR.out, HBel.out, by simp⟩
      case round =>
        obtain ⟨j, hj, rfl, B0, hbel, hA2⟩ := hrel
        have HA2 := hide hA2
        clear kR
        have kR := (B0.as HRL.out).cell
        have PR2 := hide B0
        clear hA2 B0
        by_cases hlt2 : j < k
        · obtain ⟨b1, o1, x', hx', q, _, hb1, d0, d1, d2, d3, d4, d5, d6, _⟩ := (HR.out.ty.below hbel hB).ty hlt
          obtain rfl : x = x' := by have := HX.out; rw [this] at hx'; exact Option.some.inj hx'
          obtain ⟨b2, o2, y, hy, q2, _, hb2, g0, g1, g2, g3, g4, g5, g6, _⟩ := (HR.out.ty.below hbel hB).ty (show j < n2 by omega)
          subst q
          simp only [Option.some.injEq, Addr.mk.injEq, and_true] at q2
          obtain ⟨rfl, rfl⟩ := q2
          have HY := hide hy
          have j0 : (0 : Int) ≤ (j : Int) := by omega
          have j1 : (j : Int) < (n2 : Int) := by omega
          have j2 : (j : Int) < (k : Int) := by omega
          clear hx' hy
          cases hq : (x.id == y.id) with
          | true =>
            have HF := hide (namesB_ty (r := r) (i := k) (by rw [HL2.out]; exact hlt) (by rw [tyDupAt_of HX.out, List.any_eq_true]; exact ⟨y, List.mem_of_getElem? (by rw [List.getElem?_take, if_pos hlt2]; exact HY.out), by rw [Bool.beq_comm]; exact hq⟩))
            go_wp2_with fail
            go_quiet (fail)
            go_wp2
            go_ret
            exact ⟨ret_bool HF.out.symm, below_drewN hbel _⟩
          | false =>
            go_wp2_with fail
            go_quiet (fail)
            go_wp2
            go_roundw
            case rel =>
              refine ⟨j + 1, by omega, by go_num, PR2.out.drewN _, below_drewN hbel _, fun z hz => ?_⟩
              rcases mem_take_succ HY.out hz with h | h
              · exact HA2.out z h
              · rw [h, Bool.beq_comm]; exact hq
            case measure => simp [intOf]; omega
        · have hjk : j = k := by omega
          have hge2 : k ≤ j := by omega
          have hjd : decide (j < k) = false := by simp; omega
          have HD := hide (show tyDupAt r.types k = false by rw [tyDupAt_of HX.out, List.any_eq_false]; intro y hy; have := HA2.out y (by rw [hjk]; exact hy); simp [this])
          clear hlt2 hjk
          go_wp2
          go_roundw
          case rel =>
            refine ⟨k + 1, by omega, by go_num, PR2.out, hbel, fun i hi => ?_⟩
            by_cases e : i = k
            · rw [e]; exact HD.out
            · exact HA.out i (by omega)
          case measure => simp [intOf]; omega
    · have hge : k = n2 := by omega
      have hge2 : n2 ≤ k := by omega
      have hjd : decide (k < n2) = false := by simp; omega
      have HA1 := hide (show ∀ i, i < r.types.length → tyDupAt r.types i = false from fun i hi => HA.out i (by rw [HL2.out] at hi; omega))
      clear hlt hge HA
      go_wp2
      obtain ⟨wo, hwo⟩ : ∃ wo : World, wo = wr := ⟨_, rfl⟩
      subst hwo
      go_loopw [5] (fun i wr => ∃ k : Nat, k ≤ n3 ∧ i = .int .i64 k ∧ Blk wr w.heap.size 50 RL ∧ Below w.heap.size w wr ∧ ∀ j, j < k → itBadAt r.cls r.items j = false) (fun i _ => n3 - (intOf i).toNat)
      case atStart => exact ⟨0, Nat.zero_le _, rfl, PR.out, HBel.out, fun j h => absurd h (by omega)⟩
      case round =>
        obtain ⟨m, hm, rfl, B0, hbel2, hA⟩ := hrel
        have HA := hide hA
        clear kR yR
        have kR := (B0.as HRL.out).cell
        have yR := B0.lt
        have PR2 := hide B0
        have HBel2 := hide hbel2
        clear hA B0 hbel2
        by_cases hlt : m < n3
        · obtain ⟨b0, off, x, hx, q, _, hb, d0, d1, d2, d3, d4, d5, d6, _⟩ := (HR.out.it.below HBel2.out hB).it hlt
          subst q
          have HX := hide hx
          have HBA := hide (itBadAt_of (cls := r.cls) hx)
          have i0 : (0 : Int) ≤ (m : Int) := by omega
          have i1 : (m : Int) < (n3 : Int) := by omega
          clear hx
          by_cases hcl : r.cls ≤ x.cls
          · have HF := hide (namesB_it (r := r) (i := m) (by rw [HL3.out]; exact hlt) (by rw [HBA.out]; simp [hcl]))
            have hcd : decide (r.cls ≤ x.cls) = true := by simpa using hcl
            go_wp2_with fail
            go_quiet (fail)
            go_wp2
            go_ret
            exact ⟨ret_bool HF.out.symm, below_drewN HBel2.out _⟩
          · have hcd : decide (r.cls ≤ x.cls) = false := by simpa using hcl
            have HCD := hide hcd
            have hcl' : x.cls < r.cls := by omega
            clear hcl
            go_wp2_with fail
            go_quiet (fail)
            clear d0 d1 d2 d3 d4 d5 d6 hcd
            go_wp2
            obtain ⟨wo2, hwo2⟩ : ∃ wo : World, wo = wr := ⟨_, rfl⟩
            subst hwo2
            go_loopw [6] (fun i wr => ∃ j : Nat, j ≤ m ∧ i = .int .i64 j ∧ Blk wr w.heap.size 50 RL ∧ Below w.heap.size w wr ∧ ∀ y ∈ r.items.take j, (y.id == x.id) = false) (fun i _ => m - (intOf i).toNat)
            case atStart => exact ⟨0, Nat.zero_le _, rfl, PR2.out.drewN _, below_drewN HBel2.out _, by simp⟩
            case round =>
              obtain ⟨j, hj, rfl, B0, hbel, hA2⟩ := hrel
              have HA2 := hide hA2
              clear kR
              have kR := (B0.as HRL.out).cell
              have PR3 := hide B0
              clear hA2 B0
              by_cases hlt2 : j < m
              · obtain ⟨b1, o1, x', hx', q, _, hb1, d0, d1, d2, d3, d4, d5, d6, _⟩ := (HR.out.it.below hbel hB).it hlt
                obtain rfl : x = x' := by have := HX.out; rw [this] at hx'; exact Option.some.inj hx'
                obtain ⟨b2, o2, y, hy, q2, _, hb2, g0, g1, g2, g3, g4, g5, g6, _⟩ := (HR.out.it.below hbel hB).it (show j < n3 by omega)
                simp only [Option.some.injEq, Addr.mk.injEq, and_true] at q q2
                obtain ⟨rfl, rfl⟩ := q
                obtain ⟨rfl, rfl⟩ := q2
                have HY := hide hy
                have j0 : (0 : Int) ≤ (j : Int) := by omega
                have j1 : (j : Int) < (n3 : Int) := by omega
                have j2 : (j : Int) < (m : Int) := by omega
                clear hx' hy
                cases hq : (x.id == y.id) with
                | true =>
                  have HF := hide (namesB_it (r := r) (i := m) (by rw [HL3.out]; exact hlt) (by rw [HBA.out, Bool.or_eq_true, List.any_eq_true]; exact .inr ⟨y, List.mem_of_getElem? (by rw [List.getElem?_take, if_pos hlt2]; exact HY.out), by rw [Bool.beq_comm]; exact hq⟩))
                  go_wp2_with fail
                  go_quiet (fail)
                  go_wp2
                  go_ret
                  exact ⟨ret_bool HF.out.symm, below_drewN hbel _⟩
                | false =>
                  go_wp2_with fail
                  go_quiet (fail)
                  go_wp2
                  go_roundw
                  case rel =>
                    refine ⟨j + 1, by omega, by go_num, PR3.out.drewN _, below_drewN hbel _, fun z hz => ?_⟩
                    rcases mem_take_succ HY.out hz with h | h
                    · exact HA2.out z h
                    · rw [h, Bool.beq_comm]; exact hq
                  case measure => simp [intOf]; omega
              · have hjk : j = m := by omega
                have hge2 : m ≤ j := by omega
                have hjd : decide (j < m) = false := by simp; omega
                have HD := hide (show itBadAt r.cls r.items m = false by rw [HBA.out, HCD.out, Bool.false_or, List.any_eq_false]; intro y hy; have := HA2.out y (by rw [hjk]; exact hy); simp [this])
                clear hlt2 hjk
                go_wp2
                go_roundw
                case rel =>
                  refine ⟨m + 1, by omega, by go_num, PR3.out, hbel, fun i hi => ?_⟩
                  by_cases e : i = m
                  · rw [e]; exact HD.out
                  · exact HA.out i (by omega)
                case measure => simp [intOf]; omega
        · have hge : m = n3 := by omega
          have hge2 : n3 ≤ m := by omega
          have hjd2 : decide (m < n3) = false := by simp; omega
          have HA2 := hide (show ∀ i, i < r.items.length → itBadAt r.cls r.items i = false from fun i hi => HA.out i (by rw [HL3.out] at hi; omega))
          have HYes := hide (namesB_yes HA1.out HA2.out)
          clear hlt hge HA
          go_wp2
          obtain ⟨wo2, hwo2⟩ : ∃ wo : World, wo = wr := ⟨_, rfl⟩
          subst hwo2
          go_loopw [7] (fun i wr => ∃ j : Nat, j ≤ n1 ∧ i = .int .i64 j ∧ Blk wr w.heap.size 50 RL ∧ Below w.heap.size w wr ∧ ∀ y ∈ r.pairs.take j, prBig r.cls y = false) (fun i _ => n1 - (intOf i).toNat)
          case atStart => exact ⟨0, Nat.zero_le _, rfl, PR2.out, HBel2.out, by simp⟩
          case round =>
            obtain ⟨j, hj, rfl, B0, hbel, hA2⟩ := hrel
            have HA3 := hide hA2
            clear kR yR
            have kR := (B0.as HRL.out).cell
            have yR := B0.lt
            have PR3 := hide B0
            have HBel3 := hide hbel
            clear hA2 B0 hbel
            by_cases hlt2 : j < n1
            · obtain ⟨b1, o1, y, hy, q, _, hb1, d0, d1, _, _⟩ := (HR.out.pr.below HBel3.out hB).pr hlt2
              subst q
              have HY := hide hy
              have j0 : (0 : Int) ≤ (j : Int) := by omega
              have j1 : (j : Int) < (n1 : Int) := by omega
              clear hy
              by_cases h1 : r.cls ≤ y.a
              · have hd1 : decide (r.cls ≤ y.a) = true := by simpa using h1
                have HF := hide (namesB_pr (r := r) (by unfold prsBig; rw [List.any_eq_true]; exact ⟨y, List.mem_of_getElem? HY.out, by simp [prBig, h1]⟩))
                go_wp2_with fail
                go_quiet (fail)
                go_wp2
                go_ret
                exact ⟨ret_bool HF.out.symm, below_drewN HBel3.out _⟩
              · have hd1 : decide (r.cls ≤ y.a) = false := by simpa using h1
                by_cases h2 : r.cls ≤ y.b
                · have hd2 : decide (r.cls ≤ y.b) = true := by simpa using h2
                  have HF := hide (namesB_pr (r := r) (by unfold prsBig; rw [List.any_eq_true]; exact ⟨y, List.mem_of_getElem? HY.out, by simp [prBig, h2]⟩))
                  go_wp2_with fail
                  go_quiet (fail)
                  go_wp2
                  go_ret
                  exact ⟨ret_bool HF.out.symm, below_drewN HBel3.out _⟩
                · have hd2 : decide (r.cls ≤ y.b) = false := by simpa using h2
                  have HPB := hide (show prBig r.cls y = false by simp [prBig]; omega)
                  go_wp2_with fail
                  go_quiet (fail)
                  go_wp2
                  go_roundw
                  case rel =>
                    refine ⟨j + 1, by omega, by go_num, PR3.out.drewN _, below_drewN HBel3.out _, fun z hz => ?_⟩
                    rcases mem_take_succ HY.out hz with h | h
                    · exact HA3.out z h
                    · rw [h]; exact HPB.out
                  case measure => simp [intOf]; omega
            · have hge2 : n1 ≤ j := by omega
              have HPF := hide (show prsBig r = false by
                have := HA3.out
                rw [List.take_of_length_le (by rw [HL1.out]; exact hge2)] at this
                unfold prsBig
                rw [List.any_eq_false]
                exact fun y hy => by simp [this y hy])
              have hjd : decide (j < n1) = false := by simp; omega
              clear hlt2 HA3
              go_wp2_with fail
              refine (smaster_any r A1 A2 A3 n1 n2 n3 c1 c2 c3 lo hi _ (HR.out.below HBel3.out hB) (by have := HBel3.out.size; omega)).mono ?_
              generalize tyD (findTy r.types r.master) = T
              rintro e w1 ⟨rfl, hb1⟩
              have HFin := hide (show namesB r = (findTy r.types r.master).isSome by rw [HYes.out, HPF.out]; simp)
              generalize (findTy r.types r.master).isSome = bo at *
              have L1 := hide (show Below w.heap.size w w1 from (by repeat (first | with_reducible exact Below.refl _ _ | with_reducible assumption | with_reducible refine Below.setCell ?_ (by (try simp) <;> omega) _ | with_reducible refine Below.alloc ?_ (by (try simp) <;> omega) _ | with_reducible refine Below.drew ?_ | with_reducible refine below_drewN ?_ _ | with_reducible exact HBel3.out | with_reducible exact hb1 | with_reducible refine Below.trans ?_ (Below.mono HBel3.out (by (try simp) <;> omega)) | with_reducible refine Below.trans ?_ (Below.mono hb1 (by (try simp) <;> omega)))))
              have zz := L1.out.size
              clear hb1
              go_wp2
              go_ret
              exact ⟨ret_bool HFin.out.symm, (by repeat (first | with_reducible exact Below.refl _ _ | with_reducible assumption | with_reducible refine Below.setCell ?_ (by (try simp) <;> omega) _ | with_reducible refine Below.alloc ?_ (by (try simp) <;> omega) _ | with_reducible refine Below.drew ?_ | with_reducible refine below_drewN ?_ _ | with_reducible exact L1.out | with_reducible refine Below.trans ?_ (Below.mono L1.out (by (try simp) <;> omega))))⟩
end Go.Proofs.Ytcjcmdikopipjaa
