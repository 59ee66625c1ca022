/- Holds of the program. -/
import Derived.Test.YtehgdhekiogppaaGreatTh
import Derived.Test.YtehgdhekiogppaaGreatUn7
namespace Go.Proofs.YtehgdhekiogppaaGreat
open Go.ChangeShapes Go.WideShapes Go.ChangeAt Go.RowKit Go.Deep
set_option linter.unusedVariables false
set_option linter.unusedSimpArgs false

def allThere (r : Rq) (us : List Int) : Bool := decide ((us.filter (isUnit r)).length = us.length)
def someUnfit (r : Rq) (us : List Int) (t : Ty) : Bool := (itemsOfL r us).any fun x => !fitsB x t
/-- A type holds units: the order is right, all are there, each fits, and together they are within. -/
def holdsB (r : Rq) (us : List Int) (t : Ty) : Bool := decide (classN r = 0) && allThere r us && !someUnfit r us t && withinB r us t
theorem predHolds (t : Ty) (B : Nat) (w : World) (hM : Blk w B 48 #[.int .i64 t.id, .int .i64 t.w, .int .i64 t.h, .int .i64 t.d, .int .i64 t.tare, .int .i64 t.gram, .int .i64 t.cost]) : PredB Tryz.prog 60 #[.pointer (some ⟨B, 0, none⟩)] valItem (fun x => !fitsB x t) w := fun W x hb => by
  have hBW : B < w.heap.size := hM.lt
  have hM' := hM.below hb hBW
  have hBW2 : B < W.heap.size := hM'.lt
  have hne : B ≠ W.heap.size := by omega
  have kT := hM'.cell
  have HF := hide (fun W' => fits_any x t W')
  show Calls Tryz.prog 60 #[.agg #[.int .i64 x.id, .int .i64 x.w, .int .i64 x.h, .int .i64 x.d, .int .i64 x.gram, .int .i64 x.cls, .int .i64 x.cnt], .pointer (some ⟨B, 0, none⟩)] W (fun e w' => e = .returned (.bool (!fitsB x t)) ∧ Below W.heap.size W w')
  obtain ⟨f, hf⟩ : ∃ f, fitsB x t = f := ⟨_, rfl⟩
  rw [hf] at HF ⊢
  clear hf
  go_enter Tryz.func60, Tryz.ntmps60
  go_wp2_with fail
  refine (HF.out _).mono ?_
  rintro e w1 ⟨rfl, hb1⟩
  go_wp2
  go_ret
  exact ⟨rfl, (by repeat (first | with_reducible exact Below.refl _ _ | with_reducible assumption | with_reducible refine Below.setCell ?_ (by (try simp) <;> omega) _ | with_reducible refine Below.alloc ?_ (by (try simp) <;> omega) _ | with_reducible refine Below.drew ?_ | with_reducible refine below_drewN ?_ _ | with_reducible exact hb1 | with_reducible refine Below.trans ?_ (Below.mono hb1 (by (try simp) <;> omega))))⟩
set_option maxRecDepth 20000 in
set_option maxHeartbeats 4000000 in
theorem holds_any (r : Rq) (A1 A2 A3 : Option Addr) (n1 n2 n3 c1 c2 c3 : Nat) (lo hi : Nat) (lo2 hi2 : Nat) (A : Option Addr) (n c : Nat) (us : List Int) (t : Ty) (w : World) (hr : RqAt w lo hi r A1 n1 c1 A2 n2 c2 A3 n3 c3) (hB : hi ≤ w.heap.size) (hs : SlK 1 encInt w lo2 hi2 A n c us) (hB2 : hi2 ≤ w.heap.size) (hn : n ≤ 1048580) :
    Calls Tryz.prog 19 #[.agg #[.int .i64 r.way, .int .i64 r.pal.w, .int .i64 r.pal.d, .int .i64 r.pal.h, .int .i64 r.pal.gram, .int .i64 r.cls, .slice A1 n1 c1, .slice A2 n2 c2, .int .i64 r.master, .slice A3 n3 c3], .slice A n c, .agg #[.int .i64 t.id, .int .i64 t.w, .int .i64 t.h, .int .i64 t.d, .int .i64 t.tare, .int .i64 t.gram, .int .i64 t.cost]] w fun e w' => e = .returned (.bool (holdsB r us t)) ∧ Below w.heap.size w w' := by
  have HR := hide hr
  have HS := hide hs
  have HLU := hide hs.len
  have hcu := hs.cap
  have hmu := hs.max
  have HD := hide (show holdsB r us t = (decide (classN r = 0) && allThere r us && !someUnfit r us t && withinB r us t) from rfl)
  have HSo := hide (sound_any r A1 A2 A3 n1 n2 n3 c1 c2 c3 lo hi)
  have HTh := hide (there_any r A1 A2 A3 n1 n2 n3 c1 c2 c3 lo hi lo2 hi2 A n c us)
  have HAT := hide (show allThere r us = decide ((us.filter (isUnit r)).length = us.length) from rfl)
  clear hr hs
  obtain ⟨m, hm⟩ : ∃ m, (us.filter (isUnit r)).length = m := ⟨_, rfl⟩
  rw [hm, HLU.out] at HAT
  rw [hm] at HTh
  have hmn : m ≤ n := by rw [← hm, ← HLU.out]; exact List.length_filter_le _ _
  have HM := hide hm
  clear hm
  by_cases h0 : classN r = 0
  case neg =>
    have hd : decide (classN r = 0) = false := by simp [h0]
    have HF := hide (show holdsB r us t = false by rw [HD.out, hd]; rfl)
    rw [hd] at HSo
    clear hd h0
    go_enter Tryz.func19, Tryz.ntmps19
    go_wp2_with fail
    refine (HSo.out _ (HR.out.below (B := w.heap.size) (by repeat (first | with_reducible exact Below.refl _ _ | with_reducible assumption | with_reducible refine Below.setCell ?_ (by (try simp) <;> omega) _ | with_reducible refine Below.alloc ?_ (by (try simp) <;> omega) _ | with_reducible refine Below.drew ?_ | with_reducible refine below_drewN ?_ _)) hB) (by (try simp) <;> omega)).mono ?_
    rintro e w1 ⟨rfl, hb1⟩
    go_wp2
    go_ret
    exact ⟨ret_bool HF.out.symm, (by repeat (first | with_reducible exact Below.refl _ _ | with_reducible assumption | with_reducible refine Below.setCell ?_ (by (try simp) <;> omega) _ | with_reducible refine Below.alloc ?_ (by (try simp) <;> omega) _ | with_reducible refine Below.drew ?_ | with_reducible refine below_drewN ?_ _ | with_reducible exact hb1 | with_reducible refine Below.trans ?_ (Below.mono hb1 (by (try simp) <;> omega))))⟩
  have hd : decide (classN r = 0) = true := by simp [h0]
  rw [hd] at HSo HD
  clear hd h0
  by_cases h1 : m = n
  case neg =>
    have hd1 : decide (m = n) = false := by simp [h1]
    have hne : ¬ ((m : Int) = (n : Int)) := by omega
    have HF := hide (show holdsB r us t = false by rw [HD.out, HAT.out, hd1]; rfl)
    clear hd1 h1
    go_enter Tryz.func19, Tryz.ntmps19
    go_wp2_with fail
    refine (HSo.out _ (HR.out.below (B := w.heap.size) (by repeat (first | with_reducible exact Below.refl _ _ | with_reducible assumption | with_reducible refine Below.setCell ?_ (by (try simp) <;> omega) _ | with_reducible refine Below.alloc ?_ (by (try simp) <;> omega) _ | with_reducible refine Below.drew ?_ | with_reducible refine below_drewN ?_ _)) hB) (by (try simp) <;> omega)).mono ?_
    rintro e w1 ⟨rfl, hb1⟩
    have L1 := hide (show Below w.heap.size w w1 from (by repeat (first | with_reducible exact Below.refl _ _ | with_reducible assumption | with_reducible refine Below.setCell ?_ (by (try simp) <;> omega) _ | with_reducible refine Below.alloc ?_ (by (try simp) <;> omega) _ | with_reducible refine Below.drew ?_ | with_reducible refine below_drewN ?_ _ | with_reducible exact hb1 | with_reducible refine Below.trans ?_ (Below.mono hb1 (by (try simp) <;> omega)))))
    have P1 := hide (Blk.belowH ((Blk.new w 37 (#[.int .i64 r.way, .int .i64 r.pal.w, .int .i64 r.pal.d, .int .i64 r.pal.h, .int .i64 r.pal.gram, .int .i64 r.cls, .slice A1 n1 c1, .slice A2 n2 c2, .int .i64 r.master, .slice A3 n3 c3]) (g := w.heap.size) (by simp)).alloc _) hb1)
    have T1 := hide (Blk.belowH (Blk.new (w.alloc _) 48 #[.int .i64 t.id, .int .i64 t.w, .int .i64 t.h, .int .i64 t.d, .int .i64 t.tare, .int .i64 t.gram, .int .i64 t.cost] (g := w.heap.size + 1) (by simp)) hb1)
    have z1 : w.heap.size + 1 + 1 ≤ w1.heap.size := by simpa using hb1.size
    clear hb1
    have kR := P1.out.cell
    have yR := P1.out.lt
    have kT := T1.out.cell
    have yT := T1.out.lt
    go_wp2_with fail
    refine (HTh.out _ (HR.out.below L1.out hB) (by (try simp) <;> omega) (HS.out.below L1.out hB2) (by (try simp) <;> omega) hn).mono ?_
    rintro e w2 ⟨A2', c2', rfl, hb2⟩
    have L2 := hide (L1.out.trans (hb2.mono (by omega)))
    have P2 := hide (Blk.belowH P1.out hb2)
    have T2 := hide (Blk.belowH T1.out hb2)
    have z2 : w1.heap.size ≤ w2.heap.size := hb2.size
    clear hb2 kR yR P1 kT yT T1
    have kR := P2.out.cell
    have yR := P2.out.lt
    have kT := T2.out.cell
    have yT := T2.out.lt
    go_wp2
    go_ret
    exact ⟨ret_bool HF.out.symm, (by repeat (first | with_reducible exact Below.refl _ _ | with_reducible assumption | with_reducible refine Below.setCell ?_ (by (try simp) <;> omega) _ | with_reducible refine Below.alloc ?_ (by (try simp) <;> omega) _ | with_reducible refine Below.drew ?_ | with_reducible refine below_drewN ?_ _ | with_reducible exact L2.out | with_reducible refine Below.trans ?_ (Below.mono L2.out (by (try simp) <;> omega))))⟩
  have hd1 : decide (m = n) = true := by simp [h1]
  subst h1
  rw [hd1] at HAT
  rw [HAT.out] at HD
  clear hd1
  have HI := hide (itemsOf_any r A1 A2 A3 n1 n2 n3 c1 c2 c3 lo hi lo2 hi2 A m c us)
  have HLI := hide (show (itemsOfL r us).length ≤ m by have := itemsOf_len r us; rw [HLU.out] at this; exact this)
  have HWi := hide (within_any r A1 A2 A3 n1 n2 n3 c1 c2 c3 lo hi lo2 hi2 A m c us t)
  have eg : ∀ args w, (callFunc 60 args).run Tryz.prog w = .ok (.enter 60 args) w := enters_of Tryz.func60 (by kernel_rfl) rfl
  have HC := hide (fun lb lo hi A n c xs W hp h h' => containsFuncItem (fun x => !fitsB x t) 60 lb eg lo hi A n c xs W hp h h')
  have HSU := hide (show someUnfit r us t = (itemsOfL r us).any (fun x => !fitsB x t) from rfl)
  clear eg
  obtain ⟨k, hk⟩ : ∃ k, (itemsOfL r us).length = k := ⟨_, rfl⟩
  have HK := hide hk
  clear hk
  obtain ⟨wi, hwi⟩ : ∃ wi, withinB r us t = wi := ⟨_, rfl⟩
  rw [hwi] at HWi HD
  clear hwi
  rcases Bool.eq_false_or_eq_true (someUnfit r us t) with hu | hu
  · have HF := hide (show holdsB r us t = false by rw [HD.out, hu]; rfl)
    rw [hu] at HSU
    clear hu
    go_enter Tryz.func19, Tryz.ntmps19
    go_wp2_with fail
    refine (HSo.out _ (HR.out.below (B := w.heap.size) (by repeat (first | with_reducible exact Below.refl _ _ | with_reducible assumption | with_reducible refine Below.setCell ?_ (by (try simp) <;> omega) _ | with_reducible refine Below.alloc ?_ (by (try simp) <;> omega) _ | with_reducible refine Below.drew ?_ | with_reducible refine below_drewN ?_ _)) hB) (by (try simp) <;> omega)).mono ?_
    rintro e w1 ⟨rfl, hb1⟩
    have L1 := hide (show Below w.heap.size w w1 from (by repeat (first | with_reducible exact Below.refl _ _ | with_reducible assumption | with_reducible refine Below.setCell ?_ (by (try simp) <;> omega) _ | with_reducible refine Below.alloc ?_ (by (try simp) <;> omega) _ | with_reducible refine Below.drew ?_ | with_reducible refine below_drewN ?_ _ | with_reducible exact hb1 | with_reducible refine Below.trans ?_ (Below.mono hb1 (by (try simp) <;> omega)))))
    have P1 := hide (Blk.belowH ((Blk.new w 37 (#[.int .i64 r.way, .int .i64 r.pal.w, .int .i64 r.pal.d, .int .i64 r.pal.h, .int .i64 r.pal.gram, .int .i64 r.cls, .slice A1 n1 c1, .slice A2 n2 c2, .int .i64 r.master, .slice A3 n3 c3]) (g := w.heap.size) (by simp)).alloc _) hb1)
    have T1 := hide (Blk.belowH (Blk.new (w.alloc _) 48 #[.int .i64 t.id, .int .i64 t.w, .int .i64 t.h, .int .i64 t.d, .int .i64 t.tare, .int .i64 t.gram, .int .i64 t.cost] (g := w.heap.size + 1) (by simp)) hb1)
    have z1 : w.heap.size + 1 + 1 ≤ w1.heap.size := by simpa using hb1.size
    clear hb1
    have kR := P1.out.cell
    have yR := P1.out.lt
    have kT := T1.out.cell
    have yT := T1.out.lt
    go_wp2_with fail
    refine (HTh.out _ (HR.out.below L1.out hB) (by (try simp) <;> omega) (HS.out.below L1.out hB2) (by (try simp) <;> omega) hn).mono ?_
    rintro e w2 ⟨A2', c2', rfl, hb2⟩
    have L2 := hide (L1.out.trans (hb2.mono (by omega)))
    have P2 := hide (Blk.belowH P1.out hb2)
    have T2 := hide (Blk.belowH T1.out hb2)
    have z2 : w1.heap.size ≤ w2.heap.size := hb2.size
    clear hb2 kR yR P1 kT yT T1
    have kR := P2.out.cell
    have yR := P2.out.lt
    have kT := T2.out.cell
    have yT := T2.out.lt
    go_wp2_with fail
    refine (HI.out _ (HR.out.below L2.out hB) (by (try simp) <;> omega) (HS.out.below L2.out hB2) (by (try simp) <;> omega) hn).mono ?_
    rintro e w3 ⟨v3, rfl, ho3, hb3⟩
    have L3 := hide (L2.out.trans (hb3.mono (by omega)))
    have P3 := hide (Blk.belowH P2.out hb3)
    have T3 := hide (Blk.belowH T2.out hb3)
    have z3 : w2.heap.size ≤ w3.heap.size := hb3.size
    obtain ⟨A3', c3', rfl, s3⟩ := Own.slk' encIt_len HK.out ho3
    have S3 := hide s3
    clear ho3 s3
    clear hb3 kR yR P2 kT yT T2
    have kR := P3.out.cell
    have yR := P3.out.lt
    have kT := T3.out.cell
    have yT := T3.out.lt
    go_wp2_with fail
    refine (HC.out _ _ _ _ _ _ _ _ (predHolds t _ _ T3.out) S3.out (Nat.le_refl _)).mono ?_
    rw [← HSU.out]
    rintro e w4 ⟨rfl, hb4⟩
    have L4 := hide (L3.out.trans (hb4.mono (by omega)))
    have P4 := hide (Blk.belowH P3.out hb4)
    have T4 := hide (Blk.belowH T3.out hb4)
    have z4 : w3.heap.size ≤ w4.heap.size := hb4.size
    clear hb4 kR yR P3 kT yT T3
    have kR := P4.out.cell
    have yR := P4.out.lt
    have kT := T4.out.cell
    have yT := T4.out.lt
    go_wp2
    go_ret
    exact ⟨ret_bool HF.out.symm, (by repeat (first | with_reducible exact Below.refl _ _ | with_reducible assumption | with_reducible refine Below.setCell ?_ (by (try simp) <;> omega) _ | with_reducible refine Below.alloc ?_ (by (try simp) <;> omega) _ | with_reducible refine Below.drew ?_ | with_reducible refine below_drewN ?_ _ | with_reducible exact L4.out | with_reducible refine Below.trans ?_ (Below.mono L4.out (by (try simp) <;> omega))))⟩
  · have HF := hide (show holdsB r us t = wi by rw [HD.out, hu]; simp)
    rw [hu] at HSU
    clear hu
    go_enter Tryz.func19, Tryz.ntmps19
    go_wp2_with fail
    refine (HSo.out _ (HR.out.below (B := w.heap.size) (by repeat (first | with_reducible exact Below.refl _ _ | with_reducible assumption | with_reducible refine Below.setCell ?_ (by (try simp) <;> omega) _ | with_reducible refine Below.alloc ?_ (by (try simp) <;> omega) _ | with_reducible refine Below.drew ?_ | with_reducible refine below_drewN ?_ _)) hB) (by (try simp) <;> omega)).mono ?_
    rintro e w1 ⟨rfl, hb1⟩
    have L1 := hide (show Below w.heap.size w w1 from (by repeat (first | with_reducible exact Below.refl _ _ | with_reducible assumption | with_reducible refine Below.setCell ?_ (by (try simp) <;> omega) _ | with_reducible refine Below.alloc ?_ (by (try simp) <;> omega) _ | with_reducible refine Below.drew ?_ | with_reducible refine below_drewN ?_ _ | with_reducible exact hb1 | with_reducible refine Below.trans ?_ (Below.mono hb1 (by (try simp) <;> omega)))))
    have P1 := hide (Blk.belowH ((Blk.new w 37 (#[.int .i64 r.way, .int .i64 r.pal.w, .int .i64 r.pal.d, .int .i64 r.pal.h, .int .i64 r.pal.gram, .int .i64 r.cls, .slice A1 n1 c1, .slice A2 n2 c2, .int .i64 r.master, .slice A3 n3 c3]) (g := w.heap.size) (by simp)).alloc _) hb1)
    have T1 := hide (Blk.belowH (Blk.new (w.alloc _) 48 #[.int .i64 t.id, .int .i64 t.w, .int .i64 t.h, .int .i64 t.d, .int .i64 t.tare, .int .i64 t.gram, .int .i64 t.cost] (g := w.heap.size + 1) (by simp)) hb1)
    have z1 : w.heap.size + 1 + 1 ≤ w1.heap.size := by simpa using hb1.size
    clear hb1
    have kR := P1.out.cell
    have yR := P1.out.lt
    have kT := T1.out.cell
    have yT := T1.out.lt
    go_wp2_with fail
    refine (HTh.out _ (HR.out.below L1.out hB) (by (try simp) <;> omega) (HS.out.below L1.out hB2) (by (try simp) <;> omega) hn).mono ?_
    rintro e w2 ⟨A2', c2', rfl, hb2⟩
    have L2 := hide (L1.out.trans (hb2.mono (by omega)))
    have P2 := hide (Blk.belowH P1.out hb2)
    have T2 := hide (Blk.belowH T1.out hb2)
    have z2 : w1.heap.size ≤ w2.heap.size := hb2.size
    clear hb2 kR yR P1 kT yT T1
    have kR := P2.out.cell
    have yR := P2.out.lt
    have kT := T2.out.cell
    have yT := T2.out.lt
    go_wp2_with fail
    refine (HI.out _ (HR.out.below L2.out hB) (by (try simp) <;> omega) (HS.out.below L2.out hB2) (by (try simp) <;> omega) hn).mono ?_
    rintro e w3 ⟨v3, rfl, ho3, hb3⟩
    have L3 := hide (L2.out.trans (hb3.mono (by omega)))
    have P3 := hide (Blk.belowH P2.out hb3)
    have T3 := hide (Blk.belowH T2.out hb3)
    have z3 : w2.heap.size ≤ w3.heap.size := hb3.size
    obtain ⟨A3', c3', rfl, s3⟩ := Own.slk' encIt_len HK.out ho3
    have S3 := hide s3
    clear ho3 s3
    clear hb3 kR yR P2 kT yT T2
    have kR := P3.out.cell
    have yR := P3.out.lt
    have kT := T3.out.cell
    have yT := T3.out.lt
    go_wp2_with fail
    refine (HC.out _ _ _ _ _ _ _ _ (predHolds t _ _ T3.out) S3.out (Nat.le_refl _)).mono ?_
    rw [← HSU.out]
    rintro e w4 ⟨rfl, hb4⟩
    have L4 := hide (L3.out.trans (hb4.mono (by omega)))
    have P4 := hide (Blk.belowH P3.out hb4)
    have T4 := hide (Blk.belowH T3.out hb4)
    have z4 : w3.heap.size ≤ w4.heap.size := hb4.size
    clear hb4 kR yR P3 kT yT T3
    have kR := P4.out.cell
    have yR := P4.out.lt
    have kT := T4.out.cell
    have yT := T4.out.lt
    go_wp2_with fail
    refine (HWi.out _ (HR.out.below L4.out hB) (by (try simp) <;> omega) (HS.out.below L4.out hB2) (by (try simp) <;> omega) hn).mono ?_
    rintro e w5 ⟨rfl, hb5⟩
    go_wp2
    go_ret
    exact ⟨ret_bool HF.out.symm, (by repeat (first | with_reducible exact Below.refl _ _ | with_reducible assumption | with_reducible refine Below.setCell ?_ (by (try simp) <;> omega) _ | with_reducible refine Below.alloc ?_ (by (try simp) <;> omega) _ | with_reducible refine Below.drew ?_ | with_reducible refine below_drewN ?_ _ | with_reducible exact L4.out | with_reducible exact hb5 | with_reducible refine Below.trans ?_ (Below.mono L4.out (by (try simp) <;> omega)) | with_reducible refine Below.trans ?_ (Below.mono hb5 (by (try simp) <;> omega))))⟩
end Go.Proofs.YtehgdhekiogppaaGreat
