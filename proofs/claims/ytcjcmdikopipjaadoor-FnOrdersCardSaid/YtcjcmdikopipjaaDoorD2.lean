/- RequestSame, the program's and the reference's. Written by gen/gen_d2.py. -/
import Derived.Test.YtcjcmdikopipjaaDoorD1
namespace Go.Proofs.YtcjcmdikopipjaaDoor
open Go.ChangeShapes Go.WideShapes Go.ChangeAt Go.RowKit Go.Deep
set_option linter.unusedVariables false
set_option linter.unusedSimpArgs false

/-- Two orders are alike. -/
def sameRq (r s : Rq) : Bool := (r.way == s.way) && pPlB r.pal s.pal && (r.cls == s.cls) && sameL pPrB r.pairs s.pairs && sameL pTyB r.types s.types && (r.master == s.master) && sameL pItB r.items s.items
theorem sameRq_self (r : Rq) : sameRq r r = true := by simp [sameRq, pPlB_self, sameL_self pPrB_self, sameL_self pTyB_self, sameL_self pItB_self]
set_option maxRecDepth 20000 in
set_option maxHeartbeats 4000000 in
theorem ssame_any (r s : Rq) (A1 A2 A3 : Option Addr) (n1 n2 n3 c1 c2 c3 : Nat) (A1' A2' A3' : Option Addr) (n1' n2' n3' c1' c2' c3' : Nat) (lo hi lo' hi' : Nat) (w : World) (hr : RqAt w lo hi r A1 n1 c1 A2 n2 c2 A3 n3 c3) (hB : hi ≤ w.heap.size) (hs : RqAt w lo' hi' s A1' n1' c1' A2' n2' c2' A3' n3' c3') (hB' : hi' ≤ w.heap.size) :
    Calls Tryd.prog 33 #[.agg #[.int .i64 r.way, .int .i64 r.pal.w, .int .i64 r.pal.d, .int .i64 r.pal.h, .int .i64 r.pal.gram, .int .i64 r.cls, .slice A1 n1 c1, .slice A2 n2 c2, .int .i64 r.master, .slice A3 n3 c3], .agg #[.int .i64 s.way, .int .i64 s.pal.w, .int .i64 s.pal.d, .int .i64 s.pal.h, .int .i64 s.pal.gram, .int .i64 s.cls, .slice A1' n1' c1', .slice A2' n2' c2', .int .i64 s.master, .slice A3' n3' c3']] w fun e w' => e = .returned (.bool (sameRq r s)) ∧ Below w.heap.size w w' := by
  have hq := fun W => (eqqPallet r.pal s.pal W).2
  have hm1 := hr.pr.max
  have hc1 := hr.pr.cap
  have HL1 := hide hr.pr.len
  have hm1' := hs.pr.max
  have hc1' := hs.pr.cap
  have HL1' := hide hs.pr.len
  have hm2 := hr.ty.max
  have hc2 := hr.ty.cap
  have HL2 := hide hr.ty.len
  have hm2' := hs.ty.max
  have hc2' := hs.ty.cap
  have HL2' := hide hs.ty.len
  have hm3 := hr.it.max
  have hc3 := hr.it.cap
  have HL3 := hide hr.it.len
  have hm3' := hs.it.max
  have hc3' := hs.it.cap
  have HL3' := hide hs.it.len
  have HR := hide hr
  have HS := hide hs
  clear hr hs
  cases q0 : (r.way == s.way)
  · have Q0 := hide q0
    have q0' : (r.way != s.way) = true := by simp only [bne, q0]; rfl
    go_enter Tryd.func33, Tryd.ntmps33
    go_wp2
    go_ret
    exact ⟨ret_bool (by simp [sameRq, Q0.out]), (by repeat (first | with_reducible exact Below.refl _ _ | with_reducible assumption | with_reducible refine Below.setCell ?_ (by (try simp) <;> omega) _ | with_reducible refine Below.alloc ?_ (by (try simp) <;> omega) _ | with_reducible refine Below.drew ?_ | with_reducible refine below_drewN ?_ _))⟩
  have Q0 := hide q0
  have q0' : (r.way != s.way) = false := by simp only [bne, q0]; rfl
  cases q1 : pPlB r.pal s.pal
  · have Q1 := hide q1
    rw [q1] at hq
    clear q1
    go_enter Tryd.func33, Tryd.ntmps33
    go_wp2
    go_ret
    exact ⟨ret_bool (by simp [sameRq, Q1.out]), (by repeat (first | with_reducible exact Below.refl _ _ | with_reducible assumption | with_reducible refine Below.setCell ?_ (by (try simp) <;> omega) _ | with_reducible refine Below.alloc ?_ (by (try simp) <;> omega) _ | with_reducible refine Below.drew ?_ | with_reducible refine below_drewN ?_ _))⟩
  have Q1 := hide q1
  rw [q1] at hq
  clear q1
  cases q2 : (r.cls == s.cls)
  · have Q2 := hide q2
    have q2' : (r.cls != s.cls) = true := by simp only [bne, q2]; rfl
    go_enter Tryd.func33, Tryd.ntmps33
    go_wp2
    go_ret
    exact ⟨ret_bool (by simp [sameRq, Q2.out]), (by repeat (first | with_reducible exact Below.refl _ _ | with_reducible assumption | with_reducible refine Below.setCell ?_ (by (try simp) <;> omega) _ | with_reducible refine Below.alloc ?_ (by (try simp) <;> omega) _ | with_reducible refine Below.drew ?_ | with_reducible refine below_drewN ?_ _))⟩
  have Q2 := hide q2
  have q2' : (r.cls != s.cls) = false := by simp only [bne, q2]; rfl
  cases q5 : (r.master == s.master)
  · have Q5 := hide q5
    have q5' : (r.master != s.master) = true := by simp only [bne, q5]; rfl
    go_enter Tryd.func33, Tryd.ntmps33
    go_wp2
    go_ret
    exact ⟨ret_bool (by simp [sameRq, Q5.out]), (by repeat (first | with_reducible exact Below.refl _ _ | with_reducible assumption | with_reducible refine Below.setCell ?_ (by (try simp) <;> omega) _ | with_reducible refine Below.alloc ?_ (by (try simp) <;> omega) _ | with_reducible refine Below.drew ?_ | with_reducible refine below_drewN ?_ _))⟩
  have Q5 := hide q5
  have q5' : (r.master != s.master) = false := by simp only [bne, q5]; rfl
  by_cases hne1 : n1 = n1'
  case neg =>
    have HF := hide (show sameL pPrB r.pairs s.pairs = false from sameL_len (by rw [HL1.out, HL1'.out]; exact hne1))
    have hz : (n1 : Int) ≠ (n1' : Int) := by omega
    go_enter Tryd.func33, Tryd.ntmps33
    go_wp2
    go_ret
    exact ⟨ret_bool (by simp [sameRq, HF.out]), (by repeat (first | with_reducible exact Below.refl _ _ | with_reducible assumption | with_reducible refine Below.setCell ?_ (by (try simp) <;> omega) _ | with_reducible refine Below.alloc ?_ (by (try simp) <;> omega) _ | with_reducible refine Below.drew ?_ | with_reducible refine below_drewN ?_ _))⟩
  subst hne1
  by_cases hne2 : n2 = n2'
  case neg =>
    have HF := hide (show sameL pTyB r.types s.types = false from sameL_len (by rw [HL2.out, HL2'.out]; exact hne2))
    have hz : (n2 : Int) ≠ (n2' : Int) := by omega
    go_enter Tryd.func33, Tryd.ntmps33
    go_wp2
    go_ret
    exact ⟨ret_bool (by simp [sameRq, HF.out]), (by repeat (first | with_reducible exact Below.refl _ _ | with_reducible assumption | with_reducible refine Below.setCell ?_ (by (try simp) <;> omega) _ | with_reducible refine Below.alloc ?_ (by (try simp) <;> omega) _ | with_reducible refine Below.drew ?_ | with_reducible refine below_drewN ?_ _))⟩
  subst hne2
  by_cases hne3 : n3 = n3'
  case neg =>
    have HF := hide (show sameL pItB r.items s.items = false from sameL_len (by rw [HL3.out, HL3'.out]; exact hne3))
    have hz : (n3 : Int) ≠ (n3' : Int) := by omega
    go_enter Tryd.func33, Tryd.ntmps33
    go_wp2
    go_ret
    exact ⟨ret_bool (by simp [sameRq, HF.out]), (by repeat (first | with_reducible exact Below.refl _ _ | with_reducible assumption | with_reducible refine Below.setCell ?_ (by (try simp) <;> omega) _ | with_reducible refine Below.alloc ?_ (by (try simp) <;> omega) _ | with_reducible refine Below.drew ?_ | with_reducible refine below_drewN ?_ _))⟩
  subst hne3
  go_enter Tryd.func33, Tryd.ntmps33
  go_wp2
  go_loopw [5] (fun i wr => ∃ k : Nat, k ≤ n1 ∧ i = .int .i64 k ∧ Blk wr w.heap.size 41 #[.int .i64 r.way, .int .i64 r.pal.w, .int .i64 r.pal.d, .int .i64 r.pal.h, .int .i64 r.pal.gram, .int .i64 r.cls, .slice A1 n1 c1, .slice A2 n2 c2, .int .i64 r.master, .slice A3 n3 c3] ∧ Blk wr (w.heap.size + 1) 41 #[.int .i64 s.way, .int .i64 s.pal.w, .int .i64 s.pal.d, .int .i64 s.pal.h, .int .i64 s.pal.gram, .int .i64 s.cls, .slice A1' n1 c1', .slice A2' n2 c2', .int .i64 s.master, .slice A3' n3 c3'] ∧ Below w.heap.size w wr ∧ AlikeTo pPrB r.pairs s.pairs k) (fun i _ => n1 - (intOf i).toNat)
  case atStart => exact ⟨0, Nat.zero_le _, rfl, (Blk.new w _ _ rfl).alloc _, Blk.new (w.alloc _) _ _ (by simp), (by repeat (first | with_reducible exact Below.refl _ _ | with_reducible assumption | with_reducible refine Below.setCell ?_ (by (try simp) <;> omega) _ | with_reducible refine Below.alloc ?_ (by (try simp) <;> omega) _ | with_reducible refine Below.drew ?_ | with_reducible refine below_drewN ?_ _)), alike0 _ _ _⟩
  case round =>
    obtain ⟨k1, hk1, rfl, B0, B1, hbel1, hA⟩ := hrel
    have HA := hide hA
    have kR1 := B0.cell
    have kS1 := B1.cell
    have PR1 := hide B0
    have PS1 := hide B1
    have HBel1 := hide hbel1
    have yR1 := B0.lt
    have yS1 := B1.lt
    clear hA B0 B1 hbel1
    by_cases hlt : k1 < n1
    · obtain ⟨b0, off, x, hx, rfl, _, hb, d0, d1, _, _⟩ := (HR.out.pr.below HBel1.out hB).pr hlt
      obtain ⟨b1, off', y, hy, rfl, _, hb1, e0, e1, _, _⟩ := (HS.out.pr.below HBel1.out hB').pr hlt
      have HX := hide hx
      have HY := hide hy
      have he := fun W => (eqqPair x y W).2
      have hltz : (k1 : Int) < (n1 : Int) := by omega
      have i0 : (0 : Int) ≤ (k1 : Int) := by omega
      clear hx hy
      cases hq2 : pPrB x y with
      | false =>
        rw [hq2] at he
        go_wp2_with fail
        go_quiet (fail)
        go_wp2
        go_ret
        have HF := hide (show sameL pPrB r.pairs s.pairs = false from sameL_hit HX.out HY.out hq2)
        exact ⟨ret_bool (by simp [sameRq, HF.out]), below_drewN HBel1.out _⟩
      | true =>
        rw [hq2] at he
        go_wp2_with fail
        go_quiet (fail)
        go_wp2
        go_roundw
        case rel => exact ⟨k1 + 1, by omega, by go_num, PR1.out.drewN _, PS1.out.drewN _, below_drewN HBel1.out _, HA.out.succ HX.out HY.out hq2⟩
        case measure => simp [intOf]; omega
    · have hge : n1 ≤ k1 := by omega
      have hjd1 : decide (k1 < n1) = false := by simp; omega
      clear hlt
      have HF1 := hide (show sameL pPrB r.pairs s.pairs = true from HA.out.all (by rw [HL1.out]; exact hge) (by rw [HL1.out, HL1'.out]))
      clear HA
      go_wp2
      obtain ⟨wo1, hwo⟩ : ∃ wo : World, wo = wr := ⟨_, rfl⟩
      subst hwo
      go_loopw [6] (fun i wr => ∃ k : Nat, k ≤ n2 ∧ i = .int .i64 k ∧ Blk wr w.heap.size 41 #[.int .i64 r.way, .int .i64 r.pal.w, .int .i64 r.pal.d, .int .i64 r.pal.h, .int .i64 r.pal.gram, .int .i64 r.cls, .slice A1 n1 c1, .slice A2 n2 c2, .int .i64 r.master, .slice A3 n3 c3] ∧ Blk wr (w.heap.size + 1) 41 #[.int .i64 s.way, .int .i64 s.pal.w, .int .i64 s.pal.d, .int .i64 s.pal.h, .int .i64 s.pal.gram, .int .i64 s.cls, .slice A1' n1 c1', .slice A2' n2 c2', .int .i64 s.master, .slice A3' n3 c3'] ∧ Below w.heap.size w wr ∧ AlikeTo pTyB r.types s.types k) (fun i _ => n2 - (intOf i).toNat)
      case atStart => exact ⟨0, Nat.zero_le _, rfl, PR1.out, PS1.out, HBel1.out, alike0 _ _ _⟩
      case round =>
        obtain ⟨k2, hk2, rfl, B0, B1, hbel2, hA⟩ := hrel
        have HA := hide hA
        have kR2 := B0.cell
        have kS2 := B1.cell
        have PR2 := hide B0
        have PS2 := hide B1
        have HBel2 := hide hbel2
        have yR2 := B0.lt
        have yS2 := B1.lt
        clear hA B0 B1 hbel2 kR1 kS1
        by_cases hlt : k2 < n2
        · obtain ⟨b0, off, x, hx, rfl, _, hb, d0, d1, d2, d3, d4, d5, d6, _⟩ := (HR.out.ty.below HBel2.out hB).ty hlt
          obtain ⟨b1, off', y, hy, rfl, _, hb1, e0, e1, e2, e3, e4, e5, e6, _⟩ := (HS.out.ty.below HBel2.out hB').ty hlt
          have HX := hide hx
          have HY := hide hy
          have he := fun W => (eqqType x y W).2
          have hltz : (k2 : Int) < (n2 : Int) := by omega
          have i0 : (0 : Int) ≤ (k2 : Int) := by omega
          clear hx hy
          cases hq2 : pTyB x y with
          | false =>
            rw [hq2] at he
            go_wp2_with fail
            go_quiet (fail)
            go_wp2
            go_ret
            have HF := hide (show sameL pTyB r.types s.types = false from sameL_hit HX.out HY.out hq2)
            exact ⟨ret_bool (by simp [sameRq, HF.out]), below_drewN HBel2.out _⟩
          | true =>
            rw [hq2] at he
            go_wp2_with fail
            go_quiet (fail)
            go_wp2
            go_roundw
            case rel => exact ⟨k2 + 1, by omega, by go_num, PR2.out.drewN _, PS2.out.drewN _, below_drewN HBel2.out _, HA.out.succ HX.out HY.out hq2⟩
            case measure => simp [intOf]; omega
        · have hge : n2 ≤ k2 := by omega
          have hjd2 : decide (k2 < n2) = false := by simp; omega
          clear hlt
          have HF2 := hide (show sameL pTyB r.types s.types = true from HA.out.all (by rw [HL2.out]; exact hge) (by rw [HL2.out, HL2'.out]))
          clear HA
          go_wp2
          obtain ⟨wo2, hwo⟩ : ∃ wo : World, wo = wr := ⟨_, rfl⟩
          subst hwo
          go_loopw [7] (fun i wr => ∃ k : Nat, k ≤ n3 ∧ i = .int .i64 k ∧ Blk wr w.heap.size 41 #[.int .i64 r.way, .int .i64 r.pal.w, .int .i64 r.pal.d, .int .i64 r.pal.h, .int .i64 r.pal.gram, .int .i64 r.cls, .slice A1 n1 c1, .slice A2 n2 c2, .int .i64 r.master, .slice A3 n3 c3] ∧ Blk wr (w.heap.size + 1) 41 #[.int .i64 s.way, .int .i64 s.pal.w, .int .i64 s.pal.d, .int .i64 s.pal.h, .int .i64 s.pal.gram, .int .i64 s.cls, .slice A1' n1 c1', .slice A2' n2 c2', .int .i64 s.master, .slice A3' n3 c3'] ∧ Below w.heap.size w wr ∧ AlikeTo pItB r.items s.items k) (fun i _ => n3 - (intOf i).toNat)
          case atStart => exact ⟨0, Nat.zero_le _, rfl, PR2.out, PS2.out, HBel2.out, alike0 _ _ _⟩
          case round =>
            obtain ⟨k3, hk3, rfl, B0, B1, hbel3, hA⟩ := hrel
            have HA := hide hA
            have kR3 := B0.cell
            have kS3 := B1.cell
            have PR3 := hide B0
            have PS3 := hide B1
            have HBel3 := hide hbel3
            have yR3 := B0.lt
            have yS3 := B1.lt
            clear hA B0 B1 hbel3 kR2 kS2
            by_cases hlt : k3 < n3
            · obtain ⟨b0, off, x, hx, rfl, _, hb, d0, d1, d2, d3, d4, d5, d6, _⟩ := (HR.out.it.below HBel3.out hB).it hlt
              obtain ⟨b1, off', y, hy, rfl, _, hb1, e0, e1, e2, e3, e4, e5, e6, _⟩ := (HS.out.it.below HBel3.out hB').it hlt
              have HX := hide hx
              have HY := hide hy
              have he := fun W => (eqqItem x y W).2
              have hltz : (k3 : Int) < (n3 : Int) := by omega
              have i0 : (0 : Int) ≤ (k3 : Int) := by omega
              clear hx hy
              cases hq2 : pItB x y with
              | false =>
                rw [hq2] at he
                go_wp2_with fail
                go_quiet (fail)
                go_wp2
                go_ret
                have HF := hide (show sameL pItB r.items s.items = false from sameL_hit HX.out HY.out hq2)
                exact ⟨ret_bool (by simp [sameRq, HF.out]), below_drewN HBel3.out _⟩
              | true =>
                rw [hq2] at he
                go_wp2_with fail
                go_quiet (fail)
                go_wp2
                go_roundw
                case rel => exact ⟨k3 + 1, by omega, by go_num, PR3.out.drewN _, PS3.out.drewN _, below_drewN HBel3.out _, HA.out.succ HX.out HY.out hq2⟩
                case measure => simp [intOf]; omega
            · have hge : n3 ≤ k3 := by omega
              have hjd3 : decide (k3 < n3) = false := by simp; omega
              clear hlt
              have HF3 := hide (show sameL pItB r.items s.items = true from HA.out.all (by rw [HL3.out]; exact hge) (by rw [HL3.out, HL3'.out]))
              clear HA
              go_wp2
              go_ret
              exact ⟨ret_bool (by simp [sameRq, Q0.out, Q1.out, Q2.out, Q5.out, HF1.out, HF2.out, HF3.out]), HBel3.out⟩
end Go.Proofs.YtcjcmdikopipjaaDoor
