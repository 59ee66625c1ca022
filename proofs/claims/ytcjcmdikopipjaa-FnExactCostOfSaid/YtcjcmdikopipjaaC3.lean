/- BoundsOk, the program's and the reference's. -/
import Derived.Test.YtcjcmdikopipjaaF1
namespace Go.Proofs.Ytcjcmdikopipjaa
open Go.ChangeShapes Go.WideShapes Go.ChangeAt Go.RowKit Go.Deep
set_option linter.unusedVariables false
set_option linter.unusedSimpArgs false

def cntSum (xs : List It) : Int := (xs.map fun x => x.cnt).sum
theorem cntSum_snoc {xs : List It} {k : Nat} {x : It} (hx : xs[k]? = some x) : cntSum (xs.take (k + 1)) = cntSum (xs.take k) + x.cnt := by
  unfold cntSum
  rw [List.take_add_one, hx]
  simp
theorem itemOk_cnt {x : It} (h : itemOkB x = true) : 1 ≤ x.cnt ∧ x.cnt ≤ 6 := by
  simp only [itemOkB, Bool.and_eq_true, inB_iff] at h
  exact h.2
theorem cntSum_bd : ∀ {xs : List It}, (∀ x ∈ xs, itemOkB x = true) → 0 ≤ cntSum xs ∧ cntSum xs ≤ 6 * xs.length
  | [], _ => ⟨by simp [cntSum], by simp [cntSum]⟩
  | x :: xs, h => by
    have ih := cntSum_bd (xs := xs) fun y hy => h y (by simp [hy])
    have hx := itemOk_cnt (h x (by simp))
    have e : cntSum (x :: xs) = x.cnt + cntSum xs := by simp [cntSum]
    rw [e, List.length_cons]
    omega
def pairIn (p : Pr) : Bool := inB p.a 0 3 && inB p.b 0 3
def pairsBadB (xs : List Pr) : Bool := xs.any fun p => !pairIn p
def typesBadB (xs : List Ty) : Bool := xs.any fun t => !typeOkB t
def itemsOkB (xs : List It) : Bool := xs.all itemOkB
/-- Within bounds. -/
def boundsB (r : Rq) : Bool :=
  inB r.way 0 1 && palletOkB r.pal && inB r.cls 1 4 && decide ((r.pairs.length : Int) ≤ 16) && !pairsBadB r.pairs && inB r.types.length 1 5 && !typesBadB r.types && inB r.master 0 999 && decide ((r.items.length : Int) ≤ 8) && itemsOkB r.items &&
    decide (cntSum r.items ≤ 12)
theorem any_not {α : Type} (p : α → Bool) (xs : List α) : (xs.any fun x => !p x) = !xs.all p := by
  rw [List.all_eq_not_any_not]
  simp
theorem predB1 (w : World) : PredB Try.prog 100 #[] valPair (fun p => !pairIn p) w := fun W x hb => by
  show Calls Try.prog 100 #[.agg #[.int .i64 x.a, .int .i64 x.b]] W _
  go_enter Try.func100, Try.ntmps100
  go_wp2_with (go_at_call 97; refine (in_any _ _ _ _).mono ?_; rintro e w' ⟨rfl, rfl⟩)
  all_goals go_ret
  all_goals exact ⟨ret_bool (by simp [pairIn, *]), (Below.refl _ _).alloc (Nat.le_refl _) _⟩
theorem predB2 (w : World) : PredB Try.prog 101 #[] valType (fun t => !typeOkB t) w := fun W x hb => by
  show Calls Try.prog 101 #[.agg #[.int .i64 x.id, .int .i64 x.w, .int .i64 x.h, .int .i64 x.d, .int .i64 x.tare, .int .i64 x.gram, .int .i64 x.cost]] W _
  go_enter Try.func101, Try.ntmps101
  go_wp2_with (go_at_call 102; refine (typeOk_any _ _ _ _ _ _ _ _).mono ?_; rintro e w1 ⟨rfl, hb1⟩)
  go_ret
  exact ⟨rfl, (by repeat (first | with_reducible exact Below.refl _ _ | with_reducible assumption | with_reducible refine Below.setCell ?_ (by (try simp) <;> omega) _ | with_reducible refine Below.alloc ?_ (by (try simp) <;> omega) _ | with_reducible refine Below.drew ?_ | with_reducible refine below_drewN ?_ _ | with_reducible exact hb1 | with_reducible refine Below.trans ?_ (Below.mono hb1 (by (try simp) <;> omega))))⟩
set_option maxRecDepth 20000 in
set_option maxHeartbeats 2000000 in
theorem boundsOk_any (r : Rq) (A1 A2 A3 : Option Addr) (n1 n2 n3 c1 c2 c3 : Nat) (lo hi : Nat) (w : World) (hr : RqAt w lo hi r A1 n1 c1 A2 n2 c2 A3 n3 c3) (hB : hi ≤ w.heap.size) :
    Calls Try.prog 87 #[.agg #[.int .i64 r.way, .int .i64 r.pal.w, .int .i64 r.pal.d, .int .i64 r.pal.h, .int .i64 r.pal.gram, .int .i64 r.cls, .slice A1 n1 c1, .slice A2 n2 c2, .int .i64 r.master, .slice A3 n3 c3]] w fun e w' => e = .returned (.bool (boundsB r)) ∧ Below w.heap.size w w' := by
  have hm1 := hr.pr.max
  have hm2 := hr.ty.max
  have hm3 := hr.it.max
  have hc1 := hr.pr.cap
  have hc2 := hr.ty.cap
  have hc3 := hr.it.cap
  have l1 := hr.pr.len
  have l2 := hr.ty.len
  have l3 := hr.it.len
  have HL1 := hide l1
  have HL2 := hide l2
  have HL3 := hide l3
  clear l1 l2 l3
  have e1 : ∀ args w, (callFunc 100 args).run Try.prog w = .ok (.enter 100 args) w := enters_of Try.func100 (by kernel_rfl) rfl
  have e2 : ∀ args w, (callFunc 101 args).run Try.prog w = .ok (.enter 101 args) w := enters_of Try.func101 (by kernel_rfl) rfl
  have HC1 : Hid (∀ W, SlK 2 encPr W lo hi A1 n1 c1 r.pairs → hi ≤ W.heap.size → Calls Try.prog 99 #[.slice A1 n1 c1, .func (.func 100) #[] #[]] W fun e w' => e = .returned (.bool (pairsBadB r.pairs)) ∧ Below W.heap.size W w') := hide (fun W h h' => by exact containsFuncPair (fun p => !pairIn p) 100 #[] e1 lo hi A1 n1 c1 r.pairs W (predB1 W) h h')
  have HC2 : Hid (∀ W, SlK 7 encTy W lo hi A2 n2 c2 r.types → hi ≤ W.heap.size → Calls Try.prog 93 #[.slice A2 n2 c2, .func (.func 101) #[] #[]] W fun e w' => e = .returned (.bool (typesBadB r.types)) ∧ Below W.heap.size W w') := hide (fun W h h' => by exact containsFuncType (fun t => !typeOkB t) 101 #[] e2 lo hi A2 n2 c2 r.types W (predB2 W) h h')
  clear e1 e2
  go_enter Try.func87, Try.ntmps87
  go_wp2_with (first
    | (go_at_call 97; refine (in_any _ _ _ _).mono ?_; rintro e w' ⟨rfl, rfl⟩)
    | (go_at_call 98; refine (palletOk_any _ _ _ _ _).mono ?_; rintro e w1 ⟨rfl, hb1⟩; have PR_1 := hide ((Blk.new w _ _ rfl).belowH hb1); have L1 := hide (show Below w.heap.size w w1 from (by repeat (first | with_reducible exact Below.refl _ _ | with_reducible assumption | with_reducible refine Below.setCell ?_ (by (try simp) <;> omega) _ | with_reducible refine Below.alloc ?_ (by (try simp) <;> omega) _ | with_reducible refine Below.drew ?_ | with_reducible refine below_drewN ?_ _ | with_reducible exact hb1 | with_reducible refine Below.trans ?_ (Below.mono hb1 (by (try simp) <;> omega))))); clear hb1; have kR_1 := PR_1.out.cell; have yR_1 := PR_1.out.lt)
    | (go_at_call 99; refine (HC1.out _ (hr.pr.below L1.out hB) (by omega)).mono ?_; rintro e w2 ⟨rfl, hb2⟩; have PR_2 := hide (PR_1.out.belowH hb2); have L2 := hide (show Below w.heap.size w w2 from L1.out.trans (hb2.mono (by omega))); clear hb2 PR_1 L1 kR_1 yR_1; have kR_2 := PR_2.out.cell; have yR_2 := PR_2.out.lt)
    | (go_at_call 93; refine (HC2.out _ (hr.ty.below L2.out hB) (by omega)).mono ?_; rintro e w3 ⟨rfl, hb3⟩; have PR_3 := hide (PR_2.out.belowH hb3); have L3 := hide (show Below w.heap.size w w3 from L2.out.trans (hb3.mono (by omega))); clear hb3 PR_2 L2 kR_2 yR_2; have kR_3 := PR_3.out.cell; have yR_3 := PR_3.out.lt))
  all_goals first
    | (go_ret; exact ⟨ret_bool (by simp [boundsB, HL1.out, HL2.out, HL3.out, *] <;> omega), (by repeat (first | with_reducible exact Below.refl _ _ | with_reducible assumption | with_reducible refine Below.setCell ?_ (by (try simp) <;> omega) _ | with_reducible refine Below.alloc ?_ (by (try simp) <;> omega) _ | with_reducible refine Below.drew ?_ | with_reducible refine below_drewN ?_ _ | with_reducible exact L3.out | with_reducible exact L2.out | with_reducible exact L1.out | with_reducible refine Below.trans ?_ (Below.mono L3.out (by (try simp) <;> omega)) | with_reducible refine Below.trans ?_ (Below.mono L2.out (by (try simp) <;> omega)) | with_reducible refine Below.trans ?_ (Below.mono L1.out (by (try simp) <;> omega))))⟩)
    | skip
  go_loopw [3, 5, 56] (fun u _ i wr => ∃ k : Nat, k ≤ n3 ∧ i = .int .i64 k ∧ u = .int .i64 (cntSum (r.items.take k)) ∧ (∀ y ∈ r.items.take k, itemOkB y = true) ∧ Below w.heap.size w wr) (fun _ _ i _ => n3 - (intOf i).toNat)
  case atStart => exact ⟨0, Nat.zero_le _, rfl, rfl, by simp, L3.out⟩
  case round =>
    obtain ⟨k, hk, rfl, rfl, hA, hbel⟩ := hrel
    have HA := hide hA
    have HBd := hide (cntSum_bd hA)
    have hlen : (r.items.take k).length ≤ k := List.length_take_le _ _
    have HLen := hide hlen
    have hz0 := hbel.size
    clear hA hlen
    by_cases hlt : k < n3
    · obtain ⟨b0, off, x, hx, rfl, _, hb, d0, d1, d2, d3, d4, d5, d6, _⟩ := (hr.it.below hbel hB).it hlt
      have HX := hide hx
      have hltz : (k : Int) < (n3 : Int) := by omega
      have i0 : (0 : Int) ≤ (k : Int) := by omega
      cases hq : itemOkB x with
      | true =>
        have hcnt := itemOk_cnt hq
        have hs0 : 0 ≤ cntSum (r.items.take k) := HBd.out.1
        have hs1 : cntSum (r.items.take k) ≤ 48 := by have := HBd.out.2; have := HLen.out; omega
        have hs2 : 0 ≤ cntSum (r.items.take k) + x.cnt := by omega
        have HQ := hide hq
        clear hx hr hq
        go_wp2_with fail
        refine (itemOk_any x.id x.w x.h x.d x.gram x.cls x.cnt _).mono ?_
        rw [It.eta, HQ.out]
        rintro e w5 ⟨rfl, hb5⟩
        have PX := hide ((Blk.new wr _ _ rfl).belowH hb5)
        have L5 := hide (show Below w.heap.size w w5 from (by repeat (first | with_reducible exact Below.refl _ _ | with_reducible assumption | with_reducible refine Below.setCell ?_ (by (try simp) <;> omega) _ | with_reducible refine Below.alloc ?_ (by (try simp) <;> omega) _ | with_reducible refine Below.drew ?_ | with_reducible refine below_drewN ?_ _ | with_reducible exact hbel | with_reducible exact hb5 | with_reducible refine Below.trans ?_ (Below.mono hbel (by (try simp) <;> omega)) | with_reducible refine Below.trans ?_ (Below.mono hb5 (by (try simp) <;> omega)))))
        clear hb5
        have kX := PX.out.cell
        have yX := PX.out.lt
        go_wp2
        go_roundw
        case rel =>
          refine ⟨k + 1, by omega, by go_num, by rw [cntSum_snoc HX.out], fun y hy => ?_, L5.out⟩
          rcases mem_take_succ HX.out hy with h | h
          · exact HA.out y h
          · rw [h]; exact HQ.out
        case measure => simp [intOf]; omega
      | false =>
        have HQ := hide hq
        clear hx hr hq
        go_wp2_with fail
        refine (itemOk_any x.id x.w x.h x.d x.gram x.cls x.cnt _).mono ?_
        rw [It.eta, HQ.out]
        rintro e w5 ⟨rfl, hb5⟩
        have L5 := hide (show Below w.heap.size w w5 from (by repeat (first | with_reducible exact Below.refl _ _ | with_reducible assumption | with_reducible refine Below.setCell ?_ (by (try simp) <;> omega) _ | with_reducible refine Below.alloc ?_ (by (try simp) <;> omega) _ | with_reducible refine Below.drew ?_ | with_reducible refine below_drewN ?_ _ | with_reducible exact hbel | with_reducible exact hb5 | with_reducible refine Below.trans ?_ (Below.mono hbel (by (try simp) <;> omega)) | with_reducible refine Below.trans ?_ (Below.mono hb5 (by (try simp) <;> omega)))))
        clear hb5
        go_wp2
        go_ret
        refine ⟨ret_bool ?_, L5.out⟩
        have : itemsOkB r.items = false := by
          unfold itemsOkB
          rw [List.all_eq_false]
          exact ⟨x, List.mem_of_getElem? HX.out, by rw [HQ.out]; simp⟩
        simp [boundsB, this]
    · have hge : n3 ≤ k := by omega
      clear hlt
      go_wp2
      go_ret
      refine ⟨ret_bool ?_, hbel⟩
      have e1 := HA.out
      have e2 : itemsOkB r.items = true := by
        unfold itemsOkB
        rw [List.all_eq_true]
        rwa [List.take_of_length_le (by rw [HL3.out]; omega)] at e1
      rw [List.take_of_length_le (by rw [HL3.out]; omega)]
      simp [boundsB, HL1.out, HL2.out, HL3.out, *] <;> omega
set_option maxRecDepth 20000 in
set_option maxHeartbeats 2000000 in
theorem sboundsOk_any (r : Rq) (A1 A2 A3 : Option Addr) (n1 n2 n3 c1 c2 c3 : Nat) (lo hi : Nat) (w : World) (hr : RqAt w lo hi r A1 n1 c1 A2 n2 c2 A3 n3 c3) (hB : hi ≤ w.heap.size) :
    Calls Try.prog 60 #[.agg #[.int .i64 r.way, .int .i64 r.pal.w, .int .i64 r.pal.d, .int .i64 r.pal.h, .int .i64 r.pal.gram, .int .i64 r.cls, .slice A1 n1 c1, .slice A2 n2 c2, .int .i64 r.master, .slice A3 n3 c3]] w fun e w' => e = .returned (.bool (boundsB r)) ∧ Below w.heap.size w w' := by
  have hm1 := hr.pr.max
  have hm2 := hr.ty.max
  have hm3 := hr.it.max
  have hc1 := hr.pr.cap
  have hc2 := hr.ty.cap
  have hc3 := hr.it.cap
  have HL1 := hide hr.pr.len
  have HL2 := hide hr.ty.len
  have HL3 := hide hr.it.len
  by_cases g1 : ¬ (n1 : Int) ≤ 16
  · have hd1 : decide ((16 : Int) < (n1 : Int)) = true := by simp; omega
    have hd1' : (16 : Int) < (n1 : Int) := by omega
    go_enter Try.func60, Try.ntmps60
    go_wp2_with (first
      | (go_at_call 79; refine (sin_any _ _ _ _).mono ?_; rintro e w' ⟨rfl, rfl⟩)
      | (go_at_call 81; refine (sid_any _ _).mono ?_; rintro e w' ⟨rfl, rfl⟩)
      | (go_at_call 80; refine (spalletOk_any _ _ _ _ _).mono ?_; rintro e w1 ⟨rfl, hb1⟩; have PR_1 := hide ((Blk.new w _ _ rfl).belowH hb1); have L1 := hide (show Below w.heap.size w w1 from (by repeat (first | with_reducible exact Below.refl _ _ | with_reducible assumption | with_reducible refine Below.setCell ?_ (by (try simp) <;> omega) _ | with_reducible refine Below.alloc ?_ (by (try simp) <;> omega) _ | with_reducible refine Below.drew ?_ | with_reducible refine below_drewN ?_ _ | with_reducible exact hb1 | with_reducible refine Below.trans ?_ (Below.mono hb1 (by (try simp) <;> omega))))); clear hb1; have kR_1 := PR_1.out.cell; have yR_1 := PR_1.out.lt))
    all_goals first
      | (go_ret; exact ⟨ret_bool (by simp [boundsB, HL1.out, HL2.out, HL3.out, *] <;> omega), (by repeat (first | with_reducible exact Below.refl _ _ | with_reducible assumption | with_reducible refine Below.setCell ?_ (by (try simp) <;> omega) _ | with_reducible refine Below.alloc ?_ (by (try simp) <;> omega) _ | with_reducible refine Below.drew ?_ | with_reducible refine below_drewN ?_ _ | with_reducible exact L1.out | with_reducible refine Below.trans ?_ (Below.mono L1.out (by (try simp) <;> omega))))⟩)
  by_cases g3 : ¬ (n3 : Int) ≤ 8
  · have hd1 : decide ((16 : Int) < (n1 : Int)) = false := by simp; omega
    have hd3 : decide ((8 : Int) < (n3 : Int)) = true := by simp; omega
    have hd3' : (8 : Int) < (n3 : Int) := by omega
    go_enter Try.func60, Try.ntmps60
    go_wp2_with (first
      | (go_at_call 79; refine (sin_any _ _ _ _).mono ?_; rintro e w' ⟨rfl, rfl⟩)
      | (go_at_call 81; refine (sid_any _ _).mono ?_; rintro e w' ⟨rfl, rfl⟩)
      | (go_at_call 80; refine (spalletOk_any _ _ _ _ _).mono ?_; rintro e w1 ⟨rfl, hb1⟩; have PR_1 := hide ((Blk.new w _ _ rfl).belowH hb1); have L1 := hide (show Below w.heap.size w w1 from (by repeat (first | with_reducible exact Below.refl _ _ | with_reducible assumption | with_reducible refine Below.setCell ?_ (by (try simp) <;> omega) _ | with_reducible refine Below.alloc ?_ (by (try simp) <;> omega) _ | with_reducible refine Below.drew ?_ | with_reducible refine below_drewN ?_ _ | with_reducible exact hb1 | with_reducible refine Below.trans ?_ (Below.mono hb1 (by (try simp) <;> omega))))); clear hb1; have kR_1 := PR_1.out.cell; have yR_1 := PR_1.out.lt))
    all_goals first
      | (go_ret; exact ⟨ret_bool (by simp [boundsB, HL1.out, HL2.out, HL3.out, *] <;> omega), (by repeat (first | with_reducible exact Below.refl _ _ | with_reducible assumption | with_reducible refine Below.setCell ?_ (by (try simp) <;> omega) _ | with_reducible refine Below.alloc ?_ (by (try simp) <;> omega) _ | with_reducible refine Below.drew ?_ | with_reducible refine below_drewN ?_ _ | with_reducible exact L1.out | with_reducible refine Below.trans ?_ (Below.mono L1.out (by (try simp) <;> omega))))⟩)
  have g1' : (n1 : Int) ≤ 16 := by omega
  have g3' : (n3 : Int) ≤ 8 := by omega
  have hd1 : decide ((16 : Int) < (n1 : Int)) = false := by simp; omega
  have hd3 : decide ((8 : Int) < (n3 : Int)) = false := by simp; omega
  clear g1 g3
  go_enter Try.func60, Try.ntmps60
  go_wp2_with (first
    | (go_at_call 79; refine (sin_any _ _ _ _).mono ?_; rintro e w' ⟨rfl, rfl⟩)
    | (go_at_call 81; refine (sid_any _ _).mono ?_; rintro e w' ⟨rfl, rfl⟩)
    | (go_at_call 80; refine (spalletOk_any _ _ _ _ _).mono ?_; rintro e w1 ⟨rfl, hb1⟩; have PR_1 := hide ((Blk.new w _ _ rfl).belowH hb1); have L1 := hide (show Below w.heap.size w w1 from (by repeat (first | with_reducible exact Below.refl _ _ | with_reducible assumption | with_reducible refine Below.setCell ?_ (by (try simp) <;> omega) _ | with_reducible refine Below.alloc ?_ (by (try simp) <;> omega) _ | with_reducible refine Below.drew ?_ | with_reducible refine below_drewN ?_ _ | with_reducible exact hb1 | with_reducible refine Below.trans ?_ (Below.mono hb1 (by (try simp) <;> omega))))); clear hb1; have kR_1 := PR_1.out.cell; have yR_1 := PR_1.out.lt))
  all_goals first
    | (go_ret; exact ⟨ret_bool (by simp [boundsB, HL1.out, HL2.out, HL3.out, *] <;> omega), (by repeat (first | with_reducible exact Below.refl _ _ | with_reducible assumption | with_reducible refine Below.setCell ?_ (by (try simp) <;> omega) _ | with_reducible refine Below.alloc ?_ (by (try simp) <;> omega) _ | with_reducible refine Below.drew ?_ | with_reducible refine below_drewN ?_ _ | with_reducible exact L1.out | with_reducible refine Below.trans ?_ (Below.mono L1.out (by (try simp) <;> omega))))⟩)
    | skip
  have q1 : (n1 : Int) ≤ 16 := by omega
  have q3 : (n3 : Int) ≤ 8 := by omega
  have Q1 := hide q1
  have Q3 := hide q3
  go_loop [3] (fun i => ∃ k : Nat, k ≤ n1 ∧ i = .int .i64 k ∧ ∀ y ∈ r.pairs.take k, pairIn y = true) (fun i => n1 - (intOf i).toNat)
  case atStart => exact ⟨0, Nat.zero_le _, rfl, by simp⟩
  case round =>
    obtain ⟨k, hk, rfl, hA⟩ := hrel
    have HA := hide hA
    clear hA
    by_cases hlt : k < n1
    · obtain ⟨b0, off, x, hx, rfl, _, hb, d0, d1, _, _⟩ := (hr.pr.below L1.out hB).pr hlt
      have HX := hide hx
      have HR := hide hr
      have i0 : (0 : Int) ≤ (k : Int) := by omega
      have i1 : (k : Int) < (n1 : Int) := by omega
      clear hx hr
      cases hq1 : inB x.a 0 3
      · have hbad : pairsBadB r.pairs = true := by
          unfold pairsBadB
          rw [List.any_eq_true]
          exact ⟨x, List.mem_of_getElem? HX.out, by simp [pairIn, hq1]⟩
        have HBAD := hide hbad
        clear hbad
        go_wp2_with (go_at_call 79; refine (sin_any _ _ _ _).mono ?_; rintro e w' ⟨rfl, rfl⟩)
        go_ret
        exact ⟨ret_bool (by simp [boundsB, HBAD.out]), L1.out⟩
      cases hq2 : inB x.b 0 3
      · have hbad : pairsBadB r.pairs = true := by
          unfold pairsBadB
          rw [List.any_eq_true]
          exact ⟨x, List.mem_of_getElem? HX.out, by simp [pairIn, hq2]⟩
        have HBAD := hide hbad
        clear hbad
        go_wp2_with (go_at_call 79; refine (sin_any _ _ _ _).mono ?_; rintro e w' ⟨rfl, rfl⟩)
        go_ret
        exact ⟨ret_bool (by simp [boundsB, HBAD.out]), L1.out⟩
      · go_wp2_with (go_at_call 79; refine (sin_any _ _ _ _).mono ?_; rintro e w' ⟨rfl, rfl⟩)
        go_round
        case rel =>
          refine ⟨k + 1, by omega, by go_num, fun y hy => ?_⟩
          rcases mem_take_succ HX.out hy with h | h
          · exact HA.out y h
          · rw [h]; simp [pairIn, hq1, hq2]
        case measure => simp [intOf]; omega
    · have hge : n1 ≤ k := by omega
      clear hlt
      have hgood : pairsBadB r.pairs = false := by
        have := HA.out
        rw [List.take_of_length_le (by rw [HL1.out]; omega)] at this
        unfold pairsBadB
        rw [List.any_eq_false]
        exact fun y hy => by simp [this y hy]
      have HG := hide hgood
      clear hgood
      go_wp2
      go_loopw [4] (fun i wr => ∃ k : Nat, k ≤ n2 ∧ i = .int .i64 k ∧ (∀ y ∈ r.types.take k, typeOkB y = true) ∧ Blk wr w.heap.size 50 #[.int .i64 r.way, .int .i64 r.pal.w, .int .i64 r.pal.d, .int .i64 r.pal.h, .int .i64 r.pal.gram, .int .i64 r.cls, .slice A1 n1 c1, .slice A2 n2 c2, .int .i64 r.master, .slice A3 n3 c3] ∧ Below w.heap.size w wr) (fun i _ => n2 - (intOf i).toNat)
      case atStart => exact ⟨0, Nat.zero_le _, rfl, by simp, PR_1.out, L1.out⟩
      case round =>
        obtain ⟨j, hj, rfl, hA2, B0, hbel⟩ := hrel
        have HA2 := hide hA2
        have kR := B0.cell
        have yR := B0.lt
        have P0 := hide B0
        have hz0 := hbel.size
        clear hA2 B0 kR_1 yR_1
        by_cases hlt : j < n2
        · obtain ⟨b0, off, x, hx, rfl, _, hb, d0, d1, d2, d3, d4, d5, d6, _⟩ := (hr.ty.below hbel hB).ty hlt
          have HX := hide hx
          have HR := hide hr
          have i0 : (0 : Int) ≤ (j : Int) := by omega
          have i1 : (j : Int) < (n2 : Int) := by omega
          clear hx hr
          cases hq : typeOkB x with
          | true =>
            have HQ := hide hq
            clear hq
            go_wp2_with fail
            refine (stypeOk_any x.id x.w x.h x.d x.tare x.gram x.cost _).mono ?_
            rw [Ty.eta, HQ.out]
            rintro e w5 ⟨rfl, hb5⟩
            have P5 := hide (P0.out.belowH hb5)
            have L5 := hide (show Below w.heap.size w w5 from hbel.trans (hb5.mono hz0))
            clear hb5 kR yR P0
            have kR := P5.out.cell
            have yR := P5.out.lt
            go_wp2
            go_roundw
            case rel =>
              refine ⟨j + 1, by omega, by go_num, fun y hy => ?_, P5.out, L5.out⟩
              rcases mem_take_succ HX.out hy with h | h
              · exact HA2.out y h
              · rw [h]; exact HQ.out
            case measure => simp [intOf]; omega
          | false =>
            have hbad : typesBadB r.types = true := by
              unfold typesBadB
              rw [List.any_eq_true]
              exact ⟨x, List.mem_of_getElem? HX.out, by simp [hq]⟩
            have HBAD := hide hbad
            have HQ := hide hq
            clear hbad hq
            go_wp2_with fail
            refine (stypeOk_any x.id x.w x.h x.d x.tare x.gram x.cost _).mono ?_
            rw [Ty.eta, HQ.out]
            rintro e w5 ⟨rfl, hb5⟩
            have L5 := hide (show Below w.heap.size w w5 from hbel.trans (hb5.mono hz0))
            clear hb5
            go_wp2
            go_ret
            exact ⟨ret_bool (by simp [boundsB, HBAD.out]), L5.out⟩
        · have hge2 : n2 ≤ j := by omega
          have hjd : decide (j < n2) = false := by simp; omega
          clear hlt
          have hgood : typesBadB r.types = false := by
            have := HA2.out
            rw [List.take_of_length_le (by rw [HL2.out]; omega)] at this
            unfold typesBadB
            rw [List.any_eq_false]
            exact fun y hy => by simp [this y hy]
          have HG2 := hide hgood
          clear hgood
          go_wp2
          obtain ⟨wo, hwo⟩ : ∃ wo : World, wo = wr := ⟨_, rfl⟩
          subst hwo
          go_loopw [5, 6] (fun u i wr => ∃ k : Nat, k ≤ n3 ∧ i = .int .i64 k ∧ u = .int .i64 (cntSum (r.items.take k)) ∧ (∀ y ∈ r.items.take k, itemOkB y = true) ∧ Blk wr w.heap.size 50 #[.int .i64 r.way, .int .i64 r.pal.w, .int .i64 r.pal.d, .int .i64 r.pal.h, .int .i64 r.pal.gram, .int .i64 r.cls, .slice A1 n1 c1, .slice A2 n2 c2, .int .i64 r.master, .slice A3 n3 c3] ∧ Below w.heap.size w wr) (fun _ i _ => n3 - (intOf i).toNat)
          case atStart => exact ⟨0, Nat.zero_le _, rfl, rfl, by simp, P0.out, hbel⟩
          case round =>
            obtain ⟨m, hm, rfl, rfl, hA3, B3, hbel3⟩ := hrel
            have HA3 := hide hA3
            have HBd := hide (cntSum_bd hA3)
            have hlen : (r.items.take m).length ≤ m := List.length_take_le _ _
            have HLen := hide hlen
            have hz3 := hbel3.size
            have P3 := hide B3
            clear hA3 hlen kR yR B3
            have kR := P3.out.cell
            have yR := P3.out.lt
            by_cases hlt : m < n3
            · obtain ⟨b0, off, x, hx, rfl, _, hb, d0, d1, d2, d3, d4, d5, d6, _⟩ := (hr.it.below hbel3 hB).it hlt
              have HX := hide hx
              have i0 : (0 : Int) ≤ (m : Int) := by omega
              have i1 : (m : Int) < (n3 : Int) := by omega
              cases hq : itemOkB x with
              | true =>
                have hcnt := itemOk_cnt hq
                have hs0 : 0 ≤ cntSum (r.items.take m) := HBd.out.1
                have hs1 : cntSum (r.items.take m) ≤ 48 := by have := HBd.out.2; have := HLen.out; omega
                have hs2 : 0 ≤ cntSum (r.items.take m) + x.cnt := by omega
                have HQ := hide hq
                clear hx hq
                go_wp2_with fail
                refine (sitemOk_any x.id x.w x.h x.d x.gram x.cls x.cnt _).mono ?_
                rw [It.eta, HQ.out]
                rintro e w5 ⟨rfl, hb5⟩
                have P5 := hide (P3.out.belowH hb5)
                have L5 := hide (show Below w.heap.size w w5 from hbel3.trans (hb5.mono hz3))
                obtain ⟨b0', off', x', hx', e0, _, hb', g0, g1, g2, g3, g4, g5, g6, _⟩ := (hr.it.below L5.out hB).it hlt
                obtain rfl : x = x' := by have := HX.out; rw [this] at hx'; exact Option.some.inj hx'
                simp only [Option.some.injEq, Addr.mk.injEq, and_true] at e0
                obtain ⟨rfl, rfl⟩ := e0
                have HR := hide hr
                clear hb5 kR yR P3 hx' hr d0 d1 d2 d3 d4 d5 d6
                have kR := P5.out.cell
                have yR := P5.out.lt
                go_wp2
                go_roundw
                case rel =>
                  refine ⟨m + 1, by omega, by go_num, by rw [cntSum_snoc HX.out], fun y hy => ?_, P5.out, L5.out⟩
                  rcases mem_take_succ HX.out hy with h | h
                  · exact HA3.out y h
                  · rw [h]; exact HQ.out
                case measure => simp [intOf]; omega
              | false =>
                have hbad : itemsOkB r.items = false := by
                  unfold itemsOkB
                  rw [List.all_eq_false]
                  exact ⟨x, List.mem_of_getElem? HX.out, by rw [hq]; simp⟩
                have HBAD := hide hbad
                have HQ := hide hq
                clear hbad hx hq
                go_wp2_with fail
                refine (sitemOk_any x.id x.w x.h x.d x.gram x.cls x.cnt _).mono ?_
                rw [It.eta, HQ.out]
                rintro e w5 ⟨rfl, hb5⟩
                have L5 := hide (show Below w.heap.size w w5 from hbel3.trans (hb5.mono hz3))
                clear hb5
                go_wp2
                go_ret
                exact ⟨ret_bool (by simp [boundsB, HBAD.out]), L5.out⟩
            · have hge3 : n3 ≤ m := by omega
              clear hlt
              go_wp2
              go_ret
              refine ⟨ret_bool ?_, hbel3⟩
              have e1 := HA3.out
              have e2 : itemsOkB r.items = true := by
                unfold itemsOkB
                rw [List.all_eq_true]
                rwa [List.take_of_length_le (by rw [HL3.out]; omega)] at e1
              have e3 := HG.out
              have e4 := HG2.out
              have e5 := Q1.out
              have e6 := Q3.out
              rw [List.take_of_length_le (by rw [HL3.out]; omega)]
              simp [boundsB, HL1.out, HL2.out, HL3.out, *]
end Go.Proofs.Ytcjcmdikopipjaa
