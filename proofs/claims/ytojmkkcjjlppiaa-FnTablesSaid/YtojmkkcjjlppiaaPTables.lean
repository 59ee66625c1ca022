/- The law FnTables holds for every input: the call answers true, and each argument reads afterwards as it read before. -/
import Derived.Test.YtojmkkcjjlppiaaC4
import Derived.Test.YtojmkkcjjlppiaaDr3
import Derived.Test.YtojmkkcjjlppiaaLw
import Derived.Test.YtojmkkcjjlppiaaGps
import Derived.Test.YtojmkkcjjlppiaaOpG
import Derived.Test.YtojmkkcjjlppiaaRw
import Derived.Test.YtojmkkcjjlppiaaS2
namespace Go.Proofs.Ytojmkkcjjlppiaa.fnTables
open Go.ChangeShapes Go.WideShapes Go.ChangeAt Go.RowKit Go.Deep
open Go.ChangeMaps (open_string)
set_option linter.unusedVariables false
set_option linter.unusedSimpArgs false

/-- The pairs from the last to the first, each turned round. -/
def swapP (x : Pr) : Pr := ⟨x.b, x.a⟩
def turnL (ps : List Pr) : List Pr := ps.reverse.map swapP
theorem besB_turn (ps : List Pr) (a b : Int) : besB (turnL ps) a b = besB ps b a := by
  unfold besB turnL
  rw [List.any_map, List.any_reverse]
  congr 1
  funext y
  simp [besP, swapP, Bool.and_comm]
theorem tableB_turn (ps : List Pr) (cl : Int) : tableB (turnL ps) cl = tableB ps cl := by
  unfold tableB
  congr 2
  funext a
  unfold rowB
  rw [besB_turn]
  congr 2
  funext b
  unfold symB
  rw [besB_turn, besB_turn]
  rw [Bool.eq_iff_iff, beq_iff_eq, beq_iff_eq]
  exact eq_comm
theorem table_same' {ps : List Pr} {cl : Int} {a b : Nat} (h : tableB ps cl = true) (ha : (a : Int) < cl) (hb : (b : Int) < cl) : besB ps a b = besB ps b a := by
  unfold tableB at h
  rw [Bool.and_eq_true] at h
  have h1 := List.all_eq_true.1 h.2 a (List.mem_range.2 (by omega))
  unfold rowB at h1
  rw [Bool.and_eq_true] at h1
  have h2 := List.all_eq_true.1 h1.2 b (List.mem_range.2 (by omega))
  unfold symB at h2
  rwa [beq_iff_eq] at h2
theorem table_self' {ps : List Pr} {cl : Int} {a : Nat} (h : tableB ps cl = true) (ha : (a : Int) < cl) : besB ps a a = true := by
  unfold tableB at h
  rw [Bool.and_eq_true] at h
  have h1 := List.all_eq_true.1 h.2 a (List.mem_range.2 (by omega))
  unfold rowB at h1
  rw [Bool.and_eq_true] at h1
  exact h1.1
theorem table_in {ps : List Pr} {cl : Int} (h : tableB ps cl = true) : 1 ≤ cl ∧ cl ≤ 4 := by
  unfold tableB at h
  rw [Bool.and_eq_true, inB_iff] at h
  exact h.1
/-- Those from place j on, turned. -/
theorem turn_step {ps : List Pr} {q : Nat} {x : Pr} (hx : ps[q]? = some x) : turnL (ps.drop q) = turnL (ps.drop (q + 1)) ++ [swapP x] := by
  obtain ⟨hq, rfl⟩ := List.getElem?_eq_some_iff.1 hx
  unfold turnL
  rw [List.drop_eq_getElem_cons hq, List.reverse_cons, List.map_append]
  rfl

set_option maxRecDepth 20000 in
set_option maxHeartbeats 2000000 in
theorem walk (Ab : Option Addr) (nb cb : Nat) (b : List Int) (w : World) (hb : SlK 1 encByte w 0 w.heap.size Ab nb cb b ∧ ∀ z ∈ b, 0 ≤ z ∧ z ≤ 255) :
    Calls Try.prog 4 #[.slice Ab nb cb] w fun e w' => e = .returned (.bool true) ∧ Below w.heap.size w w' := by
  obtain ⟨hs, hb⟩ := hb
  have hcap := hs.cap
  have hmax := hs.max
  by_cases hbig : nb ≤ 1048576
  · go_enter Try.func4, Try.ntmps4
    go_wp2_with fail
    refine (big_no Ab nb cb _ hcap hmax hbig).mono ?_
    rintro e w' ⟨rfl, rfl⟩
    have HCo := hide hs
    have HBy := hide hb
    go_wp2_with fail
    refine (drawTableOk_any Ab nb cb b _ hs hb).mono ?_
    rintro e w1 ⟨⟨ps, A1, n1, c1, cl, rfl, hp, hn1, hcl0, hcl1⟩, hb1⟩
    have HP1 := hide hp
    have h1 := hb1
    have z1 := hb1.size
    have hpc := hp.cap
    have hpm := hp.max
    have HPL := hide hp.len
    clear hp hb1 hs hb
    go_wp2_with fail
    refine (tableOk_any cl w.heap.size w1.heap.size A1 n1 c1 ps _ HP1.out (Nat.le_refl _)).mono ?_
    rintro e w2 ⟨rfl, hb2⟩
    have z2 := hb2.size
    have h2 := h1.trans (hb2.mono (by omega))
    have HP2 := hide (HP1.out.below hb2 (Nat.le_refl _))
    obtain ⟨t, ht⟩ : ∃ t, tableB ps cl = t := ⟨_, rfl⟩
    have HT := hide ht
    have HST := hide (stableOk_any cl w.heap.size w1.heap.size A1 n1 c1 ps w2 HP2.out)
    rw [ht] at HST ⊢
    clear ht hb2 HP1 h1
    go_wp2_with fail
    refine HST.out.mono ?_
    rintro e w' ⟨rfl, rfl⟩
    clear HST
    go_wp2_with fail
    refine (drawBeside_any Ab nb cb b _ ((HCo.out.below h2 (Nat.le_refl _)).more (Nat.le_refl _) h2.size) HBy.out).mono ?_
    rintro e w3 ⟨⟨p2, A2, n2, c2, x, y, rfl, hp, hn2⟩, hb3⟩
    have z3 := hb3.size
    have h3 := h2.trans (hb3.mono (by omega))
    have HP3 := hide (HP2.out.below hb3 (by omega))
    have HQ3 := hide hp
    clear hp hb3 HP2 h2
    go_wp2_with fail
    refine (bes_any x y w2.heap.size w3.heap.size A2 n2 c2 p2 _ HQ3.out (Nat.le_refl _)).mono ?_
    rintro e w4 ⟨rfl, hb4⟩
    have z4 := hb4.size
    have h4 := h3.trans (hb4.mono (by omega))
    have HP4 := hide (HP3.out.below hb4 (by omega))
    have HSB := hide (sbes_any x y w2.heap.size w3.heap.size A2 n2 c2 p2 w4 (HQ3.out.below hb4 (Nat.le_refl _)))
    obtain ⟨tb, htb⟩ : ∃ t, besB p2 x y = t := ⟨_, rfl⟩
    rw [htb] at HSB ⊢
    clear htb hb4 HP3 h3 HQ3
    go_wp2_with fail
    refine HSB.out.mono ?_
    rintro e w' ⟨rfl, rfl⟩
    clear HSB
    cases tb
    · skip
      obtain ⟨m, rfl⟩ := Int.eq_ofNat_of_zero_le hcl0
      have HBS := hide (fun x y W h h' => bes_any x y w.heap.size w1.heap.size A1 n1 c1 ps W h h')
      go_wp2_with fail
      go_loopw [9] (fun i wr => ∃ q : Nat, q ≤ m ∧ i = .int .i64 q ∧ Below w4.heap.size w4 wr) (fun i _ => m - (intOf i).toNat)
      case atStart => exact ⟨0, Nat.zero_le _, rfl, Below.refl _ _⟩
      case round =>
        obtain ⟨q, hq, rfl, hbel⟩ := hrel
        have HB1 := hide hbel
        have y1 := hbel.size
        clear hbel
        cases t
        · have h5 := h4.trans (HB1.out.mono (by omega))
          have HP5 := hide (HP4.out.below HB1.out (by omega))
          have y5 : w1.heap.size ≤ wr.heap.size := by omega
          clear HBS
          by_cases hqm : (q : Int) < (m : Int)
          · go_wp2_with fail
            obtain ⟨w4, hwr⟩ : ∃ w4 : World, w4 = wr := ⟨_, rfl⟩
            subst hwr
            have hy5 : w.heap.size ≤ w4.heap.size := h5.size
            have hy6 : w1.heap.size ≤ w4.heap.size := by omega
            have HO0 := hide (own_litK (α := Pr) (k := 2) (enc := encPr) w4 37 w.heap.size (by omega) rfl)
            have L0 := hide (show Below w.heap.size w (w4.alloc (.cells #[] 37)) from h5.alloc hy5 _)
            have HP6 := hide (HP5.out.alloc hy6 (.cells #[] 37))
            clear h5 HP5 HB1
            go_loopw [11, 12] (fun o i wr => ∃ (j : Nat) (z : Int), j ≤ n1 ∧ i = .int .i64 z ∧ z + 1 ≤ j ∧ (j : Int) ≤ z + 1 ∧ Own 2 encPr 37 wr w1.heap.size o (turnL (ps.drop j)) ∧ Below w.heap.size w wr ∧ SlK 2 encPr wr w.heap.size w1.heap.size A1 n1 c1 ps ∧ w1.heap.size ≤ wr.heap.size) (fun _ i _ => (intOf i + 1).toNat)
            case atStart => exact ⟨n1, _, Nat.le_refl _, rfl, by omega, by omega, by rw [List.drop_of_length_le (by rw [HPL.out]; exact Nat.le_refl _)]; exact own_litK (α := Pr) (k := 2) (enc := encPr) w4 37 w1.heap.size (by omega) rfl, L0.out, HP6.out, by simp; omega⟩
            case round =>
              clear HO0 L0 HP6
              obtain ⟨j, z, hj, rfl, hz1, hz2, ho, hbel, hsp, y7⟩ := hrel
              have HO := hide ho
              have HB2 := hide hbel
              have HP7 := hide hsp
              have y8 := hbel.size
              clear ho hbel hsp
              rcases Nat.eq_zero_or_pos j with h0 | h0
              · have hz : z < 0 := by omega
                have hz' : ¬ (0 ≤ z) := by omega
                obtain ⟨mo, hmo⟩ : ∃ mo, (turnL (ps.drop j)).length = mo := ⟨_, rfl⟩
                obtain ⟨Ao, co, rfl, so⟩ := Own.slk' encPr_len hmo HO.out
                have SO := hide so
                have HTT := hide (show tableB (turnL (ps.drop j)) (m : Int) = false by rw [h0, List.drop_zero, tableB_turn]; exact HT.out)
                have HTC := hide (tableOk_any (m : Int) w1.heap.size wr.heap.size Ao mo co _ wr SO.out (Nat.le_refl _))
                rw [HTT.out] at HTC
                clear hmo so HO SO h0 hz1 hz2 HTT
                go_wp2_with fail
                refine HTC.out.mono ?_
                rintro e w9 ⟨rfl, hb9⟩
                go_wp2_with fail
                go_ret
                exact ⟨rfl, HB2.out.trans (hb9.mono (by omega))⟩
              · obtain ⟨q, rfl⟩ : ∃ q : Nat, j = q + 1 := ⟨j - 1, by omega⟩
                obtain rfl : z = (q : Int) := by omega
                have hqn : q < n1 := by omega
                obtain ⟨b0, off, x, hx, rfl, _, hb0, d0, d1, _, _⟩ := HP7.out.pr hqn
                have HTS := hide (turn_step hx)
                have HXQ := hide hx
                have hnl : (turnL (ps.drop (q + 1))).length ≤ 4194304 := by unfold turnL; rw [List.length_map, List.length_reverse, List.length_drop, HPL.out]; omega
                have q0 : (0 : Int) ≤ (q : Int) := by omega
                have q1 : (q : Int) < (n1 : Int) := by omega
                have q2 : b0 < wr.heap.size := by omega
                have HOD := hide HO.out.drew
                clear hx
                go_wp2_with fail
                refine wp_region_held_drew (S := (fun w' => w'.cell? ⟨b0, off + q * 2, none⟩ = some (.int .i64 x.a) ∧ w'.cell? ⟨b0, off + q * 2 + 1, none⟩ = some (.int .i64 x.b))) (by kernel_rfl) ?hS0 (fun hHeld => ?_)
                case hS0 => (go_keep)
                refine wpAnyH_take (i := 0) (v := ?_) rfl (by kernel_rfl) (by kernel_rfl) (by kernel_rfl) (fun _ _ _ h => h) (Or.inl ⟨by rfl, ?_⟩) (by assumption) ?_
                rotate_left 1
                · intro w hSw
                  try dsimp only at hSw
                  go_simp
                  try with_reducible rfl
                simp only [Act.put, List.getElem_toArray, List.getElem_cons_succ, List.getElem_cons_zero, List.setIfInBounds_toArray, List.set_cons_zero, List.set_cons_succ]
                refine wpAnyH_take (i := 1) (v := ?_) rfl (by kernel_rfl) (by kernel_rfl) (by kernel_rfl) (fun _ _ _ h => h) (Or.inl ⟨by rfl, ?_⟩) (by assumption) ?_
                rotate_left 1
                · intro w hSw
                  try dsimp only at hSw
                  go_simp
                  try with_reducible rfl
                simp only [Act.put, List.getElem_toArray, List.getElem_cons_succ, List.getElem_cons_zero, List.setIfInBounds_toArray, List.set_cons_zero, List.set_cons_succ]
                refine wpAnyH_take (i := 2) (v := ?_) rfl (by kernel_rfl) (by kernel_rfl) (by kernel_rfl) (fun _ _ _ h => h) (Or.inl ⟨by rfl, ?_⟩) (by assumption) ?_
                rotate_left 1
                · intro w hSw
                  try dsimp only at hSw
                  go_simp
                  try with_reducible rfl
                simp only [Act.put, List.getElem_toArray, List.getElem_cons_succ, List.getElem_cons_zero, List.setIfInBounds_toArray, List.set_cons_zero, List.set_cons_succ]
                refine wpAnyH_take (i := 3) (v := ?_) rfl (by kernel_rfl) (by kernel_rfl) (by kernel_rfl) (fun _ _ _ h => h) (Or.inl ⟨by rfl, ?_⟩) (by assumption) ?_
                rotate_left 1
                · intro w hSw
                  try dsimp only at hSw
                  go_simp
                  try with_reducible rfl
                simp only [Act.put, List.getElem_toArray, List.getElem_cons_succ, List.getElem_cons_zero, List.setIfInBounds_toArray, List.set_cons_zero, List.set_cons_succ]
                refine wpAnyH_take (i := 4) (v := ?_) rfl (by kernel_rfl) (by kernel_rfl) (by kernel_rfl) (fun _ _ _ h => h) (Or.inl ⟨by rfl, ?_⟩) (by assumption) ?_
                rotate_left 1
                · intro w hSw
                  try dsimp only at hSw
                  go_simp
                  try with_reducible rfl
                simp only [Act.put, List.getElem_toArray, List.getElem_cons_succ, List.getElem_cons_zero, List.setIfInBounds_toArray, List.set_cons_zero, List.set_cons_succ]
                refine wpAnyH_take (i := 5) (v := ?_) rfl (by kernel_rfl) (by kernel_rfl) (by kernel_rfl) (fun _ _ _ h => h) (Or.inl ⟨by rfl, ?_⟩) (by assumption) ?_
                rotate_left 1
                · intro w hSw
                  try dsimp only at hSw
                  go_simp
                  try with_reducible rfl
                simp only [Act.put, List.getElem_toArray, List.getElem_cons_succ, List.getElem_cons_zero, List.setIfInBounds_toArray, List.set_cons_zero, List.set_cons_succ]
                refine wpAnyH_take (i := 6) (v := ?_) rfl (by kernel_rfl) (by kernel_rfl) (by kernel_rfl) (fun _ _ _ h => h) (Or.inl ⟨by rfl, ?_⟩) (by assumption) ?_
                rotate_left 1
                · intro w hSw
                  try dsimp only at hSw
                  go_simp
                  try with_reducible rfl
                simp only [Act.put, List.getElem_toArray, List.getElem_cons_succ, List.getElem_cons_zero, List.setIfInBounds_toArray, List.set_cons_zero, List.set_cons_succ]
                refine wpAnyH_take (i := 7) (v := ?_) rfl (by kernel_rfl) (by kernel_rfl) (by kernel_rfl) (fun _ _ _ h => h) (Or.inl ⟨by rfl, ?_⟩) (by assumption) ?_
                rotate_left 1
                · intro w hSw
                  try dsimp only at hSw
                  go_simp
                  try with_reducible rfl
                simp only [Act.put, List.getElem_toArray, List.getElem_cons_succ, List.getElem_cons_zero, List.setIfInBounds_toArray, List.set_cons_zero, List.set_cons_succ]
                refine wpAnyH_take (i := 8) (v := ?_) rfl (by kernel_rfl) (by kernel_rfl) (by kernel_rfl) (fun _ _ _ h => h) (Or.inl ⟨by rfl, ?_⟩) (by assumption) ?_
                rotate_left 1
                · intro w hSw
                  try dsimp only at hSw
                  go_simp
                  try with_reducible rfl
                simp only [Act.put, List.getElem_toArray, List.getElem_cons_succ, List.getElem_cons_zero, List.setIfInBounds_toArray, List.set_cons_zero, List.set_cons_succ]
                refine wpAnyH_take (i := 9) (v := ?_) rfl (by kernel_rfl) (by kernel_rfl) (by kernel_rfl) (fun _ _ _ h => h) (Or.inl ⟨by rfl, ?_⟩) (by assumption) ?_
                rotate_left 1
                · intro w hSw
                  try dsimp only at hSw
                  go_simp
                  try with_reducible rfl
                simp only [Act.put, List.getElem_toArray, List.getElem_cons_succ, List.getElem_cons_zero, List.setIfInBounds_toArray, List.set_cons_zero, List.set_cons_succ]
                refine wpAnyH_take (i := 10) (v := ?_) rfl (by kernel_rfl) (by kernel_rfl) (by kernel_rfl) (fun _ _ _ h => h) (Or.inl ⟨by rfl, ?_⟩) (by assumption) ?_
                rotate_left 1
                · intro w hSw
                  try dsimp only at hSw
                  go_simp
                  try with_reducible rfl
                simp only [Act.put, List.getElem_toArray, List.getElem_cons_succ, List.getElem_cons_zero, List.setIfInBounds_toArray, List.set_cons_zero, List.set_cons_succ]
                refine wpAnyH_take (i := 11) (v := ?_) rfl (by kernel_rfl) (by kernel_rfl) (by kernel_rfl) (fun _ _ _ h => h) (Or.inl ⟨by rfl, ?_⟩) (by assumption) ?_
                rotate_left 1
                · intro w hSw
                  try dsimp only at hSw
                  go_simp
                  try with_reducible rfl
                simp only [Act.put, List.getElem_toArray, List.getElem_cons_succ, List.getElem_cons_zero, List.setIfInBounds_toArray, List.set_cons_zero, List.set_cons_succ]
                refine wpAnyH_ready (rs := [12]) (by kernel_rfl) (by simp) ?_
                refine AllReadyH.cons rfl (fun K hK => ?_) AllReadyH.nil
                go_simp
                refine hK.out _ _ ?hS1 (fun hHeld => ?_)
                case hS1 => (try dsimp only); (go_keep)
                clear hK K
                try simp only [Act.put, List.getElem_toArray, List.getElem_cons_succ, List.getElem_cons_zero, List.setIfInBounds_toArray, List.set_cons_zero, List.set_cons_succ]
                have HO4 := hide (HOD.out.alloc (.cells #[.int .i64 x.b, .int .i64 x.a] 37))
                refine wpAnyH_ready (rs := [13]) (by kernel_rfl) (by simp) ?_
                refine AllReadyH.cons rfl (fun K hK => ?_) AllReadyH.nil
                refine step_app rfl (.tmp 78) (.tmp 90) rfl (by simp [Act.eval]) (by simp [Act.eval]) (appPr HOD.out (by simp; omega) hnl [swapP x] 1 _ rfl (by omega) rfl) ?_
                intro v4 w4x ho4 hg4 hat4
                have HO5 := hide ho4
                have HG5 := hide hg4
                have HP8 := hide (slk_gr ((HP7.out.drew).alloc (by simp; omega) _) hg4 (by simp; omega) (fun z hz => .inr (HOD.out.lt z hz).1))
                obtain ⟨b0', off', x', hx', e1, _, hb0', d0', d1', _, _⟩ := HP8.out.pr hqn
                injection e1 with e1
                injection e1 with e1 e2
                subst e1 e2
                obtain rfl : x' = x := by have := HXQ.out; rw [hx'] at this; exact Option.some.inj this
                clear ho4 hg4 hat4 hx'
                refine hK.out _ _ ?hS1 (fun hHeld => ?_)
                case hS1 => (try dsimp only); (go_keep)
                clear hK K
                try simp only [Act.put, List.getElem_toArray, List.getElem_cons_succ, List.getElem_cons_zero, List.setIfInBounds_toArray, List.set_cons_zero, List.set_cons_succ]
                refine wpAnyH_ready (rs := [14]) (by kernel_rfl) (by simp) ?_
                refine AllReadyH.cons rfl (fun K hK => ?_) AllReadyH.nil
                go_simp
                refine hK.out _ _ ?hS1 (fun hHeld => ?_)
                case hS1 => (try dsimp only); (go_keep)
                clear hK K
                try simp only [Act.put, List.getElem_toArray, List.getElem_cons_succ, List.getElem_cons_zero, List.setIfInBounds_toArray, List.set_cons_zero, List.set_cons_succ]
                refine wpAnyH_done (by kernel_rfl) ?_ _
                go_wp2_with fail
                go_roundw
                case rel => exact ⟨q, _, by omega, rfl, by omega, by omega, by rw [HTS.out]; exact HO5.out, ((HB2.out.drew).alloc (by simp; omega) _).grown HG5.out (by simp; omega) (fun z hz => by have := (HOD.out.lt z hz).1; omega), HP8.out, by have := HG5.out.size; simp at this; omega⟩
                case measure => first | omega | (simp [intOf]; done) | (simp [intOf]; omega)
          · go_wp2_with fail
            obtain ⟨w4, hwr⟩ : ∃ w4 : World, w4 = wr := ⟨_, rfl⟩
            subst hwr
            have hy5 : w.heap.size ≤ w4.heap.size := h5.size
            have hy6 : w1.heap.size ≤ w4.heap.size := by omega
            have HO0 := hide (own_litK (α := Pr) (k := 2) (enc := encPr) w4 37 w.heap.size (by omega) rfl)
            have L0 := hide (show Below w.heap.size w (w4.alloc (.cells #[] 37)) from h5.alloc hy5 _)
            have HP6 := hide (HP5.out.alloc hy6 (.cells #[] 37))
            clear h5 HP5 HB1
            go_loopw [11, 12] (fun o i wr => ∃ (j : Nat) (z : Int), j ≤ n1 ∧ i = .int .i64 z ∧ z + 1 ≤ j ∧ (j : Int) ≤ z + 1 ∧ Own 2 encPr 37 wr w1.heap.size o (turnL (ps.drop j)) ∧ Below w.heap.size w wr ∧ SlK 2 encPr wr w.heap.size w1.heap.size A1 n1 c1 ps ∧ w1.heap.size ≤ wr.heap.size) (fun _ i _ => (intOf i + 1).toNat)
            case atStart => exact ⟨n1, _, Nat.le_refl _, rfl, by omega, by omega, by rw [List.drop_of_length_le (by rw [HPL.out]; exact Nat.le_refl _)]; exact own_litK (α := Pr) (k := 2) (enc := encPr) w4 37 w1.heap.size (by omega) rfl, L0.out, HP6.out, by simp; omega⟩
            case round =>
              clear HO0 L0 HP6
              obtain ⟨j, z, hj, rfl, hz1, hz2, ho, hbel, hsp, y7⟩ := hrel
              have HO := hide ho
              have HB2 := hide hbel
              have HP7 := hide hsp
              have y8 := hbel.size
              clear ho hbel hsp
              rcases Nat.eq_zero_or_pos j with h0 | h0
              · have hz : z < 0 := by omega
                have hz' : ¬ (0 ≤ z) := by omega
                obtain ⟨mo, hmo⟩ : ∃ mo, (turnL (ps.drop j)).length = mo := ⟨_, rfl⟩
                obtain ⟨Ao, co, rfl, so⟩ := Own.slk' encPr_len hmo HO.out
                have SO := hide so
                have HTT := hide (show tableB (turnL (ps.drop j)) (m : Int) = false by rw [h0, List.drop_zero, tableB_turn]; exact HT.out)
                have HTC := hide (tableOk_any (m : Int) w1.heap.size wr.heap.size Ao mo co _ wr SO.out (Nat.le_refl _))
                rw [HTT.out] at HTC
                clear hmo so HO SO h0 hz1 hz2 HTT
                go_wp2_with fail
                refine HTC.out.mono ?_
                rintro e w9 ⟨rfl, hb9⟩
                go_wp2_with fail
                go_ret
                exact ⟨rfl, HB2.out.trans (hb9.mono (by omega))⟩
              · obtain ⟨q, rfl⟩ : ∃ q : Nat, j = q + 1 := ⟨j - 1, by omega⟩
                obtain rfl : z = (q : Int) := by omega
                have hqn : q < n1 := by omega
                obtain ⟨b0, off, x, hx, rfl, _, hb0, d0, d1, _, _⟩ := HP7.out.pr hqn
                have HTS := hide (turn_step hx)
                have HXQ := hide hx
                have hnl : (turnL (ps.drop (q + 1))).length ≤ 4194304 := by unfold turnL; rw [List.length_map, List.length_reverse, List.length_drop, HPL.out]; omega
                have q0 : (0 : Int) ≤ (q : Int) := by omega
                have q1 : (q : Int) < (n1 : Int) := by omega
                have q2 : b0 < wr.heap.size := by omega
                have HOD := hide HO.out.drew
                clear hx
                go_wp2_with fail
                refine wp_region_held_drew (S := (fun w' => w'.cell? ⟨b0, off + q * 2, none⟩ = some (.int .i64 x.a) ∧ w'.cell? ⟨b0, off + q * 2 + 1, none⟩ = some (.int .i64 x.b))) (by kernel_rfl) ?hS0 (fun hHeld => ?_)
                case hS0 => (go_keep)
                refine wpAnyH_take (i := 0) (v := ?_) rfl (by kernel_rfl) (by kernel_rfl) (by kernel_rfl) (fun _ _ _ h => h) (Or.inl ⟨by rfl, ?_⟩) (by assumption) ?_
                rotate_left 1
                · intro w hSw
                  try dsimp only at hSw
                  go_simp
                  try with_reducible rfl
                simp only [Act.put, List.getElem_toArray, List.getElem_cons_succ, List.getElem_cons_zero, List.setIfInBounds_toArray, List.set_cons_zero, List.set_cons_succ]
                refine wpAnyH_take (i := 1) (v := ?_) rfl (by kernel_rfl) (by kernel_rfl) (by kernel_rfl) (fun _ _ _ h => h) (Or.inl ⟨by rfl, ?_⟩) (by assumption) ?_
                rotate_left 1
                · intro w hSw
                  try dsimp only at hSw
                  go_simp
                  try with_reducible rfl
                simp only [Act.put, List.getElem_toArray, List.getElem_cons_succ, List.getElem_cons_zero, List.setIfInBounds_toArray, List.set_cons_zero, List.set_cons_succ]
                refine wpAnyH_take (i := 2) (v := ?_) rfl (by kernel_rfl) (by kernel_rfl) (by kernel_rfl) (fun _ _ _ h => h) (Or.inl ⟨by rfl, ?_⟩) (by assumption) ?_
                rotate_left 1
                · intro w hSw
                  try dsimp only at hSw
                  go_simp
                  try with_reducible rfl
                simp only [Act.put, List.getElem_toArray, List.getElem_cons_succ, List.getElem_cons_zero, List.setIfInBounds_toArray, List.set_cons_zero, List.set_cons_succ]
                refine wpAnyH_take (i := 3) (v := ?_) rfl (by kernel_rfl) (by kernel_rfl) (by kernel_rfl) (fun _ _ _ h => h) (Or.inl ⟨by rfl, ?_⟩) (by assumption) ?_
                rotate_left 1
                · intro w hSw
                  try dsimp only at hSw
                  go_simp
                  try with_reducible rfl
                simp only [Act.put, List.getElem_toArray, List.getElem_cons_succ, List.getElem_cons_zero, List.setIfInBounds_toArray, List.set_cons_zero, List.set_cons_succ]
                refine wpAnyH_take (i := 4) (v := ?_) rfl (by kernel_rfl) (by kernel_rfl) (by kernel_rfl) (fun _ _ _ h => h) (Or.inl ⟨by rfl, ?_⟩) (by assumption) ?_
                rotate_left 1
                · intro w hSw
                  try dsimp only at hSw
                  go_simp
                  try with_reducible rfl
                simp only [Act.put, List.getElem_toArray, List.getElem_cons_succ, List.getElem_cons_zero, List.setIfInBounds_toArray, List.set_cons_zero, List.set_cons_succ]
                refine wpAnyH_take (i := 5) (v := ?_) rfl (by kernel_rfl) (by kernel_rfl) (by kernel_rfl) (fun _ _ _ h => h) (Or.inl ⟨by rfl, ?_⟩) (by assumption) ?_
                rotate_left 1
                · intro w hSw
                  try dsimp only at hSw
                  go_simp
                  try with_reducible rfl
                simp only [Act.put, List.getElem_toArray, List.getElem_cons_succ, List.getElem_cons_zero, List.setIfInBounds_toArray, List.set_cons_zero, List.set_cons_succ]
                refine wpAnyH_take (i := 6) (v := ?_) rfl (by kernel_rfl) (by kernel_rfl) (by kernel_rfl) (fun _ _ _ h => h) (Or.inl ⟨by rfl, ?_⟩) (by assumption) ?_
                rotate_left 1
                · intro w hSw
                  try dsimp only at hSw
                  go_simp
                  try with_reducible rfl
                simp only [Act.put, List.getElem_toArray, List.getElem_cons_succ, List.getElem_cons_zero, List.setIfInBounds_toArray, List.set_cons_zero, List.set_cons_succ]
                refine wpAnyH_take (i := 7) (v := ?_) rfl (by kernel_rfl) (by kernel_rfl) (by kernel_rfl) (fun _ _ _ h => h) (Or.inl ⟨by rfl, ?_⟩) (by assumption) ?_
                rotate_left 1
                · intro w hSw
                  try dsimp only at hSw
                  go_simp
                  try with_reducible rfl
                simp only [Act.put, List.getElem_toArray, List.getElem_cons_succ, List.getElem_cons_zero, List.setIfInBounds_toArray, List.set_cons_zero, List.set_cons_succ]
                refine wpAnyH_take (i := 8) (v := ?_) rfl (by kernel_rfl) (by kernel_rfl) (by kernel_rfl) (fun _ _ _ h => h) (Or.inl ⟨by rfl, ?_⟩) (by assumption) ?_
                rotate_left 1
                · intro w hSw
                  try dsimp only at hSw
                  go_simp
                  try with_reducible rfl
                simp only [Act.put, List.getElem_toArray, List.getElem_cons_succ, List.getElem_cons_zero, List.setIfInBounds_toArray, List.set_cons_zero, List.set_cons_succ]
                refine wpAnyH_take (i := 9) (v := ?_) rfl (by kernel_rfl) (by kernel_rfl) (by kernel_rfl) (fun _ _ _ h => h) (Or.inl ⟨by rfl, ?_⟩) (by assumption) ?_
                rotate_left 1
                · intro w hSw
                  try dsimp only at hSw
                  go_simp
                  try with_reducible rfl
                simp only [Act.put, List.getElem_toArray, List.getElem_cons_succ, List.getElem_cons_zero, List.setIfInBounds_toArray, List.set_cons_zero, List.set_cons_succ]
                refine wpAnyH_take (i := 10) (v := ?_) rfl (by kernel_rfl) (by kernel_rfl) (by kernel_rfl) (fun _ _ _ h => h) (Or.inl ⟨by rfl, ?_⟩) (by assumption) ?_
                rotate_left 1
                · intro w hSw
                  try dsimp only at hSw
                  go_simp
                  try with_reducible rfl
                simp only [Act.put, List.getElem_toArray, List.getElem_cons_succ, List.getElem_cons_zero, List.setIfInBounds_toArray, List.set_cons_zero, List.set_cons_succ]
                refine wpAnyH_take (i := 11) (v := ?_) rfl (by kernel_rfl) (by kernel_rfl) (by kernel_rfl) (fun _ _ _ h => h) (Or.inl ⟨by rfl, ?_⟩) (by assumption) ?_
                rotate_left 1
                · intro w hSw
                  try dsimp only at hSw
                  go_simp
                  try with_reducible rfl
                simp only [Act.put, List.getElem_toArray, List.getElem_cons_succ, List.getElem_cons_zero, List.setIfInBounds_toArray, List.set_cons_zero, List.set_cons_succ]
                refine wpAnyH_ready (rs := [12]) (by kernel_rfl) (by simp) ?_
                refine AllReadyH.cons rfl (fun K hK => ?_) AllReadyH.nil
                go_simp
                refine hK.out _ _ ?hS1 (fun hHeld => ?_)
                case hS1 => (try dsimp only); (go_keep)
                clear hK K
                try simp only [Act.put, List.getElem_toArray, List.getElem_cons_succ, List.getElem_cons_zero, List.setIfInBounds_toArray, List.set_cons_zero, List.set_cons_succ]
                have HO4 := hide (HOD.out.alloc (.cells #[.int .i64 x.b, .int .i64 x.a] 37))
                refine wpAnyH_ready (rs := [13]) (by kernel_rfl) (by simp) ?_
                refine AllReadyH.cons rfl (fun K hK => ?_) AllReadyH.nil
                refine step_app rfl (.tmp 78) (.tmp 90) rfl (by simp [Act.eval]) (by simp [Act.eval]) (appPr HOD.out (by simp; omega) hnl [swapP x] 1 _ rfl (by omega) rfl) ?_
                intro v4 w4x ho4 hg4 hat4
                have HO5 := hide ho4
                have HG5 := hide hg4
                have HP8 := hide (slk_gr ((HP7.out.drew).alloc (by simp; omega) _) hg4 (by simp; omega) (fun z hz => .inr (HOD.out.lt z hz).1))
                obtain ⟨b0', off', x', hx', e1, _, hb0', d0', d1', _, _⟩ := HP8.out.pr hqn
                injection e1 with e1
                injection e1 with e1 e2
                subst e1 e2
                obtain rfl : x' = x := by have := HXQ.out; rw [hx'] at this; exact Option.some.inj this
                clear ho4 hg4 hat4 hx'
                refine hK.out _ _ ?hS1 (fun hHeld => ?_)
                case hS1 => (try dsimp only); (go_keep)
                clear hK K
                try simp only [Act.put, List.getElem_toArray, List.getElem_cons_succ, List.getElem_cons_zero, List.setIfInBounds_toArray, List.set_cons_zero, List.set_cons_succ]
                refine wpAnyH_ready (rs := [14]) (by kernel_rfl) (by simp) ?_
                refine AllReadyH.cons rfl (fun K hK => ?_) AllReadyH.nil
                go_simp
                refine hK.out _ _ ?hS1 (fun hHeld => ?_)
                case hS1 => (try dsimp only); (go_keep)
                clear hK K
                try simp only [Act.put, List.getElem_toArray, List.getElem_cons_succ, List.getElem_cons_zero, List.setIfInBounds_toArray, List.set_cons_zero, List.set_cons_succ]
                refine wpAnyH_done (by kernel_rfl) ?_ _
                go_wp2_with fail
                go_roundw
                case rel => exact ⟨q, _, by omega, rfl, by omega, by omega, by rw [HTS.out]; exact HO5.out, ((HB2.out.drew).alloc (by simp; omega) _).grown HG5.out (by simp; omega) (fun z hz => by have := (HOD.out.lt z hz).1; omega), HP8.out, by have := HG5.out.size; simp at this; omega⟩
                case measure => first | omega | (simp [intOf]; done) | (simp [intOf]; omega)
        · have HSE := hide (fun (a : Nat) (h : (a : Int) < (m : Int)) => table_self' HT.out h)
          have HSA := hide (fun (a b : Nat) (ha : (a : Int) < (m : Int)) (hb : (b : Int) < (m : Int)) => table_same' HT.out ha hb)
          by_cases hlt : q < m
          · have q1 : (q : Int) < (m : Int) := by omega
            have HC := hide (HBS.out q q wr (HP4.out.below HB1.out (by omega)) (by omega))
            rw [HSE.out q q1] at HC
            go_wp2_with (go_at_call 21; refine HC.out.mono ?_; rintro e w5 ⟨rfl, hb5⟩)
            have y5 := hb5.size
            have HB5 := hide (HB1.out.trans (hb5.mono (by omega)))
            clear hb5 HB1 HC
            go_loopw [10] (fun i wr => ∃ p : Nat, p ≤ m ∧ i = .int .i64 p ∧ Below w4.heap.size w4 wr) (fun i _ => m - (intOf i).toNat)
            case atStart => exact ⟨0, Nat.zero_le _, rfl, HB5.out⟩
            case round =>
              clear HB5
              obtain ⟨p, hp, rfl, hbel⟩ := hrel
              have HB2 := hide hbel
              have y2 := hbel.size
              clear hbel
              by_cases hlt2 : p < m
              · have p1 : (p : Int) < (m : Int) := by omega
                have HC1 := hide (HBS.out q p wr (HP4.out.below HB2.out (by omega)) (by omega))
                have HC2 := hide (fun W (h : Below wr.heap.size wr W) => HBS.out p q W ((HP4.out.below HB2.out (by omega)).below h (by omega)) (by have := h.size; omega))
                rw [HSA.out q p q1 p1] at HC1
                obtain ⟨t2, ht2⟩ : ∃ t, besB ps p q = t := ⟨_, rfl⟩
                rw [ht2] at HC1 HC2
                clear ht2
                cases t2
                · go_wp2_with fail
                  refine HC1.out.mono ?_
                  rintro e w6 ⟨rfl, hb6⟩
                  go_wp2_with fail
                  refine (HC2.out _ hb6).mono ?_
                  rintro e w7 ⟨rfl, hb7⟩
                  go_wp2_with fail
                  go_roundw
                  case rel => exact ⟨p + 1, by omega, by go_num, (HB2.out.trans (hb6.mono (by omega))).trans (hb7.mono (by have := hb6.size; omega))⟩
                  case measure => first | omega | (simp [intOf]; done) | (simp [intOf]; omega)
                · go_wp2_with fail
                  refine HC1.out.mono ?_
                  rintro e w6 ⟨rfl, hb6⟩
                  go_wp2_with fail
                  refine (HC2.out _ hb6).mono ?_
                  rintro e w7 ⟨rfl, hb7⟩
                  go_wp2_with fail
                  go_roundw
                  case rel => exact ⟨p + 1, by omega, by go_num, (HB2.out.trans (hb6.mono (by omega))).trans (hb7.mono (by have := hb6.size; omega))⟩
                  case measure => first | omega | (simp [intOf]; done) | (simp [intOf]; omega)
              · have hge2 : m ≤ p := by omega
                clear hlt2
                go_wp2_with fail
                go_roundw
                case rel => exact ⟨q + 1, by omega, by go_num, HB2.out⟩
                case measure => first | omega | (simp [intOf]; done) | (simp [intOf]; omega)
          · have hge : m ≤ q := by omega
            clear hlt
            have h5 := h4.trans (HB1.out.mono (by omega))
            have HP5 := hide (HP4.out.below HB1.out (by omega))
            have y5 : w1.heap.size ≤ wr.heap.size := by omega
            have hge' : ¬ ((q : Int) < (m : Int)) := by omega
            clear hge hq
            clear HSE HSA HBS
            go_wp2_with fail
            obtain ⟨w4, hwr⟩ : ∃ w4 : World, w4 = wr := ⟨_, rfl⟩
            subst hwr
            have hy5 : w.heap.size ≤ w4.heap.size := h5.size
            have hy6 : w1.heap.size ≤ w4.heap.size := by omega
            have HO0 := hide (own_litK (α := Pr) (k := 2) (enc := encPr) w4 37 w.heap.size (by omega) rfl)
            have L0 := hide (show Below w.heap.size w (w4.alloc (.cells #[] 37)) from h5.alloc hy5 _)
            have HP6 := hide (HP5.out.alloc hy6 (.cells #[] 37))
            clear h5 HP5 HB1
            go_loopw [11, 12] (fun o i wr => ∃ (j : Nat) (z : Int), j ≤ n1 ∧ i = .int .i64 z ∧ z + 1 ≤ j ∧ (j : Int) ≤ z + 1 ∧ Own 2 encPr 37 wr w1.heap.size o (turnL (ps.drop j)) ∧ Below w.heap.size w wr ∧ SlK 2 encPr wr w.heap.size w1.heap.size A1 n1 c1 ps ∧ w1.heap.size ≤ wr.heap.size) (fun _ i _ => (intOf i + 1).toNat)
            case atStart => exact ⟨n1, _, Nat.le_refl _, rfl, by omega, by omega, by rw [List.drop_of_length_le (by rw [HPL.out]; exact Nat.le_refl _)]; exact own_litK (α := Pr) (k := 2) (enc := encPr) w4 37 w1.heap.size (by omega) rfl, L0.out, HP6.out, by simp; omega⟩
            case round =>
              clear HO0 L0 HP6
              obtain ⟨j, z, hj, rfl, hz1, hz2, ho, hbel, hsp, y7⟩ := hrel
              have HO := hide ho
              have HB2 := hide hbel
              have HP7 := hide hsp
              have y8 := hbel.size
              clear ho hbel hsp
              rcases Nat.eq_zero_or_pos j with h0 | h0
              · have hz : z < 0 := by omega
                have hz' : ¬ (0 ≤ z) := by omega
                obtain ⟨mo, hmo⟩ : ∃ mo, (turnL (ps.drop j)).length = mo := ⟨_, rfl⟩
                obtain ⟨Ao, co, rfl, so⟩ := Own.slk' encPr_len hmo HO.out
                have SO := hide so
                have HTT := hide (show tableB (turnL (ps.drop j)) (m : Int) = true by rw [h0, List.drop_zero, tableB_turn]; exact HT.out)
                have HTC := hide (tableOk_any (m : Int) w1.heap.size wr.heap.size Ao mo co _ wr SO.out (Nat.le_refl _))
                rw [HTT.out] at HTC
                clear hmo so HO SO h0 hz1 hz2 HTT
                go_wp2_with fail
                refine HTC.out.mono ?_
                rintro e w9 ⟨rfl, hb9⟩
                go_wp2_with fail
                go_ret
                exact ⟨rfl, HB2.out.trans (hb9.mono (by omega))⟩
              · obtain ⟨q, rfl⟩ : ∃ q : Nat, j = q + 1 := ⟨j - 1, by omega⟩
                obtain rfl : z = (q : Int) := by omega
                have hqn : q < n1 := by omega
                obtain ⟨b0, off, x, hx, rfl, _, hb0, d0, d1, _, _⟩ := HP7.out.pr hqn
                have HTS := hide (turn_step hx)
                have HXQ := hide hx
                have hnl : (turnL (ps.drop (q + 1))).length ≤ 4194304 := by unfold turnL; rw [List.length_map, List.length_reverse, List.length_drop, HPL.out]; omega
                have q0 : (0 : Int) ≤ (q : Int) := by omega
                have q1 : (q : Int) < (n1 : Int) := by omega
                have q2 : b0 < wr.heap.size := by omega
                have HOD := hide HO.out.drew
                clear hx
                go_wp2_with fail
                refine wp_region_held_drew (S := (fun w' => w'.cell? ⟨b0, off + q * 2, none⟩ = some (.int .i64 x.a) ∧ w'.cell? ⟨b0, off + q * 2 + 1, none⟩ = some (.int .i64 x.b))) (by kernel_rfl) ?hS0 (fun hHeld => ?_)
                case hS0 => (go_keep)
                refine wpAnyH_take (i := 0) (v := ?_) rfl (by kernel_rfl) (by kernel_rfl) (by kernel_rfl) (fun _ _ _ h => h) (Or.inl ⟨by rfl, ?_⟩) (by assumption) ?_
                rotate_left 1
                · intro w hSw
                  try dsimp only at hSw
                  go_simp
                  try with_reducible rfl
                simp only [Act.put, List.getElem_toArray, List.getElem_cons_succ, List.getElem_cons_zero, List.setIfInBounds_toArray, List.set_cons_zero, List.set_cons_succ]
                refine wpAnyH_take (i := 1) (v := ?_) rfl (by kernel_rfl) (by kernel_rfl) (by kernel_rfl) (fun _ _ _ h => h) (Or.inl ⟨by rfl, ?_⟩) (by assumption) ?_
                rotate_left 1
                · intro w hSw
                  try dsimp only at hSw
                  go_simp
                  try with_reducible rfl
                simp only [Act.put, List.getElem_toArray, List.getElem_cons_succ, List.getElem_cons_zero, List.setIfInBounds_toArray, List.set_cons_zero, List.set_cons_succ]
                refine wpAnyH_take (i := 2) (v := ?_) rfl (by kernel_rfl) (by kernel_rfl) (by kernel_rfl) (fun _ _ _ h => h) (Or.inl ⟨by rfl, ?_⟩) (by assumption) ?_
                rotate_left 1
                · intro w hSw
                  try dsimp only at hSw
                  go_simp
                  try with_reducible rfl
                simp only [Act.put, List.getElem_toArray, List.getElem_cons_succ, List.getElem_cons_zero, List.setIfInBounds_toArray, List.set_cons_zero, List.set_cons_succ]
                refine wpAnyH_take (i := 3) (v := ?_) rfl (by kernel_rfl) (by kernel_rfl) (by kernel_rfl) (fun _ _ _ h => h) (Or.inl ⟨by rfl, ?_⟩) (by assumption) ?_
                rotate_left 1
                · intro w hSw
                  try dsimp only at hSw
                  go_simp
                  try with_reducible rfl
                simp only [Act.put, List.getElem_toArray, List.getElem_cons_succ, List.getElem_cons_zero, List.setIfInBounds_toArray, List.set_cons_zero, List.set_cons_succ]
                refine wpAnyH_take (i := 4) (v := ?_) rfl (by kernel_rfl) (by kernel_rfl) (by kernel_rfl) (fun _ _ _ h => h) (Or.inl ⟨by rfl, ?_⟩) (by assumption) ?_
                rotate_left 1
                · intro w hSw
                  try dsimp only at hSw
                  go_simp
                  try with_reducible rfl
                simp only [Act.put, List.getElem_toArray, List.getElem_cons_succ, List.getElem_cons_zero, List.setIfInBounds_toArray, List.set_cons_zero, List.set_cons_succ]
                refine wpAnyH_take (i := 5) (v := ?_) rfl (by kernel_rfl) (by kernel_rfl) (by kernel_rfl) (fun _ _ _ h => h) (Or.inl ⟨by rfl, ?_⟩) (by assumption) ?_
                rotate_left 1
                · intro w hSw
                  try dsimp only at hSw
                  go_simp
                  try with_reducible rfl
                simp only [Act.put, List.getElem_toArray, List.getElem_cons_succ, List.getElem_cons_zero, List.setIfInBounds_toArray, List.set_cons_zero, List.set_cons_succ]
                refine wpAnyH_take (i := 6) (v := ?_) rfl (by kernel_rfl) (by kernel_rfl) (by kernel_rfl) (fun _ _ _ h => h) (Or.inl ⟨by rfl, ?_⟩) (by assumption) ?_
                rotate_left 1
                · intro w hSw
                  try dsimp only at hSw
                  go_simp
                  try with_reducible rfl
                simp only [Act.put, List.getElem_toArray, List.getElem_cons_succ, List.getElem_cons_zero, List.setIfInBounds_toArray, List.set_cons_zero, List.set_cons_succ]
                refine wpAnyH_take (i := 7) (v := ?_) rfl (by kernel_rfl) (by kernel_rfl) (by kernel_rfl) (fun _ _ _ h => h) (Or.inl ⟨by rfl, ?_⟩) (by assumption) ?_
                rotate_left 1
                · intro w hSw
                  try dsimp only at hSw
                  go_simp
                  try with_reducible rfl
                simp only [Act.put, List.getElem_toArray, List.getElem_cons_succ, List.getElem_cons_zero, List.setIfInBounds_toArray, List.set_cons_zero, List.set_cons_succ]
                refine wpAnyH_take (i := 8) (v := ?_) rfl (by kernel_rfl) (by kernel_rfl) (by kernel_rfl) (fun _ _ _ h => h) (Or.inl ⟨by rfl, ?_⟩) (by assumption) ?_
                rotate_left 1
                · intro w hSw
                  try dsimp only at hSw
                  go_simp
                  try with_reducible rfl
                simp only [Act.put, List.getElem_toArray, List.getElem_cons_succ, List.getElem_cons_zero, List.setIfInBounds_toArray, List.set_cons_zero, List.set_cons_succ]
                refine wpAnyH_take (i := 9) (v := ?_) rfl (by kernel_rfl) (by kernel_rfl) (by kernel_rfl) (fun _ _ _ h => h) (Or.inl ⟨by rfl, ?_⟩) (by assumption) ?_
                rotate_left 1
                · intro w hSw
                  try dsimp only at hSw
                  go_simp
                  try with_reducible rfl
                simp only [Act.put, List.getElem_toArray, List.getElem_cons_succ, List.getElem_cons_zero, List.setIfInBounds_toArray, List.set_cons_zero, List.set_cons_succ]
                refine wpAnyH_take (i := 10) (v := ?_) rfl (by kernel_rfl) (by kernel_rfl) (by kernel_rfl) (fun _ _ _ h => h) (Or.inl ⟨by rfl, ?_⟩) (by assumption) ?_
                rotate_left 1
                · intro w hSw
                  try dsimp only at hSw
                  go_simp
                  try with_reducible rfl
                simp only [Act.put, List.getElem_toArray, List.getElem_cons_succ, List.getElem_cons_zero, List.setIfInBounds_toArray, List.set_cons_zero, List.set_cons_succ]
                refine wpAnyH_take (i := 11) (v := ?_) rfl (by kernel_rfl) (by kernel_rfl) (by kernel_rfl) (fun _ _ _ h => h) (Or.inl ⟨by rfl, ?_⟩) (by assumption) ?_
                rotate_left 1
                · intro w hSw
                  try dsimp only at hSw
                  go_simp
                  try with_reducible rfl
                simp only [Act.put, List.getElem_toArray, List.getElem_cons_succ, List.getElem_cons_zero, List.setIfInBounds_toArray, List.set_cons_zero, List.set_cons_succ]
                refine wpAnyH_ready (rs := [12]) (by kernel_rfl) (by simp) ?_
                refine AllReadyH.cons rfl (fun K hK => ?_) AllReadyH.nil
                go_simp
                refine hK.out _ _ ?hS1 (fun hHeld => ?_)
                case hS1 => (try dsimp only); (go_keep)
                clear hK K
                try simp only [Act.put, List.getElem_toArray, List.getElem_cons_succ, List.getElem_cons_zero, List.setIfInBounds_toArray, List.set_cons_zero, List.set_cons_succ]
                have HO4 := hide (HOD.out.alloc (.cells #[.int .i64 x.b, .int .i64 x.a] 37))
                refine wpAnyH_ready (rs := [13]) (by kernel_rfl) (by simp) ?_
                refine AllReadyH.cons rfl (fun K hK => ?_) AllReadyH.nil
                refine step_app rfl (.tmp 78) (.tmp 90) rfl (by simp [Act.eval]) (by simp [Act.eval]) (appPr HOD.out (by simp; omega) hnl [swapP x] 1 _ rfl (by omega) rfl) ?_
                intro v4 w4x ho4 hg4 hat4
                have HO5 := hide ho4
                have HG5 := hide hg4
                have HP8 := hide (slk_gr ((HP7.out.drew).alloc (by simp; omega) _) hg4 (by simp; omega) (fun z hz => .inr (HOD.out.lt z hz).1))
                obtain ⟨b0', off', x', hx', e1, _, hb0', d0', d1', _, _⟩ := HP8.out.pr hqn
                injection e1 with e1
                injection e1 with e1 e2
                subst e1 e2
                obtain rfl : x' = x := by have := HXQ.out; rw [hx'] at this; exact Option.some.inj this
                clear ho4 hg4 hat4 hx'
                refine hK.out _ _ ?hS1 (fun hHeld => ?_)
                case hS1 => (try dsimp only); (go_keep)
                clear hK K
                try simp only [Act.put, List.getElem_toArray, List.getElem_cons_succ, List.getElem_cons_zero, List.setIfInBounds_toArray, List.set_cons_zero, List.set_cons_succ]
                refine wpAnyH_ready (rs := [14]) (by kernel_rfl) (by simp) ?_
                refine AllReadyH.cons rfl (fun K hK => ?_) AllReadyH.nil
                go_simp
                refine hK.out _ _ ?hS1 (fun hHeld => ?_)
                case hS1 => (try dsimp only); (go_keep)
                clear hK K
                try simp only [Act.put, List.getElem_toArray, List.getElem_cons_succ, List.getElem_cons_zero, List.setIfInBounds_toArray, List.set_cons_zero, List.set_cons_succ]
                refine wpAnyH_done (by kernel_rfl) ?_ _
                go_wp2_with fail
                go_roundw
                case rel => exact ⟨q, _, by omega, rfl, by omega, by omega, by rw [HTS.out]; exact HO5.out, ((HB2.out.drew).alloc (by simp; omega) _).grown HG5.out (by simp; omega) (fun z hz => by have := (HOD.out.lt z hz).1; omega), HP8.out, by have := HG5.out.size; simp at this; omega⟩
                case measure => first | omega | (simp [intOf]; done) | (simp [intOf]; omega)
    · skip
      obtain ⟨m, rfl⟩ := Int.eq_ofNat_of_zero_le hcl0
      have HBS := hide (fun x y W h h' => bes_any x y w.heap.size w1.heap.size A1 n1 c1 ps W h h')
      go_wp2_with fail
      go_loopw [9] (fun i wr => ∃ q : Nat, q ≤ m ∧ i = .int .i64 q ∧ Below w4.heap.size w4 wr) (fun i _ => m - (intOf i).toNat)
      case atStart => exact ⟨0, Nat.zero_le _, rfl, Below.refl _ _⟩
      case round =>
        obtain ⟨q, hq, rfl, hbel⟩ := hrel
        have HB1 := hide hbel
        have y1 := hbel.size
        clear hbel
        cases t
        · have h5 := h4.trans (HB1.out.mono (by omega))
          have HP5 := hide (HP4.out.below HB1.out (by omega))
          have y5 : w1.heap.size ≤ wr.heap.size := by omega
          clear HBS
          by_cases hqm : (q : Int) < (m : Int)
          · go_wp2_with fail
            obtain ⟨w4, hwr⟩ : ∃ w4 : World, w4 = wr := ⟨_, rfl⟩
            subst hwr
            have hy5 : w.heap.size ≤ w4.heap.size := h5.size
            have hy6 : w1.heap.size ≤ w4.heap.size := by omega
            have HO0 := hide (own_litK (α := Pr) (k := 2) (enc := encPr) w4 37 w.heap.size (by omega) rfl)
            have L0 := hide (show Below w.heap.size w (w4.alloc (.cells #[] 37)) from h5.alloc hy5 _)
            have HP6 := hide (HP5.out.alloc hy6 (.cells #[] 37))
            clear h5 HP5 HB1
            go_loopw [11, 12] (fun o i wr => ∃ (j : Nat) (z : Int), j ≤ n1 ∧ i = .int .i64 z ∧ z + 1 ≤ j ∧ (j : Int) ≤ z + 1 ∧ Own 2 encPr 37 wr w1.heap.size o (turnL (ps.drop j)) ∧ Below w.heap.size w wr ∧ SlK 2 encPr wr w.heap.size w1.heap.size A1 n1 c1 ps ∧ w1.heap.size ≤ wr.heap.size) (fun _ i _ => (intOf i + 1).toNat)
            case atStart => exact ⟨n1, _, Nat.le_refl _, rfl, by omega, by omega, by rw [List.drop_of_length_le (by rw [HPL.out]; exact Nat.le_refl _)]; exact own_litK (α := Pr) (k := 2) (enc := encPr) w4 37 w1.heap.size (by omega) rfl, L0.out, HP6.out, by simp; omega⟩
            case round =>
              clear HO0 L0 HP6
              obtain ⟨j, z, hj, rfl, hz1, hz2, ho, hbel, hsp, y7⟩ := hrel
              have HO := hide ho
              have HB2 := hide hbel
              have HP7 := hide hsp
              have y8 := hbel.size
              clear ho hbel hsp
              rcases Nat.eq_zero_or_pos j with h0 | h0
              · have hz : z < 0 := by omega
                have hz' : ¬ (0 ≤ z) := by omega
                obtain ⟨mo, hmo⟩ : ∃ mo, (turnL (ps.drop j)).length = mo := ⟨_, rfl⟩
                obtain ⟨Ao, co, rfl, so⟩ := Own.slk' encPr_len hmo HO.out
                have SO := hide so
                have HTT := hide (show tableB (turnL (ps.drop j)) (m : Int) = false by rw [h0, List.drop_zero, tableB_turn]; exact HT.out)
                have HTC := hide (tableOk_any (m : Int) w1.heap.size wr.heap.size Ao mo co _ wr SO.out (Nat.le_refl _))
                rw [HTT.out] at HTC
                clear hmo so HO SO h0 hz1 hz2 HTT
                go_wp2_with fail
                refine HTC.out.mono ?_
                rintro e w9 ⟨rfl, hb9⟩
                go_wp2_with fail
                go_ret
                exact ⟨rfl, HB2.out.trans (hb9.mono (by omega))⟩
              · obtain ⟨q, rfl⟩ : ∃ q : Nat, j = q + 1 := ⟨j - 1, by omega⟩
                obtain rfl : z = (q : Int) := by omega
                have hqn : q < n1 := by omega
                obtain ⟨b0, off, x, hx, rfl, _, hb0, d0, d1, _, _⟩ := HP7.out.pr hqn
                have HTS := hide (turn_step hx)
                have HXQ := hide hx
                have hnl : (turnL (ps.drop (q + 1))).length ≤ 4194304 := by unfold turnL; rw [List.length_map, List.length_reverse, List.length_drop, HPL.out]; omega
                have q0 : (0 : Int) ≤ (q : Int) := by omega
                have q1 : (q : Int) < (n1 : Int) := by omega
                have q2 : b0 < wr.heap.size := by omega
                have HOD := hide HO.out.drew
                clear hx
                go_wp2_with fail
                refine wp_region_held_drew (S := (fun w' => w'.cell? ⟨b0, off + q * 2, none⟩ = some (.int .i64 x.a) ∧ w'.cell? ⟨b0, off + q * 2 + 1, none⟩ = some (.int .i64 x.b))) (by kernel_rfl) ?hS0 (fun hHeld => ?_)
                case hS0 => (go_keep)
                refine wpAnyH_take (i := 0) (v := ?_) rfl (by kernel_rfl) (by kernel_rfl) (by kernel_rfl) (fun _ _ _ h => h) (Or.inl ⟨by rfl, ?_⟩) (by assumption) ?_
                rotate_left 1
                · intro w hSw
                  try dsimp only at hSw
                  go_simp
                  try with_reducible rfl
                simp only [Act.put, List.getElem_toArray, List.getElem_cons_succ, List.getElem_cons_zero, List.setIfInBounds_toArray, List.set_cons_zero, List.set_cons_succ]
                refine wpAnyH_take (i := 1) (v := ?_) rfl (by kernel_rfl) (by kernel_rfl) (by kernel_rfl) (fun _ _ _ h => h) (Or.inl ⟨by rfl, ?_⟩) (by assumption) ?_
                rotate_left 1
                · intro w hSw
                  try dsimp only at hSw
                  go_simp
                  try with_reducible rfl
                simp only [Act.put, List.getElem_toArray, List.getElem_cons_succ, List.getElem_cons_zero, List.setIfInBounds_toArray, List.set_cons_zero, List.set_cons_succ]
                refine wpAnyH_take (i := 2) (v := ?_) rfl (by kernel_rfl) (by kernel_rfl) (by kernel_rfl) (fun _ _ _ h => h) (Or.inl ⟨by rfl, ?_⟩) (by assumption) ?_
                rotate_left 1
                · intro w hSw
                  try dsimp only at hSw
                  go_simp
                  try with_reducible rfl
                simp only [Act.put, List.getElem_toArray, List.getElem_cons_succ, List.getElem_cons_zero, List.setIfInBounds_toArray, List.set_cons_zero, List.set_cons_succ]
                refine wpAnyH_take (i := 3) (v := ?_) rfl (by kernel_rfl) (by kernel_rfl) (by kernel_rfl) (fun _ _ _ h => h) (Or.inl ⟨by rfl, ?_⟩) (by assumption) ?_
                rotate_left 1
                · intro w hSw
                  try dsimp only at hSw
                  go_simp
                  try with_reducible rfl
                simp only [Act.put, List.getElem_toArray, List.getElem_cons_succ, List.getElem_cons_zero, List.setIfInBounds_toArray, List.set_cons_zero, List.set_cons_succ]
                refine wpAnyH_take (i := 4) (v := ?_) rfl (by kernel_rfl) (by kernel_rfl) (by kernel_rfl) (fun _ _ _ h => h) (Or.inl ⟨by rfl, ?_⟩) (by assumption) ?_
                rotate_left 1
                · intro w hSw
                  try dsimp only at hSw
                  go_simp
                  try with_reducible rfl
                simp only [Act.put, List.getElem_toArray, List.getElem_cons_succ, List.getElem_cons_zero, List.setIfInBounds_toArray, List.set_cons_zero, List.set_cons_succ]
                refine wpAnyH_take (i := 5) (v := ?_) rfl (by kernel_rfl) (by kernel_rfl) (by kernel_rfl) (fun _ _ _ h => h) (Or.inl ⟨by rfl, ?_⟩) (by assumption) ?_
                rotate_left 1
                · intro w hSw
                  try dsimp only at hSw
                  go_simp
                  try with_reducible rfl
                simp only [Act.put, List.getElem_toArray, List.getElem_cons_succ, List.getElem_cons_zero, List.setIfInBounds_toArray, List.set_cons_zero, List.set_cons_succ]
                refine wpAnyH_take (i := 6) (v := ?_) rfl (by kernel_rfl) (by kernel_rfl) (by kernel_rfl) (fun _ _ _ h => h) (Or.inl ⟨by rfl, ?_⟩) (by assumption) ?_
                rotate_left 1
                · intro w hSw
                  try dsimp only at hSw
                  go_simp
                  try with_reducible rfl
                simp only [Act.put, List.getElem_toArray, List.getElem_cons_succ, List.getElem_cons_zero, List.setIfInBounds_toArray, List.set_cons_zero, List.set_cons_succ]
                refine wpAnyH_take (i := 7) (v := ?_) rfl (by kernel_rfl) (by kernel_rfl) (by kernel_rfl) (fun _ _ _ h => h) (Or.inl ⟨by rfl, ?_⟩) (by assumption) ?_
                rotate_left 1
                · intro w hSw
                  try dsimp only at hSw
                  go_simp
                  try with_reducible rfl
                simp only [Act.put, List.getElem_toArray, List.getElem_cons_succ, List.getElem_cons_zero, List.setIfInBounds_toArray, List.set_cons_zero, List.set_cons_succ]
                refine wpAnyH_take (i := 8) (v := ?_) rfl (by kernel_rfl) (by kernel_rfl) (by kernel_rfl) (fun _ _ _ h => h) (Or.inl ⟨by rfl, ?_⟩) (by assumption) ?_
                rotate_left 1
                · intro w hSw
                  try dsimp only at hSw
                  go_simp
                  try with_reducible rfl
                simp only [Act.put, List.getElem_toArray, List.getElem_cons_succ, List.getElem_cons_zero, List.setIfInBounds_toArray, List.set_cons_zero, List.set_cons_succ]
                refine wpAnyH_take (i := 9) (v := ?_) rfl (by kernel_rfl) (by kernel_rfl) (by kernel_rfl) (fun _ _ _ h => h) (Or.inl ⟨by rfl, ?_⟩) (by assumption) ?_
                rotate_left 1
                · intro w hSw
                  try dsimp only at hSw
                  go_simp
                  try with_reducible rfl
                simp only [Act.put, List.getElem_toArray, List.getElem_cons_succ, List.getElem_cons_zero, List.setIfInBounds_toArray, List.set_cons_zero, List.set_cons_succ]
                refine wpAnyH_take (i := 10) (v := ?_) rfl (by kernel_rfl) (by kernel_rfl) (by kernel_rfl) (fun _ _ _ h => h) (Or.inl ⟨by rfl, ?_⟩) (by assumption) ?_
                rotate_left 1
                · intro w hSw
                  try dsimp only at hSw
                  go_simp
                  try with_reducible rfl
                simp only [Act.put, List.getElem_toArray, List.getElem_cons_succ, List.getElem_cons_zero, List.setIfInBounds_toArray, List.set_cons_zero, List.set_cons_succ]
                refine wpAnyH_take (i := 11) (v := ?_) rfl (by kernel_rfl) (by kernel_rfl) (by kernel_rfl) (fun _ _ _ h => h) (Or.inl ⟨by rfl, ?_⟩) (by assumption) ?_
                rotate_left 1
                · intro w hSw
                  try dsimp only at hSw
                  go_simp
                  try with_reducible rfl
                simp only [Act.put, List.getElem_toArray, List.getElem_cons_succ, List.getElem_cons_zero, List.setIfInBounds_toArray, List.set_cons_zero, List.set_cons_succ]
                refine wpAnyH_ready (rs := [12]) (by kernel_rfl) (by simp) ?_
                refine AllReadyH.cons rfl (fun K hK => ?_) AllReadyH.nil
                go_simp
                refine hK.out _ _ ?hS1 (fun hHeld => ?_)
                case hS1 => (try dsimp only); (go_keep)
                clear hK K
                try simp only [Act.put, List.getElem_toArray, List.getElem_cons_succ, List.getElem_cons_zero, List.setIfInBounds_toArray, List.set_cons_zero, List.set_cons_succ]
                have HO4 := hide (HOD.out.alloc (.cells #[.int .i64 x.b, .int .i64 x.a] 37))
                refine wpAnyH_ready (rs := [13]) (by kernel_rfl) (by simp) ?_
                refine AllReadyH.cons rfl (fun K hK => ?_) AllReadyH.nil
                refine step_app rfl (.tmp 78) (.tmp 90) rfl (by simp [Act.eval]) (by simp [Act.eval]) (appPr HOD.out (by simp; omega) hnl [swapP x] 1 _ rfl (by omega) rfl) ?_
                intro v4 w4x ho4 hg4 hat4
                have HO5 := hide ho4
                have HG5 := hide hg4
                have HP8 := hide (slk_gr ((HP7.out.drew).alloc (by simp; omega) _) hg4 (by simp; omega) (fun z hz => .inr (HOD.out.lt z hz).1))
                obtain ⟨b0', off', x', hx', e1, _, hb0', d0', d1', _, _⟩ := HP8.out.pr hqn
                injection e1 with e1
                injection e1 with e1 e2
                subst e1 e2
                obtain rfl : x' = x := by have := HXQ.out; rw [hx'] at this; exact Option.some.inj this
                clear ho4 hg4 hat4 hx'
                refine hK.out _ _ ?hS1 (fun hHeld => ?_)
                case hS1 => (try dsimp only); (go_keep)
                clear hK K
                try simp only [Act.put, List.getElem_toArray, List.getElem_cons_succ, List.getElem_cons_zero, List.setIfInBounds_toArray, List.set_cons_zero, List.set_cons_succ]
                refine wpAnyH_ready (rs := [14]) (by kernel_rfl) (by simp) ?_
                refine AllReadyH.cons rfl (fun K hK => ?_) AllReadyH.nil
                go_simp
                refine hK.out _ _ ?hS1 (fun hHeld => ?_)
                case hS1 => (try dsimp only); (go_keep)
                clear hK K
                try simp only [Act.put, List.getElem_toArray, List.getElem_cons_succ, List.getElem_cons_zero, List.setIfInBounds_toArray, List.set_cons_zero, List.set_cons_succ]
                refine wpAnyH_done (by kernel_rfl) ?_ _
                go_wp2_with fail
                go_roundw
                case rel => exact ⟨q, _, by omega, rfl, by omega, by omega, by rw [HTS.out]; exact HO5.out, ((HB2.out.drew).alloc (by simp; omega) _).grown HG5.out (by simp; omega) (fun z hz => by have := (HOD.out.lt z hz).1; omega), HP8.out, by have := HG5.out.size; simp at this; omega⟩
                case measure => first | omega | (simp [intOf]; done) | (simp [intOf]; omega)
          · go_wp2_with fail
            obtain ⟨w4, hwr⟩ : ∃ w4 : World, w4 = wr := ⟨_, rfl⟩
            subst hwr
            have hy5 : w.heap.size ≤ w4.heap.size := h5.size
            have hy6 : w1.heap.size ≤ w4.heap.size := by omega
            have HO0 := hide (own_litK (α := Pr) (k := 2) (enc := encPr) w4 37 w.heap.size (by omega) rfl)
            have L0 := hide (show Below w.heap.size w (w4.alloc (.cells #[] 37)) from h5.alloc hy5 _)
            have HP6 := hide (HP5.out.alloc hy6 (.cells #[] 37))
            clear h5 HP5 HB1
            go_loopw [11, 12] (fun o i wr => ∃ (j : Nat) (z : Int), j ≤ n1 ∧ i = .int .i64 z ∧ z + 1 ≤ j ∧ (j : Int) ≤ z + 1 ∧ Own 2 encPr 37 wr w1.heap.size o (turnL (ps.drop j)) ∧ Below w.heap.size w wr ∧ SlK 2 encPr wr w.heap.size w1.heap.size A1 n1 c1 ps ∧ w1.heap.size ≤ wr.heap.size) (fun _ i _ => (intOf i + 1).toNat)
            case atStart => exact ⟨n1, _, Nat.le_refl _, rfl, by omega, by omega, by rw [List.drop_of_length_le (by rw [HPL.out]; exact Nat.le_refl _)]; exact own_litK (α := Pr) (k := 2) (enc := encPr) w4 37 w1.heap.size (by omega) rfl, L0.out, HP6.out, by simp; omega⟩
            case round =>
              clear HO0 L0 HP6
              obtain ⟨j, z, hj, rfl, hz1, hz2, ho, hbel, hsp, y7⟩ := hrel
              have HO := hide ho
              have HB2 := hide hbel
              have HP7 := hide hsp
              have y8 := hbel.size
              clear ho hbel hsp
              rcases Nat.eq_zero_or_pos j with h0 | h0
              · have hz : z < 0 := by omega
                have hz' : ¬ (0 ≤ z) := by omega
                obtain ⟨mo, hmo⟩ : ∃ mo, (turnL (ps.drop j)).length = mo := ⟨_, rfl⟩
                obtain ⟨Ao, co, rfl, so⟩ := Own.slk' encPr_len hmo HO.out
                have SO := hide so
                have HTT := hide (show tableB (turnL (ps.drop j)) (m : Int) = false by rw [h0, List.drop_zero, tableB_turn]; exact HT.out)
                have HTC := hide (tableOk_any (m : Int) w1.heap.size wr.heap.size Ao mo co _ wr SO.out (Nat.le_refl _))
                rw [HTT.out] at HTC
                clear hmo so HO SO h0 hz1 hz2 HTT
                go_wp2_with fail
                refine HTC.out.mono ?_
                rintro e w9 ⟨rfl, hb9⟩
                go_wp2_with fail
                go_ret
                exact ⟨rfl, HB2.out.trans (hb9.mono (by omega))⟩
              · obtain ⟨q, rfl⟩ : ∃ q : Nat, j = q + 1 := ⟨j - 1, by omega⟩
                obtain rfl : z = (q : Int) := by omega
                have hqn : q < n1 := by omega
                obtain ⟨b0, off, x, hx, rfl, _, hb0, d0, d1, _, _⟩ := HP7.out.pr hqn
                have HTS := hide (turn_step hx)
                have HXQ := hide hx
                have hnl : (turnL (ps.drop (q + 1))).length ≤ 4194304 := by unfold turnL; rw [List.length_map, List.length_reverse, List.length_drop, HPL.out]; omega
                have q0 : (0 : Int) ≤ (q : Int) := by omega
                have q1 : (q : Int) < (n1 : Int) := by omega
                have q2 : b0 < wr.heap.size := by omega
                have HOD := hide HO.out.drew
                clear hx
                go_wp2_with fail
                refine wp_region_held_drew (S := (fun w' => w'.cell? ⟨b0, off + q * 2, none⟩ = some (.int .i64 x.a) ∧ w'.cell? ⟨b0, off + q * 2 + 1, none⟩ = some (.int .i64 x.b))) (by kernel_rfl) ?hS0 (fun hHeld => ?_)
                case hS0 => (go_keep)
                refine wpAnyH_take (i := 0) (v := ?_) rfl (by kernel_rfl) (by kernel_rfl) (by kernel_rfl) (fun _ _ _ h => h) (Or.inl ⟨by rfl, ?_⟩) (by assumption) ?_
                rotate_left 1
                · intro w hSw
                  try dsimp only at hSw
                  go_simp
                  try with_reducible rfl
                simp only [Act.put, List.getElem_toArray, List.getElem_cons_succ, List.getElem_cons_zero, List.setIfInBounds_toArray, List.set_cons_zero, List.set_cons_succ]
                refine wpAnyH_take (i := 1) (v := ?_) rfl (by kernel_rfl) (by kernel_rfl) (by kernel_rfl) (fun _ _ _ h => h) (Or.inl ⟨by rfl, ?_⟩) (by assumption) ?_
                rotate_left 1
                · intro w hSw
                  try dsimp only at hSw
                  go_simp
                  try with_reducible rfl
                simp only [Act.put, List.getElem_toArray, List.getElem_cons_succ, List.getElem_cons_zero, List.setIfInBounds_toArray, List.set_cons_zero, List.set_cons_succ]
                refine wpAnyH_take (i := 2) (v := ?_) rfl (by kernel_rfl) (by kernel_rfl) (by kernel_rfl) (fun _ _ _ h => h) (Or.inl ⟨by rfl, ?_⟩) (by assumption) ?_
                rotate_left 1
                · intro w hSw
                  try dsimp only at hSw
                  go_simp
                  try with_reducible rfl
                simp only [Act.put, List.getElem_toArray, List.getElem_cons_succ, List.getElem_cons_zero, List.setIfInBounds_toArray, List.set_cons_zero, List.set_cons_succ]
                refine wpAnyH_take (i := 3) (v := ?_) rfl (by kernel_rfl) (by kernel_rfl) (by kernel_rfl) (fun _ _ _ h => h) (Or.inl ⟨by rfl, ?_⟩) (by assumption) ?_
                rotate_left 1
                · intro w hSw
                  try dsimp only at hSw
                  go_simp
                  try with_reducible rfl
                simp only [Act.put, List.getElem_toArray, List.getElem_cons_succ, List.getElem_cons_zero, List.setIfInBounds_toArray, List.set_cons_zero, List.set_cons_succ]
                refine wpAnyH_take (i := 4) (v := ?_) rfl (by kernel_rfl) (by kernel_rfl) (by kernel_rfl) (fun _ _ _ h => h) (Or.inl ⟨by rfl, ?_⟩) (by assumption) ?_
                rotate_left 1
                · intro w hSw
                  try dsimp only at hSw
                  go_simp
                  try with_reducible rfl
                simp only [Act.put, List.getElem_toArray, List.getElem_cons_succ, List.getElem_cons_zero, List.setIfInBounds_toArray, List.set_cons_zero, List.set_cons_succ]
                refine wpAnyH_take (i := 5) (v := ?_) rfl (by kernel_rfl) (by kernel_rfl) (by kernel_rfl) (fun _ _ _ h => h) (Or.inl ⟨by rfl, ?_⟩) (by assumption) ?_
                rotate_left 1
                · intro w hSw
                  try dsimp only at hSw
                  go_simp
                  try with_reducible rfl
                simp only [Act.put, List.getElem_toArray, List.getElem_cons_succ, List.getElem_cons_zero, List.setIfInBounds_toArray, List.set_cons_zero, List.set_cons_succ]
                refine wpAnyH_take (i := 6) (v := ?_) rfl (by kernel_rfl) (by kernel_rfl) (by kernel_rfl) (fun _ _ _ h => h) (Or.inl ⟨by rfl, ?_⟩) (by assumption) ?_
                rotate_left 1
                · intro w hSw
                  try dsimp only at hSw
                  go_simp
                  try with_reducible rfl
                simp only [Act.put, List.getElem_toArray, List.getElem_cons_succ, List.getElem_cons_zero, List.setIfInBounds_toArray, List.set_cons_zero, List.set_cons_succ]
                refine wpAnyH_take (i := 7) (v := ?_) rfl (by kernel_rfl) (by kernel_rfl) (by kernel_rfl) (fun _ _ _ h => h) (Or.inl ⟨by rfl, ?_⟩) (by assumption) ?_
                rotate_left 1
                · intro w hSw
                  try dsimp only at hSw
                  go_simp
                  try with_reducible rfl
                simp only [Act.put, List.getElem_toArray, List.getElem_cons_succ, List.getElem_cons_zero, List.setIfInBounds_toArray, List.set_cons_zero, List.set_cons_succ]
                refine wpAnyH_take (i := 8) (v := ?_) rfl (by kernel_rfl) (by kernel_rfl) (by kernel_rfl) (fun _ _ _ h => h) (Or.inl ⟨by rfl, ?_⟩) (by assumption) ?_
                rotate_left 1
                · intro w hSw
                  try dsimp only at hSw
                  go_simp
                  try with_reducible rfl
                simp only [Act.put, List.getElem_toArray, List.getElem_cons_succ, List.getElem_cons_zero, List.setIfInBounds_toArray, List.set_cons_zero, List.set_cons_succ]
                refine wpAnyH_take (i := 9) (v := ?_) rfl (by kernel_rfl) (by kernel_rfl) (by kernel_rfl) (fun _ _ _ h => h) (Or.inl ⟨by rfl, ?_⟩) (by assumption) ?_
                rotate_left 1
                · intro w hSw
                  try dsimp only at hSw
                  go_simp
                  try with_reducible rfl
                simp only [Act.put, List.getElem_toArray, List.getElem_cons_succ, List.getElem_cons_zero, List.setIfInBounds_toArray, List.set_cons_zero, List.set_cons_succ]
                refine wpAnyH_take (i := 10) (v := ?_) rfl (by kernel_rfl) (by kernel_rfl) (by kernel_rfl) (fun _ _ _ h => h) (Or.inl ⟨by rfl, ?_⟩) (by assumption) ?_
                rotate_left 1
                · intro w hSw
                  try dsimp only at hSw
                  go_simp
                  try with_reducible rfl
                simp only [Act.put, List.getElem_toArray, List.getElem_cons_succ, List.getElem_cons_zero, List.setIfInBounds_toArray, List.set_cons_zero, List.set_cons_succ]
                refine wpAnyH_take (i := 11) (v := ?_) rfl (by kernel_rfl) (by kernel_rfl) (by kernel_rfl) (fun _ _ _ h => h) (Or.inl ⟨by rfl, ?_⟩) (by assumption) ?_
                rotate_left 1
                · intro w hSw
                  try dsimp only at hSw
                  go_simp
                  try with_reducible rfl
                simp only [Act.put, List.getElem_toArray, List.getElem_cons_succ, List.getElem_cons_zero, List.setIfInBounds_toArray, List.set_cons_zero, List.set_cons_succ]
                refine wpAnyH_ready (rs := [12]) (by kernel_rfl) (by simp) ?_
                refine AllReadyH.cons rfl (fun K hK => ?_) AllReadyH.nil
                go_simp
                refine hK.out _ _ ?hS1 (fun hHeld => ?_)
                case hS1 => (try dsimp only); (go_keep)
                clear hK K
                try simp only [Act.put, List.getElem_toArray, List.getElem_cons_succ, List.getElem_cons_zero, List.setIfInBounds_toArray, List.set_cons_zero, List.set_cons_succ]
                have HO4 := hide (HOD.out.alloc (.cells #[.int .i64 x.b, .int .i64 x.a] 37))
                refine wpAnyH_ready (rs := [13]) (by kernel_rfl) (by simp) ?_
                refine AllReadyH.cons rfl (fun K hK => ?_) AllReadyH.nil
                refine step_app rfl (.tmp 78) (.tmp 90) rfl (by simp [Act.eval]) (by simp [Act.eval]) (appPr HOD.out (by simp; omega) hnl [swapP x] 1 _ rfl (by omega) rfl) ?_
                intro v4 w4x ho4 hg4 hat4
                have HO5 := hide ho4
                have HG5 := hide hg4
                have HP8 := hide (slk_gr ((HP7.out.drew).alloc (by simp; omega) _) hg4 (by simp; omega) (fun z hz => .inr (HOD.out.lt z hz).1))
                obtain ⟨b0', off', x', hx', e1, _, hb0', d0', d1', _, _⟩ := HP8.out.pr hqn
                injection e1 with e1
                injection e1 with e1 e2
                subst e1 e2
                obtain rfl : x' = x := by have := HXQ.out; rw [hx'] at this; exact Option.some.inj this
                clear ho4 hg4 hat4 hx'
                refine hK.out _ _ ?hS1 (fun hHeld => ?_)
                case hS1 => (try dsimp only); (go_keep)
                clear hK K
                try simp only [Act.put, List.getElem_toArray, List.getElem_cons_succ, List.getElem_cons_zero, List.setIfInBounds_toArray, List.set_cons_zero, List.set_cons_succ]
                refine wpAnyH_ready (rs := [14]) (by kernel_rfl) (by simp) ?_
                refine AllReadyH.cons rfl (fun K hK => ?_) AllReadyH.nil
                go_simp
                refine hK.out _ _ ?hS1 (fun hHeld => ?_)
                case hS1 => (try dsimp only); (go_keep)
                clear hK K
                try simp only [Act.put, List.getElem_toArray, List.getElem_cons_succ, List.getElem_cons_zero, List.setIfInBounds_toArray, List.set_cons_zero, List.set_cons_succ]
                refine wpAnyH_done (by kernel_rfl) ?_ _
                go_wp2_with fail
                go_roundw
                case rel => exact ⟨q, _, by omega, rfl, by omega, by omega, by rw [HTS.out]; exact HO5.out, ((HB2.out.drew).alloc (by simp; omega) _).grown HG5.out (by simp; omega) (fun z hz => by have := (HOD.out.lt z hz).1; omega), HP8.out, by have := HG5.out.size; simp at this; omega⟩
                case measure => first | omega | (simp [intOf]; done) | (simp [intOf]; omega)
        · have HSE := hide (fun (a : Nat) (h : (a : Int) < (m : Int)) => table_self' HT.out h)
          have HSA := hide (fun (a b : Nat) (ha : (a : Int) < (m : Int)) (hb : (b : Int) < (m : Int)) => table_same' HT.out ha hb)
          by_cases hlt : q < m
          · have q1 : (q : Int) < (m : Int) := by omega
            have HC := hide (HBS.out q q wr (HP4.out.below HB1.out (by omega)) (by omega))
            rw [HSE.out q q1] at HC
            go_wp2_with (go_at_call 21; refine HC.out.mono ?_; rintro e w5 ⟨rfl, hb5⟩)
            have y5 := hb5.size
            have HB5 := hide (HB1.out.trans (hb5.mono (by omega)))
            clear hb5 HB1 HC
            go_loopw [10] (fun i wr => ∃ p : Nat, p ≤ m ∧ i = .int .i64 p ∧ Below w4.heap.size w4 wr) (fun i _ => m - (intOf i).toNat)
            case atStart => exact ⟨0, Nat.zero_le _, rfl, HB5.out⟩
            case round =>
              clear HB5
              obtain ⟨p, hp, rfl, hbel⟩ := hrel
              have HB2 := hide hbel
              have y2 := hbel.size
              clear hbel
              by_cases hlt2 : p < m
              · have p1 : (p : Int) < (m : Int) := by omega
                have HC1 := hide (HBS.out q p wr (HP4.out.below HB2.out (by omega)) (by omega))
                have HC2 := hide (fun W (h : Below wr.heap.size wr W) => HBS.out p q W ((HP4.out.below HB2.out (by omega)).below h (by omega)) (by have := h.size; omega))
                rw [HSA.out q p q1 p1] at HC1
                obtain ⟨t2, ht2⟩ : ∃ t, besB ps p q = t := ⟨_, rfl⟩
                rw [ht2] at HC1 HC2
                clear ht2
                cases t2
                · go_wp2_with fail
                  refine HC1.out.mono ?_
                  rintro e w6 ⟨rfl, hb6⟩
                  go_wp2_with fail
                  refine (HC2.out _ hb6).mono ?_
                  rintro e w7 ⟨rfl, hb7⟩
                  go_wp2_with fail
                  go_roundw
                  case rel => exact ⟨p + 1, by omega, by go_num, (HB2.out.trans (hb6.mono (by omega))).trans (hb7.mono (by have := hb6.size; omega))⟩
                  case measure => first | omega | (simp [intOf]; done) | (simp [intOf]; omega)
                · go_wp2_with fail
                  refine HC1.out.mono ?_
                  rintro e w6 ⟨rfl, hb6⟩
                  go_wp2_with fail
                  refine (HC2.out _ hb6).mono ?_
                  rintro e w7 ⟨rfl, hb7⟩
                  go_wp2_with fail
                  go_roundw
                  case rel => exact ⟨p + 1, by omega, by go_num, (HB2.out.trans (hb6.mono (by omega))).trans (hb7.mono (by have := hb6.size; omega))⟩
                  case measure => first | omega | (simp [intOf]; done) | (simp [intOf]; omega)
              · have hge2 : m ≤ p := by omega
                clear hlt2
                go_wp2_with fail
                go_roundw
                case rel => exact ⟨q + 1, by omega, by go_num, HB2.out⟩
                case measure => first | omega | (simp [intOf]; done) | (simp [intOf]; omega)
          · have hge : m ≤ q := by omega
            clear hlt
            have h5 := h4.trans (HB1.out.mono (by omega))
            have HP5 := hide (HP4.out.below HB1.out (by omega))
            have y5 : w1.heap.size ≤ wr.heap.size := by omega
            have hge' : ¬ ((q : Int) < (m : Int)) := by omega
            clear hge hq
            clear HSE HSA HBS
            go_wp2_with fail
            obtain ⟨w4, hwr⟩ : ∃ w4 : World, w4 = wr := ⟨_, rfl⟩
            subst hwr
            have hy5 : w.heap.size ≤ w4.heap.size := h5.size
            have hy6 : w1.heap.size ≤ w4.heap.size := by omega
            have HO0 := hide (own_litK (α := Pr) (k := 2) (enc := encPr) w4 37 w.heap.size (by omega) rfl)
            have L0 := hide (show Below w.heap.size w (w4.alloc (.cells #[] 37)) from h5.alloc hy5 _)
            have HP6 := hide (HP5.out.alloc hy6 (.cells #[] 37))
            clear h5 HP5 HB1
            go_loopw [11, 12] (fun o i wr => ∃ (j : Nat) (z : Int), j ≤ n1 ∧ i = .int .i64 z ∧ z + 1 ≤ j ∧ (j : Int) ≤ z + 1 ∧ Own 2 encPr 37 wr w1.heap.size o (turnL (ps.drop j)) ∧ Below w.heap.size w wr ∧ SlK 2 encPr wr w.heap.size w1.heap.size A1 n1 c1 ps ∧ w1.heap.size ≤ wr.heap.size) (fun _ i _ => (intOf i + 1).toNat)
            case atStart => exact ⟨n1, _, Nat.le_refl _, rfl, by omega, by omega, by rw [List.drop_of_length_le (by rw [HPL.out]; exact Nat.le_refl _)]; exact own_litK (α := Pr) (k := 2) (enc := encPr) w4 37 w1.heap.size (by omega) rfl, L0.out, HP6.out, by simp; omega⟩
            case round =>
              clear HO0 L0 HP6
              obtain ⟨j, z, hj, rfl, hz1, hz2, ho, hbel, hsp, y7⟩ := hrel
              have HO := hide ho
              have HB2 := hide hbel
              have HP7 := hide hsp
              have y8 := hbel.size
              clear ho hbel hsp
              rcases Nat.eq_zero_or_pos j with h0 | h0
              · have hz : z < 0 := by omega
                have hz' : ¬ (0 ≤ z) := by omega
                obtain ⟨mo, hmo⟩ : ∃ mo, (turnL (ps.drop j)).length = mo := ⟨_, rfl⟩
                obtain ⟨Ao, co, rfl, so⟩ := Own.slk' encPr_len hmo HO.out
                have SO := hide so
                have HTT := hide (show tableB (turnL (ps.drop j)) (m : Int) = true by rw [h0, List.drop_zero, tableB_turn]; exact HT.out)
                have HTC := hide (tableOk_any (m : Int) w1.heap.size wr.heap.size Ao mo co _ wr SO.out (Nat.le_refl _))
                rw [HTT.out] at HTC
                clear hmo so HO SO h0 hz1 hz2 HTT
                go_wp2_with fail
                refine HTC.out.mono ?_
                rintro e w9 ⟨rfl, hb9⟩
                go_wp2_with fail
                go_ret
                exact ⟨rfl, HB2.out.trans (hb9.mono (by omega))⟩
              · obtain ⟨q, rfl⟩ : ∃ q : Nat, j = q + 1 := ⟨j - 1, by omega⟩
                obtain rfl : z = (q : Int) := by omega
                have hqn : q < n1 := by omega
                obtain ⟨b0, off, x, hx, rfl, _, hb0, d0, d1, _, _⟩ := HP7.out.pr hqn
                have HTS := hide (turn_step hx)
                have HXQ := hide hx
                have hnl : (turnL (ps.drop (q + 1))).length ≤ 4194304 := by unfold turnL; rw [List.length_map, List.length_reverse, List.length_drop, HPL.out]; omega
                have q0 : (0 : Int) ≤ (q : Int) := by omega
                have q1 : (q : Int) < (n1 : Int) := by omega
                have q2 : b0 < wr.heap.size := by omega
                have HOD := hide HO.out.drew
                clear hx
                go_wp2_with fail
                refine wp_region_held_drew (S := (fun w' => w'.cell? ⟨b0, off + q * 2, none⟩ = some (.int .i64 x.a) ∧ w'.cell? ⟨b0, off + q * 2 + 1, none⟩ = some (.int .i64 x.b))) (by kernel_rfl) ?hS0 (fun hHeld => ?_)
                case hS0 => (go_keep)
                refine wpAnyH_take (i := 0) (v := ?_) rfl (by kernel_rfl) (by kernel_rfl) (by kernel_rfl) (fun _ _ _ h => h) (Or.inl ⟨by rfl, ?_⟩) (by assumption) ?_
                rotate_left 1
                · intro w hSw
                  try dsimp only at hSw
                  go_simp
                  try with_reducible rfl
                simp only [Act.put, List.getElem_toArray, List.getElem_cons_succ, List.getElem_cons_zero, List.setIfInBounds_toArray, List.set_cons_zero, List.set_cons_succ]
                refine wpAnyH_take (i := 1) (v := ?_) rfl (by kernel_rfl) (by kernel_rfl) (by kernel_rfl) (fun _ _ _ h => h) (Or.inl ⟨by rfl, ?_⟩) (by assumption) ?_
                rotate_left 1
                · intro w hSw
                  try dsimp only at hSw
                  go_simp
                  try with_reducible rfl
                simp only [Act.put, List.getElem_toArray, List.getElem_cons_succ, List.getElem_cons_zero, List.setIfInBounds_toArray, List.set_cons_zero, List.set_cons_succ]
                refine wpAnyH_take (i := 2) (v := ?_) rfl (by kernel_rfl) (by kernel_rfl) (by kernel_rfl) (fun _ _ _ h => h) (Or.inl ⟨by rfl, ?_⟩) (by assumption) ?_
                rotate_left 1
                · intro w hSw
                  try dsimp only at hSw
                  go_simp
                  try with_reducible rfl
                simp only [Act.put, List.getElem_toArray, List.getElem_cons_succ, List.getElem_cons_zero, List.setIfInBounds_toArray, List.set_cons_zero, List.set_cons_succ]
                refine wpAnyH_take (i := 3) (v := ?_) rfl (by kernel_rfl) (by kernel_rfl) (by kernel_rfl) (fun _ _ _ h => h) (Or.inl ⟨by rfl, ?_⟩) (by assumption) ?_
                rotate_left 1
                · intro w hSw
                  try dsimp only at hSw
                  go_simp
                  try with_reducible rfl
                simp only [Act.put, List.getElem_toArray, List.getElem_cons_succ, List.getElem_cons_zero, List.setIfInBounds_toArray, List.set_cons_zero, List.set_cons_succ]
                refine wpAnyH_take (i := 4) (v := ?_) rfl (by kernel_rfl) (by kernel_rfl) (by kernel_rfl) (fun _ _ _ h => h) (Or.inl ⟨by rfl, ?_⟩) (by assumption) ?_
                rotate_left 1
                · intro w hSw
                  try dsimp only at hSw
                  go_simp
                  try with_reducible rfl
                simp only [Act.put, List.getElem_toArray, List.getElem_cons_succ, List.getElem_cons_zero, List.setIfInBounds_toArray, List.set_cons_zero, List.set_cons_succ]
                refine wpAnyH_take (i := 5) (v := ?_) rfl (by kernel_rfl) (by kernel_rfl) (by kernel_rfl) (fun _ _ _ h => h) (Or.inl ⟨by rfl, ?_⟩) (by assumption) ?_
                rotate_left 1
                · intro w hSw
                  try dsimp only at hSw
                  go_simp
                  try with_reducible rfl
                simp only [Act.put, List.getElem_toArray, List.getElem_cons_succ, List.getElem_cons_zero, List.setIfInBounds_toArray, List.set_cons_zero, List.set_cons_succ]
                refine wpAnyH_take (i := 6) (v := ?_) rfl (by kernel_rfl) (by kernel_rfl) (by kernel_rfl) (fun _ _ _ h => h) (Or.inl ⟨by rfl, ?_⟩) (by assumption) ?_
                rotate_left 1
                · intro w hSw
                  try dsimp only at hSw
                  go_simp
                  try with_reducible rfl
                simp only [Act.put, List.getElem_toArray, List.getElem_cons_succ, List.getElem_cons_zero, List.setIfInBounds_toArray, List.set_cons_zero, List.set_cons_succ]
                refine wpAnyH_take (i := 7) (v := ?_) rfl (by kernel_rfl) (by kernel_rfl) (by kernel_rfl) (fun _ _ _ h => h) (Or.inl ⟨by rfl, ?_⟩) (by assumption) ?_
                rotate_left 1
                · intro w hSw
                  try dsimp only at hSw
                  go_simp
                  try with_reducible rfl
                simp only [Act.put, List.getElem_toArray, List.getElem_cons_succ, List.getElem_cons_zero, List.setIfInBounds_toArray, List.set_cons_zero, List.set_cons_succ]
                refine wpAnyH_take (i := 8) (v := ?_) rfl (by kernel_rfl) (by kernel_rfl) (by kernel_rfl) (fun _ _ _ h => h) (Or.inl ⟨by rfl, ?_⟩) (by assumption) ?_
                rotate_left 1
                · intro w hSw
                  try dsimp only at hSw
                  go_simp
                  try with_reducible rfl
                simp only [Act.put, List.getElem_toArray, List.getElem_cons_succ, List.getElem_cons_zero, List.setIfInBounds_toArray, List.set_cons_zero, List.set_cons_succ]
                refine wpAnyH_take (i := 9) (v := ?_) rfl (by kernel_rfl) (by kernel_rfl) (by kernel_rfl) (fun _ _ _ h => h) (Or.inl ⟨by rfl, ?_⟩) (by assumption) ?_
                rotate_left 1
                · intro w hSw
                  try dsimp only at hSw
                  go_simp
                  try with_reducible rfl
                simp only [Act.put, List.getElem_toArray, List.getElem_cons_succ, List.getElem_cons_zero, List.setIfInBounds_toArray, List.set_cons_zero, List.set_cons_succ]
                refine wpAnyH_take (i := 10) (v := ?_) rfl (by kernel_rfl) (by kernel_rfl) (by kernel_rfl) (fun _ _ _ h => h) (Or.inl ⟨by rfl, ?_⟩) (by assumption) ?_
                rotate_left 1
                · intro w hSw
                  try dsimp only at hSw
                  go_simp
                  try with_reducible rfl
                simp only [Act.put, List.getElem_toArray, List.getElem_cons_succ, List.getElem_cons_zero, List.setIfInBounds_toArray, List.set_cons_zero, List.set_cons_succ]
                refine wpAnyH_take (i := 11) (v := ?_) rfl (by kernel_rfl) (by kernel_rfl) (by kernel_rfl) (fun _ _ _ h => h) (Or.inl ⟨by rfl, ?_⟩) (by assumption) ?_
                rotate_left 1
                · intro w hSw
                  try dsimp only at hSw
                  go_simp
                  try with_reducible rfl
                simp only [Act.put, List.getElem_toArray, List.getElem_cons_succ, List.getElem_cons_zero, List.setIfInBounds_toArray, List.set_cons_zero, List.set_cons_succ]
                refine wpAnyH_ready (rs := [12]) (by kernel_rfl) (by simp) ?_
                refine AllReadyH.cons rfl (fun K hK => ?_) AllReadyH.nil
                go_simp
                refine hK.out _ _ ?hS1 (fun hHeld => ?_)
                case hS1 => (try dsimp only); (go_keep)
                clear hK K
                try simp only [Act.put, List.getElem_toArray, List.getElem_cons_succ, List.getElem_cons_zero, List.setIfInBounds_toArray, List.set_cons_zero, List.set_cons_succ]
                have HO4 := hide (HOD.out.alloc (.cells #[.int .i64 x.b, .int .i64 x.a] 37))
                refine wpAnyH_ready (rs := [13]) (by kernel_rfl) (by simp) ?_
                refine AllReadyH.cons rfl (fun K hK => ?_) AllReadyH.nil
                refine step_app rfl (.tmp 78) (.tmp 90) rfl (by simp [Act.eval]) (by simp [Act.eval]) (appPr HOD.out (by simp; omega) hnl [swapP x] 1 _ rfl (by omega) rfl) ?_
                intro v4 w4x ho4 hg4 hat4
                have HO5 := hide ho4
                have HG5 := hide hg4
                have HP8 := hide (slk_gr ((HP7.out.drew).alloc (by simp; omega) _) hg4 (by simp; omega) (fun z hz => .inr (HOD.out.lt z hz).1))
                obtain ⟨b0', off', x', hx', e1, _, hb0', d0', d1', _, _⟩ := HP8.out.pr hqn
                injection e1 with e1
                injection e1 with e1 e2
                subst e1 e2
                obtain rfl : x' = x := by have := HXQ.out; rw [hx'] at this; exact Option.some.inj this
                clear ho4 hg4 hat4 hx'
                refine hK.out _ _ ?hS1 (fun hHeld => ?_)
                case hS1 => (try dsimp only); (go_keep)
                clear hK K
                try simp only [Act.put, List.getElem_toArray, List.getElem_cons_succ, List.getElem_cons_zero, List.setIfInBounds_toArray, List.set_cons_zero, List.set_cons_succ]
                refine wpAnyH_ready (rs := [14]) (by kernel_rfl) (by simp) ?_
                refine AllReadyH.cons rfl (fun K hK => ?_) AllReadyH.nil
                go_simp
                refine hK.out _ _ ?hS1 (fun hHeld => ?_)
                case hS1 => (try dsimp only); (go_keep)
                clear hK K
                try simp only [Act.put, List.getElem_toArray, List.getElem_cons_succ, List.getElem_cons_zero, List.setIfInBounds_toArray, List.set_cons_zero, List.set_cons_succ]
                refine wpAnyH_done (by kernel_rfl) ?_ _
                go_wp2_with fail
                go_roundw
                case rel => exact ⟨q, _, by omega, rfl, by omega, by omega, by rw [HTS.out]; exact HO5.out, ((HB2.out.drew).alloc (by simp; omega) _).grown HG5.out (by simp; omega) (fun z hz => by have := (HOD.out.lt z hz).1; omega), HP8.out, by have := HG5.out.size; simp at this; omega⟩
                case measure => first | omega | (simp [intOf]; done) | (simp [intOf]; omega)
  · go_enter Try.func4, Try.ntmps4
    go_wp2_with fail
    refine (big_yes Ab nb cb _ hcap hmax hbig).mono ?_
    rintro e w' ⟨rfl, rfl⟩
    go_wp2
    go_ret
    exact ⟨rfl, Below.refl _ _⟩
set_option maxRecDepth 100000 in
set_option maxHeartbeats 1000000 in
theorem lifted (os : Os) (started : os.Started) (H : Type) (enc : TypeId × Value → H) :
    ReturnsInHanded {} Try.checked os 4 .any (Rows.fnTablesSpec.pre6 enc Try.prog Try.f4 Rows.fnTablesRow.domain false) (Rows.fnTablesSpec.post enc Try.prog Try.f4 false true false false) := by
  refine returnsInHanded_of_change (C := Try.checked) ownK started (by kernel_rfl) Try.func4
    (ChangeSpec.witness6 (enc := enc) (C := Try.checked) false ⟨#[], #[.slice none 0 0], []⟩ 8 (by kernel_rfl) (by kernel_rfl) (by kernel_rfl) (by kernel_rfl)) ?_
  intro W base args ds gs before hval0 hW hcnd _
  have hval : ∀ (j : Nat) t v, Try.f4.params[j]? = some t → args[j]? = some v → Value.okWide Try.prog W .any base t v := hval0
  have hW' := hW
  obtain ⟨p, q, hA0, hV, rfl, hfz, hnd⟩ := hW
  have hA : DataW.TrodAll enc Try.prog W 0 (fun _ => true) true Try.f4.params.toList args.toList ds p := hA0
  have hV' := hV
  obtain ⟨rfl, rfl⟩ := trodVars_none hV'
  rw [Try.params4] at hA hval
  obtain ⟨v0, vs0, d0, ds0, p0, q0, hargs, rfl, rfl, h0, r0⟩ := trodAll_cons hA
  obtain ⟨rfl, rfl, rfl⟩ := trodAll_nil r0
  obtain rfl : args = #[v0] := by cases args; simp_all
  have hz0 : W.noneFrozen p0 := fun b off hin => hfz b off (by simp [hin])
  obtain ⟨Ab, nb, cb, b, rfl, hb⟩ : ∃ A n c, ∃ xs : List Int, v0 = .slice A n c ∧ (SlK 1 encByte W 0 W.heap.size A n c xs ∧ ∀ z ∈ xs, 0 ≤ z ∧ z ≤ 255) := by
    obtain ⟨a0, len0, cap0, rfl⟩ := okWide_slice Try.underlying27 (hval 0 27 v0 rfl rfl)
    obtain ⟨fu, hf⟩ := h0
    exact open_bytes Try.underlying27 (by kernel_rfl) Try.underlying5 (by simpa [Value.cells] using hf) hz0
  refine (walk Ab nb cb b W hb).mono fun e W' ⟨he, hb⟩ => ?_
  subst he
  exact ⟨_, rfl, law_post laidO (by intro t ht; rw [Try.params4] at ht; simp only [List.mem_cons, List.not_mem_nil, or_false] at ht; subst ht; exact ⟨by kernel_rfl, of_decide_eq_true (by kernel_rfl)⟩) rfl (by kernel_rfl) Try.underlying4 hW' rfl hb⟩

theorem over : Rows.fnTablesRow.holds Try.pinned (OpenSpec.ofChange Rows.fnTablesSpec) :=
  OpenClaim.holds_of_wide 4 Try.f4 rfl rfl rfl rfl rfl rfl rfl ⟨rfl, rfl, rfl, rfl, rfl⟩ rfl rfl rfl rfl rfl (by kernel_rfl) Try.func4 (by kernel_rfl)
    (of_decide_eq_true (by kernel_rfl)) (by unfold Func.isWrapper; first | (rw [if_pos (by decide +kernel)]; kernel_rfl) | (rw [if_neg (by decide +kernel)]; exact ⟨rfl, rfl⟩))
    (fun os started H enc _ => lifted os started H enc)

theorem proved : Rows.FnTablesSaid :=
  over
#print axioms proved
end Go.Proofs.Ytojmkkcjjlppiaa.fnTables
