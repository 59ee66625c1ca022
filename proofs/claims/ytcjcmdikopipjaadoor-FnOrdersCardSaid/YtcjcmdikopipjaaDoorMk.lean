/- The laws' marks: what is written over, and that nothing else is. -/
import Derived.Test.YtcjcmdikopipjaaDoorRow1
import Derived.Test.YtcjcmdikopipjaaDoorApp
import Derived.Test.YtcjcmdikopipjaaDoorS2
namespace Go.Proofs.YtcjcmdikopipjaaDoor
open Go.ChangeShapes Go.WideShapes Go.ChangeAt Go.RowKit Go.Deep
set_option linter.unusedVariables false
set_option linter.unusedSimpArgs false

/-- From w to w' only blocks from lo to hi - 1 are written; every cell that was there is there. -/
structure MkB (lo hi : Nat) (w w' : World) : Prop where
  os : w'.os = w.os
  tape : w'.tape = w.tape
  output : w'.output = w.output
  size : w'.heap.size = w.heap.size
  block : ∀ b, b < lo ∨ hi ≤ b → w'.heap[b]? = w.heap[b]?
  there : ∀ p : Addr, (w.cell? p).isSome = true → (w'.cell? p).isSome = true
  frozen : ∀ p : Addr, w'.frozen? p = w.frozen? p
theorem MkB.refl (lo hi : Nat) (w : World) : MkB lo hi w w := ⟨rfl, rfl, rfl, rfl, fun _ _ => rfl, fun _ h => h, fun _ => rfl⟩
theorem MkB.trans {lo hi : Nat} {a b c : World} (h1 : MkB lo hi a b) (h2 : MkB lo hi b c) : MkB lo hi a c :=
  ⟨h2.os.trans h1.os, h2.tape.trans h1.tape, h2.output.trans h1.output, h2.size.trans h1.size, fun b hb => (h2.block b hb).trans (h1.block b hb), fun p hp => h2.there p (h1.there p hp), fun p => (h2.frozen p).trans (h1.frozen p)⟩
theorem MkB.set {lo hi : Nat} {a w : World} (h : MkB lo hi a w) {b o : Nat} (hb : lo ≤ b ∧ b < hi) (v : Value) : MkB lo hi a (w.setCell ⟨b, o, none⟩ v) :=
  h.trans ⟨rfl, rfl, rfl, by simp, fun i hi' => Below.heap_setCell w ⟨b, o, none⟩ v i (by show i ≠ b; omega), fun p hp => by
    obtain ⟨x, hx⟩ := Option.isSome_iff_exists.1 hp
    obtain ⟨y, hy⟩ := cell?_setCell_some (p := ⟨b, o, none⟩) (x := v) hx
    rw [hy]
    rfl, fun p => World.frozen?_setCell _ _ _ _⟩
theorem MkB.below {B lo hi : Nat} {a w w' : World} (h : Below B a w) (hm : MkB lo hi w w') (hB : B ≤ lo) : Below B a w' :=
  ⟨hm.os.trans h.os, hm.tape.trans h.tape, hm.output.trans h.output, by rw [hm.size]; exact h.size, fun i hi => (hm.block i (by omega)).trans (h.block i hi)⟩
theorem MkB.blk {lo hi : Nat} {w w' : World} {g : Nat} {t : TypeId} {cs : Array Value} (hm : MkB lo hi w w') (h : Blk w g t cs) (hg : g < lo ∨ hi ≤ g) : Blk w' g t cs := (hm.block g hg).trans h
theorem MkB.slk {α : Type} {k : Nat} {enc : α → List Value} {lo hi l h' : Nat} {w w' : World} {A : Option Addr} {n c : Nat} {xs : List α} (hm : MkB lo hi w w') (h : SlK k enc w l h' A n c xs) (hd : h' ≤ lo ∨ hi ≤ l) : SlK k enc w' l h' A n c xs :=
  h.keep fun b o h1 h2 => ⟨World.cell?_of_block (a := ⟨b, o, none⟩) (hm.block b (by omega)), hm.frozen _⟩
theorem MkB.own {α : Type} {k : Nat} {enc : α → List Value} {lo hi base : Nat} {e : TypeId} {w w' : World} {v : Value} {xs : List α} (hm : MkB lo hi w w') (h : Own k enc e w base v xs) (hd : hi ≤ base) : Own k enc e w' base v xs := by
  obtain ⟨h1, h2⟩ := h
  refine ⟨h1, ?_⟩
  rcases h2 with h2 | ⟨g, cap, cur, hv, hg, hh, rest⟩
  · exact .inl h2
  · exact .inr ⟨g, cap, cur, hv, hg, (hm.block g (by omega)).trans hh, rest⟩
theorem MkB.rq {lo hi l h' : Nat} {w w' : World} {r : Rq} {A1 A2 A3 : Option Addr} {n1 n2 n3 c1 c2 c3 : Nat} (hm : MkB lo hi w w') (h : RqAt w l h' r A1 n1 c1 A2 n2 c2 A3 n3 c3) (hd : h' ≤ lo ∨ hi ≤ l) : RqAt w' l h' r A1 n1 c1 A2 n2 c2 A3 n3 c3 := ⟨hm.slk h.pr hd, hm.slk h.ty hd, hm.slk h.it hd⟩
/-- A slice of rows of k cells each, all there and none frozen. -/
def WrK (k : Nat) (w : World) (lo hi : Nat) (A : Option Addr) (n : Nat) : Prop := 0 < n → ∃ b off, A = some ⟨b, off, none⟩ ∧ lo ≤ b ∧ b < hi ∧ ∀ i, i < n → ∀ j, j < k → (w.cell? ⟨b, off + i * k + j, none⟩).isSome = true ∧ w.frozen? ⟨b, off + i * k + j, none⟩ = false
theorem SlK.wr {α : Type} {k : Nat} {enc : α → List Value} {w : World} {lo hi : Nat} {A : Option Addr} {n c : Nat} {xs : List α} (h : SlK k enc w lo hi A n c xs) (hk : ∀ x, (enc x).length = k) : WrK k w lo hi A n := fun hn => by
  obtain ⟨h1, h2, h3, h4⟩ := h
  obtain ⟨b, off, hA, hl, hb, hc⟩ := h4 hn
  refine ⟨b, off, hA, hl, hb, fun i hi j hj => ?_⟩
  have hx : xs[i]? = some xs[i] := List.getElem?_eq_getElem (by omega)
  obtain ⟨e1, e2⟩ := hc i xs[i] hx j _ (List.getElem?_eq_getElem (by rw [hk]; exact hj))
  rw [e1]
  exact ⟨rfl, e2⟩
theorem WrK.mk {k lo hi l h' : Nat} {w w' : World} {A : Option Addr} {n : Nat} (h : WrK k w l h' A n) (hm : MkB lo hi w w') : WrK k w' l h' A n := fun hn => by
  obtain ⟨b, off, hA, hl, hb, hc⟩ := h hn
  exact ⟨b, off, hA, hl, hb, fun i hi j hj => ⟨hm.there _ (hc i hi j hj).1, by rw [hm.frozen]; exact (hc i hi j hj).2⟩⟩
/-- k0, k0 + 1, .. -/
def marks (k0 : Int) : Nat → List Int
  | 0 => []
  | n + 1 => marks k0 n ++ [k0 + n]
theorem marks_len (k0 : Int) : ∀ n, (marks k0 n).length = n
  | 0 => rfl
  | n + 1 => by simp [marks, marks_len k0 n]
theorem marks_at (k0 : Int) : ∀ n i, i < n → (marks k0 n)[i]? = some (k0 + i)
  | 0, i, h => absurd h (by omega)
  | n + 1, i, h => by
    unfold marks
    by_cases hi : i < n
    · rw [List.getElem?_append_left (by rw [marks_len]; exact hi)]
      exact marks_at k0 n i hi
    · obtain rfl : i = n := by omega
      rw [List.getElem?_append_right (by rw [marks_len]; exact Nat.le_refl _), marks_len]
      simp
theorem marks_set (k0 : Int) (xs : List Int) (j : Nat) (hj : j < xs.length) : setL ((marks k0 j ++ xs.drop j).map (Value.int .i64)) j [Value.int .i64 (k0 + j)] = (marks k0 (j + 1) ++ xs.drop (j + 1)).map (Value.int .i64) := by
  have hl : (marks k0 j).length = j := marks_len k0 j
  rw [setL_eq _ _ _ (by simp [hl]; omega)]
  have e1 : ((marks k0 j ++ xs.drop j).map (Value.int .i64)).take j = (marks k0 j).map (Value.int .i64) := by
    rw [List.map_append, List.take_left' (by simp [hl])]
  have e2 : ((marks k0 j ++ xs.drop j).map (Value.int .i64)).drop (j + [Value.int .i64 (k0 + j)].length) = (xs.drop (j + 1)).map (Value.int .i64) := by
    rw [List.map_append, List.drop_append, List.drop_of_length_le (by simp [hl])]
    simp [hl]
  rw [e1, e2, marks]
  simp
theorem own_of_ints' {w : World} {base : Nat} {e : TypeId} {v : Value} {n : Nat} {zs : List Int} (hl : zs.length = n) (h : w.ownsRow base e 1 v n (zs.map (Value.int .i64))) : Own 1 encInt e w base v zs := by
  subst hl
  exact own_of_ints h
set_option maxRecDepth 20000 in
set_option maxHeartbeats 2000000 in
theorem markPairS_wr (k0 : Int) (lo hi : Nat) (A : Option Addr) (n c : Nat) (w : World) (h : WrK 2 w lo hi A n) (hc : n ≤ c) (hm : c ≤ 9223372036854775807) (hn : n ≤ 1048576) (hk : 0 ≤ k0) (hk2 : k0 ≤ 10485760) :
    Calls Tryd.prog 67 #[.slice A n c, .int .i64 k0] w fun e w' => e = .returned (.int .i64 (k0 + 2 * n)) ∧ MkB lo hi w w' := by
  have H := hide h
  clear h
  go_enter Tryd.func67, Tryd.ntmps67
  go_wp2
  go_loopw [1, 5] (fun k i wr => ∃ j : Nat, j ≤ n ∧ i = .int .i64 j ∧ k = .int .i64 (k0 + 2 * j) ∧ MkB lo hi w wr) (fun _ i _ => n - (intOf i).toNat)
  case atStart => exact ⟨0, Nat.zero_le _, rfl, by simp, MkB.refl _ _ _⟩
  case round =>
    obtain ⟨j, hj, rfl, rfl, hmk⟩ := hrel
    have HM := hide hmk
    clear hmk
    by_cases hlt : j < n
    · obtain ⟨b, off, rfl, hl, hb, hcell⟩ := (H.out.mk HM.out) (by omega)
      have hcc := hcell j hlt
      obtain ⟨c0', f0⟩ := hcc 0 (by omega)
      obtain ⟨u0, g0⟩ := Option.isSome_iff_exists.1 c0'
      clear c0'
      obtain ⟨c1', f1⟩ := hcc 1 (by omega)
      obtain ⟨u1, g1⟩ := Option.isSome_iff_exists.1 c1'
      clear c1'
      simp only [Nat.add_zero] at g0 f0
      clear hcell hcc
      have i0 : (0 : Int) ≤ (j : Int) := by omega
      have i1 : (j : Int) < (n : Int) := by omega
      have s1 : -9223372036854775808 ≤ k0 + 2 * (j : Int) + 1 := by omega
      have t1 : k0 + 2 * (j : Int) + 1 ≤ 9223372036854775807 := by omega
      have s2 : -9223372036854775808 ≤ k0 + 2 * (j : Int) + 2 := by omega
      have t2 : k0 + 2 * (j : Int) + 2 ≤ 9223372036854775807 := by omega
      have HL := hide (show lo ≤ b ∧ b < hi from ⟨hl, hb⟩)
      obtain ⟨K, hK⟩ : ∃ K, k0 + 2 * (j : Int) = K := ⟨_, rfl⟩
      have HK := hide hK
      rw [hK] at s1 t1 s2 t2 ⊢
      clear hK
      go_wp2
      go_roundw
      case rel =>
        refine ⟨j + 1, by omega, by go_num, ?_, ?_⟩
        · have := HK.out
          congr 1
          omega
        · repeat (first | with_reducible exact HM.out | with_reducible refine MkB.set ?_ HL.out _)
      case measure => simp [intOf]; omega
    · obtain rfl : j = n := by omega
      clear hlt
      go_wp2
      go_ret
      exact ⟨rfl, HM.out⟩
set_option maxRecDepth 20000 in
set_option maxHeartbeats 2000000 in
theorem markTypeS_wr (k0 : Int) (lo hi : Nat) (A : Option Addr) (n c : Nat) (w : World) (h : WrK 7 w lo hi A n) (hc : n ≤ c) (hm : c ≤ 9223372036854775807) (hn : n ≤ 1048576) (hk : 0 ≤ k0) (hk2 : k0 ≤ 10485760) :
    Calls Tryd.prog 68 #[.slice A n c, .int .i64 k0] w fun e w' => e = .returned (.int .i64 (k0 + 7 * n)) ∧ MkB lo hi w w' := by
  have H := hide h
  clear h
  go_enter Tryd.func68, Tryd.ntmps68
  go_wp2
  go_loopw [1, 5] (fun k i wr => ∃ j : Nat, j ≤ n ∧ i = .int .i64 j ∧ k = .int .i64 (k0 + 7 * j) ∧ MkB lo hi w wr) (fun _ i _ => n - (intOf i).toNat)
  case atStart => exact ⟨0, Nat.zero_le _, rfl, by simp, MkB.refl _ _ _⟩
  case round =>
    obtain ⟨j, hj, rfl, rfl, hmk⟩ := hrel
    have HM := hide hmk
    clear hmk
    by_cases hlt : j < n
    · obtain ⟨b, off, rfl, hl, hb, hcell⟩ := (H.out.mk HM.out) (by omega)
      have hcc := hcell j hlt
      obtain ⟨c0', f0⟩ := hcc 0 (by omega)
      obtain ⟨u0, g0⟩ := Option.isSome_iff_exists.1 c0'
      clear c0'
      obtain ⟨c1', f1⟩ := hcc 1 (by omega)
      obtain ⟨u1, g1⟩ := Option.isSome_iff_exists.1 c1'
      clear c1'
      obtain ⟨c2', f2⟩ := hcc 2 (by omega)
      obtain ⟨u2, g2⟩ := Option.isSome_iff_exists.1 c2'
      clear c2'
      obtain ⟨c3', f3⟩ := hcc 3 (by omega)
      obtain ⟨u3, g3⟩ := Option.isSome_iff_exists.1 c3'
      clear c3'
      obtain ⟨c4', f4⟩ := hcc 4 (by omega)
      obtain ⟨u4, g4⟩ := Option.isSome_iff_exists.1 c4'
      clear c4'
      obtain ⟨c5', f5⟩ := hcc 5 (by omega)
      obtain ⟨u5, g5⟩ := Option.isSome_iff_exists.1 c5'
      clear c5'
      obtain ⟨c6', f6⟩ := hcc 6 (by omega)
      obtain ⟨u6, g6⟩ := Option.isSome_iff_exists.1 c6'
      clear c6'
      simp only [Nat.add_zero] at g0 f0
      clear hcell hcc
      have i0 : (0 : Int) ≤ (j : Int) := by omega
      have i1 : (j : Int) < (n : Int) := by omega
      have s1 : -9223372036854775808 ≤ k0 + 7 * (j : Int) + 1 := by omega
      have t1 : k0 + 7 * (j : Int) + 1 ≤ 9223372036854775807 := by omega
      have s2 : -9223372036854775808 ≤ k0 + 7 * (j : Int) + 2 := by omega
      have t2 : k0 + 7 * (j : Int) + 2 ≤ 9223372036854775807 := by omega
      have s3 : -9223372036854775808 ≤ k0 + 7 * (j : Int) + 3 := by omega
      have t3 : k0 + 7 * (j : Int) + 3 ≤ 9223372036854775807 := by omega
      have s4 : -9223372036854775808 ≤ k0 + 7 * (j : Int) + 4 := by omega
      have t4 : k0 + 7 * (j : Int) + 4 ≤ 9223372036854775807 := by omega
      have s5 : -9223372036854775808 ≤ k0 + 7 * (j : Int) + 5 := by omega
      have t5 : k0 + 7 * (j : Int) + 5 ≤ 9223372036854775807 := by omega
      have s6 : -9223372036854775808 ≤ k0 + 7 * (j : Int) + 6 := by omega
      have t6 : k0 + 7 * (j : Int) + 6 ≤ 9223372036854775807 := by omega
      have s7 : -9223372036854775808 ≤ k0 + 7 * (j : Int) + 7 := by omega
      have t7 : k0 + 7 * (j : Int) + 7 ≤ 9223372036854775807 := by omega
      have HL := hide (show lo ≤ b ∧ b < hi from ⟨hl, hb⟩)
      obtain ⟨K, hK⟩ : ∃ K, k0 + 7 * (j : Int) = K := ⟨_, rfl⟩
      have HK := hide hK
      rw [hK] at s1 t1 s2 t2 s3 t3 s4 t4 s5 t5 s6 t6 s7 t7 ⊢
      clear hK
      go_wp2
      go_roundw
      case rel =>
        refine ⟨j + 1, by omega, by go_num, ?_, ?_⟩
        · have := HK.out
          congr 1
          omega
        · repeat (first | with_reducible exact HM.out | with_reducible refine MkB.set ?_ HL.out _)
      case measure => simp [intOf]; omega
    · obtain rfl : j = n := by omega
      clear hlt
      go_wp2
      go_ret
      exact ⟨rfl, HM.out⟩
set_option maxRecDepth 20000 in
set_option maxHeartbeats 2000000 in
theorem markItemS_wr (k0 : Int) (lo hi : Nat) (A : Option Addr) (n c : Nat) (w : World) (h : WrK 7 w lo hi A n) (hc : n ≤ c) (hm : c ≤ 9223372036854775807) (hn : n ≤ 1048576) (hk : 0 ≤ k0) (hk2 : k0 ≤ 10485760) :
    Calls Tryd.prog 69 #[.slice A n c, .int .i64 k0] w fun e w' => e = .returned (.int .i64 (k0 + 7 * n)) ∧ MkB lo hi w w' := by
  have H := hide h
  clear h
  go_enter Tryd.func69, Tryd.ntmps69
  go_wp2
  go_loopw [1, 5] (fun k i wr => ∃ j : Nat, j ≤ n ∧ i = .int .i64 j ∧ k = .int .i64 (k0 + 7 * j) ∧ MkB lo hi w wr) (fun _ i _ => n - (intOf i).toNat)
  case atStart => exact ⟨0, Nat.zero_le _, rfl, by simp, MkB.refl _ _ _⟩
  case round =>
    obtain ⟨j, hj, rfl, rfl, hmk⟩ := hrel
    have HM := hide hmk
    clear hmk
    by_cases hlt : j < n
    · obtain ⟨b, off, rfl, hl, hb, hcell⟩ := (H.out.mk HM.out) (by omega)
      have hcc := hcell j hlt
      obtain ⟨c0', f0⟩ := hcc 0 (by omega)
      obtain ⟨u0, g0⟩ := Option.isSome_iff_exists.1 c0'
      clear c0'
      obtain ⟨c1', f1⟩ := hcc 1 (by omega)
      obtain ⟨u1, g1⟩ := Option.isSome_iff_exists.1 c1'
      clear c1'
      obtain ⟨c2', f2⟩ := hcc 2 (by omega)
      obtain ⟨u2, g2⟩ := Option.isSome_iff_exists.1 c2'
      clear c2'
      obtain ⟨c3', f3⟩ := hcc 3 (by omega)
      obtain ⟨u3, g3⟩ := Option.isSome_iff_exists.1 c3'
      clear c3'
      obtain ⟨c4', f4⟩ := hcc 4 (by omega)
      obtain ⟨u4, g4⟩ := Option.isSome_iff_exists.1 c4'
      clear c4'
      obtain ⟨c5', f5⟩ := hcc 5 (by omega)
      obtain ⟨u5, g5⟩ := Option.isSome_iff_exists.1 c5'
      clear c5'
      obtain ⟨c6', f6⟩ := hcc 6 (by omega)
      obtain ⟨u6, g6⟩ := Option.isSome_iff_exists.1 c6'
      clear c6'
      simp only [Nat.add_zero] at g0 f0
      clear hcell hcc
      have i0 : (0 : Int) ≤ (j : Int) := by omega
      have i1 : (j : Int) < (n : Int) := by omega
      have s1 : -9223372036854775808 ≤ k0 + 7 * (j : Int) + 1 := by omega
      have t1 : k0 + 7 * (j : Int) + 1 ≤ 9223372036854775807 := by omega
      have s2 : -9223372036854775808 ≤ k0 + 7 * (j : Int) + 2 := by omega
      have t2 : k0 + 7 * (j : Int) + 2 ≤ 9223372036854775807 := by omega
      have s3 : -9223372036854775808 ≤ k0 + 7 * (j : Int) + 3 := by omega
      have t3 : k0 + 7 * (j : Int) + 3 ≤ 9223372036854775807 := by omega
      have s4 : -9223372036854775808 ≤ k0 + 7 * (j : Int) + 4 := by omega
      have t4 : k0 + 7 * (j : Int) + 4 ≤ 9223372036854775807 := by omega
      have s5 : -9223372036854775808 ≤ k0 + 7 * (j : Int) + 5 := by omega
      have t5 : k0 + 7 * (j : Int) + 5 ≤ 9223372036854775807 := by omega
      have s6 : -9223372036854775808 ≤ k0 + 7 * (j : Int) + 6 := by omega
      have t6 : k0 + 7 * (j : Int) + 6 ≤ 9223372036854775807 := by omega
      have s7 : -9223372036854775808 ≤ k0 + 7 * (j : Int) + 7 := by omega
      have t7 : k0 + 7 * (j : Int) + 7 ≤ 9223372036854775807 := by omega
      have HL := hide (show lo ≤ b ∧ b < hi from ⟨hl, hb⟩)
      obtain ⟨K, hK⟩ : ∃ K, k0 + 7 * (j : Int) = K := ⟨_, rfl⟩
      have HK := hide hK
      rw [hK] at s1 t1 s2 t2 s3 t3 s4 t4 s5 t5 s6 t6 s7 t7 ⊢
      clear hK
      go_wp2
      go_roundw
      case rel =>
        refine ⟨j + 1, by omega, by go_num, ?_, ?_⟩
        · have := HK.out
          congr 1
          omega
        · repeat (first | with_reducible exact HM.out | with_reducible refine MkB.set ?_ HL.out _)
      case measure => simp [intOf]; omega
    · obtain rfl : j = n := by omega
      clear hlt
      go_wp2
      go_ret
      exact ⟨rfl, HM.out⟩
set_option maxRecDepth 20000 in
set_option maxHeartbeats 1000000 in
theorem markRequest_any (r : Rq) (A1 A2 A3 : Option Addr) (n1 n2 n3 c1 c2 c3 : Nat) (lo hi : Nat) (w : World) (hr : RqAt w lo hi r A1 n1 c1 A2 n2 c2 A3 n3 c3) (hB : hi ≤ w.heap.size) (hn : n1 + n2 + n3 ≤ 1048576) :
    Calls Tryd.prog 31 #[.agg #[.int .i64 r.way, .int .i64 r.pal.w, .int .i64 r.pal.d, .int .i64 r.pal.h, .int .i64 r.pal.gram, .int .i64 r.cls, .slice A1 n1 c1, .slice A2 n2 c2, .int .i64 r.master, .slice A3 n3 c3], .int .i64 1] w fun e w' => e = .returned (.int .i64 (1 + 2 * n1 + 7 * n2 + 7 * n3)) ∧ MkB lo hi (w.alloc (.cells #[.int .i64 r.way, .int .i64 r.pal.w, .int .i64 r.pal.d, .int .i64 r.pal.h, .int .i64 r.pal.gram, .int .i64 r.cls, .slice A1 n1 c1, .slice A2 n2 c2, .int .i64 r.master, .slice A3 n3 c3] 41)) w' := by
  have q1 := hr.pr.cap
  have q2 := hr.pr.max
  have q3 := hr.ty.cap
  have q4 := hr.ty.max
  have q5 := hr.it.cap
  have q6 := hr.it.max
  have W1 := hide ((hr.pr.alloc hB (.cells #[.int .i64 r.way, .int .i64 r.pal.w, .int .i64 r.pal.d, .int .i64 r.pal.h, .int .i64 r.pal.gram, .int .i64 r.cls, .slice A1 n1 c1, .slice A2 n2 c2, .int .i64 r.master, .slice A3 n3 c3] 41)).wr encPr_len)
  have W2 := hide ((hr.ty.alloc hB (.cells #[.int .i64 r.way, .int .i64 r.pal.w, .int .i64 r.pal.d, .int .i64 r.pal.h, .int .i64 r.pal.gram, .int .i64 r.cls, .slice A1 n1 c1, .slice A2 n2 c2, .int .i64 r.master, .slice A3 n3 c3] 41)).wr encTy_len)
  have W3 := hide ((hr.it.alloc hB (.cells #[.int .i64 r.way, .int .i64 r.pal.w, .int .i64 r.pal.d, .int .i64 r.pal.h, .int .i64 r.pal.gram, .int .i64 r.cls, .slice A1 n1 c1, .slice A2 n2 c2, .int .i64 r.master, .slice A3 n3 c3] 41)).wr encIt_len)
  have P0 := hide (Blk.new w 41 #[.int .i64 r.way, .int .i64 r.pal.w, .int .i64 r.pal.d, .int .i64 r.pal.h, .int .i64 r.pal.gram, .int .i64 r.cls, .slice A1 n1 c1, .slice A2 n2 c2, .int .i64 r.master, .slice A3 n3 c3] (g := w.heap.size) rfl)
  obtain ⟨w0, hw0⟩ : ∃ w0, w.alloc (.cells #[.int .i64 r.way, .int .i64 r.pal.w, .int .i64 r.pal.d, .int .i64 r.pal.h, .int .i64 r.pal.gram, .int .i64 r.cls, .slice A1 n1 c1, .slice A2 n2 c2, .int .i64 r.master, .slice A3 n3 c3] 41) = w0 := ⟨_, rfl⟩
  have HW0 := hide hw0
  rw [hw0] at W1 W2 W3 P0
  clear hr hw0
  go_enter Tryd.func31, Tryd.ntmps31
  go_wp2_with fail
  rw [HW0.out]
  refine (markPairS_wr 1 lo hi A1 n1 c1 w0 W1.out q1 q2 (by omega) (by omega) (by omega)).mono ?_
  rintro e w1 ⟨rfl, hm1⟩
  have M1 := hide hm1
  have P1 := hide (hm1.blk P0.out (.inr hB))
  have k1 := P1.out.cell
  have y1 := P1.out.lt
  clear hm1
  go_wp2_with fail
  refine (markTypeS_wr (1 + 2 * n1) lo hi A2 n2 c2 w1 (W2.out.mk M1.out) q3 q4 (by omega) (by omega) (by omega)).mono ?_
  rintro e w2 ⟨rfl, hm2⟩
  have M2 := hide (M1.out.trans hm2)
  have P2 := hide (hm2.blk P1.out (.inr hB))
  clear k1 y1 hm2
  have k2 := P2.out.cell
  have y2 := P2.out.lt
  go_wp2_with fail
  refine (markItemS_wr (1 + 2 * n1 + 7 * n2) lo hi A3 n3 c3 w2 (W3.out.mk M2.out) q5 q6 (by omega) (by omega) (by omega)).mono ?_
  rintro e w3 ⟨rfl, hm3⟩
  go_wp2
  go_ret
  exact ⟨rfl, by rw [HW0.out]; exact M2.out.trans hm3⟩
end Go.Proofs.YtcjcmdikopipjaaDoor
