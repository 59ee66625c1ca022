/- The laws' marks: what is written over, and that nothing else is. -/
import Derived.Test.YtkpakpjbpmnbgaaRow1
import Derived.Test.YtkpakpjbpmnbgaaApp
import Derived.Test.YtkpakpjbpmnbgaaS2
namespace Go.Proofs.Ytkpakpjbpmnbgaa
open Go.ChangeShapes Go.WideShapes Go.ChangeAt Go.RowKit Go.Deep
set_option linter.unusedVariables false
set_option linter.unusedSimpArgs false

/-- From w to w' only blocks from lo to hi - 1 are written; every cell that was there is there. -/
structure MkB (lo hi : Nat) (w w' : World) : Prop where
  os : w'.os = w.os
  tape : w'.tape = w.tape
  output : w'.output = w.output
  size : w'.heap.size = w.heap.size
  block : ∀ b, b < lo ∨ hi ≤ b → w'.heap[b]? = w.heap[b]?
  there : ∀ p : Addr, (w.cell? p).isSome = true → (w'.cell? p).isSome = true
  frozen : ∀ p : Addr, w'.frozen? p = w.frozen? p
theorem MkB.refl (lo hi : Nat) (w : World) : MkB lo hi w w := ⟨rfl, rfl, rfl, rfl, fun _ _ => rfl, fun _ h => h, fun _ => rfl⟩
theorem MkB.trans {lo hi : Nat} {a b c : World} (h1 : MkB lo hi a b) (h2 : MkB lo hi b c) : MkB lo hi a c :=
  ⟨h2.os.trans h1.os, h2.tape.trans h1.tape, h2.output.trans h1.output, h2.size.trans h1.size, fun b hb => (h2.block b hb).trans (h1.block b hb), fun p hp => h2.there p (h1.there p hp), fun p => (h2.frozen p).trans (h1.frozen p)⟩
theorem MkB.set {lo hi : Nat} {a w : World} (h : MkB lo hi a w) {b o : Nat} (hb : lo ≤ b ∧ b < hi) (v : Value) : MkB lo hi a (w.setCell ⟨b, o, none⟩ v) :=
  h.trans ⟨rfl, rfl, rfl, by simp, fun i hi' => Below.heap_setCell w ⟨b, o, none⟩ v i (by show i ≠ b; omega), fun p hp => by
    obtain ⟨x, hx⟩ := Option.isSome_iff_exists.1 hp
    obtain ⟨y, hy⟩ := cell?_setCell_some (p := ⟨b, o, none⟩) (x := v) hx
    rw [hy]
    rfl, fun p => World.frozen?_setCell _ _ _ _⟩
theorem MkB.below {B lo hi : Nat} {a w w' : World} (h : Below B a w) (hm : MkB lo hi w w') (hB : B ≤ lo) : Below B a w' :=
  ⟨hm.os.trans h.os, hm.tape.trans h.tape, hm.output.trans h.output, by rw [hm.size]; exact h.size, fun i hi => (hm.block i (by omega)).trans (h.block i hi)⟩
theorem MkB.blk {lo hi : Nat} {w w' : World} {g : Nat} {t : TypeId} {cs : Array Value} (hm : MkB lo hi w w') (h : Blk w g t cs) (hg : g < lo ∨ hi ≤ g) : Blk w' g t cs := (hm.block g hg).trans h
theorem MkB.slk {α : Type} {k : Nat} {enc : α → List Value} {lo hi l h' : Nat} {w w' : World} {A : Option Addr} {n c : Nat} {xs : List α} (hm : MkB lo hi w w') (h : SlK k enc w l h' A n c xs) (hd : h' ≤ lo ∨ hi ≤ l) : SlK k enc w' l h' A n c xs :=
  h.keep fun b o h1 h2 => ⟨World.cell?_of_block (a := ⟨b, o, none⟩) (hm.block b (by omega)), hm.frozen _⟩
theorem MkB.own {α : Type} {k : Nat} {enc : α → List Value} {lo hi base : Nat} {e : TypeId} {w w' : World} {v : Value} {xs : List α} (hm : MkB lo hi w w') (h : Own k enc e w base v xs) (hd : hi ≤ base) : Own k enc e w' base v xs := by
  obtain ⟨h1, h2⟩ := h
  refine ⟨h1, ?_⟩
  rcases h2 with h2 | ⟨g, cap, cur, hv, hg, hh, rest⟩
  · exact .inl h2
  · exact .inr ⟨g, cap, cur, hv, hg, (hm.block g (by omega)).trans hh, rest⟩
theorem MkB.rq {lo hi l h' : Nat} {w w' : World} {r : Rq} {A1 A2 A3 : Option Addr} {n1 n2 n3 c1 c2 c3 : Nat} (hm : MkB lo hi w w') (h : RqAt w l h' r A1 n1 c1 A2 n2 c2 A3 n3 c3) (hd : h' ≤ lo ∨ hi ≤ l) : RqAt w' l h' r A1 n1 c1 A2 n2 c2 A3 n3 c3 := ⟨hm.slk h.pr hd, hm.slk h.ty hd, hm.slk h.it hd⟩
/-- A slice of rows of k cells each, all there and none frozen. -/
def WrK (k : Nat) (w : World) (lo hi : Nat) (A : Option Addr) (n : Nat) : Prop := 0 < n → ∃ b off, A = some ⟨b, off, none⟩ ∧ lo ≤ b ∧ b < hi ∧ ∀ i, i < n → ∀ j, j < k → (w.cell? ⟨b, off + i * k + j, none⟩).isSome = true ∧ w.frozen? ⟨b, off + i * k + j, none⟩ = false
theorem SlK.wr {α : Type} {k : Nat} {enc : α → List Value} {w : World} {lo hi : Nat} {A : Option Addr} {n c : Nat} {xs : List α} (h : SlK k enc w lo hi A n c xs) (hk : ∀ x, (enc x).length = k) : WrK k w lo hi A n := fun hn => by
  obtain ⟨h1, h2, h3, h4⟩ := h
  obtain ⟨b, off, hA, hl, hb, hc⟩ := h4 hn
  refine ⟨b, off, hA, hl, hb, fun i hi j hj => ?_⟩
  have hx : xs[i]? = some xs[i] := List.getElem?_eq_getElem (by omega)
  obtain ⟨e1, e2⟩ := hc i xs[i] hx j _ (List.getElem?_eq_getElem (by rw [hk]; exact hj))
  rw [e1]
  exact ⟨rfl, e2⟩
theorem WrK.mk {k lo hi l h' : Nat} {w w' : World} {A : Option Addr} {n : Nat} (h : WrK k w l h' A n) (hm : MkB lo hi w w') : WrK k w' l h' A n := fun hn => by
  obtain ⟨b, off, hA, hl, hb, hc⟩ := h hn
  exact ⟨b, off, hA, hl, hb, fun i hi j hj => ⟨hm.there _ (hc i hi j hj).1, by rw [hm.frozen]; exact (hc i hi j hj).2⟩⟩
/-- k0, k0 + 1, .. -/
def marks (k0 : Int) : Nat → List Int
  | 0 => []
  | n + 1 => marks k0 n ++ [k0 + n]
theorem marks_len (k0 : Int) : ∀ n, (marks k0 n).length = n
  | 0 => rfl
  | n + 1 => by simp [marks, marks_len k0 n]
theorem marks_at (k0 : Int) : ∀ n i, i < n → (marks k0 n)[i]? = some (k0 + i)
  | 0, i, h => absurd h (by omega)
  | n + 1, i, h => by
    unfold marks
    by_cases hi : i < n
    · rw [List.getElem?_append_left (by rw [marks_len]; exact hi)]
      exact marks_at k0 n i hi
    · obtain rfl : i = n := by omega
      rw [List.getElem?_append_right (by rw [marks_len]; exact Nat.le_refl _), marks_len]
      simp
theorem marks_set (k0 : Int) (xs : List Int) (j : Nat) (hj : j < xs.length) : setL ((marks k0 j ++ xs.drop j).map (Value.int .i64)) j [Value.int .i64 (k0 + j)] = (marks k0 (j + 1) ++ xs.drop (j + 1)).map (Value.int .i64) := by
  have hl : (marks k0 j).length = j := marks_len k0 j
  rw [setL_eq _ _ _ (by simp [hl]; omega)]
  have e1 : ((marks k0 j ++ xs.drop j).map (Value.int .i64)).take j = (marks k0 j).map (Value.int .i64) := by
    rw [List.map_append, List.take_left' (by simp [hl])]
  have e2 : ((marks k0 j ++ xs.drop j).map (Value.int .i64)).drop (j + [Value.int .i64 (k0 + j)].length) = (xs.drop (j + 1)).map (Value.int .i64) := by
    rw [List.map_append, List.drop_append, List.drop_of_length_le (by simp [hl])]
    simp [hl]
  rw [e1, e2, marks]
  simp
theorem own_of_ints' {w : World} {base : Nat} {e : TypeId} {v : Value} {n : Nat} {zs : List Int} (hl : zs.length = n) (h : w.ownsRow base e 1 v n (zs.map (Value.int .i64))) : Own 1 encInt e w base v zs := by
  subst hl
  exact own_of_ints h
set_option maxRecDepth 20000 in
set_option maxHeartbeats 1000000 in
theorem markIntS_own (k0 : Int) (base : Nat) (v : Value) (xs : List Int) (w : World) (h : Own 1 encInt 3 w base v xs) (hn : xs.length ≤ 1048576) (hk : 0 ≤ k0) (hk2 : k0 ≤ 1048576) :
    Calls Try.prog 9 #[v, .int .i64 k0] w fun e w' => e = .returned (.int .i64 (k0 + xs.length)) ∧ Own 1 encInt 3 w' base v (marks k0 xs.length) ∧ w.grownBy w' v.ownBlock := by
  rcases own_form h with ⟨rfl, rfl⟩ | ⟨g, cap, rfl, hg, hlt, hnc, hcm⟩
  · go_enter Try.func9, Try.ntmps9
    go_wp2
    go_loopw [1, 5] (fun k i wr => k = .int .i64 k0 ∧ i = .int .i64 0 ∧ w = wr) (fun _ _ _ => 0)
    case atStart => exact ⟨rfl, rfl, rfl⟩
    case round =>
      obtain ⟨rfl, rfl, rfl⟩ := hrel
      go_wp2
      go_ret
      exact ⟨by simp, h, World.grownBy.refl _ _⟩
  · obtain ⟨n, hnn⟩ : ∃ n, xs.length = n := ⟨_, rfl⟩
    have HN := hide hnn
    have HI := hide (ints_of_own h)
    rw [hnn] at hn hnc HI ⊢
    clear h hnn
    have hcm' : cap ≤ 9223372036854775807 := by unfold maxLen at hcm; omega
    go_enter Try.func9, Try.ntmps9
    go_wp2
    go_loopw [1, 5] (fun k i wr => ∃ j : Nat, j ≤ n ∧ i = .int .i64 j ∧ k = .int .i64 (k0 + j) ∧ wr.ownsRow base 3 1 (.slice (some ⟨g, 0, none⟩) n cap) n ((marks k0 j ++ xs.drop j).map (Value.int .i64)) ∧ w.grownBy wr (some g)) (fun _ i _ => n - (intOf i).toNat)
    case atStart => exact ⟨0, Nat.zero_le _, rfl, by simp, by simpa [marks] using HI.out, World.grownBy.refl _ _⟩
    case round =>
      obtain ⟨j, hj, rfl, rfl, ho, hgr⟩ := hrel
      have HO := hide ho
      have HG := hide hgr
      by_cases hlt2 : j < n
      · have hc := HO.out.cellAt j (by simp [marks_len, HN.out]; omega)
        have hc' : (wr.cell? ⟨g, j, none⟩).isSome = true := by
          rw [hc, List.getElem?_eq_getElem (by simp [marks_len, HN.out]; omega)]
          rfl
        obtain ⟨u, hu⟩ := Option.isSome_iff_exists.1 hc'
        have hf := HO.out.frozenAt j
        obtain ⟨h3, h4⟩ := storedL [Value.int .i64 (k0 + j)] j HO.out
        rw [marks_set k0 xs j (by rw [HN.out]; exact hlt2)] at h3
        have H3 := hide h3
        have H4 := hide (HG.out.trans h4)
        have i0 : (0 : Int) ≤ (j : Int) := by omega
        have i1 : (j : Int) < (n : Int) := by omega
        have hs1 : -9223372036854775808 ≤ k0 + (j : Int) + 1 := by omega
        have hs2 : k0 + (j : Int) + 1 ≤ 9223372036854775807 := by omega
        clear hc hc' h3 h4 ho hgr
        go_wp2
        go_roundw
        case rel => exact ⟨j + 1, by omega, by go_num, by rw [show ((j + 1 : Nat) : Int) = (j : Int) + 1 by omega, ← Int.add_assoc], H3.out, H4.out⟩
        case measure => simp [intOf]; omega
      · obtain rfl : j = n := by omega
        clear hlt2
        go_wp2
        go_ret
        refine ⟨rfl, own_of_ints' (by rw [marks_len]) ?_, HG.out⟩
        have := HO.out
        rwa [List.drop_of_length_le (by rw [HN.out]; exact Nat.le_refl _), List.append_nil] at this
set_option maxRecDepth 20000 in
set_option maxHeartbeats 1000000 in
theorem heldIntS_any (k0 : Int) (lo hi : Nat) (A : Option Addr) (n c : Nat) (w : World) (h : SlK 1 encInt w lo hi A n c (marks k0 n)) (hn : n ≤ 1048576) (hk : 0 ≤ k0) (hk2 : k0 ≤ 1048576) :
    Calls Try.prog 10 #[.slice A n c, .int .i64 k0] w fun e w' => e = .returned (.int .i64 (k0 + n)) ∧ w = w' := by
  have hc := h.cap
  have hm := h.max
  go_enter Try.func10, Try.ntmps10
  go_wp2
  go_loop [1, 5] (fun k i => ∃ j : Nat, j ≤ n ∧ i = .int .i64 j ∧ k = .int .i64 (k0 + j)) (fun _ i => n - (intOf i).toNat)
  case atStart => exact ⟨0, Nat.zero_le _, rfl, by simp⟩
  case round =>
    obtain ⟨j, hj, rfl, rfl⟩ := hrel
    by_cases hlt : j < n
    · obtain ⟨b, off, x, hx, rfl, _, hb, c0, _⟩ := h.int hlt
      have hxx : x = k0 + j := by
        rw [marks_at k0 n j hlt] at hx
        exact (Option.some.inj hx).symm
      subst hxx
      have i0 : (0 : Int) ≤ (j : Int) := by omega
      have i1 : (j : Int) < (n : Int) := by omega
      have hs1 : -9223372036854775808 ≤ k0 + (j : Int) + 1 := by omega
      have hs2 : k0 + (j : Int) + 1 ≤ 9223372036854775807 := by omega
      have HH := hide h
      clear hx h
      go_wp2
      go_round
      case rel => exact ⟨j + 1, by omega, by go_num, by rw [show ((j + 1 : Nat) : Int) = (j : Int) + 1 by omega, ← Int.add_assoc]⟩
      case measure => simp [intOf]; omega
    · obtain rfl : j = n := by omega
      clear hlt
      go_wp2
      go_ret
      exact ⟨rfl, rfl⟩
end Go.Proofs.Ytkpakpjbpmnbgaa
