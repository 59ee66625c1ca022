/- thereOf: how many units are there. -/
import Derived.Test.YtehgdhekiogppaaGreatUn2
import Derived.Test.YtehgdhekiogppaaGreatSrt
namespace Go.Proofs.YtehgdhekiogppaaGreat
open Go.ChangeShapes Go.WideShapes Go.ChangeAt Go.RowKit Go.Deep
set_option linter.unusedVariables false
set_option linter.unusedSimpArgs false

theorem there_gives (m : Nat) (x : Int) (B : Nat) (W : World) (hm : m ≤ 12) (hc : W.cell? ⟨B, 0, none⟩ = some (.int .i64 m)) : FnGives Tryz.prog 91 #[.pointer (some ⟨B, 0, none⟩)] #[.int .i64 x] (.bool (!inB x 0 ((m : Int) - 1))) W := by
  show Calls Tryz.prog 91 #[.int .i64 x, .pointer (some ⟨B, 0, none⟩)] W _
  go_enter Tryz.func91, Tryz.ntmps91
  go_wp2_with (go_at_call 66; refine (in_any _ _ _ _).mono ?_; rintro e w' ⟨rfl, rfl⟩)
  all_goals (go_ret; exact ⟨by simp_all, 0, rfl⟩)
theorem there_at (m : Nat) (B : Nat) (w : World) (hm : m ≤ 12) (hB : B < w.heap.size) (hcell : w.cell? ⟨B, 0, none⟩ = some (.int .i64 m)) :
    PredAt Tryz.prog 91 #[.pointer (some ⟨B, 0, none⟩)] (Value.int .i64) (fun x => !inB x 0 ((m : Int) - 1)) w :=
  fun W x hb => there_gives m x B W hm ((hb.cell (p := ⟨B, 0, none⟩) hB).trans hcell)
theorem there_over (m : Nat) (B blk off size : Nat) (w : World) (hm : m ≤ 12) (hB : B < w.heap.size) (hne : B ≠ blk) (hcell : w.cell? ⟨B, 0, none⟩ = some (.int .i64 m)) :
    PredOver Tryz.prog 91 #[.pointer (some ⟨B, 0, none⟩)] (Value.int .i64) (fun x => !inB x 0 ((m : Int) - 1)) blk off size w :=
  fun n os dk x _ => there_gives m x B _ hm (by
    unfold sortWorld
    rw [Go.Sort.cell?_grow _ _ _ (by show B < (Go.Sort.putRow _ _ _ _ _).heap.size; rw [Go.Sort.size_putRow]; exact hB), Go.Sort.cell?_putRow_other _ _ blk off _ _ (Or.inl hne)]
    exact hcell)
theorem idx_none (g : Nat) (lb : Array Value) (w : World) : Calls Tryz.prog 123 #[.slice none 0 0, .func (.func g) #[] lb] w fun e w' => e = .returned (.int .i64 (-1)) ∧ w = w' := by
  go_enter Tryz.func123, Tryz.ntmps123
  go_wp2
  go_loopw [5, 8] (fun _ i wr => i = .int .i64 0 ∧ w = wr) (fun _ i _ => 0)
  case atStart => exact ⟨rfl, rfl⟩
  case round =>
    obtain ⟨rfl, rfl⟩ := hrel
    go_wp2
    go_ret
    exact ⟨rfl, rfl⟩
theorem del_none (g : Nat) (lb : Array Value) (w : World) : Calls Tryz.prog 90 #[.slice none 0 0, .func (.func g) #[] lb] w fun e w' => e = .returned (.slice none 0 0) ∧ w = w' := by
  go_enter Tryz.func90, Tryz.ntmps90
  go_wp2_with fail
  refine (idx_none g lb _).mono ?_
  rintro e w' ⟨rfl, rfl⟩
  go_wp2
  go_ret
  exact ⟨rfl, rfl⟩
set_option maxRecDepth 20000 in
set_option maxHeartbeats 2000000 in
theorem there_any (r : Rq) (A1 A2 A3 : Option Addr) (n1 n2 n3 c1 c2 c3 : Nat) (lo hi : Nat) (lo2 hi2 : Nat) (A : Option Addr) (n c : Nat) (us : List Int) (w : World) (hr : RqAt w lo hi r A1 n1 c1 A2 n2 c2 A3 n3 c3) (hB : hi ≤ w.heap.size) (hs : SlK 1 encInt w lo2 hi2 A n c us) (hB2 : hi2 ≤ w.heap.size) (hn : n ≤ 1048580) :
    Calls Tryz.prog 57 #[.agg #[.int .i64 r.way, .int .i64 r.pal.w, .int .i64 r.pal.d, .int .i64 r.pal.h, .int .i64 r.pal.gram, .int .i64 r.cls, .slice A1 n1 c1, .slice A2 n2 c2, .int .i64 r.master, .slice A3 n3 c3], .slice A n c] w fun e w' => ∃ A' c', e = .returned (.slice A' (us.filter (isUnit r)).length c') ∧ Below w.heap.size w w' := by
  have HR := hide hr
  have HS := hide hs
  have HLU := hide hs.len
  clear hr hs
  go_enter Tryz.func57, Tryz.ntmps57
  go_wp2_with fail
  refine (units_any r A1 A2 A3 n1 n2 n3 c1 c2 c3 lo hi _ (HR.out.below (B := w.heap.size) (by repeat (first | with_reducible exact Below.refl _ _ | with_reducible assumption | with_reducible refine Below.setCell ?_ (by (try simp) <;> omega) _ | with_reducible refine Below.alloc ?_ (by (try simp) <;> omega) _ | with_reducible refine Below.drew ?_ | with_reducible refine below_drewN ?_ _)) hB) (by (try simp) <;> omega)).mono ?_
  rintro e w1 ⟨v1, rfl, ho1, hb1⟩
  have L1 := hide (show Below w.heap.size w w1 from (by repeat (first | with_reducible exact Below.refl _ _ | with_reducible assumption | with_reducible refine Below.setCell ?_ (by (try simp) <;> omega) _ | with_reducible refine Below.alloc ?_ (by (try simp) <;> omega) _ | with_reducible refine Below.drew ?_ | with_reducible refine below_drewN ?_ _ | with_reducible exact hb1 | with_reducible refine Below.trans ?_ (Below.mono hb1 (by (try simp) <;> omega)))))
  have z1 : w.heap.size + 1 ≤ w1.heap.size := by simpa using hb1.size
  obtain ⟨m, hm⟩ : ∃ m, (unitsR r).length = m := ⟨_, rfl⟩
  obtain ⟨A1', c1', rfl, s1⟩ := Own.slk' encInt_len hm ho1
  have hcm := s1.cap
  have hcx := s1.max
  have hm12 : m ≤ 12 := by have := unitsR_len r; omega
  have HM := hide hm
  clear hb1 ho1 s1 hm
  have eg : ∀ args w, (callFunc 91 args).run Tryz.prog w = .ok (.enter 91 args) w := enters_of Tryz.func91 (by kernel_rfl) rfl
  have HDel := hide (fun blk off cap (d : Array Int) W => Tryz.slices_DeleteFunc (Value.int .i64) (fun _ => rfl) (fun x => !inB x 0 ((m : Int) - 1)) 91 #[.pointer (some ⟨w1.heap.size, 0, none⟩)] eg 0 Tryz.zeroValue3 blk off cap d W)
  have hfl : (us.filter fun x => !!inB x 0 ((m : Int) - 1)) = us.filter (isUnit r) := by
    congr 1
    funext x
    rw [Bool.not_not]
    unfold isUnit
    rw [HM.out]
  have HFL := hide hfl
  clear hfl eg
  go_wp2_with fail
  refine (clone_ints lo2 hi2 A n c us _ ((HS.out.below L1.out hB2).alloc (by omega) _) (by omega)).mono ?_
  rintro e w2 ⟨v2, rfl, ho2, hb2⟩
  have PN := hide (Blk.belowH (Blk.new w1 3 #[.int .i64 m] (g := w1.heap.size) rfl) hb2)
  have L2 := hide (show Below w.heap.size w w2 from (by repeat (first | with_reducible exact Below.refl _ _ | with_reducible assumption | with_reducible refine Below.setCell ?_ (by (try simp) <;> omega) _ | with_reducible refine Below.alloc ?_ (by (try simp) <;> omega) _ | with_reducible refine Below.drew ?_ | with_reducible refine below_drewN ?_ _ | with_reducible exact L1.out | with_reducible exact hb2 | with_reducible refine Below.trans ?_ (Below.mono L1.out (by (try simp) <;> omega)) | with_reducible refine Below.trans ?_ (Below.mono hb2 (by (try simp) <;> omega)))))
  have z2 : w1.heap.size + 1 ≤ w2.heap.size := by simpa using hb2.size
  have hbase := (ho2.base_le (base' := w1.heap.size + 1) (by simp))
  clear hb2
  rcases own_form hbase with ⟨rfl, rfl⟩ | ⟨g, cap, rfl, hg, hlt, hnc, hcmx⟩
  · go_wp2_with fail
    refine (del_none _ _ _).mono ?_
    rintro e w' ⟨rfl, rfl⟩
    go_wp2
    go_ret
    exact ⟨_, _, rfl, L2.out⟩
  · have HH := hide (own_holds (ints_of_own ho2))
    clear ho2 hbase
    have kN := PN.out.cell
    have hnm : us.length ≤ 9223372036854775807 := by rw [HLU.out]; omega
    have HCL := hide (HDel.out g 0 cap us.toArray w2 (there_at m w1.heap.size w2 hm12 (by omega) (by simpa using kN 0)) (there_over m w1.heap.size g 0 us.toArray.size w2 hm12 (by omega) (by omega) (by simpa using kN 0)) HH.out (by simpa using hnm) (by simpa using hnc))
    have HFIN := hide (show ∀ (q : Nat) (d : Array Int), Below w.heap.size w (Go.Sort.putRow (Value.int .i64) (Go.Sort.ahead w2 q) g 0 d) from fun q d => by
      have hg0 : w2.grownBy (Go.Sort.grow (Go.Sort.putRow (Value.int .i64) (Go.Sort.ahead w2 q) g 0 d) #[]) (some g) := put_grown
      rw [Go.Sort.grow_empty] at hg0
      exact L2.out.grown hg0 (by omega) (fun k hk => by injection hk with hk; omega))
    have HLN := hide (show (us.toArray.toList.filter fun x => !!inB x 0 ((m : Int) - 1)).length = (us.filter (isUnit r)).length by rw [← HFL.out])
    rw [HLN.out] at HCL
    go_wp2_with fail
    refine HCL.out.mono ?_
    rintro e w3 ⟨rfl, q, rfl⟩
    go_wp2
    go_ret
    exact ⟨_, _, rfl, HFIN.out _ _⟩
end Go.Proofs.YtehgdhekiogppaaGreat
