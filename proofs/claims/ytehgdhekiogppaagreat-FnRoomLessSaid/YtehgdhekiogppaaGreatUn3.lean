/- itemsOf, VolumeOf, GramOf of the program. -/
import Derived.Test.YtehgdhekiogppaaGreatUn2
namespace Go.Proofs.YtehgdhekiogppaaGreat
open Go.ChangeShapes Go.WideShapes Go.ChangeAt Go.RowKit Go.Deep
set_option linter.unusedVariables false
set_option linter.unusedSimpArgs false

theorem own_none {α : Type} {k : Nat} {enc : α → List Value} (w : World) (T : TypeId) : Own k enc T (w.alloc (.cells #[] T)) w.heap.size (.slice (some ⟨w.heap.size, 0, none⟩) 0 0) ([] : List α) := by
  have := World.ownsRow_lit (base := w.heap.size) (size := k) (e := T) w #[] 0 (Nat.le_refl _) (by simp [maxLen]) (by simp)
  show World.ownsRow _ _ T k _ 0 []
  simpa using this
theorem itemInfo : (Tryz.prog.info? 63).map (fun i => (i.zero, i.size, i.bytes)) = some (some z7, 7, 56) := by kernel_rfl
theorem encIt_one (x : It) : ∀ u ∈ encIt x, u.oneCell' = true := ints_oneCell .i64 [x.id, x.w, x.h, x.d, x.gram, x.cls, x.cnt]
/-- One item more, out of a block of its own. -/
theorem appIt {w : World} {base : Nat} {v : Value} {xs : List It} (ho : Own 7 encIt 63 w base v xs) (hb : base ≤ w.heap.size) (hn : xs.length ≤ 4194304) (x : It) :
    AppOk Tryz.prog 7 encIt (w.alloc (.cells #[.int .i64 x.id, .int .i64 x.w, .int .i64 x.h, .int .i64 x.d, .int .i64 x.gram, .int .i64 x.cls, .int .i64 x.cnt] 63)) base 35 63 v xs (some ⟨w.heap.size, 0, none⟩) 1 1 [x] where
  hk := encIt_len
  h1 := encIt_one
  ht := Tryz.underlying35
  info := ⟨z7, 56, itemInfo, rfl, by omega⟩
  pos := by omega
  own := ho.alloc _
  src := ⟨_, _, slk_new encIt_len w [x] 1 _ _ rfl (by simp [maxLen]) rfl⟩
  h63 := by unfold maxLen; omega
  hb := by simp; omega
set_option maxRecDepth 20000 in
set_option maxHeartbeats 4000000 in
theorem itemsOf_any (r : Rq) (A1 A2 A3 : Option Addr) (n1 n2 n3 c1 c2 c3 : Nat) (lo hi : Nat) (lo2 hi2 : Nat) (A : Option Addr) (n c : Nat) (us : List Int) (w : World) (hr : RqAt w lo hi r A1 n1 c1 A2 n2 c2 A3 n3 c3) (hB : hi ≤ w.heap.size) (hs : SlK 1 encInt w lo2 hi2 A n c us) (hB2 : hi2 ≤ w.heap.size) (hn : n ≤ 1048580) :
    Calls Tryz.prog 59 #[.agg #[.int .i64 r.way, .int .i64 r.pal.w, .int .i64 r.pal.d, .int .i64 r.pal.h, .int .i64 r.pal.gram, .int .i64 r.cls, .slice A1 n1 c1, .slice A2 n2 c2, .int .i64 r.master, .slice A3 n3 c3], .slice A n c] w fun e w' => ∃ v, e = .returned v ∧ Own 7 encIt 63 w' w.heap.size v (itemsOfL r us) ∧ Below w.heap.size w w' := by
  have HR := hide hr
  have HS := hide hs
  have hm3 := hr.it.max
  have hc3 := hr.it.cap
  have HL := hide hr.it.len
  have hcu := hs.cap
  have hmu := hs.max
  have HLU := hide hs.len
  clear hr hs
  go_enter Tryz.func59, Tryz.ntmps59
  go_wp2_with fail
  refine (units_any r A1 A2 A3 n1 n2 n3 c1 c2 c3 lo hi _ (HR.out.below (B := w.heap.size) (by repeat (first | with_reducible exact Below.refl _ _ | with_reducible assumption | with_reducible refine Below.setCell ?_ (by (try simp) <;> omega) _ | with_reducible refine Below.alloc ?_ (by (try simp) <;> omega) _ | with_reducible refine Below.drew ?_ | with_reducible refine below_drewN ?_ _)) hB) (by (try simp) <;> omega)).mono ?_
  rintro e w1 ⟨v1, rfl, ho1, hb1⟩
  have L1 := hide (show Below w.heap.size w w1 from (by repeat (first | with_reducible exact Below.refl _ _ | with_reducible assumption | with_reducible refine Below.setCell ?_ (by (try simp) <;> omega) _ | with_reducible refine Below.alloc ?_ (by (try simp) <;> omega) _ | with_reducible refine Below.drew ?_ | with_reducible refine below_drewN ?_ _ | with_reducible exact hb1 | with_reducible refine Below.trans ?_ (Below.mono hb1 (by (try simp) <;> omega)))))
  have P1 := hide (Blk.belowH (Blk.new w 37 (#[.int .i64 r.way, .int .i64 r.pal.w, .int .i64 r.pal.d, .int .i64 r.pal.h, .int .i64 r.pal.gram, .int .i64 r.cls, .slice A1 n1 c1, .slice A2 n2 c2, .int .i64 r.master, .slice A3 n3 c3]) (g := w.heap.size) (by simp)) hb1)
  have z1 : w.heap.size + 1 ≤ w1.heap.size := by simpa using hb1.size
  obtain ⟨m, hm⟩ : ∃ m, (unitsR r).length = m := ⟨_, rfl⟩
  obtain ⟨A1', c1', rfl, s1⟩ := Own.slk' encInt_len hm ho1
  have S1 := hide s1
  have hm12 : m ≤ 12 := by have := unitsR_len r; omega
  have hcm := s1.cap
  have hcx := s1.max
  have HI := hide (fun u => show inB u 0 ((m : Int) - 1) = isUnit r u by unfold isUnit; rw [hm])
  have HM := hide hm
  clear hb1 ho1 s1 hm
  obtain ⟨RL, hRL⟩ : ∃ RL : Array Value, RL = #[.int .i64 r.way, .int .i64 r.pal.w, .int .i64 r.pal.d, .int .i64 r.pal.h, .int .i64 r.pal.gram, .int .i64 r.cls, .slice A1 n1 c1, .slice A2 n2 c2, .int .i64 r.master, .slice A3 n3 c3] := ⟨_, rfl⟩
  have HRL := hide hRL
  clear hRL
  go_wp2
  go_loopw [6, 14] (fun o i wr => ∃ k : Nat, k ≤ n ∧ i = .int .i64 k ∧ Blk wr w.heap.size 37 RL ∧ Own 7 encIt 63 wr w1.heap.size o (itemsOfL r (us.take k)) ∧ Below w1.heap.size w1 wr) (fun _ i _ => n - (intOf i).toNat)
  case atStart => exact ⟨0, Nat.zero_le _, rfl, (P1.out.alloc _).as HRL.out.symm, own_none w1 _, (by repeat (first | with_reducible exact Below.refl _ _ | with_reducible assumption | with_reducible refine Below.setCell ?_ (by (try simp) <;> omega) _ | with_reducible refine Below.alloc ?_ (by (try simp) <;> omega) _ | with_reducible refine Below.drew ?_ | with_reducible refine below_drewN ?_ _))⟩
  case round =>
    obtain ⟨k, hk, rfl, B0, ho, hbel⟩ := hrel
    have HO := hide ho
    have PR := hide B0
    have HBel := hide hbel
    have hz := hbel.size
    have kR := (B0.as HRL.out).cell
    have yR := B0.lt
    have HLO := hide (show (itemsOfL r (us.take k)).length ≤ 4194304 by have := itemsOf_len r (us.take k); rw [List.length_take] at this; omega)
    have HL0 := hide (show Below w.heap.size w wr from L1.out.trans (hbel.mono (by omega)))
    clear ho B0 hbel
    by_cases hlt : k < n
    · obtain ⟨bu, ou, u, hu, rfl, _, hbu, cu, _⟩ := (HS.out.below HL0.out hB2).int hlt
      have HX := hide hu
      have i0 : (0 : Int) ≤ (k : Int) := by omega
      have i1 : (k : Int) < (n : Int) := by omega
      cases hq : isUnit r u
      · have HN := hide (show itemsOfL r (us.take (k + 1)) = itemsOfL r (us.take k) by rw [itemsOf_snoc hu, unitIt_no hq]; simp)
        clear hu
        go_wp2_with fail
        refine (in_any _ _ _ _).mono ?_
        rw [HI.out u, hq]
        rintro e w' ⟨rfl, rfl⟩
        go_wp2
        go_roundw
        case rel => exact ⟨k + 1, by omega, by go_num, PR.out, by rw [HN.out]; exact HO.out, HBel.out⟩
        case measure => simp [intOf]; omega
      · obtain ⟨i, x, h1, h2, h3, h4, h5⟩ := unitIt_yes hq
        have HN := hide (show itemsOfL r (us.take (k + 1)) = itemsOfL r (us.take k) ++ [x] by rw [itemsOf_snoc hu, h5]; rfl)
        have hq' := hq
        unfold isUnit at hq'
        rw [inB_iff, HM.out] at hq'
        obtain ⟨u0, u1⟩ := hq'
        obtain ⟨b, off, y, hy, rfl, _, hb, e1, _⟩ := (S1.out.below HBel.out (Nat.le_refl _)).int (i := u.toNat) (by omega)
        obtain rfl : y = i := by rw [h1] at hy; exact (Option.some.inj hy).symm
        have i3 : y.toNat < n3 := by rw [← HL.out]; omega
        obtain ⟨b0, off0, x', hx', rfl, _, hb0, d0, d1, d2, d3, d4, d5, d6, _⟩ := (HR.out.it.below HL0.out hB).it i3
        obtain rfl : x' = x := by rw [h4] at hx'; exact (Option.some.inj hx').symm
        have y1 : y < (n3 : Int) := by omega
        have u2 : u < (m : Int) := by omega
        have z0 : b0 < wr.heap.size := by omega
        have zb : b < wr.heap.size := by omega
        have zu : bu < wr.heap.size := by omega
        have HOD := hide HO.out.drew
        have hzd : w1.heap.size ≤ wr.drew.heap.size := hz
        have HZD := hide hzd
        clear h1 hy hx' h4 h5 hu hzd
        go_wp2_with fail
        refine (in_any _ _ _ _).mono ?_
        rw [HI.out u, hq]
        rintro e w' ⟨rfl, rfl⟩
        go_wp2_with fail
        go_region_law (refine step_app rfl (.tmp 23) (.tmp 32) rfl (by simp [Act.eval, Act.put]) (by simp [Act.eval, Act.put]) (appIt HOD.out HZD.out HLO.out x') ?_; intro v' w2 ho2 hg2 hat2)
        all_goals go_wp2
        all_goals go_roundw
        all_goals first
          | exact ⟨k + 1, by omega, by go_num, (PR.out.drew.alloc _).grown hg2 (fun e => by have := (HO.out.lt _ e.symm).1; omega), by rw [HN.out]; exact ho2, below_app HBel.out.drew HOD.out HZD.out _ hg2⟩
          | (simp [intOf]; omega)
          | trace_state
    · obtain rfl : k = n := by omega
      clear hlt
      go_wp2
      go_ret
      exact ⟨_, rfl, by have := HO.out.base_le (base' := w.heap.size) (by omega); rwa [List.take_of_length_le (by rw [HLU.out]; exact Nat.le_refl _)] at this, HL0.out⟩
end Go.Proofs.YtehgdhekiogppaaGreat
